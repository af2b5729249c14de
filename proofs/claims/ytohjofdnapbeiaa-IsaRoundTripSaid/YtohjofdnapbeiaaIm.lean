/- Plain laws of chapter 03: encodings. -/
import Derived.Test.YtohjofdnapbeiaaIj
import Derived.KernelRfl
set_option linter.unusedSimpArgs false
set_option linter.unusedVariables false
namespace Go.HL
open Go

/-! ### bytes -/
theorem u8_of_byte (x : UInt8) : u8 (x.toNat : Nat) = x := by
  apply UInt8.toNat_inj.1
  have h := u8_toNat (x.toNat : Nat)
  have := x.toNat_lt
  omega
theorem u8_add (k : UInt8) (x : Int) : u8 ((k.toNat : Int) + x) = k + u8 x := by
  apply UInt8.toNat_inj.1
  have h1 := u8_toNat ((k.toNat : Int) + x)
  have h2 := u8_toNat x
  have h3 := k.toNat_lt
  rw [UInt8.toNat_add]
  omega
theorem u8_small {x : Int} (h : 0 ≤ x ∧ x < 256) : ((u8 x).toNat : Int) = x := by
  have := u8_toNat x; omega
theorem u32_small {x : Int} (h : 0 ≤ x ∧ x < 4294967296) : ((u32 x).toNat : Int) = x := by
  have := u32_toNat x; omega
theorem sub_add32 (a b c : UInt32) : a - (b + c) = a - b - c := by
  apply UInt32.toNat_inj.1
  have ha := a.toNat_lt; have hb := b.toNat_lt; have hc := c.toNat_lt
  simp only [UInt32.toNat_sub, UInt32.toNat_add]
  omega
theorem add_sub32 (a b : UInt32) : a + (b - a) = b := by
  apply UInt32.toNat_inj.1
  have ha := a.toNat_lt; have hb := b.toNat_lt
  simp only [UInt32.toNat_sub, UInt32.toNat_add]
  omega
theorem word_put (n : UInt32) : wordP n = putP [] n 4 := by
  have e1 : putP [] n 4 = [(shr32 n 0).toUInt8, (shr32 n 8).toUInt8, (shr32 n 16).toUInt8, (shr32 n 24).toUInt8] := rfl
  rw [e1]
  have hn := n.toNat_lt
  have key : ∀ (x y : UInt32), x.toNat % 256 = y.toNat % 256 → x.toUInt8 = y.toUInt8 := fun x y h => by
    apply UInt8.toNat_inj.1
    simpa [UInt32.toNat_toUInt8] using h
  unfold wordP
  have c1 : (256 : UInt32).toNat = 256 := rfl
  have c2 : (65536 : UInt32).toNat = 65536 := rfl
  have c3 : (16777216 : UInt32).toNat = 16777216 := rfl
  congr 1
  · exact key _ _ (by rw [shr32_toNat, UInt32.toNat_mod, c1] <;> omega)
  congr 1
  · exact key _ _ (by rw [shr32_toNat, UInt32.toNat_mod, UInt32.toNat_div, c1]; omega)
  congr 1
  · exact key _ _ (by rw [shr32_toNat, UInt32.toNat_mod, UInt32.toNat_div, c1, c2]; omega)
  congr 1
  exact key _ _ (by rw [shr32_toNat, UInt32.toNat_div, c3] <;> omega)
theorem opcode_errP {i : Ins} (h : errP i = 0) : ∃ c s, opcodeP i = (c, s, true) ∧ okOp i s := by
  rcases opcode_ok i with h1 | ⟨⟨c, s, h1⟩, _⟩
  · exact h1
  · rw [err_bad h1] at h; cases h
theorem errP_narrow {i : Ins} {c : UInt8} {s : Int} (h : errP i = 0) (h1 : opcodeP i = (c, s, true)) : keptP i s = i ∧ (0 ≤ i.a ∧ i.a < 8) ∧ (0 ≤ i.b ∧ i.b < 8) ∧ ((s = 4 ∨ s = 5) → narrowP i.imm = true) ∧ (s = 7 → narrowP (i.imm - i.addr - 2) = true) := by
  rw [err_of h1] at h
  split at h
  · cases h
  rename_i k1
  split at h
  · cases h
  rename_i k2
  simp only [Decidable.not_not] at k1
  refine ⟨k1.2.2, regP_iff.1 k1.1, regP_iff.1 k1.2.1, fun hs => ?_, fun hs => ?_⟩
  · cases hn : narrowP i.imm
    · exact absurd (.inl ⟨hs, hn⟩) k2
    · rfl
  · cases hn : narrowP (i.imm - i.addr - 2)
    · exact absurd (.inr ⟨hs, hn⟩) k2
    · rfl
theorem opEq {i : Ins} {c d : UInt8} {s r : Int} {b : Bool} (h : opcodeP i = (c, s, true)) (h2 : opcodeP i = (d, r, b)) : c = d := by rw [h] at h2; cases h2; rfl
theorem opEq2 {i : Ins} {c d : UInt8} {s r : Int} {b : Bool} (h : opcodeP i = (c, s, true)) (h2 : opcodeP i = (d, r, b)) : s = r := by rw [h] at h2; cases h2; rfl
theorem bytes_eq {i : Ins} {c : UInt8} {s : Int} (h1 : opcodeP i = (c, s, true)) (hs : okOp i s) (ha : 0 ≤ i.a ∧ i.a < 8) (hb : 0 ≤ i.b ∧ i.b < 8) : bytesP i = c :: argsP s i (i.addr + u32 (sizeP s)) := by
  have two : ∀ p : Prop, (5 ≤ i.op ∧ i.op ≤ 15) ∧ p → isTwoP i.op = true := fun p h => isTwoP_iff.2 h.1
  have e5 : ∀ (x : UInt32), x - i.addr - 5 = x - (i.addr + u32 (sizeP 8)) := fun x => (sub_add32 _ _ _).symm
  have e2 : i.imm - i.addr - 2 = i.imm - (i.addr + u32 (sizeP 7)) := (sub_add32 _ _ _).symm
  have e16 : u8 (16 * i.a + i.b) = u8 (i.a * 16 + i.b) := by rw [Int.mul_comm]
  cases hs
  case c0 h =>
    have o : opcodeP i = (u8 i.op, 0, true) := by unfold opcodeP; rw [if_pos h]
    rw [opEq h1 o]
    unfold bytesP plainP
    simp only [isTwoP_iff, isAccP_iff]
    repeat rw [if_neg (by omega)]
    rfl
  case c1 h =>
    have e8 : i.a % 8 = i.a := by omega
    rcases h with h | h
    · have o : opcodeP i = (8 + u8 (i.a % 8), 1, true) := by unfold opcodeP; rw [if_neg (by omega), if_pos h]
      rw [opEq h1 o, e8]
      unfold bytesP plainP
      simp only [isTwoP_iff, isAccP_iff]
      repeat (first | rw [if_pos (by omega)] | rw [if_neg (by omega)])
      rfl
    · have o : opcodeP i = (16 + u8 (i.a % 8), 1, true) := by unfold opcodeP; rw [if_neg (by omega), if_neg (by omega), if_pos h]
      rw [opEq h1 o, e8]
      unfold bytesP plainP
      simp only [isTwoP_iff, isAccP_iff]
      repeat (first | rw [if_pos (by omega)] | rw [if_neg (by omega)])
      rfl
  case c2 h =>
    have o : opcodeP i = (32 + u8 (i.op - 5), 3, true) := by unfold opcodeP; repeat (first | rw [if_pos (by omega)] | rw [if_neg (by omega)])
    rw [opEq h1 o, ← u8_add]
    unfold bytesP
    rw [if_pos (two _ h), if_pos h.2, e16]; rfl
  case c3 h =>
    have o : opcodeP i = (48 + u8 (i.op - 5), 4, true) := by unfold opcodeP; repeat (first | rw [if_pos (by omega)] | rw [if_neg (by omega)])
    rw [opEq h1 o, ← u8_add]
    unfold bytesP
    rw [if_pos (two _ h), if_neg (by omega), if_pos h.2, W.u32_byte]; rfl
  case c4 h =>
    have o : opcodeP i = (64 + u8 (i.op - 5), 6, true) := by unfold opcodeP; repeat (first | rw [if_pos (by omega)] | rw [if_neg (by omega)])
    rw [opEq h1 o, ← u8_add]
    unfold bytesP
    rw [if_pos (two _ h), if_neg (by omega), if_neg (by omega), word_put]; rfl
  case c5 h =>
    have acc : isAccP i.op = true := isAccP_iff.2 (by omega)
    have nt : ¬ isTwoP i.op = true := by rw [isTwoP_iff]; omega
    have o : opcodeP i = (accessP i, 5, decide (accessP i ≠ 0)) := by unfold opcodeP; repeat (first | rw [if_pos (by omega)] | rw [if_neg (by omega)])
    rw [opEq h1 o]
    have ec : u8 (accCodeP i) = accessP i := by
      unfold accCodeP accessP
      obtain ⟨k1 | k1, k2 | k2 | k2⟩ := h <;> simp [k1, k2] <;> rfl
    unfold bytesP
    rw [if_neg nt, if_pos acc, e16, W.u32_byte, ec]; rfl
  case c6 h =>
    have acc : isAccP i.op = true := isAccP_iff.2 (by omega)
    have nt : ¬ isTwoP i.op = true := by rw [isTwoP_iff]; omega
    have o : opcodeP i = (accessP i, 5, decide (accessP i ≠ 0)) := by unfold opcodeP; repeat (first | rw [if_pos (by omega)] | rw [if_neg (by omega)])
    rw [opEq h1 o]
    have ec : u8 (accCodeP i) = accessP i := by
      unfold accCodeP accessP
      obtain ⟨k1, k2 | k2⟩ := h <;> simp [k1, k2] <;> rfl
    unfold bytesP
    rw [if_neg nt, if_pos acc, e16, W.u32_byte, ec]; rfl
  case c7 h =>
    have o : opcodeP i = (90, 5, true) := by unfold opcodeP; repeat (first | rw [if_pos (by omega)] | rw [if_neg (by omega)])
    rw [opEq h1 o]
    unfold bytesP
    simp only [isTwoP_iff, isAccP_iff]
    repeat (first | rw [if_pos (by omega)] | rw [if_neg (by omega)])
    rw [e16, W.u32_byte]; rfl
  case c8 h =>
    have o : opcodeP i = (144 + u8 i.cc, 2, true) := by unfold opcodeP condP; repeat (first | rw [if_pos (by omega)] | rw [if_neg (by omega)])
    rw [opEq h1 o, ← u8_add]
    unfold bytesP plainP
    simp only [isTwoP_iff, isAccP_iff]
    repeat (first | rw [if_pos (by omega)] | rw [if_neg (by omega)])
    rfl
  case c9 h =>
    have o : opcodeP i = (96 + u8 i.cc, 7, true) := by unfold opcodeP condP; repeat (first | rw [if_pos (by omega)] | rw [if_neg (by omega)])
    rw [opEq h1 o, ← u8_add]
    unfold bytesP
    simp only [isTwoP_iff, isAccP_iff]
    repeat (first | rw [if_pos (by omega)] | rw [if_neg (by omega)])
    rw [W.u32_byte, e2]; rfl
  case c10 h =>
    have o : opcodeP i = (112 + u8 i.cc, 8, true) := by unfold opcodeP condP; repeat (first | rw [if_pos (by omega)] | rw [if_neg (by omega)])
    rw [opEq h1 o, ← u8_add]
    unfold bytesP
    simp only [isTwoP_iff, isAccP_iff]
    repeat (first | rw [if_pos (by omega)] | rw [if_neg (by omega)])
    rw [word_put, e5]; rfl
  case c11 h =>
    have o : opcodeP i = (128, 8, true) := by unfold opcodeP; repeat (first | rw [if_pos (by omega)] | rw [if_neg (by omega)])
    rw [opEq h1 o]
    unfold bytesP
    simp only [isTwoP_iff, isAccP_iff]
    repeat (first | rw [if_pos (by omega)] | rw [if_neg (by omega)])
    rw [word_put, e5]; rfl
  case c14 h =>
    have o : opcodeP i = (131, 6, true) := by unfold opcodeP; repeat (first | rw [if_pos (by omega)] | rw [if_neg (by omega)])
    rw [opEq h1 o]
    unfold bytesP
    simp only [isTwoP_iff, isAccP_iff]
    repeat (first | rw [if_pos (by omega)] | rw [if_neg (by omega)])
    rw [word_put]; rfl
  case c12 h =>
    have o : opcodeP i = (129, 2, true) := by unfold opcodeP; repeat (first | rw [if_pos (by omega)] | rw [if_neg (by omega)])
    rw [opEq h1 o]
    unfold bytesP plainP
    simp only [isTwoP_iff, isAccP_iff]
    repeat (first | rw [if_pos (by omega)] | rw [if_neg (by omega)])
    rfl
  case c13 h =>
    have o : opcodeP i = (130, 2, true) := by unfold opcodeP; repeat (first | rw [if_pos (by omega)] | rw [if_neg (by omega)])
    rw [opEq h1 o]
    unfold bytesP plainP
    simp only [isTwoP_iff, isAccP_iff]
    repeat (first | rw [if_pos (by omega)] | rw [if_neg (by omega)])
    rfl
  case c15 h =>
    have o : opcodeP i = (160, 2, true) := by unfold opcodeP; repeat (first | rw [if_pos (by omega)] | rw [if_neg (by omega)])
    rw [opEq h1 o]
    unfold bytesP plainP
    simp only [isTwoP_iff, isAccP_iff]
    repeat (first | rw [if_pos (by omega)] | rw [if_neg (by omega)])
    rfl
  case c16 h =>
    have o : opcodeP i = (161, 2, true) := by unfold opcodeP; repeat (first | rw [if_pos (by omega)] | rw [if_neg (by omega)])
    rw [opEq h1 o]
    unfold bytesP plainP
    simp only [isTwoP_iff, isAccP_iff]
    repeat (first | rw [if_pos (by omega)] | rw [if_neg (by omega)])
    rfl
theorem enc_ref (i : Ins) : refEncP i = encodeP i := by
  unfold refEncP encodeP
  rw [err_ref]
  by_cases h : errP i = 0
  · rw [if_pos h, if_pos h]
    obtain ⟨c, s, h1, h2⟩ := opcode_errP h
    obtain ⟨_, ha, hb, _⟩ := errP_narrow h h1
    rw [bytes_eq h1 h2 ha hb, h1]
  · rw [if_neg h, if_neg h]
theorem args_len {s : Int} (h : 0 ≤ s ∧ s ≤ 8) (i : Ins) (nx : UInt32) : ((argsP s i nx).length : Int) + 1 = sizeP s := by
  obtain rfl | rfl | rfl | rfl | rfl | rfl | rfl | rfl | rfl : s = 0 ∨ s = 1 ∨ s = 2 ∨ s = 3 ∨ s = 4 ∨ s = 5 ∨ s = 6 ∨ s = 7 ∨ s = 8 := by omega
  all_goals rfl
theorem encode_len (i : Ins) : ((encodeP i).length : Int) = lengthP i := by
  unfold encodeP lengthP
  by_cases h : errP i = 0
  · rw [if_pos h, if_pos h, List.length_cons]
    have := args_len (opcodeP_shape i) i (i.addr + u32 (sizeP (opcodeP i).2.1))
    omega
  · rw [if_neg h, if_neg h]; rfl
theorem len_ref (i : Ins) : refLenP i = lengthP i := by
  rw [← encode_len, ← enc_ref]
  unfold refLenP refEncP
  by_cases h : refErrP i = 0
  · rw [if_pos h, if_pos h]
  · rw [if_neg h, if_neg h]; rfl
end Go.HL
