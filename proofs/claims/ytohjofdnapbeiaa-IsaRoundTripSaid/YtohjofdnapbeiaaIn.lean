/- Plain laws of chapter 03: decoding what was encoded, encoding what was decoded. -/
import Derived.Test.YtohjofdnapbeiaaIm
set_option linter.unusedSimpArgs false
set_option linter.unusedVariables false
namespace Go.HL
open Go

/-- The row of an opcode: what it says, checked at all 256 bytes. -/
def rowOK (c : UInt8) : Bool :=
  let k := (rowP c).1
  let s := (opcodeP k).2.1
  !(rowP c).2 || (decide (opcodeP k = (c, s, true)) && decide (k.addr = 0) && decide (k.imm = 0) && decide (k.b = 0) && decide (k.size = 0) && (decide (s = 1) || decide (k.a = 0)) && decide (0 ≤ k.a) && decide (k.a < 8) &&
    ((decide (5 ≤ k.op) && decide (k.op ≤ 15)) || decide (k.op = 20) || decide (k.form = 0)) && (decide (k.op = 16) || decide (k.op = 17) || decide (k.op = 18) || decide (k.width = 0)) && (decide (k.op = 20) || decide (k.op = 25) || decide (k.cc = 0)) &&
    (!(decide (k.op = 3) || decide (k.op = 4)) || decide (s = 1)) && (decide (k.op = 20) || decide (k.op = 23)) == (decide (s = 7) || decide (s = 8)))
theorem row_all (c : UInt8) : rowOK c = true := by
  revert c
  exact all_u8 (by decide +kernel)
structure RowFacts (c : UInt8) (k : Ins) (s : Int) : Prop where
  op : opcodeP k = (c, s, true)
  addr : k.addr = 0
  imm : k.imm = 0
  b : k.b = 0
  size : k.size = 0
  a : s = 1 ∨ k.a = 0
  ar : 0 ≤ k.a ∧ k.a < 8
  form : (5 ≤ k.op ∧ k.op ≤ 15) ∨ k.op = 20 ∨ k.form = 0
  width : k.op = 16 ∨ k.op = 17 ∨ k.op = 18 ∨ k.width = 0
  cc : k.op = 20 ∨ k.op = 25 ∨ k.cc = 0
  one : k.op = 3 ∨ k.op = 4 → s = 1
  jump : (k.op = 20 ∨ k.op = 23) ↔ (s = 7 ∨ s = 8)
theorem row_facts {c : UInt8} (h : (rowP c).2 = true) : RowFacts c (rowP c).1 (opcodeP (rowP c).1).2.1 := by
  have h1 := row_all c
  simp only [rowOK, h, Bool.not_true, Bool.false_or, Bool.and_eq_true, Bool.or_eq_true, Bool.not_eq_true', Bool.or_eq_false_iff, decide_eq_true_eq, decide_eq_false_iff_not, beq_iff_eq] at h1
  obtain ⟨⟨⟨⟨⟨⟨⟨⟨⟨⟨⟨⟨h01, h02⟩, h03⟩, h04⟩, h05⟩, h06⟩, h07⟩, h08⟩, h09⟩, h10⟩, h11⟩, h12⟩, h13⟩ := h1
  refine ⟨h01, h02, h03, h04, h05, h06, ⟨h07, h08⟩, by omega, by omega, by omega, fun k => by omega, ?_⟩
  rw [Bool.eq_iff_iff] at h13
  simpa using h13
theorem opcodeP_congr {i k : Ins} (ho : i.op = k.op) (hf : i.form = k.form) (hw : i.width = k.width) (hc : i.cc = k.cc) (ha : (k.op = 3 ∨ k.op = 4) → i.a = k.a) : opcodeP i = opcodeP k := by
  unfold opcodeP accessP condP
  rw [ho, hf, hw, hc]
  by_cases h : k.op = 3 ∨ k.op = 4
  · rw [ha h]
  · rw [if_neg (c := k.op = 3) (by omega), if_neg (c := k.op = 4) (by omega), if_neg (c := k.op = 3) (by omega), if_neg (c := k.op = 4) (by omega)]
theorem sext_narrow (x : UInt8) : narrowP (sextP x) = true := by
  revert x; exact all_u8 (by decide +kernel)
theorem sext_byte (x : UInt8) : (sextP x).toUInt8 = x := by
  revert x; exact all_u8 (by decide +kernel)
theorem split16 (x : UInt8) : u8 (((x / 16).toNat : Nat) * 16 + ((x % 16).toNat : Nat)) = x := by
  revert x; exact all_u8 (by decide +kernel)
theorem narrow_sext (n : UInt32) (h : narrowP n = true) : sextP n.toUInt8 = n := by
  have hn := n.toNat_lt
  rw [narrow_byte, isByteP_iff] at h
  have e : n.toUInt8.toNat = n.toNat % 256 := by rw [UInt32.toNat_toUInt8]
  apply UInt32.toNat_inj.1
  unfold sextP
  have c128 : (128 : UInt8).toNat = 128 := rfl
  have c4 : (4294967040 : UInt32).toNat = 4294967040 := rfl
  split
  · rename_i k
    rw [UInt8.lt_iff_toNat_lt, e, c128] at k
    rw [UInt8.toNat_toUInt32, e]; omega
  · rename_i k
    rw [UInt8.lt_iff_toNat_lt, e, c128] at k
    rw [UInt32.toNat_add, UInt8.toNat_toUInt32, e, c4]; omega
theorem long_app {l more : List UInt8} {k : Nat} (h : k + 4 ≤ l.length) : longP (l ++ more) k = longP l k := by
  have e : ∀ j, j < l.length → (l ++ more).getD j default = l.getD j default := fun j hj => by
    simp only [List.getD_eq_getElem?_getD]
    rw [List.getElem?_append_left hj]
  unfold longP
  rw [e _ (by omega), e _ (by omega), e _ (by omega), e _ (by omega)]
theorem long_put (pre more : List UInt8) (n : UInt32) : longP (pre ++ putP [] n 4 ++ more) pre.length = n := by
  rw [← putP_app]
  have hl : (putP pre n 4).length = pre.length + 4 := by rw [putP_app]; simp; rfl
  rw [long_app (by omega), ← get_long (by omega), W.get_put pre n 4 (by omega)]
  rfl
theorem put_bytes (n : UInt32) : putP [] n 4 = [(shr32 n 0).toUInt8, (shr32 n 8).toUInt8, (shr32 n 16).toUInt8, (shr32 n 24).toUInt8] := rfl
theorem put_long {b : List UInt8} {k : Nat} (h : k + 4 ≤ b.length) : putP [] (longP b k) 4 = [b.getD k default, b.getD (k + 1) default, b.getD (k + 2) default, b.getD (k + 3) default] := by
  rw [put_bytes]
  unfold longP
  generalize b.getD k default = x0
  generalize b.getD (k + 1) default = x1
  generalize b.getD (k + 2) default = x2
  generalize b.getD (k + 3) default = x3
  have h0 := x0.toNat_lt; have h1 := x1.toNat_lt; have h2 := x2.toNat_lt; have h3 := x3.toNat_lt
  have key : ∀ (n : UInt32) (j : Nat) (x : UInt8), n.toNat / 2 ^ j % 256 = x.toNat → (shr32 n j).toUInt8 = x := fun n j x e => by
    apply UInt8.toNat_inj.1
    rw [UInt32.toNat_toUInt8, shr32_toNat]
    exact e
  have e1 : (256 : UInt32).toNat = 256 := rfl
  have e2 : (65536 : UInt32).toNat = 65536 := rfl
  have e3 : (16777216 : UInt32).toNat = 16777216 := rfl
  have hn : (x0.toUInt32 + 256 * x1.toUInt32 + 65536 * x2.toUInt32 + 16777216 * x3.toUInt32).toNat = x0.toNat + 256 * x1.toNat + 65536 * x2.toNat + 16777216 * x3.toNat := by
    simp only [UInt32.toNat_add, UInt32.toNat_mul, UInt8.toNat_toUInt32, e1, e2, e3]
    omega
  congr 1
  · exact key _ _ _ (by rw [hn]; omega)
  congr 1
  · exact key _ _ _ (by rw [hn]; omega)
  congr 1
  · exact key _ _ _ (by rw [hn]; omega)
  congr 1
  exact key _ _ _ (by rw [hn]; omega)
theorem applyP_fields (s : Int) (k : Ins) (b : List UInt8) (nx : UInt32) : (applyP s k b nx).op = k.op ∧ (applyP s k b nx).form = k.form ∧ (applyP s k b nx).width = k.width ∧ (applyP s k b nx).cc = k.cc ∧ (applyP s k b nx).size = k.size ∧ (applyP s k b nx).addr = k.addr := by
  unfold applyP; repeat' split
  all_goals exact ⟨rfl, rfl, rfl, rfl, rfl, rfl⟩
theorem shape_cases {s : Int} (h : 0 ≤ s ∧ s ≤ 8) : s = 0 ∨ s = 1 ∨ s = 2 ∨ s = 3 ∨ s = 4 ∨ s = 5 ∨ s = 6 ∨ s = 7 ∨ s = 8 := by omega
theorem take_list {b : List UInt8} {n : Nat} (h : n ≤ b.length) : b.take n = (List.range n).map fun j => b.getD j default := by
  apply List.ext_getElem?
  intro j
  rw [List.getElem?_take]
  by_cases hj : j < n
  · rw [if_pos hj]
    have : j < b.length := by omega
    simp [hj, List.getD_eq_getElem?_getD, this]
  · rw [if_neg hj]; simp [hj]
/-- What Decode hands back is valid, and encoding it gives the bytes. -/
theorem dec_canon {b : List UInt8} {addr : UInt32} (h : (decP b addr).2 = 0) :
    ∃ s : Int, (decP b addr).1.size = sizeP s ∧ 1 ≤ sizeP s ∧ sizeP s ≤ b.length ∧ (decP b addr).1.addr = addr ∧ errP (decP b addr).1 = 0 ∧ lengthP (decP b addr).1 = sizeP s ∧ encodeP (decP b addr).1 = b.take (sizeP s).toNat := by
  by_cases h0 : b.length = 0
  · rw [decP_1 h0] at h; cases h
  by_cases hr : (rowP (b.getD 0 default)).2 = true
  case neg => rw [decP_2 h0 (by simpa using hr)] at h; cases h
  by_cases hl : (b.length : Int) < sizeP (opcodeP (rowP (b.getD 0 default)).1).2.1
  · rw [decP_3 h0 hr hl] at h; cases h
  have hf := row_facts hr
  have hsh := opcodeP_shape (rowP (b.getD 0 default)).1
  have e4 := decP_4 (addr := addr) h0 hr hl (k := _) rfl
  rw [← applyP_two] at e4
  generalize hk : (rowP (b.getD 0 default)).1 = k at *
  generalize hs : (opcodeP k).2.1 = s at *
  generalize hi : applyP s { k with addr := addr, size := sizeP s } b (addr + u32 (sizeP s)) = i at *
  have hff := applyP_fields s { k with addr := addr, size := sizeP s } b (addr + u32 (sizeP s))
  rw [hi] at hff
  obtain ⟨fo, fF, fw, fc, fs, fa⟩ := hff
  have hra : regP i.a = true ∧ regP i.b = true := by
    rw [e4] at h
    split at h
    · cases h
    · rename_i q; simpa [not_or] using q
  rw [if_neg (by simp [hra.1, hra.2])] at e4
  rw [e4]
  have hpos : 1 ≤ sizeP s := by unfold sizeP; repeat' split
                                all_goals omega
  have opc : opcodeP i = (b.getD 0 default, s, true) := by
    rw [← hf.op]
    refine opcodeP_congr fo fF fw fc fun q => ?_
    have := hf.one q
    subst this
    rw [← hi]; rfl
  have sp := sizeP_spec s
  have hn : ¬ (b.length : Int) < sizeP s := hl
  -- the operands, shape by shape
  have body : keptP i s = i ∧ ((s = 4 ∨ s = 5) → narrowP i.imm = true) ∧ (s = 7 → narrowP (i.imm - i.addr - 2) = true) ∧ (b.getD 0 default) :: argsP s i (i.addr + u32 (sizeP s)) = b.take (sizeP s).toNat := by
    have kpt : keptP i s = i ↔ ((s = 4 ∨ s = 5 ∨ s = 6 ∨ s = 7 ∨ s = 8) ∨ i.imm = 0) ∧ ((s = 1 ∨ s = 2 ∨ s = 3 ∨ s = 4 ∨ s = 5 ∨ s = 6) ∨ i.a = 0) ∧ ((s = 3 ∨ s = 5) ∨ i.b = 0) := by
      rw [kept_iff, fo, fF, fw, fc]
      have := hf.form; have := hf.width; have := hf.cc
      constructor
      · rintro ⟨q1, q2, q3, q4, q5, q6⟩; exact ⟨q1, q5, q6⟩
      · rintro ⟨q1, q5, q6⟩
        refine ⟨q1, ?_, ?_, ?_, q5, q6⟩
        · rcases hf.form with q | q | q
          · exact .inl (.inl q)
          · exact .inl (.inr q)
          · exact .inr q
        · rcases hf.width with q | q | q | q
          · exact .inl (.inl q)
          · exact .inl (.inr (.inl q))
          · exact .inl (.inr (.inr q))
          · exact .inr q
        · rcases hf.cc with q | q | q
          · exact .inl (.inl q)
          · exact .inl (.inr q)
          · exact .inr q
    rw [kpt, fa]
    have him := hf.imm; have hfb := hf.b; have hfa := hf.a
    rcases shape_cases hsh with rfl | rfl | rfl | rfl | rfl | rfl | rfl | rfl | rfl
    · have e : i = { k with addr := addr, size := sizeP 0 } := hi.symm
      subst e
      refine ⟨⟨.inr him, .inr (by rcases hfa with q | q; omega; exact q), .inr hfb⟩, fun q => by omega, fun q => by omega, ?_⟩
      rw [take_list (n := (sizeP 0).toNat) (by show 1 ≤ _; omega)]; rfl
    · have e : i = { k with addr := addr, size := sizeP 1 } := hi.symm
      subst e
      refine ⟨⟨.inr him, .inl (by omega), .inr hfb⟩, fun q => by omega, fun q => by omega, ?_⟩
      rw [take_list (n := (sizeP 1).toNat) (by show 1 ≤ _; omega)]; rfl
    · have e : i = { k with addr := addr, size := sizeP 2, a := (b.getD 1 default).toNat } := hi.symm
      subst e
      refine ⟨⟨.inr him, .inl (by omega), .inr hfb⟩, fun q => by omega, fun q => by omega, ?_⟩
      rw [take_list (n := (sizeP 2).toNat) (by show 2 ≤ _; omega)]
      show [_, u8 ((b.getD 1 default).toNat : Nat)] = [_, _]
      rw [u8_of_byte]
    · have e : i = { k with addr := addr, size := sizeP 3, a := (b.getD 1 default / 16).toNat, b := (b.getD 1 default % 16).toNat } := hi.symm
      subst e
      refine ⟨⟨.inr him, .inl (by omega), .inl (by omega)⟩, fun q => by omega, fun q => by omega, ?_⟩
      rw [take_list (n := (sizeP 3).toNat) (by show 2 ≤ _; omega)]
      show [_, u8 (((b.getD 1 default / 16).toNat : Nat) * 16 + ((b.getD 1 default % 16).toNat : Nat))] = [_, _]
      rw [split16]
    · have e : i = { k with addr := addr, size := sizeP 4, a := (b.getD 1 default).toNat, imm := sextP (b.getD 2 default) } := hi.symm
      subst e
      refine ⟨⟨.inl (by omega), .inl (by omega), .inr hfb⟩, fun q => sext_narrow _, fun q => by omega, ?_⟩
      rw [take_list (n := (sizeP 4).toNat) (by show 3 ≤ _; omega)]
      show [_, u8 ((b.getD 1 default).toNat : Nat), (sextP (b.getD 2 default)).toUInt8] = [_, _, _]
      rw [u8_of_byte, sext_byte]
    · have e : i = { k with addr := addr, size := sizeP 5, a := (b.getD 1 default / 16).toNat, b := (b.getD 1 default % 16).toNat, imm := sextP (b.getD 2 default) } := hi.symm
      subst e
      refine ⟨⟨.inl (by omega), .inl (by omega), .inl (by omega)⟩, fun q => sext_narrow _, fun q => by omega, ?_⟩
      rw [take_list (n := (sizeP 5).toNat) (by show 3 ≤ _; omega)]
      show [_, u8 (((b.getD 1 default / 16).toNat : Nat) * 16 + ((b.getD 1 default % 16).toNat : Nat)), (sextP (b.getD 2 default)).toUInt8] = [_, _, _]
      rw [split16, sext_byte]
    · have e : i = { k with addr := addr, size := sizeP 6, a := (b.getD 1 default).toNat, imm := longP b 2 } := hi.symm
      subst e
      refine ⟨⟨.inl (by omega), .inl (by omega), .inr hfb⟩, fun q => by omega, fun q => by omega, ?_⟩
      have h6 : sizeP 6 = 6 := rfl
      rw [take_list (n := (sizeP 6).toNat) (by show 6 ≤ _; omega)]
      show _ :: u8 ((b.getD 1 default).toNat : Nat) :: putP [] (longP b 2) 4 = _
      rw [u8_of_byte, put_long (by omega)]
      rfl
    · have e : i = { k with addr := addr, size := sizeP 7, imm := (addr + u32 (sizeP 7)) + sextP (b.getD 1 default) } := hi.symm
      subst e
      have e2 : (addr + u32 (sizeP 7)) + sextP (b.getD 1 default) - addr - 2 = sextP (b.getD 1 default) := by
        rw [← sub_add32]
        show (addr + 2) + sextP (b.getD 1 default) - (addr + 2) = _
        rw [UInt32.add_comm (addr + 2), UInt32.add_sub_cancel]
      have e3 : (addr + u32 (sizeP 7)) + sextP (b.getD 1 default) - (addr + u32 (sizeP 7)) = sextP (b.getD 1 default) := by
        rw [UInt32.add_comm (addr + _), UInt32.add_sub_cancel]
      refine ⟨⟨.inl (by omega), .inr (by rcases hfa with q | q; omega; exact q), .inr hfb⟩, fun q => by omega, fun q => by rw [e2]; exact sext_narrow _, ?_⟩
      rw [take_list (n := (sizeP 7).toNat) (by show 2 ≤ _; omega)]
      show [_, ((addr + u32 (sizeP 7)) + sextP (b.getD 1 default) - (addr + u32 (sizeP 7))).toUInt8] = [_, _]
      rw [e3, sext_byte]
    · have e : i = { k with addr := addr, size := sizeP 8, imm := (addr + u32 (sizeP 8)) + longP b 1 } := hi.symm
      subst e
      have e3 : (addr + u32 (sizeP 8)) + longP b 1 - (addr + u32 (sizeP 8)) = longP b 1 := by
        rw [UInt32.add_comm (addr + _), UInt32.add_sub_cancel]
      refine ⟨⟨.inl (by omega), .inr (by rcases hfa with q | q; omega; exact q), .inr hfb⟩, fun q => by omega, fun q => by omega, ?_⟩
      have h8 : sizeP 8 = 5 := rfl
      rw [take_list (n := (sizeP 8).toNat) (by show 5 ≤ _; omega)]
      show _ :: putP [] ((addr + u32 (sizeP 8)) + longP b 1 - (addr + u32 (sizeP 8))) 4 = _
      rw [e3, put_long (by omega)]
      rfl
  obtain ⟨b1, b2, b3, b4⟩ := body
  have er : errP i = 0 := by
    rw [err_of opc, if_neg (by simp [hra.1, hra.2, b1]), if_neg]
    rintro (⟨q1, q2⟩ | ⟨q1, q2⟩)
    · rw [b2 q1] at q2; cases q2
    · rw [b3 q1] at q2; cases q2
  refine ⟨s, fs, hpos, by omega, fa, er, ?_, ?_⟩
  · unfold lengthP; rw [if_pos er, opc]
  · unfold encodeP; rw [if_pos er, opc]; exact b4
end Go.HL
