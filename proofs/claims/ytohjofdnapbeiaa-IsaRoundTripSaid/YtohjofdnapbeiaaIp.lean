/- Plain laws of chapter 03: round trips, prefixes, other addresses. -/
import Derived.Test.YtohjofdnapbeiaaIn
set_option linter.unusedSimpArgs false
set_option linter.unusedVariables false
namespace Go.HL
open Go

theorem dec_err {b : List UInt8} {addr : UInt32} (h : ¬ (decP b addr).2 = 0) : decP b addr = (zeroIns, 5) ∨ decP b addr = (zeroIns, 13) := by
  by_cases h0 : b.length = 0
  · exact .inl (decP_1 h0)
  by_cases hr : (rowP (b.getD 0 default)).2 = true
  case neg => exact .inr (decP_2 h0 (by simpa using hr))
  by_cases hl : (b.length : Int) < sizeP (opcodeP (rowP (b.getD 0 default)).1).2.1
  · exact .inl (decP_3 h0 hr hl)
  have e4 := decP_4 (addr := addr) h0 hr hl (k := _) rfl
  split at e4
  · exact .inr e4
  · rw [e4] at h; exact absurd rfl h
theorem body_rel {s : Int} (hs : 0 ≤ s ∧ s ≤ 8) {k : Ins} (b : List UInt8) (x y : UInt32) : bodyP k s b y = { bodyP k s b x with addr := y, imm := if s = 7 ∨ s = 8 then (bodyP k s b x).imm - x + y else (bodyP k s b x).imm } := by
  have key : ∀ z v : UInt32, y + z + v = x + z + v - x + y := fun z v => by
    apply UInt32.toNat_inj.1
    have := x.toNat_lt; have := y.toNat_lt; have := z.toNat_lt; have := v.toNat_lt
    simp only [UInt32.toNat_add, UInt32.toNat_sub]
    omega
  unfold bodyP
  generalize hz : sizeP s = z
  rcases shape_cases hs with rfl | rfl | rfl | rfl | rfl | rfl | rfl | rfl | rfl
  case inr.inr.inr.inr.inr.inr.inr.inl => simp [applyP, key]
  case inr.inr.inr.inr.inr.inr.inr.inr => simp [applyP, key]
  all_goals simp [applyP]
/-- Decoding at another address. -/
theorem dec_rel (b : List UInt8) (x y : UInt32) : (decP b x).2 = (decP b y).2 ∧ ((decP b x).2 = 0 → (decP b x).1.addr = x ∧ (decP b y).1.addr = y) ∧
    (if (decP b x).2 = 0 ∧ (targetP (decP b x).1).2 = true then { (decP b x).1 with imm := (decP b x).1.imm - x + y, addr := (decP b y).1.addr } else { (decP b x).1 with addr := (decP b y).1.addr }) = (decP b y).1 := by
  have triv : ∀ e : Int, e ≠ 0 → decP b x = (zeroIns, e) → decP b y = (zeroIns, e) → (decP b x).2 = (decP b y).2 ∧ ((decP b x).2 = 0 → (decP b x).1.addr = x ∧ (decP b y).1.addr = y) ∧
    (if (decP b x).2 = 0 ∧ (targetP (decP b x).1).2 = true then { (decP b x).1 with imm := (decP b x).1.imm - x + y, addr := (decP b y).1.addr } else { (decP b x).1 with addr := (decP b y).1.addr }) = (decP b y).1 := fun e he h1 h2 => by
    rw [h1, h2]
    refine ⟨rfl, fun q => absurd q he, ?_⟩
    rw [if_neg (fun q => he q.1)]
  by_cases h0 : b.length = 0
  · exact triv 5 (by decide) (decP_1 h0) (decP_1 h0)
  by_cases hr : (rowP (b.getD 0 default)).2 = true
  case neg => exact triv 13 (by decide) (decP_2 h0 (by simpa using hr)) (decP_2 h0 (by simpa using hr))
  by_cases hl : (b.length : Int) < sizeP (opcodeP (rowP (b.getD 0 default)).1).2.1
  · exact triv 5 (by decide) (decP_3 h0 hr hl) (decP_3 h0 hr hl)
  have ex := decP_4 (addr := x) h0 hr hl (k := _) rfl
  have ey := decP_4 (addr := y) h0 hr hl (k := _) rfl
  rw [← applyP_two] at ex ey
  have hf := row_facts hr
  have hsh := opcodeP_shape (rowP (b.getD 0 default)).1
  generalize hk : (rowP (b.getD 0 default)).1 = k at *
  generalize hs : (opcodeP k).2.1 = s at *
  have hbx : bodyP k s b x = applyP s { k with addr := x, size := sizeP s } b (x + u32 (sizeP s)) := rfl
  have hby : bodyP k s b y = applyP s { k with addr := y, size := sizeP s } b (y + u32 (sizeP s)) := rfl
  rw [← hbx] at ex
  rw [← hby] at ey
  have rel := body_rel hsh (k := k) b x y
  have ea : (bodyP k s b y).a = (bodyP k s b x).a := by rw [rel]
  have eb : (bodyP k s b y).b = (bodyP k s b x).b := by rw [rel]
  rw [ea, eb] at ey
  have fx := applyP_fields s { k with addr := x, size := sizeP s } b (x + u32 (sizeP s))
  rw [← hbx] at fx
  by_cases hv : regP (bodyP k s b x).a = false ∨ regP (bodyP k s b x).b = false
  · rw [if_pos hv] at ex ey
    exact triv 13 (by decide) ex ey
  rw [if_neg hv] at ex ey
  rw [ex, ey]
  refine ⟨rfl, fun _ => ⟨fx.2.2.2.2.2, by rw [rel]⟩, ?_⟩
  have htg : (targetP (bodyP k s b x)).2 = true ↔ (s = 7 ∨ s = 8) := by
    rw [← hf.jump, ← fx.1]
    unfold targetP
    split
    · rename_i q; simp [q]
    · rename_i q; simp [q]
  have hya : (bodyP k s b y).addr = y := by rw [rel]
  by_cases h78 : s = 7 ∨ s = 8
  · rw [if_pos ⟨rfl, htg.2 h78⟩]
    simp only
    rw [hya, rel, if_pos h78]
  · rw [if_neg (fun q => h78 (htg.1 q.2))]
    simp only
    rw [hya, rel, if_neg h78]

/-! ### the row of an encoding's first byte -/
theorem fin_of {n : Nat} {a : Int} (h : 0 ≤ a ∧ a < n) : ∃ m : Fin n, a = (m.val : Int) := ⟨⟨a.toNat, by omega⟩, by simp; omega⟩
def stripP (i : Ins) (s : Int) : Ins := ⟨0, 0, i.op, i.form, i.width, i.cc, if s = 1 then i.a else 0, 0, 0⟩
theorem row_code {i : Ins} {c : UInt8} {s : Int} (h1 : opcodeP i = (c, s, true)) (hs : okOp i s) (hk : keptP i s = i) (ha : 0 ≤ i.a ∧ i.a < 8) : rowP c = (stripP i s, true) := by
  obtain ⟨kI, kf, kw, kc, ka, kB⟩ := (kept_iff i s).1 hk
  clear kI kB
  have strip : ∀ op form width cc a : Int, i.op = op → i.form = form → i.width = width → i.cc = cc → (if s = 1 then i.a else 0) = a → stripP i s = ⟨0, 0, op, form, width, cc, a, 0, 0⟩ := fun op form width cc a e1 e2 e3 e4 e5 => by
    unfold stripP; rw [e1, e2, e3, e4, e5]
  cases hs
  case c0 h =>
    have o : opcodeP i = (u8 i.op, 0, true) := by unfold opcodeP; rw [if_pos h]
    rw [opEq h1 o, strip i.op 0 0 0 0 rfl (by omega) (by omega) (by omega) (by rw [if_neg (by omega)])]
    rcases h with h | h | h <;> rw [h] <;> decide +kernel
  case c1 h =>
    have e8 : i.a % 8 = i.a := by omega
    obtain ⟨m, hm⟩ := fin_of (n := 8) ha
    rcases h with h | h
    · have o : opcodeP i = (8 + u8 (i.a % 8), 1, true) := by unfold opcodeP; rw [if_neg (by omega), if_pos h]
      rw [opEq h1 o, e8, strip 3 0 0 0 i.a h (by omega) (by omega) (by omega) (by rw [if_pos rfl]), hm]
      exact (by decide +kernel : ∀ m : Fin 8, rowP (8 + u8 (m.val : Int)) = (⟨0, 0, 3, 0, 0, 0, m.val, 0, 0⟩, true)) m
    · have o : opcodeP i = (16 + u8 (i.a % 8), 1, true) := by unfold opcodeP; rw [if_neg (by omega), if_neg (by omega), if_pos h]
      rw [opEq h1 o, e8, strip 4 0 0 0 i.a h (by omega) (by omega) (by omega) (by rw [if_pos rfl]), hm]
      exact (by decide +kernel : ∀ m : Fin 8, rowP (16 + u8 (m.val : Int)) = (⟨0, 0, 4, 0, 0, 0, m.val, 0, 0⟩, true)) m
  case c2 h =>
    have o : opcodeP i = (32 + u8 (i.op - 5), 3, true) := by unfold opcodeP; repeat (first | rw [if_pos (by omega)] | rw [if_neg (by omega)])
    obtain ⟨m, hm⟩ := fin_of (n := 11) (a := i.op - 5) (by omega)
    rw [opEq h1 o, strip (5 + (m.val : Int)) 0 0 0 0 (by omega) h.2 (by omega) (by omega) (by rw [if_neg (by omega)]), hm]
    clear hm; revert m; decide +kernel
  case c3 h =>
    have o : opcodeP i = (48 + u8 (i.op - 5), 4, true) := by unfold opcodeP; repeat (first | rw [if_pos (by omega)] | rw [if_neg (by omega)])
    obtain ⟨m, hm⟩ := fin_of (n := 11) (a := i.op - 5) (by omega)
    rw [opEq h1 o, strip (5 + (m.val : Int)) 1 0 0 0 (by omega) h.2 (by omega) (by omega) (by rw [if_neg (by omega)]), hm]
    clear hm; revert m; decide +kernel
  case c4 h =>
    have o : opcodeP i = (64 + u8 (i.op - 5), 6, true) := by unfold opcodeP; repeat (first | rw [if_pos (by omega)] | rw [if_neg (by omega)])
    obtain ⟨m, hm⟩ := fin_of (n := 11) (a := i.op - 5) (by omega)
    rw [opEq h1 o, strip (5 + (m.val : Int)) 2 0 0 0 (by omega) h.2 (by omega) (by omega) (by rw [if_neg (by omega)]), hm]
    clear hm; revert m; decide +kernel
  case c5 h =>
    have o : opcodeP i = (accessP i, 5, decide (accessP i ≠ 0)) := by unfold opcodeP; repeat (first | rw [if_pos (by omega)] | rw [if_neg (by omega)])
    rw [opEq h1 o, strip i.op 0 i.width 0 0 rfl (by omega) rfl (by omega) (by rw [if_neg (by omega)])]
    unfold accessP
    obtain ⟨k1 | k1, k2 | k2 | k2⟩ := h <;> rw [k1, k2] <;> decide +kernel
  case c6 h =>
    have o : opcodeP i = (accessP i, 5, decide (accessP i ≠ 0)) := by unfold opcodeP; repeat (first | rw [if_pos (by omega)] | rw [if_neg (by omega)])
    rw [opEq h1 o, strip i.op 0 i.width 0 0 rfl (by omega) rfl (by omega) (by rw [if_neg (by omega)])]
    unfold accessP
    obtain ⟨k1, k2 | k2⟩ := h <;> rw [k1, k2] <;> decide +kernel
  case c7 h =>
    have o : opcodeP i = (90, 5, true) := by unfold opcodeP; repeat (first | rw [if_pos (by omega)] | rw [if_neg (by omega)])
    rw [opEq h1 o, strip 19 0 0 0 0 h (by omega) (by omega) (by omega) (by rw [if_neg (by omega)])]; decide +kernel
  case c8 h =>
    have o : opcodeP i = (144 + u8 i.cc, 2, true) := by unfold opcodeP condP; repeat (first | rw [if_pos (by omega)] | rw [if_neg (by omega)])
    obtain ⟨m, hm⟩ := fin_of (n := 15) (a := i.cc) (by omega)
    rw [opEq h1 o, strip 25 0 0 i.cc 0 h.1 (by omega) (by omega) rfl (by rw [if_neg (by omega)]), hm]
    clear hm; revert m; decide +kernel
  case c9 h =>
    have o : opcodeP i = (96 + u8 i.cc, 7, true) := by unfold opcodeP condP; repeat (first | rw [if_pos (by omega)] | rw [if_neg (by omega)])
    obtain ⟨m, hm⟩ := fin_of (n := 15) (a := i.cc) (by omega)
    rw [opEq h1 o, strip 20 1 0 i.cc 0 h.1 h.2.2 (by omega) rfl (by rw [if_neg (by omega)]), hm]
    clear hm; revert m; decide +kernel
  case c10 h =>
    have o : opcodeP i = (112 + u8 i.cc, 8, true) := by unfold opcodeP condP; repeat (first | rw [if_pos (by omega)] | rw [if_neg (by omega)])
    obtain ⟨m, hm⟩ := fin_of (n := 15) (a := i.cc) (by omega)
    rw [opEq h1 o, strip 20 2 0 i.cc 0 h.1 h.2.2 (by omega) rfl (by rw [if_neg (by omega)]), hm]
    clear hm; revert m; decide +kernel
  case c11 h =>
    have o : opcodeP i = (128, 8, true) := by unfold opcodeP; repeat (first | rw [if_pos (by omega)] | rw [if_neg (by omega)])
    rw [opEq h1 o, strip 23 0 0 0 0 h (by omega) (by omega) (by omega) (by rw [if_neg (by omega)])]; decide +kernel
  case c12 h =>
    have o : opcodeP i = (129, 2, true) := by unfold opcodeP; repeat (first | rw [if_pos (by omega)] | rw [if_neg (by omega)])
    rw [opEq h1 o, strip 24 0 0 0 0 h (by omega) (by omega) (by omega) (by rw [if_neg (by omega)])]; decide +kernel
  case c13 h =>
    have o : opcodeP i = (130, 2, true) := by unfold opcodeP; repeat (first | rw [if_pos (by omega)] | rw [if_neg (by omega)])
    rw [opEq h1 o, strip 21 0 0 0 0 h (by omega) (by omega) (by omega) (by rw [if_neg (by omega)])]; decide +kernel
  case c14 h =>
    have o : opcodeP i = (131, 6, true) := by unfold opcodeP; repeat (first | rw [if_pos (by omega)] | rw [if_neg (by omega)])
    rw [opEq h1 o, strip 22 0 0 0 0 h (by omega) (by omega) (by omega) (by rw [if_neg (by omega)])]; decide +kernel
  case c15 h =>
    have o : opcodeP i = (160, 2, true) := by unfold opcodeP; repeat (first | rw [if_pos (by omega)] | rw [if_neg (by omega)])
    rw [opEq h1 o, strip 26 0 0 0 0 h (by omega) (by omega) (by omega) (by rw [if_neg (by omega)])]; decide +kernel
  case c16 h =>
    have o : opcodeP i = (161, 2, true) := by unfold opcodeP; repeat (first | rw [if_pos (by omega)] | rw [if_neg (by omega)])
    rw [opEq h1 o, strip 27 0 0 0 0 h (by omega) (by omega) (by omega) (by rw [if_neg (by omega)])]; decide +kernel
theorem strip_opcode {i : Ins} {c : UInt8} {s : Int} (h1 : opcodeP i = (c, s, true)) (hs : okOp i s) : opcodeP (stripP i s) = (c, s, true) := by
  rw [← h1]
  refine opcodeP_congr rfl rfl rfl rfl fun q => ?_
  have q' : i.op = 3 ∨ i.op = 4 := q
  have : s = 1 := by cases hs <;> omega
  subst this
  rfl
/-- What the first byte of an encoding says. -/
theorem enc_head {i : Ins} (h : errP i = 0) : ∃ c s, opcodeP i = (c, s, true) ∧ okOp i s ∧ encodeP i = c :: argsP s i (i.addr + u32 (sizeP s)) ∧ rowP c = (stripP i s, true) ∧ opcodeP (stripP i s) = (c, s, true) ∧ ((encodeP i).length : Int) = sizeP s ∧ (0 ≤ s ∧ s ≤ 8) := by
  obtain ⟨c, s, h1, h2⟩ := opcode_errP h
  obtain ⟨hk, ha, hb, _⟩ := errP_narrow h h1
  have hsh := opcodeP_shape i
  rw [h1] at hsh
  replace hsh : 0 ≤ s ∧ s ≤ 8 := hsh
  have e : encodeP i = c :: argsP s i (i.addr + u32 (sizeP s)) := by unfold encodeP; rw [if_pos h, h1]
  refine ⟨c, s, h1, h2, e, row_code h1 h2 hk ha, strip_opcode h1 h2, ?_, hsh⟩
  have q := args_len hsh i (i.addr + u32 (sizeP s))
  have q2 : (encodeP i).length = (argsP s i (i.addr + u32 (sizeP s))).length + 1 := by rw [e]; rfl
  omega
theorem dec_prefix {i : Ins} {k : Nat} (a : UInt32) (h : k < (encodeP i).length) : decP ((encodeP i).take k) a = (zeroIns, 5) := by
  have he : errP i = 0 := by
    by_cases h0 : errP i = 0
    · exact h0
    · unfold encodeP at h; rw [if_neg h0] at h; simp at h
  obtain ⟨c, s, h1, h2, e, hr, ho, hl, hsh⟩ := enc_head he
  by_cases hk : k = 0
  · subst hk; exact decP_1 (by simp)
  have hlen : ((encodeP i).take k).length = k := by rw [List.length_take]; omega
  have hd : ((encodeP i).take k).getD 0 default = c := by
    rw [getD_take (by omega), e]; rfl
  refine decP_3 (by omega) (by rw [hd, hr]) ?_
  rw [hd, hr, ho, hlen]
  show (k : Int) < sizeP s
  omega
theorem getD_enc {l more : List UInt8} {j : Nat} (h : j < l.length) : (l ++ more).getD j default = l.getD j default := by
  simp only [List.getD_eq_getElem?_getD]
  rw [List.getElem?_append_left h]
/-- Decoding an encoding, whatever follows. -/
theorem dec_enc {i : Ins} (h : errP i = 0) (more : List UInt8) : decP (encodeP i ++ more) i.addr = ({ i with size := (encodeP i).length }, 0) := by
  obtain ⟨c, s, h1, h2, e, hr, ho, hl, hsh⟩ := enc_head h
  obtain ⟨hk, ha, hb, hn5, hn7⟩ := errP_narrow h h1
  obtain ⟨ki, kf, kw, kc, ka, kb⟩ := (kept_iff i s).1 hk
  have hpos : 1 ≤ sizeP s := by unfold sizeP; repeat' split
                                all_goals omega
  have hd : (encodeP i ++ more).getD 0 default = c := by rw [getD_enc (by omega), e]; rfl
  have e4 := decP_4 (b := encodeP i ++ more) (addr := i.addr) (by rw [List.length_append]; omega) (by rw [hd, hr]) (by rw [hd, hr, ho, List.length_append]; show ¬ _ < sizeP s; omega) (k := _) rfl
  rw [← applyP_two] at e4
  rw [hd, hr] at e4
  simp only [ho] at e4
  have body : applyP s { stripP i s with addr := i.addr, size := sizeP s } (encodeP i ++ more) (i.addr + u32 (sizeP s)) = { i with size := (encodeP i).length } := by
    rw [hl]
    have ext : ∀ (imm : UInt32) (a b : Int), imm = i.imm → a = i.a → b = i.b → (⟨i.addr, imm, i.op, i.form, i.width, i.cc, a, b, sizeP s⟩ : Ins) = { i with size := sizeP s } := fun imm a b q1 q2 q3 => by rw [q1, q2, q3]
    have g : ∀ j, j < (encodeP i).length → (encodeP i ++ more).getD j default = (c :: argsP s i (i.addr + u32 (sizeP s))).getD j default := fun j hj => by rw [getD_enc hj, e]
    have r16 : ∀ a b : Int, (0 ≤ a ∧ a < 8) → (0 ≤ b ∧ b < 8) → (((u8 (a * 16 + b) / 16).toNat : Nat) : Int) = a ∧ (((u8 (a * 16 + b) % 16).toNat : Nat) : Int) = b := fun a b qa qb => by
      have q := u8_small (x := a * 16 + b) (by omega)
      have c16 : (16 : UInt8).toNat = 16 := rfl
      rw [UInt8.toNat_div, UInt8.toNat_mod, c16]
      omega
    have hlt : ∀ j : Nat, (j : Int) < sizeP s → j < (encodeP i).length := fun j hj => by omega
    rcases shape_cases hsh with rfl | rfl | rfl | rfl | rfl | rfl | rfl | rfl | rfl
    · exact ext 0 0 0 (by have := ki; rcases ki with q | q; omega; exact q.symm) (by omega) (by omega)
    · exact ext 0 i.a 0 (by rcases ki with q | q; omega; exact q.symm) rfl (by omega)
    · refine ext 0 _ 0 (by rcases ki with q | q; omega; exact q.symm) ?_ (by omega)
      rw [g 1 (hlt 1 (by show (1 : Int) < 2; omega))]
      exact u8_small (by omega)
    · refine ext 0 _ _ (by rcases ki with q | q; omega; exact q.symm) ?_ ?_
      · rw [g 1 (hlt 1 (by show (1 : Int) < 2; omega))]; exact (r16 _ _ ha hb).1
      · rw [g 1 (hlt 1 (by show (1 : Int) < 2; omega))]; exact (r16 _ _ ha hb).2
    · refine ext _ _ 0 ?_ ?_ (by omega)
      · rw [g 2 (hlt 2 (by show (2 : Int) < 3; omega))]; exact narrow_sext _ (hn5 (by omega))
      · rw [g 1 (hlt 1 (by show (1 : Int) < 3; omega))]; exact u8_small (by omega)
    · refine ext _ _ _ ?_ ?_ ?_
      · rw [g 2 (hlt 2 (by show (2 : Int) < 3; omega))]; exact narrow_sext _ (hn5 (by omega))
      · rw [g 1 (hlt 1 (by show (1 : Int) < 3; omega))]; exact (r16 _ _ ha hb).1
      · rw [g 1 (hlt 1 (by show (1 : Int) < 3; omega))]; exact (r16 _ _ ha hb).2
    · refine ext _ _ 0 ?_ ?_ (by omega)
      · rw [e]; exact long_put [c, u8 i.a] more i.imm
      · rw [g 1 (hlt 1 (by show (1 : Int) < 6; omega))]; exact u8_small (by omega)
    · refine ext _ 0 0 ?_ (by omega) (by omega)
      rw [g 1 (hlt 1 (by show (1 : Int) < 2; omega))]
      have q := narrow_sext _ (hn7 rfl)
      have e2 : i.imm - (i.addr + u32 (sizeP 7)) = i.imm - i.addr - 2 := sub_add32 _ _ _
      show (i.addr + u32 (sizeP 7)) + sextP ((i.imm - (i.addr + u32 (sizeP 7))).toUInt8) = i.imm
      rw [e2, q, ← e2, add_sub32]
    · refine ext _ 0 0 ?_ (by omega) (by omega)
      have q := long_put [c] more (i.imm - (i.addr + u32 (sizeP 8)))
      have e5 : encodeP i ++ more = [c] ++ putP [] (i.imm - (i.addr + u32 (sizeP 8))) 4 ++ more := by rw [e]; rfl
      rw [e5]
      show (i.addr + u32 (sizeP 8)) + longP _ 1 = i.imm
      rw [show longP ([c] ++ putP [] (i.imm - (i.addr + u32 (sizeP 8))) 4 ++ more) 1 = i.imm - (i.addr + u32 (sizeP 8)) from q, add_sub32]
  rw [body] at e4
  rw [e4, if_neg]
  simp only [not_or, Bool.not_eq_false]
  exact ⟨regP_iff.2 ha, regP_iff.2 hb⟩
theorem errP_cases (i : Ins) : errP i = 0 ∨ errP i = 2 ∨ errP i = 7 := by
  unfold errP; repeat' split
  all_goals simp
theorem sizeP_le (s : Int) : 1 ≤ sizeP s ∧ sizeP s ≤ 6 := by
  unfold sizeP; repeat' split
  all_goals omega
theorem enc_facts {i : Ins} (h : errP i = 0) : 1 ≤ (encodeP i).length ∧ (encodeP i).length ≤ 6 ∧ lengthP i = ((encodeP i).length : Int) := by
  obtain ⟨c, s, h1, h2, e, hr, ho, hl, hsh⟩ := enc_head h
  have := sizeP_le s
  refine ⟨by omega, by omega, ?_⟩
  unfold lengthP; rw [if_pos h, h1, hl]
theorem enc_bad {i : Ins} (h : errP i ≠ 0) : encodeP i = [] ∧ lengthP i = 0 ∧ nextP i = i.addr := by
  have e : lengthP i = 0 := by unfold lengthP; rw [if_neg h]
  refine ⟨by unfold encodeP; rw [if_neg h], e, ?_⟩
  unfold nextP; rw [e]; exact UInt32.add_zero _
theorem enc_len_le (i : Ins) : (encodeP i).length ≤ 6 := by
  by_cases h : errP i = 0
  · exact (enc_facts h).2.1
  · rw [(enc_bad h).1]; simp
end Go.HL
