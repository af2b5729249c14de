/- Plain laws of chapter 03: the reference agrees about errors. -/
import Derived.Test.YtohjofdnapbeiaaIh
set_option linter.unusedSimpArgs false
set_option linter.unusedVariables false
namespace Go.HL
open Go

theorem narrow_byte (n : UInt32) : narrowP n = isByteP n := rfl
theorem kept_iff (i : Ins) (s : Int) : keptP i s = i ↔ ((s = 4 ∨ s = 5 ∨ s = 6 ∨ s = 7 ∨ s = 8) ∨ i.imm = 0) ∧ ((5 ≤ i.op ∧ i.op ≤ 15 ∨ i.op = 20) ∨ i.form = 0) ∧ ((i.op = 16 ∨ i.op = 17 ∨ i.op = 18) ∨ i.width = 0) ∧
    ((i.op = 20 ∨ i.op = 25) ∨ i.cc = 0) ∧ ((s = 1 ∨ s = 2 ∨ s = 3 ∨ s = 4 ∨ s = 5 ∨ s = 6) ∨ i.a = 0) ∧ ((s = 3 ∨ s = 5) ∨ i.b = 0) := by
  obtain ⟨addr, imm, op, form, width, cc, a, b, size⟩ := i
  have key : ∀ (p : Prop) [Decidable p] (x : Int), ((if p then x else 0) = x) ↔ (p ∨ x = 0) := fun p _ x => by
    by_cases h : p
    · simp [h]
    · simp [h]; exact eq_comm
  have key2 : ∀ (p : Prop) [Decidable p] (x : UInt32), ((if p then x else 0) = x) ↔ (p ∨ x = 0) := fun p _ x => by
    by_cases h : p
    · simp [h]
    · simp [h]; exact eq_comm
  simp only [keptP, Ins.mk.injEq, key, key2, true_and, and_true]
theorem err_of {i : Ins} {c : UInt8} {s : Int} (h : opcodeP i = (c, s, true)) : errP i = if ¬ (regP i.a = true ∧ regP i.b = true ∧ keptP i s = i) then 2 else if (s = 4 ∨ s = 5) ∧ narrowP i.imm = false ∨ s = 7 ∧ narrowP (i.imm - i.addr - 2) = false then 7 else 0 := by
  unfold errP
  simp only [h]
  by_cases h1 : regP i.a = true <;> by_cases h2 : regP i.b = true <;> by_cases h3 : keptP i s = i <;> simp [h1, h2, h3]
theorem err_bad {i : Ins} {c : UInt8} {s : Int} (h : opcodeP i = (c, s, false)) : errP i = 2 := by
  unfold errP
  simp only [h]
  rw [if_pos (.inl trivial)]
/-- The shape of what has an opcode. -/
inductive okOp (i : Ins) : Int → Prop
  | c0 (h : i.op = 0 ∨ i.op = 1 ∨ i.op = 2) : okOp i 0
  | c1 (h : i.op = 3 ∨ i.op = 4) : okOp i 1
  | c2 (h : (5 ≤ i.op ∧ i.op ≤ 15) ∧ i.form = 0) : okOp i 3
  | c3 (h : (5 ≤ i.op ∧ i.op ≤ 15) ∧ i.form = 1) : okOp i 4
  | c4 (h : (5 ≤ i.op ∧ i.op ≤ 15) ∧ i.form = 2) : okOp i 6
  | c5 (h : (i.op = 16 ∨ i.op = 18) ∧ (i.width = 1 ∨ i.width = 2 ∨ i.width = 4)) : okOp i 5
  | c6 (h : i.op = 17 ∧ (i.width = 1 ∨ i.width = 2)) : okOp i 5
  | c7 (h : i.op = 19) : okOp i 5
  | c8 (h : i.op = 25 ∧ (0 ≤ i.cc ∧ i.cc ≤ 14)) : okOp i 2
  | c9 (h : i.op = 20 ∧ (0 ≤ i.cc ∧ i.cc ≤ 14) ∧ i.form = 1) : okOp i 7
  | c10 (h : i.op = 20 ∧ (0 ≤ i.cc ∧ i.cc ≤ 14) ∧ i.form = 2) : okOp i 8
  | c11 (h : i.op = 23) : okOp i 8
  | c12 (h : i.op = 24) : okOp i 2
  | c13 (h : i.op = 21) : okOp i 2
  | c14 (h : i.op = 22) : okOp i 6
  | c15 (h : i.op = 26) : okOp i 2
  | c16 (h : i.op = 27) : okOp i 2
def Good (i : Ins) (x : UInt8 × Int × Bool) : Prop := (x.2.2 = true ∧ okOp i x.2.1) ∨ (x.2.2 = false ∧ ∀ s, ¬ okOp i s)
theorem good_ite {i : Ins} {p : Prop} [Decidable p] {x y : UInt8 × Int × Bool} (hx : p → Good i x) (hy : ¬ p → Good i y) : Good i (if p then x else y) := by
  by_cases h : p
  · rw [if_pos h]; exact hx h
  · rw [if_neg h]; exact hy h
def Good5 (i : Ins) (c : UInt8) : Prop := Good i (c, 5, decide (c ≠ 0))
theorem good5_ite {i : Ins} {p : Prop} [Decidable p] {x y : UInt8} (hx : p → Good5 i x) (hy : ¬ p → Good5 i y) : Good5 i (if p then x else y) := by
  by_cases h : p
  · rw [if_pos h]; exact hx h
  · rw [if_neg h]; exact hy h
theorem access_good (i : Ins) (h : i.op = 16 ∨ i.op = 17 ∨ i.op = 18) : Good5 i (accessP i) := by
  unfold accessP
  refine good5_ite (fun p => .inl ⟨rfl, .c5 ⟨.inl p.1, .inr (.inr p.2)⟩⟩) fun n1 => ?_
  refine good5_ite (fun p => .inl ⟨rfl, .c5 ⟨.inl p.1, .inl p.2⟩⟩) fun n2 => ?_
  refine good5_ite (fun p => .inl ⟨rfl, .c6 ⟨p.1, .inl p.2⟩⟩) fun n3 => ?_
  refine good5_ite (fun p => .inl ⟨rfl, .c5 ⟨.inl p.1, .inr (.inl p.2)⟩⟩) fun n4 => ?_
  refine good5_ite (fun p => .inl ⟨rfl, .c6 ⟨p.1, .inr p.2⟩⟩) fun n5 => ?_
  refine good5_ite (fun p => .inl ⟨rfl, .c5 ⟨.inr p.1, .inr (.inr p.2)⟩⟩) fun n6 => ?_
  refine good5_ite (fun p => .inl ⟨rfl, .c5 ⟨.inr p.1, .inl p.2⟩⟩) fun n7 => ?_
  refine good5_ite (fun p => .inl ⟨rfl, .c5 ⟨.inr p.1, .inr (.inl p.2)⟩⟩) fun n8 => ?_
  refine .inr ⟨rfl, fun s hs => ?_⟩
  cases hs
  case c5 k =>
    obtain ⟨k1 | k1, k2 | k2 | k2⟩ := k
    · exact n2 ⟨k1, k2⟩
    · exact n4 ⟨k1, k2⟩
    · exact n1 ⟨k1, k2⟩
    · exact n7 ⟨k1, k2⟩
    · exact n8 ⟨k1, k2⟩
    · exact n6 ⟨k1, k2⟩
  case c6 k =>
    obtain ⟨k1, k2 | k2⟩ := k
    · exact n3 ⟨k1, k2⟩
    · exact n5 ⟨k1, k2⟩
  all_goals (clear n1 n2 n3 n4 n5 n6 n7 n8; omega)
theorem cond_good (i : Ins) (h : i.op = 20 ∨ i.op = 25) : Good i (condP i) := by
  unfold condP
  refine good_ite (fun _ => .inr ⟨rfl, fun s h => by cases h <;> omega⟩) fun _ => ?_
  refine good_ite (fun _ => .inl ⟨rfl, .c8 (by omega)⟩) fun _ => ?_
  refine good_ite (fun _ => .inl ⟨rfl, .c9 (by omega)⟩) fun _ => ?_
  refine good_ite (fun _ => .inl ⟨rfl, .c10 (by omega)⟩) fun _ => ?_
  exact .inr ⟨rfl, fun s h => by cases h <;> omega⟩
theorem opcode_good (i : Ins) : Good i (opcodeP i) := by
  unfold opcodeP
  refine good_ite (fun _ => .inl ⟨rfl, .c0 (by omega)⟩) fun _ => ?_
  refine good_ite (fun _ => .inl ⟨rfl, .c1 (by omega)⟩) fun _ => ?_
  refine good_ite (fun _ => .inl ⟨rfl, .c1 (by omega)⟩) fun _ => ?_
  refine good_ite (fun _ => ?_) fun _ => ?_
  · refine good_ite (fun _ => .inl ⟨rfl, .c2 (by omega)⟩) fun _ => ?_
    refine good_ite (fun _ => .inl ⟨rfl, .c3 (by omega)⟩) fun _ => ?_
    refine good_ite (fun _ => .inl ⟨rfl, .c4 (by omega)⟩) fun _ => ?_
    exact .inr ⟨rfl, fun s h => by cases h <;> omega⟩
  refine good_ite (fun h => access_good i h) fun _ => ?_
  refine good_ite (fun _ => .inl ⟨rfl, .c7 (by omega)⟩) fun _ => ?_
  refine good_ite (fun h => cond_good i h) fun _ => ?_
  refine good_ite (fun _ => .inl ⟨rfl, .c11 (by omega)⟩) fun _ => ?_
  refine good_ite (fun _ => .inl ⟨rfl, .c12 (by omega)⟩) fun _ => ?_
  refine good_ite (fun _ => .inl ⟨rfl, .c13 (by omega)⟩) fun _ => ?_
  refine good_ite (fun _ => .inl ⟨rfl, .c14 (by omega)⟩) fun _ => ?_
  refine good_ite (fun _ => .inl ⟨rfl, .c15 (by omega)⟩) fun _ => ?_
  refine good_ite (fun _ => .inl ⟨rfl, .c16 (by omega)⟩) fun _ => ?_
  exact .inr ⟨rfl, fun s h => by cases h <;> omega⟩
theorem opcode_ok (i : Ins) : (∃ c s, opcodeP i = (c, s, true) ∧ okOp i s) ∨ ((∃ c s, opcodeP i = (c, s, false)) ∧ ∀ s, ¬ okOp i s) := by
  have h := opcode_good i
  generalize opcodeP i = x at *
  obtain ⟨c, s, ok⟩ := x
  rcases h with ⟨rfl, h⟩ | ⟨rfl, h⟩
  · exact .inl ⟨c, s, rfl, h⟩
  · exact .inr ⟨⟨c, s, rfl⟩, h⟩

/-! ### the reference's conditions, as arithmetic -/
theorem isTwoP_iff {op : Int} : isTwoP op = true ↔ 5 ≤ op ∧ op ≤ 15 := by simp [isTwoP]
theorem isAccP_iff {op : Int} : isAccP op = true ↔ op = 16 ∨ op = 17 ∨ op = 18 := by simp [isAccP, or_assoc]
theorem hasAP_iff {op : Int} : hasAP op = true ↔ 3 ≤ op ∧ op ≤ 27 ∧ op ≠ 20 ∧ op ≠ 23 := by simp [hasAP, and_assoc]
theorem hasBP_iff {i : Ins} : hasBP i = true ↔ (5 ≤ i.op ∧ i.op ≤ 15) ∧ i.form = 0 ∨ (i.op = 16 ∨ i.op = 17 ∨ i.op = 18) ∨ i.op = 19 := by simp [hasBP, isTwoP, isAccP, or_assoc, and_assoc]
theorem hasImmP_iff {i : Ins} : hasImmP i = true ↔ (5 ≤ i.op ∧ i.op ≤ 15) ∧ i.form ≠ 0 ∨ (i.op = 16 ∨ i.op = 17 ∨ i.op = 18) ∨ i.op = 19 ∨ i.op = 20 ∨ i.op = 22 ∨ i.op = 23 := by simp [hasImmP, isTwoP, isAccP, or_assoc, and_assoc]
theorem hasCcP_iff {op : Int} : hasCcP op = true ↔ op = 20 ∨ op = 25 := by simp [hasCcP]
theorem isCcP_iff {n : Int} : isCcP n = true ↔ 0 ≤ n ∧ n ≤ 14 := by simp [isCcP]
theorem formValidP_iff {i : Ins} : formValidP i = true ↔ (5 ≤ i.op ∧ i.op ≤ 15) ∧ (0 ≤ i.form ∧ i.form ≤ 2) ∨ i.op = 20 ∧ (i.form = 1 ∨ i.form = 2) ∨ (¬ (5 ≤ i.op ∧ i.op ≤ 15) ∧ i.op ≠ 20 ∧ i.form = 0) := by
  unfold formValidP
  simp only [isTwoP_iff]
  split
  · simp; omega
  split
  · simp; omega
  · simp; omega
theorem widthValidP_iff {i : Ins} : widthValidP i = true ↔ i.op = 17 ∧ (i.width = 1 ∨ i.width = 2) ∨ (i.op = 16 ∨ i.op = 18) ∧ (i.width = 1 ∨ i.width = 2 ∨ i.width = 4) ∨ (¬ (i.op = 16 ∨ i.op = 17 ∨ i.op = 18) ∧ i.width = 0) := by
  unfold widthValidP
  simp only [isAccP_iff]
  split
  · simp; omega
  split
  · simp; omega
  · simp; omega
theorem bfalse {b : Bool} : b = false ↔ ¬ b = true := by cases b <;> simp
theorem u32_zero {x : UInt32} : x = 0 ↔ x.toNat = 0 := by rw [← UInt32.toNat_inj]; rfl
theorem isByteP_iff {n : UInt32} : isByteP n = true ↔ n.toNat ≤ 127 ∨ 4294967168 ≤ n.toNat := by
  simp only [isByteP, Bool.or_eq_true, decide_eq_true_eq, UInt32.le_iff_toNat_le]
  exact Iff.rfl
theorem ops11 {op : Int} (h : 5 ≤ op ∧ op ≤ 15) : op = 5 ∨ op = 6 ∨ op = 7 ∨ op = 8 ∨ op = 9 ∨ op = 10 ∨ op = 11 ∨ op = 12 ∨ op = 13 ∨ op = 14 ∨ op = 15 := by omega
set_option maxHeartbeats 4000000 in
theorem err_ok {i : Ins} {s : Int} (h2 : okOp i s) : refErrP i = if ¬ (regP i.a = true ∧ regP i.b = true ∧ keptP i s = i) then 2 else if (s = 4 ∨ s = 5) ∧ narrowP i.imm = false ∨ s = 7 ∧ narrowP (i.imm - i.addr - 2) = false then 7 else 0 := by
  have e7 : narrowP i.imm = isByteP i.imm := rfl
  have e8 : narrowP (i.imm - i.addr - 2) = isByteP (i.imm - i.addr - 2) := rfl
  unfold refErrP
  simp only [bfalse, formValidP_iff, widthValidP_iff, hasAP_iff, hasBP_iff, hasImmP_iff, hasCcP_iff, isCcP_iff, isTwoP_iff, isAccP_iff, regP_iff, kept_iff, e7, e8, isByteP_iff, u32_zero, ne_eq]
  clear e7 e8
  have big : ∀ p : Prop, (5 ≤ i.op ∧ i.op ≤ 15) ∧ p → (i.op = 5 ∨ i.op = 6 ∨ i.op = 7 ∨ i.op = 8 ∨ i.op = 9 ∨ i.op = 10 ∨ i.op = 11 ∨ i.op = 12 ∨ i.op = 13 ∨ i.op = 14 ∨ i.op = 15) ∧ p := fun p h => ⟨ops11 h.1, h.2⟩
  cases h2
  case c2 h => replace h := big _ h; clear big; generalize (i.imm - i.addr - 2).toNat = m; generalize i.imm.toNat = n; generalize i.op = op at *; generalize i.form = form at *; obtain ⟨rfl | rfl | rfl | rfl | rfl | rfl | rfl | rfl | rfl | rfl | rfl, rfl⟩ := h <;> simp <;> (repeat' split) <;> omega
  case c3 h => replace h := big _ h; clear big; generalize (i.imm - i.addr - 2).toNat = m; generalize i.imm.toNat = n; generalize i.op = op at *; generalize i.form = form at *; obtain ⟨rfl | rfl | rfl | rfl | rfl | rfl | rfl | rfl | rfl | rfl | rfl, rfl⟩ := h <;> simp <;> (repeat' split) <;> omega
  case c4 h => replace h := big _ h; clear big; generalize (i.imm - i.addr - 2).toNat = m; generalize i.imm.toNat = n; generalize i.op = op at *; generalize i.form = form at *; obtain ⟨rfl | rfl | rfl | rfl | rfl | rfl | rfl | rfl | rfl | rfl | rfl, rfl⟩ := h <;> simp <;> (repeat' split) <;> omega
  all_goals clear big
  all_goals generalize (i.imm - i.addr - 2).toNat = m
  all_goals generalize i.imm.toNat = n
  all_goals rename_i h
  all_goals generalize i.op = op at *
  all_goals generalize i.form = form at *
  case c0 => rcases h with rfl | rfl | rfl <;> simp <;> (repeat' split) <;> omega
  case c1 => rcases h with rfl | rfl <;> simp <;> (repeat' split) <;> omega
  case c5 => rcases h with ⟨rfl | rfl, h⟩ <;> simp <;> (repeat' split) <;> omega
  case c9 => obtain ⟨rfl, h, rfl⟩ := h; simp; (repeat' split) <;> omega
  case c10 => obtain ⟨rfl, h, rfl⟩ := h; simp; (repeat' split) <;> omega
  case c6 => obtain ⟨rfl, h⟩ := h; simp; (repeat' split) <;> omega
  case c8 => obtain ⟨rfl, h⟩ := h; simp; (repeat' split) <;> omega
  all_goals (subst h; simp; (repeat' split) <;> omega)
set_option maxHeartbeats 4000000 in
theorem err_not {i : Ins} (h : ∀ s, ¬ okOp i s) : refErrP i = 2 := by
  have h0 : ¬ (i.op = 0 ∨ i.op = 1 ∨ i.op = 2) := fun k => h _ (.c0 k)
  have h1 : ¬ (i.op = 3 ∨ i.op = 4) := fun k => h _ (.c1 k)
  have h2 : ¬ ((5 ≤ i.op ∧ i.op ≤ 15) ∧ (i.form = 0 ∨ i.form = 1 ∨ i.form = 2)) := fun k => by
    rcases k with ⟨k, k1 | k1 | k1⟩
    · exact h _ (.c2 ⟨k, k1⟩)
    · exact h _ (.c3 ⟨k, k1⟩)
    · exact h _ (.c4 ⟨k, k1⟩)
  have h5 : ¬ ((i.op = 16 ∨ i.op = 18) ∧ (i.width = 1 ∨ i.width = 2 ∨ i.width = 4)) := fun k => h _ (.c5 k)
  have h6 : ¬ (i.op = 17 ∧ (i.width = 1 ∨ i.width = 2)) := fun k => h _ (.c6 k)
  have h7 : ¬ i.op = 19 := fun k => h _ (.c7 k)
  have h8 : ¬ (i.op = 25 ∧ (0 ≤ i.cc ∧ i.cc ≤ 14)) := fun k => h _ (.c8 k)
  have h9 : ¬ (i.op = 20 ∧ (0 ≤ i.cc ∧ i.cc ≤ 14) ∧ i.form = 1) := fun k => h _ (.c9 k)
  have h10 : ¬ (i.op = 20 ∧ (0 ≤ i.cc ∧ i.cc ≤ 14) ∧ i.form = 2) := fun k => h _ (.c10 k)
  have h11 : ¬ (i.op = 23) := fun k => h _ (.c11 k)
  have h12 : ¬ (i.op = 24) := fun k => h _ (.c12 k)
  have h13 : ¬ (i.op = 21) := fun k => h _ (.c13 k)
  have h14 : ¬ (i.op = 22) := fun k => h _ (.c14 k)
  have h15 : ¬ (i.op = 26) := fun k => h _ (.c15 k)
  have h16 : ¬ (i.op = 27) := fun k => h _ (.c16 k)
  clear h
  unfold refErrP
  simp only [bfalse, formValidP_iff, widthValidP_iff, hasCcP_iff, isCcP_iff, ne_eq]
  by_cases k1 : i.op < 0 ∨ 27 < i.op ∨ ¬((5 ≤ i.op ∧ i.op ≤ 15) ∧ 0 ≤ i.form ∧ i.form ≤ 2 ∨ i.op = 20 ∧ (i.form = 1 ∨ i.form = 2) ∨ ¬(5 ≤ i.op ∧ i.op ≤ 15) ∧ ¬ i.op = 20 ∧ i.form = 0) ∨
      ¬(i.op = 17 ∧ (i.width = 1 ∨ i.width = 2) ∨ (i.op = 16 ∨ i.op = 18) ∧ (i.width = 1 ∨ i.width = 2 ∨ i.width = 4) ∨ ¬(i.op = 16 ∨ i.op = 17 ∨ i.op = 18) ∧ i.width = 0)
  · rw [if_pos k1]
  rw [if_neg k1]
  split
  · rfl
  rw [if_pos]
  have hop : i.op = 20 ∨ i.op = 25 := by omega
  refine .inl ⟨hop, fun hc => ?_⟩
  omega
theorem err_ref (i : Ins) : refErrP i = errP i := by
  rcases opcode_ok i with ⟨c, s, h1, h2⟩ | ⟨⟨c, s, h1⟩, h2⟩
  · rw [err_of h1, err_ok h2]
  · rw [err_bad h1, err_not h2]
end Go.HL
