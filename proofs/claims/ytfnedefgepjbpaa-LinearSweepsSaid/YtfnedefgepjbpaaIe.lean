/- Instructions compared; small facts for the walks of isa. -/
import Derived.Test.YtfnedefgepjbpaaIb
import Derived.Test.YtfnedefgepjbpaaHe
set_option linter.unusedSimpArgs false
set_option linter.unusedVariables false
namespace Go.HL
open Go
theorem insEqEnc : EqEnc encIns [.int .u32, .int .u32, .int .i64, .int .i64, .int .i64, .int .i64, .int .i64, .int .i64, .int .i64] [0, 1, 2, 3, 4, 5, 6, 7, 8] := by
  intro x y
  refine ⟨fun j o e ho he => ?_, ?_⟩
  · rcases j with _ | _ | _ | _ | _ | _ | _ | _ | _ | j <;> simp at ho he <;> subst ho <;> subst he <;> rfl
  · obtain ⟨a0, a1, a2, a3, a4, a5, a6, a7, a8⟩ := x
    obtain ⟨c0, c1, c2, c3, c4, c5, c6, c7, c8⟩ := y
    rw [Bool.eq_iff_iff]
    simp [eqAt, encIns]
    simp only [← UInt32.toNat_inj]
    omega
end Go.HL

namespace Go.HL
open Go
/-! ### kept -/
def kept1 (i : Ins) (s : Int) : Ins :=
  ⟨i.addr, if s = 4 ∨ s = 5 ∨ s = 6 ∨ s = 7 ∨ s = 8 then i.imm else 0, i.op, 0, 0, 0,
   if s = 1 ∨ s = 2 ∨ s = 3 ∨ s = 4 ∨ s = 5 ∨ s = 6 then i.a else 0, if s = 3 ∨ s = 5 then i.b else 0, i.size⟩
theorem keptP_eq (i : Ins) (s : Int) : keptP i s = { kept1 i s with form := if 5 ≤ i.op ∧ i.op ≤ 15 ∨ i.op = 20 then i.form else 0, width := if i.op = 16 ∨ i.op = 17 ∨ i.op = 18 then i.width else 0, cc := if i.op = 20 ∨ i.op = 25 then i.cc else 0 } := rfl
/-! ### check -/
theorem checkP_2 {i : Ins} (h : (opcodeP i).2.2 = false ∨ regP i.a = false ∨ regP i.b = false ∨ keptP i (opcodeP i).2.1 ≠ i) : checkP i = (0, 0, 2) := by
  have : errP i = 2 := by unfold errP; rw [if_pos h]
  rw [checkP_no (by rw [this]; decide), this]
theorem checkP_7 {i : Ins} (h : ¬ ((opcodeP i).2.2 = false ∨ regP i.a = false ∨ regP i.b = false ∨ keptP i (opcodeP i).2.1 ≠ i))
    (h2 : ((opcodeP i).2.1 = 4 ∨ (opcodeP i).2.1 = 5) ∧ narrowP i.imm = false ∨ (opcodeP i).2.1 = 7 ∧ narrowP (i.imm - i.addr - 2) = false) : checkP i = (0, 0, 7) := by
  have : errP i = 7 := by unfold errP; rw [if_neg h, if_pos h2]
  rw [checkP_no (by rw [this]; decide), this]
theorem errP_0 {i : Ins} (h : ¬ ((opcodeP i).2.2 = false ∨ regP i.a = false ∨ regP i.b = false ∨ keptP i (opcodeP i).2.1 ≠ i))
    (h2 : ¬ (((opcodeP i).2.1 = 4 ∨ (opcodeP i).2.1 = 5) ∧ narrowP i.imm = false ∨ (opcodeP i).2.1 = 7 ∧ narrowP (i.imm - i.addr - 2) = false)) : errP i = 0 := by
  unfold errP; rw [if_neg h, if_neg h2]
def ShapeR (x : UInt8 × Int × Bool) : Prop := 0 ≤ x.2.1 ∧ x.2.1 ≤ 8
theorem ite_shape {p : Prop} [Decidable p] {x y : UInt8 × Int × Bool} (hx : ShapeR x) (hy : ShapeR y) : ShapeR (if p then x else y) := by split <;> assumption
theorem opcodeP_shape (i : Ins) : 0 ≤ (opcodeP i).2.1 ∧ (opcodeP i).2.1 ≤ 8 := by
  show ShapeR (opcodeP i)
  unfold opcodeP condP
  repeat' (first | apply ite_shape | exact ⟨by simp, by simp⟩)
theorem checkP_shape (i : Ins) : 0 ≤ (checkP i).2.1 ∧ (checkP i).2.1 ≤ 8 := by
  unfold checkP
  split
  · exact opcodeP_shape i
  · simp
theorem errP_regs {i : Ins} (h : errP i = 0) : (opcodeP i).2.2 = true ∧ (0 ≤ i.a ∧ i.a < 8) ∧ (0 ≤ i.b ∧ i.b < 8) ∧ keptP i (opcodeP i).2.1 = i := by
  unfold errP at h
  split at h
  · cases h
  · rename_i h1
    simp only [not_or, Bool.not_eq_false, ne_eq, Decidable.not_not] at h1
    exact ⟨h1.1, regP_iff.1 h1.2.1, regP_iff.1 h1.2.2.1, h1.2.2.2⟩
theorem putP_app (b : List UInt8) (n : UInt32) (w : Int) : putP b n w = b ++ putP [] n w := by
  have key : ∀ (j k : Nat) (xs : List UInt8), putF n (b ++ xs) k j = b ++ putF n xs k j := by
    intro j
    induction j with
    | zero => intro k xs; rfl
    | succ j ih => intro k xs; simp only [putF, List.append_assoc]; exact ih _ _
  unfold putP
  split
  · have := key w.toNat 0 []
    rwa [List.append_nil] at this
  · simp
/-! ### row, Decode -/
theorem rows_ok : ∀ k, k < 15 → InsOK (rowsP.getD k default) := by
  intro k hk
  have : ∀ x ∈ rowsP, InsOK x := by
    intro x hx
    simp only [rowsP, List.mem_cons, List.not_mem_nil, or_false] at hx
    rcases hx with h | h | h | h | h | h | h | h | h | h | h | h | h | h | h <;> subst h <;> exact ⟨by simp [I64], by simp [I64], by simp [I64], by simp [I64], by simp [I64], by simp [I64], by simp [I64]⟩
  exact this _ (by rw [List.getD_eq_getElem?_getD]; have : k < rowsP.length := hk; simp [this])
theorem row_ok (c : UInt8) : InsOK (rowP c).1 := by
  have key : ∀ c : UInt8, ((decide (0 ≤ (rowP c).1.op) && decide ((rowP c).1.op ≤ 100)) && (decide ((rowP c).1.form = 0) || decide ((rowP c).1.form = 1) || decide ((rowP c).1.form = 2)) && (decide (0 ≤ (rowP c).1.width) && decide ((rowP c).1.width ≤ 4)) &&
      (decide (0 ≤ (rowP c).1.cc) && decide ((rowP c).1.cc ≤ 100)) && (decide (0 ≤ (rowP c).1.a) && decide ((rowP c).1.a ≤ 100)) && decide ((rowP c).1.b = 0) && decide ((rowP c).1.size = 0)) = true := all_u8 (by decide +kernel)
  have h := key c
  simp only [Bool.and_eq_true, Bool.or_eq_true, decide_eq_true_eq] at h
  obtain ⟨⟨⟨⟨⟨⟨h1, h2⟩, h3⟩, h4⟩, h5⟩, h6⟩, h7⟩ := h
  exact ⟨by unfold I64; omega, by unfold I64; omega, by unfold I64; omega, by unfold I64; omega, by unfold I64; omega, by unfold I64; omega, by unfold I64; omega⟩
def extP (a : UInt32) (w : Int) : UInt32 := if w = 1 then u32 (IntKind.i8.wrap a.toNat) else if w = 2 then u32 (IntKind.i16.wrap a.toNat) else a
theorem ext_sext (x : UInt8) : extP x.toUInt32 1 = sextP x := by
  revert x
  exact all_u8 (by decide +kernel)
theorem get_long {b : List UInt8} {k : Nat} (h : k + 4 ≤ b.length) : (getP b k 4).1 = longP b k := by
  rw [getP_ok rfl (by omega)]
  show getF b k 0 4 = _
  simp only [getF, W.shl_orI, longP]
  rw [show ((k : Int) + ((0 : Nat) : Int)).toNat = k by omega, show ((k : Int) + ((1 : Nat) : Int)).toNat = k + 1 by omega, show ((k : Int) + ((2 : Nat) : Int)).toNat = k + 2 by omega, show ((k : Int) + ((3 : Nat) : Int)).toNat = k + 3 by omega]
  generalize (b.getD k default).toUInt32 = x0
  generalize (b.getD (k + 1) default).toUInt32 = x1
  generalize (b.getD (k + 2) default).toUInt32 = x2
  generalize (b.getD (k + 3) default).toUInt32 = x3
  apply W.u32_extI
  simp only [UInt32.toNat_add, UInt32.toNat_mul]
  have e1 : (256 : UInt32).toNat = 256 := rfl
  have e2 : (65536 : UInt32).toNat = 65536 := rfl
  have e3 : (16777216 : UInt32).toNat = 16777216 := rfl
  have e4 : (0 : UInt32).toNat = 0 := rfl
  rw [e1, e2, e3, e4]
  omega
def setAB (s : Int) (k : Ins) (b : List UInt8) : Ins :=
  if s = 2 ∨ s = 4 ∨ s = 6 then { k with a := (b.getD 1 default).toNat } else if s = 3 ∨ s = 5 then { k with a := (b.getD 1 default / 16).toNat, b := (b.getD 1 default % 16).toNat } else k
def setImm (s : Int) (k : Ins) (b : List UInt8) (next : UInt32) : Ins :=
  if s = 4 ∨ s = 5 then { k with imm := sextP (b.getD 2 default) } else if s = 6 then { k with imm := longP b 2 } else if s = 7 then { k with imm := next + sextP (b.getD 1 default) } else if s = 8 then { k with imm := next + longP b 1 } else k
theorem applyP_two (s : Int) (k : Ins) (b : List UInt8) (next : UInt32) : applyP s k b next = setImm s (setAB s k b) b next := by
  unfold applyP setImm setAB
  by_cases h2 : s = 2
  · simp [h2]
  by_cases h3 : s = 3
  · simp [h3]
  by_cases h4 : s = 4
  · simp [h4]
  by_cases h5 : s = 5
  · simp [h5]
  by_cases h6 : s = 6
  · simp [h6]
  by_cases h7 : s = 7
  · simp [h7]
  by_cases h8 : s = 8
  · simp [h8]
  simp [h2, h3, h4, h5, h6, h7, h8]
theorem sizeP_spec (s : Int) : ((s = 0 ∨ s = 1) → sizeP s = 1) ∧ ((s = 2 ∨ s = 3 ∨ s = 7) → sizeP s = 2) ∧ ((s = 4 ∨ s = 5) → sizeP s = 3) ∧ (s = 6 → sizeP s = 6) ∧ (s = 8 → sizeP s = 5) := by
  unfold sizeP
  refine ⟨fun h => ?_, fun h => ?_, fun h => ?_, fun h => ?_, fun h => ?_⟩ <;> (repeat' split) <;> omega
theorem decP_1 {b : List UInt8} {addr : UInt32} (h : b.length = 0) : decP b addr = (zeroIns, 5) := by unfold decP; rw [if_pos h]
theorem decP_2 {b : List UInt8} {addr : UInt32} (h : b.length ≠ 0) (h2 : (rowP (b.getD 0 default)).2 = false) : decP b addr = (zeroIns, 13) := by unfold decP; rw [if_neg h, if_pos h2]
theorem decP_3 {b : List UInt8} {addr : UInt32} (h : b.length ≠ 0) (h2 : (rowP (b.getD 0 default)).2 = true) (h3 : (b.length : Int) < sizeP (opcodeP (rowP (b.getD 0 default)).1).2.1) : decP b addr = (zeroIns, 5) := by
  unfold decP; rw [if_neg h, if_neg (by rw [h2]; simp), if_pos h3]
theorem decP_4 {b : List UInt8} {addr : UInt32} (h : b.length ≠ 0) (h2 : (rowP (b.getD 0 default)).2 = true) (h3 : ¬ (b.length : Int) < sizeP (opcodeP (rowP (b.getD 0 default)).1).2.1) {k : Ins}
    (hk : k = setImm (opcodeP (rowP (b.getD 0 default)).1).2.1 (setAB (opcodeP (rowP (b.getD 0 default)).1).2.1 { (rowP (b.getD 0 default)).1 with addr := addr, size := sizeP (opcodeP (rowP (b.getD 0 default)).1).2.1 } b) b (addr + u32 (sizeP (opcodeP (rowP (b.getD 0 default)).1).2.1))) :
    decP b addr = if regP k.a = false ∨ regP k.b = false then (zeroIns, 13) else (k, 0) := by
  unfold decP; rw [if_neg h, if_neg (by rw [h2]; simp), if_neg h3]
  simp only [bodyP, applyP_two, ← hk]
end Go.HL
