/- Rules for single operations that leave memory alone. -/
import Derived.Test.YtfnedefgepjbpaaHl
import Derived.Laws.StructEq
set_option linter.unusedSimpArgs false
set_option linter.unusedVariables false
namespace Go.HL
open Go Go.RowKit

section
variable {P : Program} {N : Nat} {F : Bg} {L : List Ent} {M : Fr} {dst : Option Tmp} {ty : TypeId} {pos : String} {after : Array Edge} {g : Option (Nat × Bool)}

theorem QS.of_run {op : Op} {v : Value} (h : ∀ a w, FrOK N M a → HpOK F L w → (execOp a.eval ⟨dst, op, ty, pos, after, g⟩).run P w = .ok (.value v) w) : QS P N F L M ⟨dst, op, ty, pos, after, g⟩ v := by
  intro a w ha hw
  unfold Oper.quietAt
  rw [h a w ha hw]
  exact ⟨rfl, rfl⟩

theorem QS.move {x : Operand} {v : Value} (h : opv M x = some v) : QS P N F L M ⟨dst, .move x, ty, pos, after, g⟩ v :=
  QS.of_run fun a w ha _ => by simp [execOp, ha.eval h]
theorem QS.assign {x : Operand} {v : Value} (h : opv M x = some v) : QS P N F L M ⟨dst, .assign x, ty, pos, after, g⟩ v :=
  QS.of_run fun a w ha _ => by simp [execOp, ha.eval h]
theorem QS.pick {c x y : Operand} {b : Bool} {u v : Value} (hc : opv M c = some (.bool b)) (hx : opv M x = some u) (hy : opv M y = some v) :
    QS P N F L M ⟨dst, .pick c x y, ty, pos, after, g⟩ (if b then u else v) :=
  QS.of_run fun a w ha _ => by simp [execOp, ha.eval hc, ha.eval hx, ha.eval hy, asBool]
theorem QS.pickT {c x y : Operand} {b : Bool} {u : Value} (hc : opv M c = some (.bool b)) (hb : b = true) (hx : opv M x = some u) :
    QS P N F L M ⟨dst, .pick c x y, ty, pos, after, g⟩ u :=
  QS.of_run fun a w ha _ => by simp [execOp, ha.eval hc, ha.eval hx, asBool, hb]
theorem QS.pickF {c x y : Operand} {b : Bool} {u : Value} (hc : opv M c = some (.bool b)) (hb : b = false) (hy : opv M y = some u) :
    QS P N F L M ⟨dst, .pick c x y, ty, pos, after, g⟩ u :=
  QS.of_run fun a w ha _ => by simp [execOp, ha.eval hc, ha.eval hy, asBool, hb]
theorem QS.not {x : Operand} {t : TypeId} {b : Bool} (h : opv M x = some (.bool b)) : QS P N F L M ⟨dst, .unOp .not t x, ty, pos, after, g⟩ (.bool (!b)) :=
  QS.of_run fun a w ha _ => by simp [execOp, ha.eval h, Op.unary]
theorem QS.neg {x : Operand} {t : TypeId} {k : IntKind} {n : Int} (h : opv M x = some (.int k n)) : QS P N F L M ⟨dst, .unOp .neg t x, ty, pos, after, g⟩ (.int k (k.wrap (-n))) :=
  QS.of_run fun a w ha _ => by simp [execOp, ha.eval h, Op.unary, Op.intArith]
theorem QS.extract {x : Operand} {i : Nat} {vs : Array Value} {v : Value} (h : opv M x = some (.tuple vs)) (hi : vs[i]? = some v) : QS P N F L M ⟨dst, .extract x i, ty, pos, after, g⟩ v :=
  QS.of_run fun a w ha _ => by simp [execOp, ha.eval h, Instr.extract, hi]

/-! ### binary operations -/
theorem QS.bin {op : BinOp} {t u : TypeId} {x y : Operand} {k : IntKind} {k' : IntKind} {m n : Int} {v : Value} (hx : opv M x = some (.int k m)) (hy : opv M y = some (.int k' n))
    (hv : ∀ w, (binOp op t (.int k m) (.int k' n)).run P w = .ok v w) : QS P N F L M ⟨dst, .binOp op t x y u, ty, pos, after, g⟩ v :=
  QS.of_run fun a w ha _ => by
    have he : (eqGuard op t x y (.int k m) (.int k' n)).run P w = .ok () w := by
      unfold eqGuard; cases op <;> simp
    simp [execOp, ha.eval hx, ha.eval hy, hv, he]

section
variable {x y : Operand} {t u : TypeId} {k : IntKind} {m n : Int}
theorem QS.lss (hx : opv M x = some (.int k m)) (hy : opv M y = some (.int k n)) : QS P N F L M ⟨dst, .binOp .lss t x y u, ty, pos, after, g⟩ (.bool (decide (m < n))) :=
  QS.bin hx hy fun w => by simp [binOp, Op.intCmp]
theorem QS.leq (hx : opv M x = some (.int k m)) (hy : opv M y = some (.int k n)) : QS P N F L M ⟨dst, .binOp .leq t x y u, ty, pos, after, g⟩ (.bool (decide (m ≤ n))) :=
  QS.bin hx hy fun w => by simp [binOp, Op.intCmp]
theorem QS.gtr (hx : opv M x = some (.int k m)) (hy : opv M y = some (.int k n)) : QS P N F L M ⟨dst, .binOp .gtr t x y u, ty, pos, after, g⟩ (.bool (decide (n < m))) :=
  QS.bin hx hy fun w => by simp [binOp, Op.intCmp]
theorem QS.geq (hx : opv M x = some (.int k m)) (hy : opv M y = some (.int k n)) : QS P N F L M ⟨dst, .binOp .geq t x y u, ty, pos, after, g⟩ (.bool (decide (n ≤ m))) :=
  QS.bin hx hy fun w => by simp [binOp, Op.intCmp]
theorem QS.eql (hx : opv M x = some (.int k m)) (hy : opv M y = some (.int k n)) : QS P N F L M ⟨dst, .binOp .eql t x y u, ty, pos, after, g⟩ (.bool (decide (m = n))) :=
  QS.bin hx hy fun w => by simp [binOp, Op.intCmp]; rfl
theorem QS.neq (hx : opv M x = some (.int k m)) (hy : opv M y = some (.int k n)) : QS P N F L M ⟨dst, .binOp .neq t x y u, ty, pos, after, g⟩ (.bool (decide (m ≠ n))) :=
  QS.bin hx hy fun w => by
    simp [binOp, Op.intCmp, bne]
    cases h : m == n <;> simp_all
theorem QS.add (hx : opv M x = some (.int k m)) (hy : opv M y = some (.int k n)) : QS P N F L M ⟨dst, .binOp .add t x y u, ty, pos, after, g⟩ (.int k (k.wrap (m + n))) :=
  QS.bin hx hy fun w => by simp [binOp, Op.intArith]
theorem QS.sub (hx : opv M x = some (.int k m)) (hy : opv M y = some (.int k n)) : QS P N F L M ⟨dst, .binOp .sub t x y u, ty, pos, after, g⟩ (.int k (k.wrap (m - n))) :=
  QS.bin hx hy fun w => by simp [binOp, Op.intArith]
theorem QS.mul (hx : opv M x = some (.int k m)) (hy : opv M y = some (.int k n)) : QS P N F L M ⟨dst, .binOp .mul t x y u, ty, pos, after, g⟩ (.int k (k.wrap (m * n))) :=
  QS.bin hx hy fun w => by simp [binOp, Op.intArith]
/-- In range: 64 bits. -/
theorem QS.addI (hx : opv M x = some (.int .i64 m)) (hy : opv M y = some (.int .i64 n)) (h : -9223372036854775808 ≤ m + n ∧ m + n ≤ 9223372036854775807) :
    QS P N F L M ⟨dst, .binOp .add t x y u, ty, pos, after, g⟩ (.int .i64 (m + n)) := by have := QS.add (P := P) (N := N) (F := F) (L := L) (dst := dst) (ty := ty) (pos := pos) (after := after) (g := g) (t := t) (u := u) hx hy; rwa [IntWalk.i64_in _ h] at this
theorem QS.subI (hx : opv M x = some (.int .i64 m)) (hy : opv M y = some (.int .i64 n)) (h : -9223372036854775808 ≤ m - n ∧ m - n ≤ 9223372036854775807) :
    QS P N F L M ⟨dst, .binOp .sub t x y u, ty, pos, after, g⟩ (.int .i64 (m - n)) := by have := QS.sub (P := P) (N := N) (F := F) (L := L) (dst := dst) (ty := ty) (pos := pos) (after := after) (g := g) (t := t) (u := u) hx hy; rwa [IntWalk.i64_in _ h] at this
theorem QS.mulI (hx : opv M x = some (.int .i64 m)) (hy : opv M y = some (.int .i64 n)) (h : -9223372036854775808 ≤ m * n ∧ m * n ≤ 9223372036854775807) :
    QS P N F L M ⟨dst, .binOp .mul t x y u, ty, pos, after, g⟩ (.int .i64 (m * n)) := by have := QS.mul (P := P) (N := N) (F := F) (L := L) (dst := dst) (ty := ty) (pos := pos) (after := after) (g := g) (t := t) (u := u) hx hy; rwa [IntWalk.i64_in _ h] at this
theorem QS.addU (hx : opv M x = some (.int .u64 m)) (hy : opv M y = some (.int .u64 n)) (h : 0 ≤ m + n ∧ m + n ≤ 18446744073709551615) :
    QS P N F L M ⟨dst, .binOp .add t x y u, ty, pos, after, g⟩ (.int .u64 (m + n)) := by have := QS.add (P := P) (N := N) (F := F) (L := L) (dst := dst) (ty := ty) (pos := pos) (after := after) (g := g) (t := t) (u := u) hx hy; rwa [IntWalk.u64_in _ h] at this
theorem QS.subU (hx : opv M x = some (.int .u64 m)) (hy : opv M y = some (.int .u64 n)) (h : 0 ≤ m - n ∧ m - n ≤ 18446744073709551615) :
    QS P N F L M ⟨dst, .binOp .sub t x y u, ty, pos, after, g⟩ (.int .u64 (m - n)) := by have := QS.sub (P := P) (N := N) (F := F) (L := L) (dst := dst) (ty := ty) (pos := pos) (after := after) (g := g) (t := t) (u := u) hx hy; rwa [IntWalk.u64_in _ h] at this
theorem QS.mulU (hx : opv M x = some (.int .u64 m)) (hy : opv M y = some (.int .u64 n)) (h : 0 ≤ m * n ∧ m * n ≤ 18446744073709551615) :
    QS P N F L M ⟨dst, .binOp .mul t x y u, ty, pos, after, g⟩ (.int .u64 (m * n)) := by have := QS.mul (P := P) (N := N) (F := F) (L := L) (dst := dst) (ty := ty) (pos := pos) (after := after) (g := g) (t := t) (u := u) hx hy; rwa [IntWalk.u64_in _ h] at this
/-- Division of what is not negative by what is positive. -/
theorem QS.quoI (hx : opv M x = some (.int .i64 m)) (hy : opv M y = some (.int .i64 n)) (h : 0 ≤ m ∧ m ≤ 9223372036854775807 ∧ 1 ≤ n) :
    QS P N F L M ⟨dst, .binOp .quo t x y u, ty, pos, after, g⟩ (.int .i64 (m / n)) :=
  QS.bin hx hy fun w => by
    have hn : n ≠ 0 := by omega
    have := IntWalk.i64_quo m n h
    simp [binOp, Op.intDiv, hn, this]
theorem QS.quoU (hx : opv M x = some (.int .u64 m)) (hy : opv M y = some (.int .u64 n)) (h : 0 ≤ m ∧ m ≤ 18446744073709551615 ∧ 1 ≤ n) :
    QS P N F L M ⟨dst, .binOp .quo t x y u, ty, pos, after, g⟩ (.int .u64 (m / n)) :=
  QS.bin hx hy fun w => by
    have hn : n ≠ 0 := by omega
    have := IntWalk.u64_quo m n h
    simp [binOp, Op.intDiv, hn, this]
theorem QS.remI (hx : opv M x = some (.int k m)) (hy : opv M y = some (.int k n)) (h : 0 ≤ m ∧ 1 ≤ n) :
    QS P N F L M ⟨dst, .binOp .rem t x y u, ty, pos, after, g⟩ (.int k (m % n)) :=
  QS.bin hx hy fun w => by
    have hn : n ≠ 0 := by omega
    have := Int.tmod_eq_emod_of_nonneg (a := m) (b := n) h.1
    simp [binOp, Op.intDiv, hn, this]
/-- Shifts of 64 bits by what is not negative. -/
theorem QS.shr {k' : IntKind} (hx : opv M x = some (.int k m)) (hy : opv M y = some (.int k' n)) (h : 0 ≤ n) :
    QS P N F L M ⟨dst, .binOp .shr t x y u, ty, pos, after, g⟩ (.int k (m.fdiv (2 ^ (min n.toNat k.bits)))) :=
  QS.bin hx hy fun w => by
    have : ¬ n < 0 := by omega
    simp [binOp, Op.shift, this]
theorem QS.shl {k' : IntKind} (hx : opv M x = some (.int k m)) (hy : opv M y = some (.int k' n)) (h : 0 ≤ n) :
    QS P N F L M ⟨dst, .binOp .shl t x y u, ty, pos, after, g⟩ (.int k (k.wrap (m * 2 ^ (min n.toNat k.bits)))) :=
  QS.bin hx hy fun w => by
    have : ¬ n < 0 := by omega
    simp [binOp, Op.shift, this]
theorem QS.and (hx : opv M x = some (.int k m)) (hy : opv M y = some (.int k n)) :
    QS P N F L M ⟨dst, .binOp .and t x y u, ty, pos, after, g⟩ (.int k (k.wrap (BitVec.ofInt k.bits m &&& BitVec.ofInt k.bits n).toNat)) :=
  QS.bin hx hy fun w => by simp [binOp, Op.intBits]
theorem QS.or (hx : opv M x = some (.int k m)) (hy : opv M y = some (.int k n)) :
    QS P N F L M ⟨dst, .binOp .or t x y u, ty, pos, after, g⟩ (.int k (k.wrap (BitVec.ofInt k.bits m ||| BitVec.ofInt k.bits n).toNat)) :=
  QS.bin hx hy fun w => by simp [binOp, Op.intBits]
theorem QS.xor (hx : opv M x = some (.int k m)) (hy : opv M y = some (.int k n)) :
    QS P N F L M ⟨dst, .binOp .xor t x y u, ty, pos, after, g⟩ (.int k (k.wrap (BitVec.ofInt k.bits m ^^^ BitVec.ofInt k.bits n).toNat)) :=
  QS.bin hx hy fun w => by simp [binOp, Op.intBits]
end

/-! ### 32 and 8 bits, as Lean's own fixed-width numbers -/
section
variable {x y : Operand} {t u : TypeId} {m n : UInt32}
theorem wrapU32 (z : Int) : IntKind.u32.wrap z = ((UInt32.ofNat (z % 4294967296).toNat).toNat : Int) := by
  rw [IntKind.wrap_u32]
  simp [UInt32.toNat_ofNat']
  omega
theorem wrapU8 (z : Int) : IntKind.u8.wrap z = ((UInt8.ofNat (z % 256).toNat).toNat : Int) := by
  rw [IntKind.wrap_u8]
  simp [UInt8.toNat_ofNat']
  omega
theorem QS.lss32 (hx : opv M x = some (.int .u32 m.toNat)) (hy : opv M y = some (.int .u32 n.toNat)) : QS P N F L M ⟨dst, .binOp .lss t x y u, ty, pos, after, g⟩ (.bool (decide (m < n))) := by
  have := QS.lss (P := P) (N := N) (F := F) (L := L) (dst := dst) (ty := ty) (pos := pos) (after := after) (g := g) (t := t) (u := u) hx hy
  simpa [UInt32.lt_iff_toNat_lt] using this
theorem QS.leq32 (hx : opv M x = some (.int .u32 m.toNat)) (hy : opv M y = some (.int .u32 n.toNat)) : QS P N F L M ⟨dst, .binOp .leq t x y u, ty, pos, after, g⟩ (.bool (decide (m ≤ n))) := by
  have := QS.leq (P := P) (N := N) (F := F) (L := L) (dst := dst) (ty := ty) (pos := pos) (after := after) (g := g) (t := t) (u := u) hx hy
  simpa [UInt32.le_iff_toNat_le] using this
theorem QS.gtr32 (hx : opv M x = some (.int .u32 m.toNat)) (hy : opv M y = some (.int .u32 n.toNat)) : QS P N F L M ⟨dst, .binOp .gtr t x y u, ty, pos, after, g⟩ (.bool (decide (n < m))) := by
  have := QS.gtr (P := P) (N := N) (F := F) (L := L) (dst := dst) (ty := ty) (pos := pos) (after := after) (g := g) (t := t) (u := u) hx hy
  simpa [UInt32.lt_iff_toNat_lt] using this
theorem QS.geq32 (hx : opv M x = some (.int .u32 m.toNat)) (hy : opv M y = some (.int .u32 n.toNat)) : QS P N F L M ⟨dst, .binOp .geq t x y u, ty, pos, after, g⟩ (.bool (decide (n ≤ m))) := by
  have := QS.geq (P := P) (N := N) (F := F) (L := L) (dst := dst) (ty := ty) (pos := pos) (after := after) (g := g) (t := t) (u := u) hx hy
  simpa [UInt32.le_iff_toNat_le] using this
theorem QS.eql32 (hx : opv M x = some (.int .u32 m.toNat)) (hy : opv M y = some (.int .u32 n.toNat)) : QS P N F L M ⟨dst, .binOp .eql t x y u, ty, pos, after, g⟩ (.bool (decide (m = n))) := by
  have := QS.eql (P := P) (N := N) (F := F) (L := L) (dst := dst) (ty := ty) (pos := pos) (after := after) (g := g) (t := t) (u := u) hx hy
  rwa [decide_eq_decide.2 (show ((m.toNat : Int) = n.toNat) ↔ m = n by rw [Int.natCast_inj, UInt32.toNat_inj])] at this
theorem QS.neq32 (hx : opv M x = some (.int .u32 m.toNat)) (hy : opv M y = some (.int .u32 n.toNat)) : QS P N F L M ⟨dst, .binOp .neq t x y u, ty, pos, after, g⟩ (.bool (decide (m ≠ n))) := by
  have := QS.neq (P := P) (N := N) (F := F) (L := L) (dst := dst) (ty := ty) (pos := pos) (after := after) (g := g) (t := t) (u := u) hx hy
  rwa [decide_eq_decide.2 (show ((m.toNat : Int) ≠ n.toNat) ↔ m ≠ n by rw [ne_eq, Int.natCast_inj, UInt32.toNat_inj])] at this
theorem QS.add32 (hx : opv M x = some (.int .u32 m.toNat)) (hy : opv M y = some (.int .u32 n.toNat)) : QS P N F L M ⟨dst, .binOp .add t x y u, ty, pos, after, g⟩ (.int .u32 (m + n).toNat) := by
  have := QS.add (P := P) (N := N) (F := F) (L := L) (dst := dst) (ty := ty) (pos := pos) (after := after) (g := g) (t := t) (u := u) hx hy
  rw [IntKind.wrap_u32] at this
  rw [UInt32.toNat_add]
  simpa using this
theorem QS.sub32 (hx : opv M x = some (.int .u32 m.toNat)) (hy : opv M y = some (.int .u32 n.toNat)) : QS P N F L M ⟨dst, .binOp .sub t x y u, ty, pos, after, g⟩ (.int .u32 (m - n).toNat) := by
  have := QS.sub (P := P) (N := N) (F := F) (L := L) (dst := dst) (ty := ty) (pos := pos) (after := after) (g := g) (t := t) (u := u) hx hy
  have e : IntKind.u32.wrap ((m.toNat : Int) - n.toNat) = ((m - n).toNat : Int) := by
    rw [IntKind.wrap_u32, UInt32.toNat_sub]
    have := m.toNat_lt; have := n.toNat_lt
    omega
  rwa [e] at this
theorem QS.mul32 (hx : opv M x = some (.int .u32 m.toNat)) (hy : opv M y = some (.int .u32 n.toNat)) : QS P N F L M ⟨dst, .binOp .mul t x y u, ty, pos, after, g⟩ (.int .u32 (m * n).toNat) := by
  have := QS.mul (P := P) (N := N) (F := F) (L := L) (dst := dst) (ty := ty) (pos := pos) (after := after) (g := g) (t := t) (u := u) hx hy
  rw [IntKind.wrap_u32] at this
  rw [UInt32.toNat_mul]
  simpa using this
theorem QS.and32 (hx : opv M x = some (.int .u32 m.toNat)) (hy : opv M y = some (.int .u32 n.toNat)) : QS P N F L M ⟨dst, .binOp .and t x y u, ty, pos, after, g⟩ (.int .u32 (m &&& n).toNat) := by
  have := QS.and (P := P) (N := N) (F := F) (L := L) (dst := dst) (ty := ty) (pos := pos) (after := after) (g := g) (t := t) (u := u) hx hy
  have e : IntKind.u32.wrap ((BitVec.ofInt IntKind.u32.bits m.toNat &&& BitVec.ofInt IntKind.u32.bits n.toNat).toNat : Int) = ((m &&& n).toNat : Int) := by
    have h1 : BitVec.ofInt 32 (m.toNat : Int) = m.toBitVec := by simp
    have h2 : BitVec.ofInt 32 (n.toNat : Int) = n.toBitVec := by simp
    show IntKind.u32.wrap ((BitVec.ofInt 32 m.toNat &&& BitVec.ofInt 32 n.toNat).toNat : Int) = _
    rw [h1, h2, IntKind.wrap_u32]
    have := (m &&& n).toNat_lt
    show ((m &&& n).toNat : Int) % 4294967296 = _
    omega
  rwa [e] at this
theorem QS.or32 (hx : opv M x = some (.int .u32 m.toNat)) (hy : opv M y = some (.int .u32 n.toNat)) : QS P N F L M ⟨dst, .binOp .or t x y u, ty, pos, after, g⟩ (.int .u32 (m ||| n).toNat) := by
  have := QS.or (P := P) (N := N) (F := F) (L := L) (dst := dst) (ty := ty) (pos := pos) (after := after) (g := g) (t := t) (u := u) hx hy
  have e : IntKind.u32.wrap ((BitVec.ofInt IntKind.u32.bits m.toNat ||| BitVec.ofInt IntKind.u32.bits n.toNat).toNat : Int) = ((m ||| n).toNat : Int) := by
    have h1 : BitVec.ofInt 32 (m.toNat : Int) = m.toBitVec := by simp
    have h2 : BitVec.ofInt 32 (n.toNat : Int) = n.toBitVec := by simp
    show IntKind.u32.wrap ((BitVec.ofInt 32 m.toNat ||| BitVec.ofInt 32 n.toNat).toNat : Int) = _
    rw [h1, h2, IntKind.wrap_u32]
    have := (m ||| n).toNat_lt
    show ((m ||| n).toNat : Int) % 4294967296 = _
    omega
  rwa [e] at this
theorem QS.xor32 (hx : opv M x = some (.int .u32 m.toNat)) (hy : opv M y = some (.int .u32 n.toNat)) : QS P N F L M ⟨dst, .binOp .xor t x y u, ty, pos, after, g⟩ (.int .u32 (m ^^^ n).toNat) := by
  have := QS.xor (P := P) (N := N) (F := F) (L := L) (dst := dst) (ty := ty) (pos := pos) (after := after) (g := g) (t := t) (u := u) hx hy
  have e : IntKind.u32.wrap ((BitVec.ofInt IntKind.u32.bits m.toNat ^^^ BitVec.ofInt IntKind.u32.bits n.toNat).toNat : Int) = ((m ^^^ n).toNat : Int) := by
    have h1 : BitVec.ofInt 32 (m.toNat : Int) = m.toBitVec := by simp
    have h2 : BitVec.ofInt 32 (n.toNat : Int) = n.toBitVec := by simp
    show IntKind.u32.wrap ((BitVec.ofInt 32 m.toNat ^^^ BitVec.ofInt 32 n.toNat).toNat : Int) = _
    rw [h1, h2, IntKind.wrap_u32]
    have := (m ^^^ n).toNat_lt
    show ((m ^^^ n).toNat : Int) % 4294967296 = _
    omega
  rwa [e] at this
/-- Shifts of a 32-bit number by any count that is not negative. -/
def shl32 (m : UInt32) (n : Nat) : UInt32 := ⟨m.toBitVec <<< n⟩
def shr32 (m : UInt32) (n : Nat) : UInt32 := ⟨m.toBitVec >>> n⟩
theorem shl32_toNat (m : UInt32) (n : Nat) : (shl32 m n).toNat = m.toNat * 2 ^ n % 4294967296 := by
  show (m.toBitVec <<< n).toNat = _
  simp [BitVec.toNat_shiftLeft, Nat.shiftLeft_eq]
theorem shr32_toNat (m : UInt32) (n : Nat) : (shr32 m n).toNat = m.toNat / 2 ^ n := by
  show (m.toBitVec >>> n).toNat = _
  simp [BitVec.toNat_ushiftRight, Nat.shiftRight_eq_div_pow]
theorem pow_min_dvd (m c : Nat) (hc : 32 ≤ c) : m * 2 ^ c % 4294967296 = 0 := by
  obtain ⟨d, rfl⟩ := Nat.exists_eq_add_of_le hc
  rw [Nat.pow_add, ← Nat.mul_assoc, Nat.mul_right_comm]
  exact Nat.mul_mod_left _ _
theorem QS.shl32 {k' : IntKind} {c : Int} (hx : opv M x = some (.int .u32 m.toNat)) (hy : opv M y = some (.int k' c)) (h : 0 ≤ c) :
    QS P N F L M ⟨dst, .binOp .shl t x y u, ty, pos, after, g⟩ (.int .u32 (HL.shl32 m c.toNat).toNat) := by
  have := QS.shl (P := P) (N := N) (F := F) (L := L) (dst := dst) (ty := ty) (pos := pos) (after := after) (g := g) (t := t) (u := u) hx hy h
  have e : IntKind.u32.wrap ((m.toNat : Int) * 2 ^ (min c.toNat IntKind.u32.bits)) = ((HL.shl32 m c.toNat).toNat : Int) := by
    rw [IntKind.wrap_u32, shl32_toNat]
    have h1 : ((m.toNat : Int) * 2 ^ (min c.toNat IntKind.u32.bits)) = ((m.toNat * 2 ^ (min c.toNat 32) : Nat) : Int) := by
      rw [Int.natCast_mul, Int.natCast_pow]; rfl
    rw [h1]
    by_cases hc : c.toNat ≤ 32
    · rw [Nat.min_eq_left hc]; rfl
    · rw [Nat.min_eq_right (by omega)]
      have h2 := pow_min_dvd m.toNat 32 (by omega)
      have h3 := pow_min_dvd m.toNat c.toNat (by omega)
      omega
  rwa [e] at this
theorem QS.shr32 {k' : IntKind} {c : Int} (hx : opv M x = some (.int .u32 m.toNat)) (hy : opv M y = some (.int k' c)) (h : 0 ≤ c) :
    QS P N F L M ⟨dst, .binOp .shr t x y u, ty, pos, after, g⟩ (.int .u32 (HL.shr32 m c.toNat).toNat) := by
  have := QS.shr (P := P) (N := N) (F := F) (L := L) (dst := dst) (ty := ty) (pos := pos) (after := after) (g := g) (t := t) (u := u) hx hy h
  have e : (m.toNat : Int).fdiv (2 ^ (min c.toNat IntKind.u32.bits)) = ((HL.shr32 m c.toNat).toNat : Int) := by
    rw [shr32_toNat]
    have h1 : ((2 : Int) ^ (min c.toNat IntKind.u32.bits)) = ((2 ^ (min c.toNat 32) : Nat) : Int) := by rw [Int.natCast_pow]; rfl
    rw [h1, Int.fdiv_eq_ediv_of_nonneg _ (Int.natCast_nonneg _)]
    by_cases hc : c.toNat ≤ 32
    · rw [Nat.min_eq_left hc]; rfl
    · rw [Nat.min_eq_right (by omega)]
      have h4 := m.toNat_lt
      have h5 : m.toNat / 2 ^ 32 = 0 := Nat.div_eq_of_lt h4
      have h6 : m.toNat / 2 ^ c.toNat = 0 := Nat.div_eq_of_lt (Nat.lt_of_lt_of_le h4 (Nat.pow_le_pow_right (by omega) (by omega)))
      rw [h6, ← Int.natCast_ediv, h5]
  rwa [e] at this
theorem QS.quo32 (hx : opv M x = some (.int .u32 m.toNat)) (hy : opv M y = some (.int .u32 n.toNat)) (h : n ≠ 0) : QS P N F L M ⟨dst, .binOp .quo t x y u, ty, pos, after, g⟩ (.int .u32 (m / n).toNat) :=
  QS.bin hx hy fun w => by
    have h0 : n.toNat ≠ 0 := fun e => h (by rw [← UInt32.toNat_inj]; simpa using e)
    have hn : (n.toNat : Int) ≠ 0 := by omega
    have h1 := m.toNat_lt
    have := IntWalk.u32_quo m.toNat n.toNat ⟨by omega, by omega, by omega⟩
    rw [UInt32.toNat_div, Int.natCast_ediv, ← this]
    simp only [binOp, Op.intDiv, hn, if_false]
    rfl
theorem QS.rem32 (hx : opv M x = some (.int .u32 m.toNat)) (hy : opv M y = some (.int .u32 n.toNat)) (h : n ≠ 0) : QS P N F L M ⟨dst, .binOp .rem t x y u, ty, pos, after, g⟩ (.int .u32 (m % n).toNat) :=
  QS.bin hx hy fun w => by
    have h0 : n.toNat ≠ 0 := fun e => h (by rw [← UInt32.toNat_inj]; simpa using e)
    have hn : (n.toNat : Int) ≠ 0 := by omega
    have := Int.tmod_eq_emod_of_nonneg (a := (m.toNat : Int)) (b := n.toNat) (by omega)
    rw [UInt32.toNat_mod, Int.natCast_emod, ← this]
    simp only [binOp, Op.intDiv, hn, if_false]
    rfl
end

section
variable {x y : Operand} {t u : TypeId} {m n : UInt8}
theorem QS.lss8 (hx : opv M x = some (.int .u8 m.toNat)) (hy : opv M y = some (.int .u8 n.toNat)) : QS P N F L M ⟨dst, .binOp .lss t x y u, ty, pos, after, g⟩ (.bool (decide (m < n))) := by
  have := QS.lss (P := P) (N := N) (F := F) (L := L) (dst := dst) (ty := ty) (pos := pos) (after := after) (g := g) (t := t) (u := u) hx hy
  simpa [UInt8.lt_iff_toNat_lt] using this
theorem QS.leq8 (hx : opv M x = some (.int .u8 m.toNat)) (hy : opv M y = some (.int .u8 n.toNat)) : QS P N F L M ⟨dst, .binOp .leq t x y u, ty, pos, after, g⟩ (.bool (decide (m ≤ n))) := by
  have := QS.leq (P := P) (N := N) (F := F) (L := L) (dst := dst) (ty := ty) (pos := pos) (after := after) (g := g) (t := t) (u := u) hx hy
  simpa [UInt8.le_iff_toNat_le] using this
theorem QS.gtr8 (hx : opv M x = some (.int .u8 m.toNat)) (hy : opv M y = some (.int .u8 n.toNat)) : QS P N F L M ⟨dst, .binOp .gtr t x y u, ty, pos, after, g⟩ (.bool (decide (n < m))) := by
  have := QS.gtr (P := P) (N := N) (F := F) (L := L) (dst := dst) (ty := ty) (pos := pos) (after := after) (g := g) (t := t) (u := u) hx hy
  simpa [UInt8.lt_iff_toNat_lt] using this
theorem QS.geq8 (hx : opv M x = some (.int .u8 m.toNat)) (hy : opv M y = some (.int .u8 n.toNat)) : QS P N F L M ⟨dst, .binOp .geq t x y u, ty, pos, after, g⟩ (.bool (decide (n ≤ m))) := by
  have := QS.geq (P := P) (N := N) (F := F) (L := L) (dst := dst) (ty := ty) (pos := pos) (after := after) (g := g) (t := t) (u := u) hx hy
  simpa [UInt8.le_iff_toNat_le] using this
theorem QS.eql8 (hx : opv M x = some (.int .u8 m.toNat)) (hy : opv M y = some (.int .u8 n.toNat)) : QS P N F L M ⟨dst, .binOp .eql t x y u, ty, pos, after, g⟩ (.bool (decide (m = n))) := by
  have := QS.eql (P := P) (N := N) (F := F) (L := L) (dst := dst) (ty := ty) (pos := pos) (after := after) (g := g) (t := t) (u := u) hx hy
  rwa [decide_eq_decide.2 (show ((m.toNat : Int) = n.toNat) ↔ m = n by rw [Int.natCast_inj, UInt8.toNat_inj])] at this
theorem QS.neq8 (hx : opv M x = some (.int .u8 m.toNat)) (hy : opv M y = some (.int .u8 n.toNat)) : QS P N F L M ⟨dst, .binOp .neq t x y u, ty, pos, after, g⟩ (.bool (decide (m ≠ n))) := by
  have := QS.neq (P := P) (N := N) (F := F) (L := L) (dst := dst) (ty := ty) (pos := pos) (after := after) (g := g) (t := t) (u := u) hx hy
  rwa [decide_eq_decide.2 (show ((m.toNat : Int) ≠ n.toNat) ↔ m ≠ n by rw [ne_eq, Int.natCast_inj, UInt8.toNat_inj])] at this
theorem QS.add8 (hx : opv M x = some (.int .u8 m.toNat)) (hy : opv M y = some (.int .u8 n.toNat)) : QS P N F L M ⟨dst, .binOp .add t x y u, ty, pos, after, g⟩ (.int .u8 (m + n).toNat) := by
  have := QS.add (P := P) (N := N) (F := F) (L := L) (dst := dst) (ty := ty) (pos := pos) (after := after) (g := g) (t := t) (u := u) hx hy
  rw [IntKind.wrap_u8] at this
  rw [UInt8.toNat_add]
  simpa using this
theorem QS.sub8 (hx : opv M x = some (.int .u8 m.toNat)) (hy : opv M y = some (.int .u8 n.toNat)) : QS P N F L M ⟨dst, .binOp .sub t x y u, ty, pos, after, g⟩ (.int .u8 (m - n).toNat) := by
  have := QS.sub (P := P) (N := N) (F := F) (L := L) (dst := dst) (ty := ty) (pos := pos) (after := after) (g := g) (t := t) (u := u) hx hy
  have e : IntKind.u8.wrap ((m.toNat : Int) - n.toNat) = ((m - n).toNat : Int) := by
    rw [IntKind.wrap_u8, UInt8.toNat_sub]
    have := m.toNat_lt; have := n.toNat_lt
    omega
  rwa [e] at this
end

/-! ### conversions -/
section
variable {x : Operand} {s d : TypeId} {ds : TypeDesc}
theorem QS.cvt {k k' : IntKind} {n : Int} (hx : opv M x = some (.int k n)) (hs : P.underlying s = some ds) (hd : P.underlying d = some (.int k')) :
    QS P N F L M ⟨dst, .convert s d x, ty, pos, after, g⟩ (.int k' (k'.wrap n)) :=
  QS.of_run fun a w ha _ => by
    simp [execOp, ha.eval hx, convert, run_underlying hs, run_underlying hd, Conv.intToInt]
theorem QS.cvtIn {k k' : IntKind} {n : Int} (hx : opv M x = some (.int k n)) (hs : P.underlying s = some ds) (hd : P.underlying d = some (.int k')) (h : k'.wrap n = n) :
    QS P N F L M ⟨dst, .convert s d x, ty, pos, after, g⟩ (.int k' n) := by
  have := QS.cvt (N := N) (F := F) (L := L) (dst := dst) (ty := ty) (pos := pos) (after := after) (g := g) hx hs hd
  rwa [h] at this
theorem QS.cvt8to32 {n : UInt8} (hx : opv M x = some (.int .u8 n.toNat)) (hs : P.underlying s = some ds) (hd : P.underlying d = some (.int .u32)) :
    QS P N F L M ⟨dst, .convert s d x, ty, pos, after, g⟩ (.int .u32 n.toUInt32.toNat) := by
  have := QS.cvt (N := N) (F := F) (L := L) (dst := dst) (ty := ty) (pos := pos) (after := after) (g := g) hx hs hd
  have h := n.toNat_lt
  rw [IntWalk.u32_in _ (by omega)] at this
  rwa [UInt8.toNat_toUInt32]
theorem QS.cvt32to8 {n : UInt32} (hx : opv M x = some (.int .u32 n.toNat)) (hs : P.underlying s = some ds) (hd : P.underlying d = some (.int .u8)) :
    QS P N F L M ⟨dst, .convert s d x, ty, pos, after, g⟩ (.int .u8 n.toUInt8.toNat) := by
  have := QS.cvt (N := N) (F := F) (L := L) (dst := dst) (ty := ty) (pos := pos) (after := after) (g := g) hx hs hd
  rw [IntKind.wrap_u8] at this
  rw [UInt32.toNat_toUInt8]
  simpa using this
theorem QS.cvt8toI {n : UInt8} (hx : opv M x = some (.int .u8 n.toNat)) (hs : P.underlying s = some ds) (hd : P.underlying d = some (.int .i64)) :
    QS P N F L M ⟨dst, .convert s d x, ty, pos, after, g⟩ (.int .i64 n.toNat) := by
  have h := n.toNat_lt
  exact QS.cvtIn hx hs hd (IntWalk.i64_in _ (by omega))
theorem QS.cvt32toI {n : UInt32} (hx : opv M x = some (.int .u32 n.toNat)) (hs : P.underlying s = some ds) (hd : P.underlying d = some (.int .i64)) :
    QS P N F L M ⟨dst, .convert s d x, ty, pos, after, g⟩ (.int .i64 n.toNat) := by
  have h := n.toNat_lt
  exact QS.cvtIn hx hs hd (IntWalk.i64_in _ (by omega))
theorem QS.cvt32toU {n : UInt32} (hx : opv M x = some (.int .u32 n.toNat)) (hs : P.underlying s = some ds) (hd : P.underlying d = some (.int .u64)) :
    QS P N F L M ⟨dst, .convert s d x, ty, pos, after, g⟩ (.int .u64 n.toNat) := by
  have h := n.toNat_lt
  exact QS.cvtIn hx hs hd (IntWalk.u64_in _ (by omega))
/-- A 64-bit number cut to 32 bits, to 8 bits. -/
def u32 (n : Int) : UInt32 := UInt32.ofNat (n % 4294967296).toNat
def u8 (n : Int) : UInt8 := UInt8.ofNat (n % 256).toNat
theorem u32_toNat (n : Int) : ((u32 n).toNat : Int) = n % 4294967296 := by simp [u32, UInt32.toNat_ofNat']; omega
theorem u8_toNat (n : Int) : ((u8 n).toNat : Int) = n % 256 := by simp [u8, UInt8.toNat_ofNat']; omega
theorem QS.cvtTo32 {k : IntKind} {n : Int} (hx : opv M x = some (.int k n)) (hs : P.underlying s = some ds) (hd : P.underlying d = some (.int .u32)) :
    QS P N F L M ⟨dst, .convert s d x, ty, pos, after, g⟩ (.int .u32 (u32 n).toNat) := by
  have := QS.cvt (N := N) (F := F) (L := L) (dst := dst) (ty := ty) (pos := pos) (after := after) (g := g) hx hs hd
  rwa [wrapU32] at this
theorem QS.cvtTo8 {k : IntKind} {n : Int} (hx : opv M x = some (.int k n)) (hs : P.underlying s = some ds) (hd : P.underlying d = some (.int .u8)) :
    QS P N F L M ⟨dst, .convert s d x, ty, pos, after, g⟩ (.int .u8 (u8 n).toNat) := by
  have := QS.cvt (N := N) (F := F) (L := L) (dst := dst) (ty := ty) (pos := pos) (after := after) (g := g) hx hs hd
  rwa [wrapU8] at this
end

/-! ### calls that hand back a known value and leave memory as it was (but for new blocks) -/
theorem QS.call {f : FuncId} {xs : List Operand} {vs : List Value} {ts : Array TypeId} {v : Value} (hx : opvs M xs = some vs)
    (he : ∀ (args : Array Value) (w : World), (callFunc f args).run P w = .ok (.enter f args) w)
    (hc : ∀ w, HpOK F L w → Calls P f vs.toArray w fun e w' => e = .returned v ∧ Ext w w') :
    QS P N F L M ⟨dst, .call { callee := .value (.func f), args := xs.toArray, argTypes := ts }, ty, pos, after, g⟩ v := by
  intro a w ha hw
  have hr : (execOp a.eval ⟨dst, .call { callee := .value (.func f), args := xs.toArray, argTypes := ts }, ty, pos, after, g⟩).run P w = .ok (.enter f vs.toArray) w := by
    have := ha.evals hx
    simp [execOp, resolve, Deferred.ofValue, Act.eval, invoke, he, this]
  unfold Oper.quietAt
  rw [hr]
  exact ⟨rfl, (hc w hw).mono fun e w' ⟨h1, h2⟩ => ⟨h1, hw.grow h2⟩⟩
end
end Go.HL
