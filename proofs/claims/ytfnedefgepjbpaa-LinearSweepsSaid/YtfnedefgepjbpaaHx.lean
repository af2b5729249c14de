/- Rules for sorting one's own slice in place: a store of a whole element, a call that changes it as a relation says, operations that look at the frame alone. -/
import Derived.Test.YtfnedefgepjbpaaHw
import Derived.Test.YtfnedefgepjbpaaHj
set_option linter.unusedSimpArgs false
set_option linter.unusedVariables false
namespace Go.HL
open Go Go.RowKit
section
variable {P : Program} {ops : Array Oper} {Q : Exit → Act → World → Prop} {N : Nat} {F : Bg} {L : List Ent} {M : Fr} {ty : TypeId} {pos : String} {after : Array Edge} {rest : List Oper} {d : Nat} {op : Op}

theorem flatMap_setEl {α : Type} (E : Enc α) (x' : α) : ∀ (l : List α) (i : Nat), i < l.length → (l.set i x').flatMap E.enc = splice (l.flatMap E.enc) (i * E.k) (E.enc x')
  | [], i, h => by simp at h
  | y :: l, 0, _ => by
    simp only [List.set_cons_zero, List.flatMap_cons, Nat.zero_mul, splice, List.take_zero, List.nil_append, Nat.zero_add, E.len]
    rw [List.drop_append_of_le_length (by rw [E.len]; exact Nat.le_refl _), List.drop_of_length_le (by rw [E.len]; exact Nat.le_refl _)]; rfl
  | y :: l, i + 1, h => by
    have ih := flatMap_setEl E x' l i (by simpa using h)
    simp only [List.set_cons_succ, List.flatMap_cons, ih, splice]
    have hl : (E.enc y).length = E.k := E.len y
    rw [show (i + 1) * E.k = (E.enc y).length + i * E.k by rw [hl, Nat.add_mul]; omega, List.take_length_add_append, show (E.enc y).length + i * E.k + (E.enc x').length = (E.enc y).length + (i * E.k + (E.enc x').length) by omega, List.drop_length_add_append]
    simp only [List.append_assoc]
theorem take_splice {cs v : List Value} {o n : Nat} (h : o + v.length ≤ n) (hn : n ≤ cs.length) : (splice cs o v).take n = splice (cs.take n) o v := by
  apply List.ext_getElem?
  intro q
  simp only [splice, List.getElem?_take, List.getElem?_append, List.length_take, List.getElem?_drop, List.length_append]
  grind
/-- A store of a whole element of one's own slice. -/
theorem Tr.storeEl {α : Type} {E : Enc α} {l : List α} (x' : α) {x y : Operand} {t T : TypeId} {V v : Value} {i : Nat} {L' : List Ent} {dst : Option Tmp} (hx : opv M x = some (.pointer (some ⟨bk V, ofs V + i * E.k, none⟩))) (hy : opv M y = some v)
    (hz : ∀ w, (sizeOf t).run P w = .ok E.k w) (hput : Put (rowE V T E l) (rowE V T E (l.set i x')) L L') (hi : i < l.length) (hc : v.cells.toList = E.enc x') (hdst : dst = none)
    (K : Tr N F L' M (wpList P ops Q rest)) : Tr N F L M (wpList P ops Q (⟨dst, .store t x y, ty, pos, after, none⟩ :: rest)) := by
  subst hdst
  intro a w ha hw
  refine wpList_plain rfl fun K' hK => ?_
  have hr : RowOK V T E l (V.ownBlock.bind (w.heap[·]?)) := hw.ent _ hput.mem
  rcases hr with ⟨_, rfl⟩ | ⟨gb, cap, cur, rfl, ho, hc1, hc2, hc3, hc4⟩
  · simp at hi
  · have ho' : w.heap[gb]? = some (.cells cur T (0, 0)) := ho
    have hlt : i * E.k + E.k ≤ l.length * E.k := by rw [← Nat.succ_mul]; exact Nat.mul_le_mul_right _ hi
    have hle : l.length * E.k ≤ cur.size := Nat.le_trans (Nat.mul_le_mul_right _ hc1) hc3
    have hs : v.cells.size = E.k := by have := congrArg List.length hc; rw [E.len] at this; simpa using this
    have hst := run_storeV (P := P) (w := w) (b := gb) (o := i * E.k) (cs := cur.toList) (T := T) (t := t) (v := v) (by simpa using ho') hz hs (by simp; omega) (by rw [hc]; intro u hu; exact E.one _ _ hu)
    simp only [bk, ofs, Nat.zero_add] at hx
    unfold Oper.wp
    simp only [execOp, ha.eval hx, ha.eval hy, Sem.run_bind, hst, Result.andThen_ok, Sem.run_pure, Oper.upon, Act.put]
    refine hK _ _ (K _ _ ha ?_)
    have e1 : rowE (.slice (some ⟨gb, 0, none⟩) l.length cap) T E l = ⟨some gb, RowOK (.slice (some ⟨gb, 0, none⟩) l.length cap) T E l⟩ := rfl
    have e2 : rowE (.slice (some ⟨gb, 0, none⟩) l.length cap) T E (l.set i x') = ⟨some gb, RowOK (.slice (some ⟨gb, 0, none⟩) l.length cap) T E (l.set i x')⟩ := rfl
    rw [e1, e2] at hput
    refine HpOK.set hw hput rfl rfl rfl (by simp) (Nat.le_refl _) (fun k _ hkb => setRow_other w gb k _ hkb) ?_
    rw [setRow_heap w gb _ _ T (0, 0) ho']
    have hll : (l.set i x').length = l.length := by simp
    refine .inr ⟨gb, cap, _, by rw [hll], rfl, by rw [hll]; exact hc1, hc2, ?_, ?_⟩
    · rw [List.size_toArray]
      simp only [splice, hc, List.length_append, List.length_take, List.length_drop, Array.length_toList, E.len]
      omega
    · rw [hll, flatMap_setEl E x' l i hi, ← hc4, hc, List.toList_toArray]
      refine take_splice ?_ ?_
      · rw [E.len]; omega
      · rw [Array.length_toList]; exact hle

/-- A call that changes one's own slice in place as R says. -/
theorem Tr.callMutR {α : Type} {E : Enc α} {l : List α} (R : List α → Prop) {V : Value} {T : TypeId} {f : FuncId} {xs : List Operand} {vs : List Value} {ts : Array TypeId} {v : Value} {L0 : List Ent} (hx : opvs M xs = some vs)
    (he : ∀ (args : Array Value) (w : World), (callFunc f args).run P w = .ok (.enter f args) w)
    (hc : ∀ w, HpOK F (rowE V T E l :: L0) w → Calls P f vs.toArray w fun e w' => e = .returned v ∧ ∃ l', R l' ∧ Mut w w' V ∧ (rowE V T E l').holds w') (hd : Nat.ble (d + 1) N = true)
    (K : ∀ l', R l' → Tr N F (rowE V T E l' :: L0) ((d, v) :: M) (wpList P ops Q rest)) :
    Tr N F (rowE V T E l :: L0) M (wpList P ops Q (⟨some d, .call { callee := .value (.func f), args := xs.toArray, argTypes := ts }, ty, pos, after, none⟩ :: rest)) := by
  intro a w ha hw
  refine wpList_plain rfl fun K' hK => ?_
  have hr : (execOp a.eval ⟨some d, .call { callee := .value (.func f), args := xs.toArray, argTypes := ts }, ty, pos, after, none⟩).run P w = .ok (.enter f vs.toArray) w := by
    have := ha.evals hx
    simp [execOp, resolve, Deferred.ofValue, Act.eval, invoke, he, this]
  unfold Oper.wp
  rw [hr]
  refine (hc w hw).mono fun e w' ⟨h1, l', h0, h2, h3⟩ => ?_
  subst h1
  exact hK _ _ (K l' h0 _ _ (ha.put (Nat.le_of_ble_eq_true hd)) (hw.mut (.here _) h2 h3))

theorem Tr.rowEq {α : Type} {E : Enc α} {l l' : List α} {V : Value} {T : TypeId} {L0 : List Ent} {X : Act → World → Prop} (h : l = l') (K : Tr N F (rowE V T E l' :: L0) M X) : Tr N F (rowE V T E l :: L0) M X := h ▸ K
theorem QS.str_gtr {m n : ByteArray} {x y : Operand} {t u : TypeId} {g : Option (Nat × Bool)} {dst : Option Tmp} (hx : opv M x = some (.string m)) (hy : opv M y = some (.string n)) : QS P N F L M ⟨dst, .binOp .gtr t x y u, ty, pos, after, g⟩ (.bool (!(Op.bytesLess m.toList n.toList || m.toList == n.toList))) :=
  QS.strOf hx hy fun w => by simp [Op.stringOp]
theorem QS.shr1 {m : Int} {x y : Operand} {t u : TypeId} {g : Option (Nat × Bool)} {dst : Option Tmp} (hx : opv M x = some (.int .u64 m)) (hy : opv M y = some (.int .u64 1)) (hm : 0 ≤ m) :
    QS P N F L M ⟨dst, .binOp .shr t x y u, ty, pos, after, g⟩ (.int .u64 (m / 2)) := by
  have h := QS.shr (P := P) (N := N) (F := F) (L := L) (dst := dst) (t := t) (u := u) (ty := ty) (pos := pos) (after := after) (g := g) hx hy (by decide)
  rw [show m.fdiv (2 ^ min (1 : Int).toNat IntKind.u64.bits) = m / 2 from Int.fdiv_eq_ediv_of_nonneg _ (by decide)] at h
  exact h

/-- An operation of the region's beginning that looks at the frame alone. -/
theorem TrQ.pureQ {X : Act → Prop} {v : Value} (h : ∀ F, QS P N F [] M ⟨some d, op, ty, pos, after, none⟩ v) (hp : plainOp op = true) (hd : Nat.ble (d + 1) N = true) (k : TrQ N ((d, v) :: M) (wpPure P ops X rest)) :
    TrQ N M (wpPure P ops X (⟨some d, op, ty, pos, after, none⟩ :: rest)) := fun a ha =>
  ⟨v, .inl ⟨by simp [Region.wanted], fun w => QS.run (h (Bg.of w)) hp ha (HpOK.start w)⟩, k _ (ha.put (Nat.le_of_ble_eq_true hd))⟩
end
end Go.HL
