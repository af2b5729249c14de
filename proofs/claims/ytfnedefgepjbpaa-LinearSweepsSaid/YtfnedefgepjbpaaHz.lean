/- Calls of functions whose contract says nothing of what is drawn. -/
import Derived.Test.YtfnedefgepjbpaaHy
set_option linter.unusedSimpArgs false
set_option linter.unusedVariables false
set_option linter.unusedSectionVars false
namespace Go.HL
open Go Go.RowKit
section
variable {P : Program} {ops : Array Oper} {Q : Exit → Act → World → Prop} {N : Nat} {F : Bg} {L : List Ent} {M : Fr} {ty : TypeId} {pos : String} {after : Array Edge} {rest : List Oper} {d : Nat} {dst : Option Tmp} {g : Option (Nat × Bool)}
def redrew (w w' : World) : World := { w' with drawn := max w.drawn w'.drawn }
theorem ext_redrew {w w' : World} (h : Below w.heap.size w w') : Ext w (redrew w w') := ⟨⟨h.os, h.tape, h.output, h.size, h.block⟩, Nat.le_max_left _ _⟩
theorem HpOK.redrew {w w' : World} (h : HpOK F L (HL.redrew w w')) (h0 : F.dr = 0) : HpOK F L w' := ⟨h.os, h.tape, h.out, h.n, by rw [h0]; exact Nat.zero_le _, h.bg, h.ent, h.nodup, h.lt, h.sep⟩
theorem HpOK.grow0 {w w' : World} (h : HpOK F L w) (hb : Below w.heap.size w w') (h0 : F.dr = 0) : HpOK F L w' := (h.grow (ext_redrew hb)).redrew h0
theorem QS.call0 {f : FuncId} {xs : List Operand} {vs : List Value} {ts : Array TypeId} {v : Value} (h0 : F.dr = 0) (hx : opvs M xs = some vs)
    (he : ∀ (args : Array Value) (w : World), (callFunc f args).run P w = .ok (.enter f args) w)
    (hc : ∀ w, HpOK F L w → Calls P f vs.toArray w fun e w' => e = .returned v ∧ Below w.heap.size w w') :
    QS P N F L M ⟨dst, .call { callee := .value (.func f), args := xs.toArray, argTypes := ts }, ty, pos, after, g⟩ v := by
  intro a w ha hw
  have hr : (execOp a.eval ⟨dst, .call { callee := .value (.func f), args := xs.toArray, argTypes := ts }, ty, pos, after, g⟩).run P w = .ok (.enter f vs.toArray) w := by
    have := ha.evals hx
    simp [execOp, resolve, Deferred.ofValue, Act.eval, invoke, he, this]
  unfold Oper.quietAt
  rw [hr]
  exact ⟨rfl, (hc w hw).mono fun e w' ⟨h1, h2⟩ => ⟨h1, hw.grow0 h2 h0⟩⟩
theorem Tr.callEnts0 {ι : Type} (φ : ι → Value) (Ls : ι → List Ent) {ok : ι → Prop} {f : FuncId} {xs : List Operand} {vs : List Value} {ts : Array TypeId} (h0 : F.dr = 0) (hx : opvs M xs = some vs)
    (he : ∀ (args : Array Value) (w : World), (callFunc f args).run P w = .ok (.enter f args) w)
    (hc : ∀ w, HpOK F L w → Calls P f vs.toArray w fun e w' => ∃ i, e = .returned (φ i) ∧ Below w.heap.size w w' ∧ NewEnts w w' (Ls i) ∧ ok i) (hd : Nat.ble (d + 1) N = true)
    (K : ∀ i, ok i → Tr N F (Ls i ++ L) ((d, φ i) :: M) (wpList P ops Q rest)) :
    Tr N F L M (wpList P ops Q (⟨some d, .call { callee := .value (.func f), args := xs.toArray, argTypes := ts }, ty, pos, after, none⟩ :: rest)) := by
  intro a w ha hw
  refine wpList_plain rfl fun K' hK => ?_
  have hr : (execOp a.eval ⟨some d, .call { callee := .value (.func f), args := xs.toArray, argTypes := ts }, ty, pos, after, none⟩).run P w = .ok (.enter f vs.toArray) w := by
    have := ha.evals hx
    simp [execOp, resolve, Deferred.ofValue, Act.eval, invoke, he, this]
  unfold Oper.wp
  rw [hr]
  refine (hc w hw).mono fun e w' ⟨i, h1, h2, h3, h4⟩ => ?_
  subst h1
  have hn : NewEnts w (redrew w w') (Ls i) := ⟨h3.ent, h3.nodup, h3.lt, h3.ge⟩
  exact hK _ _ (K i h4 _ _ (ha.put (Nat.le_of_ble_eq_true hd)) ((hw.newEnts (ext_redrew h2) hn).redrew h0))
end
end Go.HL
