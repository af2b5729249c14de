/- More rules: reslices of one's own rows. -/
import Derived.Test.YtfnedefgepjbpaaHj
set_option linter.unusedSimpArgs false
set_option linter.unusedVariables false
namespace Go.HL
open Go Go.RowKit
variable {P : Program} {N : Nat} {F : Bg} {L : List Ent} {M : Fr} {dst : Option Tmp} {ty : TypeId} {pos : String} {after : Array Edge} {g : Option (Nat × Bool)}

theorem QS.sliceRow {α : Type} {E : Enc α} {xs : List α} {x : Operand} {lo hi : Option Operand} {lv hv : Option (IntKind × Int)} {t e : TypeId} {V : Value} {T : TypeId} {k : Nat} (hx : opv M x = some V) (hs : rowE V T E xs ∈ L)
    (hlo : lo.map (opv M) = lv.map fun p => some (.int p.1 p.2)) (hhi : hi.map (opv M) = hv.map fun p => some (.int p.1 p.2))
    (ht : P.underlying t = some (.slice e)) (hz : ∀ w, (sizeOf e).run P w = .ok k w) (hk : k = E.k) (h0 : 0 ≤ loOf lv) (h1 : loOf lv ≤ hiOf xs.length hv) (h2 : hiOf xs.length hv ≤ xs.length) :
    QS P N F L M ⟨dst, .slice t x lo hi none, ty, pos, after, g⟩ (HL.resl V (loOf lv).toNat (hiOf xs.length hv).toNat E.k) :=
  QS.of_run fun A w ha hw => by
    obtain ⟨a, c, rfl, hc1, hc2, _⟩ := (hw.row hs).shape
    have e1 : lo.map A.eval = lv.map fun p => Value.int p.1 p.2 := by
      cases lo with
      | none => cases lv <;> simp_all
      | some o =>
        cases lv with
        | none => simp at hlo
        | some p => simp only [Option.map_some, Option.some.injEq] at hlo ⊢; exact ha.eval hlo
    have e2 : hi.map A.eval = hv.map fun p => Value.int p.1 p.2 := by
      cases hi with
      | none => cases hv <;> simp_all
      | some o =>
        cases hv with
        | none => simp at hhi
        | some p => simp only [Option.map_some, Option.some.injEq] at hhi ⊢; exact ha.eval hhi
    have hr := sliceRun (P := P) ht hz w (a := a) (n := xs.length) (c := c) (fun w => boundsRun (P := P) w h0 h1 (by omega) hc1)
    subst hk
    simp only [execOp, ha.eval hx, e1, e2, Option.map_none, Sem.run_bind, hr, Result.andThen_ok, Sem.run_pure]
    rfl
end Go.HL
