/- DescentWalks returns true for every input and leaves its arguments as they were. There are no conditions. -/
import Derived.Test.YtnmaokalpbnmaaaGreatRows
import Derived.Test.YtnmaokalpbnmaaaGreatB6
namespace Go.Proofs.YtnmaokalpbnmaaaGreat.descentWalksDone
open Go Go.HL Go.ChangeShapes Go.WideShapes Go.ChangeAt Go.RowKit
open Go.ChangeMaps (open_string shut_string)
set_option linter.unusedVariables false
set_option linter.unusedSimpArgs false
theorem own : ownKnob Tryz.prog.godebug = none := by kernel_rfl
theorem laidOut : laidOutB Tryz.prog = true := by kernel_rfl
set_option maxRecDepth 100000 in
theorem lifted (os : Os) (started : os.Started) (H : Type) (enc : TypeId × Value → H) :
    ReturnsInHanded {} Tryz.checked os 3 .any (Rows.descentWalksSpec.pre6 enc Tryz.prog Tryz.f3 Rows.descentWalksRow.domain false) (Rows.descentWalksSpec.post enc Tryz.prog Tryz.f3 false true false false) := by
  refine returnsInHanded_of_change_sized (C := Tryz.checked) own started (by kernel_rfl) Tryz.func3
    (ChangeSpec.witness6 (enc := enc) (C := Tryz.checked) false ⟨#[], #[.agg #[(.slice none 0 0), (.slice none 0 0), (.slice none 0 0), (.slice none 0 0)]], []⟩ 8 (by kernel_rfl) (by kernel_rfl) (by kernel_rfl) (by kernel_rfl)) ?_
  intro W base args ds gs before hval0 hW hcnd hsz _
  have hval : ∀ (j : Nat) t v, Tryz.f3.params[j]? = some t → args[j]? = some v → Value.okWide Tryz.prog W .any base t v := hval0
  have hW' := hW
  obtain ⟨p, q, hA0, hV, rfl, hfz, hnd⟩ := hW
  have hA : DataW.TrodAll enc Tryz.prog W 0 (fun _ => true) true Tryz.f3.params.toList args.toList ds p := hA0
  rw [Tryz.params3] at hA hval
  obtain ⟨v0, vs0, d0, ds0, p0, q0, hargs, rfl, rfl, h0, r0⟩ := trodAll_cons hA
  obtain ⟨rfl, rfl, rfl⟩ := trodAll_nil r0
  obtain rfl : args = #[v0] := by cases args; simp_all
  obtain ⟨rfl, rfl⟩ := trodVars_none hV
  obtain ⟨cs0, rfl, hsz0⟩ := okWide_struct Tryz.underlying26 (hval 0 26 v0 rfl rfl)
  have k0 := h0
  have lt0 : ∀ x ∈ p0, x.block < W.heap.size := by obtain ⟨m, hm⟩ := k0; exact DataW.trod_lt m _ _ _ hm
  have wt0 : Light Tryz.prog 26 d0 := fun z hz => by
    have q := List.all_eq_true.1 hsz z (DataW.weights_mem_each (j := 0) (by rw [Tryz.params3]; rfl) rfl z hz)
    simpa using q
  obtain ⟨fu0, hf0⟩ := h0
  obtain ⟨l0, es0, ts0, at0, V0, VE0, VT0, VP0, e0, sL0, sE0, sT0, sP0, D0, TI0, N0⟩ := flat_prog Tryz.underlying26 rfl rfl (by kernel_rfl) (by kernel_rfl) (by kernel_rfl) Tryz.underlying22 Tryz.underlying23 Tryz.underlying24 Tryz.underlying23 Tryz.underlying40 (by kernel_rfl) (by kernel_rfl) (by kernel_rfl) (fun n cs y hl hh hL => flat_sec Tryz.underlying43 rfl rfl (by kernel_rfl) (by kernel_rfl) (by kernel_rfl) (by kernel_rfl) Tryz.underlying9 Tryz.underlying40 Tryz.underlying41 Tryz.underlying5 (by kernel_rfl) (by kernel_rfl) Tryz.underlying4 hl hh hL) (by show cs0.toList.length = 4; rw [Array.length_toList, hsz0]; kernel_rfl) hf0 wt0
  obtain rfl := agg_of e0
  clear hA0 hval0
  refine (walks12_true l0 es0 ts0 at0 V0 VE0 VT0 VP0 W sL0 sE0 sT0 sP0 D0 TI0 N0).mono fun e W' ⟨he, bel⟩ => ?_
  subst he
  exact ⟨_, rfl, _, _, _, [], _, [], hW', trodAll_mk1 (shut_bool Tryz.underlying4 _), (trodAll_cons_mk (Below.trod laidOut (by kernel_rfl) (of_decide_eq_true (by kernel_rfl)) k0 bel lt0) trodAll_mk0), rfl, bel.frame _, fun h => by cases h⟩
theorem over : Rows.descentWalksRow.holds Tryz.pinned (OpenSpec.ofChange Rows.descentWalksSpec) :=
  OpenClaim.holds_of_wide 3 Tryz.f3 rfl rfl rfl rfl rfl rfl rfl ⟨rfl, rfl, rfl, rfl, rfl⟩ rfl rfl rfl rfl rfl (by kernel_rfl) Tryz.func3 (by kernel_rfl)
    (of_decide_eq_true (by kernel_rfl)) (by unfold Func.isWrapper; first | (rw [if_pos (by decide +kernel)]; kernel_rfl) | (rw [if_neg (by decide +kernel)]; exact ⟨rfl, rfl⟩))
    (fun os started H enc _ => lifted os started H enc)
theorem proved : Rows.DescentWalksSaid := over
#print axioms proved
end Go.Proofs.YtnmaokalpbnmaaaGreat.descentWalksDone
