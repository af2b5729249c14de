/- DescentMore returns true for every input and leaves its arguments as they were. There are no conditions. -/
import Derived.Test.YtnmaokalpbnmaaaRows
import Derived.Test.YtnmaokalpbnmaaaB5
namespace Go.Proofs.Ytnmaokalpbnmaaa.descentMoreDone
open Go Go.HL Go.ChangeShapes Go.WideShapes Go.ChangeAt Go.RowKit
open Go.ChangeMaps (open_string shut_string)
set_option linter.unusedVariables false
set_option linter.unusedSimpArgs false
theorem own : ownKnob Try.prog.godebug = none := by kernel_rfl
theorem laidOut : laidOutB Try.prog = true := by kernel_rfl
set_option maxRecDepth 100000 in
theorem lifted (os : Os) (started : os.Started) (H : Type) (enc : TypeId × Value → H) :
    ReturnsInHanded {} Try.checked os 8 .any (Rows.descentMoreSpec.pre6 enc Try.prog Try.f8 Rows.descentMoreRow.domain false) (Rows.descentMoreSpec.post enc Try.prog Try.f8 false true false false) := by
  refine returnsInHanded_of_change_sized (C := Try.checked) own started (by kernel_rfl) Try.func8
    (ChangeSpec.witness6 (enc := enc) (C := Try.checked) false ⟨#[], #[.agg #[(.slice none 0 0), (.slice none 0 0), (.slice none 0 0), (.slice none 0 0)], .slice none 0 0], []⟩ 8 (by kernel_rfl) (by kernel_rfl) (by kernel_rfl) (by kernel_rfl)) ?_
  intro W base args ds gs before hval0 hW hcnd hsz _
  have hval : ∀ (j : Nat) t v, Try.f8.params[j]? = some t → args[j]? = some v → Value.okWide Try.prog W .any base t v := hval0
  have hW' := hW
  obtain ⟨p, q, hA0, hV, rfl, hfz, hnd⟩ := hW
  have hA : DataW.TrodAll enc Try.prog W 0 (fun _ => true) true Try.f8.params.toList args.toList ds p := hA0
  rw [Try.params8] at hA hval
  obtain ⟨v0, vs0, d0, ds0, p0, q0, hargs, rfl, rfl, h0, r0⟩ := trodAll_cons hA
  obtain ⟨v1, vs1, d1, ds1, p1, q1, rfl, rfl, rfl, h1, r1⟩ := trodAll_cons r0
  obtain ⟨rfl, rfl, rfl⟩ := trodAll_nil r1
  obtain rfl : args = #[v0, v1] := by cases args; simp_all
  obtain ⟨rfl, rfl⟩ := trodVars_none hV
  obtain ⟨cs0, rfl, hsz0⟩ := okWide_struct Try.underlying26 (hval 0 26 v0 rfl rfl)
  have k0 := h0
  have lt0 : ∀ x ∈ p0, x.block < W.heap.size := by obtain ⟨m, hm⟩ := k0; exact DataW.trod_lt m _ _ _ hm
  have wt0 : Light Try.prog 26 d0 := fun z hz => by
    have q := List.all_eq_true.1 hsz z (DataW.weights_mem_each (j := 0) (by rw [Try.params8]; rfl) rfl z hz)
    simpa using q
  obtain ⟨fu0, hf0⟩ := h0
  obtain ⟨l0, es0, ts0, at0, V0, VE0, VT0, VP0, e0, sL0, sE0, sT0, sP0, D0, TI0, N0⟩ := flat_prog Try.underlying26 rfl rfl (by kernel_rfl) (by kernel_rfl) (by kernel_rfl) Try.underlying22 Try.underlying23 Try.underlying24 Try.underlying23 Try.underlying39 (by kernel_rfl) (by kernel_rfl) (by kernel_rfl) (fun n cs y hl hh hL => flat_sec Try.underlying63 rfl rfl (by kernel_rfl) (by kernel_rfl) (by kernel_rfl) (by kernel_rfl) Try.underlying9 Try.underlying39 Try.underlying61 Try.underlying5 (by kernel_rfl) (by kernel_rfl) Try.underlying4 hl hh hL) (by show cs0.toList.length = 4; rw [Array.length_toList, hsz0]; kernel_rfl) hf0 wt0
  obtain rfl := agg_of e0
  obtain ⟨ad1, len1, cap1, rfl⟩ := okWide_slice Try.underlying23 (hval 1 23 v1 rfl rfl)
  have k1 := h1
  have lt1 : ∀ x ∈ p1, x.block < W.heap.size := by obtain ⟨m, hm⟩ := k1; exact DataW.trod_lt m _ _ _ hm
  obtain ⟨fu1, hf1⟩ := h1
  obtain ⟨l1, s1, _⟩ := sl_of_trod (E := encU32) (R := fun _ => True) Try.underlying23 (by kernel_rfl) (by decide) (fun n cs y _ hh => flat_u32 Try.underlying39 hh) hf1
  clear hA0 hval0
  refine (more12_true l0 es0 ts0 at0 V0 VE0 VT0 VP0 l1 _ W sL0 sE0 sT0 sP0 s1 D0 TI0 N0).mono fun e W' ⟨he, bel⟩ => ?_
  subst he
  exact ⟨_, rfl, _, _, _, [], _, [], hW', trodAll_mk1 (shut_bool Try.underlying4 _), (trodAll_cons_mk (Below.trod laidOut (by kernel_rfl) (of_decide_eq_true (by kernel_rfl)) k0 bel lt0) (trodAll_cons_mk (Below.trod laidOut (by kernel_rfl) (of_decide_eq_true (by kernel_rfl)) k1 bel lt1) trodAll_mk0)), rfl, bel.frame _, fun h => by cases h⟩
theorem over : Rows.descentMoreRow.holds Try.pinned (OpenSpec.ofChange Rows.descentMoreSpec) :=
  OpenClaim.holds_of_wide 8 Try.f8 rfl rfl rfl rfl rfl rfl rfl ⟨rfl, rfl, rfl, rfl, rfl⟩ rfl rfl rfl rfl rfl (by kernel_rfl) Try.func8 (by kernel_rfl)
    (of_decide_eq_true (by kernel_rfl)) (by unfold Func.isWrapper; first | (rw [if_pos (by decide +kernel)]; kernel_rfl) | (rw [if_neg (by decide +kernel)]; exact ⟨rfl, rfl⟩))
    (fun os started H enc _ => lifted os started H enc)
theorem proved : Rows.DescentMoreSaid := over
#print axioms proved
end Go.Proofs.Ytnmaokalpbnmaaa.descentMoreDone
