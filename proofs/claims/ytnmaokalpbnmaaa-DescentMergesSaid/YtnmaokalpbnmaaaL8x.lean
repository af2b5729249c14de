/- DescentMerges returns true for every input and leaves its arguments as they were. There are no conditions. -/
import Derived.Test.YtnmaokalpbnmaaaRows
import Derived.Test.YtnmaokalpbnmaaaB5
namespace Go.Proofs.Ytnmaokalpbnmaaa.descentMergesDone
open Go Go.HL Go.ChangeShapes Go.WideShapes Go.ChangeAt Go.RowKit
open Go.ChangeMaps (open_string shut_string)
set_option linter.unusedVariables false
set_option linter.unusedSimpArgs false
theorem own : ownKnob Try.prog.godebug = none := by kernel_rfl
theorem laidOut : laidOutB Try.prog = true := by kernel_rfl
set_option maxRecDepth 100000 in
theorem lifted (os : Os) (started : os.Started) (H : Type) (enc : TypeId × Value → H) :
    ReturnsInHanded {} Try.checked os 9 .any (Rows.descentMergesSpec.pre6 enc Try.prog Try.f9 Rows.descentMergesRow.domain false) (Rows.descentMergesSpec.post enc Try.prog Try.f9 false true false false) := by
  refine returnsInHanded_of_change (C := Try.checked) own started (by kernel_rfl) Try.func9
    (ChangeSpec.witness6 (enc := enc) (C := Try.checked) false ⟨#[], #[.agg #[(.slice none 0 0), (.slice none 0 0), (.slice none 0 0), (.slice none 0 0)], .agg #[(.slice none 0 0), (.slice none 0 0), (.slice none 0 0), (.slice none 0 0)], .int .u32 0], []⟩ 8 (by kernel_rfl) (by kernel_rfl) (by kernel_rfl) (by kernel_rfl)) ?_
  intro W base args ds gs before hval0 hW hcnd _
  have hval : ∀ (j : Nat) t v, Try.f9.params[j]? = some t → args[j]? = some v → Value.okWide Try.prog W .any base t v := hval0
  have hW' := hW
  obtain ⟨p, q, hA0, hV, rfl, hfz, hnd⟩ := hW
  have hA : DataW.TrodAll enc Try.prog W 0 (fun _ => true) true Try.f9.params.toList args.toList ds p := hA0
  rw [Try.params9] at hA hval
  obtain ⟨v0, vs0, d0, ds0, p0, q0, hargs, rfl, rfl, h0, r0⟩ := trodAll_cons hA
  obtain ⟨v1, vs1, d1, ds1, p1, q1, rfl, rfl, rfl, h1, r1⟩ := trodAll_cons r0
  obtain ⟨v2, vs2, d2, ds2, p2, q2, rfl, rfl, rfl, h2, r2⟩ := trodAll_cons r1
  obtain ⟨rfl, rfl, rfl⟩ := trodAll_nil r2
  obtain rfl : args = #[v0, v1, v2] := by cases args; simp_all
  obtain ⟨rfl, rfl⟩ := trodVars_none hV
  obtain ⟨cs0, rfl, hsz0⟩ := okWide_struct Try.underlying51 (hval 0 51 v0 rfl rfl)
  have k0 := h0
  have lt0 : ∀ x ∈ p0, x.block < W.heap.size := by obtain ⟨m, hm⟩ := k0; exact DataW.trod_lt m _ _ _ hm
  obtain ⟨fu0, hf0⟩ := h0
  obtain ⟨li0, le0, lu0, lb0, Vi0, Ve0, Vu0, Vb0, e0, sI0, sE0, sU0, sB0, I0⟩ := flat_code Try.underlying51 rfl rfl (by kernel_rfl) (by kernel_rfl) Try.underlying29 Try.underlying23 Try.underlying39 (by kernel_rfl) (by kernel_rfl) (fun n cs y hl hh => flat_ins Try.underlying41 rfl rfl (by kernel_rfl) (by kernel_rfl) Try.underlying39 Try.underlying3 hl hh) (by show cs0.toList.length = 4; rw [Array.length_toList, hsz0]; kernel_rfl) hf0
  obtain rfl := agg_of e0
  obtain ⟨cs1, rfl, hsz1⟩ := okWide_struct Try.underlying51 (hval 1 51 v1 rfl rfl)
  have k1 := h1
  have lt1 : ∀ x ∈ p1, x.block < W.heap.size := by obtain ⟨m, hm⟩ := k1; exact DataW.trod_lt m _ _ _ hm
  obtain ⟨fu1, hf1⟩ := h1
  obtain ⟨li1, le1, lu1, lb1, Vi1, Ve1, Vu1, Vb1, e1, sI1, sE1, sU1, sB1, I1⟩ := flat_code Try.underlying51 rfl rfl (by kernel_rfl) (by kernel_rfl) Try.underlying29 Try.underlying23 Try.underlying39 (by kernel_rfl) (by kernel_rfl) (fun n cs y hl hh => flat_ins Try.underlying41 rfl rfl (by kernel_rfl) (by kernel_rfl) Try.underlying39 Try.underlying3 hl hh) (by show cs1.toList.length = 4; rw [Array.length_toList, hsz1]; kernel_rfl) hf1
  obtain rfl := agg_of e1
  obtain ⟨a2, rfl, rfl, rfl, w2⟩ := open_int Try.underlying39 (hval 2 39 v2 rfl rfl) h2
  obtain ⟨n2, rfl⟩ := u32_of_wf w2
  clear hA0 hval0
  refine (merges12_true li0 li1 le0 lu0 lb0 le1 lu1 lb1 Vi0 Ve0 Vu0 Vb0 Vi1 Ve1 Vu1 Vb1 n2 W sI0 sE0 sU0 sB0 sI1 sE1 sU1 sB1).mono fun e W' ⟨he, bel⟩ => ?_
  subst he
  exact ⟨_, rfl, _, _, _, [], _, [], hW', trodAll_mk1 (shut_bool Try.underlying4 _), (trodAll_cons_mk (Below.trod laidOut (by kernel_rfl) (of_decide_eq_true (by kernel_rfl)) k0 bel lt0) (trodAll_cons_mk (Below.trod laidOut (by kernel_rfl) (of_decide_eq_true (by kernel_rfl)) k1 bel lt1) (trodAll_cons_mk (shut_int Try.underlying39 w2) trodAll_mk0))), rfl, bel.frame _, fun h => by cases h⟩
theorem over : Rows.descentMergesRow.holds Try.pinned (OpenSpec.ofChange Rows.descentMergesSpec) :=
  OpenClaim.holds_of_wide 9 Try.f9 rfl rfl rfl rfl rfl rfl rfl ⟨rfl, rfl, rfl, rfl, rfl⟩ rfl rfl rfl rfl rfl (by kernel_rfl) Try.func9 (by kernel_rfl)
    (of_decide_eq_true (by kernel_rfl)) (by unfold Func.isWrapper; first | (rw [if_pos (by decide +kernel)]; kernel_rfl) | (rw [if_neg (by decide +kernel)]; exact ⟨rfl, rfl⟩))
    (fun os started H enc _ => lifted os started H enc)
theorem proved : Rows.DescentMergesSaid := over
#print axioms proved
end Go.Proofs.Ytnmaokalpbnmaaa.descentMergesDone
