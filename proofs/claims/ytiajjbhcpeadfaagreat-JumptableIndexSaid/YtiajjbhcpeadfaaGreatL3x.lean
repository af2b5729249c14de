/- JumptableIndex returns true for every input and leaves its arguments as they were. There are no conditions. -/
import Derived.Test.YtiajjbhcpeadfaaGreatRows
import Derived.Test.YtiajjbhcpeadfaaGreatB6
namespace Go.Proofs.YtiajjbhcpeadfaaGreat.jumptableIndexDone
open Go Go.HL Go.ChangeShapes Go.WideShapes Go.ChangeAt Go.RowKit
open Go.ChangeMaps (open_string shut_string)
set_option linter.unusedVariables false
set_option linter.unusedSimpArgs false
theorem own : ownKnob Tryz.prog.godebug = none := by kernel_rfl
theorem laidOut : laidOutB Tryz.prog = true := by kernel_rfl
set_option maxRecDepth 100000 in
theorem lifted (os : Os) (started : os.Started) (H : Type) (enc : TypeId × Value → H) :
    ReturnsInHanded {} Tryz.checked os 3 .any (Rows.jumptableIndexSpec.pre6 enc Tryz.prog Tryz.f3 Rows.jumptableIndexRow.domain false) (Rows.jumptableIndexSpec.post enc Tryz.prog Tryz.f3 false true false false) := by
  refine returnsInHanded_of_change_sized (C := Tryz.checked) own started (by kernel_rfl) Tryz.func3
    (ChangeSpec.witness6 (enc := enc) (C := Tryz.checked) false ⟨#[], #[.slice none 0 0, .int .u8 0, .int .u32 0, .agg #[(.bool false), (.bool false), (.int .u32 0), (.int .u32 0), (.int .u32 0), (.bool false), (.bool false), (.int .u32 0), (.int .u32 0), (.int .u32 0), (.bool false), (.bool false), (.int .u32 0), (.int .u32 0), (.int .u32 0), (.bool false), (.bool false), (.int .u32 0), (.int .u32 0), (.int .u32 0), (.bool false), (.bool false), (.int .u32 0), (.int .u32 0), (.int .u32 0), (.bool false), (.bool false), (.int .u32 0), (.int .u32 0), (.int .u32 0), (.bool false), (.bool false), (.int .u32 0), (.int .u32 0), (.int .u32 0), (.bool false), (.bool false), (.int .u32 0), (.int .u32 0), (.int .u32 0)], .int .u32 0], []⟩ 8 (by kernel_rfl) (by kernel_rfl) (by kernel_rfl) (by kernel_rfl)) ?_
  intro W base args ds gs before hval0 hW hcnd hsz _
  have hval : ∀ (j : Nat) t v, Tryz.f3.params[j]? = some t → args[j]? = some v → Value.okWide Tryz.prog W .any base t v := hval0
  have hW' := hW
  obtain ⟨p, q, hA0, hV, rfl, hfz, hnd⟩ := hW
  have hA : DataW.TrodAll enc Tryz.prog W 0 (fun _ => true) true Tryz.f3.params.toList args.toList ds p := hA0
  rw [Tryz.params3] at hA hval
  obtain ⟨v0, vs0, d0, ds0, p0, q0, hargs, rfl, rfl, h0, r0⟩ := trodAll_cons hA
  obtain ⟨v1, vs1, d1, ds1, p1, q1, rfl, rfl, rfl, h1, r1⟩ := trodAll_cons r0
  obtain ⟨v2, vs2, d2, ds2, p2, q2, rfl, rfl, rfl, h2, r2⟩ := trodAll_cons r1
  obtain ⟨v3, vs3, d3, ds3, p3, q3, rfl, rfl, rfl, h3, r3⟩ := trodAll_cons r2
  obtain ⟨v4, vs4, d4, ds4, p4, q4, rfl, rfl, rfl, h4, r4⟩ := trodAll_cons r3
  obtain ⟨rfl, rfl, rfl⟩ := trodAll_nil r4
  obtain rfl : args = #[v0, v1, v2, v3, v4] := by cases args; simp_all
  obtain ⟨rfl, rfl⟩ := trodVars_none hV
  obtain ⟨ad0, len0, cap0, rfl⟩ := okWide_slice Tryz.underlying22 (hval 0 22 v0 rfl rfl)
  have k0 := h0
  have lt0 : ∀ x ∈ p0, x.block < W.heap.size := by obtain ⟨m, hm⟩ := k0; exact DataW.trod_lt m _ _ _ hm
  obtain ⟨fu0, hf0⟩ := h0
  have wt0 : AX Tryz.prog 22 d0 := fun z hz => by
    have q := List.all_eq_true.1 hsz z (DataW.weights_mem_each (j := 0) (by rw [Tryz.params3]; rfl) rfl z hz)
    simpa using q
  obtain ⟨l0, s0, R0, _⟩ := tw (E := dx) (R := fun s => Sl (hp W) dQ s.data (.slice s.dp s.data.length s.dc) ∧ s.data.length ≤ reachBytes ∧ s.name.size ≤ reachBytes) Tryz.underlying22 (by kernel_rfl) (by decide) wt0 (fun n cs y hl hh hL => FX Tryz.underlying49 rfl rfl (by kernel_rfl) (by kernel_rfl) (by kernel_rfl) (by kernel_rfl) Tryz.underlying9 Tryz.underlying23 Tryz.underlying47 Tryz.underlying5 (by kernel_rfl) (by kernel_rfl) Tryz.underlying4 hl hh hL) hf0
  have D0 : DataIn (hp W) l0 := fun s hs => (R0 s hs).1
  have Z0 : ∀ s ∈ l0, s.data.length ≤ 140737488351232 := fun s hs => (R0 s hs).2.1
  have N0 : ∀ s ∈ l0, s.name.size ≤ 140737488351232 := fun s hs => (R0 s hs).2.2
  obtain ⟨a1, rfl, rfl, rfl, w1⟩ := open_int Tryz.underlying5 (hval 1 5 v1 rfl rfl) h1
  obtain ⟨n1, rfl⟩ := zd w1
  obtain ⟨a2, rfl, rfl, rfl, w2⟩ := open_int Tryz.underlying23 (hval 2 23 v2 rfl rfl) h2
  obtain ⟨n2, rfl⟩ := lU w2
  obtain ⟨cs3, rfl, hsz3⟩ := okWide_struct Tryz.underlying28 (hval 3 28 v3 rfl rfl)
  have k3 := h3
  have lt3 : ∀ x ∈ p3, x.block < W.heap.size := by obtain ⟨m, hm⟩ := k3; exact DataW.trod_lt m _ _ _ hm
  obtain ⟨fu3, hf3⟩ := h3
  obtain ⟨S3, e3⟩ := HG Tryz.underlying28 rfl rfl Tryz.underlying26 (by kernel_rfl) (by kernel_rfl) (fun n cs y hl hh => FW Tryz.underlying25 rfl rfl (by kernel_rfl) (by kernel_rfl) Tryz.underlying4 Tryz.underlying23 hl hh) (by show cs3.toList.length = 40; rw [Array.length_toList, hsz3]; kernel_rfl) hf3
  obtain rfl := Jc e3
  obtain ⟨a4, rfl, rfl, rfl, w4⟩ := open_int Tryz.underlying23 (hval 4 23 v4 rfl rfl) h4
  obtain ⟨n4, rfl⟩ := lU w4
  clear hA0 hval0
  refine (Aa l0 _ n1 n2 S3 n4 W s0 D0 Z0 N0).mono fun e W' ⟨he, bel⟩ => ?_
  subst he
  exact ⟨_, rfl, _, _, _, [], _, [], hW', trodAll_mk1 (shut_bool Tryz.underlying4 _), (trodAll_cons_mk (Below.trod laidOut (by kernel_rfl) (of_decide_eq_true (by kernel_rfl)) k0 bel lt0) (trodAll_cons_mk (shut_int Tryz.underlying5 w1) (trodAll_cons_mk (shut_int Tryz.underlying23 w2) (trodAll_cons_mk (Below.trod laidOut (by kernel_rfl) (of_decide_eq_true (by kernel_rfl)) k3 bel lt3) (trodAll_cons_mk (shut_int Tryz.underlying23 w4) trodAll_mk0))))), rfl, bel.frame _, fun h => by cases h⟩
theorem band {a b : Bool} (h1 : a = true) (h2 : b = true) : (a && b) = true := by rw [h1, h2]; rfl
set_option maxHeartbeats 4000000 in
theorem joined : joinedFacts Tryz.checked.prog 3 Tryz.f3 Rows.jumptableIndexSpec Rows.jumptableIndexRow = true := by
  unfold joinedFacts
  repeat' (with_reducible refine band ?_ ?_)
  all_goals as_aux_lemma => kernel_rfl
theorem over : Rows.jumptableIndexRow.holds Tryz.pinned (OpenSpec.ofChange Rows.jumptableIndexSpec) :=
  OpenClaim.holds_of_wide 3 Tryz.f3 rfl rfl rfl rfl rfl rfl rfl ⟨rfl, rfl, rfl, rfl, rfl⟩ rfl rfl rfl rfl rfl (by kernel_rfl) Tryz.func3 joined
    (of_decide_eq_true (by kernel_rfl)) (by unfold Func.isWrapper; first | (rw [if_pos (by decide +kernel)]; kernel_rfl) | (rw [if_neg (by decide +kernel)]; exact ⟨rfl, rfl⟩))
    (fun os started H enc _ => lifted os started H enc)
theorem proved : Rows.JumptableIndexSaid := over
#print axioms proved
end Go.Proofs.YtiajjbhcpeadfaaGreat.jumptableIndexDone
