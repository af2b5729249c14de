/- JumptableComplete returns true for every input and leaves its arguments as they were. There are no conditions. -/
import Derived.Test.YtiajjbhcpeadfaaGreatRows
import Derived.Test.YtiajjbhcpeadfaaGreatB6
namespace Go.Proofs.YtiajjbhcpeadfaaGreat.jumptableCompleteDone
open Go Go.HL Go.ChangeShapes Go.WideShapes Go.ChangeAt Go.RowKit
open Go.ChangeMaps (open_string shut_string)
set_option linter.unusedVariables false
set_option linter.unusedSimpArgs false
theorem own:ownKnob Tryz.prog.godebug=none:=by kernel_rfl
theorem laidOut:laidOutB Tryz.prog=true:=by kernel_rfl
set_option maxRecDepth 100000 in
theorem lifted (os:Os) (started:os.Started) (H:Type) (enc:TypeId × Value→H) :
    ReturnsInHanded {} Tryz.checked os 4 .any (Rows.jumptableCompleteSpec.pre6 enc Tryz.prog Tryz.f4 Rows.jumptableCompleteRow.domain false) (Rows.jumptableCompleteSpec.post enc Tryz.prog Tryz.f4 false true false false):=by
  refine returnsInHanded_of_change_sized (C:=Tryz.checked) own started (by kernel_rfl) Tryz.func4
    (ChangeSpec.witness6 (enc:=enc) (C:=Tryz.checked) false ⟨#[],#[.slice none 0 0,.int .u32 0,.slice none 0 0],[]⟩ 8 (by kernel_rfl) (by kernel_rfl) (by kernel_rfl) (by kernel_rfl)) ?_
  intro W base args ds gs before hval0 hW hcnd hsz _
  have hval:∀ (j:Nat) t v,Tryz.f4.params[j]?=some t→args[j]?=some v→Value.okWide Tryz.prog W .any base t v:=hval0
  have hW':=hW
  obtain ⟨p,q,hA0,hV,rfl,hfz,hnd⟩:=hW
  have hA:DataW.TrodAll enc Tryz.prog W 0 (fun _=>true) true Tryz.f4.params.toList args.toList ds p:=hA0
  rw [Tryz.params4] at hA hval
  obtain ⟨v0,vs0,d0,ds0,p0,q0,hargs,rfl,rfl,h0,r0⟩:=trodAll_cons hA
  obtain ⟨v1,vs1,d1,ds1,p1,q1,rfl,rfl,rfl,h1,r1⟩:=trodAll_cons r0
  obtain ⟨v2,vs2,d2,ds2,p2,q2,rfl,rfl,rfl,h2,r2⟩:=trodAll_cons r1
  obtain ⟨rfl,rfl,rfl⟩:=trodAll_nil r2
  obtain rfl:args=#[v0,v1,v2]:=by cases args; simp_all
  obtain ⟨rfl,rfl⟩:=trodVars_none hV
  obtain ⟨ad0,len0,cap0,rfl⟩:=okWide_slice Tryz.underlying22 (hval 0 22 v0 rfl rfl)
  have k0:=h0
  have lt0:∀ x∈p0,x.block<W.heap.size:=by obtain ⟨m,hm⟩:=k0; exact DataW.trod_lt m _ _ _ hm
  obtain ⟨fu0,hf0⟩:=h0
  have wt0:Fu Tryz.prog 22 d0:=fun z hz=>by
    have q:=List.all_eq_true.1 hsz z (DataW.weights_mem_each (j:=0) (by rw [Tryz.params4]; rfl) rfl z hz)
    simpa using q
  obtain ⟨l0,s0,R0,_⟩:=vZ (E:=cD) (R:=fun s=>Sl (hp W) cX s.data (.slice s.dp s.data.length s.dc)∧s.data.length≤reachBytes∧s.name.size≤reachBytes) Tryz.underlying22 (by kernel_rfl) (by decide) wt0 (fun n cs y hl hh hL=>LK Tryz.underlying49 rfl rfl (by kernel_rfl) (by kernel_rfl) (by kernel_rfl) (by kernel_rfl) Tryz.underlying9 Tryz.underlying23 Tryz.underlying47 Tryz.underlying5 (by kernel_rfl) (by kernel_rfl) Tryz.underlying4 hl hh hL) hf0
  have D0:DataIn (hp W) l0:=fun s hs=>(R0 s hs).1
  have Z0:∀ s∈l0,s.data.length≤140737488351232:=fun s hs=>(R0 s hs).2.1
  have N0:∀ s∈l0,s.name.size≤140737488351232:=fun s hs=>(R0 s hs).2.2
  obtain ⟨a1,rfl,rfl,rfl,w1⟩:=open_int Tryz.underlying23 (hval 1 23 v1 rfl rfl) h1
  obtain ⟨n1,rfl⟩:=uZ w1
  obtain ⟨ad2,len2,cap2,rfl⟩:=okWide_slice Tryz.underlying31 (hval 2 31 v2 rfl rfl)
  have k2:=h2
  have lt2:∀ x∈p2,x.block<W.heap.size:=by obtain ⟨m,hm⟩:=k2; exact DataW.trod_lt m _ _ _ hm
  obtain ⟨fu2,hf2⟩:=h2
  obtain ⟨l2,s2,_⟩:=FK (E:=aa) (R:=fun _=>True) Tryz.underlying31 (by kernel_rfl) (by decide) (fun n cs y _ hh=>LI Tryz.underlying23 hh) hf2
  clear hA0 hval0
  refine (zc l0 _ n1 l2 _ W s0 D0 Z0 N0 s2).mono fun e W' ⟨he,bel⟩=>?_
  subst he
  exact ⟨_,rfl,_,_,_,[],_,[],hW',trodAll_mk1 (shut_bool Tryz.underlying4 _),(trodAll_cons_mk (Below.trod laidOut (by kernel_rfl) (of_decide_eq_true (by kernel_rfl)) k0 bel lt0) (trodAll_cons_mk (shut_int Tryz.underlying23 w1) (trodAll_cons_mk (Below.trod laidOut (by kernel_rfl) (of_decide_eq_true (by kernel_rfl)) k2 bel lt2) trodAll_mk0))),rfl,bel.frame _,fun h=>by cases h⟩
theorem band {a b:Bool} (h1:a=true) (h2:b=true):(a && b)=true:=by rw [h1,h2]; rfl
set_option maxHeartbeats 4000000 in
theorem joined:joinedFacts Tryz.checked.prog 4 Tryz.f4 Rows.jumptableCompleteSpec Rows.jumptableCompleteRow=true:=by
  unfold joinedFacts
  repeat' (with_reducible refine band ?_ ?_)
  all_goals as_aux_lemma=>kernel_rfl
theorem over:Rows.jumptableCompleteRow.holds Tryz.pinned (OpenSpec.ofChange Rows.jumptableCompleteSpec) :=
  OpenClaim.holds_of_wide 4 Tryz.f4 rfl rfl rfl rfl rfl rfl rfl ⟨rfl,rfl,rfl,rfl,rfl⟩ rfl rfl rfl rfl rfl (by kernel_rfl) Tryz.func4 joined
    (of_decide_eq_true (by kernel_rfl)) (by unfold Func.isWrapper; first|(rw [if_pos (by decide +kernel)]; kernel_rfl)|(rw [if_neg (by decide +kernel)]; exact ⟨rfl,rfl⟩))
    (fun os started H enc _=>lifted os started H enc)
theorem proved:Rows.JumptableCompleteSaid:=over
#print axioms proved
end Go.Proofs.YtiajjbhcpeadfaaGreat.jumptableCompleteDone
