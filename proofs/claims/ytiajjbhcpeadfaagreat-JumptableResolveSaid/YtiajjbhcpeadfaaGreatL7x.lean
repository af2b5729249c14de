/- JumptableResolve returns true for every input and leaves its arguments as they were. There are no conditions. -/
import Derived.Test.YtiajjbhcpeadfaaGreatRows
import Derived.Test.YtiajjbhcpeadfaaGreatB10
namespace Go.Proofs.YtiajjbhcpeadfaaGreat.jumptableResolveDone
open Go Go.HL Go.ChangeShapes Go.WideShapes Go.ChangeAt Go.RowKit
open Go.ChangeMaps (open_string shut_string)
set_option linter.unusedVariables false
set_option linter.unusedSimpArgs false
theorem own:ownKnob Tryz.prog.godebug=none:=by kernel_rfl
theorem laidOut:laidOutB Tryz.prog=true:=by kernel_rfl
set_option maxRecDepth 100000 in
theorem lifted (os:Os) (started:os.Started) (H:Type) (enc:TypeId × Value→H) :
    ReturnsInHanded {} Tryz.checked os 7 .any (Rows.jumptableResolveSpec.pre6 enc Tryz.prog Tryz.f7 Rows.jumptableResolveRow.domain false) (Rows.jumptableResolveSpec.post enc Tryz.prog Tryz.f7 false true false false):=by
  refine returnsInHanded_of_change_sized (C:=Tryz.checked) own started (by kernel_rfl) Tryz.func7
    (ChangeSpec.witness6 (enc:=enc) (C:=Tryz.checked) false ⟨#[],#[.slice none 0 0,.slice none 0 0],[]⟩ 8 (by kernel_rfl) (by kernel_rfl) (by kernel_rfl) (by kernel_rfl)) ?_
  intro W base args ds gs before hval0 hW hcnd hsz _
  have hval:∀ (j:Nat) t v,Tryz.f7.params[j]?=some t→args[j]?=some v→Value.okWide Tryz.prog W .any base t v:=hval0
  have hW':=hW
  obtain ⟨p,q,hA0,hV,rfl,hfz,hnd⟩:=hW
  have hA:DataW.TrodAll enc Tryz.prog W 0 (fun _=>true) true Tryz.f7.params.toList args.toList ds p:=hA0
  rw [Tryz.params7] at hA hval
  obtain ⟨v0,vs0,d0,ds0,p0,q0,hargs,rfl,rfl,h0,r0⟩:=trodAll_cons hA
  obtain ⟨v1,vs1,d1,ds1,p1,q1,rfl,rfl,rfl,h1,r1⟩:=trodAll_cons r0
  obtain ⟨rfl,rfl,rfl⟩:=trodAll_nil r1
  obtain rfl:args=#[v0,v1]:=by cases args; simp_all
  obtain ⟨rfl,rfl⟩:=trodVars_none hV
  obtain ⟨ad0,len0,cap0,rfl⟩:=okWide_slice Tryz.underlying22 (hval 0 22 v0 rfl rfl)
  have k0:=h0
  have lt0:∀ x∈p0,x.block<W.heap.size:=by obtain ⟨m,hm⟩:=k0; exact DataW.trod_lt m _ _ _ hm
  obtain ⟨fu0,hf0⟩:=h0
  have wt0:GH Tryz.prog 22 d0:=fun z hz=>by
    have q:=List.all_eq_true.1 hsz z (DataW.weights_mem_each (j:=0) (by rw [Tryz.params7]; rfl) rfl z hz)
    simpa using q
  obtain ⟨l0,s0,R0,_⟩:=wE (E:=bP) (R:=fun s=>Sl (hp W) cd s.data (.slice s.dp s.data.length s.dc)∧s.data.length≤reachBytes∧s.name.size≤reachBytes) Tryz.underlying22 (by kernel_rfl) (by decide) wt0 (fun n cs y hl hh hL=>MP Tryz.underlying49 rfl rfl (by kernel_rfl) (by kernel_rfl) (by kernel_rfl) (by kernel_rfl) Tryz.underlying9 Tryz.underlying23 Tryz.underlying47 Tryz.underlying5 (by kernel_rfl) (by kernel_rfl) Tryz.underlying4 hl hh hL) hf0
  have D0:DataIn (hp W) l0:=fun s hs=>(R0 s hs).1
  have Z0:∀ s∈l0,s.data.length≤140737488351232:=fun s hs=>(R0 s hs).2.1
  have N0:∀ s∈l0,s.name.size≤140737488351232:=fun s hs=>(R0 s hs).2.2
  obtain ⟨ad1,len1,cap1,rfl⟩:=okWide_slice Tryz.underlying31 (hval 1 31 v1 rfl rfl)
  have k1:=h1
  have lt1:∀ x∈p1,x.block<W.heap.size:=by obtain ⟨m,hm⟩:=k1; exact DataW.trod_lt m _ _ _ hm
  obtain ⟨fu1,hf1⟩:=h1
  obtain ⟨l1,s1,_⟩:=G0 (E:=aa) (R:=fun _=>True) Tryz.underlying31 (by kernel_rfl) (by decide) (fun n cs y _ hh=>MO Tryz.underlying23 hh) hf1
  clear hA0 hval0
  refine (Al l0 _ l1 _ W s0 D0 Z0 N0 s1).mono fun e W' ⟨he,bel⟩=>?_
  subst he
  exact ⟨_,rfl,_,_,_,[],_,[],hW',trodAll_mk1 (shut_bool Tryz.underlying4 _),(trodAll_cons_mk (Below.trod laidOut (by kernel_rfl) (of_decide_eq_true (by kernel_rfl)) k0 bel lt0) (trodAll_cons_mk (Below.trod laidOut (by kernel_rfl) (of_decide_eq_true (by kernel_rfl)) k1 bel lt1) trodAll_mk0)),rfl,bel.frame _,fun h=>by cases h⟩
theorem band {a b:Bool} (h1:a=true) (h2:b=true):(a && b)=true:=by rw [h1,h2]; rfl
set_option maxHeartbeats 4000000 in
theorem joined:joinedFacts Tryz.checked.prog 7 Tryz.f7 Rows.jumptableResolveSpec Rows.jumptableResolveRow=true:=by
  unfold joinedFacts
  repeat' (with_reducible refine band ?_ ?_)
  all_goals as_aux_lemma=>kernel_rfl
theorem over:Rows.jumptableResolveRow.holds Tryz.pinned (OpenSpec.ofChange Rows.jumptableResolveSpec) :=
  OpenClaim.holds_of_wide 7 Tryz.f7 rfl rfl rfl rfl rfl rfl rfl ⟨rfl,rfl,rfl,rfl,rfl⟩ rfl rfl rfl rfl rfl (by kernel_rfl) Tryz.func7 joined
    (of_decide_eq_true (by kernel_rfl)) (by unfold Func.isWrapper; first|(rw [if_pos (by decide +kernel)]; kernel_rfl)|(rw [if_neg (by decide +kernel)]; exact ⟨rfl,rfl⟩))
    (fun os started H enc _=>lifted os started H enc)
theorem proved:Rows.JumptableResolveSaid:=over
#print axioms proved
end Go.Proofs.YtiajjbhcpeadfaaGreat.jumptableResolveDone
