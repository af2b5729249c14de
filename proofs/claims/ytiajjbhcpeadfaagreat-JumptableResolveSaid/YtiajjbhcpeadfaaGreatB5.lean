/- Own rules and walks, part 5. -/
import Derived.Test.YtiajjbhcpeadfaaGreatB4
set_option linter.unusedSimpArgs false
set_option linter.unusedVariables false
set_option linter.unusedSectionVars false
set_option maxRecDepth 100000
set_option maxHeartbeats 16000000
attribute [local irreducible] Go.wpList Go.Code.wp Go.HL.QS Go.HL.Tr Go.HL.TrQ Go.wpQuiet
namespace Go.Proofs.YtiajjbhcpeadfaaGreat
open Go Go.HL Go.RowKit Tryz
theorem QK:StTy prog 37 :=
 ⟨⟨26,25,_,_,underlying37,by decide,rfl,rfl,by kernel_rfl,aA,isAgg26,sizeOf26,dM,lB _ dM,rfl,mq,aV,aj⟩⟩
theorem Qz:prog.eqGuardType prog.depth 37=false:=by kernel_rfl
theorem Jv (l:List Ins) (gd:List Int) (eds:List EdV) (s:VSt) (bx bm k:Nat) (VI VEd VG VB VV VM:Value) (w:World) (ho:OwnAt w [rowE VB 37 bY s.st,rowE VV 3 aU s.vs,rowE VM 4 bK s.mb]) (hx:CellsIn (Bg.lessB w (cx [rowE VB 37 bY s.st,rowE VV 3 aU s.vs,rowE VM 4 bK s.mb]) 0).blk bx [VI,.map (some bm),VEd,VG,VB,VV,VM]) (hI:Sl (Bg.lessB w (cx [rowE VB 37 bY s.st,rowE VV 3 aU s.vs,rowE VM 4 bK s.mb]) 0).blk al l VI) (hG:Sl (Bg.lessB w (cx [rowE VB 37 bY s.st,rowE VV 3 aU s.vs,rowE VM 4 bK s.mb]) 0).blk aU gd VG) (hE:Sl (Bg.lessB w (cx [rowE VB 37 bY s.st,rowE VV 3 aU s.vs,rowE VM 4 bK s.mb]) 0).blk iQ eds VEd) (hEI:QQ (Bg.lessB w (cx [rowE VB 37 bY s.st,rowE VV 3 aU s.vs,rowE VM 4 bK s.mb]) 0).blk eds) (hIO:∀ x∈l,InsOK x) (hgl:gd.length=l.length) (hsl:s.st.length=l.length) (hvl:s.vs.length=l.length) (hml:s.mb.length=l.length) (hel:eds.length=l.length) (hgd:∀ j,j<gd.length→gd.getD j default<(l.length:Int)) (heb:∀ e∈(eds.getD k default).data,0≤e.1∧e.1<(l.length:Int)) (hvb:∀ v∈s.vs,0≤v∧v≤1000000) (hk:k<l.length) :
  Calls prog 164 #[.pointer (some ⟨bx,0,none⟩),.int .i64 (k:Nat)] w (fun e w'=>∃ _:Unit,e=.returned (.tuple #[])∧Upd 0 w w' (cx [rowE VB 37 bY s.st,rowE VV 3 aU s.vs,rowE VM 4 bK s.mb]) [rowE VB 37 bY (iK l gd (eds.getD k default).data k s).st,rowE VV 3 aU (iK l gd (eds.getD k default).data k s).vs,rowE VM 4 bK (iK l gd (eds.getD k default).data k s).mb]∧True):=by
 have hvk:=hvb _ (ba (k:=k) (by omega))
 have hEk:=hEI _ (ba (k:=k) (by omega))
 have hlI:=hI.len_le
 have hEl:=hEk.len_le
 refine tN (L:=[rowE VB 37 bY s.st,rowE VV 3 aU s.vs,rowE VM 4 bK s.mb]) ho rfl (Nat.zero_le _) func164 rfl ntmps164 rfl (zR5 ?_)
 refine zz0 (nL rfl oY) (zR2 ?_)
 refine fN (l:=s.mb) (i:=k) (false) rfl rfl mg ?_
 have hls1:=@List.length_set _ s.mb (k) (false)
 refine zR7 ?_
 refine zz0 (nL rfl o5) (zR5 ?_)
 refine fN (l:=s.vs) (i:=k) ((s.vs.getD k default+1)) rfl rfl aH ?_
 have hls2:=@List.length_set _ s.vs (k) ((s.vs.getD k default+1))
 refine zR7 ?_
 refine zz0 (nL rfl isAgg226) (zR8 ?_)
 change Tr _ _ [rowE VB 37 bY (((eds.getD k default).data.take 0).foldl (dG l gd k) (eW k s)).st,rowE VV 3 aU (((eds.getD k default).data.take 0).foldl (dG l gd k) (eW k s)).vs,rowE VM 4 bK (((eds.getD k default).data.take 0).foldl (dG l gd k) (eW k s)).mb] _ _
 refine cP (.of (ι:=Nat) (fun j=>j≤(eds.getD k default).data.length) (fun _=>(Bg.lessB w (cx [rowE VB 37 bY s.st,rowE VV 3 aU s.vs,rowE VM 4 bK s.mb]) 0)) (fun j=>[rowE VB 37 bY (((eds.getD k default).data.take j).foldl (dG l gd k) (eW k s)).st,rowE VV 3 aU (((eds.getD k default).data.take j).foldl (dG l gd k) (eW k s)).vs,rowE VM 4 bK (((eds.getD k default).data.take j).foldl (dG l gd k) (eW k s)).mb]) (fun j=>[(32,.int .i64 (j:Nat))]) (fun j=>(eds.getD k default).data.length - j)) 0 (Nat.zero_le _) (Front.c Front.nil) (fun j hi m hm=>?_)
 obtain ⟨S,hS⟩:∃ S,S=(((eds.getD k default).data.take j).foldl (dG l gd k) (eW k s)):=⟨_,rfl⟩
 rw [← hS]
 have hvf:=nO l gd k ((eds.getD k default).data.take j) (eW k s)
 rw [← hS] at hvf
 have hSt:S.st.length=l.length:=hvf.1.trans hsl
 have hSm:S.mb.length=l.length:=hvf.2.2.trans (List.length_set.trans hml)
 have hSv:S.vs.length=l.length:=(congrArg List.length hvf.2.1).trans (List.length_set.trans hvl)
 refine zR6 ?_
 refine ab rfl ?_ ?_<;>intro h3
 ·refine zR5 ?_
  have hej:=heb _ (ba (k:=j) (by omega))
  refine zR3 ?_
  refine bH na rfl (fun b4=>?_)
  refine cK fh rfl rfl sizeOf274 ?_
  refine zR2 ?_
  refine dZ (.of (ι:=Nat) (fun bo=>True) (fun _=>(Bg.lessB w (cx [rowE VB 37 bY s.st,rowE VV 3 aU s.vs,rowE VM 4 bK s.mb]) 0)) (fun bo=>[cellE bo (bY.enc (S.st.getD ((eds.getD k default).data.getD j default).1.toNat default)) 37,cellE b4 (fh.enc ((eds.getD k default).data.getD j default)) 274,rowE VB 37 bY S.st,rowE VV 3 aU S.vs,rowE VM 4 bK S.mb]) (fun bo=>[(6,.pointer (some ⟨bo,0,none⟩))])) ?_ (fun bo hi=>?_)
  ·skip
   refine bC ([cellE b4 (fh.enc ((eds.getD k default).data.getD j default)) 274,rowE VB 37 bY S.st,rowE VV 3 aU S.vs,rowE VM 4 bK S.mb]) 10 rfl ah ?_
   refine zK [0,1,2] ?_
   refine zz4 3 rfl (nL rfl m4) ?_
   refine zK [4,5,6,7] ?_
   refine au 8 rfl ?_
   refine bH cm rfl (fun b5=>?_)
   refine aC ?_
   refine au 9 rfl (cK bY rfl rfl gj ?_)
   refine aC ?_
   refine fg (aS ?_)
   refine aT _ (o:=trivial)
  skip
  refine dZ (.of (ι:=Nat) (fun bn=>True) (fun _=>(Bg.lessB w (cx [rowE VB 37 bY s.st,rowE VV 3 aU s.vs,rowE VM 4 bK s.mb]) 0)) (fun bn=>[cellE bn (bY.enc (gr (S.st.getD ((eds.getD k default).data.getD j default).1.toNat default) (kF l S.st gd k ((eds.getD k default).data.getD j default)) 8)) 37,cellE bo (bY.enc (S.st.getD ((eds.getD k default).data.getD j default).1.toNat default)) 37,cellE b4 (fh.enc ((eds.getD k default).data.getD j default)) 274,rowE VB 37 bY S.st,rowE VV 3 aU S.vs,rowE VM 4 bK S.mb]) (fun bn=>[(7,.pointer (some ⟨bn,0,none⟩))])) ?_ (fun bn hi=>?_)
  ·skip
   refine bC ([cellE bo (bY.enc (S.st.getD ((eds.getD k default).data.getD j default).1.toNat default)) 37,cellE b4 (fh.enc ((eds.getD k default).data.getD j default)) 274,rowE VB 37 bY S.st,rowE VV 3 aU S.vs,rowE VM 4 bK S.mb]) 8 rfl ah ?_
   refine zK [0,1,2,3] ?_
   refine m8 [4,6] (fun iq hq=>?_)
   rcases List.mem_cons.1 hq with rfl|hq
   ·skip
    refine cU rfl ?_
    refine zz0 (aK rfl (fun w hw=>BQ l _ gd bx bm VI VEd VG VB VV VM k _ w (hx.mono hw.bg) (hw.slF hI) (hw.slF hG) hw.rM hIO hgl (by omega) hgd hk)) ?_
    refine aC ?_
    refine m8 [5,6] (fun iq hq=>?_)
    rcases List.mem_cons.1 hq with rfl|hq
    ·skip
     refine cU rfl ?_
     refine zz0 (ak rfl (qP _ _)) ?_
     refine aC ?_
     refine au 6 rfl ?_
     refine bH cm rfl (fun b6=>?_)
     refine aC ?_
     refine au 7 rfl (cK bY rfl rfl gj ?_)
     refine aC ?_
     refine fg (aS ?_)
     refine aT _ (o:=trivial)
    obtain rfl:=List.mem_singleton.1 hq
    refine cU rfl ?_
    refine bH cm rfl (fun b7=>?_)
    refine aC ?_
    refine au 5 rfl ?_
    refine zz0 (ak rfl (qP _ _)) ?_
    refine aC ?_
    refine au 7 rfl (cK bY rfl rfl gj ?_)
    refine aC ?_
    refine fg (aS ?_)
    refine aT _ (o:=trivial)
   obtain rfl:=List.mem_singleton.1 hq
   refine cU rfl ?_
   refine bH cm rfl (fun b8=>?_)
   refine aC ?_
   refine au 4 rfl ?_
   refine zz0 (aK rfl (fun w hw=>BQ l _ gd bx bm VI VEd VG VB VV VM k _ w (hx.mono hw.bg) (hw.slF hI) (hw.slF hG) hw.rM hIO hgl (by omega) hgd hk)) ?_
   refine aC ?_
   refine au 5 rfl ?_
   refine zz0 (ak rfl (qP _ _)) ?_
   refine aC ?_
   refine au 7 rfl (cK bY rfl rfl gj ?_)
   refine aC ?_
   refine fg (aS ?_)
   refine aT _ (o:=trivial)
  skip
  refine dZ (.of (ι:=StV) (fun x1=>x1=nW l gd k S ((eds.getD k default).data.getD j default)) (fun _=>(Bg.lessB w (cx [rowE VB 37 bY s.st,rowE VV 3 aU s.vs,rowE VM 4 bK s.mb]) 0)) (fun x1=>[cellE bn (bY.enc x1) 37,cellE bo (bY.enc (S.st.getD ((eds.getD k default).data.getD j default).1.toNat default)) 37,cellE b4 (fh.enc ((eds.getD k default).data.getD j default)) 274,rowE VB 37 bY S.st,rowE VV 3 aU S.vs,rowE VM 4 bK S.mb]) (fun x1=>[])) ?_ (fun x1 hi=>?_)
  ·skip
   refine bB (eU ah (zT3 ?_))
   refine aw (nL rfl o5) (zT4 ?_)
   refine aw (wx rfl rfl) (zT2 ?_)
   refine ab rfl ?_ ?_<;>intro h9
   ·refine zR6 ?_
    refine cP (.of (ι:=Nat) (fun r=>r≤8) (fun _=>(Bg.lessB w (cx [rowE VB 37 bY s.st,rowE VV 3 aU s.vs,rowE VM 4 bK s.mb]) 0)) (fun r=>[cellE bn (bY.enc (tp (S.st.getD ((eds.getD k default).data.getD j default).1.toNat default) (gr (S.st.getD ((eds.getD k default).data.getD j default).1.toNat default) (kF l S.st gd k ((eds.getD k default).data.getD j default)) 8) r)) 37,cellE bo (bY.enc (S.st.getD ((eds.getD k default).data.getD j default).1.toNat default)) 37,cellE b4 (fh.enc ((eds.getD k default).data.getD j default)) 274,rowE VB 37 bY S.st,rowE VV 3 aU S.vs,rowE VM 4 bK S.mb]) (fun r=>[(59,.int .i64 (r:Nat))]) (fun r=>8 - r)) 0 (Nat.zero_le _) (Front.c Front.nil) (fun r hi m hm=>?_)
    have hgr:=yh (S.st.getD ((eds.getD k default).data.getD j default).1.toNat default) (gr (S.st.getD ((eds.getD k default).data.getD j default).1.toNat default) (kF l S.st gd k ((eds.getD k default).data.getD j default)) 8) r hi r (Nat.le_refl _)
    refine zR6 ?_
    refine ab rfl ?_ ?_<;>intro h10
    ·refine bR ?_
     refine dO 0 12 ah ?_
     refine ax (zT3 ?_)
     refine aw (gn rfl rfl aA aj) ?_
     refine aw (dI (vs:=er.enc ((S.st.getD ((eds.getD k default).data.getD j default).1.toNat default).get (r:Int))) rfl (by repeat constructor) aV aj (ie ⟨by omega,by omega⟩ (by simp)) rfl) (zT2 ?_)
     refine aw (gn rfl rfl aA aj) ?_
     refine aw (dI (vs:=er.enc ((tp (S.st.getD ((eds.getD k default).data.getD j default).1.toNat default) (gr (S.st.getD ((eds.getD k default).data.getD j default).1.toNat default) (kF l S.st gd k ((eds.getD k default).data.getD j default)) 8) r).get (r:Int))) rfl (by repeat constructor) aV aj (ie ⟨by omega,by omega⟩ (by simp)) rfl) ?_
     refine aw (ak rfl (Le _ _)) (aw (bE rfl) ?_)
     refine aw (gn rfl rfl aA aj) (im ?_)
     refine cY rfl rfl aj (by repeat constructor) ((fQ (s:=tp (S.st.getD ((eds.getD k default).data.getD j default).1.toNat default) (gr (S.st.getD ((eds.getD k default).data.getD j default).1.toNat default) (kF l S.st gd k ((eds.getD k default).data.getD j default)) 8) r) (k:=(r:Int)) ⟨by omega,by omega⟩ (by simp) (jH ((S.st.getD ((eds.getD k default).data.getD j default).1.toNat default).get (r:Int)) ((tp (S.st.getD ((eds.getD k default).data.getD j default).1.toNat default) (gr (S.st.getD ((eds.getD k default).data.getD j default).1.toNat default) (kF l S.st gd k ((eds.getD k default).data.getD j default)) 8) r).get (r:Int)))).trans (congrArg bY.enc (show _=tp (S.st.getD ((eds.getD k default).data.getD j default).1.toNat default) (gr (S.st.getD ((eds.getD k default).data.getD j default).1.toNat default) (kF l S.st gd k ((eds.getD k default).data.getD j default)) 8) (r+1) by rw [hgr (by omega)]; rfl))) (by rfl) (fR (k:=(r:Int)) ⟨by omega,by omega⟩ (by simp)) (by first|exact Enc.one er _|exact List.all_eq_true.1 rfl) rfl (zR8 ?_)
     refine aP (r+1) (o:=(by show r+1≤_; omega))
    refine zR5 ?_
    refine aT _ (o:=(by show _=_; unfold nW; rw [if_pos (by assumption),show r=8 by omega]))
   refine zR2 ?_
   refine aT _ (o:=(by show _=_; unfold nW; rw [if_neg (by assumption)]))
  skip
  have hx1:=hi
  refine zR4 ?_
  refine zz0 (Gz rfl rfl QK Qz) (zR2 ?_)
  refine ab rfl ?_ ?_<;>intro h11
  ·refine bB (dO 0 8 ah ?_)
   refine ax (zT3 ?_)
   refine aw (nL rfl m4) (zT5 ?_)
   refine fN (l:=S.st) (i:=((eds.getD k default).data.getD j default).1.toNat) (x1) rfl rfl gj ?_
   have hls12:=@List.length_set _ S.st (((eds.getD k default).data.getD j default).1.toNat) (x1)
   refine Gr (dO 0 7 ah ?_)
   refine ax (zT3 ?_)
   refine aw (nL rfl oY) (zT4 ?_)
   refine fN (l:=S.mb) (i:=((eds.getD k default).data.getD j default).1.toNat) (true) rfl rfl mg ?_
   have hls13:=@List.length_set _ S.mb (((eds.getD k default).data.getD j default).1.toNat) (true)
   refine zR8 ?_
   have hne:nW l gd k S ((eds.getD k default).data.getD j default)≠(S.st.getD ((eds.getD k default).data.getD j default).1.toNat default):=by rw [← hx1]; assumption
   have hfy:=Fo (by omega) hS hne
   rw [← hx1] at hfy
   apply dn (j+1)
   ·exact rfl
   ·exact (Front.c Front.nil)
   ·exact zz9 27 rfl
   ·exact (by show Pick _ [rowE VB 37 bY (((eds.getD k default).data.take (j+1)).foldl (dG l gd k) (eW k s)).st,rowE VV 3 aU (((eds.getD k default).data.take (j+1)).foldl (dG l gd k) (eW k s)).vs,rowE VM 4 bK (((eds.getD k default).data.take (j+1)).foldl (dG l gd k) (eW k s)).mb]; rw [hfy]; repeat' (first|exact Pick.nil _|exact Del.here _|apply Pick.cons|apply Del.there))
   ·exact (by show j+1≤_; omega)
   exact (by (try dsimp only); omega)
  refine zR8 ?_
  have hne:nW l gd k S ((eds.getD k default).data.getD j default)=(S.st.getD ((eds.getD k default).data.getD j default).1.toNat default):=by rw [← hx1]; assumption
  have hfn:=IU (by omega) hS hne
  apply dn (j+1)
  ·exact rfl
  ·exact (Front.c Front.nil)
  ·exact zz9 12 rfl
  ·exact (by show Pick _ [rowE VB 37 bY (((eds.getD k default).data.take (j+1)).foldl (dG l gd k) (eW k s)).st,rowE VV 3 aU (((eds.getD k default).data.take (j+1)).foldl (dG l gd k) (eW k s)).vs,rowE VM 4 bK (((eds.getD k default).data.take (j+1)).foldl (dG l gd k) (eW k s)).mb]; rw [hfn]; repeat' (first|exact Pick.nil _|exact Del.here _|apply Pick.cons|apply Del.there))
  ·exact (by show j+1≤_; omega)
  exact (by (try dsimp only); omega)
 refine zR4 ?_
 refine fy results164 (fun w' hw=>?_)
 have hSS:iK l gd (eds.getD k default).data k s=S:=by rw [hS,show j=(eds.getD k default).data.length by omega,List.take_length]; rfl
 rw [hSS]
 exact ⟨(),rfl,hw.upd (Bg.le.refl _) (by repeat' constructor),trivial⟩
theorem FI (l:List Ins) (e bx bm:Nat) (VI VB VV VM:Value) (w:World) (ho:OwnAt w [cellE bx [VI,.map (some bm),nS,nS,VB,VV,VM] 228]) (hI:Sl (Bg.lessB w [bx] 0).blk al l VI) (hA:MapIn (Bg.lessB w [bx] 0).blk bm jX (atK l l.length)) (hIO:∀ x∈l,InsOK x) (he:e<l.length) (hll:l.length≤4096) :
  Calls prog 161 #[.pointer (some ⟨bx,0,none⟩),.int .i64 (e:Nat)] w (fun e' w'=>∃ i:Value × Value × List EdV,e'=.returned (.tuple #[])∧Upd 0 w w' (cx [cellE bx [VI,.map (some bm),nS,nS,VB,VV,VM] 228]) (cellE bx [VI,.map (some bm),i.1,i.2.1,VB,VV,VM] 228 :: rowE i.2.1 3 aU (bZ l e) :: rowE i.1 272 iQ i.2.2 :: i.2.2.map (rvE 274 fh))∧i.2.2.map (·.data)=cO l):=by
 refine tN (L:=[cellE bx [VI,.map (some bm),nS,nS,VB,VV,VM] 228]) ho rfl (Nat.zero_le _) func161 rfl ntmps161 rfl (zR7 ?_)
 refine iz (E:=(bX (α:=Int))) default rfl rfl underlying271 GK rfl rfl rfl (by constructor<;>omega) rfl (fun b1=>?_)
 obtain ⟨VQ,hVQ⟩:∃ V,V=Value.slice (some ⟨b1,0,none⟩) (List.replicate l.length (default:RV Int)).length l.length:=⟨_,rfl⟩
 rw [← hVQ]
 refine cj ?_
 refine iz (E:=iQ) default rfl rfl kt GI rfl rfl rfl (by constructor<;>omega) rfl (fun b2=>zR2 ?_)
 refine zz1 rfl rfl sizeOf226 rfl ?_
 refine bR ?_
 refine iz (E:=aU) 0 rfl rfl dC kx rfl rfl rfl (by constructor<;>omega) rfl (fun b3=>zR2 ?_)
 refine zz1 rfl rfl sizeOf224 rfl ?_
 change Tr _ _ [rowE (Value.slice (some ⟨b3,0,none⟩) (List.replicate l.length (0:Int)).length l.length) 3 aU (List.replicate l.length 0),rowE (Value.slice (some ⟨b2,0,none⟩) (List.replicate l.length (default:EdV)).length l.length) 272 iQ (List.replicate l.length default),rowE VQ 224 bX (List.replicate l.length default),cellE bx [VI,.map (some bm),Value.slice (some ⟨b2,0,none⟩) (List.replicate l.length (default:EdV)).length l.length,Value.slice (some ⟨b3,0,none⟩) (List.replicate l.length (0:Int)).length l.length,VB,VV,VM] 228] _ _
 obtain ⟨VE,hVE⟩:∃ V,V=Value.slice (some ⟨b2,0,none⟩) (List.replicate l.length (default:EdV)).length l.length:=⟨_,rfl⟩
 rw [← hVE]
 obtain ⟨VG,hVG⟩:∃ V,V=Value.slice (some ⟨b3,0,none⟩) (List.replicate l.length (0:Int)).length l.length:=⟨_,rfl⟩
 rw [← hVG]
 refine jk ?_
 refine NE 274 3 fh aU l.length ?_
 refine cT (ι:=Nat × List EdV × List (RV Int) × List Int) (fun ⟨k,rs,qs,gd⟩=>k≤l.length∧(rs.map (·.data)=(ko l k).es∧qs.map (·.data)=(ko l k).into)∧gd.length=l.length∧∀ j,j<k→gd.getD j default=-1) (fun _=>(Bg.lessB w [bx] 0)) (fun ⟨k,rs,qs,gd⟩=>(cellE bx [VI,.map (some bm),VE,VG,VB,VV,VM] 228 :: rowE VG 3 aU gd :: rowE VE 272 iQ rs :: rowE VQ 224 bX qs :: (rs.map (rvE 274 fh) ++ (qs.map (rvE 3 aU) ++ [])))) (fun ⟨k,rs,qs,gd⟩=>[(42,.int .i64 (k:Nat))]) (fun ⟨k,rs,qs,gd⟩=>l.length - k) (0,List.replicate l.length default,List.replicate l.length default,List.replicate l.length 0) ⟨Nat.zero_le _,⟨List.map_replicate,List.map_replicate⟩,List.length_replicate,fun j hj=>absurd hj (Nat.not_lt_zero _)⟩ (Front.c Front.nil) (hL:=(by repeat' (first|exact Pick.refl _|exact Del.here _|apply Pick.cons|apply Del.there|apply Pick.skip|exact Pick.nil _))) (fun i hi m hm=>?_)
 obtain ⟨k,rs,qs,gd⟩:=i
 dsimp only at hi hm
 conv=>enter [3]; dsimp only
 conv=>enter [4,1]; dsimp only
 obtain ⟨hk,⟨hrs,hqs⟩,hgl,hgm⟩:=hi
 have hco:=qV l hk
 have hrl:rs.length=l.length:=by have:=congrArg List.length hrs; rw [List.length_map,hco.le] at this; exact this
 have hql:qs.length=l.length:=by have:=congrArg List.length hqs; rw [List.length_map,hco.li] at this; exact this
 refine zR6 ?_
 refine ab rfl ?_ ?_<;>intro h4
 ·refine zR9 ?_
  refine bH aF rfl (fun b5=>df ?_)
  refine fN (l:=gd) (i:=k) ((-1)) rfl rfl aH ?_
  have hls6:=@List.length_set _ gd (k) ((-1))
  refine zR4 ?_
  refine eU ah (zT6 ?_)
  refine aw (KV rfl rfl hA iV ac jE) ?_
  rw [H2,if_neg (by have:=zg (l:=l) (k:=k) (by omega); omega),Option.getD_some]
  refine aw (af rfl) (aw (wu rfl rfl) (zT2 ?_))
  refine ab rfl ?_ ?_<;>intro h7
  ·refine zR9 ?_
   refine aP (k+1,rs,qs,gd.set k (-1)) (hL:=(by repeat' (first|exact Pick.refl _|exact Del.here _|apply Pick.cons|apply Del.there|apply Pick.skip|exact Pick.nil _))) (o:=⟨by omega,⟨by rw [u4 (by assumption)]; exact hrs,by rw [u4 (by assumption)]; exact hqs⟩,List.length_set.trans hgl,PW (f:=fun _=>-1) hgl hgm (by omega)⟩)
  refine zR3 ?_
  have hne0:((ko l k).es.getD k []).length=0:=by rw [(sc l k hk).2 k (Nat.le_refl _)]; rfl
  refine cC (zz0 (cF rfl) (cE rfl call224 (fun w hw=>D4 (l.getD k default) w (hIO _ (ba (by omega)))) rfl (fun V8=>zR5 ?_)))
  refine cT (ι:=Nat × List EdV × List (RV Int)) (fun ⟨j,rs',qs'⟩=>j≤(bW (l.getD k default)).length∧rs'.map (·.data)=(jg l k (ko l k) j).es∧qs'.map (·.data)=(jg l k (ko l k) j).into) (fun _=>(Bg.lessB w [bx] 0)) (fun ⟨j,rs',qs'⟩=>(rowE V8 23 aa (bW (l.getD k default)) :: cellE b5 (al.enc (l.getD k default)) 36 :: cellE bx [VI,.map (some bm),VE,VG,VB,VV,VM] 228 :: rowE VG 3 aU (gd.set k (-1)) :: rowE VE 272 iQ rs' :: rowE VQ 224 bX qs' :: (rs'.map (rvE 274 fh) ++ (qs'.map (rvE 3 aU) ++ [])))) (fun ⟨j,rs',qs'⟩=>[(65,.int .i64 (j:Nat))]) (fun ⟨j,rs',qs'⟩=>(bW (l.getD k default)).length - j) (0,rs,qs) ⟨Nat.zero_le _,hrs,hqs⟩ (Front.c Front.nil) (hL:=(by repeat' (first|exact Pick.refl _|exact Del.here _|apply Pick.cons|apply Del.there|apply Pick.skip|exact Pick.nil _))) (fun i hi m hm=>?_)
  obtain ⟨j,rs',qs'⟩:=i
  dsimp only at hi hm
  conv=>enter [3]; dsimp only
  conv=>enter [4,1]; dsimp only
  obtain ⟨hj,hrs',hqs'⟩:=hi
  have hjs0:=ir (l.getD k default)
  have hrl':rs'.length=l.length:=by have:=congrArg List.length hrs'; rw [List.length_map,(qf (by omega) hco hne0 j (Nat.le_trans hj (ir _))).1] at this; exact this
  have hql':qs'.length=l.length:=by have:=congrArg List.length hqs'; rw [List.length_map,(qf (by omega) hco hne0 j (Nat.le_trans hj (ir _))).2.1] at this; exact this
  refine zR6 ?_
  refine ab rfl ?_ ?_<;>intro h9
  ·refine Pu ?_
   refine zz0 (GB rfl rfl hA iV ac jE) ?_
   rw [H2]
   obtain ⟨to,hto⟩:∃ to,to=(bD l ((bW (l.getD k default)).getD j default)):=⟨_,rfl⟩
   rw [← hto]
   refine df ?_
   refine ab rfl ?_ ?_<;>intro h10
   ·have hok:=qf (by omega) hco hne0 j (Nat.le_trans hj (ir _))
    have hdl:(rs'.getD k default).data.length≤2:=by rw [oD hrs' k]; exact Nat.le_trans (hok.2.2.2.2.1 k) (by split<;>(have:=ir (l.getD k default); omega))
    have hdq:(qs'.getD to.toNat default).data.length≤2 * k+j:=by rw [oD hqs']; exact hok.2.2.2.2.2.1 _
    have hjs:=ir (l.getD k default)
    have ht1:(if to<0 then none else some to).isSome=true:=by assumption
    have ht0:¬ to<0:=fun q=>by rw [if_pos q] at ht1; simp at ht1
    have htl:=(od l ((bW (l.getD k default)).getD j default)).2
    rw [← hto] at htl
    rw [if_neg ht0,Option.getD_some]
    refine gX (ι:=Option Addr × Nat) (fun ⟨pe,ce⟩=>True) (fun _=>(Bg.lessB w [bx] 0)) (fun ⟨pe,ce⟩=>(rowE V8 23 aa (bW (l.getD k default)) :: cellE b5 (al.enc (l.getD k default)) 36 :: cellE bx [VI,.map (some bm),VE,VG,VB,VV,VM] 228 :: rowE VG 3 aU (gd.set k (-1)) :: rowE VE 272 iQ (rs'.set k ⟨(rs'.getD k default).data ++ [(to,decide ((j:Int)=0))],pe,ce⟩) :: rowE VQ 224 bX qs' :: ((rs'.set k ⟨(rs'.getD k default).data ++ [(to,decide ((j:Int)=0))],pe,ce⟩).map (rvE 274 fh) ++ (qs'.map (rvE 3 aU) ++ [])))) (fun ⟨pe,ce⟩=>[]) ?_ (fun i hi=>?_)
    ·skip
     refine Gq (A:=[rowE V8 23 aa (bW (l.getD k default)),cellE b5 (al.enc (l.getD k default)) 36,cellE bx [VI,.map (some bm),VE,VG,VB,VV,VM] 228,rowE VG 3 aU (gd.set k (-1)),rowE VE 272 iQ rs',rowE VQ 224 bX qs']) (f:=(rvE 274 fh)) (rs:=rs') k (by omega) ?_
     change Tr _ _ ((rvE 274 fh) (rs'.getD k default) :: rowE V8 23 aa (bW (l.getD k default)) :: cellE b5 (al.enc (l.getD k default)) 36 :: cellE bx [VI,.map (some bm),VE,VG,VB,VV,VM] 228 :: rowE VG 3 aU (gd.set k (-1)) :: rowE VE 272 iQ rs' :: rowE VQ 224 bX qs' :: ((rs'.eraseIdx k).map (rvE 274 fh) ++ (qs'.map (rvE 3 aU) ++ []))) _ _
     refine bC ([cellE bx [VI,.map (some bm),VE,VG,VB,VV,VM] 228]) 20 rfl ah ?_
     refine zK [0,1,2,3,4,5,6,7,8,9] ?_
     refine jx 10 rfl (by kernel_rfl) (aY (eF (aY (aY (eF (eF (aY (aY (eF (aY cX)))))))))) (DD rfl rfl hVE kt lU (by rw [List.length_replicate]; omega)) ?_
     refine zK [12,13,14] ?_
     refine zz4 15 rfl (aI (vs:=[(0,_),(1,_)]) rfl rfl (wA _ _)) ?_
     refine m8 [11,16] (fun iq hq=>?_)
     rcases List.mem_cons.1 hq with rfl|hq
     ·skip
      refine cU rfl ?_
      refine zz0 (Qh (V:=VE) (E:=iQ) (l:=rs') (i:=k) rfl isAgg272) ?_
      refine aC ?_
      refine au 16 rfl ?_
      refine fM (E:=fh) (to,decide ((j:Int)=0)) rfl rfl kr sizeOf274 na (fun V11=>?_)
      refine aC ?_
      refine au 17 rfl ?_
      refine zz3 rfl rfl kr xf (fun V12=>?_)
      refine cn (.head _) (fun pe ce hpv=>?_)
      subst hpv
      refine aC ?_
      refine jx 18 rfl (by kernel_rfl) (aY (eF (aY (aY (eF (eF (aY (aY (eF (aY cX)))))))))) (DD rfl rfl hVE kt lU (by rw [List.length_replicate]; omega)) ?_
      refine au 19 rfl ?_
      refine fN (l:=rs') (i:=k) (⟨(rs'.getD k default).data ++ [(to,decide ((j:Int)=0))],pe,ce⟩) rfl rfl lU ?_
      have hls13:=@List.length_set _ rs' (k) (⟨(rs'.getD k default).data ++ [(to,decide ((j:Int)=0))],pe,ce⟩)
      refine Dq (A:=[rowE V8 23 aa (bW (l.getD k default)),cellE b5 (al.enc (l.getD k default)) 36,cellE bx [VI,.map (some bm),VE,VG,VB,VV,VM] 228,rowE VG 3 aU (gd.set k (-1)),rowE VE 272 iQ (rs'.set k ⟨(rs'.getD k default).data ++ [(to,decide ((j:Int)=0))],pe,ce⟩),rowE VQ 224 bX qs']) (f:=(rvE 274 fh)) (rs:=rs') k ⟨(rs'.getD k default).data ++ [(to,decide ((j:Int)=0))],pe,ce⟩ (by omega) ?_
      change Tr _ _ (rowE V8 23 aa (bW (l.getD k default)) :: cellE b5 (al.enc (l.getD k default)) 36 :: cellE bx [VI,.map (some bm),VE,VG,VB,VV,VM] 228 :: rowE VG 3 aU (gd.set k (-1)) :: rowE VE 272 iQ (rs'.set k ⟨(rs'.getD k default).data ++ [(to,decide ((j:Int)=0))],pe,ce⟩) :: rowE VQ 224 bX qs' :: ((rs'.set k ⟨(rs'.getD k default).data ++ [(to,decide ((j:Int)=0))],pe,ce⟩).map (rvE 274 fh) ++ (qs'.map (rvE 3 aU) ++ []))) _ _
      refine aC ?_
      refine fg (aS ?_)
      apply bO (pe,ce)
      ·exact rfl
      ·exact Front.nil
      ·exact zz9 19 rfl
      ·exact (Pick.refl _)
      exact trivial
     obtain rfl:=List.mem_singleton.1 hq
     refine cU rfl ?_
     refine fM (E:=fh) (to,decide ((j:Int)=0)) rfl rfl kr sizeOf274 na (fun V14=>?_)
     refine aC ?_
     refine au 11 rfl ?_
     refine zz0 (Qh (V:=VE) (E:=iQ) (l:=rs') (i:=k) rfl isAgg272) ?_
     refine aC ?_
     refine au 17 rfl ?_
     refine zz3 rfl rfl kr xf (fun V15=>?_)
     refine cn (.head _) (fun pe ce hpv=>?_)
     subst hpv
     refine aC ?_
     refine jx 18 rfl (by kernel_rfl) (aY (eF (aY (aY (eF (eF (aY (aY (eF (aY cX)))))))))) (DD rfl rfl hVE kt lU (by rw [List.length_replicate]; omega)) ?_
     refine au 19 rfl ?_
     refine fN (l:=rs') (i:=k) (⟨(rs'.getD k default).data ++ [(to,decide ((j:Int)=0))],pe,ce⟩) rfl rfl lU ?_
     have hls16:=@List.length_set _ rs' (k) (⟨(rs'.getD k default).data ++ [(to,decide ((j:Int)=0))],pe,ce⟩)
     refine Dq (A:=[rowE V8 23 aa (bW (l.getD k default)),cellE b5 (al.enc (l.getD k default)) 36,cellE bx [VI,.map (some bm),VE,VG,VB,VV,VM] 228,rowE VG 3 aU (gd.set k (-1)),rowE VE 272 iQ (rs'.set k ⟨(rs'.getD k default).data ++ [(to,decide ((j:Int)=0))],pe,ce⟩),rowE VQ 224 bX qs']) (f:=(rvE 274 fh)) (rs:=rs') k ⟨(rs'.getD k default).data ++ [(to,decide ((j:Int)=0))],pe,ce⟩ (by omega) ?_
     change Tr _ _ (rowE V8 23 aa (bW (l.getD k default)) :: cellE b5 (al.enc (l.getD k default)) 36 :: cellE bx [VI,.map (some bm),VE,VG,VB,VV,VM] 228 :: rowE VG 3 aU (gd.set k (-1)) :: rowE VE 272 iQ (rs'.set k ⟨(rs'.getD k default).data ++ [(to,decide ((j:Int)=0))],pe,ce⟩) :: rowE VQ 224 bX qs' :: ((rs'.set k ⟨(rs'.getD k default).data ++ [(to,decide ((j:Int)=0))],pe,ce⟩).map (rvE 274 fh) ++ (qs'.map (rvE 3 aU) ++ []))) _ _
     refine aC ?_
     refine fg (aS ?_)
     apply bO (pe,ce)
     ·exact rfl
     ·exact Front.nil
     ·exact zz9 19 rfl
     ·exact (Pick.refl _)
     exact trivial
    obtain ⟨pe,ce⟩:=i
    replace hi:True:=hi
    change Tr _ _ (rowE V8 23 aa (bW (l.getD k default)) :: cellE b5 (al.enc (l.getD k default)) 36 :: cellE bx [VI,.map (some bm),VE,VG,VB,VV,VM] 228 :: rowE VG 3 aU (gd.set k (-1)) :: rowE VE 272 iQ (rs'.set k ⟨(rs'.getD k default).data ++ [(to,decide ((j:Int)=0))],pe,ce⟩) :: rowE VQ 224 bX qs' :: ((rs'.set k ⟨(rs'.getD k default).data ++ [(to,decide ((j:Int)=0))],pe,ce⟩).map (rvE 274 fh) ++ (qs'.map (rvE 3 aU) ++ []))) ([] ++ _) _
    refine ND (A:=[rowE V8 23 aa (bW (l.getD k default)),cellE b5 (al.enc (l.getD k default)) 36,cellE bx [VI,.map (some bm),VE,VG,VB,VV,VM] 228,rowE VG 3 aU (gd.set k (-1)),rowE VE 272 iQ (rs'.set k ⟨(rs'.getD k default).data ++ [(to,decide ((j:Int)=0))],pe,ce⟩),rowE VQ 224 bX qs']) (B:=(rs'.set k ⟨(rs'.getD k default).data ++ [(to,decide ((j:Int)=0))],pe,ce⟩).map (rvE 274 fh)) (f:=(rvE 3 aU)) (rs:=qs') to.toNat (by omega) ?_
    change Tr _ _ ((rvE 3 aU) (qs'.getD to.toNat default) :: rowE V8 23 aa (bW (l.getD k default)) :: cellE b5 (al.enc (l.getD k default)) 36 :: cellE bx [VI,.map (some bm),VE,VG,VB,VV,VM] 228 :: rowE VG 3 aU (gd.set k (-1)) :: rowE VE 272 iQ (rs'.set k ⟨(rs'.getD k default).data ++ [(to,decide ((j:Int)=0))],pe,ce⟩) :: rowE VQ 224 bX qs' :: ((rs'.set k ⟨(rs'.getD k default).data ++ [(to,decide ((j:Int)=0))],pe,ce⟩).map (rvE 274 fh) ++ ((qs'.eraseIdx to.toNat).map (rvE 3 aU) ++ []))) _ _
    refine zR8 ?_
    refine fM (E:=aU) (k:Int) rfl rfl dC aH jE (fun V17=>?_)
    refine zz3 rfl rfl dC kx (fun V18=>?_)
    refine cn (.head _) (fun pq cq hpv=>?_)
    subst hpv
    refine zz0 (ml rfl rfl) (fN (l:=qs') (i:=to.toNat) (⟨(qs'.getD to.toNat default).data ++ [(k:Int)],pq,cq⟩) rfl rfl sizeOf224 ?_)
    have hls19:=@List.length_set _ qs' (to.toNat) (⟨(qs'.getD to.toNat default).data ++ [(k:Int)],pq,cq⟩)
    refine NC (A:=[rowE V8 23 aa (bW (l.getD k default)),cellE b5 (al.enc (l.getD k default)) 36,cellE bx [VI,.map (some bm),VE,VG,VB,VV,VM] 228,rowE VG 3 aU (gd.set k (-1)),rowE VE 272 iQ (rs'.set k ⟨(rs'.getD k default).data ++ [(to,decide ((j:Int)=0))],pe,ce⟩),rowE VQ 224 bX (qs'.set to.toNat ⟨(qs'.getD to.toNat default).data ++ [(k:Int)],pq,cq⟩)]) (B:=(rs'.set k ⟨(rs'.getD k default).data ++ [(to,decide ((j:Int)=0))],pe,ce⟩).map (rvE 274 fh)) (f:=(rvE 3 aU)) (rs:=qs') to.toNat ⟨(qs'.getD to.toNat default).data ++ [(k:Int)],pq,cq⟩ (by omega) ?_
    change Tr _ _ (rowE V8 23 aa (bW (l.getD k default)) :: cellE b5 (al.enc (l.getD k default)) 36 :: cellE bx [VI,.map (some bm),VE,VG,VB,VV,VM] 228 :: rowE VG 3 aU (gd.set k (-1)) :: rowE VE 272 iQ (rs'.set k ⟨(rs'.getD k default).data ++ [(to,decide ((j:Int)=0))],pe,ce⟩) :: rowE VQ 224 bX (qs'.set to.toNat ⟨(qs'.getD to.toNat default).data ++ [(k:Int)],pq,cq⟩) :: ((rs'.set k ⟨(rs'.getD k default).data ++ [(to,decide ((j:Int)=0))],pe,ce⟩).map (rvE 274 fh) ++ ((qs'.set to.toNat ⟨(qs'.getD to.toNat default).data ++ [(k:Int)],pq,cq⟩).map (rvE 3 aU) ++ []))) _ _
    refine zR8 ?_
    refine aP (j+1,(rs'.set k ⟨(rs'.getD k default).data ++ [(to,decide ((j:Int)=0))],pe,ce⟩),(qs'.set to.toNat ⟨(qs'.getD to.toNat default).data ++ [(k:Int)],pq,cq⟩)) (hL:=(by repeat' (first|exact Pick.refl _|exact Del.here _|apply Pick.cons|apply Del.there|apply Pick.skip|exact Pick.nil _))) (o:=⟨by omega,by rw [sO (by rw [← hto]; exact ht0),← hto]; exact Ly hrs' k _ _ _,by rw [sO (by rw [← hto]; exact ht0),← hto]; exact Ly hqs' _ _ _ _⟩)
   refine zR8 ?_
   have hlt0:(bD l ((bW (l.getD k default)).getD j default))<0:=by
    rw [← hto]
    by_cases q:to<0
    ·exact q
    ·have ht1:(if to<0 then none else some to).isSome=false:=by first|assumption|simp_all
     rw [if_neg q] at ht1; simp at ht1
   refine aP (j+1,rs',qs') (hL:=(by repeat' (first|exact Pick.refl _|exact Del.here _|apply Pick.cons|apply Del.there|apply Pick.skip|exact Pick.nil _))) (o:=⟨by omega,by rw [u5 hlt0]; exact hrs',by rw [u5 hlt0]; exact hqs'⟩)
  refine cj ?_
  have hje:j=(bW (l.getD k default)).length:=by omega
  refine aP (k+1,rs',qs',gd.set k (-1)) (hL:=(by repeat' (first|exact Pick.refl _|exact Del.here _|apply Pick.cons|apply Del.there|apply Pick.skip|exact Pick.nil _))) (o:=⟨by omega,⟨by rw [sb (by assumption),← hje]; exact hrs',by rw [sb (by assumption),← hje]; exact hqs'⟩,List.length_set.trans hgl,PW (f:=fun _=>-1) hgl hgm (by omega)⟩)
 refine zR6 ?_
 obtain rfl:k=l.length:=by omega
 refine AL (A:=[cellE bx [VI,.map (some bm),VE,VG,VB,VV,VM] 228,rowE VG 3 aU gd,rowE VE 272 iQ rs,rowE VQ 224 bX qs]) (B:=rs.map (rvE 274 fh)) qs (fun F8 hF8 hQ8=>?_)
 change Tr _ _ (cellE bx [VI,.map (some bm),VE,VG,VB,VV,VM] 228 :: rowE VG 3 aU gd :: rowE VE 272 iQ rs :: rowE VQ 224 bX qs :: (rs.map (rvE 274 fh) ++ [])) _ _
 refine kw (V:=VQ) (T:=224) (E:=bX) (l:=qs) (.there _ (.there _ (.there _ (.here _)))) (fun F9 hF89 hSQ=>?_)
 have hF9:=hF8.trans hF89
 have hQ9:=hQ8.mono hF89.blk
 have hI9:=hI.mono hF9.blk
 refine bR ?_
 refine cT (ι:=Nat × List Int) (fun ⟨k,gd⟩=>k≤l.length∧gd.length=l.length∧(∀ j,j<k→gd.getD j default=oa l e (ko l l.length).into j)∧∀ j,k≤j→j<l.length→gd.getD j default=-1) (fun _=>F9) (fun ⟨k,gd⟩=>(cellE bx [VI,.map (some bm),VE,VG,VB,VV,VM] 228 :: rowE VG 3 aU gd :: rowE VE 272 iQ rs :: (rs.map (rvE 274 fh) ++ []))) (fun ⟨k,gd⟩=>[(116,.int .i64 (k:Nat))]) (fun ⟨k,gd⟩=>l.length - k) (0,gd) ⟨Nat.zero_le _,hgl,fun j hj=>absurd hj (Nat.not_lt_zero _),fun j _ hj=>hgm j hj⟩ (Front.c Front.nil) (hL:=(by repeat' (first|exact Pick.refl _|exact Del.here _|apply Pick.cons|apply Del.there|apply Pick.skip|exact Pick.nil _))) (fun i hi m hm=>?_)
 obtain ⟨k,gd⟩:=i
 dsimp only at hi hm
 conv=>enter [3]; dsimp only
 conv=>enter [4,1]; dsimp only
 obtain ⟨hk2,hgl2,hgm2,hgm3⟩:=hi
 refine zR6 ?_
 refine ab rfl ?_ ?_<;>intro h20
 ·refine zR9 ?_
  refine bH aF rfl (fun b21=>zR5 ?_)
  have hqk:Sl F9.blk aU (qs.getD k default).data (.slice (qs.getD k default).dp (qs.getD k default).data.length (qs.getD k default).dc):=hQ9 _ (ba (by omega))
  have hib:∀ x∈(qs.getD k default).data,0≤x∧x<(l.length:Int):=fun x hx=>by
   rw [oD hqs k] at hx
   exact (qV l (Nat.le_refl _)).i _ (getD_mem hx) x hx
  refine eU ah (zT2 ?_)
  refine aw (kG rfl rfl) (aw (af rfl) ?_)
  apply fD 3 124 127 (fun hT22 hT22'=>?_) ?_; rotate_right
  ·refine db hT22 (cF rfl) (db hT22 (aK rfl (fun w hw=>l5 _ w (hIO _ (ba (by omega))))) ?_)
   exact zQ
  refine aw (af rfl) ?_
  apply fD 12 128 140 (fun hT23 hT23'=>?_) ?_; rotate_right
  ·refine zT3 ?_
   refine db hT23 (ke rfl) (db hT23 (bE rfl) ?_)
   refine db hT23 (sx rfl) (zT3 ?_)
   refine db hT23 (jO rfl co) ?_
   refine db hT23 (jz rfl rfl) ?_
   exact zQ
  refine aw (af rfl) ?_
  apply fD 7 141 148 (fun hT24 hT24'=>?_) ?_; rotate_right
  ·refine zT3 ?_
   refine db hT24 (re rfl) ?_
   refine db hT24 (Aa rfl) ?_
   refine db hT24 (kG rfl rfl) ?_
   exact zQ
  refine aw (af rfl) ?_
  apply fD 14 149 163 (fun hT25 hT25'=>?_) ?_; rotate_right
  ·have hx0:=hib _ (ba (k:=0) (by omega))
   refine db hT25 (af rfl) (db hT25 (ke rfl) (db hT25 (bE rfl) ?_))
   refine db hT25 (sx rfl) (zT3 ?_)
   refine db hT25 (re rfl) ?_
   refine db hT25 (xY (i:=0) rfl rfl hqk dC aH (by rfl) (by omega)) ?_
   refine db hT25 (re rfl) ?_
   refine db hT25 (ww rfl rfl) (db hT25 (wz rfl) ?_)
   refine db hT25 (aK rfl (fun w hw=>wX _ w (hIO _ (ba (by omega))))) ?_
   exact zQ
  refine zT2 ?_
  refine ab rfl ?_ ?_<;>intro h26
  ·have hgq:=h26
   refine dO 0 12 ah ?_
   refine ax (zT9 ?_)
   refine aw (xY (i:=0) rfl rfl hqk dC aH (by rfl) (by omega)) (zT3 ?_)
   refine fN (l:=gd) (i:=k) (((qs.getD k default).data.getD 0 default)) rfl rfl aH ?_
   have hls27:=@List.length_set _ gd (k) (((qs.getD k default).data.getD 0 default))
   refine zR8 ?_
   have hgv:oa l e (ko l l.length).into k=((qs.getD k default).data.getD 0 default):=by
    unfold oa
    rw [← oD hqs k]
    exact if_pos ⟨hgq.1.1.1.1,hgq.1.1.1.2,hgq.1.1.2,by omega,hgq.2⟩
   have hgy:=PW (n:=l.length) hgl2 hgm2 (by omega)
   rw [hgv] at hgy
   refine aP (k+1,gd.set k ((qs.getD k default).data.getD 0 default)) (hL:=(by repeat' (first|exact Pick.refl _|exact Del.here _|apply Pick.cons|apply Del.there|apply Pick.skip|exact Pick.nil _))) (o:=⟨by omega,List.length_set.trans hgl2,hgy,Qw hgm3⟩)
  have hgq:=h26
  refine zR8 ?_
  have hgv:oa l e (ko l l.length).into k=-1:=by
   unfold oa
   rw [← oD hqs k]
   refine if_neg (fun hq=>?_)
   rcases hgq with (((q|q)|q)|q)|q
   ·exact q hq.1
   ·exact q hq.2.1
   ·exact hq.2.2.1 q
   ·exact q (by omega)
   ·rw [hq.2.2.2.2] at q; cases q
  refine aP (k+1,gd) (hL:=(by repeat' (first|exact Pick.refl _|exact Del.here _|apply Pick.cons|apply Del.there|apply Pick.skip|exact Pick.nil _))) (o:=⟨by omega,hgl2,Qx hgl2 hgm2 ((hgm3 k (Nat.le_refl _) (by omega)).trans hgv.symm),fun j h1 h2=>hgm3 j (by omega) h2⟩)
 refine zR4 ?_
 refine fy results161 (fun w' hw=>?_)
 have hgg:=Kw hgl2 (fun j hj=>hgm2 j (by omega))
 rw [hgg,List.append_nil] at hw
 exact ⟨(VE,VG,rs),rfl,hw.upd hF9 (by repeat' (first|exact Pick.refl _|exact Del.here _|apply Pick.cons|apply Del.there|apply Pick.skip|exact Pick.nil _)),hrs⟩
theorem Hx (l:List Bool) (V:Value) (a:Bool) (w:World) (hV:Sl (hp w) bK l V) :
  Cr prog 163 #[V,.bool a] w (.int .i64 (dA (fun x=>decide (a=x)) 0 l)):=by
 have hV':Sl (Bg.of w).blk bK l V:=hV
 have hlV:=hV'.len_le
 refine En f163 rfl rfl (jk ?_)
 refine cP (.of (ι:=Nat) (fun k=>k≤l.length∧dA (fun x=>decide (a=x)) k (l.drop k)=dA (fun x=>decide (a=x)) 0 l) (fun _=>_) (fun k=>[]) (fun k=>[(8,.int .i64 (k:Nat))]) (fun k=>l.length - k)) 0 ⟨Nat.zero_le _,rfl⟩ (Front.c Front.nil) (fun k hi m hm=>?_)
 obtain ⟨hk1,hk2⟩:=hi
 refine zR6 ?_
 refine ab rfl ?_ ?_<;>intro h1
 ·refine ug ?_
  refine zz0 (GG rfl rfl underlying4) (zR2 ?_)
  refine ab rfl ?_ ?_<;>intro h2
  ·refine df ?_
   exact aD (e:=by rw [← hk2,drop_cons (k:=k) (by omega),dA,if_pos (by simp_all)])
  refine zR8 ?_
  refine aP (k+1) (o:=⟨by omega,by rw [← hk2,drop_cons (k:=k) (by omega),dA,if_neg (by simp_all)]⟩)
 refine cj ?_
 exact aD (e:=by rw [← hk2,List.drop_of_length_le (by omega)]; rfl)
theorem Ge (l:List Ins) (entry:UInt32) (rounds:Nat) (V:Value) (w:World) (hI:Sl (hp w) al l V) (hIO:∀ x∈l,InsOK x) (hrd:rounds≤100000) :
  Calls prog 107 #[V,.int .u32 entry.toNat,.int .i64 (rounds:Nat)] w (fun e w'=>∃ V:Value,e=.returned (.tuple #[V,.int .i64 (cg l entry rounds).2])∧Below w.heap.size w w'∧NewEnts w w' [rowE V 37 bY (cg l entry rounds).1]):=by
 obtain ⟨pV,cV,hvp,_⟩:=hI.shape
 subst hvp
 have hI0:Sl (Bg.of0 w).blk al l (.slice pV l.length cV):=hI
 have hlI:=hI0.len_le
 refine lP func107 rfl ntmps107 rfl (jk ?_)
 refine ab rfl ?_ ?_<;>intro h1
 ·refine bB (ay 37 bY (zR7 ?_))
  refine cG mL rfl rfl (fun w' hw=>?_)
  have e:cg l entry rounds=([],6):=if_pos (by omega)
  refine ⟨nS,by rw [e],hw.below0 (Bg.le.refl _),by rw [e]; exact hw.ents0 rfl (by repeat' constructor)⟩
 refine zR2 ?_
 refine gX (ι:=Nat × Nat × Nat × Nat) (fun ⟨bm,bvv,bww,bq⟩=>True) (fun _=>(Bg.of0 w)) (fun ⟨bm,bvv,bww,bq⟩=>[cellE bq [(.slice pV l.length cV),.map (some bm),nS,nS,nS,.slice (some ⟨bvv,0,none⟩) (List.replicate l.length (0:Int)).length l.length,.slice (some ⟨bww,0,none⟩) (List.replicate l.length false).length l.length] 228,mapE bm jX [],rowE (.slice (some ⟨bvv,0,none⟩) (List.replicate l.length (0:Int)).length l.length) 3 aU (List.replicate l.length 0),rowE (.slice (some ⟨bww,0,none⟩) (List.replicate l.length false).length l.length) 4 bK (List.replicate l.length false)]) (fun ⟨bm,bvv,bww,bq⟩=>[(8,.pointer (some ⟨bq,0,none⟩))]) ?_ (fun i hi=>?_)
 ·skip
  refine bC ([]) 11 rfl ah ?_
  refine zK [0,2] ?_
  refine xW 3 rfl (by kernel_rfl) (aY cX) rfl aR ?_
  refine zz4 5 rfl (af rfl) ?_
  refine xW 6 rfl (by kernel_rfl) (aY cX) rfl aR ?_
  refine m8 [1,4,7] (fun iq hq=>?_)
  rcases List.mem_cons.1 hq with rfl|hq
  ·skip
   refine cU rfl ?_
   refine ij jX rfl (fun bm=>?_)
   refine aC ?_
   refine m8 [4,7] (fun iq hq=>?_)
   rcases List.mem_cons.1 hq with rfl|hq
   ·skip
    refine cU rfl ?_
    refine iz (E:=aU) 0 rfl rfl dC kx rfl rfl rfl (by constructor<;>omega) rfl (fun bvv=>?_)
    refine aC ?_
    refine au 7 rfl ?_
    refine iz (E:=bK) false rfl rfl fW mo rfl rfl rfl (by constructor<;>omega) rfl (fun bww=>?_)
    refine aC ?_
    refine jx 8 rfl (by kernel_rfl) (aY cX) (aI (vs:=[(0,_),(1,_),(5,_),(6,_)]) (cs:=#[(.slice pV l.length cV),.map (some bm),nS,nS,nS,.slice (some ⟨bvv,0,none⟩) (List.replicate l.length (0:Int)).length l.length,.slice (some ⟨bww,0,none⟩) (List.replicate l.length false).length l.length]) rfl rfl (by kernel_rfl)) ?_
    refine au 9 rfl ?_
    refine bJ (cs:=[(.slice pV l.length cV),.map (some bm),nS,nS,nS,.slice (some ⟨bvv,0,none⟩) (List.replicate l.length (0:Int)).length l.length,.slice (some ⟨bww,0,none⟩) (List.replicate l.length false).length l.length]) rfl rfl (fun bq=>?_)
    refine aC ?_
    refine zz4 10 rfl (cD rfl) ?_
    refine fg (aS ?_)
    refine aT (_,_,_,_) (o:=trivial)
   obtain rfl:=List.mem_singleton.1 hq
   refine cU rfl ?_
   refine iz (E:=bK) false rfl rfl fW mo rfl rfl rfl (by constructor<;>omega) rfl (fun bww=>?_)
   refine aC ?_
   refine au 4 rfl ?_
   refine iz (E:=aU) 0 rfl rfl dC kx rfl rfl rfl (by constructor<;>omega) rfl (fun bvv=>?_)
   refine aC ?_
   refine jx 8 rfl (by kernel_rfl) (aY cX) (aI (vs:=[(0,_),(1,_),(5,_),(6,_)]) (cs:=#[(.slice pV l.length cV),.map (some bm),nS,nS,nS,.slice (some ⟨bvv,0,none⟩) (List.replicate l.length (0:Int)).length l.length,.slice (some ⟨bww,0,none⟩) (List.replicate l.length false).length l.length]) rfl rfl (by kernel_rfl)) ?_
   refine au 9 rfl ?_
   refine bJ (cs:=[(.slice pV l.length cV),.map (some bm),nS,nS,nS,.slice (some ⟨bvv,0,none⟩) (List.replicate l.length (0:Int)).length l.length,.slice (some ⟨bww,0,none⟩) (List.replicate l.length false).length l.length]) rfl rfl (fun bq=>?_)
   refine aC ?_
   refine zz4 10 rfl (cD rfl) ?_
   refine fg (aS ?_)
   refine aT (_,_,_,_) (o:=trivial)
  rcases List.mem_cons.1 hq with rfl|hq
  ·skip
   refine cU rfl ?_
   refine iz (E:=aU) 0 rfl rfl dC kx rfl rfl rfl (by constructor<;>omega) rfl (fun bvv=>?_)
   refine aC ?_
   refine m8 [1,7] (fun iq hq=>?_)
   rcases List.mem_cons.1 hq with rfl|hq
   ·skip
    refine cU rfl ?_
    refine ij jX rfl (fun bm=>?_)
    refine aC ?_
    refine au 7 rfl ?_
    refine iz (E:=bK) false rfl rfl fW mo rfl rfl rfl (by constructor<;>omega) rfl (fun bww=>?_)
    refine aC ?_
    refine jx 8 rfl (by kernel_rfl) (aY cX) (aI (vs:=[(0,_),(1,_),(5,_),(6,_)]) (cs:=#[(.slice pV l.length cV),.map (some bm),nS,nS,nS,.slice (some ⟨bvv,0,none⟩) (List.replicate l.length (0:Int)).length l.length,.slice (some ⟨bww,0,none⟩) (List.replicate l.length false).length l.length]) rfl rfl (by kernel_rfl)) ?_
    refine au 9 rfl ?_
    refine bJ (cs:=[(.slice pV l.length cV),.map (some bm),nS,nS,nS,.slice (some ⟨bvv,0,none⟩) (List.replicate l.length (0:Int)).length l.length,.slice (some ⟨bww,0,none⟩) (List.replicate l.length false).length l.length]) rfl rfl (fun bq=>?_)
    refine aC ?_
    refine zz4 10 rfl (cD rfl) ?_
    refine fg (aS ?_)
    refine aT (_,_,_,_) (o:=trivial)
   obtain rfl:=List.mem_singleton.1 hq
   refine cU rfl ?_
   refine iz (E:=bK) false rfl rfl fW mo rfl rfl rfl (by constructor<;>omega) rfl (fun bww=>?_)
   refine aC ?_
   refine au 1 rfl ?_
   refine ij jX rfl (fun bm=>?_)
   refine aC ?_
   refine jx 8 rfl (by kernel_rfl) (aY cX) (aI (vs:=[(0,_),(1,_),(5,_),(6,_)]) (cs:=#[(.slice pV l.length cV),.map (some bm),nS,nS,nS,.slice (some ⟨bvv,0,none⟩) (List.replicate l.length (0:Int)).length l.length,.slice (some ⟨bww,0,none⟩) (List.replicate l.length false).length l.length]) rfl rfl (by kernel_rfl)) ?_
   refine au 9 rfl ?_
   refine bJ (cs:=[(.slice pV l.length cV),.map (some bm),nS,nS,nS,.slice (some ⟨bvv,0,none⟩) (List.replicate l.length (0:Int)).length l.length,.slice (some ⟨bww,0,none⟩) (List.replicate l.length false).length l.length]) rfl rfl (fun bq=>?_)
   refine aC ?_
   refine zz4 10 rfl (cD rfl) ?_
   refine fg (aS ?_)
   refine aT (_,_,_,_) (o:=trivial)
  obtain rfl:=List.mem_singleton.1 hq
  refine cU rfl ?_
  refine iz (E:=bK) false rfl rfl fW mo rfl rfl rfl (by constructor<;>omega) rfl (fun bww=>?_)
  refine aC ?_
  refine m8 [1,4] (fun iq hq=>?_)
  rcases List.mem_cons.1 hq with rfl|hq
  ·skip
   refine cU rfl ?_
   refine ij jX rfl (fun bm=>?_)
   refine aC ?_
   refine au 4 rfl ?_
   refine iz (E:=aU) 0 rfl rfl dC kx rfl rfl rfl (by constructor<;>omega) rfl (fun bvv=>?_)
   refine aC ?_
   refine jx 8 rfl (by kernel_rfl) (aY cX) (aI (vs:=[(0,_),(1,_),(5,_),(6,_)]) (cs:=#[(.slice pV l.length cV),.map (some bm),nS,nS,nS,.slice (some ⟨bvv,0,none⟩) (List.replicate l.length (0:Int)).length l.length,.slice (some ⟨bww,0,none⟩) (List.replicate l.length false).length l.length]) rfl rfl (by kernel_rfl)) ?_
   refine au 9 rfl ?_
   refine bJ (cs:=[(.slice pV l.length cV),.map (some bm),nS,nS,nS,.slice (some ⟨bvv,0,none⟩) (List.replicate l.length (0:Int)).length l.length,.slice (some ⟨bww,0,none⟩) (List.replicate l.length false).length l.length]) rfl rfl (fun bq=>?_)
   refine aC ?_
   refine zz4 10 rfl (cD rfl) ?_
   refine fg (aS ?_)
   refine aT (_,_,_,_) (o:=trivial)
  obtain rfl:=List.mem_singleton.1 hq
  refine cU rfl ?_
  refine iz (E:=aU) 0 rfl rfl dC kx rfl rfl rfl (by constructor<;>omega) rfl (fun bvv=>?_)
  refine aC ?_
  refine au 1 rfl ?_
  refine ij jX rfl (fun bm=>?_)
  refine aC ?_
  refine jx 8 rfl (by kernel_rfl) (aY cX) (aI (vs:=[(0,_),(1,_),(5,_),(6,_)]) (cs:=#[(.slice pV l.length cV),.map (some bm),nS,nS,nS,.slice (some ⟨bvv,0,none⟩) (List.replicate l.length (0:Int)).length l.length,.slice (some ⟨bww,0,none⟩) (List.replicate l.length false).length l.length]) rfl rfl (by kernel_rfl)) ?_
  refine au 9 rfl ?_
  refine bJ (cs:=[(.slice pV l.length cV),.map (some bm),nS,nS,nS,.slice (some ⟨bvv,0,none⟩) (List.replicate l.length (0:Int)).length l.length,.slice (some ⟨bww,0,none⟩) (List.replicate l.length false).length l.length]) rfl rfl (fun bq=>?_)
  refine aC ?_
  refine zz4 10 rfl (cD rfl) ?_
  refine fg (aS ?_)
  refine aT (_,_,_,_) (o:=trivial)
 obtain ⟨bm,bvv,bww,bq⟩:=i
 replace hi:True:=hi
 change Tr _ _ [cellE bq [(.slice pV l.length cV),.map (some bm),nS,nS,nS,.slice (some ⟨bvv,0,none⟩) (List.replicate l.length (0:Int)).length l.length,.slice (some ⟨bww,0,none⟩) (List.replicate l.length false).length l.length] 228,mapE bm jX [],rowE (.slice (some ⟨bvv,0,none⟩) (List.replicate l.length (0:Int)).length l.length) 3 aU (List.replicate l.length 0),rowE (.slice (some ⟨bww,0,none⟩) (List.replicate l.length false).length l.length) 4 bK (List.replicate l.length false)] ([(8,.pointer (some ⟨bq,0,none⟩))] ++ _) _
 obtain ⟨VV,hVV⟩:∃ V,V=Value.slice (some ⟨bvv,0,none⟩) (List.replicate l.length (0:Int)).length l.length:=⟨_,rfl⟩
 obtain ⟨VM,hVM⟩:∃ V,V=Value.slice (some ⟨bww,0,none⟩) (List.replicate l.length false).length l.length:=⟨_,rfl⟩
 rw [← hVV,← hVM]
 refine zR9 ?_
 refine ay 37 bY ?_
 refine cT (ι:=Nat × Value) (fun ⟨k,Vb⟩=>k≤l.length) (fun _=>_) (fun ⟨k,Vb⟩=>[cellE bq [(.slice pV l.length cV),.map (some bm),nS,nS,Vb,VV,VM] 228,rowE Vb 37 bY (List.replicate k (gI 8)),mapE bm jX (atK l k),rowE VV 3 aU (List.replicate l.length 0),rowE VM 4 bK (List.replicate l.length false)]) (fun ⟨k,Vb⟩=>[(32,.int .i64 (k:Nat))]) (fun ⟨k,Vb⟩=>l.length - k) (0,_) (Nat.zero_le _) (Front.c Front.nil) (fun i hi m hm=>?_)
 obtain ⟨k,Vb⟩:=i
 dsimp only at hi hm
 conv=>enter [3]; dsimp only
 conv=>enter [4,1]; dsimp only
 have hrk:(List.replicate k (gI 8)).length=k:=List.length_replicate
 refine zR6 ?_
 refine ab rfl ?_ ?_<;>intro h2
 ·refine zR9 ?_
  refine bH aF rfl (fun b3=>zR4 ?_)
  refine dZ (.of (ι:=List (UInt32 × Int)) (fun m1=>m1=atK l (k+1)) (fun _=>(Bg.of0 w)) (fun m1=>[cellE b3 (al.enc (l.getD k default)) 36,cellE bq [(.slice pV l.length cV),.map (some bm),nS,nS,Vb,VV,VM] 228,rowE Vb 37 bY (List.replicate k (gI 8)),mapE bm jX m1,rowE VV 3 aU (List.replicate l.length 0),rowE VM 4 bK (List.replicate l.length false)]) (fun m1=>[])) ?_ (fun m1 hi=>?_)
  ·skip
   refine bB (eU ah (zT6 ?_))
   refine aw (zX rfl rfl (by repeat constructor) iV ac jE) (aw (af rfl) ?_)
   refine aw (fJ rfl rfl) (aw (fJ rfl rfl) (Af ?_))
   refine ab rfl ?_ ?_<;>intro h4
   ·refine dO 0 7 ah ?_
    refine ax (zT8 ?_)
    refine gY (k:Int) rfl rfl rfl (by repeat constructor) iV ac rfl (zR2 ?_)
    refine aT _ (o:=(show _=atK l (k+1) from (if_neg (by simp_all)).symm))
   refine zR2 ?_
   refine aT _ (o:=(show _=atK l (k+1) from (if_pos (by simp_all)).symm))
  skip
  subst hi
  refine bC ([]) 11 rfl ah ?_
  refine zK [0,1,2,3] ?_
  refine m8 [4,5] (fun iq hq=>?_)
  rcases List.mem_cons.1 hq with rfl|hq
  ·skip
   refine cU rfl (zz0 (sx rfl) ?_)
   refine aC ?_
   refine au 5 rfl ?_
   refine zz0 (ak rfl BE) ?_
   refine aC ?_
   refine au 6 rfl ?_
   refine fM (E:=bY) (gI 8) rfl rfl ia gj cm (fun V5=>?_)
   refine aC ?_
   refine au 7 rfl ?_
   refine zz3 rfl rfl ia ud (fun V6=>?_)
   refine cn (.head _) (fun pb cb hpb=>?_)
   subst hpb
   refine aC ?_
   refine zK [8,9] ?_
   refine au 10 rfl ?_
   refine zz1 rfl rfl ny rfl ?_
   change Tr _ _ [rowE (.slice pb ((List.replicate k (gI 8)) ++ [gI 8]).length cb) 37 bY ((List.replicate k (gI 8)) ++ [gI 8]),cellE b3 (al.enc (l.getD k default)) 36,cellE bq [(.slice pV l.length cV),.map (some bm),nS,nS,(.slice pb ((List.replicate k (gI 8)) ++ [gI 8]).length cb),VV,VM] 228,mapE bm jX (atK l (k+1)),rowE VV 3 aU (List.replicate l.length 0),rowE VM 4 bK (List.replicate l.length false)] _ _
   refine aC ?_
   refine fg (zR7 ?_)
   rw [← List.replicate_succ']
   refine aP (k+1,_) (o:=(by show k+1≤_; omega))
  obtain rfl:=List.mem_singleton.1 hq
  refine cU rfl ?_
  refine zz0 (ak rfl BE) ?_
  refine aC ?_
  refine m8 [4,6] (fun iq hq=>?_)
  rcases List.mem_cons.1 hq with rfl|hq
  ·skip
   refine cU rfl (zz0 (sx rfl) ?_)
   refine aC ?_
   refine au 6 rfl ?_
   refine fM (E:=bY) (gI 8) rfl rfl ia gj cm (fun V7=>?_)
   refine aC ?_
   refine au 7 rfl ?_
   refine zz3 rfl rfl ia ud (fun V8=>?_)
   refine cn (.head _) (fun pb cb hpb=>?_)
   subst hpb
   refine aC ?_
   refine zK [8,9] ?_
   refine au 10 rfl ?_
   refine zz1 rfl rfl ny rfl ?_
   change Tr _ _ [rowE (.slice pb ((List.replicate k (gI 8)) ++ [gI 8]).length cb) 37 bY ((List.replicate k (gI 8)) ++ [gI 8]),cellE b3 (al.enc (l.getD k default)) 36,cellE bq [(.slice pV l.length cV),.map (some bm),nS,nS,(.slice pb ((List.replicate k (gI 8)) ++ [gI 8]).length cb),VV,VM] 228,mapE bm jX (atK l (k+1)),rowE VV 3 aU (List.replicate l.length 0),rowE VM 4 bK (List.replicate l.length false)] _ _
   refine aC ?_
   refine fg (zR7 ?_)
   rw [← List.replicate_succ']
   refine aP (k+1,_) (o:=(by show k+1≤_; omega))
  obtain rfl:=List.mem_singleton.1 hq
  refine cU rfl ?_
  refine fM (E:=bY) (gI 8) rfl rfl ia gj cm (fun V9=>?_)
  refine aC ?_
  refine au 4 rfl (zz0 (sx rfl) ?_)
  refine aC ?_
  refine au 7 rfl ?_
  refine zz3 rfl rfl ia ud (fun V10=>?_)
  refine cn (.head _) (fun pb cb hpb=>?_)
  subst hpb
  refine aC ?_
  refine zK [8,9] ?_
  refine au 10 rfl ?_
  refine zz1 rfl rfl ny rfl ?_
  change Tr _ _ [rowE (.slice pb ((List.replicate k (gI 8)) ++ [gI 8]).length cb) 37 bY ((List.replicate k (gI 8)) ++ [gI 8]),cellE b3 (al.enc (l.getD k default)) 36,cellE bq [(.slice pV l.length cV),.map (some bm),nS,nS,(.slice pb ((List.replicate k (gI 8)) ++ [gI 8]).length cb),VV,VM] 228,mapE bm jX (atK l (k+1)),rowE VV 3 aU (List.replicate l.length 0),rowE VM 4 bK (List.replicate l.length false)] _ _
  refine aC ?_
  refine fg (zR7 ?_)
  rw [← List.replicate_succ']
  refine aP (k+1,_) (o:=(by show k+1≤_; omega))
 refine zR6 ?_
 obtain rfl:k=l.length:=by omega
 refine zR6 ?_
 refine zz0 (zX rfl rfl (by repeat constructor) iV ac jE) ?_
 rw [H2]
 obtain ⟨fe,hfe⟩:∃ fe,fe=bD l entry:=⟨_,rfl⟩
 rw [← hfe]
 refine jk ?_
 refine ab rfl ?_ ?_<;>intro h11
 ·refine bB (ay 37 bY (zR7 ?_))
  refine cG mL rfl rfl (fun w' hw=>?_)
  have ht1:(if fe<0 then none else some fe).isSome=false:=by first|assumption|simp_all
  have ht0:fe<0:=by
   by_cases q:fe<0
   ·exact q
   ·rw [if_neg q] at ht1; simp at ht1
  have e:cg l entry rounds=([],9):=by unfold cg; rw [if_neg (by omega),if_pos (by rw [← hfe]; exact ht0)]
  refine ⟨nS,by rw [e],hw.below0 (Bg.le.refl _),by rw [e]; exact hw.ents0 rfl (by repeat' constructor)⟩
 refine zR3 ?_
 have ht1:(if fe<0 then none else some fe).isSome=true:=by first|assumption|simp_all
 have ht0:¬ fe<0:=fun q=>by rw [if_pos q] at ht1; simp at ht1
 have htl:=(od l entry).2
 rw [← hfe] at htl
 rw [if_neg ht0,Option.getD_some]
 obtain ⟨fn,hfn⟩:∃ fn:Nat,fe=(fn:Int):=⟨fe.toNat,by omega⟩
 subst hfn
 refine oo (b:=bm) (by repeat constructor) (fun F1 hF1 hA1=>zR3 ?_)
 refine jy (fun _:Value × Value × List EdV=>.tuple #[]) [cellE bq [(.slice pV l.length cV),.map (some bm),nS,nS,Vb,VV,VM] 228] (fun i:Value × Value × List EdV=>cellE bq [(.slice pV l.length cV),.map (some bm),i.1,i.2.1,Vb,VV,VM] 228 :: rowE i.2.1 3 aU (bZ l fn) :: rowE i.1 272 iQ i.2.2 :: i.2.2.map (rvE 274 fh)) (ok:=fun i=>i.2.2.map (·.data)=cO l) (dd:=fun _=>0) rfl call161 (by repeat' constructor) (fun w hw=>Nat.le_of_eq hF1.dr) (fun w hw=>FI l fn bq bm (.slice pV l.length cV) Vb VV VM w (hw.own (by repeat' constructor)) ((hI0.mono hF1.blk).mono (show Hp.le F1.blk (Bg.lessB w [bq] 0).blk from hw.lessB (Lo:=[cellE bq [(.slice pV l.length cV),.map (some bm),nS,nS,Vb,VV,VM] 228]) (by repeat' constructor))) (hA1.mono (show Hp.le F1.blk (Bg.lessB w [bq] 0).blk from hw.lessB (Lo:=[cellE bq [(.slice pV l.length cV),.map (some bm),nS,nS,Vb,VV,VM] 228]) (by repeat' constructor))) hIO (by omega) (by omega)) rfl (fun i15 hrs=>?_)
 obtain ⟨VE,VG,rs⟩:=i15
 replace hrs:rs.map (·.data)=cO l:=hrs
 refine Du (A:=[cellE bq [(.slice pV l.length cV),.map (some bm),VE,VG,Vb,VV,VM] 228,rowE VG 3 aU (bZ l fn),rowE VE 272 iQ rs]) rs (fun F2 hF2 hEI2=>?_)
 change Tr _ _ [cellE bq [(.slice pV l.length cV),.map (some bm),VE,VG,Vb,VV,VM] 228,rowE VG 3 aU (bZ l fn),rowE VE 272 iQ rs,rowE Vb 37 bY (List.replicate l.length (gI 8)),rowE VV 3 aU (List.replicate l.length 0),rowE VM 4 bK (List.replicate l.length false)] _ _
 refine zP (b:=bq) (.here _) (fun F3 hF3 hcx3=>?_)
 refine kw (V:=VG) (T:=3) (E:=aU) (.here _) (fun F4 hF4 hG4=>?_)
 refine kw (V:=VE) (T:=272) (E:=iQ) (.here _) (fun F5 hF5 hE5=>?_)
 have hF15:=hF2.trans (hF3.trans (hF4.trans hF5))
 have hF05:=hF1.trans hF15
 have hEI5:=hEI2.mono (hF3.trans (hF4.trans hF5)).blk
 have hcx5:=hcx3.mono (hF4.trans hF5).blk
 have hG5:=hG4.mono hF5.blk
 have hI5:=hI0.mono hF05.blk
 have hdr5:F5.dr=0:=hF05.dr
 refine zR3 ?_
 have hr1:(List.replicate l.length (gI 8)).length=l.length:=List.length_replicate
 have hr2:(List.replicate l.length false).length=l.length:=List.length_replicate
 refine dO 0 7 ah ?_
 refine ax (zT3 ?_)
 refine aw (eL rfl hcx5 m4 (by rfl)) (aw (af rfl) ?_)
 refine aw (ak rfl rx) (zT2 ?_)
 refine fN (l:=(List.replicate l.length (gI 8))) (i:=fn) ((vr 8)) rfl rfl gj ?_
 have hls12:=@List.length_set _ (List.replicate l.length (gI 8)) (fn) ((vr 8))
 refine zR7 ?_
 refine zz0 (eL rfl hcx5 oY (by rfl)) (zR2 ?_)
 refine fN (l:=(List.replicate l.length false)) (i:=fn) (true) rfl rfl mg ?_
 have hls13:=@List.length_set _ (List.replicate l.length false) (fn) (true)
 refine zR8 ?_
 refine cT (ι:=Nat × VSt) (fun ⟨n,s⟩=>(n≤rounds∧fP l (bZ l fn) (cO l) (rounds - n) s=fP l (bZ l fn) (cO l) rounds (lH l fn))∧(s.st.length=l.length∧s.vs.length=l.length∧s.mb.length=l.length)∧∀ v∈s.vs,0≤v∧v≤(n:Int)) (fun _=>F5) (fun ⟨n,s⟩=>[rowE Vb 37 bY s.st,rowE VV 3 aU s.vs,rowE VM 4 bK s.mb]) (fun ⟨n,s⟩=>[(15,.int .i64 (n:Nat))]) (fun ⟨n,s⟩=>rounds - n) (0,(lH l fn)) ⟨⟨Nat.zero_le _,by rw [Nat.sub_zero]⟩,⟨by simp [lH],by simp [lH],by simp [lH]⟩,fun v hv=>by rw [(List.mem_replicate.1 hv).2]; omega⟩ (Front.c Front.nil) (fun i hi m hm=>?_)
 obtain ⟨n,s⟩:=i
 dsimp only at hi hm
 conv=>enter [3]; dsimp only
 conv=>enter [4,1]; dsimp only
 obtain ⟨⟨hnr,han⟩,⟨hst,hvt,hmt⟩,hvn⟩:=hi
 refine zR7 ?_
 refine zz0 (eL rfl hcx5 oY (by rfl)) ?_
 refine zz0 (aK rfl (fun w hw=>Hx s.mb VM true w hw.rM)) (bR ?_)
 refine ab rfl ?_ ?_<;>intro h14
 ·refine zR5 ?_
  refine zz0 (eL rfl hcx5 m4 (by rfl)) (bR ?_)
  refine cG mL rfl rfl (fun w' hw=>?_)
  have e:cg l entry rounds=(s.st,0):=by
   unfold cg
   rw [if_neg (by omega),if_neg (by rw [← hfe]; exact ht0),← hfe,Int.toNat_natCast,← han]
   exact ti (by show dA _ _ _<0; assumption)
  refine ⟨Vb,by rw [e],hw.below0 hF05,by rw [e]; exact hw.ents0 hF05.lo (by repeat' constructor)⟩
 refine bR ?_
 refine ab rfl ?_ ?_<;>intro h15
 ·refine bB (ay 37 bY (cj ?_))
  refine cG mL rfl rfl (fun w' hw=>?_)
  have e:cg l entry rounds=([],15):=by
   unfold cg
   rw [if_neg (by omega),if_neg (by rw [← hfe]; exact ht0),← hfe,Int.toNat_natCast,← han,show rounds - n=0 by omega]
   exact vc (by show ¬ dA _ _ _<0; omega)
  refine ⟨nS,by rw [e],hw.below0 hF05,by rw [e]; exact hw.ents0 hF05.lo (by repeat' constructor)⟩
 refine zR2 ?_
 obtain ⟨km,hkm⟩:∃ km:Nat,dA (fun x=>decide (true=x)) 0 s.mb=(km:Int):=⟨_,(Int.toNat_of_nonneg (by omega)).symm⟩
 rw [hkm]
 have hkl:=jY (fun x=>decide (true=x)) s.mb 0
 refine zR3 ?_
 refine jy (fun _:Unit=>.tuple #[]) [rowE Vb 37 bY s.st,rowE VV 3 aU s.vs,rowE VM 4 bK s.mb] (fun _=>[rowE Vb 37 bY (iK l (bZ l fn) (rs.getD km default).data km s).st,rowE VV 3 aU (iK l (bZ l fn) (rs.getD km default).data km s).vs,rowE VM 4 bK (iK l (bZ l fn) (rs.getD km default).data km s).mb]) (ok:=fun _=>True) (dd:=fun _=>0) rfl call164 (by repeat' constructor) (fun w hw=>Nat.le_of_eq hdr5) (fun w hw=>Jv l (bZ l fn) rs s bq bm km (.slice pV l.length cV) VE VG Vb VV VM w (hw.own (by repeat' constructor)) (hcx5.mono (show Hp.le F5.blk (Bg.lessB w (cx [rowE Vb 37 bY s.st,rowE VV 3 aU s.vs,rowE VM 4 bK s.mb]) 0).blk from hw.lessB (Lo:=[rowE Vb 37 bY s.st,rowE VV 3 aU s.vs,rowE VM 4 bK s.mb]) (by repeat' constructor))) (hI5.mono (show Hp.le F5.blk (Bg.lessB w (cx [rowE Vb 37 bY s.st,rowE VV 3 aU s.vs,rowE VM 4 bK s.mb]) 0).blk from hw.lessB (Lo:=[rowE Vb 37 bY s.st,rowE VV 3 aU s.vs,rowE VM 4 bK s.mb]) (by repeat' constructor))) (hG5.mono (show Hp.le F5.blk (Bg.lessB w (cx [rowE Vb 37 bY s.st,rowE VV 3 aU s.vs,rowE VM 4 bK s.mb]) 0).blk from hw.lessB (Lo:=[rowE Vb 37 bY s.st,rowE VV 3 aU s.vs,rowE VM 4 bK s.mb]) (by repeat' constructor))) (hE5.mono (show Hp.le F5.blk (Bg.lessB w (cx [rowE Vb 37 bY s.st,rowE VV 3 aU s.vs,rowE VM 4 bK s.mb]) 0).blk from hw.lessB (Lo:=[rowE Vb 37 bY s.st,rowE VV 3 aU s.vs,rowE VM 4 bK s.mb]) (by repeat' constructor))) (hEI5.mono (show Hp.le F5.blk (Bg.lessB w (cx [rowE Vb 37 bY s.st,rowE VV 3 aU s.vs,rowE VM 4 bK s.mb]) 0).blk from hw.lessB (Lo:=[rowE Vb 37 bY s.st,rowE VV 3 aU s.vs,rowE VM 4 bK s.mb]) (by repeat' constructor))) hIO (ze _ _) hst hvt hmt (KE hrs) (Kq _ _) (OU hrs km) (fun v hv=>by have:=hvn v hv; omega) (by omega)) rfl (fun _ _=>zR9 ?_)
 have hfm:jZ s.mb=(km:Int):=hkm
 have hstep:fP l (bZ l fn) (cO l) (rounds - n) s=fP l (bZ l fn) (cO l) (rounds - (n+1)) (iK l (bZ l fn) (rs.getD km default).data km s):=by
  rw [show rounds - n=rounds - (n+1)+1 by omega,tg (by rw [hfm]; omega),hfm,Int.toNat_natCast,oD hrs km]
 have hvl:=tq l (bZ l fn) (rs.getD km default).data km s
 have hvv:=DT (l:=l) (gd:=(bZ l fn)) (es:=(rs.getD km default).data) (k:=km) (by omega) hvn
 refine aP (n+1,iK l (bZ l fn) (rs.getD km default).data km s) (o:=⟨⟨by omega,hstep.symm.trans han⟩,⟨hvl.1.trans hst,hvl.2.1.trans hvt,hvl.2.2.trans hmt⟩,hvv⟩)
theorem NX (l:List SecV) (pV:Option Addr) (cV:Nat) (a:UInt32) (w:World) (hV:Sl (hp w) bP l (.slice pV l.length cV)) (hB:SecB l) (hD:DataIn (hp w) l) :
  Cr prog 104 #[.agg #[(.slice pV l.length cV)],.int .u32 a.toNat] w (.tuple #[.int .u32 (mO l a).1.toNat,.bool (mO l a).2]):=by
 have hV':Sl (Bg.of w).blk bP l (.slice pV l.length cV):=hV
 have hff:=j1 (l:=l) (a:=a)
 have hD':DataIn (Bg.of w).blk l:=hD
 refine En f104 rfl rfl (zR2 ?_)
 refine bJ rfl rfl (fun b1=>zR9 ?_)
 refine eT (fun V=>.tuple #[V,.int .i64 (fF l a 4).2]) rfl call157 (fun w hw=>LV l (.slice pV l.length cV) a 4 w (hw.slF hV') hB (hD'.mono hw.bg) (by omega)) rfl (fun V2=>gB ?_)
 apply gJ 4 18 22 (fun hF3 hF3'=>?_) ?_; rotate_right
 ·refine zz5 hF3 (af rfl) (zz5 hF3 (rc rfl) ?_)
  exact zE
 refine zR2 ?_
 refine ab rfl ?_ ?_<;>intro h4
 ·have hq1:=h4
  refine zR8 ?_
  exact dR (e:=by unfold mO; rw [if_pos (by omega)]; rfl)
 have hq1:=h4
 refine zR7 ?_
 refine zz0 (aK rfl (fun w hw=>uX l (.slice pV l.length cV) a w (hw.slF hV') hB)) (zR9 ?_)
 apply gJ 7 29 36 (fun hF5 hF5'=>?_) ?_; rotate_right
 ·refine zR5 ?_
  refine zz5 hF5 (jO rfl nJ) ?_
  exact zE
 refine zR2 ?_
 refine ab rfl ?_ ?_<;>intro h6
 ·have hq2:=h6
  refine zR8 ?_
  exact dR (e:=by unfold mO; rw [if_neg (by omega),if_pos hq2]; rfl)
 have hq2:=h6
 refine j8 (bB (eU ah (aw (af rfl) ?_)))
 refine aw (DJ (E:=cd) (l:=(fF l a 4).1) (i:=0) rfl rfl an bA) (aw (mm rfl) ?_)
 refine aw (dW rfl ao ac) (aw (af rfl) (aw (DJ (E:=cd) (l:=(fF l a 4).1) (i:=1) rfl rfl an bA) (aw (mm rfl) ?_)))
 refine aw (dW rfl ao ac) (aw (lY rfl rfl (by omega)) ?_)
 refine aw (sU rfl rfl) (aw (af rfl) ?_)
 refine aw (DJ (E:=cd) (l:=(fF l a 4).1) (i:=2) rfl rfl an bA) (aw (mm rfl) ?_)
 refine aw (dW rfl ao ac) (aw (lY rfl rfl (by omega)) ?_)
 refine aw (sU rfl rfl) (aw (af rfl) ?_)
 refine aw (DJ (E:=cd) (l:=(fF l a 4).1) (i:=3) rfl rfl an bA) (aw (mm rfl) ?_)
 refine aw (dW rfl ao ac) (aw (lY rfl rfl (by omega)) ?_)
 refine aw (sU rfl rfl) (zT5 ?_)
 refine dR (e:=?_)
 unfold mO
 rw [if_neg (by omega),if_neg (fun q=>q.elim (fun q=>hq2.1 q) (fun q=>by rw [hq2.2] at q; cases q))]
 exact congrArg (fun x:UInt32=>Ending.returned (.tuple #[.int .u32 x.toNat,.bool true])) (PR (by omega))
theorem AT (l:List SecV) (pV:Option Addr) (cV:Nat) (a:UInt32) (w:World) (hV:Sl (hp w) bP l (.slice pV l.length cV)) (hB:SecB l) :
  Cr prog 44 #[.agg #[(.slice pV l.length cV)],.int .u32 a.toNat] w (.bool (D3 l a)):=by
 have hV':Sl (Bg.of w).blk bP l (.slice pV l.length cV):=hV
 have hff:=j1 (l:=l) (a:=a)
 refine En f44 rfl rfl (zR2 ?_)
 refine bJ rfl rfl (fun b1=>zR8 ?_)
 refine zz0 (aK rfl (fun w hw=>uX l (.slice pV l.length cV) a w (hw.slF hV') hB)) (zR8 ?_)
 apply dV 7 12 19 (fun hT2 hT2'=>?_) ?_; rotate_right
 ·refine zR5 ?_
  refine zz5 hT2 (jO rfl nJ) ?_
  exact zE
 refine zR4 ?_
 exact aD (e:=rfl)
theorem Fx (l:List SecV) (pV:Option Addr) (cV:Nat) (t j:UInt32) (w:World) (hV:Sl (hp w) bP l (.slice pV l.length cV)) (hB:SecB l) (hD:DataIn (hp w) l) :
  Cr prog 45 #[.agg #[(.slice pV l.length cV)],.int .u32 t.toNat,.int .u32 j.toNat] w (.tuple #[.int .u32 (jp l t j).1.toNat,.bool (jp l t j).2]):=by
 have hV':Sl (Bg.of w).blk bP l (.slice pV l.length cV):=hV
 have hD':DataIn (Bg.of w).blk l:=hD
 refine En f45 rfl rfl (zR2 ?_)
 refine bJ rfl rfl (fun b1=>zR9 ?_)
 refine zz0 (oq (m:=4) rfl rfl) (zz0 (gl rfl rfl) ?_)
 refine zz0 (aK rfl (fun w hw=>NX l pV cV (t+4 * j) w (hw.slF hV') hB (hD'.mono hw.bg))) (df ?_)
 apply dV 4 21 25 (fun hT2 hT2'=>?_) ?_; rotate_right
 ·refine zR2 ?_
  refine zz5 hT2 (aK rfl (fun w hw=>AT l pV cV (mO l (t+4 * j)).1 w (hw.slF hV') hB)) ?_
  exact zE
 refine zR5 ?_
 exact dR (e:=rfl)
theorem wT (i:Ins) (w:World) (hI:InsOK i) :
  Cr prog 38 #[.agg (al.enc i).toArray] w (.bool (ow i)):=by
 refine En f38 rfl rfl (zR2 ?_)
 refine bJ rfl rfl (fun b1=>zR6 ?_)
 refine zz0 (aK rfl (fun w hw=>l5 i w hI)) (zz0 (af rfl) ?_)
 apply fC
 ·exact (rfl:_=(14,5,19))
 ·exact rfl
 ·intro hT2; have hT2':=hT2
  try simp only [bs] at hT2'
  refine zR4 ?_
  apply gA
  ·exact (rfl:_=(4,9,13))
  ·exact rfl
  ·intro hF3; have hF3':=hF3
   try simp only [bs] at hF3'
   refine zR6 ?_
   exact aN (Sub.cons rfl (zz7 4 rfl))
  ·intro hT3
   refine zR6 ?_
   exact aN (Sub.cons rfl (zz7 4 rfl))
  refine zz5 hT2 (af rfl) ?_
  apply gA
  ·exact (rfl:_=(4,14,18))
  ·exact rfl
  ·intro hF4; have hF4':=hF4
   try simp only [bs] at hF4'
   refine zR6 ?_
   exact aN (Sub.cons rfl (zz7 4 rfl))
  ·intro hT4
   refine zR6 ?_
   exact aN (Sub.cons rfl (zz7 4 rfl))
  refine zR3 ?_
  exact aN (Sub.cons rfl (zz7 8 rfl))
 ·intro hF2
  refine pf ?_
  exact aN (Sub.cons rfl (zz7 14 rfl))
 refine zR4 ?_
 exact aD (e:=by unfold ow uO; congr 2; rw [Bool.eq_iff_iff]; simp only [Bool.and_eq_true,Bool.or_eq_true,decide_eq_true_eq]; omega)
theorem Aw (l:List UInt32) (V:Value) (g:FuncId) (cb:List Value) (w:World) (hV:Sl (hp w) aa l V) (eg:∀ (args:Array Value) (w:World),(callFunc g args).run prog w=.ok (.enter g args) w) (p:UInt32→Bool) (hp:∀ x∈l,∀ w',Ext w w'→Calls prog g ([Value.int .u32 x.toNat] ++ cb).toArray w' fun e w''=>e=.returned (.bool (p x))∧Ext w' w'') :
  Cr prog 101 #[V,.func (.func g) #[] cb.toArray] w (.int .i64 (dA p 0 l)):=by
 have hV':Sl (Bg.of w).blk aa l V:=hV
 have hlen:=hV.len_le
 refine En f101 rfl rfl (jk ?_)
 refine cP (.of (ι:=Nat) (fun k=>k≤l.length∧dA p k (l.drop k)=dA p 0 l) (fun _=>_) (fun k=>[]) (fun k=>[(8,.int .i64 (k:Nat))]) (fun k=>l.length - k)) 0 ⟨Nat.zero_le _,rfl⟩ (Front.c Front.nil) (fun k hi m hm=>?_)
 obtain ⟨hk1,hk2⟩:=hi
 refine zR6 ?_
 refine ab rfl ?_ ?_<;>intro h1
 ·refine ug ?_
  refine zz0 (i6 rfl rfl eg (fun w hw=>hp _ (ba (by omega)) w (hw.b0))) (zR2 ?_)
  refine ab rfl ?_ ?_<;>intro h2
  ·refine df ?_
   exact aD (e:=by rw [← hk2,drop_cons (k:=k) (by omega),dA,if_pos (by assumption)])
  refine zR8 ?_
  refine aP (k+1) (o:=⟨by omega,by rw [← hk2,drop_cons (k:=k) (by omega),dA,if_neg (by simp_all)]⟩)
 refine cj ?_
 exact aD (e:=by rw [← hk2,List.drop_of_length_le (by omega)]; rfl)
theorem v8 (l:List UInt32) (V:Value) (g:FuncId) (cb:List Value) (w:World) (hV:Sl (hp w) aa l V) (eg:∀ (args:Array Value) (w:World),(callFunc g args).run prog w=.ok (.enter g args) w) (p:UInt32→Bool) (hp:∀ x∈l,∀ w',Ext w w'→Calls prog g ([Value.int .u32 x.toNat] ++ cb).toArray w' fun e w''=>e=.returned (.bool (p x))∧Ext w' w'') :
  Cr prog 42 #[V,.func (.func g) #[] cb.toArray] w (.bool (l.any p)):=by
 have hV':Sl (Bg.of w).blk aa l V:=hV
 refine En f42 rfl rfl (zR9 ?_)
 refine zz0 (aK rfl (fun w hw=>Aw l V g cb w (hw.slF hV') eg p (fun x hx w'' h=>hp x hx w'' ((hw.b0).trans h)))) (zR5 ?_)
 exact aD (e:=by rw [uQ])
theorem PO (l:List SecV) (pV:Option Addr) (cV:Nat) (w:World) :
  Calls prog 43 #[.func (.func 44) #[.agg #[(.slice pV l.length cV)]] #[]] w (fun e w'=>∃ b:Nat,e=.returned (.func (.func 102) #[] #[.pointer (some ⟨b,0,none⟩)])∧Ext w w'∧NewEnts w w' [cellE b [.func (.func 44) #[.agg #[(.slice pV l.length cV)]] #[]] 95]∧True):=by
 refine En f43 rfl rfl (zR2 ?_)
 refine bJ rfl rfl (fun b1=>zR5 ?_)
 refine zz0 (fB rfl rfl) (zR4 ?_)
 exact aM results43 rfl fun w' hw=>⟨_,rfl,hw.b0,hw.ents (Bg.le.refl _) (Pick.refl _),trivial⟩
theorem Ox (l:List SecV) (pV:Option Addr) (cV:Nat) (a:UInt32) (b:Nat) (w:World) (hV:Sl (hp w) bP l (.slice pV l.length cV)) (hB:SecB l) (hc:Cell (hp w) b 0 (.func (.func 44) #[.agg #[(.slice pV l.length cV)]] #[])) :
  Cr prog 102 #[.int .u32 a.toNat,.pointer (some ⟨b,0,none⟩)] w (.bool (!D3 l a)):=by
 have hV':Sl (Bg.of w).blk bP l (.slice pV l.length cV):=hV
 have hc':Cell (Bg.of w).blk b 0 (.func (.func 44) #[.agg #[(.slice pV l.length cV)]] #[]):=hc
 refine En f102 rfl rfl (zR7 ?_)
 refine zz0 (qm rfl (by assumption) isAgg95) (zz0 (af rfl) ?_)
 refine zz0 (K6 (us:=[.agg #[(.slice pV l.length cV)]]) rfl rfl call44 (fun w hw=>AT l pV cV a w (hw.slF hV') hB)) (zR5 ?_)
 exact aD (e:=rfl)
theorem nP (l:List SecV) (pV:Option Addr) (cV:Nat) (i:Ins) (s:StV) (w:World) (hV:Sl (hp w) bP l (.slice pV l.length cV)) (hB:SecB l) (hD:DataIn (hp w) l) (hN:∀ s∈l,s.name.size≤140737488351232) (hI:InsOK i) :
  Calls prog 12 #[(.slice pV l.length cV),.agg (al.enc i).toArray,.agg (bY.enc s).toArray] w (fun e w'=>∃ V':Value,e=.returned (.tuple #[V',.int .i64 (aQ l i (s.get i.a)).2])∧Ext w w'∧dY w w' 23 aa (aQ l i (s.get i.a)).1 V'):=by
 have hV':Sl (Bg.of w).blk bP l (.slice pV l.length cV):=hV
 have hD':DataIn (Bg.of w).blk l:=hD
 refine En f12 rfl rfl (zR2 ?_)
 refine bJ rfl rfl (fun b1=>?_)
 refine bJ rfl rfl (fun b2=>zR8 ?_)
 refine zz0 (aK rfl (fun w hw=>wT i w hI)) (zR3 ?_)
 refine ab rfl ?_ ?_<;>intro h3
 ·have hq1:ow i=false:=h3
  refine zR8 ?_
  refine cG ix rfl rfl (fun w' hw=>?_)
  have e:aQ l i (s.get i.a)=([],2):=by
   unfold aQ
   rw [if_pos hq1]
  exact ⟨nS,by rw [e],hw.b0,by rw [e]; exact cH rfl⟩
 have hq1:ow i=true:=by simpa using h3
 refine zR6 ?_
 refine zz0 (aK rfl (fun w hw=>wd l (.slice pV l.length cV) w (hw.slF hV') hB (fun s hs=>by have:=hN s hs; omega))) (zR9 ?_)
 refine ab rfl ?_ ?_<;>intro h4
 ·have hq2:fV l≠0:=h4
  refine zR9 ?_
  refine cG ix rfl rfl (fun w' hw=>?_)
  have e:aQ l i (s.get i.a)=([],fV l):=by
   unfold aQ
   rw [if_neg (by rw [hq1]; simp)]
   rw [if_pos hq2]
  exact ⟨nS,by rw [e],hw.b0,by rw [e]; exact cH rfl⟩
 have hq2:fV l=0:=by simpa using h4
 refine zR3 ?_
 have hA:=ly (show eN i=0 by unfold ow at hq1; simp at hq1; exact hq1.1)
 refine zR4 ?_
 refine zz0 (gn rfl rfl aA aj) ?_
 refine zz0 (dI (vs:=er.enc (s.get i.a)) rfl (by repeat constructor) aV aj (ie ⟨by omega,by omega⟩ (by simp)) rfl) ?_
 obtain ⟨x,hx⟩:∃ x,x=s.get i.a:=⟨_,rfl⟩
 rw [← hx]
 refine bH aJ rfl (fun b5=>zR7 ?_)
 refine zz0 (ak rfl (yk _)) (zR2 ?_)
 refine cZ 3 34 37 (h2:=?_)
 refine zz0 (af rfl) ?_
 refine cZ 3 38 41 (h2:=zR2 ?_)
 refine ab rfl ?_ ?_<;>intro h8
 ·have hq3:=h8
  refine zR8 ?_
  refine cG ix rfl rfl (fun w' hw=>?_)
  have e:aQ l i x=([],19):=by
   unfold aQ
   rw [if_neg (by rw [hq1]; simp)]
   rw [if_neg (fun q=>q hq2)]
   rw [if_pos (by rcases hq3 with (q|q)|q<;>simp_all)]
  exact ⟨nS,by rw [e],hw.b0,by rw [e]; exact cH rfl⟩
 have hq3:=h8
 refine zR5 ?_
 refine zz0 (aI (vs:=[(0,_)]) rfl rfl rfl) ?_
 refine bH zeroValue92 rfl (fun b9=>?_)
 refine zz8 rfl rfl sizeOf92 ?_
 refine bR ?_
 refine ab rfl ?_ ?_<;>intro h10
 ·have hqo:i.op≠22:=h10
  refine zR3 ?_
  refine eT (fun V=>.tuple #[V,.int .i64 (dm x).2]) rfl call41 (fun w hw=>wU x w) rfl (fun VE=>gB ?_)
  apply gJ 6 54 60 (fun hF11 hF11'=>?_) ?_; rotate_right
  ·refine zR2 ?_
   refine zz5 hF11 (fB rfl rfl) ?_
   refine zO rfl rfl hF11 ?_
   refine jh (fun b:Nat=>.func (.func 102) #[] #[.pointer (some ⟨b,0,none⟩)]) (fun b=>[cellE b [.func (.func 44) #[.agg #[(.slice pV l.length cV)]] #[]] 95]) (ok:=fun _=>True) rfl call43 (fun w hw=>PO l pV cV w) rfl (fun bf _=>?_)
   refine zz5 hF11 (aK rfl (fun w hw=>v8 (dm x).1 VE _ [.pointer (some ⟨bf,0,none⟩)] w hw.rM call102 (fun a=>!D3 l a) (fun y hy w'' h=>Ox l pV cV y bf w'' ((hw.slF hV').mono h.hp) hB (cellE.cell (hw.ent _ (by repeat constructor)) h rfl)))) ?_
   exact zE
  refine zR2 ?_
  refine ab rfl ?_ ?_<;>intro h12
  ·have hq6:=h12
   refine zR9 ?_
   refine cG ix rfl rfl (fun w' hw=>?_)
   have e:aQ l i x=([],19):=by
    unfold aQ
    rw [if_neg (by rw [hq1]; simp)]
    rw [if_neg (fun q=>q hq2)]
    rw [if_neg (show ¬((eD x=false∨x.em=true)∨x.top=true) from fun q=>by rcases q with (q|q)|q<;>simp_all)]
    rw [if_pos hqo,if_pos (by rcases hq6 with q|q<;>simp_all)]
   exact ⟨nS,by rw [e],hw.b0,by rw [e]; exact cH rfl⟩
  have hq6:=h12
  refine cj ?_
  refine cG ix rfl rfl (fun w' hw=>?_)
  have e:aQ l i x=((dm x).1,0):=by
   unfold aQ
   rw [if_neg (by rw [hq1]; simp)]
   rw [if_neg (fun q=>q hq2)]
   rw [if_neg (show ¬((eD x=false∨x.em=true)∨x.top=true) from fun q=>by rcases q with (q|q)|q<;>simp_all)]
   rw [if_pos hqo,if_neg (by simp_all)]
  exact ⟨VE,by rw [e]; rfl,hw.b0,by rw [e]; exact hw.new (by repeat constructor)⟩
 have hqo:i.op=22:=by simpa using h10
 refine zR7 ?_
 refine zz0 (jA (n:=64) rfl rfl) (zR2 ?_)
 refine ab rfl ?_ ?_<;>intro h13
 ·have hq4:64≤x.hi:=h13
  refine zR8 ?_
  refine cG ix rfl rfl (fun w' hw=>?_)
  have e:aQ l i x=([],19):=by
   unfold aQ
   rw [if_neg (by rw [hq1]; simp)]
   rw [if_neg (fun q=>q hq2)]
   rw [if_neg (show ¬((eD x=false∨x.em=true)∨x.top=true) from fun q=>by rcases q with (q|q)|q<;>simp_all)]
   rw [if_neg (fun q=>q hqo),if_pos hq4]
  exact ⟨nS,by rw [e],hw.b0,by rw [e]; exact cH rfl⟩
 have hq4:x.hi<64:=by have:=h13; rw [UInt32.not_le] at this; exact this
 refine df ?_
 refine zz0 (gl (n:=1) rfl rfl) (zR4 ?_)
 refine ay 23 aa ?_
 refine cT (ι:=Nat × List UInt32 × Value) (fun ⟨j,out,Vo⟩=>j≤x.hi.toNat+1∧qy l i.imm x j=some out) (fun _=>_) (fun ⟨j,out,Vo⟩=>[rowE Vo 23 aa out,cellE b9 [(.slice pV l.length cV)] 92,cellE b5 (er.enc x) 25,cellE b2 (bY.enc s) 37,cellE b1 (al.enc i) 36]) (fun ⟨j,out,Vo⟩=>[(68,.int .u32 (u32 (j:Int)).toNat),(13,Vo)]) (fun ⟨j,out,Vo⟩=>65 - j) (0,[],_) ⟨Nat.zero_le _,rfl⟩ (Front.c (Front.c Front.nil)) (fun i hi m hm=>?_)
 obtain ⟨j,out,Vo⟩:=i
 dsimp only at hi hm
 conv=>enter [3]; dsimp only
 conv=>enter [4,1]; dsimp only
 obtain ⟨hj,hto⟩:=hi
 have hol:=ui hto
 have h64:x.hi.toNat<64:=by rw [UInt32.lt_iff_toNat_lt] at hq4; exact hq4
 refine zR6 ?_
 refine ab rfl ?_ ?_<;>intro h14
 ·have hq5:=h14
  refine zR5 ?_
  have hhs:=C2 hq4
  have hju:=nC (x:=(j:Int)) (by omega)
  rw [UInt32.lt_iff_toNat_lt] at hq5
  refine cj ?_
  refine dZ (.of (ι:=UInt32) (fun k1=>k1=ym x (u32 (j:Int))) (fun _=>Bg.of w) (fun k1=>[rowE Vo 23 aa out,cellE b9 [(.slice pV l.length cV)] 92,cellE b5 (er.enc x) 25,cellE b2 (bY.enc s) 37,cellE b1 (al.enc i) 36]) (fun k1=>[(15,.int .u32 k1.toNat)])) ?_ (fun k1 hi=>?_)
  ·skip
   refine zR4 ?_
   refine zz0 (ak rfl (oU x _)) (zR3 ?_)
   refine ab rfl ?_ ?_<;>intro h15
   ·refine zR6 ?_
    refine aT _ (o:=(by show _=_; unfold ym; rw [if_neg (by simp_all)]))
   refine zR2 ?_
   refine aT _ (o:=(by show _=_; unfold ym; rw [if_pos (by simp_all)]))
  skip
  refine zR6 ?_
  refine zz0 (aK rfl (fun w hw=>Fx l pV cV i.imm k1 w (hw.slF hV') hB (hD'.mono hw.bg))) (jk ?_)
  refine ab rfl ?_ ?_<;>intro h16
  ·have hq7:(jp l i.imm k1).2=false:=h16
   refine gB ?_
   refine cG ix rfl rfl (fun w' hw=>?_)
   have htn:=AU (Iw hto (by rw [← hi]; exact hq7)) (x.hi.toNat+1) (by omega)
   have e:aQ l i x=([],19):=by
    unfold aQ
    rw [if_neg (by rw [hq1]; simp)]
    rw [if_neg (fun q=>q hq2)]
    rw [if_neg (show ¬((eD x=false∨x.em=true)∨x.top=true) from fun q=>by rcases q with (q|q)|q<;>simp_all)]
    rw [if_neg (fun q=>q hqo),if_neg (by rw [UInt32.not_le]; exact hq4),htn]
   exact ⟨nS,by rw [e],hw.b0,by rw [e]; exact cH rfl⟩
  have hq7:(jp l i.imm k1).2=true:=by simpa using h16
  refine zR5 ?_
  refine fM (E:=aa) (jp l i.imm k1).1 rfl rfl am ar bj (fun V17=>?_)
  refine zz3 rfl rfl am cp (fun V18=>?_)
  refine zR5 ?_
  refine zz0 (gl (n:=1) rfl rfl) (zR3 ?_)
  rw [DZ (by omega)]
  refine aP (j+1,out ++ [(jp l i.imm k1).1],_) (o:=⟨by omega,by rw [hi]; exact Ea hto (by rw [← hi]; exact hq7)⟩)
 have hq5:=h14
 refine zR6 ?_
 have hhs:=C2 hq4
 have hju:=nC (x:=(j:Int)) (by omega)
 rw [UInt32.lt_iff_toNat_lt] at hq5
 obtain rfl:j=x.hi.toNat+1:=by omega
 refine zR7 ?_
 refine cG ix rfl rfl (fun w' hw=>?_)
 have e:aQ l i x=(out,0):=by
  unfold aQ
  rw [if_neg (by rw [hq1]; simp)]
  rw [if_neg (fun q=>q hq2)]
  rw [if_neg (show ¬((eD x=false∨x.em=true)∨x.top=true) from fun q=>by rcases q with (q|q)|q<;>simp_all)]
  rw [if_neg (fun q=>q hqo),if_neg (by rw [UInt32.not_le]; exact hq4),hto]
 exact ⟨Vo,by rw [e],hw.b0,by rw [e]; exact hw.new (by repeat constructor)⟩
theorem y9 (l:List SecV) (pV:Option Addr) (cV:Nat) (a:UInt32) (n:Int) (w:World) (hV:Sl (hp w) bP l (.slice pV l.length cV)) (hB:SecB l) (hD:DataIn (hp w) l) (hN:∀ s∈l,s.name.size≤140737488351232) :
  Cr prog 23 #[(.slice pV l.length cV),.int .u32 a.toNat,.int .i64 n] w (.bool (vQ l a n)):=by
 have hV':Sl (Bg.of w).blk bP l (.slice pV l.length cV):=hV
 have hD':DataIn (Bg.of w).blk l:=hD
 refine En f23 rfl rfl (cj ?_)
 refine cZ 3 13 16 (h2:=?_)
 refine zz0 (af rfl) ?_
 apply gJ 4 17 21 (fun hF2 hF2'=>?_) ?_; rotate_right
 ·refine zz5 hF2 (af rfl) (zz5 hF2 (aK rfl (fun w hw=>wd l (.slice pV l.length cV) w (hw.slF hV') hB (fun s hs=>by have:=hN s hs; omega))) ?_)
  exact zE
 refine zR2 ?_
 refine ab rfl ?_ ?_<;>intro h3
 ·have hq1:=h3
  refine zR7 ?_
  exact aD (e:=by unfold vQ; rw [if_pos (by omega)])
 have hq1:=h3
 refine zR5 ?_
 refine zz0 (aI (vs:=[(0,_)]) rfl rfl rfl) ?_
 refine bH zeroValue92 rfl (fun b4=>?_)
 refine zz8 rfl rfl sizeOf92 ?_
 refine bR ?_
 refine cP (.of (ι:=Nat) (fun j=>(j:Int)≤n∧qR l a j=true) (fun _=>_) (fun j=>[cellE b4 [(.slice pV l.length cV)] 92]) (fun j=>[(25,.int .i64 (j:Nat))]) (fun j=>n.toNat - j)) 0 ⟨by omega,rfl⟩ (Front.c Front.nil) (fun j hi m hm=>?_)
 obtain ⟨hj,hto⟩:=hi
 refine zR6 ?_
 refine ab rfl ?_ ?_<;>intro h5
 ·refine mN ?_
  refine zz0 (eJ rfl ad ac) (zz0 (aK rfl (fun w hw=>Fx l pV cV a _ w (hw.slF hV') hB (hD'.mono hw.bg))) (gB ?_))
  refine ab rfl ?_ ?_<;>intro h6
  ·have hq2:(jp l a (u32 (j:Int))).2=false:=h6
   refine cj ?_
   refine aM results23 rfl (fun w' hw=>?_)
   have hf:=E3 (show qR l a (j+1)=false by simp only [qR,hq2,Bool.and_false]) n.toNat (by omega)
   exact ⟨by unfold vQ; rw [if_neg (by omega),hf],hw.b0⟩
  have hq2:(jp l a (u32 (j:Int))).2=true:=by simpa using h6
  refine zR8 ?_
  refine aP (j+1) (o:=⟨by omega,by simp only [qR,hto,hq2,Bool.and_self]⟩)
 refine cj ?_
 exact aD (e:=by unfold vQ; rw [if_neg (by omega),show n.toNat=j by omega,hto])
def d5 (cmp:Ins→Ins→Int) (x y:Ins):Bool:=decide (cmp x y<0)
def Ed (cmp:Ins→Ins→Int) (V:Value) (l:List Ins) (a b:Nat) (w:World):Ending→World→Prop:=fun e w'=>e=.returned (.tuple #[])∧∃ l',(Stab (d5 cmp) l l'∧Fram a b l l'∧Srt (d5 cmp) l' a b)∧Mut w w' V∧(rowE V 36 al l').holds w'
def Jg (g:FuncId) (cb:List Value) (cmp:Ins→Ins→Int) (I:World→Prop) (V:Value) (n:Nat):Prop:=∀ (l:List Ins) (a md b:Nat) (ai mdi bi:Int) (w:World),ai=((a:Nat):Int)→mdi=((md:Nat):Int)→bi=((b:Nat):Int)→b - a≤n→a<md→md<b→b≤l.length→l.length≤1000000→Srt (d5 cmp) l a md→Srt (d5 cmp) l md b→I w→(rowE V 36 al l).holds w→Calls prog 200 #[V,.int .i64 ai,.int .i64 mdi,.int .i64 bi,.func (.func g) #[] cb.toArray] w (Ed cmp V l a b w)
theorem s8 (l:List Ins) (V:Value) (a:Nat) (b:Nat) (ai:Int) (bi:Int) (ea:ai=((a:Nat):Int)) (eb:bi=((b:Nat):Int)) (g:FuncId) (cb:List Value) (cmp:Ins→Ins→Int) (I:World→Prop) (hI:∀ w w' l',I w→Mut w w' V→(rowE V 36 al l').holds w'→I w') (eg:∀ args w,(callFunc g args).run prog w=.ok (.enter g args) w) (hc:∀ x y w',I w'→Calls prog g ([Value.agg (al.enc x).toArray,Value.agg (al.enc y).toArray] ++ cb).toArray w' fun e w''=>e=.returned (.int .i64 (cmp x y))∧Ext w' w'') (hO:WO (d5 cmp)) (w:World) (hIw:I w) (hr:(rowE V 36 al l).holds w) (hl:l.length≤1000000) (hab:a≤b) (hb:b≤l.length) :
  Calls prog 199 #[V,.int .i64 ai,.int .i64 bi,.func (.func g) #[] cb.toArray] w (Ed cmp V l a b w):=by
 subst ea eb
 refine fO (l:=l) (E:=al) (T:=36) hr func199 rfl ntmps199 rfl (zR8 ?_)
 refine cT (ι:=Nat × List Ins) (fun ⟨i,cur⟩=>a+1≤i∧(i≤b∨i=a+1)∧Stab (d5 cmp) l cur∧Fram a b l cur∧Srt (d5 cmp) cur a i) (fun _=>_) (fun ⟨i,cur⟩=>[rowE V 36 al cur]) (fun ⟨i,cur⟩=>[(8,.int .i64 (i:Nat))]) (fun ⟨i,cur⟩=>b - i) (a+1,l) ⟨Nat.le_refl _,.inr rfl,.refl _ _,.refl _ _ _,.one (Nat.le_refl _)⟩ (Front.c Front.nil) (fun i hi m hm=>?_)
 obtain ⟨i,cur⟩:=i
 dsimp only at hi hm
 change Tr _ _ [rowE V 36 al cur] ([(8,.int .i64 (i:Nat))] ++ _) _
 obtain ⟨hi1,hi2,hi3,hi4,hi5⟩:=hi
 have hcl:cur.length=l.length:=hi4.1
 refine zR8 ?_
 refine ab rfl ?_ ?_<;>intro h1
 ·refine cj ?_
  have e0:mp (dF i i (i+1)) cur=cur:=uv (.inl rfl) (Nat.le_refl _) (by omega)
  refine dQ e0.symm ?_
  refine cP (.of (ι:=Nat) (fun j=>a≤j∧j≤i∧∀ q,j≤q→q<i→d5 cmp (cur.getD i default) (cur.getD q default)=true) (fun _=>_) (fun j=>[rowE V 36 al (mp (dF j i (i+1)) cur)]) (fun j=>[(9,.int .i64 (j:Nat))]) (fun j=>j)) i ⟨by omega,Nat.le_refl _,fun q x y=>by omega⟩ (Front.c Front.nil) (fun j hi m hm=>?_)
  obtain ⟨hj1,hj2,hj3⟩:=hi
  have hml:(mp (dF j i (i+1)) cur).length=l.length:=by rw [iN]; exact hcl
  have ej:((j:Int) - 1).toNat=j - 1:=by omega
  have ev:(mp (dF j i (i+1)) cur).getD j default=cur.getD i default:=by rw [ju (by omega)]; congr 1; have:=fS j i (i+1) j; omega
  have ew:0<j→(mp (dF j i (i+1)) cur).getD (j - 1) default=cur.getD (j - 1) default:=fun q=>by rw [ju (by omega)]; congr 1; have:=fS j i (i+1) (j - 1); omega
  refine bB (bB (eU ah (zT4 ?_)))
  apply fD 13 21 34 (fun hT2 hT2'=>?_) ?_; rotate_right
  ·refine zT4 ?_
   refine db hT2 (wy rfl) (zT4 ?_)
   refine db hT2 (wy rfl) ?_
   refine db hT2 (i6 rfl rfl eg (fun w hw=>hc _ _ w (hI _ _ _ hIw (HpOK.mutOwn hw (.head _) rfl).1 (HpOK.mutOwn hw (.head _) rfl).2))) ?_
   exact zQ
  refine zT2 ?_
  refine ab rfl ?_ ?_<;>intro h3
  ·refine zR4 ?_
   refine dO 5 15 ah ?_
   refine dN rfl ?_
   refine dN rfl ?_
   refine dN rfl ?_
   refine dN rfl ?_
   refine ic (fun _=>yc rfl rfl) (by rfl) rfl ?_
   refine ax (vp ?_)
   refine fN (l:=(mp (dF j i (i+1)) cur)) (i:=j) ((mp (dF j i (i+1)) cur).getD (((j:Int) - 1).toNat) default) rfl rfl bV ?_
   have hls4:=@List.length_set _ (mp (dF j i (i+1)) cur) (j) ((mp (dF j i (i+1)) cur).getD (((j:Int) - 1).toNat) default)
   refine zz0 (ml rfl rfl) (fN (l:=((mp (dF j i (i+1)) cur).set (j) ((mp (dF j i (i+1)) cur).getD (((j:Int) - 1).toNat) default))) (i:=((j:Int) - 1).toNat) ((mp (dF j i (i+1)) cur).getD (j) default) rfl rfl bV ?_)
   have hls5:=@List.length_set _ ((mp (dF j i (i+1)) cur).set (j) ((mp (dF j i (i+1)) cur).getD (((j:Int) - 1).toNat) default)) (((j:Int) - 1).toNat) ((mp (dF j i (i+1)) cur).getD (j) default)
   refine zR9 ?_
   have hsw:=IM (l:=(mp (dF j i (i+1)) cur)) (p:=j) (q:=j - 1) (by omega) (by omega)
   rw [Eo (by omega) hj2 (by omega)] at hsw
   have hlt:d5 cmp (cur.getD i default) (cur.getD (j - 1) default)=true:=by
    rw [← ev,← ew (by omega),← ej]
    simpa [d5] using h3.2
   have hj3':∀ q,j - 1≤q→q<i→d5 cmp (cur.getD i default) (cur.getD q default)=true:=fun q x y=>by
    by_cases c:q=j - 1
    ·rw [c]; exact hlt
    ·exact hj3 q (by omega) y
   rw [ej,hsw]
   refine aP (j - 1) (o:=⟨by omega,by omega,hj3'⟩)
  refine df ?_
  have hB:j=a∨d5 cmp (cur.getD i default) (cur.getD (j - 1) default)=false:=by
   rcases h3 with h3|h3
   ·exact .inl (by omega)
   ·by_cases q:j=a
    ·exact .inl q
    ·refine .inr ?_
     rw [← ev,← ew (by omega),← ej]
     simpa [d5] using h3
  have hin:=Iz hO hi5 (by omega) hj1 hj2 hj3 hB
  have hfr:Fram a b l (mp (dF j i (i+1)) cur):=hi4.trans (Fram.rot hj1 (by omega) hj2 (by omega))
  refine aP (i+1,_) (o:=⟨by omega,by omega,hi3.trans hin.1,hfr,hin.2⟩)
 refine zR4 ?_
 exact fy results199 fun w' hw=>⟨rfl,_,⟨hi3,hi4,hi5.sub (Nat.le_refl _) (by omega)⟩,HpOK.mutOwn hw (.head _) rfl⟩
theorem pj (l:List Ins) (V:Value) (a:Nat) (b:Nat) (n:Nat) (ai:Int) (bi:Int) (ni:Int) (ea:ai=((a:Nat):Int)) (eb:bi=((b:Nat):Int)) (en:ni=((n:Nat):Int)) (cv:Value) (w:World) (hr:(rowE V 36 al l).holds w) (hl:l.length≤1000000) (hab:a+n≤b) (hb:b+n≤l.length) :
  Calls prog 296 #[V,.int .i64 ai,.int .i64 bi,.int .i64 ni,cv] w (fun e w'=>e=.returned (.tuple #[])∧Mut w w' V∧(rowE V 36 al (mp (swR a b n) l)).holds w'):=by
 subst ea eb en
 refine fO (l:=l) (E:=al) (T:=36) hr func296 rfl ntmps296 rfl (zR6 ?_)
 have e0:mp (swR a b 0) l=l:=Qi
 refine dQ e0.symm ?_
 refine cP (.of (ι:=Nat) (fun i=>i≤n) (fun _=>_) (fun i=>[rowE V 36 al (mp (swR a b i) l)]) (fun i=>[(10,.int .i64 (i:Nat))]) (fun i=>n - i)) 0 (Nat.zero_le _) (Front.c Front.nil) (fun i hi m hm=>?_)
 have hml:(mp (swR a b i) l).length=l.length:=iN _ _
 refine zR8 ?_
 refine ab rfl ?_ ?_<;>intro h1
 ·refine zR4 ?_
  refine dO 8 21 ah ?_
  refine dN rfl ?_
  refine dN rfl ?_
  refine dN rfl ?_
  refine ic (fun _=>tn rfl rfl) (by rfl) rfl ?_
  refine dN rfl ?_
  refine dN rfl ?_
  refine dN rfl ?_
  refine ic (fun _=>tn rfl rfl) (by rfl) rfl ?_
  refine ax (K7 ?_)
  refine fN (l:=(mp (swR a b i) l)) (i:=a+i) ((mp (swR a b i) l).getD (b+i) default) rfl rfl bV ?_
  have hls2:=@List.length_set _ (mp (swR a b i) l) (a+i) ((mp (swR a b i) l).getD (b+i) default)
  refine zz0 (iG rfl rfl) (fN (l:=((mp (swR a b i) l).set (a+i) ((mp (swR a b i) l).getD (b+i) default))) (i:=b+i) ((mp (swR a b i) l).getD (a+i) default) rfl rfl bV ?_)
  have hls3:=@List.length_set _ ((mp (swR a b i) l).set (a+i) ((mp (swR a b i) l).getD (b+i) default)) (b+i) ((mp (swR a b i) l).getD (a+i) default)
  refine zR9 ?_
  have hsw:=IM (l:=(mp (swR a b i) l)) (p:=a+i) (q:=b+i) (by omega) (by omega)
  rw [Ll hab hb (by omega)] at hsw
  rw [hsw]
  refine aP (i+1) (o:=(by show i+1≤n; omega))
 refine zR4 ?_
 refine fy results296 (fun w' hw=>?_)
 obtain rfl:i=n:=by omega
 exact ⟨rfl,HpOK.mutOwn hw (.head _) rfl⟩
theorem G5 (l:List Ins) (V:Value) (a:Nat) (md:Nat) (b:Nat) (ai:Int) (mdi:Int) (bi:Int) (ea:ai=((a:Nat):Int)) (emd:mdi=((md:Nat):Int)) (eb:bi=((b:Nat):Int)) (cv:Value) (w:World) (hr:(rowE V 36 al l).holds w) (hl:l.length≤1000000) (ham:a<md) (hmb:md<b) (hb:b≤l.length) :
  Calls prog 263 #[V,.int .i64 ai,.int .i64 mdi,.int .i64 bi,cv] w (fun e w'=>e=.returned (.tuple #[])∧Mut w w' V∧(rowE V 36 al (mp (dF a md b) l)).holds w'):=by
 subst ea emd eb
 refine fO (l:=l) (E:=al) (T:=36) hr func263 rfl ntmps263 rfl (GP ?_)
 refine cT (ι:=Nat × Nat × List Ins) (fun ⟨i,j,cur⟩=>0<i∧0<j∧i≤md∧md+j≤l.length∧cur.length=l.length∧mp (dF (md - i) md (md+j)) cur=mp (dF a md b) l) (fun _=>_) (fun ⟨i,j,cur⟩=>[rowE V 36 al cur]) (fun ⟨i,j,cur⟩=>[(10,.int .i64 (i:Nat)),(11,.int .i64 (j:Nat))]) (fun ⟨i,j,cur⟩=>i+j) (md - a,b - md,l) ⟨by omega,by omega,by omega,by omega,rfl,by rw [show md - (md - a)=a by omega,show md+(b - md)=b by omega]⟩ (Front.c (Front.c Front.nil)) (fun i hi m hm=>?_)
 obtain ⟨i,j,cur⟩:=i
 dsimp only at hi hm
 change Tr _ _ [rowE V 36 al cur] ([(10,.int .i64 (i:Nat)),(11,.int .i64 (j:Nat))] ++ _) _
 obtain ⟨hi1,hi2,hi3,hi4,hi5,hi6⟩:=hi
 refine zR8 ?_
 refine ab rfl ?_ ?_<;>intro h1
 ·refine bR ?_
  refine ab rfl ?_ ?_<;>intro h2
  ·refine zR9 ?_
   refine dH rfl call296 (by repeat constructor) (fun w hw=>pj cur V (md - i) md j _ _ _ (by omega) (by omega) (by omega) cv w (hw.ent _ (.head _)) (by omega) (by omega) (by omega)) rfl (bR ?_)
   have hn:=(PD (l:=cur) (m:=md) (i:=i) (j:=j) hi3 (by omega) (by omega)).trans hi6
   refine aP (i - j,j,_) (o:=⟨by omega,hi2,by omega,hi4,by rw [iN]; exact hi5,hn⟩)
  refine gB ?_
  refine dH rfl call296 (by repeat constructor) (fun w hw=>pj cur V (md - i) (md+j - i) i _ _ _ (by omega) (by omega) (by omega) cv w (hw.ent _ (.head _)) (by omega) (by omega) (by omega)) rfl (bR ?_)
  have hn:=(PC (l:=cur) (m:=md) (i:=i) (j:=j) hi3 (by omega) (by omega)).trans hi6
  refine aP (i,j - i,_) (o:=⟨hi1,by omega,hi3,by omega,by rw [iN]; exact hi5,hn⟩)
 refine gB ?_
 refine dH rfl call296 (by repeat constructor) (fun w hw=>pj cur V (md - i) md i _ _ _ (by omega) (by omega) (by omega) cv w (hw.ent _ (.head _)) (by omega) (by omega) (by omega)) rfl (mj ?_)
 refine fy results263 (fun w' hw=>?_)
 obtain rfl:j=i:=by omega
 rw [PE hi3,hi6] at hw
 exact ⟨rfl,HpOK.mutOwn hw (.head _) rfl⟩
theorem JA (l:List Ins) (V:Value) (a:Nat) (md:Nat) (b:Nat) (ai:Int) (mdi:Int) (bi:Int) (ea:ai=((a:Nat):Int)) (emd:mdi=((md:Nat):Int)) (eb:bi=((b:Nat):Int)) (g:FuncId) (cb:List Value) (cmp:Ins→Ins→Int) (I:World→Prop) (hI:∀ w w' l',I w→Mut w w' V→(rowE V 36 al l').holds w'→I w') (eg:∀ args w,(callFunc g args).run prog w=.ok (.enter g args) w) (hc:∀ x y w',I w'→Calls prog g ([Value.agg (al.enc x).toArray,Value.agg (al.enc y).toArray] ++ cb).toArray w' fun e w''=>e=.returned (.int .i64 (cmp x y))∧Ext w' w'') (hO:WO (d5 cmp)) (w:World) (hIw:I w) (hr:(rowE V 36 al l).holds w) (hl:l.length≤1000000) (ih:∀ n,n<b - a→Jg g cb cmp I V n) (ham:a<md) (hmb:md<b) (hb:b≤l.length) (h1s:Srt (d5 cmp) l a md) (h2s:Srt (d5 cmp) l md b) :
  Calls prog 200 #[V,.int .i64 ai,.int .i64 mdi,.int .i64 bi,.func (.func g) #[] cb.toArray] w (Ed cmp V l a b w):=by
 subst ea emd eb
 refine fO (l:=l) (E:=al) (T:=36) hr func200 rfl ntmps200 rfl (zR9 ?_)
 refine ab rfl ?_ ?_<;>intro h1
 ·refine jk ?_
  refine cT (ι:=Nat × Nat) (fun ⟨i,j⟩=>md≤i∧i≤j∧j≤b∧(∀ q,md≤q→q<i→d5 cmp (l.getD q default) (l.getD a default)=true)∧(∀ q,j≤q→q<b→d5 cmp (l.getD q default) (l.getD a default)=false)) (fun _=>_) (fun ⟨i,j⟩=>[rowE V 36 al l]) (fun ⟨i,j⟩=>[(10,.int .i64 (i:Nat)),(11,.int .i64 (j:Nat))]) (fun ⟨i,j⟩=>j - i) (md,b) ⟨Nat.le_refl _,by omega,Nat.le_refl _,fun q x y=>by omega,fun q x y=>by omega⟩ (Front.c (Front.c Front.nil)) (fun i hi m hm=>?_)
  obtain ⟨i,j⟩:=i
  dsimp only at hi hm
  change Tr _ _ [rowE V 36 al l] ([(10,.int .i64 (i:Nat)),(11,.int .i64 (j:Nat))] ++ _) _
  obtain ⟨hi1,hi2,hi3,hi4,hi5⟩:=hi
  refine zR8 ?_
  refine ab rfl ?_ ?_<;>intro h2
  ·refine zR8 ?_
   refine zz0 (eO rfl ad dD (IntWalk.u64_in _ (by omega))) ?_
   refine zz0 (xX rfl rfl (by omega)) ?_
   refine zz0 (eO rfl dD ad (IntWalk.i64_in _ (by omega))) (zR4 ?_)
   obtain ⟨h,hhh⟩:∃ h,h=(i+j) / 2:=⟨_,rfl⟩
   rw [show (((i:Nat):Int)+((j:Nat):Int)) / 2=((h:Nat):Int) by omega]
   refine eU ah (zT9 ?_)
   refine aw (i6 rfl rfl eg (fun w hw=>hc _ _ w (hI _ _ _ hIw (HpOK.mutOwn hw (.head _) rfl).1 (HpOK.mutOwn hw (.head _) rfl).2))) (zT3 ?_)
   refine ab rfl ?_ ?_<;>intro h3
   ·refine zR7 ?_
    have hx:d5 cmp (l.getD h default) (l.getD a default)=true:=by simp only [d5,decide_eq_true_eq]; assumption
    have hn:∀ q,md≤q→q<h+1→d5 cmp (l.getD q default) (l.getD a default)=true:=fun q x y=>hO.le_lt (h2s.le hO x (by omega) (by omega)) hx
    refine aP (h+1,j) (o:=⟨by omega,by omega,hi3,hn,hi5⟩)
   refine zR6 ?_
   have hx:d5 cmp (l.getD h default) (l.getD a default)=false:=by simp only [d5,decide_eq_false_iff_not]; assumption
   have hn:∀ q,h≤q→q<b→d5 cmp (l.getD q default) (l.getD a default)=false:=fun q x y=>hO.ntr _ _ _ (h2s.le hO (by omega) x y) hx
   refine aP (i,h) (o:=⟨hi1,by omega,by omega,hi4,hn⟩)
  refine gB ?_
  have e0:mp (dF a (a+1) (a+1)) l=l:=uv (.inr rfl) (by omega) (Nat.le_refl _)
  refine dQ e0.symm ?_
  refine cP (.of (ι:=Nat) (fun k=>a≤k∧k+1≤i) (fun _=>_) (fun k=>[rowE V 36 al (mp (dF a (a+1) (k+1)) l)]) (fun k=>[(13,.int .i64 (k:Nat))]) (fun k=>i - k)) a ⟨Nat.le_refl _,by omega⟩ (Front.c Front.nil) (fun k hi m hm=>?_)
  obtain ⟨hk1,hk2⟩:=hi
  have hml:(mp (dF a (a+1) (k+1)) l).length=l.length:=iN _ _
  refine zR9 ?_
  refine ab rfl ?_ ?_<;>intro h4
  ·refine zR4 ?_
   refine dO 5 15 ah ?_
   refine dN rfl ?_
   refine dN rfl ?_
   refine dN rfl ?_
   refine dN rfl ?_
   refine ic (fun _=>tn rfl rfl) (by rfl) rfl ?_
   refine ax (vp ?_)
   refine fN (l:=(mp (dF a (a+1) (k+1)) l)) (i:=k) ((mp (dF a (a+1) (k+1)) l).getD (k+1) default) rfl rfl bV ?_
   have hls5:=@List.length_set _ (mp (dF a (a+1) (k+1)) l) (k) ((mp (dF a (a+1) (k+1)) l).getD (k+1) default)
   refine zz0 (ml rfl rfl) (fN (l:=((mp (dF a (a+1) (k+1)) l).set (k) ((mp (dF a (a+1) (k+1)) l).getD (k+1) default))) (i:=k+1) ((mp (dF a (a+1) (k+1)) l).getD (k) default) rfl rfl bV ?_)
   have hls6:=@List.length_set _ ((mp (dF a (a+1) (k+1)) l).set (k) ((mp (dF a (a+1) (k+1)) l).getD (k+1) default)) (k+1) ((mp (dF a (a+1) (k+1)) l).getD (k) default)
   refine zR9 ?_
   have hsw:=IM (l:=(mp (dF a (a+1) (k+1)) l)) (p:=k) (q:=k+1) (by omega) (by omega)
   rw [Pz hk1 (by omega)] at hsw
   rw [hsw]
   refine aP (k+1) (o:=⟨by omega,by omega⟩)
  refine zR7 ?_
  refine nA mF (fun w' hw=>?_)
  have hin:=Lp hO (l:=l) (a:=a) (i:=i) (b:=b) (by rw [show a+1=md by omega]; exact h2s) hb (by omega) (by omega) (fun q x y=>hi4 q (by omega) y) (fun q x y=>hi5 q (by omega) y)
  obtain rfl:i=k+1:=by omega
  exact ⟨rfl,_,⟨hin.1,Fram.rot (Nat.le_refl _) (by omega) (by omega) (by omega),hin.2⟩,HpOK.mutOwn hw (.head _) rfl⟩
 refine cj ?_
 refine ab rfl ?_ ?_<;>intro h7
 ·refine jk ?_
  refine cT (ι:=Nat × Nat) (fun ⟨i,j⟩=>a≤i∧i≤j∧j≤md∧(∀ q,a≤q→q<i→d5 cmp (l.getD md default) (l.getD q default)=false)∧(∀ q,j≤q→q<md→d5 cmp (l.getD md default) (l.getD q default)=true)) (fun _=>_) (fun ⟨i,j⟩=>[rowE V 36 al l]) (fun ⟨i,j⟩=>[(14,.int .i64 (i:Nat)),(15,.int .i64 (j:Nat))]) (fun ⟨i,j⟩=>j - i) (a,md) ⟨Nat.le_refl _,by omega,Nat.le_refl _,fun q x y=>by omega,fun q x y=>by omega⟩ (Front.c (Front.c Front.nil)) (fun i hi m hm=>?_)
  obtain ⟨i,j⟩:=i
  dsimp only at hi hm
  change Tr _ _ [rowE V 36 al l] ([(14,.int .i64 (i:Nat)),(15,.int .i64 (j:Nat))] ++ _) _
  obtain ⟨hi1,hi2,hi3,hi4,hi5⟩:=hi
  refine zR8 ?_
  refine ab rfl ?_ ?_<;>intro h8
  ·refine zR8 ?_
   refine zz0 (eO rfl ad dD (IntWalk.u64_in _ (by omega))) ?_
   refine zz0 (xX rfl rfl (by omega)) ?_
   refine zz0 (eO rfl dD ad (IntWalk.i64_in _ (by omega))) (zR4 ?_)
   obtain ⟨h,hhh⟩:∃ h,h=(i+j) / 2:=⟨_,rfl⟩
   rw [show (((i:Nat):Int)+((j:Nat):Int)) / 2=((h:Nat):Int) by omega]
   refine eU ah (zT9 ?_)
   refine aw (i6 rfl rfl eg (fun w hw=>hc _ _ w (hI _ _ _ hIw (HpOK.mutOwn hw (.head _) rfl).1 (HpOK.mutOwn hw (.head _) rfl).2))) (zT4 ?_)
   refine ab rfl ?_ ?_<;>intro h9
   ·refine zR7 ?_
    have hx:d5 cmp (l.getD md default) (l.getD h default)=false:=by simp only [d5,decide_eq_false_iff_not]; assumption
    have hn:∀ q,a≤q→q<h+1→d5 cmp (l.getD md default) (l.getD q default)=false:=fun q x y=>hO.ntr _ _ _ hx (h1s.le hO x (by omega) (by omega))
    refine aP (h+1,j) (o:=⟨by omega,by omega,hi3,hn,hi5⟩)
   refine zR6 ?_
   have hx:d5 cmp (l.getD md default) (l.getD h default)=true:=by simp only [d5,decide_eq_true_eq]; assumption
   have hn:∀ q,h≤q→q<md→d5 cmp (l.getD md default) (l.getD q default)=true:=fun q x y=>hO.lt_le hx (h1s.le hO (by omega) x y)
   refine aP (i,h) (o:=⟨hi1,by omega,by omega,hi4,hn⟩)
  refine gB ?_
  have e0:mp (dF md md (md+1)) l=l:=uv (.inl rfl) (Nat.le_refl _) (by omega)
  refine dQ e0.symm ?_
  refine cP (.of (ι:=Nat) (fun k=>i≤k∧k≤md) (fun _=>_) (fun k=>[rowE V 36 al (mp (dF k md (md+1)) l)]) (fun k=>[(17,.int .i64 (k:Nat))]) (fun k=>k)) md ⟨by omega,Nat.le_refl _⟩ (Front.c Front.nil) (fun k hi m hm=>?_)
  obtain ⟨hk1,hk2⟩:=hi
  have hml:(mp (dF k md (md+1)) l).length=l.length:=iN _ _
  have ej:((k:Int) - 1).toNat=k - 1:=by omega
  refine zR8 ?_
  refine ab rfl ?_ ?_<;>intro h10
  ·refine zR4 ?_
   refine dO 5 15 ah ?_
   refine dN rfl ?_
   refine dN rfl ?_
   refine dN rfl ?_
   refine dN rfl ?_
   refine ic (fun _=>yc rfl rfl) (by rfl) rfl ?_
   refine ax (vp ?_)
   refine fN (l:=(mp (dF k md (md+1)) l)) (i:=k) ((mp (dF k md (md+1)) l).getD (((k:Int) - 1).toNat) default) rfl rfl bV ?_
   have hls11:=@List.length_set _ (mp (dF k md (md+1)) l) (k) ((mp (dF k md (md+1)) l).getD (((k:Int) - 1).toNat) default)
   refine zz0 (ml rfl rfl) (fN (l:=((mp (dF k md (md+1)) l).set (k) ((mp (dF k md (md+1)) l).getD (((k:Int) - 1).toNat) default))) (i:=((k:Int) - 1).toNat) ((mp (dF k md (md+1)) l).getD (k) default) rfl rfl bV ?_)
   have hls12:=@List.length_set _ ((mp (dF k md (md+1)) l).set (k) ((mp (dF k md (md+1)) l).getD (((k:Int) - 1).toNat) default)) (((k:Int) - 1).toNat) ((mp (dF k md (md+1)) l).getD (k) default)
   refine zR9 ?_
   have hsw:=IM (l:=(mp (dF k md (md+1)) l)) (p:=k) (q:=k - 1) (by omega) (by omega)
   rw [Eo (by omega) hk2 (by omega)] at hsw
   rw [ej,hsw]
   refine aP (k - 1) (o:=⟨by omega,by omega⟩)
  refine zR7 ?_
  refine nA mF (fun w' hw=>?_)
  obtain rfl:i=k:=by omega
  have hin:=Iz hO (l:=l) (a:=a) (i:=md) (j:=i) h1s (by omega) (by omega) (by omega) (fun q x y=>hi5 q (by omega) y) (if q:i=a then .inl q else .inr (hi4 _ (by omega) (by omega)))
  obtain rfl:b=md+1:=by omega
  exact ⟨rfl,_,⟨hin.1,Fram.rot (by omega) (Nat.le_refl _) (by omega) (by omega),hin.2⟩,HpOK.mutOwn hw (.head _) rfl⟩
 refine zR7 ?_
 refine zz0 (eO rfl ad dD (IntWalk.u64_in _ (by omega))) ?_
 refine zz0 (xX rfl rfl (by omega)) ?_
 refine zz0 (eO rfl dD ad (IntWalk.i64_in _ (by omega))) (zR4 ?_)
 obtain ⟨mid,hhmid⟩:∃ mid,mid=(a+b) / 2:=⟨_,rfl⟩
 rw [show (((a:Nat):Int)+((b:Nat):Int)) / 2=((mid:Nat):Int) by omega]
 refine gB ?_
 refine gX (ι:=Nat × Nat) (fun ⟨s0,r0⟩=>(mid<md∧s0+b=mid+md∧r0=mid)∨(md≤mid∧s0=a∧r0=md)) (fun _=>Bg.less w V) (fun ⟨s0,r0⟩=>[rowE V 36 al l]) (fun ⟨s0,r0⟩=>[(20,.int .i64 (s0:Nat)),(21,.int .i64 (r0:Nat))]) ?_ (fun i hi=>?_)
 ·skip
  refine zR7 ?_
  refine ab rfl ?_ ?_<;>intro h13
  ·refine gB ?_
   refine aT (mid+md - b,mid) (o:=.inl ⟨by omega,by omega,rfl⟩)
  refine cj ?_
  refine aT (a,md) (o:=.inr ⟨by omega,rfl,rfl⟩)
 obtain ⟨s0,r0⟩:=i
 replace hi:(mid<md∧s0+b=mid+md∧r0=mid)∨(md≤mid∧s0=a∧r0=md):=hi
 change Tr _ _ [rowE V 36 al l] ([(20,.int .i64 (s0:Nat)),(21,.int .i64 (r0:Nat))] ++ _) _
 have hs0:a≤s0∧s0≤r0∧r0≤md:=by omega
 refine zR9 ?_
 refine cT (ι:=Nat × Nat) (fun ⟨st,r⟩=>s0≤st∧st≤r∧r≤r0∧(st=s0∨d5 cmp (l.getD (mid+md - st) default) (l.getD (st - 1) default)=false)∧(r=r0∨d5 cmp (l.getD (mid+md - 1 - r) default) (l.getD r default)=true)) (fun _=>_) (fun ⟨st,r⟩=>[rowE V 36 al l]) (fun ⟨st,r⟩=>[(20,.int .i64 (st:Nat)),(21,.int .i64 (r:Nat))]) (fun ⟨st,r⟩=>r - st) (s0,r0) ⟨Nat.le_refl _,by omega,Nat.le_refl _,.inl rfl,.inl rfl⟩ (Front.c (Front.c Front.nil)) (fun i hi m hm=>?_)
 obtain ⟨st,r⟩:=i
 dsimp only at hi hm
 change Tr _ _ [rowE V 36 al l] ([(20,.int .i64 (st:Nat)),(21,.int .i64 (r:Nat))] ++ _) _
 obtain ⟨hi1,hi2,hi3,hi4,hi5⟩:=hi
 refine zR8 ?_
 refine ab rfl ?_ ?_<;>intro h14
 ·refine zR8 ?_
  refine zz0 (eO rfl ad dD (IntWalk.u64_in _ (by omega))) ?_
  refine zz0 (xX rfl rfl (by omega)) ?_
  refine zz0 (eO rfl dD ad (IntWalk.i64_in _ (by omega))) (zR4 ?_)
  obtain ⟨c,hhc⟩:∃ c,c=(st+r) / 2:=⟨_,rfl⟩
  rw [show (((st:Nat):Int)+((r:Nat):Int)) / 2=((c:Nat):Int) by omega]
  refine eU ah (vp ?_)
  refine aw (i6 rfl rfl eg (fun w hw=>hc _ _ w (hI _ _ _ hIw (HpOK.mutOwn hw (.head _) rfl).1 (HpOK.mutOwn hw (.head _) rfl).2))) (zT4 ?_)
  refine ab rfl ?_ ?_<;>intro h15
  ·refine zR7 ?_
   have ec:((((mid:Nat):Int)+((md:Nat):Int)) - 1 - ((c:Nat):Int)).toNat=mid+md - 1 - c:=by omega
   have hx:d5 cmp (l.getD (mid+md - 1 - c) default) (l.getD c default)=false:=by rw [← ec]; simp only [d5,decide_eq_false_iff_not]; assumption
   refine aP (c+1,r) (o:=⟨by omega,by omega,hi3,.inr (by rw [show mid+md - (c+1)=mid+md - 1 - c by omega]; exact hx),hi5⟩)
  refine zR6 ?_
  have ec:((((mid:Nat):Int)+((md:Nat):Int)) - 1 - ((c:Nat):Int)).toNat=mid+md - 1 - c:=by omega
  have hx:d5 cmp (l.getD (mid+md - 1 - c) default) (l.getD c default)=true:=by rw [← ec]; simp only [d5,decide_eq_true_eq]; assumption
  refine aP (st,c) (o:=⟨hi1,by omega,by omega,hi4,.inr hx⟩)
 refine gB ?_
 obtain rfl:r=st:=by omega
 obtain ⟨e,he⟩:∃ e,e=mid+md - r:=⟨_,rfl⟩
 rw [show (((mid:Nat):Int)+((md:Nat):Int)) - ((r:Nat):Int)=((e:Nat):Int) by omega]
 have hme:md≤e:=by omega
 have heb:e≤b:=by omega
 have hmm:mid=r+(e - md):=by omega
 have hd:r=md∨md=e∨d5 cmp (l.getD (e - 1) default) (l.getD r default)=true:=by
  rcases hi5 with q|q
  ·omega
  ·exact .inr (.inr (by rw [show e - 1=mid+md - 1 - r by omega]; exact q))
 have hg:r=a∨e=b∨d5 cmp (l.getD e default) (l.getD (r - 1) default)=false:=by
  rcases hi4 with q|q
  ·omega
  ·exact .inr (.inr (by rw [he]; exact q))
 have hf:=MK hO h1s h2s hb (by omega) (by omega) hme heb hmm hd hg
 have hml:(mp (dF r md e) l).length=l.length:=iN _ _
 refine dZ (.of (ι:=Unit) (fun _u=>True) (fun _=>Bg.less w V) (fun _u=>[rowE V 36 al (mp (dF r md e) l)]) (fun _u=>[])) ?_ (fun _u hi=>?_)
 ·skip
  refine zR6 ?_
  refine dT 4 181 185 (h2:=zR2 ?_)
  refine ab rfl ?_ ?_<;>intro h17
  ·refine zR6 ?_
   refine dH rfl call263 (by repeat constructor) (fun w hw=>G5 l V r md e _ _ _ (by omega) (by omega) (by omega) _ w (hw.ent _ (.head _)) hl (by omega) (by omega) (by omega)) rfl (zR2 ?_)
   refine aT () (o:=trivial)
  refine j8 (dQ (l':=mp (dF r md e) l) (uv (by omega) (by omega) (by omega)).symm ?_)
  refine aT () (o:=trivial)
 skip
 refine dZ (.of (ι:=List Ins) (fun c2=>Half (d5 cmp) l c2 a mid mid e b) (fun _=>Bg.less w V) (fun c2=>[rowE V 36 al c2]) (fun c2=>[])) ?_ (fun c2 hi=>?_)
 ·skip
  refine zR6 ?_
  refine dT 4 195 199 (h2:=zR2 ?_)
  refine ab rfl ?_ ?_<;>intro h19
  ·refine zR6 ?_
   refine iC (fun c=>Stab (d5 cmp) (mp (dF r md e) l) c∧Fram a mid (mp (dF r md e) l) c∧Srt (d5 cmp) c a mid) rfl qZ (fun w hw=>ih (mid - a) (by omega) (mp (dF r md e) l) a r mid _ _ _ w (by omega) (by omega) (by omega) (Nat.le_refl _) (by omega) (by omega) (by omega) (by omega) hf.s1 hf.s2 (hI _ _ _ hIw (HpOK.mutOwn hw (.head _) rfl).1 (HpOK.mutOwn hw (.head _) rfl).2) (hw.ent _ (.head _))) rfl (fun c2 hc2=>zR2 ?_)
   refine aT c2 (o:=hf.left hb (by omega) (by omega) hc2.1 hc2.2.1 hc2.2.2)
  refine zR2 ?_
  refine aT _ (o:=hf.left0 (by omega) (by omega) (by omega))
 skip
 have hl2:=hi.fr.1
 refine zR6 ?_
 refine dT 4 209 213 (h2:=zR2 ?_)
 refine ab rfl ?_ ?_<;>intro h21
 ·refine zR6 ?_
  refine iC (fun c=>Stab (d5 cmp) c2 c∧Fram mid b c2 c∧Srt (d5 cmp) c mid b) rfl qZ (fun w hw=>ih (b - mid) (by omega) c2 mid e b _ _ _ w (by omega) (by omega) (by omega) (Nat.le_refl _) (by omega) (by omega) (by omega) (by omega) hi.s3 hi.s4 (hI _ _ _ hIw (HpOK.mutOwn hw (.head _) rfl).1 (HpOK.mutOwn hw (.head _) rfl).2) (hw.ent _ (.head _))) rfl (fun c3 hc3=>mj ?_)
  exact fy mF fun w' hw=>⟨rfl,c3,hi.right hb (by omega) (by omega) hc3.1 hc3.2.1 hc3.2.2,HpOK.mutOwn hw (.head _) rfl⟩
 exact sQ (fy mF fun w' hw=>⟨rfl,c2,hi.right0 (by omega) (by omega) (by omega),HpOK.mutOwn hw (.head _) rfl⟩)
theorem uj (V:Value) (g:FuncId) (cb:List Value) (cmp:Ins→Ins→Int) (I:World→Prop) (hI:∀ w w' l',I w→Mut w w' V→(rowE V 36 al l').holds w'→I w') (eg:∀ args w,(callFunc g args).run prog w=.ok (.enter g args) w) (hc:∀ x y w',I w'→Calls prog g ([Value.agg (al.enc x).toArray,Value.agg (al.enc y).toArray] ++ cb).toArray w' fun e w''=>e=.returned (.int .i64 (cmp x y))∧Ext w' w'') (hO:WO (d5 cmp)):∀ n,Jg g cb cmp I V n:=by
 intro n
 induction n using Nat.strongRecOn with
 | ind n ih =>
  intro l a md b ai mdi bi w ea emd eb hn ham hmb hb hl h1s h2s hIw hr
  exact JA l V a md b ai mdi bi ea emd eb g cb cmp I hI eg hc hO w hIw hr hl (fun k hk=>ih k (by omega)) ham hmb hb h1s h2s
theorem Fj {l:List Ins} {k:Nat} (h:l.length≤k):l.getD k default=default:=by simp [List.getD_eq_getElem?_getD,List.getElem?_eq_none h]
theorem GZ (l:List Ins) (V:Value) (n:Nat) (ni:Int) (en:ni=((n:Nat):Int)) (g:FuncId) (cb:List Value) (cmp:Ins→Ins→Int) (I:World→Prop) (hI:∀ w w' l',I w→Mut w w' V→(rowE V 36 al l').holds w'→I w') (eg:∀ args w,(callFunc g args).run prog w=.ok (.enter g args) w) (hc:∀ x y w',I w'→Calls prog g ([Value.agg (al.enc x).toArray,Value.agg (al.enc y).toArray] ++ cb).toArray w' fun e w''=>e=.returned (.int .i64 (cmp x y))∧Ext w' w'') (hO:WO (d5 cmp)) (w:World) (hIw:I w) (hr:(rowE V 36 al l).holds w) (hl:l.length≤1000000) (hn:n=l.length) :
  Calls prog 146 #[V,.int .i64 ni,.func (.func g) #[] cb.toArray] w (Ed cmp V l 0 n w):=by
 subst en
 refine fO (l:=l) (E:=al) (T:=36) hr func146 rfl ntmps146 rfl (jk ?_)
 refine cT (ι:=Nat × List Ins) (fun ⟨t,cur⟩=>t * 20≤n∧Stab (d5 cmp) l cur∧Blk (d5 cmp) cur 20 (t * 20)) (fun _=>_) (fun ⟨t,cur⟩=>[rowE V 36 al cur]) (fun ⟨t,cur⟩=>[(7,.int .i64 ((t * 20:Nat):Int)),(8,.int .i64 ((t * 20+20:Nat):Int))]) (fun ⟨t,cur⟩=>n - t * 20) (0,l) ⟨by omega,.refl _ _,fun t p q a1 a2 a3 a4=>by omega⟩ (Front.c (Front.c Front.nil)) (fun i hi m hm=>?_)
 obtain ⟨t,cur⟩:=i
 dsimp only at hi hm
 conv=>enter [3]; dsimp only
 conv=>enter [4,1]; dsimp only
 obtain ⟨ht1,ht2,ht3⟩:=hi
 have hcl:=ht2.len
 refine zR8 ?_
 refine ab rfl ?_ ?_<;>intro h1
 ·refine zR9 ?_
  refine iC (fun c=>Stab (d5 cmp) cur c∧Fram (t * 20) (t * 20+20) cur c∧Srt (d5 cmp) c (t * 20) (t * 20+20)) rfl call199 (fun w hw=>s8 cur V (t * 20) (t * 20+20) _ _ (by omega) (by omega) g cb cmp I hI eg hc hO w (hI _ _ _ hIw (HpOK.mutOwn hw (.head _) rfl).1 (HpOK.mutOwn hw (.head _) rfl).2) (hw.ent _ (.head _)) (by omega) (by omega) (by omega)) rfl (fun c2 hc2=>pf ?_)
  have hcl2:=hc2.1.len
  have hb2:Blk (d5 cmp) c2 20 ((t+1) * 20):=by rw [show (t+1) * 20=t * 20+20 by omega]; exact xT ht3 hc2.2.1 hc2.2.2 (by omega)
  refine aP (t+1,c2) (o:=⟨by omega,ht2.trans hc2.1,hb2⟩)
 refine cj ?_
 refine iC (fun c=>Stab (d5 cmp) cur c∧Fram (t * 20) n cur c∧Srt (d5 cmp) c (t * 20) n) rfl call199 (fun w hw=>s8 cur V (t * 20) n _ _ (by omega) (by omega) g cb cmp I hI eg hc hO w (hI _ _ _ hIw (HpOK.mutOwn hw (.head _) rfl).1 (HpOK.mutOwn hw (.head _) rfl).2) (hw.ent _ (.head _)) (by omega) (by omega) (by omega)) rfl (fun c3 hc3=>zR3 ?_)
 have hcl3:=hc3.1.len
 have hb3:Blk (d5 cmp) c3 20 n:=xT ht3 hc3.2.1 hc3.2.2 (by omega)
 have hst3:=ht2.trans hc3.1
 clear hc3 ht3 ht2
 refine cT (ι:=Nat × Int × Int × List Ins) (fun ⟨bz,xa,xb,cur⟩=>1≤bz∧bz≤2 * n+20∧Stab (d5 cmp) l cur∧Blk (d5 cmp) cur bz n) (fun _=>_) (fun ⟨bz,xa,xb,cur⟩=>[rowE V 36 al cur]) (fun ⟨bz,xa,xb,cur⟩=>[(6,.int .i64 (bz:Nat)),(7,.int .i64 xa),(8,.int .i64 xb)]) (fun ⟨bz,xa,xb,cur⟩=>n - bz) (20,_,_,c3) ⟨by omega,by omega,hst3,hb3⟩ (Front.c (Front.c (Front.c Front.nil))) (fun i hi m hm=>?_)
 obtain ⟨bz,xa,xb,cur⟩:=i
 dsimp only at hi hm
 conv=>enter [3]; dsimp only
 conv=>enter [4,1]; dsimp only
 obtain ⟨hb1,hb2,hb4,hb5⟩:=hi
 have hcl4:=hb4.len
 refine zR8 ?_
 refine ab rfl ?_ ?_<;>intro h2
 ·refine zR6 ?_
  refine zz0 (gw rfl rfl (by omega)) (zR6 ?_)
  refine cT (ι:=Nat × Nat × List Ins) (fun ⟨t,x,c4⟩=>x=t * (2 * bz)∧x≤n∧Stab (d5 cmp) l c4∧Mix (d5 cmp) c4 bz x n) (fun _=>_) (fun ⟨t,x,c4⟩=>[rowE V 36 al c4]) (fun ⟨t,x,c4⟩=>[(7,.int .i64 (x:Nat)),(8,.int .i64 ((x+2 * bz:Nat):Int))]) (fun ⟨t,x,c4⟩=>n - x) (0,0,cur) ⟨by omega,by omega,hb4,Qr hb5⟩ (Front.c (Front.c Front.nil)) (fun i hi m hm=>?_)
  obtain ⟨t,x,c4⟩:=i
  dsimp only at hi hm
  conv=>enter [3]; dsimp only
  conv=>enter [4,1]; dsimp only
  obtain ⟨ht1,ht2,ht3,ht4⟩:=hi
  have hcl5:=ht3.len
  refine zR8 ?_
  refine ab rfl ?_ ?_<;>intro h3
  ·refine zR4 ?_
   have hs1:Srt (d5 cmp) c4 x (x+bz):=by subst ht1; exact yQ ht4 (Nat.le_refl _) (by omega)
   have hs2:Srt (d5 cmp) c4 (x+bz) (x+2 * bz):=by subst ht1; exact Be ht4 (Nat.le_refl _) (by omega)
   refine zR8 ?_
   refine iC (fun c=>Stab (d5 cmp) c4 c∧Fram x (x+2 * bz) c4 c∧Srt (d5 cmp) c x (x+2 * bz)) rfl qZ (fun w hw=>uj V g cb cmp I hI eg hc hO _ c4 x (x+bz) (x+2 * bz) _ _ _ w (by omega) (by omega) (by omega) (Nat.le_refl _) (by omega) (by omega) (by omega) (by omega) hs1 hs2 (hI _ _ _ hIw (HpOK.mutOwn hw (.head _) rfl).1 (HpOK.mutOwn hw (.head _) rfl).2) (hw.ent _ (.head _))) rfl (fun c5 hc5=>cj ?_)
   refine zz0 (gw rfl rfl (by omega)) (zR5 ?_)
   have hm2:Mix (d5 cmp) c5 bz (x+2 * bz) n:=by
    have f:=hc5.2.1
    have so:=hc5.2.2
    subst ht1
    exact Mp ht4 f so (Nat.le_refl _) (by omega)
   refine aP (t+1,x+2 * bz,c5) (o:=⟨by rw [Nat.add_mul,ht1]; omega,by omega,ht3.trans hc5.1,hm2⟩)
  refine zR5 ?_
  refine dZ (.of (ι:=List Ins) (fun c6=>Stab (d5 cmp) l c6∧Blk (d5 cmp) c6 (2 * bz) n) (fun _=>Bg.less w V) (fun c6=>[rowE V 36 al c6]) (fun c6=>[])) ?_ (fun c6 hi=>?_)
  ·skip
   refine mN ?_
   refine ab rfl ?_ ?_<;>intro h4
   ·have hs1:Srt (d5 cmp) c4 x (x+bz):=by subst ht1; exact yQ ht4 (Nat.le_refl _) (by omega)
    have hs2:Srt (d5 cmp) c4 (x+bz) n:=by subst ht1; exact Be ht4 (by omega) (Nat.le_refl _)
    refine zR6 ?_
    refine iC (fun c=>Stab (d5 cmp) c4 c∧Fram x n c4 c∧Srt (d5 cmp) c x n) rfl qZ (fun w hw=>uj V g cb cmp I hI eg hc hO _ c4 x (x+bz) n _ _ _ w (by omega) (by omega) (by omega) (Nat.le_refl _) (by omega) (by omega) (by omega) (by omega) hs1 hs2 (hI _ _ _ hIw (HpOK.mutOwn hw (.head _) rfl).1 (HpOK.mutOwn hw (.head _) rfl).2) (hw.ent _ (.head _))) rfl (fun c5 hc5=>zR2 ?_)
    have hm2:Blk (d5 cmp) c5 (2 * bz) n:=by
     have f:=hc5.2.1
     have so:=hc5.2.2
     subst ht1
     exact xT ht4.1 f so (by rw [Nat.add_mul]; omega)
    refine aT c5 (o:=⟨ht3.trans hc5.1,hm2⟩)
   refine zR2 ?_
   have hm2:Blk (d5 cmp) c4 (2 * bz) n:=by
    subst ht1
    exact Oz ht4 (by omega)
   refine aT c4 (o:=⟨ht3,hm2⟩)
  skip
  refine cC (zz0 (af rfl) (zz0 (gw rfl rfl (by omega)) (zR4 ?_)))
  refine aP (2 * bz,_,_,c6) (o:=⟨by omega,by omega,hi.1,hi.2⟩)
 refine zR4 ?_
 exact fy results146 fun w' hw=>⟨rfl,cur,⟨hb4,⟨hb4.len,fun k hk=>by rw [Fj (by omega),Fj (by omega)]⟩,hb5.all (by omega)⟩,HpOK.mutOwn hw (.head _) rfl⟩
theorem rD (l:List Ins) (V:Value) (g:FuncId) (cb:List Value) (cmp:Ins→Ins→Int) (I:World→Prop) (hI:∀ w w' l',I w→Mut w w' V→(rowE V 36 al l').holds w'→I w') (eg:∀ args w,(callFunc g args).run prog w=.ok (.enter g args) w) (hc:∀ x y w',I w'→Calls prog g ([Value.agg (al.enc x).toArray,Value.agg (al.enc y).toArray] ++ cb).toArray w' fun e w''=>e=.returned (.int .i64 (cmp x y))∧Ext w' w'') (hO:WO (d5 cmp)) (w:World) (hIw:I w) (hr:(rowE V 36 al l).holds w) (hl:l.length≤1000000) :
  Calls prog 78 #[V,.func (.func g) #[] cb.toArray] w (Ed cmp V l 0 l.length w):=by
 refine fO (l:=l) (E:=al) (T:=36) hr func78 rfl ntmps78 rfl (zR5 ?_)
 refine iC (fun c=>Stab (d5 cmp) l c∧Fram 0 l.length l c∧Srt (d5 cmp) c 0 l.length) rfl call146 (fun w hw=>GZ l V l.length _ rfl g cb cmp I hI eg hc hO w (hI _ _ _ hIw (HpOK.mutOwn hw (.head _) rfl).1 (HpOK.mutOwn hw (.head _) rfl).2) (hw.ent _ (.head _)) hl rfl) rfl (fun c2 hc2=>mj ?_)
 exact fy results78 fun w' hw=>⟨rfl,c2,hc2,HpOK.mutOwn hw (.head _) rfl⟩
end Go.Proofs.YtiajjbhcpeadfaaGreat
