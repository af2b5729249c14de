/- Own rules and walks, part 9. -/
import Derived.Test.YtiajjbhcpeadfaaGreatB8
set_option linter.unusedSimpArgs false
set_option linter.unusedVariables false
set_option linter.unusedSectionVars false
set_option maxRecDepth 100000
set_option maxHeartbeats 16000000
attribute [local irreducible] Go.wpList Go.Code.wp Go.HL.QS Go.HL.Tr Go.HL.TrQ Go.wpQuiet
namespace Go.Proofs.YtiajjbhcpeadfaaGreat
open Go Go.HL Go.RowKit Tryz
theorem Qk:StTy prog 28 :=
 ⟨⟨26,25,_,_,underlying28,by decide,rfl,rfl,by kernel_rfl,aA,isAgg26,sizeOf26,dM,lB _ dM,rfl,mq,aV,aj⟩⟩
theorem P0:prog.eqGuardType prog.depth 28=false:=by kernel_rfl
theorem Gf (l:List Ins) (V:Value) (entry:UInt32) (rounds:Nat) (w:World) (hI:Sl (hp w) al l V) (hIO:∀ x∈l,InsOK x) (hrd:rounds≤100000) :
  Calls prog 131 #[V,.int .u32 entry.toNat,.int .i64 (rounds:Nat)] w (fun e w'=>∃ V':Value,e=.returned (.tuple #[V',.int .i64 (cg l entry rounds).2])∧Ext w w'∧dY w w' 28 bY (cg l entry rounds).1 V'):=by
 obtain ⟨pV,cV,hvp,_⟩:=hI.shape
 subst hvp
 have hI':Sl (Bg.of w).blk al l (.slice pV l.length cV):=hI
 have hlen:=hI.len_le
 refine En f131 rfl rfl (jk ?_)
 refine ab rfl ?_ ?_<;>intro h1
 ·have hq1:=h1
  refine bB (ay 28 bY (zR7 ?_))
  refine cG mI rfl rfl (fun w' hw=>?_)
  have e:cg l entry rounds=([],6):=if_pos (by omega)
  exact ⟨_,by rw [e],hw.b0,by rw [e]; exact cH rfl⟩
 have hq1:=h1
 refine zR6 ?_
 refine zz0 (aK rfl (fun w hw=>nI l (.slice pV l.length cV) entry w (hw.slF hI'))) (bR ?_)
 refine ab rfl ?_ ?_<;>intro h2
 ·have hq2:=h2
  refine bB (ay 28 bY (zR7 ?_))
  refine cG mI rfl rfl (fun w' hw=>?_)
  have e:cg l entry rounds=([],9):=by unfold cg; rw [if_neg (by omega),if_pos hq2]
  exact ⟨_,by rw [e],hw.b0,by rw [e]; exact cH rfl⟩
 have hq2:=h2
 refine zR3 ?_
 obtain ⟨fn,hfn⟩:∃ fn:Nat,bD l entry=(fn:Int):=⟨_,(Int.toNat_of_nonneg (by omega)).symm⟩
 rw [hfn]
 have hfl:=(od l entry).2
 rw [hfn] at hfl
 refine cj ?_
 refine ay 28 bY ?_
 refine cT (ι:=Nat × Value) (fun ⟨k,Vb⟩=>k≤l.length) (fun _=>_) (fun ⟨k,Vb⟩=>[rowE Vb 28 bY (List.replicate k (gI 8))]) (fun ⟨k,Vb⟩=>[(10,.int .i64 (k:Nat)),(9,Vb)]) (fun ⟨k,Vb⟩=>l.length - k) (0,_) (Nat.zero_le _) (Front.c (Front.c Front.nil)) (fun i hi m hm=>?_)
 obtain ⟨k,Vb⟩:=i
 dsimp only at hi hm
 conv=>enter [3]; dsimp only
 conv=>enter [4,1]; dsimp only
 have hrk:(List.replicate k (gI 8)).length=k:=List.length_replicate
 refine zR9 ?_
 refine ab rfl ?_ ?_<;>intro h3
 ·refine zR6 ?_
  refine zz0 (ak rfl kj) ?_
  refine zz0 (ak rfl H7) ?_
  refine fM (E:=bY) (gI 8) rfl rfl underlying198 g7 cN (fun V4=>?_)
  refine zz3 rfl rfl underlying198 It (fun V5=>?_)
  refine bR ?_
  rw [← List.replicate_succ']
  refine aP (k+1,_) (o:=(by show k+1≤_; omega))
 refine zR5 ?_
 refine gX (ι:=Nat × Nat) (fun ⟨bw,bv⟩=>True) (fun _=>Bg.of w) (fun ⟨bw,bv⟩=>[rowE (Value.slice (some ⟨bv,0,none⟩) (List.replicate l.length (0:Int)).length l.length) 3 aU (List.replicate l.length (0:Int)),rowE (Value.slice (some ⟨bw,0,none⟩) (List.replicate l.length (false)).length l.length) 4 bK (List.replicate l.length (false)),rowE Vb 28 bY (List.replicate l.length (gI 8))]) (fun ⟨bw,bv⟩=>[(11,(Value.slice (some ⟨bw,0,none⟩) (List.replicate l.length (false)).length l.length)),(12,(Value.slice (some ⟨bv,0,none⟩) (List.replicate l.length (0:Int)).length l.length))]) ?_ (fun i hi=>?_)
 ·skip
  obtain rfl:k=l.length:=by omega
  refine bC ([rowE Vb 28 bY (List.replicate l.length (gI 8))]) 8 rfl ah ?_
  refine zz4 0 rfl (af rfl) ?_
  refine xW 1 rfl (by kernel_rfl) (aY cX) rfl aR ?_
  refine zz4 3 rfl (af rfl) ?_
  refine xW 4 rfl (by kernel_rfl) (aY cX) rfl aR ?_
  refine m8 [2,5] (fun iq hq=>?_)
  rcases List.mem_cons.1 hq with rfl|hq
  ·skip
   refine cU rfl ?_
   refine iz (E:=bK) false rfl rfl fW mo rfl rfl rfl (by constructor<;>omega) rfl (fun bw=>?_)
   refine aC ?_
   refine zz4 6 rfl (cD rfl) ?_
   refine au 5 rfl ?_
   refine iz (E:=aU) 0 rfl rfl dC kx rfl rfl rfl (by constructor<;>omega) rfl (fun bv=>?_)
   refine aC ?_
   refine zz4 7 rfl (cD rfl) ?_
   refine fg (aS ?_)
   refine aT (_,_) (o:=trivial)
  obtain rfl:=List.mem_singleton.1 hq
  refine cU rfl ?_
  refine iz (E:=aU) 0 rfl rfl dC kx rfl rfl rfl (by constructor<;>omega) rfl (fun bv=>?_)
  refine aC ?_
  refine au 2 rfl ?_
  refine iz (E:=bK) false rfl rfl fW mo rfl rfl rfl (by constructor<;>omega) rfl (fun bw=>?_)
  refine aC ?_
  refine zK [6,7] ?_
  refine fg (aS ?_)
  refine aT (_,_) (o:=trivial)
 obtain ⟨bw,bv⟩:=i
 replace hi:True:=hi
 change Tr _ _ [rowE (Value.slice (some ⟨bv,0,none⟩) (List.replicate l.length (0:Int)).length l.length) 3 aU (List.replicate l.length (0:Int)),rowE (Value.slice (some ⟨bw,0,none⟩) (List.replicate l.length (false)).length l.length) 4 bK (List.replicate l.length (false)),rowE Vb 28 bY (List.replicate l.length (gI 8))] ([(11,(Value.slice (some ⟨bw,0,none⟩) (List.replicate l.length (false)).length l.length)),(12,(Value.slice (some ⟨bv,0,none⟩) (List.replicate l.length (0:Int)).length l.length))] ++ _) _
 obtain ⟨VV,hVV⟩:∃ V,V=(Value.slice (some ⟨bv,0,none⟩) (List.replicate l.length (0:Int)).length l.length):=⟨_,rfl⟩
 obtain ⟨VM,hVM⟩:∃ V,V=(Value.slice (some ⟨bw,0,none⟩) (List.replicate l.length (false)).length l.length):=⟨_,rfl⟩
 rw [← hVV,← hVM]
 refine bB ?_
 have hr1:(List.replicate l.length (gI 8)).length=l.length:=List.length_replicate
 have hr2:(List.replicate l.length (false)).length=l.length:=List.length_replicate
 refine zR3 ?_
 refine zz0 (ak rfl gp) ?_
 refine zz0 (ak rfl tW) (zz0 (iG rfl rfl) ?_)
 refine fN (l:=(List.replicate l.length (gI 8))) (i:=fn) ((vr 8)) rfl rfl g7 ?_
 have hls6:=@List.length_set _ (List.replicate l.length (gI 8)) (fn) ((vr 8))
 refine zR7 ?_
 refine fN (l:=(List.replicate l.length (false))) (i:=fn) (true) rfl rfl mg ?_
 have hls7:=@List.length_set _ (List.replicate l.length (false)) (fn) (true)
 refine zR9 ?_
 refine cT (ι:=Nat × VSt) (fun ⟨n,s⟩=>((n≤rounds∧fP l (bZ l fn) (cO l) (rounds - n) s=fP l (bZ l fn) (cO l) rounds (lH l fn))∧Marks l s)∧(s.st.length=l.length∧s.vs.length=l.length∧s.mb.length=l.length)∧∀ v∈s.vs,0≤v∧v≤(n:Int)) (fun _=>_) (fun ⟨n,s⟩=>[rowE Vb 28 bY s.st,rowE VV 3 aU s.vs,rowE VM 4 bK s.mb]) (fun ⟨n,s⟩=>[(13,.int .i64 (n:Nat))]) (fun ⟨n,s⟩=>rounds - n) (0,(lH l fn)) ⟨⟨⟨Nat.zero_le _,by rw [Nat.sub_zero]⟩,Ec hfn⟩,⟨by simp [lH],by simp [lH],by simp [lH]⟩,fun v hv=>by rw [(List.mem_replicate.1 hv).2]; omega⟩ (Front.c Front.nil) (fun i hi m hm=>?_)
 obtain ⟨n,s⟩:=i
 dsimp only at hi hm
 conv=>enter [3]; dsimp only
 conv=>enter [4,1]; dsimp only
 obtain ⟨⟨⟨hnr,han⟩,hmk⟩,⟨hst,hvt,hmt⟩,hvn⟩:=hi
 refine zR4 ?_
 refine zz0 (aK rfl (fun w hw=>yV s.mb VM w hw.rM)) (zR3 ?_)
 refine ab rfl ?_ ?_<;>intro h8
 ·have hq3:=h8
  refine df ?_
  refine ab rfl ?_ ?_<;>intro h9
  ·have hq4:=h9
   refine bB (ay 28 bY (df ?_))
   refine cG mI rfl rfl (fun w' hw=>?_)
   have e:cg l entry rounds=([],15):=by
    unfold cg
    rw [if_neg (by omega),if_neg (by omega),hfn,Int.toNat_natCast,← han,show rounds - n=0 by omega]
    exact vc (by omega)
   exact ⟨_,by rw [e],hw.b0,by rw [e]; exact cH rfl⟩
  have hq4:=h9
  refine zR5 ?_
  refine zz0 (aK rfl (fun w hw=>yV s.mb VM w hw.rM)) (zR4 ?_)
  obtain ⟨km,hkm⟩:∃ km:Nat,jZ s.mb=(km:Int):=⟨_,(Int.toNat_of_nonneg (by omega)).symm⟩
  rw [hkm]
  obtain ⟨hkl,hfk⟩:=OA hmt hmk hkm
  have hvk:=hvn _ (ba (l:=s.vs) (k:=km) (by omega))
  refine zR4 ?_
  refine fN (l:=s.mb) (i:=km) (false) rfl rfl mg ?_
  have hls10:=@List.length_set _ s.mb (km) (false)
  refine bR ?_
  refine fN (l:=s.vs) (i:=km) ((s.vs.getD km default+1)) rfl rfl aH ?_
  have hls11:=@List.length_set _ s.vs (km) ((s.vs.getD km default+1))
  refine zR6 ?_
  refine cE rfl call186 (fun w hw=>BF l (.slice pV l.length cV) km w (hw.slF hI') hIO hkl) rfl (fun V12=>zR9 ?_)
  change Tr _ _ [rowE V12 23 aa (jn l km),rowE Vb 28 bY ((((cO l).getD km []).take 0).foldl (dG l (bZ l fn) km) (eW km s)).st,rowE VV 3 aU ((((cO l).getD km []).take 0).foldl (dG l (bZ l fn) km) (eW km s)).vs,rowE VM 4 bK ((((cO l).getD km []).take 0).foldl (dG l (bZ l fn) km) (eW km s)).mb] _ _
  refine cP (.of (ι:=Nat) (fun x=>x≤(jn l km).length) (fun _=>_) (fun x=>[rowE V12 23 aa (jn l km),rowE Vb 28 bY ((((cO l).getD km []).take x).foldl (dG l (bZ l fn) km) (eW km s)).st,rowE VV 3 aU ((((cO l).getD km []).take x).foldl (dG l (bZ l fn) km) (eW km s)).vs,rowE VM 4 bK ((((cO l).getD km []).take x).foldl (dG l (bZ l fn) km) (eW km s)).mb]) (fun x=>[(16,.int .i64 (x:Nat))]) (fun x=>(jn l km).length - x)) 0 (Nat.zero_le _) (Front.c Front.nil) (fun x hi m hm=>?_)
  have hrE:=uz l km
  obtain ⟨S,hS⟩:∃ S,S=((((cO l).getD km []).take x).foldl (dG l (bZ l fn) km) (eW km s)):=⟨_,rfl⟩
  rw [← hS]
  have hvf:=nO l (bZ l fn) km (((cO l).getD km []).take x) (eW km s)
  rw [← hS] at hvf
  have hSt:S.st.length=l.length:=hvf.1.trans hst
  have hSm:S.mb.length=l.length:=hvf.2.2.trans (List.length_set.trans hmt)
  have hSv:S.vs.length=l.length:=(congrArg List.length hvf.2.1).trans (List.length_set.trans hvt)
  refine zR9 ?_
  refine ab rfl ?_ ?_<;>intro h13
  ·have hxl:x<(jn l km).length:=by omega
   have hej:=IH hkl hxl
   refine cj ?_
   refine zz0 (aK rfl (fun w hw=>(by have q:=nI l (.slice pV l.length cV) ((jn l km).getD x default) w (hw.slF hI'); rw [(IH hkl hxl).1] at q; exact q))) (zR3 ?_)
   refine dZ (.of (ι:=Nat) (fun bn=>True) (fun _=>Bg.of w) (fun bn=>[cellE bn (bY.enc (gr (S.st.getD (((cO l).getD km []).getD x default).1.toNat default) (kF l S.st (bZ l fn) km (((cO l).getD km []).getD x default)) 8)) 28,rowE V12 23 aa (jn l km),rowE Vb 28 bY S.st,rowE VV 3 aU S.vs,rowE VM 4 bK S.mb]) (fun bn=>[(18,.pointer (some ⟨bn,0,none⟩))])) ?_ (fun bn hi=>?_)
   ·skip
    refine bC ([rowE V12 23 aa (jn l km),rowE Vb 28 bY S.st,rowE VV 3 aU S.vs,rowE VM 4 bK S.mb]) 16 rfl ah ?_
    refine zK [0,1,2,3,4,5,6,7,8,9,10,11] ?_
    refine m8 [12,14] (fun iq hq=>?_)
    rcases List.mem_cons.1 hq with rfl|hq
    ·skip
     refine cU rfl ?_
     refine zz0 (aK rfl (fun w hw=>(by have q:=BS l (.slice pV l.length cV) km entry (S.st.getD km default) x w (hw.slF hI') hIO hkl (by omega); rw [BR hkl hfk hfn (by rw [← lu hkl]; exact hxl)] at q; exact q))) ?_
     refine aC ?_
     refine m8 [13,14] (fun iq hq=>?_)
     rcases List.mem_cons.1 hq with rfl|hq
     ·skip
      refine cU rfl ?_
      refine zz0 (ak rfl (qQ _ _)) ?_
      refine aC ?_
      refine au 14 rfl ?_
      refine bH cN rfl (fun b14=>?_)
      refine aC ?_
      refine au 15 rfl (cK bY rfl rfl g7 ?_)
      refine aC ?_
      refine fg (aS ?_)
      refine aT _ (o:=trivial)
     obtain rfl:=List.mem_singleton.1 hq
     refine cU rfl ?_
     refine bH cN rfl (fun b15=>?_)
     refine aC ?_
     refine au 13 rfl ?_
     refine zz0 (ak rfl (qQ _ _)) ?_
     refine aC ?_
     refine au 15 rfl (cK bY rfl rfl g7 ?_)
     refine aC ?_
     refine fg (aS ?_)
     refine aT _ (o:=trivial)
    obtain rfl:=List.mem_singleton.1 hq
    refine cU rfl ?_
    refine bH cN rfl (fun b16=>?_)
    refine aC ?_
    refine au 12 rfl ?_
    refine zz0 (aK rfl (fun w hw=>(by have q:=BS l (.slice pV l.length cV) km entry (S.st.getD km default) x w (hw.slF hI') hIO hkl (by omega); rw [BR hkl hfk hfn (by rw [← lu hkl]; exact hxl)] at q; exact q))) ?_
    refine aC ?_
    refine au 13 rfl ?_
    refine zz0 (ak rfl (qQ _ _)) ?_
    refine aC ?_
    refine au 15 rfl (cK bY rfl rfl g7 ?_)
    refine aC ?_
    refine fg (aS ?_)
    refine aT _ (o:=trivial)
   skip
   refine dZ (.of (ι:=StV) (fun x1=>x1=nW l (bZ l fn) km S (((cO l).getD km []).getD x default)) (fun _=>Bg.of w) (fun x1=>[cellE bn (bY.enc x1) 28,rowE V12 23 aa (jn l km),rowE Vb 28 bY S.st,rowE VV 3 aU S.vs,rowE VM 4 bK S.mb]) (fun x1=>[])) ?_ (fun x1 hi=>?_)
   ·skip
    refine zR9 ?_
    refine ab rfl ?_ ?_<;>intro h17
    ·have hq5:=h17
     refine dO 0 6 ah ?_
     refine ax (zT5 ?_)
     refine aw (ak rfl (DO _ _)) (zT4 ?_)
     refine aT _ (o:=(by show _=_; unfold nW; rw [if_pos hq5]))
    have hq5:=h17
    refine zR2 ?_
    refine aT _ (o:=(by show _=_; unfold nW; rw [if_neg (by omega)]))
   skip
   have hx1:=hi
   refine bB (eU ah (zT5 ?_))
   refine aw (Gz rfl rfl Qk P0) (zT2 ?_)
   refine ab rfl ?_ ?_<;>intro h18
   ·have hq6:=h18
    refine zR6 ?_
    refine fN (l:=S.st) (i:=(((cO l).getD km []).getD x default).1.toNat) (x1) rfl rfl g7 ?_
    have hls19:=@List.length_set _ S.st ((((cO l).getD km []).getD x default).1.toNat) (x1)
    refine zR6 ?_
    refine fN (l:=S.mb) (i:=(((cO l).getD km []).getD x default).1.toNat) (true) rfl rfl mg ?_
    have hls20:=@List.length_set _ S.mb ((((cO l).getD km []).getD x default).1.toNat) (true)
    refine zR9 ?_
    have hne:nW l (bZ l fn) km S (((cO l).getD km []).getD x default)≠(S.st.getD (((cO l).getD km []).getD x default).1.toNat default):=by rw [← hx1]; exact hq6
    have hfy:=Fo (by rw [← lu hkl]; exact hxl) hS hne
    rw [← hx1] at hfy
    apply dn (x+1)
    ·exact rfl
    ·exact (Front.c Front.nil)
    ·exact zz9 29 rfl
    ·exact (by show Pick _ [rowE V12 23 aa (jn l km),rowE Vb 28 bY ((((cO l).getD km []).take (x+1)).foldl (dG l (bZ l fn) km) (eW km s)).st,rowE VV 3 aU ((((cO l).getD km []).take (x+1)).foldl (dG l (bZ l fn) km) (eW km s)).vs,rowE VM 4 bK ((((cO l).getD km []).take (x+1)).foldl (dG l (bZ l fn) km) (eW km s)).mb]; rw [hfy]; repeat' (first|exact Pick.nil _|exact Del.here _|apply Pick.cons|apply Del.there))
    ·exact (by show x+1≤_; omega)
    exact (by (try dsimp only); omega)
   have hq6:=h18
   refine zR9 ?_
   have hne:nW l (bZ l fn) km S (((cO l).getD km []).getD x default)=(S.st.getD (((cO l).getD km []).getD x default).1.toNat default):=by rw [← hx1]; exact hq6
   have hfn2:=IU (by rw [← lu hkl]; exact hxl) hS hne
   apply dn (x+1)
   ·exact rfl
   ·exact (Front.c Front.nil)
   ·exact zz9 22 rfl
   ·exact (by show Pick _ [rowE V12 23 aa (jn l km),rowE Vb 28 bY ((((cO l).getD km []).take (x+1)).foldl (dG l (bZ l fn) km) (eW km s)).st,rowE VV 3 aU ((((cO l).getD km []).take (x+1)).foldl (dG l (bZ l fn) km) (eW km s)).vs,rowE VM 4 bK ((((cO l).getD km []).take (x+1)).foldl (dG l (bZ l fn) km) (eW km s)).mb]; rw [hfn2]; repeat' (first|exact Pick.nil _|exact Del.here _|apply Pick.cons|apply Del.there))
   ·exact (by show x+1≤_; omega)
   exact (by (try dsimp only); omega)
  have hxl:=h13
  refine df ?_
  have hSS:S=iK l (bZ l fn) ((cO l).getD km []) km s:=by rw [hS,List.take_of_length_le (by rw [← lu hkl]; omega)]; rfl
  rw [hSS]
  have hstep:fP l (bZ l fn) (cO l) (rounds - n) s=fP l (bZ l fn) (cO l) (rounds - (n+1)) (iK l (bZ l fn) ((cO l).getD km []) km s):=by
   rw [show rounds - n=rounds - (n+1)+1 by omega,tg (by rw [hkm]; omega),hkm,Int.toNat_natCast]
  have hvl:=tq l (bZ l fn) ((cO l).getD km []) km s
  have hvv:=DT (l:=l) (gd:=(bZ l fn)) (es:=((cO l).getD km [])) (k:=km) (by omega) hvn
  refine aP (n+1,iK l (bZ l fn) ((cO l).getD km []) km s) (o:=⟨⟨⟨by omega,hstep.symm.trans han⟩,DU hkl hmk⟩,⟨hvl.1.trans hst,hvl.2.1.trans hvt,hvl.2.2.trans hmt⟩,hvv⟩)
 have hq3:=h8
 refine gB ?_
 refine cG mI rfl rfl (fun w' hw=>?_)
 have e:cg l entry rounds=(s.st,0):=by
  unfold cg
  rw [if_neg (by omega),if_neg (by omega),hfn,Int.toNat_natCast,← han]
  exact ti (by omega)
 exact ⟨Vb,by rw [e],hw.b0,by rw [e]; exact hw.new (by repeat constructor)⟩
end Go.Proofs.YtiajjbhcpeadfaaGreat
