/- Own rules and walks, part 10. -/
import Derived.Test.YtiajjbhcpeadfaaGreatB9
set_option linter.unusedSimpArgs false
set_option linter.unusedVariables false
set_option linter.unusedSectionVars false
set_option maxRecDepth 100000
set_option maxHeartbeats 16000000
attribute [local irreducible] Go.wpList Go.Code.wp Go.HL.QS Go.HL.Tr Go.HL.TrQ Go.wpQuiet
namespace Go.Proofs.YtiajjbhcpeadfaaGreat
open Go Go.HL Go.RowKit Tryz
theorem rT (a:UInt32) (ts:List TabV) (at_:List UInt32) (VT VP:Value) (w:World) (hT:Sl (hp w) dU ts VT) (hP:Sl (hp w) aa at_ VP) (hl:ts.length=at_.length) :
  Cr prog 237 #[.int .u32 a.toNat,VT,VP] w (.tuple #[pw ts at_ a,.bool (eY ts at_ a).isSome]):=by
 have hT':Sl (Bg.of w).blk dU ts VT:=hT
 have hP':Sl (Bg.of w).blk aa at_ VP:=hP
 have hlen:=hP.len_le
 refine En f237 rfl rfl (gB ?_)
 refine cP (.of (ι:=Nat) (fun k=>k≤at_.length∧dA (fun x=>decide (a=x)) k (at_.drop k)=dA (fun x=>decide (a=x)) 0 at_) (fun _=>_) (fun k=>[]) (fun k=>[(8,.int .i64 (k:Nat))]) (fun k=>at_.length - k)) 0 ⟨Nat.zero_le _,rfl⟩ (Front.c Front.nil) (fun k hi m hm=>?_)
 obtain ⟨hk1,hk2⟩:=hi
 refine zR8 ?_
 refine dT 5 13 18 (h2:=zR2 ?_)
 refine ab rfl ?_ ?_<;>intro h2
 ·refine jk ?_
  refine ab rfl ?_ ?_<;>intro h3
  ·refine pf ?_
   refine cG results237 rfl rfl (fun w' hw=>?_)
   have hix:dA (fun x=>decide (a=x)) 0 at_=(k:Int):=by
    rw [← hk2,drop_cons (k:=k) (by omega),dA,if_pos (decide_eq_true (by first|exact Eq.symm (by assumption)|simp_all))]
   exact ⟨by rw [tJ (by rw [hix]; omega),tK (by rw [hix]; omega),hix]; rfl,hw.b0⟩
  refine zR9 ?_
  have hne:decide (a=at_.getD k default)=false:=decide_eq_false (fun e=>by first|exact absurd e.symm (by assumption)|simp_all)
  refine aP (k+1) (o:=⟨by omega,by rw [← hk2,drop_cons (k:=k) (by omega),dA,if_neg (by rw [hne]; simp)]⟩)
 refine df ?_
 refine cG results237 rfl rfl (fun w' hw=>?_)
 have hix:dA (fun x=>decide (a=x)) 0 at_=-1:=by rw [← hk2,List.drop_of_length_le (by omega)]; rfl
 exact ⟨by rw [vL (by rw [hix]; decide),vM (by rw [hix]; decide)]; rfl,hw.b0⟩
theorem GX (i:Ins) (w:World) (hI:InsOK i) :
  Calls prog 236 #[.agg (al.enc i).toArray] w (fun e w'=>∃ V',e=.returned V'∧Ext w w'∧dY w w' 23 aa (bW i) V'):=by
 refine En f236 rfl rfl (zR2 ?_)
 refine bJ rfl rfl (fun b1=>zR4 ?_)
 refine ay 23 aa (zR8 ?_)
 refine zz0 (aK rfl (fun w hw=>(show Calls prog 88 #[.agg (al.enc i).toArray] w (fun e w'=>e=.returned (.bool (decide (eN i=0)))∧Ext w w') from by rw [← qT]; exact jm i w))) (zR3 ?_)
 refine ab rfl ?_ ?_<;>intro h2
 ·refine zR8 ?_
  exact aM results236 rfl fun w' hw=>⟨_,rfl,hw.b0,by rw [show bW i=[] by unfold bW; rw [if_neg (by simp_all)]]; exact hw.new (.head _)⟩
 refine zR5 ?_
 refine zz0 (ak rfl (sZ i)) (zR7 ?_)
 refine dZ (.of (ι:=Value) (fun V1=>True) (fun _=>Bg.of w) (fun V1=>[rowE V1 23 aa (if (bG i).2=true then [(bG i).1] else []),cellE b1 (al.enc i) 36]) (fun V1=>[(3,V1)])) ?_ (fun V1 hi=>?_)
 ·skip
  refine zR5 ?_
  refine ab rfl ?_ ?_<;>intro h3
  ·refine zR3 ?_
   refine fM (E:=aa) (bG i).1 rfl rfl am ar bj (fun V4=>?_)
   refine zz3 rfl rfl am cp (fun V5=>?_)
   refine zR3 ?_
   refine dQ (l':=if (bG i).2=true then [(bG i).1] else []) (by rw [if_pos (by assumption)]; rfl) ?_
   refine aT _ (o:=trivial)
  refine j8 (dQ (l':=if (bG i).2=true then [(bG i).1] else []) (by rw [if_neg (by simp_all)]) ?_)
  refine aT _ (o:=trivial)
 skip
 have htl:(if (bG i).2=true then [(bG i).1] else []).length≤1:=by split<;>simp
 refine dZ (.of (ι:=Value) (fun V2=>True) (fun _=>Bg.of w) (fun V2=>[rowE V2 23 aa ((if (bG i).2=true then [(bG i).1] else []) ++ (if jf i=true then [] else [jT i])),cellE b1 (al.enc i) 36]) (fun V2=>[(3,V2)])) ?_ (fun V2 hi=>?_)
 ·skip
  refine zR3 ?_
  refine zz0 (ak rfl (wJ i)) (zR3 ?_)
  refine ab rfl ?_ ?_<;>intro h6
  ·refine zR3 ?_
   refine zz0 (aK rfl (fun w hw=>(show Calls prog 243 #[.agg (al.enc i).toArray] w (fun e w'=>e=.returned (.int .u32 (jT i).toNat)∧Ext w w') from by rw [show jT i=i.addr+u32 (oH i) by rw [CP]; rfl]; exact wI i w hI))) ?_
   refine fM (E:=aa) (jT i) rfl rfl am ar bj (fun V7=>?_)
   refine zz3 rfl rfl am cp (fun V8=>?_)
   refine zR3 ?_
   refine dQ (l':=(if (bG i).2=true then [(bG i).1] else []) ++ (if jf i=true then [] else [jT i])) (by rw [if_neg (c:=jf i=true) (by simp_all)]) ?_
   refine aT _ (o:=trivial)
  refine j8 (dQ (l':=(if (bG i).2=true then [(bG i).1] else []) ++ (if jf i=true then [] else [jT i])) (by rw [if_pos (c:=jf i=true) (by simp_all),List.append_nil]) ?_)
  refine aT _ (o:=trivial)
 skip
 refine zR7 ?_
 exact aM results236 rfl fun w' hw=>⟨_,rfl,hw.b0,by rw [show bW i=_ by unfold bW; rw [if_pos (by simp_all)]]; exact hw.new (.head _)⟩
theorem Km (l:List SecV) (V:Value) (a:UInt32) (w:World) (hV:Sl (hp w) bP l V) (hB:SecB l) (hD:DataIn (hp w) l) :
  Cr prog 173 #[V,.int .u32 a.toNat] w (.tuple #[.agg (al.enc (atP l a).1).toArray,.bool (atP l a).2]):=by
 have hV':Sl (Bg.of w).blk bP l V:=hV
 have hlen:=hB.1
 have hf:=j1 (l:=l) (a:=a)
 have ha:=a.toNat_lt
 refine En f173 rfl rfl (zR2 ?_)
 refine bH aF rfl (fun b1=>zR7 ?_)
 refine zz0 (aK rfl (fun w hw=>oI l V a w (hw.slF hV') hB)) (zR9 ?_)
 apply gJ 7 15 22 (fun hF2 hF2'=>?_) ?_; rotate_right
 ·refine zR4 ?_
  refine zz5 hF2 (jO rfl nJ) ?_
  exact zE
 refine zR2 ?_
 refine ab rfl ?_ ?_<;>intro h3
 ·refine dx (zz0 (aI (vs:=[]) rfl rfl (gm)) (zR6 ?_))
  exact fL (e:=by unfold atP; rw [if_pos (by unfold CG; simp_all)]; rfl)
 refine zR3 ?_
 have hna:CG l a=false:=by unfold CG; rw [Bool.or_eq_false_iff]; exact ⟨decide_eq_false h3.1,by rw [h3.2]; rfl⟩
 have hin:=oN.1 (qb (l:=l) (a:=a) (by omega))
 have hen:m0 (l.getD (bL l a).toNat default)≤((l.getD (bL l a).toNat default).addr.toNat:Int)+(l.getD (bL l a).toNat default).data.length:=by unfold m0; omega
 have hsub:(a - (l.getD (bL l a).toNat default).addr).toNat=a.toNat - (l.getD (bL l a).toNat default).addr.toNat:=UInt32.toNat_sub_of_le _ _ (UInt32.le_iff_toNat_le.2 hin.1)
 have hdl:=hB.at (k:=(bL l a).toNat) (by omega)
 have hDk:Sl (Bg.of w).blk cd (l.getD (bL l a).toNat default).data (.slice (l.getD (bL l a).toNat default).dp (l.getD (bL l a).toNat default).data.length (l.getD (bL l a).toNat default).dc):=hD _ (ba (by omega))
 refine zR6 ?_
 refine zz0 (jO rfl co) (zz0 (gK rfl rfl) ?_)
 refine zz0 (aO rfl ac ad) (zR4 ?_)
 have hs1:=Sl.resl (l:=(a - (l.getD (bL l a).toNat default).addr).toNat) (h:=(min (((a - (l.getD (bL l a).toNat default).addr).toNat:Int)+6) ((l.getD (bL l a).toNat default).data.length:Int)).toNat) hDk (by omega) (by omega)
 have hs3:=hs1
 rw [show List.drop (a - (l.getD (bL l a).toNat default).addr).toNat ((l.getD (bL l a).toNat default).data.take (min (((a - (l.getD (bL l a).toNat default).addr).toNat:Int)+6) ((l.getD (bL l a).toNat default).data.length:Int)).toNat)=xh l a by unfold xh; rw [List.drop_take,List.take_eq_take_iff,List.length_drop]; omega] at hs3
 refine bC ([]) 24 rfl ah ?_
 refine zK [0,1,2,3] ?_
 refine zz4 4 rfl (jO rfl j6) ?_
 refine zK [5,6,7,8,9,10,11] ?_
 refine zz4 12 rfl (jO rfl j6) ?_
 refine zz4 16 rfl (af rfl) ?_
 refine m8 [13,21] (fun iq hq=>?_)
 rcases List.mem_cons.1 hq with rfl|hq
 ·skip
  refine cU rfl (zz0 (Aa rfl) ?_)
  refine aC ?_
  refine m8 [14,21] (fun iq hq=>?_)
  rcases List.mem_cons.1 hq with rfl|hq
  ·skip
   refine cU rfl (zz0 (sV rfl rfl) ?_)
   refine aC ?_
   refine zz4 15 rfl (rr (lv:=some (_,_)) (hv:=some (_,_)) rfl rfl rfl an bA) ?_
   refine m8 [17,21] (fun iq hq=>?_)
   rcases List.mem_cons.1 hq with rfl|hq
   ·skip
    refine cU rfl ?_
    refine zz0 (aK rfl (fun w hw=>(by have q:=mz (xh l a) _ a w (hw.slF hs3); rw [xP] at q; exact q))) ?_
    refine aC ?_
    refine zK [18,19,20] ?_
    refine au 21 rfl ?_
    refine bH aF rfl (fun b4=>?_)
    refine aC ?_
    refine au 22 rfl (cK al rfl rfl bV ?_)
    refine aC ?_
    refine zz4 23 rfl (cD rfl) ?_
    refine fg (cj ?_)
    exact fL (e:=by unfold atP; rw [if_neg (by simp [hna])]; rfl)
   obtain rfl:=List.mem_singleton.1 hq
   refine cU rfl ?_
   refine bH aF rfl (fun b5=>?_)
   refine aC ?_
   refine au 17 rfl ?_
   refine zz0 (aK rfl (fun w hw=>(by have q:=mz (xh l a) _ a w (hw.slF hs3); rw [xP] at q; exact q))) ?_
   refine aC ?_
   refine zK [18,19,20] ?_
   refine au 22 rfl (cK al rfl rfl bV ?_)
   refine aC ?_
   refine zz4 23 rfl (cD rfl) ?_
   refine fg (cj ?_)
   exact fL (e:=by unfold atP; rw [if_neg (by simp [hna])]; rfl)
  obtain rfl:=List.mem_singleton.1 hq
  refine cU rfl ?_
  refine bH aF rfl (fun b6=>?_)
  refine aC ?_
  refine au 14 rfl (zz0 (sV rfl rfl) ?_)
  refine aC ?_
  refine zz4 15 rfl (rr (lv:=some (_,_)) (hv:=some (_,_)) rfl rfl rfl an bA) ?_
  refine au 17 rfl ?_
  refine zz0 (aK rfl (fun w hw=>(by have q:=mz (xh l a) _ a w (hw.slF hs3); rw [xP] at q; exact q))) ?_
  refine aC ?_
  refine zK [18,19,20] ?_
  refine au 22 rfl (cK al rfl rfl bV ?_)
  refine aC ?_
  refine zz4 23 rfl (cD rfl) ?_
  refine fg (cj ?_)
  exact fL (e:=by unfold atP; rw [if_neg (by simp [hna])]; rfl)
 obtain rfl:=List.mem_singleton.1 hq
 refine cU rfl ?_
 refine bH aF rfl (fun b7=>?_)
 refine aC ?_
 refine au 13 rfl (zz0 (Aa rfl) ?_)
 refine aC ?_
 refine au 14 rfl (zz0 (sV rfl rfl) ?_)
 refine aC ?_
 refine zz4 15 rfl (rr (lv:=some (_,_)) (hv:=some (_,_)) rfl rfl rfl an bA) ?_
 refine au 17 rfl ?_
 refine zz0 (aK rfl (fun w hw=>(by have q:=mz (xh l a) _ a w (hw.slF hs3); rw [xP] at q; exact q))) ?_
 refine aC ?_
 refine zK [18,19,20] ?_
 refine au 22 rfl (cK al rfl rfl bV ?_)
 refine aC ?_
 refine zz4 23 rfl (cD rfl) ?_
 refine fg (cj ?_)
 exact fL (e:=by unfold atP; rw [if_neg (by simp [hna])]; rfl)
theorem CX (l:List Ins) (V:Value) (i:Ins) (w:World) (hV:Sl (hp w) al l V) (hn:l.length≤1000000) :
  Calls prog 175 #[V,.agg (al.enc i).toArray] w (fun e w'=>∃ V',e=.returned V'∧Ext w w'∧dY w w' 36 al (Ct l i) V'):=by
 have hV':Sl (Bg.of w).blk al l V:=hV
 refine En f175 rfl rfl (zR2 ?_)
 refine bJ rfl rfl (fun b1=>df ?_)
 refine cP (.of (ι:=Nat) (fun k=>k≤l.length∧qJ l i.addr l.length=qJ l i.addr k) (fun _=>_) (fun k=>[cellE b1 (al.enc i) 36]) (fun k=>[(5,.int .i64 (k:Nat))]) (fun k=>k)) l.length ⟨Nat.le_refl _,rfl⟩ (Front.c Front.nil) (fun k hi m hm=>?_)
 obtain ⟨hk1,hk2⟩:=hi
 refine bB (bB (eU ah (zT3 ?_)))
 apply fD 10 11 21 (fun hT2 hT2'=>?_) ?_; rotate_right
 ·refine zT3 ?_
  refine db hT2 (ww rfl rfl) (db hT2 (bE rfl) ?_)
  refine db hT2 (jO rfl co) (zT2 ?_)
  refine db hT2 (m6 rfl rfl) ?_
  exact zQ
 refine zT2 ?_
 refine ab rfl ?_ ?_<;>intro h3
 ·refine bR ?_
  apply dn (k - 1)
  ·exact rfl
  ·exact (Front.c Front.nil)
  ·exact zz9 8 rfl
  ·exact (by repeat' constructor)
  ·exact ⟨by omega,by rw [hk2]; exact Oq (by omega) (by simp_all)⟩
  exact (by show k - 1<m; omega)
 refine zR6 ?_
 have hid:qJ l i.addr l.length=k:=by rw [hk2]; exact JZ ((show ¬ (0:Int)<(k:Int)∨¬ i.addr<(l.getD ((k:Int) - 1).toNat default).addr by assumption).imp (fun q=>by omega) id)
 have hs1:Sl (Bg.of w).blk al (l.take k) (HL.Q4 V 0 k al.k):=by
  have q:=Sl.resl hV' (l:=0) (h:=k) (by omega) (by omega)
  rw [List.drop_zero] at q; exact q
 have hs2:Sl (Bg.of w).blk al (l.drop k) (HL.Q4 V k l.length al.k):=by
  have q:=Sl.resl hV' (l:=k) (h:=l.length) (by omega) (by omega)
  rw [List.take_length] at q; exact q
 have hdl:(l.drop k).length=l.length - k:=List.length_drop
 refine cC (sS al aR bV rfl (fun V4=>zR2 ?_))
 refine zz0 (rr (lv:=none) (hv:=some (_,_)) rfl rfl rfl aR bV) ?_
 refine ji (ys:=l.take k) rfl rfl (by repeat constructor) (fun w hw=>hw.slF hs1) aR fY (by rfl) (by rfl) (by (try simp only [List.length_cons,List.length_nil,List.length_append,List.length_take,List.length_drop]); omega) (by unfold maxLen; (try simp only [List.length_cons,List.length_nil,List.length_append,List.length_take,List.length_drop]); omega) rfl (fun V71=>zR7 ?_)
 refine fM (E:=al) i rfl rfl aR bV aF (fun V5=>?_)
 refine zz3 rfl rfl aR fY (fun V6=>?_)
 refine zR8 ?_
 refine zz0 (rr (lv:=some (_,_)) (hv:=none) rfl rfl rfl aR bV) ?_
 refine ji (ys:=l.drop k) rfl rfl (by repeat constructor) (fun w hw=>hw.slF hs2) aR fY (by rfl) (by rfl) (by (try simp only [List.length_cons,List.length_nil,List.length_append,List.length_take,List.length_drop]); omega) (by unfold maxLen; (try simp only [List.length_cons,List.length_nil,List.length_append,List.length_take,List.length_drop]); omega) rfl (fun V73=>zR4 ?_)
 refine aM results175 rfl (fun w' hw=>?_)
 have hres:([] ++ l.take k) ++ [i] ++ l.drop k=Ct l i:=by unfold Ct; rw [hid,List.nil_append]
 rw [hres] at hw
 exact ⟨_,rfl,hw.b0,hw.new (.head _)⟩
theorem GY (i:Ins) (ts:List TabV) (at_:List UInt32) (VT VP:Value) (w:World) (hT:Sl (hp w) dU ts VT) (hTI:TabIn (hp w) ts) (hTB:nf ts) (hP:Sl (hp w) aa at_ VP) (hl:ts.length=at_.length) (hI:InsOK i) :
  Calls prog 176 #[.agg (al.enc i).toArray,VT,VP] w (fun e w'=>∃ V',e=.returned V'∧Ext w w'∧dY w w' 23 aa (iJ ts at_ i) V'):=by
 have hT':Sl (Bg.of w).blk dU ts VT:=hT
 have hTI':TabIn (Bg.of w).blk ts:=hTI
 have hP':Sl (Bg.of w).blk aa at_ VP:=hP
 have hKS:∀ a,Sl (Bg.of w).blk aa ((eY ts at_ a).getD []) (pw ts at_ a):=fun a=>yX hTI' hTB hl
 have hK1:=hKS i.addr
 have hkl:=pT hTB at_ i.addr
 have hsl:=ir i
 refine En f176 rfl rfl (zR2 ?_)
 refine bJ rfl rfl (fun b1=>zR6 ?_)
 refine cE rfl call236 (fun w hw=>GX i w hI) rfl (fun V2=>zR3 ?_)
 refine dZ (.of (ι:=Value) (fun V2=>True) (fun _=>Bg.of w) (fun V2=>[rowE V2 23 aa (iJ ts at_ i),cellE b1 (al.enc i) 36]) (fun V2=>[(7,V2)])) ?_ (fun V2 hi=>?_)
 ·skip
  refine zR4 ?_
  refine zz0 (ak rfl (nZ i.op)) (zR2 ?_)
  refine ab rfl ?_ ?_<;>intro h3
  ·refine zR6 ?_
   refine zz0 (aK rfl (fun w hw=>rT i.addr ts at_ VT VP w (hw.slF hT') (hw.slF hP') hl)) (bR ?_)
   refine B8 rfl rfl (by repeat constructor) (fun w hw=>hw.slF (by assumption)) am cp (fun V4=>?_)
   refine zR3 ?_
   refine dQ (l':=iJ ts at_ i) (by unfold iJ; rw [if_pos (by assumption)]) ?_
   refine aT _ (o:=trivial)
  refine j8 (dQ (l':=iJ ts at_ i) (by unfold iJ; rw [if_neg (by simp_all),List.append_nil]) ?_)
  refine aT _ (o:=trivial)
 skip
 refine zR7 ?_
 exact aM results176 rfl fun w' hw=>⟨_,rfl,hw.b0,hw.new (.head _)⟩
theorem Dh (i:Ins) (ts:List TabV) (at_:List UInt32) (VT VP:Value) (H:Hp) (hH:Sl H aa ((eY ts at_ i.addr).getD []) (pw ts at_ i.addr)) (w:World) (hT:Sl (hp w) dU ts VT) (hP:Sl (hp w) aa at_ VP) (hl:ts.length=at_.length) :
  Calls prog 238 #[.agg (al.enc i).toArray,VT,VP] w (fun e w'=>∃ V',e=.returned V'∧Ext w w'∧(Sl H aa (eH ts at_ i) V'∨dY w w' 23 aa (eH ts at_ i) V')):=by
 have hT':Sl (Bg.of w).blk dU ts VT:=hT
 have hP':Sl (Bg.of w).blk aa at_ VP:=hP
 refine En f238 rfl rfl (zR2 ?_)
 refine bJ rfl rfl (fun b1=>cj ?_)
 refine ab rfl ?_ ?_<;>intro h2
 ·refine zR4 ?_
  refine fM (E:=aa) i.imm rfl rfl am ar bj (fun V3=>zR5 ?_)
  exact aM pE rfl fun w' hw=>⟨_,rfl,hw.b0,.inr (by rw [show eH ts at_ i=[i.imm] by unfold eH; rw [if_pos (by assumption)]]; exact hw.new (.head _))⟩
 refine bR ?_
 refine ab rfl ?_ ?_<;>intro h4
 ·refine zR6 ?_
  refine zz0 (aK rfl (fun w hw=>rT i.addr ts at_ VT VP w (hw.slF hT') (hw.slF hP') hl)) (mN ?_)
  exact aM pE rfl fun w' hw=>⟨_,rfl,hw.b0,.inl (by rw [show eH ts at_ i=(eY ts at_ i.addr).getD [] by unfold eH; rw [if_neg (by assumption),if_pos (by assumption)]]; exact hH)⟩
 refine zR8 ?_
 exact aM pE rfl fun w' hw=>⟨_,rfl,hw.b0,.inl (by rw [show eH ts at_ i=[] by unfold eH; rw [if_neg (by assumption),if_neg (by assumption)]]; exact Sl.nil _ _)⟩
theorem mA (li:List Ins) (a:UInt32) (Vi Ve Vu Vb:Value) (w:World) (hI:Sl (hp w) al li Vi) :
  Cr prog 182 #[.agg #[Vi,Ve,Vu,Vb],.int .u32 a.toNat] w (.bool (inK li a)):=by
 have hI':Sl (Bg.of w).blk al li Vi:=hI
 have hlen:=hI.len_le
 refine En f182 rfl rfl (zR2 ?_)
 refine bJ rfl rfl (fun b1=>bR ?_)
 refine cP (.of (ι:=Nat) (fun k=>k≤li.length∧(li.take k).any (fun i=>decide (i.addr=a))=false) (fun _=>_) (fun k=>[cellE b1 [Vi,Ve,Vu,Vb] 69]) (fun k=>[(5,.int .i64 (k:Nat))]) (fun k=>li.length - k)) 0 ⟨Nat.zero_le _,rfl⟩ (Front.c Front.nil) (fun k hi m hm=>?_)
 obtain ⟨hk1,hk2⟩:=hi
 refine bR ?_
 refine ab rfl ?_ ?_<;>intro h2
 ·refine cj ?_
  refine zz0 (jO rfl co) (zR4 ?_)
  refine ab rfl ?_ ?_<;>intro h3
  ·refine cj ?_
   refine aM results182 rfl (fun w' hw=>?_)
   have hy:(li.any fun i=>decide (i.addr=a))=true:=List.any_eq_true.2 ⟨li.getD k default,ba (by omega),decide_eq_true (by assumption)⟩
   exact ⟨by rw [inK,hy],hw.b0⟩
  refine zR9 ?_
  refine aP (k+1) (o:=⟨by omega,by rw [any_take_succ (by omega),hk2,Bool.false_or]; exact decide_eq_false (by assumption)⟩)
 refine cj ?_
 exact aD (e:=by rw [inK,← hk2,List.take_of_length_le (by omega)])
theorem ET (ins:List Ins) (es:List UInt32) (Vi Vb VE:Value) (ts:List TabV) (at_:List UInt32) (VT VP:Value) (w:World) (hI:Sl (hp w) al ins Vi) (hVb:∃ p n c,Vb=.slice p n c) (hE:Sl (hp w) aa es VE) (hT:Sl (hp w) dU ts VT) (hTI:TabIn (hp w) ts) (hTB:nf ts) (hP:Sl (hp w) aa at_ VP) (hl:ts.length=at_.length) (hin:ins.length≤1000) (hel:es.length≤1000) :
  Calls prog 177 #[.agg #[Vi,nS,nS,Vb],VE,VT,VP] w (fun e w'=>∃ j:Value × Value,e=.returned (.agg #[Vi,j.1,j.2,Vb])∧Ext w w'∧NewEnts w w' [rowE j.1 23 aa (mZ ts at_ ins ins (gi ins es [])),rowE j.2 23 aa (lZ ts at_ ins [])]∧True):=by
 have hI':Sl (Bg.of w).blk al ins Vi:=hI
 have hE':Sl (Bg.of w).blk aa es VE:=hE
 have hT':Sl (Bg.of w).blk dU ts VT:=hT
 have hTI':TabIn (Bg.of w).blk ts:=hTI
 have hP':Sl (Bg.of w).blk aa at_ VP:=hP
 have hKS:∀ a,Sl (Bg.of w).blk aa ((eY ts at_ a).getD []) (pw ts at_ a):=fun a=>yX hTI' hTB hl
 refine En f177 rfl rfl (zR2 ?_)
 refine bJ rfl rfl (fun b1=>?_)
 refine bH fc rfl (fun b2=>zR9 ?_)
 refine ay 23 aa ?_
 refine cT (ι:=Nat × Value) (fun ⟨k,Ve⟩=>k≤es.length) (fun _=>_) (fun ⟨k,Ve⟩=>[rowE Ve 23 aa (gi ins (es.take k) []),cellE b1 [Vi,Ve,nS,Vb] 69,cellE b2 [nS,nS,nS,nS] 69]) (fun ⟨k,Ve⟩=>[(9,.int .i64 (k:Nat))]) (fun ⟨k,Ve⟩=>es.length - k) (0,_) (Nat.zero_le _) (Front.c Front.nil) (fun i hi m hm=>?_)
 obtain ⟨k,Ve⟩:=i
 dsimp only at hi hm
 conv=>enter [3]; dsimp only
 conv=>enter [4,1]; dsimp only
 have hefl:=lQ ins (es.take k) []
 rw [List.length_take,List.length_nil] at hefl
 refine zR9 ?_
 refine ab rfl ?_ ?_<;>intro h3
 ·refine zR5 ?_
  refine eU ah (zT5 ?_)
  refine aw (aK rfl (fun w hw=>mA ins (es.getD k default) Vi _ _ Vb w (hw.slF hI'))) (zT2 ?_)
  refine ab rfl ?_ ?_<;>intro h4
  ·refine dO 0 6 ah ?_
   refine ax (zT7 ?_)
   refine jr rfl ln (by repeat constructor) (fun w hw=>jo (gi ins (es.take k) []) _ (es.getD k default) w hw.rM (by omega)) rfl (fun V81=>?_)
   refine eV (V:=V81) (fun p81 c81 hpv=>?_)
   subst hpv
   refine zz0 (bE rfl) (zz1 (cs':=[_,_,_,_]) rfl rfl eS rfl ?_)
   refine zR9 ?_
   rw [uZ (by omega) (by assumption)]
   refine aP (k+1,_) (o:=(by show k+1≤_; omega))
  refine zR9 ?_
  rw [xM (by omega) (by simp_all)]
  refine aP (k+1,_) (o:=(by show k+1≤_; omega))
 refine zR7 ?_
 obtain rfl:k=es.length:=by omega
 rw [List.take_length]
 refine ay 23 aa (zR5 ?_)
 refine cT (ι:=Nat × Value × Value) (fun ⟨i,Ve,Vu⟩=>i≤ins.length) (fun _=>_) (fun ⟨i,Ve,Vu⟩=>[rowE Ve 23 aa (mZ ts at_ ins (ins.take i) (gi ins es [])),rowE Vu 23 aa (lZ ts at_ (ins.take i) []),cellE b1 [Vi,Ve,Vu,Vb] 69,cellE b2 [nS,nS,nS,nS] 69]) (fun ⟨i,Ve,Vu⟩=>[(10,.int .i64 (i:Nat))]) (fun ⟨i,Ve,Vu⟩=>ins.length - i) (0,_,_) (Nat.zero_le _) (Front.c Front.nil) (fun i hi m hm=>?_)
 obtain ⟨i,Ve,Vu⟩:=i
 dsimp only at hi hm
 conv=>enter [3]; dsimp only
 conv=>enter [4,1]; dsimp only
 have he0:=lQ ins es []
 rw [List.length_nil] at he0
 refine bR ?_
 refine ab rfl ?_ ?_<;>intro h5
 ·refine gB ?_
  refine KT rfl call238 (fun w hw=>Dh (ins.getD i default) ts at_ VT VP _ (hKS _) w (hw.slF hT') (hw.slF hP') hl) rfl (fun Vl F1 hF1 hsl=>?_)
  obtain ⟨pl,cl,hvl,_⟩:=hsl.shape
  subst hvl
  have hI2:=hI'.mono hF1.blk
  have hT2:=hT'.mono hF1.blk
  have hP2:=hP'.mono hF1.blk
  have hcl:=FV (at_:=at_) hTB (ins.getD i default)
  have hegl:=Fy (at_:=at_) hTB ins (ins.take i) (gi ins es [])
  have hul:=DX (ts:=ts) (at_:=at_) (ins.take i) []
  rw [List.length_take] at hegl hul
  rw [List.length_nil] at hul
  refine bR ?_
  refine cT (ι:=Nat × Value) (fun ⟨j,Ve⟩=>j≤(eH ts at_ (ins.getD i default)).length) (fun _=>F1) (fun ⟨j,Ve⟩=>[rowE Ve 23 aa (gi ins ((eH ts at_ (ins.getD i default)).take j) (mZ ts at_ ins (ins.take i) (gi ins es []))),rowE Vu 23 aa (lZ ts at_ (ins.take i) []),cellE b1 [Vi,Ve,Vu,Vb] 69,cellE b2 [nS,nS,nS,nS] 69]) (fun ⟨j,Ve⟩=>[(12,.int .i64 (j:Nat))]) (fun ⟨j,Ve⟩=>(eH ts at_ (ins.getD i default)).length - j) (0,_) (Nat.zero_le _) (Front.c Front.nil) (fun i hi m hm=>?_)
  obtain ⟨j,Ve⟩:=i
  dsimp only at hi hm
  conv=>enter [3]; dsimp only
  conv=>enter [4,1]; dsimp only
  have hefl:=lQ ins ((eH ts at_ (ins.getD i default)).take j) (mZ ts at_ ins (ins.take i) (gi ins es []))
  rw [List.length_take] at hefl
  refine zR9 ?_
  refine ab rfl ?_ ?_<;>intro h6
  ·refine zR5 ?_
   refine eU ah (zT5 ?_)
   refine aw (aK rfl (fun w hw=>mA ins ((eH ts at_ (ins.getD i default)).getD j default) Vi _ _ Vb w (hw.slF hI2))) (zT2 ?_)
   refine ab rfl ?_ ?_<;>intro h7
   ·refine dO 0 6 ah ?_
    refine ax (zT7 ?_)
    refine jr rfl ln (by repeat constructor) (fun w hw=>jo (gi ins ((eH ts at_ (ins.getD i default)).take j) (mZ ts at_ ins (ins.take i) (gi ins es []))) _ ((eH ts at_ (ins.getD i default)).getD j default) w hw.rM (by omega)) rfl (fun V82=>?_)
    refine eV (V:=V82) (fun p82 c82 hpv=>?_)
    subst hpv
    refine zz0 (bE rfl) (zz1 (cs':=[_,_,_,_]) rfl rfl eS rfl ?_)
    refine zR9 ?_
    rw [uZ (by omega) (by assumption)]
    refine aP (j+1,_) (o:=(by show j+1≤_; omega))
   refine zR9 ?_
   rw [xM (by omega) (by simp_all)]
   refine aP (j+1,_) (o:=(by show j+1≤_; omega))
  refine df ?_
  refine zz0 (jO rfl co) (zR2 ?_)
  refine zz0 (aK rfl (fun w hw=>rT (ins.getD i default).addr ts at_ VT VP w (hw.slF hT2) (hw.slF hP2) hl)) (jk ?_)
  refine zz0 (jO rfl iW) ?_
  refine zz0 (ak rfl (nZ (ins.getD i default).op)) (zz0 (af rfl) ?_)
  refine dT 3 89 92 (h2:=zR2 ?_)
  refine ab rfl ?_ ?_<;>intro h9
  ·refine dO 0 8 ah ?_
   refine ax (zT7 ?_)
   refine aw (jO rfl co) (im ?_)
   refine jr rfl ln (by repeat constructor) (fun w hw=>jo (lZ ts at_ (ins.take i) []) _ (ins.getD i default).addr w hw.rM (by omega)) rfl (fun V83=>?_)
   refine eV (V:=V83) (fun p83 c83 hpv=>?_)
   subst hpv
   refine zz0 (bE rfl) (zz1 (cs':=[_,_,_,_]) rfl rfl eS rfl ?_)
   refine zR9 ?_
   have hun:k6 ts at_ (ins.getD i default)=true:=by unfold k6; simp_all
   refine Jc hF1 ?_
   obtain rfl:j=(eH ts at_ (ins.getD i default)).length:=by omega
   rw [List.take_length,BB (by omega),Li (by omega) hun]
   refine aP (i+1,_,_) (o:=(by show i+1≤_; omega))
  refine zR9 ?_
  have hun:¬ k6 ts at_ (ins.getD i default)=true:=Pw (by assumption)
  refine Jc hF1 ?_
  obtain rfl:j=(eH ts at_ (ins.getD i default)).length:=by omega
  rw [List.take_length,BB (by omega),N4 (by omega) hun]
  refine aP (i+1,_,_) (o:=(by show i+1≤_; omega))
 refine zR6 ?_
 obtain rfl:i=ins.length:=by omega
 rw [List.take_length]
 obtain ⟨p91,c91,hvi,_⟩:=hI'.shape
 subst hvi
 obtain ⟨p92,n92,c92,hvb⟩:=hVb
 subst hvb
 refine eV (V:=Ve) (fun p93 c93 hpv=>?_)
 subst hpv
 refine eV (V:=Vu) (fun p94 c94 hpv=>?_)
 subst hpv
 refine cC (zz0 (cF rfl) (zz8 rfl rfl cB ?_))
 refine Gr (Dp (lC results177 rfl ii cB (fun w' hw=>?_)))
 have hn:NewEnts w w' [rowE (.slice p93 (mZ ts at_ ins ins (gi ins es [])).length c93) 23 aa (mZ ts at_ ins ins (gi ins es [])),rowE (.slice p94 (lZ ts at_ ins []).length c94) 23 aa (lZ ts at_ ins [])]:=hw.ents (Bg.le.refl _) (.cons (.here _) (.cons (.here _) (.nil _)))
 have hb:=hw.b0
 clear hw
 exact ⟨((.slice p93 (mZ ts at_ ins ins (gi ins es [])).length c93),(.slice p94 (lZ ts at_ ins []).length c94)),rfl,hb,hn,trivial⟩
theorem GR (l:List SecV) (ts:List TabV) (at_ es:List UInt32) (V VE VT VP:Value) (w:World) (hV:Sl (hp w) bP l V) (hB:SecB l) (hD:DataIn (hp w) l) (hN:∀ s∈l,s.name.size≤140737488351232) (hE:Sl (hp w) aa es VE) (hT:Sl (hp w) dU ts VT) (hTI:TabIn (hp w) ts) (hTB:nf ts) (hP:Sl (hp w) aa at_ VP) (ht:totD l≤600) (hel:es.length≤100) :
  Calls prog 128 #[V,VE,VT,VP] w (fun e w'=>∃ i:((Value × Value × Value × Value) × CodeP × Int),e=.returned ((fun i:((Value × Value × Value × Value) × CodeP × Int)=>.tuple #[.agg #[i.1.1,i.1.2.1,i.1.2.2.1,i.1.2.2.2],.int .i64 i.2.2]) i)∧Below w.heap.size w w'∧NewEnts w w' ((fun i:((Value × Value × Value × Value) × CodeP × Int)=>[rowE i.1.1 36 al i.2.1.ins,rowE i.1.2.1 23 aa i.2.1.ents,rowE i.1.2.2.1 23 aa i.2.1.unk,rowE i.1.2.2.2 23 aa i.2.1.bad]) i)∧WalkIs l ts at_ es i.2.1 i.2.2):=by
 obtain ⟨ta,tc,hvt,_⟩:=hT.shape
 subst hvt
 obtain ⟨pa,pc,hvp,_⟩:=hP.shape
 subst hvp
 have hV0:Sl (Bg.of0 w).blk bP l V:=hV
 have hD0:DataIn (Bg.of0 w).blk l:=hD
 have hE0:Sl (Bg.of0 w).blk aa es VE:=hE
 have hT0:Sl (Bg.of0 w).blk dU ts (.slice ta ts.length tc):=hT
 have hTI0:TabIn (Bg.of0 w).blk ts:=hTI
 have hP0:Sl (Bg.of0 w).blk aa at_ (.slice pa at_.length pc):=hP
 refine lP func128 rfl ntmps128 rfl (zR2 ?_)
 refine bH fc rfl (fun b1=>gB ?_)
 refine ab rfl ?_ ?_<;>intro h2
 ·refine bB (ay 36 al ?_)
  refine ay 23 aa ?_
  refine ay 23 aa ?_
  refine ay 23 aa (cC ?_)
  refine zz0 (aI (vs:=[]) rfl rfl (kg)) ?_
  refine zz8 rfl rfl cB ?_
  refine zR5 ?_
  refine vn pL rfl rfl ii cB (fun w' hw=>?_)
  exact ⟨((nS,nS,nS,nS),⟨[],[],[],[]⟩,2),rfl,hw.below0 (Bg.le.refl _),hw.ents0 rfl (by repeat' constructor),.arg (by show ts.length≠at_.length; omega) rfl rfl⟩
 refine zR5 ?_
 refine zz0 (aK rfl (fun w hw=>s6 l V w (hw.slF hV0) hB (fun s hs=>by have:=hN s hs; omega))) (bR ?_)
 refine ab rfl ?_ ?_<;>intro h3
 ·refine bB (ay 36 al ?_)
  refine ay 23 aa ?_
  refine ay 23 aa ?_
  refine ay 23 aa (cC ?_)
  refine zz0 (aI (vs:=[]) rfl rfl (kg)) (zz0 (af rfl) ?_)
  refine zz8 rfl rfl cB ?_
  refine zR5 ?_
  refine vn pL rfl rfl ii cB (fun w' hw=>?_)
  exact ⟨((nS,nS,nS,nS),⟨[],[],[],[]⟩,fV l),rfl,hw.below0 (Bg.le.refl _),hw.ents0 rfl (by repeat' constructor),.chk (by show ts.length=at_.length; omega) (by assumption) rfl rfl⟩
 refine zR3 ?_
 have hl:ts.length=at_.length:=by omega
 refine cC (zz0 (aI (vs:=[]) rfl rfl (kg)) ?_)
 refine bH fc rfl (fun b4=>?_)
 refine zz8 rfl rfl cB ?_
 refine Ds (sS aa am ar rfl (fun V5=>zz0 (af rfl) ?_))
 refine B8 rfl rfl (by repeat constructor) (fun w hw=>hw.slF (by assumption)) am cp (fun V6=>?_)
 refine bR ?_
 rw [List.nil_append]
 refine ay 36 al ?_
 refine ay 23 aa ?_
 refine cT (ι:=Nat × List UInt32 × List Ins × List UInt32 × Value × Value × Value) (fun ⟨k,work,ins,bad,Vw,Vi,Vb⟩=>RInv l ts at_ es k work ins bad) (fun _=>_) (fun ⟨k,work,ins,bad,Vw,Vi,Vb⟩=>[rowE Vw 23 aa work,rowE Vi 36 al ins,rowE Vb 23 aa bad,cellE b4 [Vi,nS,nS,Vb] 69,cellE b1 [nS,nS,nS,nS] 69]) (fun ⟨k,work,ins,bad,Vw,Vi,Vb⟩=>[(13,.int .i64 (k:Nat)),(12,Vw)]) (fun ⟨k,work,ins,bad,Vw,Vi,Vb⟩=>(es.length+66 * 601) - k) (0,es,[],[],_,_,_) RInv.begin (Front.c (Front.c Front.nil)) (fun i hi m hm=>?_)
 obtain ⟨k,work,ins,bad,Vw,Vi,Vb⟩:=i
 dsimp only at hi hm
 conv=>enter [3]; dsimp only
 conv=>enter [4,1]; dsimp only
 have hinv:=hi
 have hic:=hinv.count
 have hiw:=hinv.lWork
 have hib:=hinv.lBad
 have hkl:=hinv.le
 refine zR9 ?_
 refine ab rfl ?_ ?_<;>intro h7
 ·refine cj ?_
  obtain ⟨a,ha⟩:∃ a,a=work.getD k default:=⟨_,rfl⟩
  rw [← ha]
  refine zR7 ?_
  refine zz0 (tY rfl (by repeat constructor) rfl am ar rfl (by omega)) (zz0 (af rfl) ?_)
  refine zz0 (aK rfl (fun w hw=>Bv (work.take k) _ a w (by have q:=Sl.resl (hw.row (l:=work) (by repeat constructor)) (l:=0) (h:=k) (by omega) (by omega); rw [List.drop_zero] at q; exact q))) (zR2 ?_)
  refine ab rfl ?_ ?_<;>intro h8
  ·refine bR ?_
   apply dn (k+1,work,ins,bad,_,_,_)
   ·exact rfl
   ·exact (Front.c (Front.c Front.nil))
   ·exact zz9 19 rfl
   ·exact (by repeat' constructor)
   ·exact (hinv.skip (by omega) ha (by first|assumption|simp_all))
   exact (by show (es.length+66 * 601) - (k+1)<m; omega)
  refine zR6 ?_
  refine zz0 (aK rfl (fun w hw=>Km l V a w (hw.slF hV0) hB (hD0.mono hw.bg))) (zR3 ?_)
  refine bH aF rfl (fun b9=>cj ?_)
  refine ab rfl ?_ ?_<;>intro h10
  ·refine zR5 ?_
   refine jr rfl ln (by repeat constructor) (fun w hw=>jo bad _ a w hw.rM (by omega)) rfl (fun V81=>?_)
   refine eV (V:=V81) (fun p81 c81 hpv=>?_)
   subst hpv
   refine zz0 (bE rfl) (zz1 (cs':=[_,_,_,_]) rfl rfl eS rfl ?_)
   refine df ?_
   apply dn (k+1,work,ins,kC ltU bad a,_,_,_)
   ·exact rfl
   ·exact (Front.c (Front.c Front.nil))
   ·exact zz9 34 rfl
   ·exact (by repeat' constructor)
   ·exact (hinv.isBad (by omega) ha (by first|assumption|simp_all))
   exact (by show (es.length+66 * 601) - (k+1)<m; omega)
  refine cj ?_
  refine fk rfl ?_ ?_<;>intro h11<;>try simp only [bs] at h11
  ·first|contradiction|(exfalso; omega)|simp_all
  refine zR7 ?_
  refine cE rfl call175 (fun w hw=>CX ins _ (atP l a).1 w hw.rM (by omega)) rfl (fun V12=>?_)
  refine eV (V:=V12) (fun p82 c82 hpv=>?_)
  subst hpv
  have hll:=rS hTB at_ (atP l a).1
  refine zz0 (bE rfl) (zz1 (cs':=[_,_,_,_]) rfl rfl m3 rfl ?_)
  refine zR7 ?_
  refine cE rfl call176 (fun w hw=>GY (atP l a).1 ts at_ (.slice ta ts.length tc) (.slice pa at_.length pc) w (hw.slF hT0) (hTI0.mono hw.bg) hTB (hw.slF hP0) hl (Nv l a)) rfl (fun V13=>?_)
  refine B8 rfl rfl (by repeat constructor) (fun w hw=>hw.row (by repeat constructor)) am cp (fun V14=>?_)
  refine bR ?_
  apply dn (k+1,work ++ iJ ts at_ (atP l a).1,Ct ins (atP l a).1,bad,_,_,_)
  ·exact rfl
  ·exact (Front.c (Front.c Front.nil))
  ·exact zz9 45 rfl
  ·exact (by repeat' constructor)
  ·exact (hinv.found hTB (by omega) ha (by first|assumption|simp_all) (by first|assumption|simp_all))
  exact (by show (es.length+66 * 601) - (k+1)<m; omega)
 refine zR6 ?_
 have hcode:=hinv.code (by omega)
 refine eV (V:=Vi) (fun pi ci hpv=>?_)
 subst hpv
 refine eV (V:=Vb) (fun pb cb hpv=>?_)
 subst hpv
 refine zR5 ?_
 refine jh (fun j:Value × Value=>.agg #[.slice pi ins.length ci,j.1,j.2,.slice pb bad.length cb]) (fun j:Value × Value=>[rowE j.1 23 aa (mZ ts at_ ins ins (gi ins es [])),rowE j.2 23 aa (lZ ts at_ ins [])]) (ok:=fun _=>True) rfl call177 (fun w hw=>ET ins es _ _ _ ts at_ (.slice ta ts.length tc) (.slice pa at_.length pc) w hw.rM ⟨_,_,_,rfl⟩ (hw.slF hE0) (hw.slF hT0) (hTI0.mono hw.bg) hTB (hw.slF hP0) hl (by omega) (by omega)) rfl (fun j _=>?_)
 obtain ⟨Ve,Vu⟩:=j
 change Tr _ _ ([rowE Ve 23 aa (mZ ts at_ ins ins (gi ins es [])),rowE Vu 23 aa (lZ ts at_ ins [])] ++ _) _ _
 refine eV (V:=Ve) (fun pe ce hpv=>?_)
 subst hpv
 refine eV (V:=Vu) (fun pu cu hpv=>?_)
 subst hpv
 refine zz8 rfl rfl cB ?_
 refine zR4 ?_
 refine vn pL rfl rfl ii cB (fun w' hw=>?_)
 exact ⟨((.slice pi _ ci,.slice pe _ ce,.slice pu _ cu,.slice pb _ cb),⟨ins,mZ ts at_ ins ins (gi ins es []),lZ ts at_ ins [],bad⟩,0),rfl,hw.below0 (Bg.le.refl _),hw.ents0 rfl (by repeat' constructor),.ok hl (by simp_all) rfl hcode⟩
theorem qw (i:Ins) (w:World):Cr prog 88 #[.agg (al.enc i).toArray] w (.bool (decide (eN i=0))):=by
 have h:=jm i w
 rw [qT] at h; exact h
theorem EV (i:Ins) (w:World) (hI:InsOK i):Cr prog 282 #[.agg (al.enc i).toArray] w (.int .i64 (gG i)):=by
 have h:=s5 i w hI
 rw [CP] at h; exact h
theorem BD (i:Ins) (w:World) (hI:InsOK i) :
  Cr prog 281 #[.agg (al.enc i).toArray] w (.int .u64 (xu i)):=by
 have hl:=xG i
 have ha:=i.addr.toNat_lt
 refine En f281 rfl rfl (zR2 ?_)
 refine bJ rfl rfl (fun b1=>zR4 ?_)
 refine eU ah (zT2 ?_)
 refine aw (dL rfl ac bF) (aw (cF rfl) (aw (aK rfl (fun w hw=>EV i w hI)) ?_))
 refine aw (eO rfl ad bF (IntWalk.u64_in _ (by omega))) ?_
 refine aw (rf rfl rfl (by omega)) (zT4 ?_)
 exact aD (e:=rfl)
theorem zw (a b:Ins) (w:World) (hI:InsOK a) (hJ:InsOK b) :
  Cr prog 241 #[.agg (al.enc a).toArray,.agg (al.enc b).toArray] w (.bool (iT a b)):=by
 refine En f241 rfl rfl (zR2 ?_)
 refine bJ rfl rfl (fun b1=>?_)
 refine bJ rfl rfl (fun b2=>zR4 ?_)
 refine eU ah (zT6 ?_)
 apply fD 3 10 13 (fun hT3 hT3'=>?_) ?_; rotate_right
 ·refine db hT3 (cF rfl) (db hT3 (ak rfl (qw a)) ?_)
  exact zQ
 refine aw (af rfl) ?_
 apply fD 3 14 17 (fun hT4 hT4'=>?_) ?_; rotate_right
 ·refine db hT4 (cF rfl) (db hT4 (ak rfl (qw b)) ?_)
  exact zQ
 refine aw (af rfl) ?_
 apply fD 7 18 25 (fun hT5 hT5'=>?_) ?_; rotate_right
 ·refine zT2 ?_
  refine db hT5 (dL rfl ac bF) (db hT5 (cF rfl) (db hT5 (aK rfl (fun w hw=>BD b w hJ)) ?_))
  exact zQ
 refine aw (af rfl) ?_
 apply fD 7 26 33 (fun hT6 hT6'=>?_) ?_; rotate_right
 ·refine zT2 ?_
  refine db hT6 (dL rfl ac bF) (db hT6 (cF rfl) (db hT6 (aK rfl (fun w hw=>BD a w hI)) ?_))
  exact zQ
 refine zT4 ?_
 exact aD (e:=by rw [← LW]; rfl)
theorem Ft (l:List Ins) (V:Value) (i:Nat) (w:World) (hV:Sl (hp w) al l V) (hi0:i<l.length) :
  Cr prog 239 #[V,.int .i64 (i:Nat)] w (.bool (Kx l i)):=by
 have hV':Sl (Bg.of w).blk al l V:=hV
 have hlen:=hV.len_le
 refine En f239 rfl rfl (df ?_)
 refine cP (.of (ι:=Nat) (fun k=>k≤i∧(l.take k).any (fun y=>decide (y.addr=(l.getD i default).addr) && decide (eN y=0))=false) (fun _=>_) (fun k=>[]) (fun k=>[(5,.int .i64 (k:Nat))]) (fun k=>i - k)) 0 ⟨Nat.zero_le _,rfl⟩ (Front.c Front.nil) (fun k hi m hm=>?_)
 obtain ⟨hk1,hk2⟩:=hi
 refine zR8 ?_
 refine ab rfl ?_ ?_<;>intro h1
 ·refine zR5 ?_
  refine eU ah (zT4 ?_)
  refine aw (jO rfl co) (zT4 ?_)
  refine aw (jO rfl co) (zT2 ?_)
  apply fD 6 22 28 (fun hT2 hT2'=>?_) ?_; rotate_right
  ·refine zT4 ?_
   refine db hT2 (ak rfl (qw (l.getD k default))) ?_
   exact zQ
  refine zT2 ?_
  refine ab rfl ?_ ?_<;>intro h3
  ·refine cj ?_
   refine aM results239 rfl (fun w' hw=>?_)
   have hm:l.getD k default∈l.take i:=by rw [List.mem_take_iff_getElem]; exact ⟨k,by omega,by rw [List.getD_eq_getElem?_getD,List.getElem?_eq_getElem (by omega)]; rfl⟩
   exact ⟨by rw [Kx,List.any_eq_true.2 ⟨_,hm,by rw [Bool.and_eq_true,decide_eq_true_eq,decide_eq_true_eq]; assumption⟩]; rfl,hw.b0⟩
  refine zR9 ?_
  refine aP (k+1) (o:=⟨by omega,by rw [any_take_succ (by omega),hk2,Bool.false_or]; rw [Bool.and_eq_false_iff,decide_eq_false_iff_not,decide_eq_false_iff_not]; assumption⟩)
 refine cj ?_
 refine aM results239 rfl (fun w' hw=>?_)
 obtain rfl:k=i:=by omega
 exact ⟨by rw [Kx,hk2]; rfl,hw.b0⟩
theorem tf (l:List Ins) (V:Value) (w:World) (hV:Sl (hp w) al l V) (hI:∀ x∈l,InsOK x) (h40:l.length≤3000) :
  Calls prog 178 #[V] w (fun e w'=>∃ V',e=.returned V'∧Ext w w'∧dY w w' 36 al (uD l) V'):=by
 have hV':Sl (Bg.of w).blk al l V:=hV
 refine En f178 rfl rfl (ug ?_)
 refine ay 36 al ?_
 refine cT (ι:=Nat × Value) (fun ⟨i,V'⟩=>i≤l.length) (fun _=>_) (fun ⟨i,V'⟩=>[rowE V' 36 al (fu l i)]) (fun ⟨i,V'⟩=>[(4,.int .i64 (i:Nat)),(3,V')]) (fun ⟨i,V'⟩=>l.length - i) (0,_) (Nat.zero_le _) (Front.c (Front.c Front.nil)) (fun i hi m hm=>?_)
 obtain ⟨i,V'⟩:=i
 dsimp only at hi hm
 change Tr _ _ [rowE V' 36 al (fu l i)] ([(4,.int .i64 (i:Nat)),(3,V')] ++ _) _
 have hrl:=uC l i
 refine zR9 ?_
 refine ab rfl ?_ ?_<;>intro h1
 ·refine cj ?_
  refine cP (.of (ι:=Nat) (fun k=>k≤(fu l i).length∧∀ j,j<k→ltA ((fu l i).getD j default) (l.getD i default)=true) (fun _=>_) (fun k=>[rowE V' 36 al (fu l i)]) (fun k=>[(5,.int .i64 (k:Nat))]) (fun k=>(fu l i).length - k)) 0 ⟨Nat.zero_le _,fun j q=>by omega⟩ (Front.c Front.nil) (fun k hi m hm=>?_)
  obtain ⟨hk1,hk2⟩:=hi
  refine bB (bB (eU ah (zT2 ?_)))
  refine aw (rc rfl) (zT2 ?_)
  apply fD 12 17 29 (fun hT2 hT2'=>?_) ?_; rotate_right
  ·refine zT4 ?_
   refine db hT2 (sW rfl (by repeat constructor) co (by omega) (by rfl)) (zT4 ?_)
   refine db hT2 (jO rfl co) ?_
   refine db hT2 (ql rfl rfl) ?_
   exact zQ
  refine zT2 ?_
  refine ab rfl ?_ ?_<;>intro h3
  ·refine bR ?_
   have hlt:ltA ((fu l i).getD k default) (l.getD i default)=true:=by rw [ltA,decide_eq_true_eq]; exact h3.2
   apply dn (k+1)
   ·exact rfl
   ·exact (Front.c Front.nil)
   ·exact zz9 10 rfl
   ·exact (by repeat' constructor)
   ·exact ⟨by omega,fun j q=>by
     by_cases c:j=k
     ·subst c; exact hlt
     ·exact hk2 j (by omega)⟩
   exact (by (try dsimp only); omega)
  refine zR6 ?_
  have hid1:kA (l.getD i default) (fu l i)=k:=C0 hk1 hk2 (by
    rcases Nat.lt_or_ge k (fu l i).length with c|c
    ·refine .inr ?_
     show ltA _ _=false
     rw [ltA,decide_eq_false_iff_not]
     rcases h3 with q|q
     ·omega
     ·simp only [UInt32.lt_iff_toNat_lt,UInt32.le_iff_toNat_le] at q ⊢; omega
    ·exact .inl (by omega))
  have hid:kA (l.getD i default) (fu l i)=k∧Nh (fu l i) (l.getD i default)=(decide (k=(fu l i).length) || decide (((fu l i).getD k default).addr≠(l.getD i default).addr)):=⟨hid1,by rw [Nh,hid1]⟩
  have hdl:(((fu l i)).drop k).length=(fu l i).length - k:=List.length_drop
  refine eU ah (zT4 ?_)
  refine aw (ak rfl (qw (l.getD i default))) (aw (af rfl) ?_)
  apply Gj
  ·exact (rfl:_=(18,37,55))
  ·exact rfl
  ·intro hT4; have hT4':=hT4
   try simp only [bs] at hT4'
   refine zT2 ?_
   refine db hT4 (rc rfl) ?_
   refine db hT4 (kG rfl rfl) (db hT4 (af rfl) ?_)
   apply Ja
   ·exact (rfl:_=(12,42,54))
   ·exact rfl
   ·intro hF5; have hF5':=hF5
    try simp only [bs] at hF5'
    refine zT4 ?_
    refine db hF5 (sW rfl (by repeat constructor) co (by omega) (by rfl)) (zT4 ?_)
    refine db hF5 (jO rfl co) ?_
    refine db hF5 (jz rfl rfl) ?_
    refine db hT4 (kd rfl hF5 rfl) ?_
    exact vd (Sub.cons rfl (zz7 12 rfl))
   ·intro hT5
    refine vp ?_
    refine db hT4 (kc rfl hT5 rfl) ?_
    exact vd (Sub.cons rfl (zz7 12 rfl))
   exact zQ
  ·intro hF4
   refine zT5 ?_
   refine dX rfl rfl rfl ?_
   refine dX rfl rfl rfl ?_
   refine dX rfl rfl rfl ?_
   refine dX rfl rfl rfl ?_
   refine dX rfl rfl rfl ?_
   refine dX rfl rfl rfl ?_
   refine dX rfl rfl rfl ?_
   refine dX rfl rfl rfl ?_
   refine dX rfl rfl rfl ?_
   refine dX rfl rfl rfl ?_
   refine dX rfl rfl rfl ?_
   exact zQ
  refine aw (af rfl) ?_
  apply fD 4 56 60 (fun hT6 hT6'=>?_) ?_; rotate_right
  ·refine zT2 ?_
   refine db hT6 (aK rfl (fun w hw=>Ft l V i w (hw.slF hV') (by omega))) ?_
   exact zQ
  refine zT2 ?_
  refine ab rfl ?_ ?_<;>intro h7
  ·refine bR ?_
   refine zz0 (tY rfl (by repeat constructor) rfl aR bV rfl (by omega)) ?_
   refine ay _ _ (ji (ys:=((fu l i)).take k) rfl rfl (by repeat constructor) (fun w hw=>(by have q:=Sl.resl (hw.row (l:=(fu l i)) (by repeat constructor)) (l:=0) (h:=k) (by omega) (by omega); rw [List.drop_zero] at q; exact q)) aR fY (by rfl) (by rfl) (by (try simp only [List.length_cons,List.length_nil,List.length_append,List.length_take,List.length_drop]); omega) (by unfold maxLen; (try simp only [List.length_cons,List.length_nil,List.length_append,List.length_take,List.length_drop]); omega) rfl (fun V71=>?_))
   refine bR ?_
   refine fM (E:=al) _ rfl rfl aR bV aF (fun V8=>?_)
   refine zz3 rfl rfl aR fY (fun V9=>?_)
   refine zR7 ?_
   refine zz0 (ra rfl (by repeat constructor) rfl aR bV rfl (by omega)) ?_
   refine ji (ys:=((fu l i)).drop k) rfl rfl (by repeat constructor) (fun w hw=>(by have q:=Sl.resl (hw.row (l:=(fu l i)) (by repeat constructor)) (l:=k) (h:=(fu l i).length) (by omega) (by omega); rw [List.take_length] at q; exact q)) aR fY (by rfl) (by rfl) (by (try simp only [List.length_cons,List.length_nil,List.length_append,List.length_take,List.length_drop]); omega) (by unfold maxLen; (try simp only [List.length_cons,List.length_nil,List.length_append,List.length_take,List.length_drop]); omega) rfl (fun V73=>bR ?_)
   have hst:([] ++ ((fu l i)).take k) ++ [(l.getD i default)] ++ ((fu l i)).drop k=fu l (i+1):=by
    rw [sC,A5,hid.2,if_pos (by rw [Bool.and_eq_true,Bool.and_eq_true,Bool.or_eq_true,decide_eq_true_eq,decide_eq_true_eq,decide_eq_true_eq]; exact ⟨⟨h7.1.1,h7.1.2.imp (fun q=>by omega) id⟩,h7.2⟩),Ez,hid.1]; simp
   rw [hst]
   refine aP (i+1,_) (o:=(by show i+1≤_; omega))
  refine zR9 ?_
  have hst:(fu l i)=fu l (i+1):=by
   rw [sC,A5,hid.2,if_neg (by rw [Bool.and_eq_true,Bool.and_eq_true,Bool.or_eq_true,decide_eq_true_eq,decide_eq_true_eq,decide_eq_true_eq]; rintro ⟨⟨q1,q2⟩,q3⟩; simp_all)]
  rw [hst]
  refine aP (i+1,_) (o:=(by show i+1≤_; omega))
 refine df ?_
 refine aM results178 rfl (fun w' hw=>?_)
 obtain rfl:i=l.length:=by omega
 exact ⟨_,rfl,hw.b0,hw.new (.head _)⟩
theorem Fh (ents:List UInt32) (l:List Ins) (Vi Ve Vu Vb V:Value) (a:UInt32) (w:World) (hE:Sl (hp w) aa ents Ve) (hV:Sl (hp w) al l V) :
  Cr prog 179 #[.agg #[Vi,Ve,Vu,Vb],V,.int .u32 a.toNat] w (.int .i64 (gR ents l a)):=by
 have hV':Sl (Bg.of w).blk al l V:=hV
 have hE':Sl (Bg.of w).blk aa ents Ve:=hE
 have hlen:=hV.len_le
 refine En f179 rfl rfl (zR2 ?_)
 refine bJ rfl rfl (fun b1=>zR9 ?_)
 refine zz0 (aK rfl (fun w hw=>Bv ents Ve a w (hw.slF hE'))) (zR2 ?_)
 refine ab rfl ?_ ?_<;>intro h2
 ·refine zR7 ?_
  exact aD (e:=by rw [gR,if_pos (by assumption)])
 refine zR9 ?_
 refine cP (.of (ι:=Nat) (fun k=>k≤l.length∧(l.take k).any (fun x=>(bG x).2 && decide ((bG x).1=a))=false) (fun _=>_) (fun k=>[cellE b1 [Vi,Ve,Vu,Vb] 69]) (fun k=>[(7,.int .i64 (k:Nat))]) (fun k=>l.length - k)) 0 ⟨Nat.zero_le _,rfl⟩ (Front.c Front.nil) (fun k hi m hm=>?_)
 obtain ⟨hk1,hk2⟩:=hi
 refine zR9 ?_
 refine ab rfl ?_ ?_<;>intro h3
 ·refine bR ?_
  refine zz0 (ak rfl (sZ (l.getD k default))) (cj ?_)
  apply dV 4 29 33 (fun hT4 hT4'=>?_) ?_; rotate_right
  ·refine zR2 ?_
   refine zz5 hT4 (dq rfl rfl) ?_
   exact zE
  refine zR2 ?_
  refine ab rfl ?_ ?_<;>intro h5
  ·refine cj ?_
   exact aD (e:=by rw [gR,if_neg (by simp_all),if_pos (List.any_eq_true.2 ⟨_,ba (k:=k) (by omega),by simp_all⟩)])
  refine zR9 ?_
  refine aP (k+1) (o:=⟨by omega,by rw [any_take_succ (by omega),hk2,Bool.false_or,Bool.and_eq_false_iff,decide_eq_false_iff_not]; exact h5⟩)
 refine cj ?_
 refine aM results179 rfl (fun w' hw=>?_)
 obtain rfl:k=l.length:=by omega
 rw [List.take_length] at hk2
 exact ⟨by rw [gR,if_neg (by simp_all),if_neg (by rw [hk2]; simp)],hw.b0⟩
theorem HC (l:List Ins) (V:Value) (x:Ins) (w:World) (hV:Sl (hp w) al l V) (hI:∀ y∈l,InsOK y) (hJ:InsOK x) :
  Cr prog 180 #[V,.agg (al.enc x).toArray] w (.bool (Bw l x)):=by
 have hV':Sl (Bg.of w).blk al l V:=hV
 have hlen:=hV.len_le
 refine En f180 rfl rfl (zR2 ?_)
 refine bJ rfl rfl (fun b1=>bR ?_)
 refine cP (.of (ι:=Nat) (fun k=>k≤l.length∧(l.take k).any (fun y=>iT y x)=false) (fun _=>_) (fun k=>[cellE b1 (al.enc x) 36]) (fun k=>[(5,.int .i64 (k:Nat))]) (fun k=>l.length - k)) 0 ⟨Nat.zero_le _,rfl⟩ (Front.c Front.nil) (fun k hi m hm=>?_)
 obtain ⟨hk1,hk2⟩:=hi
 refine zR9 ?_
 refine ab rfl ?_ ?_<;>intro h2
 ·refine zR5 ?_
  refine eU ah (zT5 ?_)
  refine aw (aK rfl (fun w hw=>zw (l.getD k default) x w (hI _ (ba (by omega))) hJ)) (zT2 ?_)
  refine ab rfl ?_ ?_<;>intro h3
  ·refine cj ?_
   exact aD (e:=by rw [Bw,List.any_eq_true.2 ⟨_,ba (k:=k) (by omega),by assumption⟩]; rfl)
  refine zR9 ?_
  refine aP (k+1) (o:=⟨by omega,by rw [any_take_succ (by omega),hk2,Bool.false_or]; simp_all⟩)
 refine cj ?_
 refine aM results180 rfl (fun w' hw=>?_)
 obtain rfl:k=l.length:=by omega
 rw [List.take_length] at hk2
 exact ⟨by rw [Bw,hk2]; rfl,hw.b0⟩
theorem Gb (l:List UInt32) (kept:List Ins) (V W:Value) (w:World) (hV:Sl (hp w) aa l V) (hW:Sl (hp w) al kept W) (h1:l.length≤700) (h2:kept.length≤3000) :
  Calls prog 181 #[V,W] w (fun e w'=>∃ V',e=.returned V'∧Ext w w'∧dY w w' 23 aa ((atR l kept l.length)) V'):=by
 have hV':Sl (Bg.of w).blk aa l V:=hV
 have hW':Sl (Bg.of w).blk al kept W:=hW
 refine En f181 rfl rfl (ug ?_)
 refine ay 23 aa ?_
 refine cT (ι:=Nat × Value) (fun ⟨i,V'⟩=>i≤l.length) (fun _=>_) (fun ⟨i,V'⟩=>[rowE V' 23 aa (atR l kept i)]) (fun ⟨i,V'⟩=>[(6,.int .i64 (i:Nat)),(5,V')]) (fun ⟨i,V'⟩=>l.length - i) (0,_) (Nat.zero_le _) (Front.c (Front.c Front.nil)) (fun i hi m hm=>?_)
 obtain ⟨i,V'⟩:=i
 dsimp only at hi hm
 change Tr _ _ [rowE V' 23 aa (atR l kept i)] ([(6,.int .i64 (i:Nat)),(5,V')] ++ _) _
 have hal:=HZ l kept i
 have hxm:i * kept.length≤700 * 3000:=Nat.mul_le_mul (by omega) h2
 refine zR9 ?_
 refine ab rfl ?_ ?_<;>intro h1
 ·refine bR ?_
  have e0:atR l kept i ++ atS (kept.take 0) (l.getD i default)=atR l kept i:=by simp [atS]
  rw [← e0]
  refine cT (ι:=Nat × Value) (fun ⟨j,V2⟩=>j≤kept.length) (fun _=>_) (fun ⟨j,V2⟩=>[rowE V2 23 aa (atR l kept i ++ atS (kept.take j) (l.getD i default))]) (fun ⟨j,V2⟩=>[(7,.int .i64 (j:Nat)),(5,V2)]) (fun ⟨j,V2⟩=>kept.length - j) (0,_) (Nat.zero_le _) (Front.c (Front.c Front.nil)) (fun i hi m hm=>?_)
  obtain ⟨j,V2⟩:=i
  dsimp only at hi hm
  conv=>enter [3]; dsimp only
  conv=>enter [4,1]; dsimp only
  have hsl:=I9 (kept.take j) (l.getD i default)
  rw [List.length_take] at hsl
  refine zR9 ?_
  refine ab rfl ?_ ?_<;>intro h2
  ·refine zR5 ?_
   refine eU ah (zT4 ?_)
   refine aw (jO rfl co) (zT7 ?_)
   refine ab rfl ?_ ?_<;>intro h3
   ·refine zR6 ?_
    refine fM (E:=aa) _ rfl rfl am ar bj (fun V4=>?_)
    refine zz3 rfl rfl am cp (fun V5=>?_)
    refine bR ?_
    rw [List.append_assoc,← O3 (by omega) (by assumption)]
    refine aP (j+1,_) (o:=(by show j+1≤_; omega))
   refine zR9 ?_
   rw [← P9 (by omega) (by assumption)]
   refine aP (j+1,_) (o:=(by show j+1≤_; omega))
  refine df ?_
  obtain rfl:j=kept.length:=by omega
  rw [List.take_length,← I8 (by omega)]
  refine aP (i+1,_) (o:=(by show i+1≤_; omega))
 refine df ?_
 refine aM results181 rfl (fun w' hw=>?_)
 obtain rfl:i=l.length:=by omega
 exact ⟨_,rfl,hw.b0,hw.new (.head _)⟩
theorem Am (ins:List Ins) (ents unk bad:List UInt32) (Vi Ve Vu Vb:Value) (w:World) (hV:Sl (hp w) al ins Vi) (hE:Sl (hp w) aa ents Ve) (hU:Sl (hp w) aa unk Vu) (hB:Sl (hp w) aa bad Vb) (hI:∀ x∈ins,InsOK x) (hn1:ins.length≤700) (hn2:ents.length≤700) (hn3:unk.length≤700) :
  Calls prog 129 #[.agg #[Vi,Ve,Vu,Vb]] w (fun e w'=>∃ i:Value × Value × Value × Value,e=.returned (.tuple #[.agg #[i.1,i.2.1,i.2.2.1,Vb],i.2.2.2])∧Ext w w'∧NewEnts w w' [rowE i.1 36 al (A1 ins ents unk bad).kept,rowE i.2.1 23 aa (A1 ins ents unk bad).ents,rowE i.2.2.1 23 aa (A1 ins ents unk bad).unk,rowE i.2.2.2 23 aa (A1 ins ents unk bad).rem]):=by
 obtain ⟨sab,scb,rfl,_⟩:=hB.shape
 have hV':Sl (Bg.of w).blk al ins Vi:=hV
 have hE':Sl (Bg.of w).blk aa ents Ve:=hE
 have hU':Sl (Bg.of w).blk aa unk Vu:=hU
 obtain ⟨lc,hlc⟩:∃ lc,lc=uD ins:=⟨_,rfl⟩
 have hcl:=uC ins ins.length
 change (uD ins).length≤_ at hcl
 rw [← hlc] at hcl
 have hcI:∀ x∈lc,InsOK x:=fun x hx=>hI _ (LX ins ins.length x (by rw [hlc] at hx; exact hx) (Nat.le_refl _))
 have hr3:=vA ents lc 3
 have hI3:∀ x∈(fq ents lc 3).1,InsOK x:=fun x hx=>hcI x (vz ents lc 3 x hx)
 refine En f129 rfl rfl (zR2 ?_)
 refine bJ rfl rfl (fun b1=>?_)
 refine bH fc rfl (fun b2=>zR7 ?_)
 refine cE rfl call178 (fun w hw=>(by rw [hlc]; exact tf ins Vi w (hw.slF hV') hI (by omega):Calls prog 178 #[Vi] w (fun e w'=>∃ V',e=.returned V'∧Ext w w'∧dY w w' 36 al (lc) V'))) rfl (fun V3=>Pu ?_)
 refine ay 23 aa ?_
 refine ay 36 al ?_
 refine cT (ι:=Nat × Value × Value) (fun ⟨g,Vk,Vr⟩=>g≤3) (fun _=>_) (fun ⟨g,Vk,Vr⟩=>[rowE Vk 36 al (fq ents lc g).1,rowE Vr 23 aa (fq ents lc g).2,rowE V3 36 al lc,cellE b2 [nS,nS,nS,nS] 69,cellE b1 [Vi,Ve,Vu,.slice sab bad.length scb] 69]) (fun ⟨g,Vk,Vr⟩=>[(7,.int .i64 (g:Nat)),(5,Vk),(6,Vr)]) (fun ⟨g,Vk,Vr⟩=>3 - g) (0,_,_) (Nat.zero_le _) (Front.c (Front.c (Front.c Front.nil))) (fun i hi m hm=>?_)
 obtain ⟨g,Vk,Vr⟩:=i
 dsimp only at hi hm
 conv=>enter [3]; dsimp only
 conv=>enter [4,1]; dsimp only
 have hrg:=vA ents lc g
 have hmg:g * lc.length≤3 * 700:=Nat.mul_le_mul hi (by omega)
 refine zR7 ?_
 refine ab rfl ?_ ?_<;>intro h4
 ·refine bR ?_
  refine cT (ι:=Nat × Value × Value) (fun ⟨i,Vk2,Vr2⟩=>i≤lc.length) (fun _=>_) (fun ⟨i,Vk2,Vr2⟩=>[rowE Vk2 36 al (je ents lc ((g:Nat):Int) (fq ents lc g) i).1,rowE Vr2 23 aa (je ents lc ((g:Nat):Int) (fq ents lc g) i).2,rowE V3 36 al lc,cellE b2 [nS,nS,nS,nS] 69,cellE b1 [Vi,Ve,Vu,.slice sab bad.length scb] 69]) (fun ⟨i,Vk2,Vr2⟩=>[(8,.int .i64 (i:Nat)),(5,Vk2),(6,Vr2)]) (fun ⟨i,Vk2,Vr2⟩=>lc.length - i) (0,_,_) (Nat.zero_le _) (Front.c (Front.c (Front.c Front.nil))) (fun i hi m hm=>?_)
  obtain ⟨i,Vk2,Vr2⟩:=i
  dsimp only at hi hm
  conv=>enter [3]; dsimp only
  conv=>enter [4,1]; dsimp only
  have hgl:=vy ents lc ((g:Nat):Int) (fq ents lc g) i
  obtain ⟨s,hs⟩:∃ s,s=(je ents lc ((g:Nat):Int) (fq ents lc g) i):=⟨_,rfl⟩
  have hsI:∀ x∈s.1,InsOK x:=fun x hx=>by
   rw [hs] at hx
   rcases nE _ _ _ _ _ _ hx with q|q
   ·exact hcI x (vz _ _ _ _ q)
   ·exact hcI x q
  rw [← hs] at hgl ⊢
  refine zR9 ?_
  refine ab rfl ?_ ?_<;>intro h5
  ·refine zR6 ?_
   refine eU ah (zT6 ?_)
   refine aw (sW rfl (by repeat constructor) co (by omega) (by rfl)) ?_
   refine aw (aK rfl (fun w hw=>Fh ents lc Vi Ve Vu _ V3 (lc.getD i default).addr w (hw.slF hE') hw.rM)) (aw (af rfl) ?_)
   refine aw (wu rfl rfl) (zT2 ?_)
   refine ab rfl ?_ ?_<;>intro h6
   ·refine bR ?_
    have hst:s=(je ents lc ((g:Nat):Int) (fq ents lc g) (i+1)):=by rw [nT (by omega),← hs,rH,if_pos (by assumption)]
    rw [hst]
    refine aP (i+1,_,_) (o:=(by show i+1≤_; omega))
   refine zR9 ?_
   refine zz0 (aK rfl (fun w hw=>HC s.1 Vk2 (lc.getD i default) w hw.rM hsI (hcI _ (ba (by omega))))) (zR2 ?_)
   refine ab rfl ?_ ?_<;>intro h7
   ·refine zR6 ?_
    refine fM (E:=al) _ rfl rfl aR bV aF (fun V8=>?_)
    refine zz3 rfl rfl aR fY (fun V9=>?_)
    refine bR ?_
    have hst:(je ents lc ((g:Nat):Int) (fq ents lc g) (i+1))=(s.1 ++ [(lc.getD i default)],s.2):=by rw [nT (by omega),← hs,rH,if_neg (by simp_all),ng,if_pos (by assumption)]
    have h81:s.1 ++ [(lc.getD i default)]=(je ents lc ((g:Nat):Int) (fq ents lc g) (i+1)).1:=by rw [hst]
    have h82:s.2=(je ents lc ((g:Nat):Int) (fq ents lc g) (i+1)).2:=by rw [hst]
    rw [h81,h82]
    refine aP (i+1,_,_) (o:=(by show i+1≤_; omega))
   refine zR6 ?_
   refine zz0 (sW rfl (by repeat constructor) co (by omega) (by rfl)) ?_
   refine jr rfl ln (by repeat constructor) (fun w hw=>jo s.2 _ (lc.getD i default).addr w (hw.row (l:=s.2) (by repeat constructor)) (by omega)) rfl (fun V44=>bR ?_)
   have hst:(je ents lc ((g:Nat):Int) (fq ents lc g) (i+1))=(s.1,kC ltU s.2 (lc.getD i default).addr):=by rw [nT (by omega),← hs,rH,if_neg (by simp_all),ng,if_neg (by simp_all)]; rfl
   have h81:s.1=(je ents lc ((g:Nat):Int) (fq ents lc g) (i+1)).1:=by rw [hst]
   have h82:kC ltU s.2 (lc.getD i default).addr=(je ents lc ((g:Nat):Int) (fq ents lc g) (i+1)).2:=by rw [hst]
   rw [h82,h81]
   refine aP (i+1,_,_) (o:=(by show i+1≤_; omega))
  refine df ?_
  obtain rfl:i=lc.length:=by omega
  have hst:s=fq ents lc (g+1):=hs
  rw [hst]
  refine aP (g+1,_,_) (o:=(by show g+1≤_; omega))
 refine zR6 ?_
 obtain rfl:g=3:=by omega
 refine zR2 ?_
 refine cE rfl call178 (fun w hw=>tf (fq ents lc 3).1 _ w hw.rM hI3 (by omega)) rfl (fun V10=>zR4 ?_)
 refine cn (.head _) (fun pz qz hpv=>?_)
 subst hpv
 obtain ⟨kp,hkp⟩:∃ kp,kp=uD (fq ents lc 3).1:=⟨_,rfl⟩
 rw [← hkp]
 have hkl:=uC (fq ents lc 3).1 (fq ents lc 3).1.length
 change (uD _).length≤_ at hkl
 rw [← hkp] at hkl
 obtain ⟨r1,hr1⟩:∃ r,r=(fq ents lc 3).1:=⟨_,rfl⟩
 obtain ⟨r2,hr2⟩:∃ r,r=(fq ents lc 3).2:=⟨_,rfl⟩
 obtain ⟨ea,hea⟩:∃ r,r=atR ents kp ents.length:=⟨_,rfl⟩
 obtain ⟨ua,hua⟩:∃ r,r=atR unk kp unk.length:=⟨_,rfl⟩
 have hkl2:kp.length≤3000:=by omega
 clear hkl hr3
 rw [← hr1,← hr2]
 refine bC ([rowE (.slice pz kp.length qz) 36 al kp,rowE Vk 36 al r1,rowE Vr 23 aa r2,rowE V3 36 al lc,cellE b1 [Vi,Ve,Vu,.slice sab bad.length scb] 69]) 15 rfl ah ?_
 refine zK [0,1,2,3,5,6,7,9,10,12] ?_
 refine au 4 rfl ?_
 refine cE rfl call181 (fun w hw=>(by rw [hea]; exact Gb ents kp Ve _ w (hw.slF hE') (hw.row (.head _)) hn2 hkl2:Calls prog 181 #[_,_] w (fun e w'=>∃ V',e=.returned V'∧Ext w w'∧dY w w' 23 aa (ea) V'))) rfl (fun V11=>?_)
 refine cn (.head _) (fun pa ca hpv=>?_)
 subst hpv
 refine aC ?_
 refine au 8 rfl ?_
 refine cE rfl call181 (fun w hw=>(by rw [hua]; exact Gb unk kp Vu _ w (hw.slF hU') (hw.row (.tail _ (.head _))) hn3 hkl2:Calls prog 181 #[_,_] w (fun e w'=>∃ V',e=.returned V'∧Ext w w'∧dY w w' 23 aa (ua) V'))) rfl (fun V12=>?_)
 refine cn (.head _) (fun pb cb hpv=>?_)
 subst hpv
 refine aC ?_
 refine zz4 11 rfl (aI (vs:=[(0,_),(1,_),(2,_),(3,_)]) rfl rfl rfl) ?_
 refine au 13 rfl ?_
 refine zz8 rfl rfl cB ?_
 refine aC ?_
 refine zz4 14 rfl (cD rfl) ?_
 refine fg (zR2 ?_)
 refine vn results129 rfl rfl ii cB (fun w' hw=>?_)
 subst hea hua hr1 hr2 hkp
 subst hlc
 exact ⟨(_,_,_,_),rfl,hw.b0,hw.ents (w:=w) (Bg.le.refl _) (by repeat' constructor)⟩
theorem KD (w:World) :
  Cr prog 132 #[] w (.agg (bY.enc (gI 8)).toArray):=by
 refine En f132 rfl rfl (zR2 ?_)
 refine bH cN rfl (fun b1=>zR4 ?_)
 refine bH cN rfl (fun b2=>zR9 ?_)
 refine cP (.of (ι:=Nat) (fun k=>k≤8) (fun _=>_) (fun k=>[cellE b2 (bY.enc (gI k)) 28,cellE b1 (bY.enc gx) 28]) (fun k=>[(2,.int .i64 (k:Nat))]) (fun k=>8 - k)) 0 (Nat.zero_le _) (Front.c Front.nil) (fun k hi m hm=>zR7 ?_)
 refine ab rfl ?_ ?_<;>intro h3
 ·refine zR6 ?_
  refine zz0 (ak rfl kj) (zz0 (bE rfl) ?_)
  refine zz0 (gn rfl rfl aA aj) ?_
  refine cY rfl rfl aj (by repeat constructor) ((fQ (k:=(k:Int)) ⟨by omega,by omega⟩ (by simp) _).trans (congrArg bY.enc (zo (by omega)))) (by rfl) (fR (k:=(k:Int)) ⟨by omega,by omega⟩ (by simp)) (by first|exact Enc.one er _|exact List.all_eq_true.1 rfl) rfl (zR9 ?_)
  refine aP (k+1) (o:=(by show k+1≤_; omega))
 refine zR6 ?_
 obtain rfl:k=8:=by omega
 refine zR6 ?_
 exact aL (e:=rfl)
theorem rG (l n2:List TabV) (V W:Value) (w:World) (hV:Sl (hp w) dU l V) (hW:Sl (hp w) dU n2 W) (hI:TabIn (hp w) l) (hJ:TabIn (hp w) n2) :
  Cr prog 27 #[V,W] w (.bool (decide (l.map (·.data)=n2.map (·.data)))):=by
 have hV':Sl (Bg.of w).blk dU l V:=hV
 have hW':Sl (Bg.of w).blk dU n2 W:=hW
 have hI':TabIn (Bg.of w).blk l:=hI
 have hJ':TabIn (Bg.of w).blk n2:=hJ
 have hlen:=hV.len_le
 refine En f27 rfl rfl (mN ?_)
 refine ab rfl ?_ ?_<;>intro h1
 ·have hq:=h1
  refine zR7 ?_
  exact aD (e:=by rw [decide_eq_false (fun e=>hq (by have:=congrArg List.length e; rw [List.length_map,List.length_map] at this; omega))])
 have hq:=h1
 refine zR9 ?_
 refine cP (.of (ι:=Nat) (fun k=>k≤l.length∧(l.map (·.data)).take k=(n2.map (·.data)).take k) (fun _=>_) (fun k=>[]) (fun k=>[(5,.int .i64 (k:Nat))]) (fun k=>l.length - k)) 0 ⟨Nat.zero_le _,rfl⟩ (Front.c Front.nil) (fun k hi m hm=>?_)
 obtain ⟨hk1,hk2⟩:=hi
 have hgl:∀ q:List TabV,(q.map (·.data)).getD k default=(q.getD k default).data:=fun q=>by
  simp only [List.getD_eq_getElem?_getD,List.getElem?_map]
  cases q[k]?<;>rfl
 refine zR9 ?_
 refine ab rfl ?_ ?_<;>intro h2
 ·refine zR5 ?_
  refine eU ah (zT8 ?_)
  refine aw (aK rfl (fun w hw=>jC (l.getD k default).data (n2.getD k default).data _ _ w (hw.slF (hI' _ (ba (by omega)))) (hw.slF (hJ' _ (ba (by omega)))))) (zT3 ?_)
  refine ab rfl ?_ ?_<;>intro h3
  ·have hq2:=h3
   refine cj ?_
   exact aD (e:=by rw [decide_eq_false (fun e=>(by simp_all:¬ (l.getD k default).data=(n2.getD k default).data) (by rw [← hgl,← hgl,e]))])
  have hq2:=h3
  refine zR9 ?_
  refine aP (k+1) (o:=⟨by omega,by rw [bN (by rw [List.length_map]; omega),bN (by rw [List.length_map]; omega),hk2,hgl,hgl,show (l.getD k default).data=(n2.getD k default).data by first|exact hq2|simp_all]⟩)
 refine cj ?_
 exact aD (e:=by rw [decide_eq_true (show l.map (·.data)=n2.map (·.data) by rw [← List.take_length (l:=l.map (·.data)),← List.take_length (l:=n2.map (·.data)),List.length_map,List.length_map,show n2.length=l.length by omega,show l.length=k by omega]; exact hk2)])
theorem JL (ins:List Ins) (ents:List UInt32) (ts:List TabV) (VI VE VU VB VT:Value) (w:World) (hI:Sl (hp w) al ins VI) (hE:Sl (hp w) aa ents VE) (hT:Sl (hp w) dU ts VT) (hTI:TabIn (hp w) ts) (hTB:nf ts) (hel:ents.length≤700) :
  Calls prog 130 #[.agg #[VI,VE,VU,VB],VT] w (fun e w'=>∃ V',e=.returned V'∧Ext w w'∧dY w w' 23 aa (jR ins ents (ts.map (·.data))) V'):=by
 have hI':Sl (Bg.of w).blk al ins VI:=hI
 have hE':Sl (Bg.of w).blk aa ents VE:=hE
 have hT':Sl (Bg.of w).blk dU ts VT:=hT
 have hTI':TabIn (Bg.of w).blk ts:=hTI
 have htl:=hTB.1
 refine En f130 rfl rfl (zR2 ?_)
 refine bJ rfl rfl (fun b1=>mN ?_)
 refine ay 23 aa ?_
 refine cT (ι:=Nat × Value) (fun ⟨i,Vo⟩=>i≤ents.length) (fun _=>_) (fun ⟨i,Vo⟩=>[rowE Vo 23 aa (gi ins (ents.take i) []),cellE b1 [VI,VE,VU,VB] 69]) (fun ⟨i,Vo⟩=>[(6,.int .i64 (i:Nat)),(5,Vo)]) (fun ⟨i,Vo⟩=>ents.length - i) (0,_) (Nat.zero_le _) (Front.c (Front.c Front.nil)) (fun i hi m hm=>?_)
 obtain ⟨i,Vo⟩:=i
 dsimp only at hi hm
 conv=>enter [3]; dsimp only
 conv=>enter [4,1]; dsimp only
 have hefl:=lQ ins (ents.take i) []
 rw [List.length_take,List.length_nil] at hefl
 refine bR ?_
 refine ab rfl ?_ ?_<;>intro h2
 ·refine zR5 ?_
  refine eU ah (zT6 ?_)
  refine aw (aK rfl (fun w hw=>mA ins (ents.getD i default) VI VE VU VB w (hw.slF hI'))) (zT2 ?_)
  refine ab rfl ?_ ?_<;>intro h3
  ·refine zR7 ?_
   refine jr rfl ln (by repeat constructor) (fun w hw=>jo (gi ins (ents.take i) []) _ (ents.getD i default) w hw.rM (by omega)) rfl (fun V81=>bR ?_)
   rw [uZ (by omega) (by assumption)]
   refine aP (i+1,_) (o:=(by show i+1≤_; omega))
  refine zR9 ?_
  rw [xM (by omega) (by simp_all)]
  refine aP (i+1,_) (o:=(by show i+1≤_; omega))
 refine zR7 ?_
 obtain rfl:i=ents.length:=by omega
 rw [List.take_length]
 refine dQ (l':=pS ins ents ((ts.map (·.data)).take 0)) rfl (zR5 ?_)
 refine cT (ι:=Nat × Value) (fun ⟨k,Vo⟩=>k≤ts.length) (fun _=>_) (fun ⟨k,Vo⟩=>[rowE Vo 23 aa (pS ins ents ((ts.map (·.data)).take k)),cellE b1 [VI,VE,VU,VB] 69]) (fun ⟨k,Vo⟩=>[(7,.int .i64 (k:Nat)),(5,Vo)]) (fun ⟨k,Vo⟩=>ts.length - k) (0,_) (Nat.zero_le _) (Front.c (Front.c Front.nil)) (fun i hi m hm=>?_)
 obtain ⟨k,Vo⟩:=i
 dsimp only at hi hm
 conv=>enter [3]; dsimp only
 conv=>enter [4,1]; dsimp only
 refine zR9 ?_
 refine ab rfl ?_ ?_<;>intro h4
 ·refine zR5 ?_
  have hkj:Sl (Bg.of w).blk aa (ts.getD k default).data (.slice (ts.getD k default).dp (ts.getD k default).data.length (ts.getD k default).dc):=hTI' _ (ba (by omega))
  have hkjb:=hTB.2 _ (ba (l:=ts) (k:=k) (by omega))
  have hdm:(ts.map (·.data)).getD k default=(ts.getD k default).data:=by
   simp only [List.getD_eq_getElem?_getD,List.getElem?_map]
   cases ts[k]?<;>rfl
  have hrl:=JO ins ents ((ts.map (·.data)).take k) 64 (fun t ht=>by
   obtain ⟨r,hr,rfl⟩:=List.mem_map.1 (List.mem_of_mem_take ht)
   exact hTB.2 r hr)
  rw [List.length_take,List.length_map] at hrl
  have hrm:min k ts.length * 64≤700 * 64:=Nat.mul_le_mul_right _ (by omega)
  refine dQ (l':=gi ins ((ts.getD k default).data.take 0) (pS ins ents ((ts.map (·.data)).take k))) rfl (zR5 ?_)
  refine cT (ι:=Nat × Value) (fun ⟨j,Vo⟩=>j≤(ts.getD k default).data.length) (fun _=>_) (fun ⟨j,Vo⟩=>[rowE Vo 23 aa (gi ins ((ts.getD k default).data.take j) (pS ins ents ((ts.map (·.data)).take k))),cellE b1 [VI,VE,VU,VB] 69]) (fun ⟨j,Vo⟩=>[(8,.int .i64 (j:Nat)),(5,Vo)]) (fun ⟨j,Vo⟩=>(ts.getD k default).data.length - j) (0,_) (Nat.zero_le _) (Front.c (Front.c Front.nil)) (fun i hi m hm=>?_)
  obtain ⟨j,Vo⟩:=i
  dsimp only at hi hm
  conv=>enter [3]; dsimp only
  conv=>enter [4,1]; dsimp only
  have hefl:=lQ ins ((ts.getD k default).data.take j) (pS ins ents ((ts.map (·.data)).take k))
  rw [List.length_take] at hefl
  refine df ?_
  refine ab rfl ?_ ?_<;>intro h5
  ·refine zR5 ?_
   refine eU ah (zT8 ?_)
   refine aw (aK rfl (fun w hw=>mA ins ((ts.getD k default).data.getD j default) VI VE VU VB w (hw.slF hI'))) (zT2 ?_)
   refine ab rfl ?_ ?_<;>intro h6
   ·refine zR9 ?_
    refine jr rfl ln (by repeat constructor) (fun w hw=>jo (gi ins ((ts.getD k default).data.take j) (pS ins ents ((ts.map (·.data)).take k))) _ ((ts.getD k default).data.getD j default) w hw.rM (by omega)) rfl (fun V82=>bR ?_)
    rw [uZ (by omega) (by assumption)]
    refine aP (j+1,_) (o:=(by show j+1≤_; omega))
   refine zR9 ?_
   rw [xM (by omega) (by simp_all)]
   refine aP (j+1,_) (o:=(by show j+1≤_; omega))
  refine df ?_
  obtain rfl:j=(ts.getD k default).data.length:=by omega
  rw [List.take_length,← hdm,G6 (by rw [List.length_map]; omega)]
  refine aP (k+1,_) (o:=(by show k+1≤_; omega))
 refine df ?_
 refine aM results130 rfl (fun w' hw=>?_)
 have e:(pS ins ents ((ts.map (·.data)).take k))=jR ins ents (ts.map (·.data)):=by rw [List.take_of_length_le (by rw [List.length_map]; omega),LI]
 rw [e] at hw
 exact ⟨_,rfl,hw.b0,hw.new (.head _)⟩
theorem JJ (l:List SecV) (pV:Option Addr) (cV:Nat) (es:List UInt32) (VE:Value) (ts:List TabV) (at_:List UInt32) (pt pa:Option Addr) (ct ca:Nat) (w:World) (hV:Sl (hp w) bP l (.slice pV l.length cV)) (hB:SecB l) (hD:DataIn (hp w) l) (hN:∀ s∈l,s.name.size≤140737488351232) (hE:Sl (hp w) aa es VE) (hT:Sl (hp w) dU ts (.slice pt ts.length ct)) (hTI:TabIn (hp w) ts) (hTB:nf ts) (hP:Sl (hp w) aa at_ (.slice pa at_.length ca)) (ht:totD l≤600) (hel:es.length≤100) :
  Calls prog 67 #[(.slice pV l.length cV),VE,.agg #[.slice pt ts.length ct,.slice pa at_.length ca]] w (fun e w'=>∃ i:(Value × Value × Value × Value × Value × Value) × (CodeP × FndV × Int) × List (RV UInt32),e=.returned ((fun i:(Value × Value × Value × Value × Value × Value) × (CodeP × FndV × Int) × List (RV UInt32)=>.tuple #[.agg #[i.1.1,i.1.2.1,i.1.2.2.1,i.1.2.2.2.1],.agg #[i.1.2.2.2.2.1,i.1.2.2.2.2.2],.int .i64 i.2.1.2.2]) i)∧Below w.heap.size w w'∧NewEnts w w' ((fun i:(Value × Value × Value × Value × Value × Value) × (CodeP × FndV × Int) × List (RV UInt32)=>rowE i.1.1 36 al i.2.1.1.ins :: rowE i.1.2.1 23 aa i.2.1.1.ents :: rowE i.1.2.2.1 23 aa i.2.1.1.unk :: rowE i.1.2.2.2.1 23 aa i.2.1.1.bad :: rowE i.1.2.2.2.2.1 31 bX i.2.2 :: rowE i.1.2.2.2.2.2 23 aa i.2.1.2.1.at_ :: i.2.2.map (rvE 23 aa)) i)∧(fun i:(Value × Value × Value × Value × Value × Value) × (CodeP × FndV × Int) × List (RV UInt32)=>RoundIs l es ts at_ i.2.1∧i.2.2.map (·.data)=i.2.1.2.1.ts) i):=by
 have hV0:Sl (Bg.of0 w).blk bP l (.slice pV l.length cV):=hV
 have hD0:DataIn (Bg.of0 w).blk l:=hD
 have hE0:Sl (Bg.of0 w).blk aa es VE:=hE
 have hT0:Sl (Bg.of0 w).blk dU ts (.slice pt ts.length ct):=hT
 have hTI0:TabIn (Bg.of0 w).blk ts:=hTI
 have hP0:Sl (Bg.of0 w).blk aa at_ (.slice pa at_.length ca):=hP
 refine lP func67 rfl ntmps67 rfl (zR2 ?_)
 refine bJ rfl rfl (fun b1=>?_)
 refine bH fc rfl (fun b2=>?_)
 refine bH kV rfl (fun b3=>cj ?_)
 refine dE (fun i:((Value × Value × Value × Value) × CodeP × Int)=>.tuple #[.agg #[i.1.1,i.1.2.1,i.1.2.2.1,i.1.2.2.2],.int .i64 i.2.2]) (fun i:((Value × Value × Value × Value) × CodeP × Int)=>[rowE i.1.1 36 al i.2.1.ins,rowE i.1.2.1 23 aa i.2.1.ents,rowE i.1.2.2.1 23 aa i.2.1.unk,rowE i.1.2.2.2 23 aa i.2.1.bad]) (ok:=fun i=>WalkIs l ts at_ es i.2.1 i.2.2) rfl rfl call128 (fun w hw=>GR l ts at_ es _ VE _ _ w (hw.slF hV0) hB (hD0.mono hw.bg) hN (hw.slF hE0) (hw.slF hT0) (hTI0.mono hw.bg) hTB (hw.slF hP0) ht hel) rfl (fun i hwk=>?_)
 obtain ⟨⟨Vi,Ve,Vu,Vb⟩,c,ew⟩:=i
 replace hwk:WalkIs l ts at_ es c ew:=hwk
 have hcl:=wa hTB hwk
 change Tr _ _ [rowE Vi 36 al c.ins,rowE Ve 23 aa c.ents,rowE Vu 23 aa c.unk,rowE Vb 23 aa c.bad,cellE b3 [nS,nS] 136,cellE b2 [nS,nS,nS,nS] 69,cellE b1 [.slice pt ts.length ct,.slice pa at_.length ca] 136] _ _
 refine eV (V:=Vi) (fun pVi cVi hpv=>?_)
 subst hpv
 refine eV (V:=Ve) (fun pVe cVe hpv=>?_)
 subst hpv
 refine eV (V:=Vu) (fun pVu cVu hpv=>?_)
 subst hpv
 refine eV (V:=Vb) (fun pVb cVb hpv=>?_)
 subst hpv
 refine zR3 ?_
 refine bH fc rfl (fun b4=>?_)
 refine zz8 rfl rfl cB ?_
 refine bR ?_
 refine ab rfl ?_ ?_<;>intro h5
 ·have hqw:=h5
  refine bB (ay 36 al ?_)
  refine ay 23 aa ?_
  refine ay 23 aa ?_
  refine ay 23 aa ?_
  refine ay 23 aa ?_
  refine ay 31 (bX (α:=UInt32)) (cC ?_)
  refine zz0 (aI (vs:=[]) rfl rfl (kg)) ?_
  refine zz0 (aI (vs:=[]) rfl rfl (vl)) (zz0 (af rfl) ?_)
  refine zz8 rfl rfl cB ?_
  refine zz8 rfl rfl iw ?_
  refine zR5 ?_
  refine wn results67 rfl rfl rfl (by repeat constructor) (by repeat constructor) ii cB (by rfl) isAgg136 iw (by rfl) (fun w' hw=>?_)
  exact ⟨((nS,nS,nS,nS,nS,nS),(⟨[],[],[],[]⟩,⟨[],[]⟩,ew),[]),rfl,hw.below0 (Bg.le.refl _),hw.ents0 rfl (by repeat' (first|exact Pick.refl _|exact Del.here _|apply Pick.cons|apply Del.there|apply Pick.skip|exact Pick.nil _)),⟨c,ew,hwk,by rw [if_pos hqw]⟩,rfl⟩
 have hqw:ew=0:=by simpa using h5
 refine zR3 ?_
 obtain ⟨R,hR⟩:∃ R,R=gC c.ins c.ents c.unk c.bad:=⟨_,rfl⟩
 have hkl:=vN c.ins c.ents c.unk c.bad
 rw [← hR] at hkl
 have hRb:R.bad=c.bad:=by rw [hR]; rfl
 have hkI:∀ x∈R.kept,InsOK x:=fun x hx=>qu hwk x (EZ (by rw [← hR]; exact hx))
 refine zR2 ?_
 refine jh (fun i:(Value × Value × Value × Value)=>.tuple #[.agg #[i.1,i.2.1,i.2.2.1,.slice pVb c.bad.length cVb],i.2.2.2]) (fun i:(Value × Value × Value × Value)=>[rowE i.1 36 al R.kept,rowE i.2.1 23 aa R.ents,rowE i.2.2.1 23 aa R.unk,rowE i.2.2.2 23 aa R.rem]) (ok:=fun _=>True) rfl call129 (fun w hw=>(Am c.ins c.ents c.unk c.bad _ _ _ _ w hw.rM hw.rM hw.rM hw.rM (qu hwk) (by omega) (by omega) (by omega)).mono fun e w' ⟨i,q1,q2,q3⟩=>⟨i,q1,q2,by rw [hR,Of]; exact q3,trivial⟩) rfl (fun i5 _=>?_)
 obtain ⟨Ki,Ke,Ku,Kr⟩:=i5
 change Tr _ _ (rowE Ki 36 al R.kept :: rowE Ke 23 aa R.ents :: rowE Ku 23 aa R.unk :: rowE Kr 23 aa R.rem :: _) _ _
 refine eV (V:=Ki) (fun pKi cKi hpv=>?_)
 subst hpv
 refine eV (V:=Ke) (fun pKe cKe hpv=>?_)
 subst hpv
 refine eV (V:=Ku) (fun pKu cKu hpv=>?_)
 subst hpv
 refine zR3 ?_
 refine bH fc rfl (fun b6=>?_)
 refine zz8 rfl rfl cB ?_
 refine zR8 ?_
 refine cE rfl call130 (fun w hw=>JL R.kept R.ents ts _ _ _ _ _ w hw.rM hw.rM (hw.slF hT0) (hTI0.mono hw.bg) hTB (by omega)) rfl (fun V7=>?_)
 obtain ⟨rts,hrts⟩:∃ rts,rts=jR R.kept R.ents (ts.map (·.data)):=⟨_,rfl⟩
 rw [← hrts]
 have hrl:rts.length≤490700:=by
  rw [hrts]
  refine A3 (by omega) (fun t ht=>?_) (by rw [List.length_map]; exact hTB.1)
  obtain ⟨r,hr,rfl⟩:=List.mem_map.1 ht
  have:=hTB.2 r hr; omega
 refine mN ?_
 refine ay 198 (bX (α:=StV)) ?_
 refine cT (ι:=Nat × Bg × List (RV StV) × Value) (fun ⟨k,G,ss,Vs⟩=>((k≤rts.length∧(Bg.of0 w).le G)∧RvIn bY G.blk ss)∧ss.map (·.data)=kh R.kept (rts.take k)∧me R.kept (rts.take k)=0) (fun ⟨k,G,ss,Vs⟩=>G) (fun ⟨k,G,ss,Vs⟩=>[rowE Vs 198 bX ss,rowE V7 23 aa rts,cellE b6 [.slice pKi R.kept.length cKi,.slice pKe R.ents.length cKe,.slice pKu R.unk.length cKu,.slice pVb c.bad.length cVb] 69,rowE (.slice pKi R.kept.length cKi) 36 al R.kept,rowE (.slice pKe R.ents.length cKe) 23 aa R.ents,rowE (.slice pKu R.unk.length cKu) 23 aa R.unk,rowE (.slice pVb c.bad.length cVb) 23 aa c.bad,cellE b2 [nS,nS,nS,nS] 69,cellE b3 [nS,nS] 136]) (fun ⟨k,G,ss,Vs⟩=>[(15,.int .i64 (k:Nat)),(14,Vs)]) (fun ⟨k,G,ss,Vs⟩=>rts.length - k) (0,_,[],_) ⟨⟨⟨Nat.zero_le _,Bg.le.refl _⟩,fun t ht=>by cases ht⟩,rfl,rfl⟩ (Front.c (Front.c Front.nil)) (fun i hi m hm=>?_)
 obtain ⟨k,G,ss,Vs⟩:=i
 dsimp only at hi hm
 change Tr _ (G) [rowE Vs 198 bX ss,rowE V7 23 aa rts,cellE b6 [.slice pKi R.kept.length cKi,.slice pKe R.ents.length cKe,.slice pKu R.unk.length cKu,.slice pVb c.bad.length cVb] 69,rowE (.slice pKi R.kept.length cKi) 36 al R.kept,rowE (.slice pKe R.ents.length cKe) 23 aa R.ents,rowE (.slice pKu R.unk.length cKu) 23 aa R.unk,rowE (.slice pVb c.bad.length cVb) 23 aa c.bad,cellE b2 [nS,nS,nS,nS] 69,cellE b3 [nS,nS] 136] ([(15,.int .i64 (k:Nat)),(14,Vs)] ++ _) _
 obtain ⟨⟨⟨hk,hG⟩,hss⟩,hks1,hks0⟩:=hi
 have hsl:ss.length=min k rts.length:=by have:=congrArg List.length hks1; rw [List.length_map] at this; rw [this]; unfold kh; rw [List.length_map,List.length_take]
 refine zR9 ?_
 refine ab rfl ?_ ?_<;>intro h8
 ·refine zR5 ?_
  refine bC ([cellE b6 [.slice pKi R.kept.length cKi,.slice pKe R.ents.length cKe,.slice pKu R.unk.length cKu,.slice pVb c.bad.length cVb] 69,rowE V7 23 aa rts,rowE (.slice pKi R.kept.length cKi) 36 al R.kept]) 12 rfl ah ?_
  refine tX 12 ?_
  repeat' (first
   | refine q9.cons ?_ ?_
   | exact q9.nil
   | (refine gu 6 ?_; refine iY rfl ?_; refine eT (fun V=>.tuple #[V,.int .i64 (cg R.kept (rts.getD k default) 4096).2]) rfl call131 (fun w hw=>Gf R.kept _ (rts.getD k default) 4096 w hw.rM hkI (by omega)) rfl (fun VA=>?_); refine lA ?_)
   | (refine bI 0 ?_; refine eP 0 rfl (bE rfl) ?_)
   | (refine bI 1 ?_; refine eP 1 rfl (iF rfl) ?_)
   | (refine bI 3 ?_; refine eP 2 rfl (af rfl) ?_)
   | (refine bI 7 ?_; refine eP 3 rfl (af rfl) ?_)
   | (refine bI 15 ?_; refine eP 4 rfl (iG rfl rfl) ?_)
   | (refine bI 31 ?_; refine eP 5 rfl (mm rfl) ?_)
   | (refine bI 127 ?_; refine eP 7 rfl (af rfl) ?_)
   | (refine bI 255 ?_; refine eP 8 rfl (fJ rfl rfl) ?_)
   | (refine bI 511 ?_; refine eP 9 rfl (fJ rfl rfl) ?_)
   | (refine bI 1023 ?_; refine eP 10 rfl (cD rfl) ?_)
   | (refine bI 2047 ?_; refine eP 11 rfl (cD rfl) ?_)
   | (refine bI 63 ?_; refine jN [6] ?_)
   | (
    refine bI 4095 ?_
    refine om (by kernel_rfl) (zR8 ?_)
    refine ab rfl ?_ ?_<;>intro h9
    ·have hqe:=h9
     refine bB (ay 36 al ?_)
     refine ay 23 aa ?_
     refine ay 23 aa ?_
     refine ay 23 aa ?_
     refine ay 23 aa ?_
     refine ay 31 (bX (α:=UInt32)) (cC ?_)
     refine zz0 (aI (vs:=[]) rfl rfl (kg)) ?_
     refine zz0 (aI (vs:=[]) rfl rfl (vl)) (zz0 (af rfl) ?_)
     refine zz8 rfl rfl cB ?_
     refine zz8 rfl rfl iw ?_
     refine bR ?_
     refine wn results67 rfl rfl rfl (by repeat constructor) (by repeat constructor) ii cB (by rfl) isAgg136 iw (by rfl) (fun w' hw=>?_)
     have h1:=qc hks0 (by omega:k<rts.length)
     have hee:me R.kept rts=(cg R.kept (rts.getD k default) 4096).2:=by rw [zn (k:=k+1) (by rw [h1]; exact hqe),h1]
     exact ⟨((nS,nS,nS,nS,nS,nS),(⟨[],[],[],[]⟩,⟨[],[]⟩,(cg R.kept (rts.getD k default) 4096).2),[]),rfl,hw.below0 hG,hw.ents0 hG.lo (by repeat' (first|exact Pick.refl _|exact Del.here _|apply Pick.cons|apply Del.there|apply Pick.skip|exact Pick.nil _)),⟨c,ew,hwk,by rw [if_neg (fun q=>q hqw),yw hR (by rw [← hrts,hee]; exact hqe),← hrts,hee]⟩,rfl⟩
    ·have hqe:(cg R.kept (rts.getD k default) 4096).2=0:=by simpa using h9
     refine zR2 ?_
     have hek:me R.kept (rts.take (k+1))=0:=by
      rw [qc hks0 (by omega)]; exact hqe
     refine eV (V:=VA) (fun pA cA hpv=>?_)
     subst hpv
     refine kw (V:=.slice pA (cg R.kept (rts.getD k default) 4096).1.length cA) (T:=28) (E:=bY) (by repeat constructor) (fun G2 hG2 hA2=>zR3 ?_)
     refine fM (E:=(bX (α:=StV))) (⟨(cg R.kept (rts.getD k default) 4096).1,pA,cA⟩:RV StV) rfl rfl underlying197 sizeOf198 zeroValue198 (fun V10=>?_)
     refine zz3 rfl rfl underlying197 GL (fun V11=>?_)
     refine bR ?_
     apply dn (k+1,G2,ss ++ [⟨(cg R.kept (rts.getD k default) 4096).1,pA,cA⟩],_)
     ·exact rfl
     ·exact (Front.c (Front.c Front.nil))
     ·exact zz9 28 rfl
     ·exact (by repeat' constructor)
     ·exact ⟨⟨⟨by omega,hG.trans hG2⟩,fun t ht=>by
      rcases List.mem_append.1 ht with ht|ht
      ·exact (hss t ht).mono hG2.blk
      ·rw [List.mem_singleton.1 ht]; exact hA2⟩,by rw [List.map_append,hks1,wB (by omega)]; rfl,hek⟩
     ·exact (by (try dsimp only); omega)
    )
   )
 refine zR6 ?_
 obtain rfl:k=rts.length:=by omega
 rw [List.take_length] at hks1 hks0
 have hVG:=hV0.mono hG.blk
 have hDG:=hD0.mono hG.blk
 refine cC (bH kV rfl (fun b12=>zR9 ?_))
 refine ay 31 (bX (α:=UInt32)) ?_
 refine ay 23 aa ?_
 refine cT (ι:=Nat × List (RV UInt32) × List UInt32 × Value × Value) (fun ⟨k,rs,at2,Vt,Vp⟩=>k≤R.kept.length∧(⟨rs.map (·.data),at2⟩:FndV)=(oe l R.kept (ss.map (·.data)) (R.kept.take k))) (fun _=>G) (fun ⟨k,rs,at2,Vt,Vp⟩=>(cellE b12 [Vt,Vp] 136 :: rowE Vt 31 bX rs :: rowE Vp 23 aa at2 :: rowE Vs 198 bX ss :: cellE b6 [.slice pKi R.kept.length cKi,.slice pKe R.ents.length cKe,.slice pKu R.unk.length cKu,.slice pVb c.bad.length cVb] 69 :: rowE (.slice pKi R.kept.length cKi) 36 al R.kept :: rowE (.slice pKe R.ents.length cKe) 23 aa R.ents :: rowE (.slice pKu R.unk.length cKu) 23 aa R.unk :: rowE (.slice pVb c.bad.length cVb) 23 aa c.bad :: cellE b2 [nS,nS,nS,nS] 69 :: cellE b3 [nS,nS] 136 :: (rs.map (rvE 23 aa) ++ []))) (fun ⟨k,rs,at2,Vt,Vp⟩=>[(19,.int .i64 (k:Nat))]) (fun ⟨k,rs,at2,Vt,Vp⟩=>R.kept.length - k) (0,[],[],_,_) ⟨Nat.zero_le _,rfl⟩ (Front.c Front.nil) (hL:=(by repeat' (first|exact Pick.refl _|exact Del.here _|apply Pick.cons|apply Del.there|apply Pick.skip|exact Pick.nil _))) (fun i hi m hm=>?_)
 obtain ⟨k,rs,at2,Vt,Vp⟩:=i
 dsimp only at hi hm
 conv=>enter [3]; dsimp only
 conv=>enter [4,1]; dsimp only
 obtain ⟨hk,hfa⟩:=hi
 refine bR ?_
 refine ab rfl ?_ ?_<;>intro h13
 ·refine zR2 ?_
  have hkw:=KN hks0 (i:=k) (by omega)
  rw [← hks1] at hkw
  refine gX (ι:=List (RV UInt32) × List UInt32 × Value × Value) (fun ⟨rs3,at3,Vt3,Vp3⟩=>(⟨rs3.map (·.data),at3⟩:FndV)=kM l R.kept (ss.map (·.data)) ⟨rs.map (·.data),at2⟩ (R.kept.getD k default)) (fun _=>G) (fun ⟨rs3,at3,Vt3,Vp3⟩=>(cellE b12 [Vt3,Vp3] 136 :: rowE Vt3 31 bX rs3 :: rowE Vp3 23 aa at3 :: rowE Vs 198 bX ss :: cellE b6 [.slice pKi R.kept.length cKi,.slice pKe R.ents.length cKe,.slice pKu R.unk.length cKu,.slice pVb c.bad.length cVb] 69 :: rowE (.slice pKi R.kept.length cKi) 36 al R.kept :: rowE (.slice pKe R.ents.length cKe) 23 aa R.ents :: rowE (.slice pKu R.unk.length cKu) 23 aa R.unk :: rowE (.slice pVb c.bad.length cVb) 23 aa c.bad :: cellE b2 [nS,nS,nS,nS] 69 :: cellE b3 [nS,nS] 136 :: (rs3.map (rvE 23 aa) ++ []))) (fun ⟨rs3,at3,Vt3,Vp3⟩=>[]) ?_ (fun i hi=>?_)
  ·skip
   refine zR9 ?_
   refine zz0 (aK rfl (fun w hw=>Bo (R.kept.getD k default) w (hkI _ (ba (by omega))))) (zR3 ?_)
   refine ab rfl ?_ ?_<;>intro h14
   ·have hqi:ow (R.kept.getD k default)=false:=h14
    refine zR4 ?_
    refine aT (_,_,_,_) (hL:=(by repeat' (first|exact Pick.refl _|exact Del.here _|apply Pick.cons|apply Del.there|apply Pick.skip|exact Pick.nil _))) (o:=(by show _=_; first|exact (mc hqi).symm|(rw [← nH hkw,vV hbf2 hqt])|(rw [← nH hkw,tL hqi hbf2 hqt]; simp)))
   have hqi:ow (R.kept.getD k default)=true:=by simpa using h14
   refine nz (zz0 (ak rfl KD) ?_)
   refine bH cN rfl (fun b15=>bR ?_)
   refine cT (ι:=Nat × StV) (fun ⟨q,b⟩=>q≤ss.length∧b=(wk R.kept (R.kept.getD k default).addr ((ss.map (·.data)).take q))) (fun _=>G) (fun ⟨q,b⟩=>(cellE b15 (bY.enc b) 28 :: cellE b12 [Vt,Vp] 136 :: rowE Vt 31 bX rs :: rowE Vp 23 aa at2 :: rowE Vs 198 bX ss :: cellE b6 [.slice pKi R.kept.length cKi,.slice pKe R.ents.length cKe,.slice pKu R.unk.length cKu,.slice pVb c.bad.length cVb] 69 :: rowE (.slice pKi R.kept.length cKi) 36 al R.kept :: rowE (.slice pKe R.ents.length cKe) 23 aa R.ents :: rowE (.slice pKu R.unk.length cKu) 23 aa R.unk :: rowE (.slice pVb c.bad.length cVb) 23 aa c.bad :: cellE b2 [nS,nS,nS,nS] 69 :: cellE b3 [nS,nS] 136 :: (rs.map (rvE 23 aa) ++ []))) (fun ⟨q,b⟩=>[(21,.int .i64 (q:Nat))]) (fun ⟨q,b⟩=>ss.length - q) (0,gI 8) ⟨Nat.zero_le _,rfl⟩ (Front.c Front.nil) (hL:=(by repeat' (first|exact Pick.refl _|exact Del.here _|apply Pick.cons|apply Del.there|apply Pick.skip|exact Pick.nil _))) (fun i hi m hm=>?_)
   obtain ⟨q,b⟩:=i
   dsimp only at hi hm
   conv=>enter [3]; dsimp only
   conv=>enter [4,1]; dsimp only
   obtain ⟨hq,hbf⟩:=hi
   have hgd:((ss.map (·.data))).getD q default=(ss.getD q default).data:=by
    simp only [List.getD_eq_getElem?_getD,List.getElem?_map]
    cases ss[q]?<;>rfl
   refine zR9 ?_
   refine ab rfl ?_ ?_<;>intro h16
   ·refine zR5 ?_
    refine bC ([cellE b6 [.slice pKi R.kept.length cKi,.slice pKe R.ents.length cKe,.slice pKu R.unk.length cKu,.slice pVb c.bad.length cVb] 69,rowE Vs 198 bX ss,rowE (.slice pKi R.kept.length cKi) 36 al R.kept]) 19 rfl ah ?_
    refine tX 19 ?_
    repeat' (first
     | refine q9.cons ?_ ?_
     | exact q9.nil
     | (refine gu 12 ?_; refine iY rfl ?_; refine zz0 (aK rfl (fun w hw=>HW R.kept _ (ss.getD q default).data _ (R.kept.getD k default).addr w hw.rM (hw.slF (hss _ (ba (by omega)))))) ?_; refine lA ?_)
     | (refine gu 16 ?_; refine iY rfl ?_; refine bH cN rfl (fun b17=>?_); refine lA ?_)
     | (refine gu 17 ?_; refine iY rfl ?_; refine cK bY rfl rfl g7 ?_; refine lA ?_)
     | (refine bI 0 ?_; refine eP 0 rfl (bE rfl) ?_)
     | (refine bI 1 ?_; refine eP 1 rfl (iF rfl) ?_)
     | (refine bI 3 ?_; refine eP 2 rfl (af rfl) ?_)
     | (refine bI 7 ?_; refine eP 3 rfl (af rfl) ?_)
     | (refine bI 15 ?_; refine eP 4 rfl (iG rfl rfl) ?_)
     | (refine bI 31 ?_; refine eP 5 rfl (mm rfl) ?_)
     | (refine bI 63 ?_; refine eP 6 rfl (bE rfl) ?_)
     | (refine bI 127 ?_; refine eP 7 rfl (iF rfl) ?_)
     | (refine bI 255 ?_; refine eP 8 rfl (af rfl) ?_)
     | (refine bI 511 ?_; refine eP 9 rfl (iG rfl rfl) ?_)
     | (refine bI 1023 ?_; refine eP 10 rfl (bE rfl) ?_)
     | (refine bI 2047 ?_; refine NI 11 rfl (by kernel_rfl) (aY (eF (aY (aY (eF (aY (eF (aY (aY (eF (aY cX))))))))))) (sW rfl (by repeat constructor) co (by omega) (by rfl)) ?_)
     | (refine bI 8191 ?_; refine eP 13 rfl (af rfl) ?_)
     | (refine bI 16383 ?_; refine eP 14 rfl (fJ rfl rfl) ?_)
     | (refine bI 32767 ?_; refine eP 15 rfl (fJ rfl rfl) ?_)
     | (refine bI 262143 ?_; refine eP 18 rfl (cD rfl) ?_)
     | (refine bI 73727 ?_; refine eP 13 rfl (af rfl) ?_)
     | (refine bI 81919 ?_; refine eP 14 rfl (fJ rfl rfl) ?_)
     | (refine bI 98303 ?_; refine eP 15 rfl (fJ rfl rfl) ?_)
     | (refine bI 4095 ?_; refine jN [12,16] ?_)
     | (refine bI 65535 ?_; refine jN [16] ?_)
     | (refine bI 131071 ?_; refine jN [17] ?_)
     | (refine bI 69631 ?_; refine jN [12] ?_)
     | (
      refine bI 524287 ?_
      refine om (by kernel_rfl) (zR4 ?_)
      refine zz0 (ak rfl (qQ _ _)) (bR ?_)
      apply dn (q+1,gr b (eR R.kept (ss.getD q default).data (R.kept.getD k default).addr).1 8)
      ·exact rfl
      ·exact (Front.c Front.nil)
      ·exact zz9 29 rfl
      ·exact (by repeat' (first|exact Pick.refl _|exact Del.here _|apply Pick.cons|apply Del.there|apply Pick.skip|exact Pick.nil _))
      ·exact ⟨by omega,by rw [KO (by rw [List.length_map]; omega),← hbf,hgd]⟩
      ·exact (by (try dsimp only); omega)
      )
     )
   refine zR6 ?_
   obtain rfl:q=ss.length:=by omega
   have hbf2:b=wk R.kept (R.kept.getD k default).addr (ss.map (·.data)):=by rw [hbf,List.take_of_length_le (by rw [List.length_map]; exact Nat.le_refl _)]
   refine bC ([cellE b6 [.slice pKi R.kept.length cKi,.slice pKe R.ents.length cKe,.slice pKu R.unk.length cKu,.slice pVb c.bad.length cVb] 69,rowE (.slice pKi R.kept.length cKi) 36 al R.kept,cellE b15 (bY.enc b) 28]) 13 rfl ah ?_
   refine tX 13 ?_
   repeat' (first
    | refine q9.cons ?_ ?_
    | exact q9.nil
    | (refine gu 7 ?_; refine iY rfl ?_; refine eT (fun V=>.tuple #[V,.int .i64 (aQ l (R.kept.getD k default) (b.get (R.kept.getD k default).a)).2]) rfl call21 (fun w hw=>D6 l (.slice pV l.length cV) (R.kept.getD k default) b w (hw.slF hVG) hB (hDG.mono hw.bg) hN (hkI _ (ba (by omega)))) rfl (fun VJ=>?_); refine lA ?_)
    | (refine bI 0 ?_; refine eP 0 rfl (af rfl) ?_)
    | (refine bI 1 ?_; refine eP 1 rfl (bE rfl) ?_)
    | (refine bI 3 ?_; refine eP 2 rfl (iF rfl) ?_)
    | (refine bI 7 ?_; refine eP 3 rfl (af rfl) ?_)
    | (refine bI 15 ?_; refine eP 4 rfl (iG rfl rfl) ?_)
    | (refine bI 31 ?_; refine eP 5 rfl (wy rfl) ?_)
    | (refine bI 63 ?_; refine eP 6 rfl (cF rfl) ?_)
    | (refine bI 255 ?_; refine eP 8 rfl (af rfl) ?_)
    | (refine bI 511 ?_; refine eP 9 rfl (fJ rfl rfl) ?_)
    | (refine bI 1023 ?_; refine eP 10 rfl (fJ rfl rfl) ?_)
    | (refine bI 2047 ?_; refine eP 11 rfl (cD rfl) ?_)
    | (refine bI 4095 ?_; refine eP 12 rfl (cD rfl) ?_)
    | (refine bI 127 ?_; refine jN [7] ?_)
    | (
     refine bI 8191 ?_
     refine om (by kernel_rfl) (zR7 ?_)
     refine ab rfl ?_ ?_<;>intro h18
     ·have hqt:(aQ l (R.kept.getD k default) (b.get (R.kept.getD k default).a)).2=0:=h18
      refine bB (eV (V:=VJ) (fun pJ cJ hpv=>?_))
      subst hpv
      have htl:(aQ l (R.kept.getD k default) (b.get (R.kept.getD k default).a)).1.length≤64:=rz
      have hfl:=vX l R.kept (ss.map (·.data)) (R.kept.take k)
      rw [List.length_take] at hfl
      have hrsl:rs.length=(oe l R.kept (ss.map (·.data)) (R.kept.take k)).ts.length:=by rw [← hfa]; simp
      have hatl:at2.length=(oe l R.kept (ss.map (·.data)) (R.kept.take k)).at_.length:=by rw [← hfa]
      refine zM (A:=[cellE b15 (bY.enc b) 28,cellE b12 [Vt,Vp] 136,rowE Vt 31 bX rs,rowE Vp 23 aa at2,rowE Vs 198 bX ss,cellE b6 [.slice pKi R.kept.length cKi,.slice pKe R.ents.length cKe,.slice pKu R.unk.length cKu,.slice pVb c.bad.length cVb] 69,rowE (.slice pKi R.kept.length cKi) 36 al R.kept,rowE (.slice pKe R.ents.length cKe) 23 aa R.ents,rowE (.slice pKu R.unk.length cKu) 23 aa R.unk,rowE (.slice pVb c.bad.length cVb) 23 aa c.bad,cellE b2 [nS,nS,nS,nS] 69,cellE b3 [nS,nS] 136]) (f:=(rvE 23 aa)) (rs:=rs) (⟨(aQ l (R.kept.getD k default) (b.get (R.kept.getD k default).a)).1,pJ,cJ⟩:RV UInt32) ?_
      change Tr _ _ (cellE b15 (bY.enc b) 28 :: cellE b12 [Vt,Vp] 136 :: rowE Vt 31 bX rs :: rowE Vp 23 aa at2 :: rowE Vs 198 bX ss :: cellE b6 [.slice pKi R.kept.length cKi,.slice pKe R.ents.length cKe,.slice pKu R.unk.length cKu,.slice pVb c.bad.length cVb] 69 :: rowE (.slice pKi R.kept.length cKi) 36 al R.kept :: rowE (.slice pKe R.ents.length cKe) 23 aa R.ents :: rowE (.slice pKu R.unk.length cKu) 23 aa R.unk :: rowE (.slice pVb c.bad.length cVb) 23 aa c.bad :: cellE b2 [nS,nS,nS,nS] 69 :: cellE b3 [nS,nS] 136 :: ((rs ++ [(⟨(aQ l (R.kept.getD k default) (b.get (R.kept.getD k default).a)).1,pJ,cJ⟩:RV UInt32)]).map (rvE 23 aa) ++ [])) _ _
      refine bC ([cellE b6 [.slice pKi R.kept.length cKi,.slice pKe R.ents.length cKe,.slice pKu R.unk.length cKu,.slice pVb c.bad.length cVb] 69,rowE (.slice pKi R.kept.length cKi) 36 al R.kept]) 12 rfl ah ?_
      refine tX 12 ?_
      repeat' (first
       | refine q9.cons ?_ ?_
       | exact q9.nil
       | (refine gu 1 ?_; refine iY rfl ?_; refine zz0 (iF rfl) ?_; refine lA ?_)
       | (refine gu 8 ?_; refine iY rfl ?_; refine fM (E:=aa) (R.kept.getD k default).addr rfl rfl am ar bj (fun V19=>?_); refine lA ?_)
       | (refine gu 9 ?_; refine iY rfl ?_; refine zz3 rfl rfl am cp (fun V20=>?_); refine cn (.head _) (fun py cy hpy=>?_); subst hpy; refine lA ?_)
       | (refine gu 11 ?_; refine iY rfl ?_; refine zz1 (cs':=[_,_]) rfl rfl eS rfl ?_; refine lA ?_)
       | (refine bI 0 ?_; refine eP 0 rfl (bE rfl) ?_)
       | (refine bI 1 ?_; refine eP 2 rfl (bE rfl) ?_)
       | (refine bI 5 ?_; refine eP 3 rfl (iF rfl) ?_)
       | (refine bI 13 ?_; refine eP 4 rfl (af rfl) ?_)
       | (refine bI 29 ?_; refine eP 5 rfl (iG rfl rfl) ?_)
       | (refine bI 61 ?_; refine eP 6 rfl (bE rfl) ?_)
       | (refine bI 125 ?_; refine NI 7 rfl (by kernel_rfl) (aY (eF (aY (aY (eF (aY cX)))))) (sW rfl (by repeat constructor) co (by omega) (by rfl)) ?_)
       | (refine bI 1023 ?_; refine eP 10 rfl (bE rfl) ?_)
       | (refine bI 253 ?_; refine jN [1,8] ?_)
       | (refine bI 255 ?_; refine jN [8] ?_)
       | (refine bI 511 ?_; refine jN [9] ?_)
       | (refine bI 2047 ?_; refine jN [11] ?_)
       | (refine bI 509 ?_; refine jN [1] ?_)
       | (
        refine bI 4095 ?_
        refine om (by kernel_rfl) (zR5 ?_)
        refine fM (E:=(bX (α:=UInt32))) (⟨(aQ l (R.kept.getD k default) (b.get (R.kept.getD k default).a)).1,pJ,cJ⟩:RV UInt32) rfl rfl gz eS oh (fun V21=>?_)
        refine zz3 rfl rfl gz uf (fun V22=>?_)
        refine cn (.head _) (fun pz cz hpz=>?_)
        subst hpz
        refine zz0 (bE rfl) (zz1 (cs':=[_,_]) rfl rfl sizeOf53 rfl ?_)
        refine zR3 ?_
        apply bO (_,_,_,_)
        ·exact rfl
        ·exact Front.nil
        ·exact zz9 47 rfl
        ·exact (by repeat' (first|exact Pick.refl _|exact Del.here _|apply Pick.cons|apply Del.there|apply Pick.skip|exact Pick.nil _))
        ·exact (by show _=_; first|exact (mc hqi).symm|(rw [← nH hkw,vV hbf2 hqt])|(rw [← nH hkw,tL hqi hbf2 hqt]; simp))
        )
       )
     ·have hqt:¬ (aQ l (R.kept.getD k default) (b.get (R.kept.getD k default).a)).2=0:=h18
      refine zR3 ?_
      refine aT (_,_,_,_) (hL:=(by repeat' (first|exact Pick.refl _|exact Del.here _|apply Pick.cons|apply Del.there|apply Pick.skip|exact Pick.nil _))) (o:=(by show _=_; first|exact (mc hqi).symm|(rw [← nH hkw,vV hbf2 hqt])|(rw [← nH hkw,tL hqi hbf2 hqt]; simp)))
     )
    )
  obtain ⟨rs3,at3,Vt3,Vp3⟩:=i
  replace hi:(⟨rs3.map (·.data),at3⟩:FndV)=kM l R.kept (ss.map (·.data)) ⟨rs.map (·.data),at2⟩ (R.kept.getD k default):=hi
  change Tr _ _ (cellE b12 [Vt3,Vp3] 136 :: rowE Vt3 31 bX rs3 :: rowE Vp3 23 aa at3 :: rowE Vs 198 bX ss :: cellE b6 [.slice pKi R.kept.length cKi,.slice pKe R.ents.length cKe,.slice pKu R.unk.length cKu,.slice pVb c.bad.length cVb] 69 :: rowE (.slice pKi R.kept.length cKi) 36 al R.kept :: rowE (.slice pKe R.ents.length cKe) 23 aa R.ents :: rowE (.slice pKu R.unk.length cKu) 23 aa R.unk :: rowE (.slice pVb c.bad.length cVb) 23 aa c.bad :: cellE b2 [nS,nS,nS,nS] 69 :: cellE b3 [nS,nS] 136 :: (rs3.map (rvE 23 aa) ++ [])) ([] ++ _) _
  have hi3:=hi
  refine zR6 ?_
  refine aP (k+1,rs3,at3,Vt3,Vp3) (hL:=(by repeat' (first|exact Pick.refl _|exact Del.here _|apply Pick.cons|apply Del.there|apply Pick.skip|exact Pick.nil _))) (o:=⟨by omega,by rw [zi (by omega),← hfa]; exact hi3⟩)
 refine zR6 ?_
 refine eV (V:=Vt) (fun pVt cVt hpv=>?_)
 subst hpv
 refine eV (V:=Vp) (fun pVp cVp hpv=>?_)
 subst hpv
 refine bC ([cellE b6 [.slice pKi R.kept.length cKi,.slice pKe R.ents.length cKe,.slice pKu R.unk.length cKu,.slice pVb c.bad.length cVb] 69,cellE b12 [.slice pVt rs.length cVt,.slice pVp at2.length cVp] 136]) 5 rfl ah ?_
 refine tX 5 ?_
 repeat' (first
  | refine q9.cons ?_ ?_
  | exact q9.nil
  | (refine gu 2 ?_; refine iY rfl ?_; refine zz8 rfl rfl cB ?_; refine lA ?_)
  | (refine gu 3 ?_; refine iY rfl ?_; refine zz8 rfl rfl iw ?_; refine lA ?_)
  | (refine bI 0 ?_; refine eP 0 rfl (cF rfl) ?_)
  | (refine bI 1 ?_; refine eP 1 rfl (cF rfl) ?_)
  | (refine bI 15 ?_; refine eP 4 rfl (cD rfl) ?_)
  | (refine bI 3 ?_; refine jN [2] ?_)
  | (refine bI 7 ?_; refine jN [3] ?_)
  | (
   refine bI 31 ?_
   refine om (by kernel_rfl) (zR2 ?_)
   refine wn results67 rfl rfl rfl (by repeat constructor) (by repeat constructor) ii cB (by rfl) isAgg136 iw (by rfl) (fun w' hw=>?_)
   obtain rfl:k=R.kept.length:=by omega
   rw [List.take_length] at hfa
   rw [List.append_nil] at hw
   exact ⟨((.slice pKi R.kept.length cKi,.slice pKe R.ents.length cKe,.slice pKu R.unk.length cKu,.slice pVb c.bad.length cVb,.slice pVt rs.length cVt,.slice pVp at2.length cVp),(⟨R.kept,R.ents,R.unk,c.bad⟩,⟨rs.map (·.data),at2⟩,0),rs),rfl,hw.below0 hG,hw.ents0 hG.lo (by repeat' (first|exact Pick.refl _|exact Del.here _|apply Pick.cons|apply Del.there|apply Pick.skip|exact Pick.nil _)),⟨c,ew,hwk,by rw [if_neg (fun q=>q hqw),A2 hR (by rw [← hrts]; exact hks0),← hrts,← hks1,hfa,hRb]⟩,rfl⟩
   )
  )
theorem Es (l:List SecV) (pV:Option Addr) (cV:Nat) (es:List UInt32) (VE:Value) (w:World) (hV:Sl (hp w) bP l (.slice pV l.length cV)) (hB:SecB l) (hD:DataIn (hp w) l) (hN:∀ s∈l,s.name.size≤140737488351232) (hE:Sl (hp w) aa es VE) (ht:totD l≤600) (hel:es.length≤100) :
  Calls prog 25 #[(.slice pV l.length cV),VE] w (fun e w'=>∃ i:(Value × Value × Value × Value × Value × Value) × (CodeP × FndV × Int) × List (RV UInt32),e=.returned ((fun i:(Value × Value × Value × Value × Value × Value) × (CodeP × FndV × Int) × List (RV UInt32)=>.tuple #[.agg #[i.1.1,i.1.2.1,i.1.2.2.1,i.1.2.2.2.1],i.1.2.2.2.2.1,i.1.2.2.2.2.2,.int .i64 i.2.1.2.2]) i)∧Below w.heap.size w w'∧NewEnts w w' ((fun i:(Value × Value × Value × Value × Value × Value) × (CodeP × FndV × Int) × List (RV UInt32)=>rowE i.1.1 36 al i.2.1.1.ins :: rowE i.1.2.1 23 aa i.2.1.1.ents :: rowE i.1.2.2.1 23 aa i.2.1.1.unk :: rowE i.1.2.2.2.1 23 aa i.2.1.1.bad :: rowE i.1.2.2.2.2.1 31 bX i.2.2 :: rowE i.1.2.2.2.2.2 23 aa i.2.1.2.1.at_ :: i.2.2.map (rvE 23 aa)) i)∧(fun i:(Value × Value × Value × Value × Value × Value) × (CodeP × FndV × Int) × List (RV UInt32)=>ResIs l es i.2.1∧i.2.2.map (·.data)=i.2.1.2.1.ts) i):=by
 have hV0:Sl (Bg.of0 w).blk bP l (.slice pV l.length cV):=hV
 have hD0:DataIn (Bg.of0 w).blk l:=hD
 have hE0:Sl (Bg.of0 w).blk aa es VE:=hE
 refine lP func25 rfl ntmps25 rfl (zR2 ?_)
 refine bH fc rfl (fun b1=>zR7 ?_)
 refine bH kV rfl (fun b2=>zR9 ?_)
 refine ay 31 (bX (α:=UInt32)) ?_
 refine ay 23 aa ?_
 refine cT (ι:=Nat × (List (RV UInt32) × Option Addr × Nat) × (List UInt32 × Option Addr × Nat)) (fun ⟨k,⟨r0,pt,ct⟩,⟨at_,pa,ca⟩⟩=>(k≤16∧nf (r0.map fE))∧Rnds l es k ⟨r0.map (·.data),at_⟩) (fun _=>_) (fun ⟨k,⟨r0,pt,ct⟩,⟨at_,pa,ca⟩⟩=>(cellE b2 [.slice pt (r0.map fE).length ct,.slice pa at_.length ca] 136 :: cellE b1 [nS,nS,nS,nS] 69 :: rowE (.slice pt (r0.map fE).length ct) 31 bX r0 :: rowE (.slice pa at_.length ca) 23 aa at_ :: (r0.map (rvE 23 aa) ++ []))) (fun ⟨k,⟨r0,pt,ct⟩,⟨at_,pa,ca⟩⟩=>[(9,.int .i64 (k:Nat))]) (fun ⟨k,⟨r0,pt,ct⟩,⟨at_,pa,ca⟩⟩=>16 - k) (0,([],none,0),([],none,0)) ⟨⟨Nat.zero_le _,⟨Nat.zero_le _,(fun t ht=>by cases ht)⟩⟩,.zero⟩ (Front.c Front.nil) (hL:=(by repeat' (first|exact Pick.refl _|exact Pick.left _ _|exact Pick.right _ _|exact Del.here _|apply Pick.cons|apply Del.there|apply Pick.skip|exact Pick.nil _))) (fun i hi m hm=>?_)
 obtain ⟨k,⟨r0,pt,ct⟩,⟨at_,pa,ca⟩⟩:=i
 dsimp only at hi hm
 conv=>enter [3]; dsimp only
 conv=>enter [4,1]; dsimp only
 obtain ⟨⟨hk,hTB⟩,hRn⟩:=hi
 refine zR7 ?_
 refine ab rfl ?_ ?_<;>intro h3
 ·refine zR9 ?_
  refine dE (fun i:(Value × Value × Value × Value × Value × Value) × (CodeP × FndV × Int) × List (RV UInt32)=>.tuple #[.agg #[i.1.1,i.1.2.1,i.1.2.2.1,i.1.2.2.2.1],.agg #[i.1.2.2.2.2.1,i.1.2.2.2.2.2],.int .i64 i.2.1.2.2]) (fun i:(Value × Value × Value × Value × Value × Value) × (CodeP × FndV × Int) × List (RV UInt32)=>rowE i.1.1 36 al i.2.1.1.ins :: rowE i.1.2.1 23 aa i.2.1.1.ents :: rowE i.1.2.2.1 23 aa i.2.1.1.unk :: rowE i.1.2.2.2.1 23 aa i.2.1.1.bad :: rowE i.1.2.2.2.2.1 31 bX i.2.2 :: rowE i.1.2.2.2.2.2 23 aa i.2.1.2.1.at_ :: i.2.2.map (rvE 23 aa)) (ok:=fun i:(Value × Value × Value × Value × Value × Value) × (CodeP × FndV × Int) × List (RV UInt32)=>RoundIs l es (r0.map fE) at_ i.2.1∧i.2.2.map (·.data)=i.2.1.2.1.ts) rfl rfl call67 (fun w hw=>JJ l pV cV es VE (r0.map fE) at_ _ _ _ _ w (hw.slF hV0) hB (hD0.mono hw.bg) hN (hw.slF hE0) (tw hw.rM) (tz (hw.rvs (T:=23) (fun r hr=>by repeat (first|exact List.mem_append_left _ (List.mem_map.2 ⟨r,hr,rfl⟩)|apply List.Mem.tail)))) hTB hw.rM ht hel) rfl (fun i hri=>?_)
  obtain ⟨⟨Wi,We,Wu,Wb,Wt,Wp⟩,o,rs⟩:=i
  obtain ⟨hro,hrs⟩:RoundIs l es (r0.map fE) at_ o∧rs.map (·.data)=o.2.1.ts:=hri
  change Tr _ _ (rowE Wi 36 al o.1.ins :: rowE We 23 aa o.1.ents :: rowE Wu 23 aa o.1.unk :: rowE Wb 23 aa o.1.bad :: rowE Wt 31 bX rs :: rowE Wp 23 aa o.2.1.at_ :: (rs.map (rvE 23 aa) ++ _)) _ _
  refine eV (V:=Wi) (fun pWi cWi hpv=>?_)
  subst hpv
  refine eV (V:=We) (fun pWe cWe hpv=>?_)
  subst hpv
  refine eV (V:=Wu) (fun pWu cWu hpv=>?_)
  subst hpv
  refine eV (V:=Wb) (fun pWb cWb hpv=>?_)
  subst hpv
  refine eV (V:=Wt) (fun pWt cWt hpv=>?_)
  subst hpv
  refine eV (V:=Wp) (fun pWp cWp hpv=>?_)
  subst hpv
  have hml:rs.length=(rs.map fE).length:=(List.length_map _).symm
  rw [hml]
  refine zL (A:=[rowE (.slice pWi o.1.ins.length cWi) 36 al o.1.ins,rowE (.slice pWe o.1.ents.length cWe) 23 aa o.1.ents,rowE (.slice pWu o.1.unk.length cWu) 23 aa o.1.unk,rowE (.slice pWb o.1.bad.length cWb) 23 aa o.1.bad,rowE (.slice pWt (rs.map fE).length cWt) 31 bX rs,rowE (.slice pWp o.2.1.at_.length cWp) 23 aa o.2.1.at_]) (B:=rs.map (rvE 23 aa)) (C:=(cellE b2 [.slice pt (r0.map fE).length ct,.slice pa at_.length ca] 136 :: cellE b1 [nS,nS,nS,nS] 69 :: rowE (.slice pt (r0.map fE).length ct) 31 bX r0 :: rowE (.slice pa at_.length ca) 23 aa at_ :: (r0.map (rvE 23 aa) ++ []))) ?_
  change Tr _ _ (rowE (.slice pWi o.1.ins.length cWi) 36 al o.1.ins :: rowE (.slice pWe o.1.ents.length cWe) 23 aa o.1.ents :: rowE (.slice pWu o.1.unk.length cWu) 23 aa o.1.unk :: rowE (.slice pWb o.1.bad.length cWb) 23 aa o.1.bad :: rowE (.slice pWt (rs.map fE).length cWt) 31 bX rs :: rowE (.slice pWp o.2.1.at_.length cWp) 23 aa o.2.1.at_ :: cellE b2 [.slice pt (r0.map fE).length ct,.slice pa at_.length ca] 136 :: cellE b1 [nS,nS,nS,nS] 69 :: rowE (.slice pt (r0.map fE).length ct) 31 bX r0 :: rowE (.slice pa at_.length ca) 23 aa at_ :: ((r0.map (rvE 23 aa) ++ []) ++ (rs.map (rvE 23 aa) ++ []))) _ _
  refine zR4 ?_
  refine bH fc rfl (fun b4=>?_)
  refine bH kV rfl (fun b5=>?_)
  refine zz8 rfl rfl cB ?_
  refine zz8 rfl rfl iw ?_
  refine bR ?_
  refine ab rfl ?_ ?_<;>intro h6
  ·have hqq:o.2.2≠0:=h6
   refine bB (ay 36 al ?_)
   refine ay 23 aa ?_
   refine ay 23 aa ?_
   refine ay 23 aa ?_
   refine ay 23 aa ?_
   refine ay 31 (bX (α:=UInt32)) (cC ?_)
   refine zz0 (aI (vs:=[]) rfl rfl (kg)) (zz0 (af rfl) ?_)
   refine zz8 rfl rfl cB ?_
   refine df ?_
   refine si results25 rfl rfl rfl rfl (by repeat constructor) ii cB (by rfl) (fun w' hw=>?_)
   exact ⟨((nS,nS,nS,nS,nS,nS),(uF,⟨[],[]⟩,o.2.2),[]),rfl,hw.below0 (Bg.le.refl _),hw.ents0 rfl (by repeat' (first|exact Pick.refl _|exact Pick.left _ _|exact Pick.right _ _|exact Del.here _|apply Pick.cons|apply Del.there|apply Pick.skip|exact Pick.nil _)),.err k _ (r0.map fE) o hRn (by omega) (js r0) hro hqq rfl,rfl⟩
  have hqq:o.2.2=0:=by simpa using h6
  refine zR9 ?_
  refine zz0 (aK rfl (fun w hw=>jC o.2.1.at_ at_ _ _ w hw.rM hw.rM)) (zz0 (af rfl) ?_)
  apply fC
  ·exact (rfl:_=(6,34,40))
  ·exact rfl
  ·intro hT7; have hT7':=hT7
   try simp only [bs] at hT7'
   refine zR4 ?_
   refine zz5 hT7 (aK rfl (fun w hw=>rG (rs.map fE) (r0.map fE) _ _ w (tw hw.rM) (tw hw.rM) (tz (hw.rvs (T:=23) (fun r hr=>by repeat (first|exact List.mem_append_right _ (List.mem_append_left _ (List.mem_map.2 ⟨r,hr,rfl⟩))|apply List.Mem.tail)))) (tz (hw.rvs (T:=23) (fun r hr=>by repeat (first|exact List.mem_append_left _ (List.mem_append_left _ (List.mem_map.2 ⟨r,hr,rfl⟩))|apply List.Mem.tail)))))) (zR3 ?_)
   exact aN (hL:=Pick.refl _) (Sub.cons rfl (zz7 6 rfl))
  ·intro hF7
   refine zR8 ?_
   exact aN (hL:=Pick.refl _) (Sub.cons rfl (zz7 6 rfl))
  refine zR2 ?_
  refine ab rfl ?_ ?_<;>intro h8
  ·have hsm:=h8
   refine bB (bC ([cellE b4 [.slice pWi o.1.ins.length cWi,.slice pWe o.1.ents.length cWe,.slice pWu o.1.unk.length cWu,.slice pWb o.1.bad.length cWb] 69,cellE b2 [.slice pt (r0.map fE).length ct,.slice pa at_.length ca] 136]) 9 rfl ah ?_)
   refine tX 9 ?_
   repeat' (first
    | refine q9.cons ?_ ?_
    | exact q9.nil
    | (refine gu 5 ?_; refine iY rfl ?_; refine zz8 rfl rfl cB ?_; refine lA ?_)
    | (refine bI 0 ?_; refine eP 0 rfl (cF rfl) ?_)
    | (refine bI 1 ?_; refine eP 1 rfl (bE rfl) ?_)
    | (refine bI 3 ?_; refine eP 2 rfl (iF rfl) ?_)
    | (refine bI 7 ?_; refine eP 3 rfl (bE rfl) ?_)
    | (refine bI 15 ?_; refine eP 4 rfl (iF rfl) ?_)
    | (refine bI 63 ?_; refine eP 6 rfl (cD rfl) ?_)
    | (refine bI 127 ?_; refine eP 7 rfl (cD rfl) ?_)
    | (refine bI 255 ?_; refine eP 8 rfl (cD rfl) ?_)
    | (refine bI 31 ?_; refine jN [5] ?_)
    | (
     refine bI 511 ?_
     refine om (by kernel_rfl) (zR8 ?_)
     refine si results25 rfl rfl rfl rfl (by repeat constructor) ii cB (by rfl) (fun w' hw=>?_)
     have hs1:o.2.1.at_=at_:=hsm.1
     have hs2:o.2.1.ts=r0.map (·.data):=by have:=hsm.2; rw [js,js,hrs] at this; exact this
     rw [List.append_nil] at hw
     exact ⟨(((.slice pWi o.1.ins.length cWi),(.slice pWe o.1.ents.length cWe),(.slice pWu o.1.unk.length cWu),(.slice pWb o.1.bad.length cWb),.slice pt (r0.map fE).length ct,.slice pa at_.length ca),o,r0),(by show _=Ending.returned (Value.tuple #[_,_,_,Value.int .i64 o.2.2]); rw [hqq]; rfl),hw.below0 (Bg.le.refl _),(by dsimp only; rw [hs1]; exact hw.ents0 rfl (by repeat' (first|exact Pick.refl _|exact Pick.left _ _|exact Pick.right _ _|exact Del.here _|apply Pick.cons|apply Del.there|apply Pick.skip|exact Pick.nil _))),.ok k _ (r0.map fE) o hRn (by omega) (js r0) hro hqq ⟨hs1,hs2⟩ rfl,hs2.symm⟩
     )
    )
  have hsm:=h8
  refine zR2 ?_
  have hne:¬ (o.2.1.at_=at_∧o.2.1.ts=r0.map (·.data)):=fun q=>by
   rcases hsm with h|h
   ·exact h q.1
   ·exact h (by rw [js,js,hrs]; exact q.2)
  have htb:=hro.tabs hTB
  have hTB9:=Ix hrs (by omega) htb.2
  refine cC (zz0 (cF rfl) (zz8 rfl rfl iw ?_))
  refine zR9 ?_
  apply dn (k+1,(rs,pWt,cWt),(o.2.1.at_,pWp,cWp))
  ·exact rfl
  ·exact (Front.c Front.nil)
  ·exact zz9 27 rfl
  ·exact (by repeat' (first|exact Pick.refl _|exact Pick.left _ _|exact Pick.right _ _|exact Del.here _|apply Pick.cons|apply Del.there|apply Pick.skip|exact Pick.nil _))
  ·exact ⟨⟨by omega,hTB9⟩,by rw [hrs]; exact Rnds.step k ⟨r0.map (·.data),at_⟩ (r0.map fE) o hRn (js r0) hro hqq hne⟩
  exact (by (try dsimp only); omega)
 refine zR6 ?_
 refine ay 36 al ?_
 refine ay 23 aa ?_
 refine ay 23 aa ?_
 refine ay 23 aa ?_
 refine ay 23 aa ?_
 refine ay 31 (bX (α:=UInt32)) (cC ?_)
 refine zz0 (aI (vs:=[]) rfl rfl (kg)) ?_
 refine zz8 rfl rfl cB ?_
 refine zR6 ?_
 refine si results25 rfl rfl rfl rfl (by repeat constructor) ii cB (by rfl) (fun w' hw=>?_)
 exact ⟨((nS,nS,nS,nS,nS,nS),(uF,⟨[],[]⟩,15),[]),rfl,hw.below0 (Bg.le.refl _),hw.ents0 rfl (by repeat' (first|exact Pick.refl _|exact Pick.left _ _|exact Pick.right _ _|exact Del.here _|apply Pick.cons|apply Del.there|apply Pick.skip|exact Pick.nil _)),.out ⟨r0.map (·.data),at_⟩ (by have e:k=16:=(by omega); subst e; exact hRn) rfl,rfl⟩
theorem yy (l:List SecV) (pV:Option Addr) (cV:Nat) (es:List UInt32) (VE:Value) (w:World) (hV:Sl (hp w) bP l (.slice pV l.length cV)) (hD:DataIn (hp w) l) (hz:∀ s∈l,s.data.length≤140737488351232) (hN:∀ s∈l,s.name.size≤140737488351232) (hE:Sl (hp w) aa es VE) :
  Calls prog 7 #[(.slice pV l.length cV),VE] w (fun e w'=>e=.returned (.bool true)∧Below w.heap.size w w'):=by
 have hV':Sl (Bg.of0 w).blk bP l (.slice pV l.length cV):=hV
 have hD':DataIn (Bg.of0 w).blk l:=hD
 have hE':Sl (Bg.of0 w).blk aa es VE:=hE
 have hel:=hE.len_le
 refine lP func7 rfl ntmps7 rfl (zR9 ?_)
 refine zz0 (aK rfl (fun w hw=>Lr l (.slice pV l.length cV) w (hw.slF hV') hz)) (zR2 ?_)
 refine cZ 4 16 20 (h2:=zR2 ?_)
 refine ab rfl ?_ ?_<;>intro h2
 ·have hq1:=h2
  refine dx (zz0 (GF rfl rfl call11 (fun w hw=>zm w)) (zR5 ?_))
  exact aM results7 rfl fun w' hw=>⟨rfl,hw.below0 (Bg.le.refl _)⟩
 have hq1:yr l=true∧es.length≤6:=by have:=h2; constructor<;>first|(simp_all; done)|omega
 obtain ⟨hB,hto⟩:=Oa hq1.1
 have hel6:=hq1.2
 refine zR6 ?_
 refine zR (fun i:(Value × Value × Value × Value × Value × Value) × (CodeP × FndV × Int) × List (RV UInt32)=>.tuple #[.agg #[i.1.1,i.1.2.1,i.1.2.2.1,i.1.2.2.2.1],i.1.2.2.2.2.1,i.1.2.2.2.2.2,.int .i64 i.2.1.2.2]) (fun i:(Value × Value × Value × Value × Value × Value) × (CodeP × FndV × Int) × List (RV UInt32)=>rowE i.1.1 36 al i.2.1.1.ins :: rowE i.1.2.1 23 aa i.2.1.1.ents :: rowE i.1.2.2.1 23 aa i.2.1.1.unk :: rowE i.1.2.2.2.1 23 aa i.2.1.1.bad :: rowE i.1.2.2.2.2.1 31 bX i.2.2 :: rowE i.1.2.2.2.2.2 23 aa i.2.1.2.1.at_ :: i.2.2.map (rvE 23 aa)) (ok:=fun i:(Value × Value × Value × Value × Value × Value) × (CodeP × FndV × Int) × List (RV UInt32)=>ResIs l es i.2.1∧i.2.2.map (·.data)=i.2.1.2.1.ts) rfl rfl call17 (fun w hw=>yx l _ _ es VE w (hw.slF hV') hB (hD'.mono hw.bg) hN (hw.slF hE') hto (by omega)) rfl (fun iR F1 hR hF1 hk1=>?_)
 obtain ⟨⟨Wi,We,Wu,Wb,Wt,Wp⟩,o,rs⟩:=iR
 obtain ⟨ho,hrs⟩:ResIs l es o∧rs.map (·.data)=o.2.1.ts:=hR
 have sWi:Sl F1.blk al o.1.ins Wi:=rowE.slL hk1 (.head _)
 have sWe:Sl F1.blk aa o.1.ents We:=rowE.slL hk1 (.tail _ (.head _))
 have sWu:Sl F1.blk aa o.1.unk Wu:=rowE.slL hk1 (.tail _ (.tail _ (.head _)))
 have sWb:Sl F1.blk aa o.1.bad Wb:=rowE.slL hk1 (.tail _ (.tail _ (.tail _ (.head _))))
 have sWt:Sl F1.blk bX rs Wt:=rowE.slL hk1 (.tail _ (.tail _ (.tail _ (.tail _ (.head _)))))
 have sWp:Sl F1.blk aa o.2.1.at_ Wp:=rowE.slL hk1 (.tail _ (.tail _ (.tail _ (.tail _ (.tail _ (.head _))))))
 have sRVW:RvIn aa F1.blk rs:=rvE.inL hk1 (fun r hr=>.tail _ (.tail _ (.tail _ (.tail _ (.tail _ (.tail _ ((List.mem_map.2 ⟨r,hr,rfl⟩))))))))
 obtain ⟨pWi,cWi,hv,_⟩:=sWi.shape
 subst hv
 obtain ⟨pWe,cWe,hv,_⟩:=sWe.shape
 subst hv
 obtain ⟨pWu,cWu,hv,_⟩:=sWu.shape
 subst hv
 obtain ⟨pWb,cWb,hv,_⟩:=sWb.shape
 subst hv
 have hr1:F1.dr=0:=hF1.dr
 have hV1:=hV'.mono hF1.blk
 have hD1:=hD'.mono hF1.blk
 have hE1:=hE'.mono hF1.blk
 refine zR5 ?_
 refine bH ed rfl (fun b3=>?_)
 refine zz8 rfl rfl cR ?_
 refine zR9 ?_
 refine zR (fun i:(Value × Value × Value × Value × Value × Value) × (CodeP × FndV × Int) × List (RV UInt32)=>.tuple #[.agg #[i.1.1,i.1.2.1,i.1.2.2.1,i.1.2.2.2.1],i.1.2.2.2.2.1,i.1.2.2.2.2.2,.int .i64 i.2.1.2.2]) (fun i:(Value × Value × Value × Value × Value × Value) × (CodeP × FndV × Int) × List (RV UInt32)=>rowE i.1.1 36 al i.2.1.1.ins :: rowE i.1.2.1 23 aa i.2.1.1.ents :: rowE i.1.2.2.1 23 aa i.2.1.1.unk :: rowE i.1.2.2.2.1 23 aa i.2.1.1.bad :: rowE i.1.2.2.2.2.1 31 bX i.2.2 :: rowE i.1.2.2.2.2.2 23 aa i.2.1.2.1.at_ :: i.2.2.map (rvE 23 aa)) (ok:=fun i:(Value × Value × Value × Value × Value × Value) × (CodeP × FndV × Int) × List (RV UInt32)=>ResIs l es i.2.1∧i.2.2.map (·.data)=i.2.1.2.1.ts) hr1 rfl call25 (fun w hw=>Es l _ _ es VE w (hw.slF hV1) hB (hD1.mono hw.bg) hN (hw.slF hE1) hto (by omega)) rfl (fun iS F2 hS hF2 hk2=>?_)
 obtain ⟨⟨Xi,Xe,Xu,Xb,Xt,Xp⟩,o2,rs2⟩:=iS
 obtain ⟨ho2,hrs2⟩:ResIs l es o2∧rs2.map (·.data)=o2.2.1.ts:=hS
 obtain rfl:=ho.uniq ho2
 have sXi:Sl F2.blk al o.1.ins Xi:=rowE.slL hk2 (.head _)
 have sXe:Sl F2.blk aa o.1.ents Xe:=rowE.slL hk2 (.tail _ (.head _))
 have sXu:Sl F2.blk aa o.1.unk Xu:=rowE.slL hk2 (.tail _ (.tail _ (.head _)))
 have sXb:Sl F2.blk aa o.1.bad Xb:=rowE.slL hk2 (.tail _ (.tail _ (.tail _ (.head _))))
 have sXt:Sl F2.blk bX rs2 Xt:=rowE.slL hk2 (.tail _ (.tail _ (.tail _ (.tail _ (.head _)))))
 have sXp:Sl F2.blk aa o.2.1.at_ Xp:=rowE.slL hk2 (.tail _ (.tail _ (.tail _ (.tail _ (.tail _ (.head _))))))
 have sRVX:RvIn aa F2.blk rs2:=rvE.inL hk2 (fun r hr=>.tail _ (.tail _ (.tail _ (.tail _ (.tail _ (.tail _ ((List.mem_map.2 ⟨r,hr,rfl⟩))))))))
 obtain ⟨pXi,cXi,hv,_⟩:=sXi.shape
 subst hv
 obtain ⟨pXe,cXe,hv,_⟩:=sXe.shape
 subst hv
 obtain ⟨pXu,cXu,hv,_⟩:=sXu.shape
 subst hv
 obtain ⟨pXb,cXb,hv,_⟩:=sXb.shape
 subst hv
 have hr2:F2.dr=0:=hF2.dr.trans hr1
 replace sWi:=sWi.mono hF2.blk
 replace sWe:=sWe.mono hF2.blk
 replace sWu:=sWu.mono hF2.blk
 replace sWb:=sWb.mono hF2.blk
 replace sWt:=sWt.mono hF2.blk
 replace sWp:=sWp.mono hF2.blk
 replace sRVW:=sRVW.mono hF2.blk
 have htt:(rs.map fE).map (·.data)=(rs2.map fE).map (·.data):=by rw [js,js,hrs,hrs2]
 refine zR5 ?_
 refine bH fc rfl (fun b4=>?_)
 refine zz8 rfl rfl cB ?_
 refine cj ?_
 apply dV 6 41 47 (fun hT5 hT5'=>?_) ?_; rotate_right
 ·refine zR4 ?_
  refine zz5 hT5 (aK rfl (fun w hw=>G4 o.1.ins o.1.ins _ _ w (hw.slF sWi) (hw.slF sXi))) ?_
  exact zE
 refine zz0 (af rfl) ?_
 apply dV 6 48 54 (fun hT6 hT6'=>?_) ?_; rotate_right
 ·refine zR4 ?_
  refine zz5 hT6 (aK rfl (fun w hw=>jC o.1.ents o.1.ents _ _ w (hw.slF sWe) (hw.slF sXe))) ?_
  exact zE
 refine zz0 (af rfl) ?_
 apply dV 6 55 61 (fun hT7 hT7'=>?_) ?_; rotate_right
 ·refine zR4 ?_
  refine zz5 hT7 (aK rfl (fun w hw=>jC o.1.unk o.1.unk _ _ w (hw.slF sWu) (hw.slF sXu))) ?_
  exact zE
 refine zz0 (af rfl) ?_
 apply dV 6 62 68 (fun hT8 hT8'=>?_) ?_; rotate_right
 ·refine zR4 ?_
  refine zz5 hT8 (aK rfl (fun w hw=>jC o.1.bad o.1.bad _ _ w (hw.slF sWb) (hw.slF sXb))) ?_
  exact zE
 refine zz0 (af rfl) ?_
 apply dV 4 69 73 (fun hT9 hT9'=>?_) ?_; rotate_right
 ·refine zR2 ?_
  refine zz5 hT9 (aK rfl (fun w hw=>rG (rs.map fE) (rs2.map fE) _ _ w (hw.slF (tw sWt)) (hw.slF (tw sXt)) (tz (sRVW.mono hw.bg)) (tz (sRVX.mono hw.bg)))) ?_
  exact zE
 refine zz0 (af rfl) ?_
 apply dV 4 74 78 (fun hT10 hT10'=>?_) ?_; rotate_right
 ·refine zR2 ?_
  refine zz5 hT10 (aK rfl (fun w hw=>jC o.2.1.at_ o.2.1.at_ _ _ w (hw.slF sWp) (hw.slF sXp))) ?_
  exact zE
 refine zz0 (af rfl) ?_
 apply dV 2 79 81 (fun hT11 hT11'=>?_) ?_; rotate_right
 ·refine zz5 hT11 (GF hr2 rfl call11 (fun w hw=>zm w)) ?_
  exact zE
 refine zR4 ?_
 exact aM results7 rfl fun w' hw=>⟨by simp [htt],hw.below0 (hF1.trans hF2)⟩
theorem Al (l:List SecV) (V:Value) (es:List UInt32) (VE:Value) (w:World) (hV:Sl (hp w) bP l V) (hD:DataIn (hp w) l) (hz:∀ s∈l,s.data.length≤140737488351232) (hN:∀ s∈l,s.name.size≤140737488351232) (hE:Sl (hp w) aa es VE):Calls prog 7 #[V,VE] w (fun e w'=>e=.returned (.bool true)∧Below w.heap.size w w'):=by
 obtain ⟨pV,cV,hv,_⟩:=hV.shape
 subst hv
 exact yy l pV cV es VE w hV hD hz hN hE
end Go.Proofs.YtiajjbhcpeadfaaGreat
