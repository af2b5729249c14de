/- Own rules and walks, part 6. -/
import Derived.Test.YtiajjbhcpeadfaaGreatB5
set_option linter.unusedSimpArgs false
set_option linter.unusedVariables false
set_option linter.unusedSectionVars false
set_option maxRecDepth 100000
set_option maxHeartbeats 16000000
attribute [local irreducible] Go.wpList Go.Code.wp Go.HL.QS Go.HL.Tr Go.HL.TrQ Go.wpQuiet
namespace Go.Proofs.YtiajjbhcpeadfaaGreat
open Go Go.HL Go.RowKit Tryz
theorem I1 (i:Ins) (w:World) (hI:InsOK i) :
  Cr prog 148 #[.agg (al.enc i).toArray] w (.int .u64 (xu i)):=by
 have hl:=xG i
 have ha:=i.addr.toNat_lt
 refine En f148 rfl rfl (zR2 ?_)
 refine bJ rfl rfl (fun b1=>zR4 ?_)
 refine eU ah (zT2 ?_)
 refine aw (dL rfl ac bF) (aw (cF rfl) (aw (aK rfl (fun w hw=>qO i w hI)) ?_))
 refine aw (eO rfl ad bF (IntWalk.u64_in _ (by omega))) ?_
 refine aw (rf rfl rfl (by omega)) (zT4 ?_)
 exact aD (e:=rfl)
theorem Dd (a b:Ins) (w:World) (hI:InsOK a) (hJ:InsOK b) :
  Cr prog 81 #[.agg (al.enc a).toArray,.agg (al.enc b).toArray] w (.bool (iT a b)):=by
 refine En f81 rfl rfl (zR2 ?_)
 refine bJ rfl rfl (fun b1=>?_)
 refine bJ rfl rfl (fun b2=>zR4 ?_)
 refine eU ah (zT6 ?_)
 apply fD 4 10 14 (fun hT3 hT3'=>?_) ?_; rotate_right
 ·refine db hT3 (cF rfl) (db hT3 (aK rfl (fun w hw=>qO a w hI)) ?_)
  exact zQ
 refine aw (af rfl) ?_
 apply fD 4 15 19 (fun hT4 hT4'=>?_) ?_; rotate_right
 ·refine db hT4 (cF rfl) (db hT4 (aK rfl (fun w hw=>qO b w hJ)) ?_)
  exact zQ
 refine aw (af rfl) ?_
 apply fD 13 20 33 (fun hT5 hT5'=>?_) ?_; rotate_right
 ·refine zT4 ?_
  refine db hT5 (sq rfl rfl) ?_
  refine db hT5 (dL rfl ac bF) (db hT5 (cF rfl) (db hT5 (aK rfl (fun w hw=>I1 a w hI)) (db hT5 (cF rfl) ?_)))
  refine db hT5 (aK rfl (fun w hw=>I1 b w hJ)) ?_
  refine db hT5 (sV rfl rfl) ?_
  exact zQ
 refine zT4 ?_
 exact aD (e:=rfl)
theorem rp (w:World) (g:FuncId) (cb:Array Value) :
  Cr prog 199 #[nS,.int .i64 0,.int .i64 0,.func (.func g) #[] cb] w (.tuple #[]):=by
 refine En f199 rfl rfl (zR8 ?_)
 refine cP (.of (ι:=Unit) (fun _u=>True) (fun _=>_) (fun _u=>[]) (fun _u=>[(8,.int .i64 1)]) (fun _u=>0)) () trivial (Front.c Front.nil) (fun _u hi m hm=>zR8 ?_)
 refine fk rfl ?_ ?_<;>intro h1<;>try simp only [bs] at h1
 ·first|contradiction|(exfalso; omega)|simp_all
 refine zR4 ?_
 exact fy results199 fun w' hw=>⟨rfl,hw.b0⟩
theorem xm (w:World) (g:FuncId) (cb:Array Value) :
  Cr prog 149 #[nS,.int .i64 0,.int .i64 0,.int .i64 0,.func (.func g) #[] cb] w (.tuple #[]):=by
 refine En f149 rfl rfl (cj ?_)
 refine cP (.of (ι:=Unit) (fun _u=>True) (fun _=>_) (fun _u=>[]) (fun _u=>[]) (fun _u=>0)) () trivial Front.nil (fun _u hi m hm=>pf ?_)
 refine fk rfl ?_ ?_<;>intro h1<;>try simp only [bs] at h1
 ·refine zR6 ?_
  refine zz0 (aK rfl (fun w hw=>rp w g cb)) (zR7 ?_)
  exact nA results149 fun w' hw=>⟨rfl,hw.b0⟩
 first|contradiction|(exfalso; omega)|simp_all
theorem pQ (w:World) (g:FuncId) (cb:Array Value) :
  Cr prog 82 #[nS,.func (.func g) #[] cb] w (.tuple #[]):=by
 refine En f82 rfl rfl (zR3 ?_)
 refine zz0 (iZ rfl aR) (zR7 ?_)
 refine zz0 (eO rfl ad dD (IntWalk.u64_in _ (by omega))) ?_
 refine zz0 (aK rfl (fun w hw=>(Go.Proofs.Any.bits_Len (Go.Proofs.SlLaysF0.n15.bits (P:=prog) (ρ:=sortIns_ren) { sortIns with }) 0 w (by decide) (by decide)).mono (fun e w' h=>⟨h.1,by rw [h.2]; exact Ext.refl _⟩))) (zz0 (af rfl) ?_)
 refine zz0 (aK rfl (fun w hw=>xm w g cb)) (mj ?_)
 exact fy results82 fun w' hw=>⟨rfl,hw.b0⟩
theorem AE (a b:Ins) (w:World) :
  Cr prog 143 #[.agg (al.enc a).toArray,.agg (al.enc b).toArray] w (.int .i64 (mf a b)):=by
 refine En f143 rfl rfl (zR2 ?_)
 refine bJ rfl rfl (fun b1=>?_)
 refine bJ rfl rfl (fun b2=>zR9 ?_)
 refine zz0 (ak rfl (FU a.addr b.addr)) (zR4 ?_)
 exact aD (e:=rfl)
theorem Cm (a b:Ins) (w:World) :
  Cr prog 83 #[.agg (al.enc a).toArray,.agg (al.enc b).toArray] w (.int .i64 (mf a b)):=by
 refine En f83 rfl rfl (zR2 ?_)
 refine bJ rfl rfl (fun b1=>?_)
 refine bJ rfl rfl (fun b2=>zR9 ?_)
 refine zz0 (ak rfl (FU a.addr b.addr)) (zR4 ?_)
 exact aD (e:=rfl)
theorem Db (l:List Ins) (V:Value) (w:World) (hV:Sl (hp w) al l V) (hI:∀ x∈l,InsOK x) (h40:l.length≤700) :
  Calls prog 73 #[V] w (fun e w'=>∃ V',e=.returned V'∧Ext w w'∧dY w w' 36 al (eZ l) V'):=by
 have hV':Sl (Bg.of w).blk al l V:=hV
 refine En f73 rfl rfl (zR7 ?_)
 refine ij dw rfl (fun b1=>ug ?_)
 refine ay 36 al ?_
 refine cT (ι:=Nat × Value) (fun ⟨k,V'⟩=>k≤l.length) (fun _=>_) (fun ⟨k,V'⟩=>[rowE V' 36 al (sd (l.take k)),mapE b1 dw (FS (sd (l.take k)))]) (fun ⟨k,V'⟩=>[(10,.int .i64 (k:Nat)),(4,V')]) (fun ⟨k,V'⟩=>l.length - k) (0,_) (Nat.zero_le _) (Front.c (Front.c Front.nil)) (fun i hi m hm=>?_)
 obtain ⟨k,V'⟩:=i
 dsimp only at hi hm
 conv=>enter [3]; dsimp only
 conv=>enter [4,1]; dsimp only
 have hcl:=FT (l.take k)
 rw [List.length_take] at hcl
 have hIk:k<l.length→InsOK (l.getD k default):=fun q=>hI _ (ba q)
 refine zR6 ?_
 refine ab rfl ?_ ?_<;>intro h2
 ·refine zR8 ?_
  refine bH aF rfl (fun b3=>zR8 ?_)
  refine zz0 (GA rfl rfl (by repeat constructor) dP ac pB) ?_
  rw [Nk]
  refine zR2 ?_
  apply dV 3 19 22 (fun hT4 hT4'=>?_) ?_; rotate_right
  ·refine zz5 hT4 (cF rfl) (zz5 hT4 (aK rfl (fun w hw=>l5 (l.getD k default) w (hIk (by omega)))) ?_)
   exact zE
  refine zR2 ?_
  refine ab rfl ?_ ?_<;>intro h5
  ·refine zR4 ?_
   refine fM (E:=al) _ rfl rfl aR bV aF (fun V6=>?_)
   refine zz3 rfl rfl aR fY (fun V7=>?_)
   refine zR7 ?_
   refine gY _ rfl rfl rfl (by repeat constructor) dP ac rfl (zR8 ?_)
   have hst:=zy (l:=l) (k:=k) (by omega)
   rw [ga,if_pos (by simp only [Bool.and_eq_true,Bool.not_eq_true',decide_eq_true_eq]; assumption)] at hst
   rw [Nj (by simp_all),← hst]
   refine aP (k+1,_) (o:=(by show k+1≤_; omega))
  refine zR8 ?_
  have hst:=zy (l:=l) (k:=k) (by omega)
  rw [ga,if_neg (by rw [Bool.and_eq_true,Bool.not_eq_true',decide_eq_true_eq]; rintro ⟨q1,q2⟩; rcases h5 with q|q; (· rw [q1] at q; cases q); (· exact q q2))] at hst
  rw [← hst]
  refine aP (k+1,_) (o:=(by show k+1≤_; omega))
 refine zR6 ?_
 obtain rfl:k=l.length:=by omega
 rw [List.take_length] at *
 refine zR2 ?_
 refine dH rfl call82 (by repeat constructor) (fun w hw=>un sortIns al 36 isAgg36 bV mf mP 143 [] _ _ w call143 (hw.ent _ (.head _)) (by omega) (fun x y w' _=>AE x y w') (pQ w 143 #[])) rfl (zR9 ?_)
 exact aM results73 rfl fun w' hw=>⟨_,rfl,hw.b0,hw.new (.head _)⟩
theorem D8 (l:List Ins) (V:Value) (w:World) (hV:Sl (hp w) al l V) (hI:∀ x∈l,InsOK x) (h40:l.length≤700) :
  Calls prog 74 #[V] w (fun e w'=>∃ b,e=.returned (.map (some b))∧Ext w w'∧NewEnts w w' [mapE b dw (l6 l)]):=by
 have hV':Sl (Bg.of w).blk al l V:=hV
 refine En f74 rfl rfl (zR7 ?_)
 refine ij dw rfl (fun b1=>df ?_)
 refine cP (.of (ι:=Nat) (fun k=>k≤l.length) (fun _=>_) (fun k=>[mapE b1 dw (l6 (l.take k))]) (fun k=>[(11,.int .i64 (k:Nat))]) (fun k=>l.length - k)) 0 (Nat.zero_le _) (Front.c Front.nil) (fun k hi m hm=>zR6 ?_)
 refine ab rfl ?_ ?_<;>intro h2
 ·refine zR8 ?_
  refine bH aF rfl (fun b3=>zR6 ?_)
  refine zz0 (ak rfl (tt (l.getD k default))) (df ?_)
  refine ab rfl ?_ ?_<;>intro h4
  ·refine zR3 ?_
   refine gY _ rfl rfl rfl (by repeat constructor) dP ac rfl (zR8 ?_)
   have hst:=D2 (l:=l) (k:=k) (by omega)
   rw [sB,if_pos (by assumption)] at hst
   rw [← hst]
   refine aP (k+1) (o:=(by show k+1≤_; omega))
  refine zR8 ?_
  have hst:=D2 (l:=l) (k:=k) (by omega)
  rw [sB,if_neg (by simp_all)] at hst
  rw [← hst]
  refine aP (k+1) (o:=(by show k+1≤_; omega))
 refine df ?_
 refine aM results74 rfl (fun w' hw=>?_)
 obtain rfl:k=l.length:=by omega
 rw [List.take_length] at hw
 exact ⟨_,rfl,hw.b0,hw.ents (w:=w) (Bg.le.refl _) (by repeat' constructor)⟩
theorem ux (i:Ins) (ents:List UInt32) (tm:List (UInt32 × Bool)) (Vi Ve Vu Vb:Value) (bc bm bmap:Nat) (w:World) (hc:CellsIn (hp w) bc [Vi,Ve,Vu,Vb]) (hm:CellsIn (hp w) bm [.map (some bmap)]) (hM:MapIn (hp w) bmap dw tm) (hE:Sl (hp w) aa ents Ve) :
  Cr prog 75 #[.agg (al.enc i).toArray,.pointer (some ⟨bc,0,none⟩),.pointer (some ⟨bm,0,none⟩)] w (.int .i64 (fZ ents tm i)):=by
 have hc':CellsIn (Bg.of w).blk bc [Vi,Ve,Vu,Vb]:=hc
 have hm':CellsIn (Bg.of w).blk bm [.map (some bmap)]:=hm
 have hM':MapIn (Bg.of w).blk bmap dw tm:=hM
 have hE':Sl (Bg.of w).blk aa ents Ve:=hE
 refine En f75 rfl rfl (zR2 ?_)
 refine bJ rfl rfl (fun b1=>zR8 ?_)
 refine zz0 (nL rfl isAgg31) (zR2 ?_)
 refine zz0 (aK rfl (fun w hw=>Dc ents Ve i.addr w (hw.slF hE'))) (zR3 ?_)
 refine ab rfl ?_ ?_<;>intro h2
 ·refine zR8 ?_
  exact aD (e:=by rw [fZ,if_pos (by assumption)])
 refine dx (zz0 (nL rfl gk) (zR2 ?_))
 refine zz0 (KW rfl rfl (by assumption) dP ac pB) (zR3 ?_)
 refine ab rfl ?_ ?_<;>intro h3
 ·refine zR8 ?_
  exact aD (e:=by rw [fZ,if_neg (by simp_all),if_pos (by assumption)])
 refine zR9 ?_
 exact aD (e:=by rw [fZ,if_neg (by simp_all),if_neg (by simp_all)])
theorem Cn (i j:Ins) (ents:List UInt32) (tm:List (UInt32 × Bool)) (Vi Ve Vu Vb:Value) (bc bm bmap:Nat) (bg:Nat) (w:World) (hc:CellsIn (hp w) bc [Vi,Ve,Vu,Vb]) (hm:CellsIn (hp w) bm [.map (some bmap)]) (hM:MapIn (hp w) bmap dw tm) (hE:Sl (hp w) aa ents Ve) (hg:CellsIn (hp w) bg [.func (.func 75) #[] #[.pointer (some ⟨bc,0,none⟩),.pointer (some ⟨bm,0,none⟩)]]) :
  Cr prog 79 #[.agg (al.enc i).toArray,.agg (al.enc j).toArray,.pointer (some ⟨bg,0,none⟩)] w (.int .i64 (O0 ents tm i j)):=by
 have hc':CellsIn (Bg.of w).blk bc [Vi,Ve,Vu,Vb]:=hc
 have hm':CellsIn (Bg.of w).blk bm [.map (some bmap)]:=hm
 have hM':MapIn (Bg.of w).blk bmap dw tm:=hM
 have hE':Sl (Bg.of w).blk aa ents Ve:=hE
 have hg':CellsIn (Bg.of w).blk bg [.func (.func 75) #[] #[.pointer (some ⟨bc,0,none⟩),.pointer (some ⟨bm,0,none⟩)]]:=hg
 refine En f79 rfl rfl (zR2 ?_)
 refine bJ rfl rfl (fun b1=>?_)
 refine bJ rfl rfl (fun b2=>zR4 ?_)
 refine eU ah ?_
 refine aw (nL rfl isAgg153) (aw (cF rfl) ?_)
 refine aw (i6 rfl rfl call75 (fun w hw=>ux i ents tm Vi Ve Vu Vb bc bm bmap w (hc'.mono hw.bg) (hm'.mono hw.bg) (hM'.mono hw.bg) (hw.slF hE'))) ?_
 refine aw (nL rfl isAgg153) (aw (cF rfl) ?_)
 refine aw (i6 rfl rfl call75 (fun w hw=>ux j ents tm Vi Ve Vu Vb bc bm bmap w (hc'.mono hw.bg) (hm'.mono hw.bg) (hM'.mono hw.bg) (hw.slF hE'))) ?_
 refine aw (ak rfl (Nl (fZ ents tm i) (fZ ents tm j))) (zT4 ?_)
 exact aD (e:=rfl)
theorem Ak (i:Ins) (a:UInt32) (b:Nat) (w:World) (hc:Cell (hp w) b 0 (.int .u32 a.toNat)) :
  Cr prog 87 #[.agg (al.enc i).toArray,.pointer (some ⟨b,0,none⟩)] w (.bool (decide (i.addr=a))):=by
 have hc':Cell (Bg.of w).blk b 0 (.int .u32 a.toNat):=hc
 refine En f87 rfl rfl (zR2 ?_)
 refine bJ rfl rfl (fun b1=>zR7 ?_)
 refine zz0 (qm rfl (by assumption) co) (zR5 ?_)
 exact aD (e:=rfl)
theorem qI (a:UInt32) (l:List Ins) (V:Value) (b:Nat) (w:World) (hc:CellsIn (hp w) b [V]) (hV:Sl (hp w) al l V) :
  Cr prog 85 #[.int .u32 a.toNat,.pointer (some ⟨b,0,none⟩)] w (.bool (inK l a)):=by
 have hc':CellsIn (Bg.of w).blk b [V]:=hc
 have hV':Sl (Bg.of w).blk al l V:=hV
 refine En f85 rfl rfl (zR2 ?_)
 refine bJ rfl rfl (fun b1=>zR5 ?_)
 refine zz0 (nL rfl isAgg50) ?_
 refine zz0 (fB rfl rfl) ?_
 refine zz0 (aK rfl (fun w hw=>qe l V _ _ w (hw.slF hV') call87 (fun i=>decide (i.addr=a)) (fun x hx w'' h=>Ak x a _ w'' (cellE.cell (hw.ent _ (by repeat constructor)) h rfl)))) (zR4 ?_)
 exact aD (e:=rfl)
theorem Mv (ents:List UInt32) (tm:List (UInt32 × Bool)):d5 (O0 ents tm)=ltG (fZ ents tm):=by
 funext x y
 unfold d5 O0 ltG
 congr 1
 exact propext (OZ _ _)
theorem Et (ins:List Ins) (ents unk bad:List UInt32) (Vi Ve Vu Vb:Value) (w:World) (hV:Sl (hp w) al ins Vi) (hE:Sl (hp w) aa ents Ve) (hU:Sl (hp w) aa unk Vu) (hB:Sl (hp w) aa bad Vb) (hI:∀ x∈ins,InsOK x) (hn1:ins.length≤700) (hn2:ents.length≤700) (hn3:unk.length≤700) (hn4:bad.length≤100000) :
  Calls prog 29 #[.agg #[Vi,Ve,Vu,Vb]] w (fun e w'=>∃ i:Value × Value × Value × Value × Value,e=.returned (.tuple #[.agg #[i.1,i.2.1,i.2.2.1,i.2.2.2.1],i.2.2.2.2])∧Ext w w'∧NewEnts w w' [rowE i.1 36 al (gC ins ents unk bad).kept,rowE i.2.1 23 aa (gC ins ents unk bad).ents,rowE i.2.2.1 23 aa (gC ins ents unk bad).unk,rowE i.2.2.2.1 23 aa (gC ins ents unk bad).bad,rowE i.2.2.2.2 23 aa (gC ins ents unk bad).rem]):=by
 have hV':Sl (Bg.of w).blk al ins Vi:=hV
 have hE':Sl (Bg.of w).blk aa ents Ve:=hE
 have hU':Sl (Bg.of w).blk aa unk Vu:=hU
 have hB':Sl (Bg.of w).blk aa bad Vb:=hB
 obtain ⟨lc,hlc⟩:∃ lc,lc=eZ ins:=⟨_,rfl⟩
 obtain ⟨tm,htm⟩:∃ tm,tm=l6 lc:=⟨_,rfl⟩
 have hcl:=zt ins
 rw [← hlc] at hcl
 have hcI:∀ x∈lc,InsOK x:=fun x hx=>hI _ (zr (hlc ▸ hx))
 obtain ⟨w0,hw0⟩:∃ w0,w0=w:=⟨_,rfl⟩
 subst hw0
 refine En f29 rfl rfl (zR2 ?_)
 refine bJ rfl rfl (fun b1=>?_)
 refine bH ed rfl (fun b2=>zR8 ?_)
 refine cE rfl call73 (fun w hw=>(by rw [hlc]; exact Db ins Vi w (hw.slF hV') hI hn1:Calls prog 73 #[Vi] w (fun e w'=>∃ V',e=.returned V'∧Ext w w'∧dY w w' 36 al (lc) V'))) rfl (fun V3=>zR4 ?_)
 skip
 refine zR2 ?_
 refine jh (fun b:Nat=>.map (some b)) (fun b=>[mapE b dw tm]) (ok:=fun _=>True) rfl call74 (fun w hw=>(D8 lc _ w hw.rM hcI (by omega)).mono fun e w' ⟨b,q1,q2,q3⟩=>⟨b,q1,q2,by rw [htm]; exact q3,trivial⟩) rfl (fun bmap _=>?_)
 refine bH zeroValue141 rfl (fun b4=>?_)
 refine jF rfl rfl sizeOf141 (by repeat constructor) (by rfl) (by rfl) (by first|exact List.all_eq_true.1 rfl|exact Enc.one _ _) rfl (zR4 ?_)
 refine zz0 (fB rfl rfl) ?_
 refine bH zeroValue153 rfl (fun b5=>?_)
 refine jF rfl rfl sizeOf153 (by repeat constructor) (by rfl) (by rfl) (by first|exact List.all_eq_true.1 rfl|exact Enc.one _ _) rfl (zR5 ?_)
 refine cE rfl call77 (fun w hw=>BJ lc _ w hw.rM (by omega)) rfl (fun V6=>zR6 ?_)
 refine zz0 (fB rfl rfl) ?_
 refine iC (fun c=>c=dJ (fZ ents tm) lc) rfl call78 (fun w hw=>(rD lc _ 79 [.pointer (some ⟨b5,0,none⟩)] (O0 ents tm) (fun w'=>∃ l',HpOK (Bg.of w0) (rowE V6 36 al l' :: [cellE b5 [.func (.func 75) #[] #[.pointer (some ⟨b1,0,none⟩),.pointer (some ⟨b4,0,none⟩)]] 153,cellE b4 [.map (some bmap)] 141,mapE bmap dw tm,rowE V3 36 al lc,cellE b2 [nS,nS,nS,nS] 52,cellE b1 [Vi,Ve,Vu,Vb] 52]) w') (fun w w' l' ⟨l0,h⟩ m r=>⟨l',HpOK.mut h (.here _) m r⟩) call79 (fun x y w' ⟨l0,h⟩=>Cn x y ents tm Vi Ve Vu Vb b1 b4 bmap b5 w' (cellE.cellsIn (h.ent _ (by repeat constructor)) (Ext.refl _)) (cellE.cellsIn (h.ent _ (by repeat constructor)) (Ext.refl _)) (mapE.in_ (h.ent _ (by repeat constructor))) (h.slF hE') (cellE.cellsIn (h.ent _ (by repeat constructor)) (Ext.refl _))) (by rw [Mv]; exact Lb _) w ⟨lc,hw⟩ (hw.ent _ (.head _)) (by omega)).mono fun e w' ⟨q1,c,⟨q2,q3,q4⟩,q5,q6⟩=>⟨q1,c,by rw [Mv] at q2 q4; exact PM (lw ents tm) q2 (Srt.all (by rw [q2.len]; exact q4)),q5,q6⟩) rfl (fun c2 hc2=>zR3 ?_)
 subst hc2
 refine cC (bH zeroValue50 rfl (fun b7=>jk ?_))
 refine ay 36 al ?_
 refine cT (ι:=Nat × Value) (fun ⟨k,Vk⟩=>k≤(dJ (fZ ents tm) lc).length) (fun _=>_) (fun ⟨k,Vk⟩=>[cellE b7 [Vk] 50,rowE Vk 36 al (kK ((dJ (fZ ents tm) lc).take k)),rowE V6 36 al (dJ (fZ ents tm) lc),cellE b5 [.func (.func 75) #[] #[.pointer (some ⟨b1,0,none⟩),.pointer (some ⟨b4,0,none⟩)]] 153,cellE b4 [.map (some bmap)] 141,mapE bmap dw tm,rowE V3 36 al lc,cellE b2 [nS,nS,nS,nS] 52,cellE b1 [Vi,Ve,Vu,Vb] 52]) (fun ⟨k,Vk⟩=>[(35,.int .i64 (k:Nat))]) (fun ⟨k,Vk⟩=>(dJ (fZ ents tm) lc).length - k) (0,_) (Nat.zero_le _) (Front.c Front.nil) (fun i hi m hm=>?_)
 obtain ⟨k,Vk⟩:=i
 dsimp only at hi hm
 conv=>enter [3]; dsimp only
 conv=>enter [4,1]; dsimp only
 have hol:=CB (lw ents tm) lc
 have hkl:=vO ((dJ (fZ ents tm) lc).take k)
 rw [List.length_take] at hkl
 have hoI:∀ x∈dJ (fZ ents tm) lc,InsOK x:=fun x hx=>hcI x (Cy hx)
 obtain ⟨kq,hkq⟩:∃ kq,kq=kK ((dJ (fZ ents tm) lc).take k):=⟨_,rfl⟩
 have hqI:∀ x∈kq,InsOK x:=fun x hx=>by
  rw [hkq] at hx
  exact hoI x (List.mem_of_mem_take (yZ hx))
 rw [← hkq] at hkl ⊢
 refine zR6 ?_
 refine ab rfl ?_ ?_<;>intro h8
 ·refine zR8 ?_
  refine bH aF rfl (fun b9=>df ?_)
  refine cP (.of (ι:=Nat) (fun j=>j≤kq.length∧(kq.take j).any (iT ((dJ (fZ ents tm) lc).getD k default))=false) (fun _=>_) (fun j=>[cellE b9 (al.enc ((dJ (fZ ents tm) lc).getD k default)) 36,cellE b7 [Vk] 50,rowE Vk 36 al kq,rowE V6 36 al (dJ (fZ ents tm) lc),cellE b5 [.func (.func 75) #[] #[.pointer (some ⟨b1,0,none⟩),.pointer (some ⟨b4,0,none⟩)]] 153,cellE b4 [.map (some bmap)] 141,mapE bmap dw tm,rowE V3 36 al lc,cellE b2 [nS,nS,nS,nS] 52,cellE b1 [Vi,Ve,Vu,Vb] 52]) (fun j=>[(41,.int .i64 (j:Nat))]) (fun j=>kq.length - j)) 0 ⟨Nat.zero_le _,rfl⟩ (Front.c Front.nil) (fun j hi m hm=>?_)
  obtain ⟨hj1,hj2⟩:=hi
  refine zR6 ?_
  refine ab rfl ?_ ?_<;>intro h10
  ·refine zR8 ?_
   refine bH aF rfl (fun b11=>zR7 ?_)
   refine zz0 (aK rfl (fun w hw=>Dd ((dJ (fZ ents tm) lc).getD k default) (kq.getD j default) w (hoI _ (ba (by omega))) (hqI _ (ba (by omega))))) (zR2 ?_)
   refine ab rfl ?_ ?_<;>intro h12
   ·refine q8 (ku rfl (zR2 ?_))
    refine ku rfl (zR3 ?_)
    skip
    refine zR5 ?_
    have hst:=Bl (l:=dJ (fZ ents tm) lc) (k:=k) (by omega)
    rw [← hkq,gh,if_pos (List.any_eq_true.2 ⟨_,ba (k:=j) (by omega),by assumption⟩)] at hst
    rw [← hst]
    refine aP (k+1,_) (o:=(by show k+1≤_; omega))
   refine zR8 ?_
   refine aP (j+1) (o:=⟨by omega,by rw [any_take_succ (by omega),hj2,Bool.false_or]; assumption⟩)
  refine zR8 ?_
  refine fM (E:=al) _ rfl rfl aR bV aF (fun V13=>?_)
  refine zz3 rfl rfl aR fY (fun V14=>?_)
  refine cn (.head _) (fun pz qz hpv=>?_)
  subst hpv
  refine jF rfl rfl m3 (by repeat constructor) (by rfl) (by rfl) (by first|exact List.all_eq_true.1 rfl|exact Enc.one _ _) rfl (zR3 ?_)
  skip
  refine zR5 ?_
  obtain rfl:j=kq.length:=by omega
  rw [List.take_length] at hj2
  have hst:=Bl (l:=dJ (fZ ents tm) lc) (k:=k) (by omega)
  rw [← hkq,gh,if_neg (by rw [hj2]; simp)] at hst
  rw [← hst]
  refine aP (k+1,_) (o:=(by show k+1≤_; omega))
 refine zR6 ?_
 obtain rfl:k=(dJ (fZ ents tm) lc).length:=by omega
 rw [List.take_length] at *
 subst hkq
 have hkl:=vO (dJ (fZ ents tm) lc)
 have hol:=CB (lw ents tm) lc
 refine zR2 ?_
 refine dH rfl call82 (by repeat constructor) (fun w hw=>un sortIns al 36 isAgg36 bV mf mP 83 [] (kK (dJ (fZ ents tm) lc)) _ w call83 (hw.ent _ (by repeat constructor)) (by omega) (fun x y w' _=>Cm x y w') (pQ w 83 #[])) rfl (zR3 ?_)
 obtain ⟨kp,hkp⟩:∃ kp,kp=mR (Go.Proofs.ltOf mf) (kK (dJ (fZ ents tm) lc)):=⟨_,rfl⟩
 rw [← hkp]
 refine cC (zz0 (fB rfl rfl) (ug ?_))
 refine ay 23 aa ?_
 refine cT (ι:=Nat × Value) (fun ⟨k,Vr⟩=>k≤lc.length) (fun _=>_) (fun ⟨k,Vr⟩=>[rowE Vr 23 aa (pm (lc.take k) kp),cellE b7 [Vk] 50,rowE Vk 36 al kp,rowE V6 36 al (dJ (fZ ents tm) lc),cellE b5 [.func (.func 75) #[] #[.pointer (some ⟨b1,0,none⟩),.pointer (some ⟨b4,0,none⟩)]] 153,cellE b4 [.map (some bmap)] 141,mapE bmap dw tm,rowE V3 36 al lc,cellE b2 [nS,nS,nS,nS] 52,cellE b1 [Vi,Ve,Vu,Vb] 52]) (fun ⟨k,Vr⟩=>[(59,.int .i64 (k:Nat)),(14,Vr)]) (fun ⟨k,Vr⟩=>lc.length - k) (0,_) (Nat.zero_le _) (Front.c (Front.c Front.nil)) (fun i hi m hm=>?_)
 obtain ⟨k,Vr⟩:=i
 dsimp only at hi hm
 conv=>enter [3]; dsimp only
 conv=>enter [4,1]; dsimp only
 have hrl:=Oj (lc.take k) kp
 rw [List.length_take] at hrl
 refine zR6 ?_
 refine ab rfl ?_ ?_<;>intro h15
 ·refine zR8 ?_
  refine bH aF rfl (fun b16=>zR8 ?_)
  refine zz0 (i6 rfl rfl call85 (fun w hw=>qI (lc.getD k default).addr kp Vk b7 w (cellE.cellsIn (hw.ent _ (by repeat constructor)) (Ext.refl _)) hw.rM)) (zR3 ?_)
  refine ab rfl ?_ ?_<;>intro h17
  ·refine zR4 ?_
   refine fM (E:=aa) _ rfl rfl am ar bj (fun V18=>?_)
   refine zz3 rfl rfl am cp (fun V19=>?_)
   refine zR9 ?_
   rw [← Oh (by omega) (by simp_all)]
   refine aP (k+1,_) (o:=(by show k+1≤_; omega))
  refine zR8 ?_
  rw [← PI (by omega) (by simp_all)]
  refine aP (k+1,_) (o:=(by show k+1≤_; omega))
 refine zR5 ?_
 obtain rfl:k=lc.length:=by omega
 rw [List.take_length] at *
 refine eV (V:=Vk) (fun pa1 pc1 hpv=>?_)
 subst hpv
 refine gX (ι:=Nat × Option Addr × Nat) (fun ⟨b17,pb,cb⟩=>True) (fun _=>Bg.of w0) (fun ⟨b17,pb,cb⟩=>[cellE b17 [(.slice pa1 kp.length pc1),nS,nS,(.slice pb bad.length cb)] 52,rowE (.slice pb bad.length cb) 23 aa bad,rowE Vr 23 aa (pm lc kp),cellE b7 [(.slice pa1 kp.length pc1)] 50,rowE (.slice pa1 kp.length pc1) 36 al kp,rowE V6 36 al (dJ (fZ ents tm) lc),cellE b5 [.func (.func 75) #[] #[.pointer (some ⟨b1,0,none⟩),.pointer (some ⟨b4,0,none⟩)]] 153,cellE b4 [.map (some bmap)] 141,mapE bmap dw tm,rowE V3 36 al lc,cellE b2 [nS,nS,nS,nS] 52,cellE b1 [Vi,Ve,Vu,Vb] 52]) (fun ⟨b17,pb,cb⟩=>[(17,.pointer (some ⟨b17,0,none⟩))]) ?_ (fun i hi=>?_)
 ·skip
  skip
  refine bC ([rowE Vr 23 aa (pm lc kp),cellE b7 [(.slice pa1 kp.length pc1)] 50,rowE (.slice pa1 kp.length pc1) 36 al kp,rowE V6 36 al (dJ (fZ ents tm) lc),cellE b5 [.func (.func 75) #[] #[.pointer (some ⟨b1,0,none⟩),.pointer (some ⟨b4,0,none⟩)]] 153,cellE b4 [.map (some bmap)] 141,mapE bmap dw tm,rowE V3 36 al lc,cellE b2 [nS,nS,nS,nS] 52,cellE b1 [Vi,Ve,Vu,Vb] 52]) 7 rfl ah ?_
  refine zK [0,1,2] ?_
  refine m8 [3,5] (fun iq hq=>?_)
  rcases List.mem_cons.1 hq with rfl|hq
  ·skip
   refine cU rfl ?_
   refine cE rfl call57 (fun w hw=>wc bad Vb w (hw.slF hB') (by omega)) rfl (fun V20=>?_)
   refine cn (.head _) (fun pb cb hpv=>?_)
   subst hpv
   refine aC ?_
   refine zz4 4 rfl (aI (vs:=[(0,_),(3,_)]) rfl rfl rfl) ?_
   refine au 5 rfl ?_
   refine bH ed rfl (fun b21=>?_)
   refine aC ?_
   refine au 6 rfl ?_
   refine zz8 rfl rfl cR ?_
   refine aC ?_
   refine fg (aS ?_)
   refine aT (_,_,_) (o:=trivial)
  obtain rfl:=List.mem_singleton.1 hq
  refine cU rfl ?_
  refine bH ed rfl (fun b22=>?_)
  refine aC ?_
  refine au 3 rfl ?_
  refine cE rfl call57 (fun w hw=>wc bad Vb w (hw.slF hB') (by omega)) rfl (fun V23=>?_)
  refine cn (.head _) (fun pb cb hpv=>?_)
  subst hpv
  refine aC ?_
  refine zz4 4 rfl (aI (vs:=[(0,_),(3,_)]) rfl rfl rfl) ?_
  refine au 6 rfl ?_
  refine zz8 rfl rfl cR ?_
  refine aC ?_
  refine fg (aS ?_)
  refine aT (_,_,_) (o:=trivial)
 obtain ⟨b17,pb,cb⟩:=i
 replace hi:True:=hi
 change Tr _ _ [cellE b17 [(.slice pa1 kp.length pc1),nS,nS,(.slice pb bad.length cb)] 52,rowE (.slice pb bad.length cb) 23 aa bad,rowE Vr 23 aa (pm lc kp),cellE b7 [(.slice pa1 kp.length pc1)] 50,rowE (.slice pa1 kp.length pc1) 36 al kp,rowE V6 36 al (dJ (fZ ents tm) lc),cellE b5 [.func (.func 75) #[] #[.pointer (some ⟨b1,0,none⟩),.pointer (some ⟨b4,0,none⟩)]] 153,cellE b4 [.map (some bmap)] 141,mapE bmap dw tm,rowE V3 36 al lc,cellE b2 [nS,nS,nS,nS] 52,cellE b1 [Vi,Ve,Vu,Vb] 52] ([(17,.pointer (some ⟨b17,0,none⟩))] ++ _) _
 refine zR2 ?_
 skip
 refine zR8 ?_
 refine ay 23 aa ?_
 refine cT (ι:=Nat × Value) (fun ⟨k,Ve2⟩=>k≤ents.length) (fun _=>_) (fun ⟨k,Ve2⟩=>[cellE b17 [(.slice pa1 kp.length pc1),Ve2,nS,(.slice pb bad.length cb)] 52,rowE Ve2 23 aa ((ents.take k).filter (inK kp)),rowE (.slice pb bad.length cb) 23 aa bad,rowE Vr 23 aa (pm lc kp),cellE b7 [(.slice pa1 kp.length pc1)] 50,rowE (.slice pa1 kp.length pc1) 36 al kp,rowE V6 36 al (dJ (fZ ents tm) lc),cellE b5 [.func (.func 75) #[] #[.pointer (some ⟨b1,0,none⟩),.pointer (some ⟨b4,0,none⟩)]] 153,cellE b4 [.map (some bmap)] 141,mapE bmap dw tm,rowE V3 36 al lc,cellE b2 [nS,nS,nS,nS] 52,cellE b1 [Vi,Ve,Vu,Vb] 52]) (fun ⟨k,Ve2⟩=>[(82,.int .i64 (k:Nat))]) (fun ⟨k,Ve2⟩=>ents.length - k) (0,_) (Nat.zero_le _) (Front.c Front.nil) (fun i hi m hm=>?_)
 obtain ⟨k,Ve2⟩:=i
 dsimp only at hi hm
 conv=>enter [3]; dsimp only
 conv=>enter [4,1]; dsimp only
 have hfl:=List.length_filter_le (inK kp) (ents.take k)
 rw [List.length_take] at hfl
 refine zR6 ?_
 refine ab rfl ?_ ?_<;>intro h24
 ·refine mN ?_
  refine zz0 (i6 rfl rfl call85 (fun w hw=>qI (ents.getD k default) kp _ b7 w (cellE.cellsIn (hw.ent _ (by repeat constructor)) (Ext.refl _)) hw.rM)) (zR2 ?_)
  refine ab rfl ?_ ?_<;>intro h25
  ·refine zR4 ?_
   refine fM (E:=aa) _ rfl rfl am ar bj (fun V26=>?_)
   refine zz3 rfl rfl am cp (fun V27=>?_)
   refine cn (.head _) (fun pz qz hpv=>?_)
   subst hpv
   refine zz0 (bE rfl) (zz1 (cs':=[_,_,_,_]) rfl rfl eS rfl ?_)
   refine zR8 ?_
   rw [← kS (by omega) (by assumption)]
   refine aP (k+1,_) (o:=(by show k+1≤_; omega))
  refine zR8 ?_
  rw [← kT (p:=inK kp) (by omega) (by assumption)]
  refine aP (k+1,_) (o:=(by show k+1≤_; omega))
 refine zR7 ?_
 obtain rfl:k=ents.length:=by omega
 rw [List.take_length] at *
 refine eV (V:=Ve2) (fun pa3 pc3 hpv=>?_)
 subst hpv
 refine zR8 ?_
 refine ay 23 aa ?_
 refine cT (ι:=Nat × Value) (fun ⟨k,Vu2⟩=>k≤unk.length) (fun _=>_) (fun ⟨k,Vu2⟩=>[cellE b17 [(.slice pa1 kp.length pc1),(.slice pa3 (ents.filter (inK kp)).length pc3),Vu2,(.slice pb bad.length cb)] 52,rowE Vu2 23 aa ((unk.take k).filter (inK kp)),rowE (.slice pa3 (ents.filter (inK kp)).length pc3) 23 aa (ents.filter (inK kp)),rowE (.slice pb bad.length cb) 23 aa bad,rowE Vr 23 aa (pm lc kp),cellE b7 [(.slice pa1 kp.length pc1)] 50,rowE (.slice pa1 kp.length pc1) 36 al kp,rowE V6 36 al (dJ (fZ ents tm) lc),cellE b5 [.func (.func 75) #[] #[.pointer (some ⟨b1,0,none⟩),.pointer (some ⟨b4,0,none⟩)]] 153,cellE b4 [.map (some bmap)] 141,mapE bmap dw tm,rowE V3 36 al lc,cellE b2 [nS,nS,nS,nS] 52,cellE b1 [Vi,Ve,Vu,Vb] 52]) (fun ⟨k,Vu2⟩=>[(99,.int .i64 (k:Nat))]) (fun ⟨k,Vu2⟩=>unk.length - k) (0,_) (Nat.zero_le _) (Front.c Front.nil) (fun i hi m hm=>?_)
 obtain ⟨k,Vu2⟩:=i
 dsimp only at hi hm
 conv=>enter [3]; dsimp only
 conv=>enter [4,1]; dsimp only
 have hfl:=List.length_filter_le (inK kp) (unk.take k)
 rw [List.length_take] at hfl
 refine zR6 ?_
 refine ab rfl ?_ ?_<;>intro h28
 ·refine mN ?_
  refine zz0 (i6 rfl rfl call85 (fun w hw=>qI (unk.getD k default) kp _ b7 w (cellE.cellsIn (hw.ent _ (by repeat constructor)) (Ext.refl _)) hw.rM)) (zR2 ?_)
  refine ab rfl ?_ ?_<;>intro h29
  ·refine zR4 ?_
   refine fM (E:=aa) _ rfl rfl am ar bj (fun V30=>?_)
   refine zz3 rfl rfl am cp (fun V31=>?_)
   refine cn (.head _) (fun pz qz hpv=>?_)
   subst hpv
   refine zz0 (bE rfl) (zz1 (cs':=[_,_,_,_]) rfl rfl eS rfl ?_)
   refine zR8 ?_
   rw [← kS (by omega) (by assumption)]
   refine aP (k+1,_) (o:=(by show k+1≤_; omega))
  refine zR8 ?_
  rw [← kT (p:=inK kp) (by omega) (by assumption)]
  refine aP (k+1,_) (o:=(by show k+1≤_; omega))
 refine zR6 ?_
 obtain rfl:k=unk.length:=by omega
 rw [List.take_length] at *
 refine eV (V:=Vu2) (fun pa4 pc4 hpv=>?_)
 subst hpv
 refine zR3 ?_
 refine zz8 rfl rfl cR ?_
 refine zR5 ?_
 refine vn results29 rfl rfl j5 cR (fun w' hw=>?_)
 subst hkp htm hlc
 exact ⟨(_,_,_,_,_),rfl,hw.b0,hw.ents (w:=w0) (Bg.le.refl _) (by repeat' constructor)⟩
theorem CY (i:Ins) (w:World) :
  Cr prog 137 #[.agg (al.enc i).toArray] w (.bool (uO i.op)):=by
 refine En f137 rfl rfl (zR2 ?_)
 refine bJ rfl rfl (fun b1=>zR9 ?_)
 refine cZ 4 6 10 (h2:=?_)
 refine zz0 (af rfl) ?_
 refine cZ 4 11 15 (h2:=zR4 ?_)
 exact aD (e:=by unfold uO; congr 2; rw [Bool.eq_iff_iff]; simp [or_assoc])
theorem Ln (i:Ins) (w:World) (hI:InsOK i) :
  Calls prog 136 #[.agg (al.enc i).toArray] w (fun e w'=>∃ V',e=.returned V'∧Ext w w'∧dY w w' 23 aa (bW i) V'):=by
 refine En f136 rfl rfl (zR2 ?_)
 refine bJ rfl rfl (fun b1=>zR7 ?_)
 refine zz0 (aK rfl (fun w hw=>l5 i w hI)) (zR3 ?_)
 refine ab rfl ?_ ?_<;>intro h2
 ·refine bB (ay 23 aa (zR6 ?_))
  exact aM results136 rfl fun w' hw=>⟨_,rfl,hw.b0,by rw [show bW i=[] by unfold bW; rw [if_neg (by simp_all)]]; exact hw.new (.head _)⟩
 refine zR3 ?_
 refine ay 23 aa (zR4 ?_)
 refine dZ (.of (ι:=Value) (fun V1=>True) (fun _=>Bg.of w) (fun V1=>[rowE V1 23 aa (if (bG i).2=true then [(bG i).1] else []),cellE b1 (al.enc i) 36]) (fun V1=>[(3,V1)])) ?_ (fun V1 hi=>?_)
 ·skip
  refine zR3 ?_
  refine zz0 (ak rfl (tt i)) (df ?_)
  refine ab rfl ?_ ?_<;>intro h3
  ·refine zR3 ?_
   refine fM (E:=aa) (bG i).1 rfl rfl am ar bj (fun V4=>?_)
   refine zz3 rfl rfl am cp (fun V5=>?_)
   refine zR3 ?_
   refine dQ (l':=if (bG i).2=true then [(bG i).1] else []) (by rw [if_pos (by assumption)]; rfl) ?_
   refine aT _ (o:=trivial)
  refine j8 (dQ (l':=if (bG i).2=true then [(bG i).1] else []) (by rw [if_neg (by simp_all)]) ?_)
  refine aT _ (o:=trivial)
 skip
 have htl:(if (bG i).2=true then [(bG i).1] else []).length≤1:=by split<;>simp
 refine dZ (.of (ι:=Value) (fun V2=>True) (fun _=>Bg.of w) (fun V2=>[rowE V2 23 aa ((if (bG i).2=true then [(bG i).1] else []) ++ (if jf i=true then [] else [jT i])),cellE b1 (al.enc i) 36]) (fun V2=>[(3,V2)])) ?_ (fun V2 hi=>?_)
 ·skip
  refine zR3 ?_
  refine zz0 (ak rfl (Fz i)) (zR3 ?_)
  refine ab rfl ?_ ?_<;>intro h6
  ·refine zR3 ?_
   refine zz0 (aK rfl (fun w hw=>EL i w hI)) ?_
   refine fM (E:=aa) (jT i) rfl rfl am ar bj (fun V7=>?_)
   refine zz3 rfl rfl am cp (fun V8=>?_)
   refine zR3 ?_
   refine dQ (l':=(if (bG i).2=true then [(bG i).1] else []) ++ (if jf i=true then [] else [jT i])) (by rw [if_neg (c:=jf i=true) (by simp_all)]) ?_
   refine aT _ (o:=trivial)
  refine j8 (dQ (l':=(if (bG i).2=true then [(bG i).1] else []) ++ (if jf i=true then [] else [jT i])) (by rw [if_pos (c:=jf i=true) (by simp_all),List.append_nil]) ?_)
  refine aT _ (o:=trivial)
 skip
 refine zR7 ?_
 exact aM results136 rfl fun w' hw=>⟨_,rfl,hw.b0,by rw [show bW i=_ by unfold bW; rw [if_pos (by simp_all)]]; exact hw.new (.head _)⟩
theorem OY (l:List SecV) (V:Value) (a:UInt32) (w:World) (hV:Sl (hp w) bP l V) (hB:SecB l) (hD:DataIn (hp w) l) :
  Cr prog 68 #[V,.int .u32 a.toNat] w (.tuple #[.agg (al.enc (atP l a).1).toArray,.bool (atP l a).2]):=by
 have hV':Sl (Bg.of w).blk bP l V:=hV
 have hlen:=hB.1
 have hf:=j1 (l:=l) (a:=a)
 have ha:=a.toNat_lt
 refine En f68 rfl rfl (zR2 ?_)
 refine bH aF rfl (fun b1=>zR7 ?_)
 refine zz0 (aK rfl (fun w hw=>uX l V a w (hw.slF hV') hB)) (zR9 ?_)
 apply gJ 7 15 22 (fun hF2 hF2'=>?_) ?_; rotate_right
 ·refine zR4 ?_
  refine zz5 hF2 (jO rfl nJ) ?_
  exact zE
 refine zR2 ?_
 refine ab rfl ?_ ?_<;>intro h3
 ·refine dx (zz0 (aI (vs:=[]) rfl rfl (gm)) (zR6 ?_))
  exact fL (e:=by unfold atP; rw [if_pos (by unfold CG; simp_all)]; rfl)
 refine zR3 ?_
 have hna:CG l a=false:=by unfold CG; rw [Bool.or_eq_false_iff]; exact ⟨decide_eq_false h3.1,by rw [h3.2]; rfl⟩
 have hin:=oN.1 (qb (l:=l) (a:=a) (by omega))
 have hen:m0 (l.getD (bL l a).toNat default)≤((l.getD (bL l a).toNat default).addr.toNat:Int)+(l.getD (bL l a).toNat default).data.length:=by unfold m0; omega
 have hsub:(a - (l.getD (bL l a).toNat default).addr).toNat=a.toNat - (l.getD (bL l a).toNat default).addr.toNat:=UInt32.toNat_sub_of_le _ _ (UInt32.le_iff_toNat_le.2 hin.1)
 have hdl:=hB.at (k:=(bL l a).toNat) (by omega)
 have hDk:Sl (Bg.of w).blk cd (l.getD (bL l a).toNat default).data (.slice (l.getD (bL l a).toNat default).dp (l.getD (bL l a).toNat default).data.length (l.getD (bL l a).toNat default).dc):=hD _ (ba (by omega))
 refine eU ah (zT4 ?_)
 refine aw (jO rfl j6) (zT5 ?_)
 refine aw (jO rfl co) (aw (gK rfl rfl) ?_)
 refine aw (rr (lv:=some (_,_)) (hv:=none) rfl rfl rfl an bA) (zT4 ?_)
 have hs1:=Sl.resl (l:=(a - (l.getD (bL l a).toNat default).addr).toNat) (h:=(l.getD (bL l a).toNat default).data.length) hDk (by omega) (Nat.le_refl _)
 rw [List.take_length] at hs1
 have hs1l:(List.drop (a - (l.getD (bL l a).toNat default).addr).toNat (l.getD (bL l a).toNat default).data).length=(l.getD (bL l a).toNat default).data.length - (a - (l.getD (bL l a).toNat default).addr).toNat:=List.length_drop
 have hs3:=Sl.resl (l:=0) (h:=(min (((l.getD (bL l a).toNat default).data.drop (a - (l.getD (bL l a).toNat default).addr).toNat).length:Int) 6).toNat) hs1 (Nat.zero_le _) (by omega)
 rw [List.drop_zero,show ((l.getD (bL l a).toNat default).data.drop (a - (l.getD (bL l a).toNat default).addr).toNat).take (min (((l.getD (bL l a).toNat default).data.drop (a - (l.getD (bL l a).toNat default).addr).toNat).length:Int) 6).toNat=xh l a by unfold xh; rw [List.take_eq_take_iff]; omega] at hs3
 refine zR5 ?_
 refine zz0 (rr (lv:=none) (hv:=some (_,_)) rfl rfl rfl an bA) (zz0 (af rfl) ?_)
 refine zz0 (aK rfl (fun w hw=>HI (xh l a) _ a w (hw.slF hs3))) (zR3 ?_)
 refine bH aF rfl (fun b4=>jk ?_)
 exact fL (e:=by unfold atP; rw [if_neg (by simp [hna])]; rfl)
theorem HG (bw bi bb be bu:Nat) (VT VP:Value) (ts:List TabV) (at_:List UInt32) (a:UInt32) (w:World) (hcw:CellsIn (hp w) bw [.map (some bi),.map (some bb),.map (some be),.map (some bu),VT,VP]) (hT:Sl (hp w) dU ts VT) (hP:Sl (hp w) aa at_ VP) (hl:ts.length=at_.length) :
  Cr prog 138 #[.pointer (some ⟨bw,0,none⟩),.int .u32 a.toNat] w (.tuple #[pw ts at_ a,.bool (eY ts at_ a).isSome]):=by
 have hcw':CellsIn (Bg.of w).blk bw [.map (some bi),.map (some bb),.map (some be),.map (some bu),VT,VP]:=hcw
 have hT':Sl (Bg.of w).blk dU ts VT:=hT
 have hP':Sl (Bg.of w).blk aa at_ VP:=hP
 have hib:=jY (fun x=>decide (a=x)) at_ 0
 refine En f138 rfl rfl (cj ?_)
 refine zz0 (nL rfl isAgg31) (zz0 (af rfl) ?_)
 refine zz0 (aK rfl (fun w hw=>Br at_ VP a w (hw.slF hP'))) (bR ?_)
 refine ab rfl ?_ ?_<;>intro h1
 ·refine zR8 ?_
  exact dR (e:=by rw [vL (by omega),vM (by omega)]; rfl)
 refine zR7 ?_
 refine zz0 (nL rfl isAgg53) (zR8 ?_)
 exact dR (e:=by rw [tJ (by omega),tK (by omega)]; rfl)
theorem HD (bw bi bb be bu:Nat) (VT VP:Value) (ts:List TabV) (at_:List UInt32) (i:Ins) (ents unk:List (UInt32 × Bool)) (w:World) (ho:OwnAt w [mapE be dw ents,mapE bu dw unk]) (hcw:CellsIn (Bg.lessB w [be,bu] 0).blk bw [.map (some bi),.map (some bb),.map (some be),.map (some bu),VT,VP]) (hT:Sl (Bg.lessB w [be,bu] 0).blk dU ts VT) (hTI:TabIn (Bg.lessB w [be,bu] 0).blk ts) (hTB:nf ts) (hP:Sl (Bg.lessB w [be,bu] 0).blk aa at_ VP) (hl:ts.length=at_.length) (hI:InsOK i) :
  Calls prog 69 #[.pointer (some ⟨bw,0,none⟩),.agg (al.enc i).toArray] w (fun e w'=>∃ V:Value,e=.returned V∧Upd 0 w w' (cx [mapE be dw ents,mapE bu dw unk]) [rowE V 23 aa (iJ ts at_ i),mapE be dw (iI ents (eH ts at_ i)),mapE bu dw (if k6 ts at_ i=true then fG unk i.addr true else unk)]∧True):=by
 have hKS:=yX hTI hTB (at_:=at_) (a:=i.addr) hl
 have hkl:=pT hTB at_ i.addr
 have hsl:=ir i
 refine tN (L:=[mapE be dw ents,mapE bu dw unk]) ho rfl (Nat.zero_le _) func69 rfl ntmps69 rfl (zR2 ?_)
 refine bJ rfl rfl (fun b1=>zR6 ?_)
 refine cE rfl call136 (fun w hw=>Ln i w hI) rfl (fun V2=>zR3 ?_)
 refine dZ (.of (ι:=List (UInt32 × Bool)) (fun m1=>m1=(if i.op=23 then fG ents i.imm true else ents)) (fun _=>(Bg.lessB w [be,bu] 0)) (fun m1=>[rowE V2 23 aa (bW i),mapE be dw m1,mapE bu dw unk,cellE b1 (al.enc i) 36]) (fun m1=>[])) ?_ (fun m1 hi=>?_)
 ·skip
  refine zR7 ?_
  refine ab rfl ?_ ?_<;>intro h3
  ·refine dO 0 6 ah ?_
   refine ax (zT3 ?_)
   refine aw (nL rfl gk) (zT3 ?_)
   refine gY true rfl rfl rfl (by repeat constructor) dP ac rfl (zR2 ?_)
   refine aT _ (o:=(by show _=_; rw [if_pos (by assumption)]))
  refine zR2 ?_
  refine aT _ (o:=(by show _=_; rw [if_neg (by assumption)]))
 skip
 have hm1:=hi
 refine zR4 ?_
 refine zz0 (ak rfl (CY i)) (zR3 ?_)
 refine ab rfl ?_ ?_<;>intro h4
 ·refine zR8 ?_
  refine aM results69 rfl (fun w' hw=>?_)
  have hb1:iJ ts at_ i=bW i:=by unfold iJ; rw [if_neg (by simp_all),List.append_nil]
  have hb2:iI ents (eH ts at_ i)=m1:=HQ hm1 (by simp_all)
  have hb3:k6 ts at_ i=false:=by unfold k6; simp_all
  exact ⟨_,rfl,by rw [hb1,hb2,hb3,if_neg (by decide)]; exact hw.upd (Bg.le.refl _) (by repeat' constructor),trivial⟩
 refine zR7 ?_
 refine zz0 (aK rfl (fun w hw=>HG bw bi bb be bu VT VP ts at_ i.addr w (hcw.mono hw.bg) (hw.slF hT) (hw.slF hP) hl)) (zR7 ?_)
 refine dZ (.of (ι:=List (UInt32 × Bool)) (fun u1=>u1=(if (eY ts at_ i.addr).isSome=true then unk else fG unk i.addr true)) (fun _=>(Bg.lessB w [be,bu] 0)) (fun u1=>[rowE V2 23 aa (bW i),mapE be dw m1,mapE bu dw u1,cellE b1 (al.enc i) 36]) (fun u1=>[])) ?_ (fun u1 hi=>?_)
 ·skip
  refine zR6 ?_
  refine ab rfl ?_ ?_<;>intro h5
  ·refine dO 0 6 ah ?_
   refine ax (zT3 ?_)
   refine aw (nL rfl gk) (zT3 ?_)
   refine gY true rfl rfl rfl (by repeat constructor) dP ac rfl (zR2 ?_)
   refine aT _ (o:=(by show _=_; rw [if_neg (by simp_all)]))
  refine zR2 ?_
  refine aT _ (o:=(by show _=_; rw [if_pos (by assumption)]))
 skip
 have hu1:=hi
 refine dZ (.of (ι:=List (UInt32 × Bool)) (fun m2=>m2=if i.op=24 then iI m1 ((eY ts at_ i.addr).getD []) else m1) (fun _=>(Bg.lessB w [be,bu] 0)) (fun m2=>[rowE V2 23 aa (bW i),mapE be dw m2,mapE bu dw u1,cellE b1 (al.enc i) 36]) (fun m2=>[])) ?_ (fun m2 hi=>?_)
 ·skip
  refine zR7 ?_
  refine ab rfl ?_ ?_<;>intro h6
  ·refine zR8 ?_
   refine cP (.of (ι:=Nat) (fun k=>k≤((eY ts at_ i.addr).getD []).length) (fun _=>(Bg.lessB w [be,bu] 0)) (fun k=>[rowE V2 23 aa (bW i),mapE be dw (iI m1 (((eY ts at_ i.addr).getD []).take k)),mapE bu dw u1,cellE b1 (al.enc i) 36]) (fun k=>[(45,.int .i64 (k:Nat))]) (fun k=>((eY ts at_ i.addr).getD []).length - k)) 0 (Nat.zero_le _) (Front.c Front.nil) (fun k hi m hm=>zR6 ?_)
   refine ab rfl ?_ ?_<;>intro h7
   ·refine mN ?_
    refine zz0 (nL rfl gk) (zz0 (af rfl) ?_)
    refine gY true rfl rfl rfl (by repeat constructor) dP ac rfl (zR8 ?_)
    rw [← yO,← bN (by omega)]
    refine aP (k+1) (o:=(by show k+1≤_; omega))
   refine zR5 ?_
   refine aT _ (o:=(by show _=_; rw [if_pos (by assumption),List.take_of_length_le (by omega)]))
  refine zR2 ?_
  refine aT _ (o:=(by show _=_; rw [if_neg (by assumption)]))
 skip
 have hm2:=hi
 refine zR4 ?_
 refine B8 rfl rfl (by repeat constructor) (fun w hw=>hw.slF (by assumption)) am cp (fun V8=>?_)
 refine zR4 ?_
 refine aM results69 rfl (fun w' hw=>?_)
 have hb1:iJ ts at_ i=bW i ++ ((eY ts at_ i.addr).getD []):=by unfold iJ; rw [if_pos (by simp_all)]
 have hb2:iI ents (eH ts at_ i)=m2:=Nq hm1 hm2 (by simp_all)
 have hb3:(if k6 ts at_ i=true then fG unk i.addr true else unk)=u1:=N3 hu1 (by simp_all)
 exact ⟨_,rfl,by rw [hb1,hb2,hb3]; exact hw.upd (Bg.le.refl _) (by repeat' constructor),trivial⟩
theorem walk_any (l:List SecV) (ts:List TabV) (at_ es:List UInt32) (V VE VT VP:Value) (w:World) (hV:Sl (hp w) bP l V) (hB:SecB l) (hD:DataIn (hp w) l) (hN:∀ s∈l,s.name.size≤140737488351232) (hE:Sl (hp w) aa es VE) (hT:Sl (hp w) dU ts VT) (hTI:TabIn (hp w) ts) (hTB:nf ts) (hP:Sl (hp w) aa at_ VP) (ht:totD l≤600) (hel:es.length≤100) :
  Calls prog 28 #[V,VE,VT,VP] w (fun e w'=>∃ i:((Value × Value × Value × Value) × CodeP × Int),e=.returned ((fun i:((Value × Value × Value × Value) × CodeP × Int)=>.tuple #[.agg #[i.1.1,i.1.2.1,i.1.2.2.1,i.1.2.2.2],.int .i64 i.2.2]) i)∧Below w.heap.size w w'∧NewEnts w w' ((fun i:((Value × Value × Value × Value) × CodeP × Int)=>[rowE i.1.1 36 al i.2.1.ins,rowE i.1.2.1 23 aa i.2.1.ents,rowE i.1.2.2.1 23 aa i.2.1.unk,rowE i.1.2.2.2 23 aa i.2.1.bad]) i)∧WalkIs l ts at_ es i.2.1 i.2.2):=by
 obtain ⟨ta,tc,hvt,_⟩:=hT.shape
 subst hvt
 obtain ⟨pa,pc,hvp,_⟩:=hP.shape
 subst hvp
 have hV0:Sl (Bg.of0 w).blk bP l V:=hV
 have hD0:DataIn (Bg.of0 w).blk l:=hD
 have hE0:Sl (Bg.of0 w).blk aa es VE:=hE
 have hT0:Sl (Bg.of0 w).blk dU ts (.slice ta ts.length tc):=hT
 have hTI0:TabIn (Bg.of0 w).blk ts:=hTI
 have hP0:Sl (Bg.of0 w).blk aa at_ (.slice pa at_.length pc):=hP
 refine lP func28 rfl ntmps28 rfl (zR2 ?_)
 refine bH ed rfl (fun b1=>jk ?_)
 refine ab rfl ?_ ?_<;>intro h2
 ·refine bB (ay 36 al ?_)
  refine ay 23 aa ?_
  refine ay 23 aa ?_
  refine ay 23 aa (cC ?_)
  refine zz0 (aI (vs:=[]) rfl rfl (sy)) ?_
  refine zz8 rfl rfl cR ?_
  refine zR6 ?_
  refine vn results28 rfl rfl j5 cR (fun w' hw=>?_)
  exact ⟨((nS,nS,nS,nS),⟨[],[],[],[]⟩,2),rfl,hw.below0 (Bg.le.refl _),hw.ents0 rfl (by repeat' constructor),.arg (by show ts.length≠at_.length; omega) rfl rfl⟩
 refine zR6 ?_
 refine zz0 (aK rfl (fun w hw=>wd l V w (hw.slF hV0) hB (fun s hs=>by have:=hN s hs; omega))) (zR9 ?_)
 refine ab rfl ?_ ?_<;>intro h3
 ·refine bB (ay 36 al ?_)
  refine ay 23 aa ?_
  refine ay 23 aa ?_
  refine ay 23 aa (cC ?_)
  refine zz0 (aI (vs:=[]) rfl rfl (sy)) (zz0 (af rfl) ?_)
  refine zz8 rfl rfl cR ?_
  refine zR6 ?_
  refine vn results28 rfl rfl j5 cR (fun w' hw=>?_)
  exact ⟨((nS,nS,nS,nS),⟨[],[],[],[]⟩,fV l),rfl,hw.below0 (Bg.le.refl _),hw.ents0 rfl (by repeat' constructor),.chk (by show ts.length=at_.length; omega) (by assumption) rfl rfl⟩
 refine zR3 ?_
 have hl:ts.length=at_.length:=by omega
 refine cC (ij zb rfl (fun b4=>?_))
 refine ij dw rfl (fun b5=>?_)
 refine ij dw rfl (fun b6=>?_)
 refine ij dw rfl (fun b7=>zR2 ?_)
 refine zz0 (aI (vs:=[(0,_),(1,_),(2,_),(3,_),(4,_),(5,_)]) (cs:=#[.map (some b4),.map (some b5),.map (some b6),.map (some b7),(.slice ta ts.length tc),(.slice pa at_.length pc)]) rfl rfl (by kernel_rfl)) ?_
 refine bJ (cs:=[.map (some b4),.map (some b5),.map (some b6),.map (some b7),(.slice ta ts.length tc),(.slice pa at_.length pc)]) rfl rfl (fun b8=>?_)
 refine zP (b:=b8) (by repeat constructor) (fun F1 hF1 hcw=>?_)
 have hV1:=hV0.mono hF1.blk
 have hD1:=hD0.mono hF1.blk
 have hE1:=hE0.mono hF1.blk
 have hT1:=hT0.mono hF1.blk
 have hTI1:=hTI0.mono hF1.blk
 have hP1:=hP0.mono hF1.blk
 refine df ?_
 refine cP (.of (ι:=Nat) (fun k=>k≤es.length) (fun _=>_) (fun k=>[mapE b6 dw (iI [] (es.take k)),mapE b4 zb [],mapE b5 dw [],mapE b7 dw [],cellE b1 [nS,nS,nS,nS] 52]) (fun k=>[(50,.int .i64 (k:Nat))]) (fun k=>es.length - k)) 0 (Nat.zero_le _) (Front.c Front.nil) (fun k hi m hm=>zR6 ?_)
 refine ab rfl ?_ ?_<;>intro h8
 ·refine mN ?_
  refine zz0 (eL rfl hcw gk (by rfl)) (zz0 (af rfl) ?_)
  refine gY true rfl rfl rfl (by repeat constructor) dP ac rfl (zR8 ?_)
  rw [← yO,← bN (by omega)]
  refine aP (k+1) (o:=(by show k+1≤_; omega))
 refine zR6 ?_
 obtain rfl:k=es.length:=by omega
 rw [List.take_length]
 refine cC (zz0 (af rfl) (cE rfl call57 (fun w hw=>wc es VE w (hw.slF hE1) (by omega)) rfl (fun V9=>gB ?_)))
 refine cT (ι:=DSt × Value) (fun ⟨s,Vr⟩=>DInv l ts at_ es s) (fun _=>_) (fun ⟨s,Vr⟩=>[rowE Vr 23 aa s.rest,mapE b4 zb s.ins,mapE b5 dw s.bad,mapE b6 dw s.ents,mapE b7 dw s.unk,cellE b1 [nS,nS,nS,nS] 52]) (fun ⟨s,Vr⟩=>[(14,Vr),(15,.bool false)]) (fun ⟨s,Vr⟩=>(601 - s.ins.length) * 70+s.rest.length) (⟨[],[],iI [] es,[],es⟩,_) DInv.begin (Front.c (Front.c Front.nil)) (fun i hi m hm=>?_)
 obtain ⟨s,Vr⟩:=i
 dsimp only at hi hm
 conv=>enter [3]; dsimp only
 conv=>enter [4,1]; dsimp only
 have hinv:=hi
 have hic:=hinv.count
 have hil:=hinv.lRest
 refine zR8 ?_
 refine ab rfl ?_ ?_<;>intro h10
 ·refine cj ?_
  obtain ⟨a,ha⟩:∃ a,a=s.rest.getD ((s.rest.length:Int) - 1).toNat default:=⟨_,rfl⟩
  obtain ⟨r,hre⟩:∃ r,r=s.rest.take ((s.rest.length:Int) - 1).toNat:=⟨_,rfl⟩
  have hr:s.rest=r ++ [a]:=by rw [ha,hre]; exact Hr (by omega)
  have hrl:r.length+1=s.rest.length:=by rw [hr,List.length_append]; rfl
  rw [← ha]
  refine zR9 ?_
  refine KQ rfl (by repeat constructor) rfl am ar (by omega) rfl (fun Vr2=>?_)
  rw [← hre]
  refine zR9 ?_
  refine zz0 (eL rfl hcw j7 (by rfl)) (zz0 (af rfl) ?_)
  refine zz0 (Ip rfl rfl (by repeat constructor) fX ac aF (by rfl)) (zR3 ?_)
  refine bH aF rfl (fun b11=>zR8 ?_)
  apply gJ 7 86 93 (fun hF12 hF12'=>?_) ?_; rotate_right
  ·refine zz5 hF12 (af rfl) (zz5 hF12 (ke rfl) (zz5 hF12 (bE rfl) ?_))
   refine zz5 hF12 (eL rfl hcw gk (by rfl)) (zz5 hF12 (af rfl) ?_)
   refine zz5 hF12 (GA rfl rfl (by repeat constructor) dP ac pB) ?_
   exact zE
  refine zR2 ?_
  refine ab rfl ?_ ?_<;>intro h13
  ·refine zR4 ?_
   apply dn (⟨s.ins,s.bad,s.ents,s.unk,r⟩,_)
   ·exact rfl
   ·exact (Front.c (Front.c Front.nil))
   ·exact zz9 32 rfl
   ·exact (by repeat' constructor)
   ·exact (hinv.skip hr (Ef (by assumption)))
   exact (by show (601 - s.ins.length) * 70+r.length<m; omega)
  refine zR6 ?_
  refine zz0 (aK rfl (fun w hw=>OY l V a w (hw.slF hV1) hB (hD1.mono hw.bg))) (zR3 ?_)
  refine bH aF rfl (fun b14=>cj ?_)
  refine ab rfl ?_ ?_<;>intro h15
  ·refine zR5 ?_
   refine zz0 (eL rfl hcw gk (by rfl)) (zz0 (af rfl) ?_)
   refine gY true rfl rfl rfl (by repeat constructor) dP ac rfl (zR6 ?_)
   apply dn (⟨s.ins,fG s.bad a true,s.ents,s.unk,r⟩,_)
   ·exact rfl
   ·exact (Front.c (Front.c Front.nil))
   ·exact zz9 47 rfl
   ·exact (by repeat' constructor)
   ·exact (hinv.isBad hr (by assumption))
   exact (by show (601 - s.ins.length) * 70+r.length<m; omega)
  refine zR3 ?_
  have hok:(atP l a).2=true:=by assumption
  have hnk:a ∉ s.ins.map (·.1):=IA (by assumption)
  have hinv2:=DInv.found hTB hinv hr hok hnk
  have hct:(fG s.ins a (atP l a).1).length≤totD l:=hinv2.count
  have hml:=uH (l:=s.ins) (k:=a) (by cases hq:du s.ins a with|none=>rfl|some x=>exact absurd (CU hq) hnk) (atP l a).1
  have hml2:(fG s.ins a (atP l a).1).length=s.ins.length+1:=by rw [hml,List.length_append]; rfl
  have hld:=rS hTB at_ (atP l a).1
  refine dO 0 6 ah ?_
  refine ax (zT3 ?_)
  refine aw (eL rfl hcw j7 (by rfl)) (zT3 ?_)
  refine gY (atP l a).1 rfl rfl rfl (by repeat constructor) fX ac rfl (zR8 ?_)
  refine zz0 (eL rfl hcw j7 (by rfl)) ?_
  refine zz0 (KZ rfl (by repeat constructor) fX) (zR3 ?_)
  refine fk rfl ?_ ?_<;>intro h16<;>try simp only [bs] at h16
  ·first|contradiction|(exfalso; omega)|simp_all
  refine zR6 ?_
  refine jy (fun V:Value=>V) [mapE b6 dw s.ents,mapE b7 dw s.unk] (fun V=>[rowE V 23 aa (iJ ts at_ (atP l a).1),mapE b6 dw (iI s.ents (eH ts at_ (atP l a).1)),mapE b7 dw (if k6 ts at_ (atP l a).1=true then fG s.unk (atP l a).1.addr true else s.unk)]) (ok:=fun _=>True) (dd:=fun _=>0) rfl call69 (by repeat' constructor) (fun w hw=>Nat.le_of_eq hF1.dr) (fun w hw=>HD b8 b4 b5 b6 b7 (.slice ta ts.length tc) (.slice pa at_.length pc) ts at_ (atP l a).1 s.ents s.unk w (hw.own (by repeat' constructor)) (hcw.mono (show Hp.le F1.blk (Bg.lessB w [b6,b7] 0).blk from hw.lessB (Lo:=[mapE b6 dw s.ents,mapE b7 dw s.unk]) (by repeat' constructor))) (hT1.mono (show Hp.le F1.blk (Bg.lessB w [b6,b7] 0).blk from hw.lessB (Lo:=[mapE b6 dw s.ents,mapE b7 dw s.unk]) (by repeat' constructor))) (hTI1.mono (show Hp.le F1.blk (Bg.lessB w [b6,b7] 0).blk from hw.lessB (Lo:=[mapE b6 dw s.ents,mapE b7 dw s.unk]) (by repeat' constructor))) hTB (hP1.mono (show Hp.le F1.blk (Bg.lessB w [b6,b7] 0).blk from hw.lessB (Lo:=[mapE b6 dw s.ents,mapE b7 dw s.unk]) (by repeat' constructor))) hl (Nv l a)) rfl (fun V25 _=>?_)
  refine B8 rfl rfl (by repeat constructor) (fun w hw=>hw.row (by repeat constructor)) am cp (fun V17=>?_)
  refine zR4 ?_
  apply dn (stepD l ts at_ a s r,_)
  ·exact rfl
  ·exact (Front.c (Front.c Front.nil))
  ·exact zz9 60 rfl
  ·exact (by repeat' constructor)
  ·exact hinv2
  exact (by show (601 - (fG s.ins a (atP l a).1).length) * 70+(r ++ iJ ts at_ (atP l a).1).length<m; rw [List.length_append]; omega)
 refine zR7 ?_
 have hr0:s.rest=[]:=List.length_eq_zero_iff.1 (by omega)
 have hcode:=hinv.code hr0
 have hcnt:=hinv.count
 have hl1:=hinv.lRest
 have hl2:=hinv.lEnts
 have hl3:=hinv.lUnk
 refine zR4 ?_
 refine fk rfl ?_ ?_<;>intro h18<;>try simp only [bs] at h18
 ·first|contradiction|(exfalso; omega)|simp_all
 refine j8 (oo (b:=b4) (by repeat constructor) (fun F2 hF2 hmI=>?_))
 refine oo (b:=b5) (by repeat constructor) (fun F3 hF3 hmB=>?_)
 refine oo (b:=b6) (by repeat constructor) (fun F4 hF4 hmE=>?_)
 refine oo (b:=b7) (by repeat constructor) (fun F5 hF5 hmU5=>?_)
 have hmI5:=hmI.mono (hF3.trans (hF4.trans hF5)).blk
 have hmB5:=hmB.mono (hF4.trans hF5).blk
 have hmE5:=hmE.mono hF5.blk
 have hF15:=hF2.trans (hF3.trans (hF4.trans hF5))
 have hdr5:F5.dr=0:=hF15.dr.trans hF1.dr
 have hcw5:=hcw.mono hF15.blk
 refine gX (ι:=Value × Value × Nat) (fun ⟨Vu,Vb,bc⟩=>True) (fun _=>F5) (fun ⟨Vu,Vb,bc⟩=>[cellE bc [nS,nS,Vu,Vb] 52,rowE Vu 23 aa (hZ (s.unk.map (·.1))),rowE Vb 23 aa (hZ (s.bad.map (·.1))),cellE b1 [nS,nS,nS,nS] 52]) (fun ⟨Vu,Vb,bc⟩=>[(21,.pointer (some ⟨bc,0,none⟩))]) ?_ (fun i hi=>?_)
 ·skip
  refine bC ([cellE b1 [nS,nS,nS,nS] 52]) 13 rfl ah ?_
  refine zK [0,1,2] ?_
  refine jx 3 rfl (by kernel_rfl) (aY (lg cX)) (eL rfl hcw5 gk (by rfl)) ?_
  refine zK [5,6,7] ?_
  refine jx 8 rfl (by kernel_rfl) (aY (lg cX)) (eL rfl hcw5 gk (by rfl)) ?_
  refine m8 [4,11] (fun iq hq=>?_)
  rcases List.mem_cons.1 hq with rfl|hq
  ·skip
   refine cU rfl ?_
   refine dE (fun V:Value=>V) (fun V=>[rowE V 23 aa (hZ (s.unk.map (·.1)))]) (ok:=fun _=>True) (hdr5) rfl nK (fun w hw=>lz s.unk b7 w (hmU5.mono hw.bg) (by omega)) rfl (fun V28 _=>?_)
   refine eV (V:=V28) (fun pu cu hpv=>?_)
   subst hpv
   refine aC ?_
   refine m8 [9,11] (fun iq hq=>?_)
   rcases List.mem_cons.1 hq with rfl|hq
   ·skip
    refine cU rfl ?_
    refine dE (fun V:Value=>V) (fun V=>[rowE V 23 aa (hZ (s.bad.map (·.1)))]) (ok:=fun _=>True) (hdr5) rfl nK (fun w hw=>lz s.bad b5 w (hmB5.mono hw.bg) (by omega)) rfl (fun V29 _=>?_)
    refine eV (V:=V29) (fun pb cb hpv=>?_)
    subst hpv
    refine aC ?_
    refine jx 10 rfl (by kernel_rfl) (aY (lg cX)) (aI (vs:=[(2,_),(3,_)]) (cs:=#[nS,nS,.slice pu (hZ (s.unk.map (·.1))).length cu,.slice pb (hZ (s.bad.map (·.1))).length cb]) rfl rfl (by kernel_rfl)) ?_
    refine au 11 rfl ?_
    refine bH ed rfl (fun b19=>?_)
    refine aC ?_
    refine au 12 rfl ?_
    refine zz8 rfl rfl cR ?_
    refine aC ?_
    refine fg (aS ?_)
    refine aT (_,_,_) (o:=trivial)
   obtain rfl:=List.mem_singleton.1 hq
   refine cU rfl ?_
   refine bH ed rfl (fun b20=>?_)
   refine aC ?_
   refine au 9 rfl ?_
   refine dE (fun V:Value=>V) (fun V=>[rowE V 23 aa (hZ (s.bad.map (·.1)))]) (ok:=fun _=>True) (hdr5) rfl nK (fun w hw=>lz s.bad b5 w (hmB5.mono hw.bg) (by omega)) rfl (fun V29 _=>?_)
   refine eV (V:=V29) (fun pb cb hpv=>?_)
   subst hpv
   refine aC ?_
   refine jx 10 rfl (by kernel_rfl) (aY (lg cX)) (aI (vs:=[(2,_),(3,_)]) (cs:=#[nS,nS,.slice pu (hZ (s.unk.map (·.1))).length cu,.slice pb (hZ (s.bad.map (·.1))).length cb]) rfl rfl (by kernel_rfl)) ?_
   refine au 12 rfl ?_
   refine zz8 rfl rfl cR ?_
   refine aC ?_
   refine fg (aS ?_)
   refine aT (_,_,_) (o:=trivial)
  obtain rfl:=List.mem_singleton.1 hq
  refine cU rfl ?_
  refine bH ed rfl (fun b21=>?_)
  refine aC ?_
  refine au 4 rfl ?_
  refine dE (fun V:Value=>V) (fun V=>[rowE V 23 aa (hZ (s.unk.map (·.1)))]) (ok:=fun _=>True) (hdr5) rfl nK (fun w hw=>lz s.unk b7 w (hmU5.mono hw.bg) (by omega)) rfl (fun V28 _=>?_)
  refine eV (V:=V28) (fun pu cu hpv=>?_)
  subst hpv
  refine aC ?_
  refine au 9 rfl ?_
  refine dE (fun V:Value=>V) (fun V=>[rowE V 23 aa (hZ (s.bad.map (·.1)))]) (ok:=fun _=>True) (hdr5) rfl nK (fun w hw=>lz s.bad b5 w (hmB5.mono hw.bg) (by omega)) rfl (fun V29 _=>?_)
  refine eV (V:=V29) (fun pb cb hpv=>?_)
  subst hpv
  refine aC ?_
  refine jx 10 rfl (by kernel_rfl) (aY (lg cX)) (aI (vs:=[(2,_),(3,_)]) (cs:=#[nS,nS,.slice pu (hZ (s.unk.map (·.1))).length cu,.slice pb (hZ (s.bad.map (·.1))).length cb]) rfl rfl (by kernel_rfl)) ?_
  refine au 12 rfl ?_
  refine zz8 rfl rfl cR ?_
  refine aC ?_
  refine fg (aS ?_)
  refine aT (_,_,_) (o:=trivial)
 obtain ⟨Vu,Vb,bc⟩:=i
 replace hi:True:=hi
 change Tr _ _ [cellE bc [nS,nS,Vu,Vb] 52,rowE Vu 23 aa (hZ (s.unk.map (·.1))),rowE Vb 23 aa (hZ (s.bad.map (·.1))),cellE b1 [nS,nS,nS,nS] 52] ([(21,.pointer (some ⟨bc,0,none⟩))] ++ _) _
 refine zR6 ?_
 refine zz0 (eL rfl hcw5 j7 (by rfl)) ?_
 refine BY (fun i:Nat=>.func (.func 142) #[] #[.pointer (some ⟨i,0,none⟩)]) (R:=fun h i=>CellsIn h i [.map (some b4)]) (fun h h' i hh r=>r.mono hh) rfl call72 (fun w hw=>MD b4 w) rfl (fun i9 F9 hF9 hR9=>?_)
 have hmI9:=hmI5.mono hF9.blk
 have hmB9:=hmB5.mono hF9.blk
 have hcw9:=hcw5.mono hF9.blk
 refine dE (fun V:Value=>V) (fun V=>[rowE V 23 aa (hZ (s.ins.map (·.1)))]) (ok:=fun _=>True) (hF9.dr.trans hdr5) rfl call71 (fun w hw=>yq _ _ (s.ins.map (·.1)) s.ins.length (by omega) call142 (by rw [List.length_map]; omega) w (yY b4 i9 w (hmI9.mono hw.bg) (hR9.mono hw.bg))) rfl (fun V30 _=>?_)
 obtain ⟨ks,hks⟩:∃ ks,ks=hZ (s.ins.map (·.1)):=⟨_,rfl⟩
 rw [← hks]
 refine zR5 ?_
 refine ay 36 al ?_
 refine cT (ι:=Nat × Value) (fun ⟨k,Vi⟩=>k≤ks.length) (fun _=>_) (fun ⟨k,Vi⟩=>[rowE V30 23 aa ks,cellE bc [Vi,nS,Vu,Vb] 52,rowE Vi 36 al ((ks.take k).map fun a=>(atP l a).1),rowE Vu 23 aa (hZ (s.unk.map (·.1))),rowE Vb 23 aa (hZ (s.bad.map (·.1))),cellE b1 [nS,nS,nS,nS] 52]) (fun ⟨k,Vi⟩=>[(144,.int .i64 (k:Nat))]) (fun ⟨k,Vi⟩=>ks.length - k) (0,_) (Nat.zero_le _) (Front.c Front.nil) (fun i hi m hm=>?_)
 obtain ⟨k,Vi⟩:=i
 dsimp only at hi hm
 conv=>enter [3]; dsimp only
 conv=>enter [4,1]; dsimp only
 have hksl:ks.length≤600:=by rw [hks,uk,List.length_map]; omega
 have hkml:((ks.take k).map fun a=>(atP l a).1).length≤600:=by rw [List.length_map,List.length_take]; omega
 refine zR6 ?_
 refine ab rfl ?_ ?_<;>intro h22
 ·refine cj ?_
  have hga:(du s.ins (ks.getD k default)).getD bh=(atP l (ks.getD k default)).1:=PS hinv (by rw [← mW,← hks]; exact ba (by omega))
  refine bC ([cellE b1 [nS,nS,nS,nS] 52]) 12 rfl ah ?_
  refine zK [0,2,3,4] ?_
  refine jx 5 rfl (by kernel_rfl) (eF (aY (aY (eF (aY (lg cX)))))) (eL rfl hcw9 j7 (by rfl)) ?_
  refine zz4 6 rfl (af rfl) ?_
  refine m8 [1,7] (fun iq hq=>?_)
  rcases List.mem_cons.1 hq with rfl|hq
  ·skip
   refine cU rfl (zz0 (iF rfl) ?_)
   refine aC ?_
   refine au 7 rfl ?_
   refine zz0 (B1 rfl rfl (by assumption) fX ac aF (by rfl)) ?_
   rw [hga]
   refine aC ?_
   refine au 8 rfl ?_
   refine fM (E:=al) (atP l (ks.getD k default)).1 rfl rfl aR bV aF (fun V23=>?_)
   refine aC ?_
   refine au 9 rfl ?_
   refine zz3 rfl rfl aR fY (fun V24=>?_)
   refine cn (.head _) (fun pi ci hpv=>?_)
   subst hpv
   refine aC ?_
   refine zz4 10 rfl (bE rfl) ?_
   refine au 11 rfl ?_
   refine zz1 (cs':=[_,_,_,_]) rfl rfl m3 rfl ?_
   refine aC ?_
   refine fg (zR7 ?_)
   rw [pp (fun a=>(atP l a).1) (by omega)]
   refine aP (k+1,_) (o:=(by show k+1≤_; omega))
  obtain rfl:=List.mem_singleton.1 hq
  refine cU rfl ?_
  refine zz0 (B1 rfl rfl (by assumption) fX ac aF (by rfl)) ?_
  rw [hga]
  refine aC ?_
  refine m8 [1,8] (fun iq hq=>?_)
  rcases List.mem_cons.1 hq with rfl|hq
  ·skip
   refine cU rfl (zz0 (iF rfl) ?_)
   refine aC ?_
   refine au 8 rfl ?_
   refine fM (E:=al) (atP l (ks.getD k default)).1 rfl rfl aR bV aF (fun V25=>?_)
   refine aC ?_
   refine au 9 rfl ?_
   refine zz3 rfl rfl aR fY (fun V26=>?_)
   refine cn (.head _) (fun pi ci hpv=>?_)
   subst hpv
   refine aC ?_
   refine zz4 10 rfl (bE rfl) ?_
   refine au 11 rfl ?_
   refine zz1 (cs':=[_,_,_,_]) rfl rfl m3 rfl ?_
   refine aC ?_
   refine fg (zR7 ?_)
   rw [pp (fun a=>(atP l a).1) (by omega)]
   refine aP (k+1,_) (o:=(by show k+1≤_; omega))
  obtain rfl:=List.mem_singleton.1 hq
  refine cU rfl ?_
  refine fM (E:=al) (atP l (ks.getD k default)).1 rfl rfl aR bV aF (fun V27=>?_)
  refine aC ?_
  refine au 1 rfl (zz0 (iF rfl) ?_)
  refine aC ?_
  refine au 9 rfl ?_
  refine zz3 rfl rfl aR fY (fun V28=>?_)
  refine cn (.head _) (fun pi ci hpv=>?_)
  subst hpv
  refine aC ?_
  refine zz4 10 rfl (bE rfl) ?_
  refine au 11 rfl ?_
  refine zz1 (cs':=[_,_,_,_]) rfl rfl m3 rfl ?_
  refine aC ?_
  refine fg (zR7 ?_)
  rw [pp (fun a=>(atP l a).1) (by omega)]
  refine aP (k+1,_) (o:=(by show k+1≤_; omega))
 refine zR7 ?_
 obtain rfl:k=ks.length:=by omega
 rw [List.take_length]
 refine zR4 ?_
 refine zz0 (eL rfl hcw9 gk (by rfl)) ?_
 refine dE (fun V:Value=>V) (fun V=>[rowE V 23 aa (hZ (s.ents.map (·.1)))]) (ok:=fun _=>True) (hF9.dr.trans hdr5) rfl nK (fun w hw=>lz s.ents b6 w ((hmE5.mono hF9.blk).mono hw.bg) (by omega)) rfl (fun V31 _=>?_)
 obtain ⟨se,hse⟩:∃ se,se=hZ (s.ents.map (·.1)):=⟨_,rfl⟩
 rw [← hse]
 refine zR5 ?_
 refine ay 23 aa ?_
 refine cT (ι:=Nat × Value) (fun ⟨j,Ve⟩=>j≤se.length) (fun _=>_) (fun ⟨j,Ve⟩=>[rowE V31 23 aa se,cellE bc [Vi,Ve,Vu,Vb] 52,rowE Ve 23 aa ((se.take j).filter fun a=>(du s.ins a).isSome),rowE Vi 36 al ((ks).map fun a=>(atP l a).1),rowE Vu 23 aa (hZ (s.unk.map (·.1))),rowE Vb 23 aa (hZ (s.bad.map (·.1))),cellE b1 [nS,nS,nS,nS] 52]) (fun ⟨j,Ve⟩=>[(166,.int .i64 (j:Nat))]) (fun ⟨j,Ve⟩=>se.length - j) (0,_) (Nat.zero_le _) (Front.c Front.nil) (fun i hi m hm=>?_)
 obtain ⟨j,Ve⟩:=i
 dsimp only at hi hm
 conv=>enter [3]; dsimp only
 conv=>enter [4,1]; dsimp only
 have hsel:se.length≤50000:=by rw [hse,uk,List.length_map]; omega
 have hfl:((se.take j).filter fun a=>(du s.ins a).isSome).length≤50000:=Nat.le_trans (List.length_filter_le _ _) (by rw [List.length_take]; omega)
 refine zR6 ?_
 refine ab rfl ?_ ?_<;>intro h29
 ·refine pf ?_
  refine zz0 (eL rfl hcw9 j7 (by rfl)) (zz0 (af rfl) ?_)
  refine zz0 (GE rfl rfl (by assumption) fX ac aF (by rfl)) (zR3 ?_)
  refine bH aF rfl (fun b30=>zR9 ?_)
  refine ab rfl ?_ ?_<;>intro h31
  ·refine zR4 ?_
   refine fM (E:=aa) (se.getD j default) rfl rfl am ar bj (fun V32=>?_)
   refine zz3 rfl rfl am cp (fun V33=>?_)
   refine cn (.head _) (fun pe ce hpv=>?_)
   subst hpv
   refine zz0 (bE rfl) (zz1 (cs':=[_,_,_,_]) rfl rfl eS rfl ?_)
   refine zR8 ?_
   rw [xt (p:=fun a=>(du s.ins a).isSome) (by omega) (by assumption)]
   refine aP (j+1,_) (o:=(by show j+1≤_; omega))
  refine zR8 ?_
  rw [zj (p:=fun a=>(du s.ins a).isSome) (by omega) (by simp_all)]
  refine aP (j+1,_) (o:=(by show j+1≤_; omega))
 refine zR6 ?_
 obtain rfl:j=se.length:=by omega
 rw [List.take_length]
 refine eV (V:=Vi) (fun pVi cVi hpv=>?_)
 subst hpv
 refine eV (V:=Ve) (fun pVe cVe hpv=>?_)
 subst hpv
 refine eV (V:=Vu) (fun pVu cVu hpv=>?_)
 subst hpv
 refine eV (V:=Vb) (fun pVb cVb hpv=>?_)
 subst hpv
 refine cC (zz0 (cF rfl) (zz8 rfl rfl cR ?_))
 refine zR5 ?_
 refine vn results28 rfl rfl j5 cR (fun w' hw=>?_)
 rw [← hks,← hse] at hcode
 exact ⟨((_,_,_,_),⟨_,_,_,_⟩,0),rfl,hw.below0 (hF1.trans (hF15.trans hF9)),hw.ents0 (hF1.trans (hF15.trans hF9)).lo (by repeat' constructor),.ok hl (by simp_all) rfl hcode⟩
theorem BA (l n2:List UInt32) (V W:Value) (w:World) (hV:Sl (hp w) aa l V) (hW:Sl (hp w) aa n2 W) :
  Cr prog 111 #[V,W] w (.bool (decide (l=n2))):=by
 have hV':Sl (Bg.of w).blk aa l V:=hV
 have hW':Sl (Bg.of w).blk aa n2 W:=hW
 have hlen:=hV.len_le
 refine En f111 rfl rfl (mN ?_)
 refine ab rfl ?_ ?_<;>intro h1
 ·have hq:=h1
  refine zR7 ?_
  exact aD (e:=by rw [decide_eq_false (fun e=>hq (by rw [e]))])
 have hq:=h1
 refine cj ?_
 refine cP (.of (ι:=Nat) (fun k=>k≤l.length∧l.take k=n2.take k) (fun _=>_) (fun k=>[]) (fun k=>[(13,.int .i64 (k:Nat))]) (fun k=>l.length - k)) 0 ⟨Nat.zero_le _,rfl⟩ (Front.c Front.nil) (fun k hi m hm=>?_)
 obtain ⟨hk1,hk2⟩:=hi
 refine zR6 ?_
 refine ab rfl ?_ ?_<;>intro h2
 ·refine cj ?_
  refine eU ah (vp ?_)
  refine ab rfl ?_ ?_<;>intro h3
  ·have hq2:=h3
   refine cj ?_
   exact aD (e:=by rw [decide_eq_false (fun e=>hq2 (by rw [e]))])
  have hq2:=h3
  refine zR8 ?_
  refine aP (k+1) (o:=⟨by omega,by rw [bN (by omega),bN (by omega),hk2,show l.getD k default=n2.getD k default by first|exact hq2|simp_all]⟩)
 refine cj ?_
 exact aD (e:=by rw [decide_eq_true (show l=n2 by rw [← List.take_length (l:=l),← List.take_length (l:=n2),show n2.length=l.length by omega,show l.length=k by omega]; exact hk2)])
theorem Lx (l n2:List UInt32) (V W:Value) (w:World) (hV:Sl (hp w) aa l V) (hW:Sl (hp w) aa n2 W) :
  Cr prog 113 #[V,W] w (.bool (decide (l=n2))):=by
 have hV':Sl (Bg.of w).blk aa l V:=hV
 have hW':Sl (Bg.of w).blk aa n2 W:=hW
 refine En f113 rfl rfl (zR9 ?_)
 refine zz0 (aK rfl (fun w hw=>BA l n2 V W w (hw.slF hV') (hw.slF hW'))) (zR4 ?_)
 exact aD (e:=rfl)
theorem AB (l n2:List TabV) (V W:Value) (w:World) (hV:Sl (hp w) dU l V) (hW:Sl (hp w) dU n2 W) (hI:TabIn (hp w) l) (hJ:TabIn (hp w) n2) :
  Cr prog 112 #[V,W,.func (.func 113) #[] #[]] w (.bool (decide (l.map (·.data)=n2.map (·.data)))):=by
 have hV':Sl (Bg.of w).blk dU l V:=hV
 have hW':Sl (Bg.of w).blk dU n2 W:=hW
 have hI':TabIn (Bg.of w).blk l:=hI
 have hJ':TabIn (Bg.of w).blk n2:=hJ
 have hlen:=hV.len_le
 refine En f112 rfl rfl (mN ?_)
 refine ab rfl ?_ ?_<;>intro h1
 ·have hq:=h1
  refine zR7 ?_
  exact aD (e:=by rw [decide_eq_false (fun e=>hq (by have:=congrArg List.length e; rw [List.length_map,List.length_map] at this; rw [this]))])
 have hq:=h1
 refine cj ?_
 refine cP (.of (ι:=Nat) (fun k=>k≤l.length∧(l.map (·.data)).take k=(n2.map (·.data)).take k) (fun _=>_) (fun k=>[]) (fun k=>[(17,.int .i64 (k:Nat))]) (fun k=>l.length - k)) 0 ⟨Nat.zero_le _,rfl⟩ (Front.c Front.nil) (fun k hi m hm=>?_)
 obtain ⟨hk1,hk2⟩:=hi
 have hgl:∀ q:List TabV,(q.map (·.data)).getD k default=(q.getD k default).data:=fun q=>by
  simp only [List.getD_eq_getElem?_getD,List.getElem?_map]
  cases q[k]?<;>rfl
 refine zR6 ?_
 refine ab rfl ?_ ?_<;>intro h2
 ·refine QG ?_
  refine zz0 (i6 rfl rfl call113 (fun w hw=>Lx (l.getD k default).data (n2.getD k default).data _ _ w (hw.slF (hI' _ (ba (by omega)))) (hw.slF (hJ' _ (ba (by omega)))))) (zR3 ?_)
  refine ab rfl ?_ ?_<;>intro h3
  ·have hq2:=h3
   refine cj ?_
   exact aD (e:=by rw [decide_eq_false (fun e=>hq2 (by rw [← hgl,← hgl,e]))])
  have hq2:=h3
  refine zR8 ?_
  refine aP (k+1) (o:=⟨by omega,by rw [bN (by rw [List.length_map]; omega),bN (by rw [List.length_map]; omega),hk2,hgl,hgl,show (l.getD k default).data=(n2.getD k default).data by first|exact hq2|simp_all]⟩)
 refine cj ?_
 exact aD (e:=by rw [decide_eq_true (show l.map (·.data)=n2.map (·.data) by rw [← List.take_length (l:=l.map (·.data)),← List.take_length (l:=n2.map (·.data)),List.length_map,List.length_map,show n2.length=l.length by omega,show l.length=k by omega]; exact hk2)])
theorem Od (x0 x1 x2 x3:Option Addr) (xn0 xc0 xn1 xc1 xn2 xc2 xn3 xc3:Nat) (y0 y1 y2 y3:Option Addr) (yn0 yc0 yn1 yc1 yn2 yc2 yn3 yc3:Nat) (ts us:List TabV) (at_ bt_:List UInt32) (pt pa qt qa:Option Addr) (ct ca dt da:Nat) (w:World) (h1:Sl (hp w) dU ts (.slice pt ts.length ct)) (h2:TabIn (hp w) ts) (h3:Sl (hp w) aa at_ (.slice pa at_.length ca)) (k1:Sl (hp w) dU us (.slice qt us.length dt)) (k2:TabIn (hp w) us) (k3:Sl (hp w) aa bt_ (.slice qa bt_.length da)) :
  Cr prog 53 #[.agg #[.slice x0 xn0 xc0,.slice x1 xn1 xc1,.slice x2 xn2 xc2,.slice x3 xn3 xc3,.slice pt ts.length ct,.slice pa at_.length ca],.agg #[.slice y0 yn0 yc0,.slice y1 yn1 yc1,.slice y2 yn2 yc2,.slice y3 yn3 yc3,.slice qt us.length dt,.slice qa bt_.length da]] w (.bool (decide (at_=bt_) && decide (ts.map (·.data)=us.map (·.data)))):=by
 have h1':Sl (Bg.of w).blk dU ts (.slice pt ts.length ct):=h1
 have h2':TabIn (Bg.of w).blk ts:=h2
 have h3':Sl (Bg.of w).blk aa at_ (.slice pa at_.length ca):=h3
 have k1':Sl (Bg.of w).blk dU us (.slice qt us.length dt):=k1
 have k2':TabIn (Bg.of w).blk us:=k2
 have k3':Sl (Bg.of w).blk aa bt_ (.slice qa bt_.length da):=k3
 refine En f53 rfl rfl (zR2 ?_)
 refine bJ rfl rfl (fun b1=>?_)
 refine bJ rfl rfl (fun b2=>zR9 ?_)
 refine zz0 (aK rfl (fun w hw=>BA at_ bt_ _ _ w (hw.slF h3') (hw.slF k3'))) (zz0 (af rfl) ?_)
 apply dV 6 10 16 (fun hT3 hT3'=>?_) ?_; rotate_right
 ·refine zR4 ?_
  refine zz5 hT3 (aK rfl (fun w hw=>AB ts us _ _ w (hw.slF h1') (hw.slF k1') (h2'.mono hw.bg) (k2'.mono hw.bg))) ?_
  exact zE
 refine zR4 ?_
 exact aD (e:=rfl)
theorem JM (i:Ins) (a:UInt32) (b:Nat) (w:World) (hc:Cell (hp w) b 0 (.int .u32 a.toNat)) :
  Cr prog 158 #[.agg (al.enc i).toArray,.pointer (some ⟨b,0,none⟩)] w (.bool (decide (i.addr=a))):=by
 have hc':Cell (Bg.of w).blk b 0 (.int .u32 a.toNat):=hc
 refine En f158 rfl rfl (zR2 ?_)
 refine bJ rfl rfl (fun b1=>zR7 ?_)
 refine zz0 (qm rfl (by assumption) co) (zR5 ?_)
 exact aD (e:=rfl)
theorem JK (x y:Ins) (w:World) :
  Cr prog 108 #[.agg (al.enc x).toArray,.agg (al.enc y).toArray] w (.int .i64 (mf x y)):=by
 refine En f108 rfl rfl (zR2 ?_)
 refine bJ rfl rfl (fun b1=>?_)
 refine bJ rfl rfl (fun b2=>mN ?_)
 refine ab rfl ?_ ?_<;>intro h3
 ·refine zR8 ?_
  exact aD (e:=by unfold mf zB; rw [if_pos (by assumption)])
 refine bR ?_
 refine ab rfl ?_ ?_<;>intro h4
 ·refine zR8 ?_
  exact aD (e:=by unfold mf zB; rw [if_neg (by assumption),if_pos (by assumption)])
 refine zR9 ?_
 exact aD (e:=by unfold mf zB; rw [if_neg (by assumption),if_neg (by assumption)])
theorem FN (l:List UInt32) (V:Value) (w:World) (hr:(rowE V 23 aa l).holds w) (hl:l.length≤1000000) :
  Calls prog 159 #[V] w (fun e w'=>∃ V',e=.returned V'∧V'.ownBlock=V.ownBlock∧Mut w w' V∧(rowE V' 23 aa (fa l)).holds w'):=by
 refine fO (l:=l) (E:=aa) (T:=23) hr func159 rfl ntmps159 rfl (gB ?_)
 refine ab rfl ?_ ?_<;>intro h1
 ·refine zR8 ?_
  refine aM pH rfl (fun w' hw=>?_)
  have e:fa l=l:=by rw [← List.take_length (l:=l)]; exact ns (Nat.le_refl _) (fun j a b=>by omega)
  exact ⟨_,rfl,rfl,(HpOK.mutOwn hw (.head _) rfl).1,by rw [e]; exact (HpOK.mutOwn hw (.head _) rfl).2⟩
 refine zR9 ?_
 refine cP (.of (ι:=Nat) (fun k=>1≤k∧k≤l.length∧∀ j,0<j→j<k→l.getD j default≠l.getD (j - 1) default) (fun _=>_) (fun k=>[rowE V 23 aa l]) (fun k=>[(3,.int .i64 (k:Nat))]) (fun k=>l.length - k)) 1 ⟨Nat.le_refl _,by omega,fun j a b=>by omega⟩ (Front.c Front.nil) (fun k hi m hm=>?_)
 obtain ⟨hk1,hk2,hk3⟩:=hi
 have hj:((k:Int) - 1).toNat=k - 1:=by omega
 refine zR9 ?_
 refine ab rfl ?_ ?_<;>intro h2
 ·refine zR5 ?_
  refine eU ah (Jq ?_)
  refine ab rfl ?_ ?_<;>intro h3
  ·refine zR4 ?_
   refine zz0 (ra rfl (by repeat constructor) rfl am ar rfl (by omega)) (bR ?_)
   refine cT (ι:=Nat × Nat × List UInt32) (fun ⟨wi,k2,cur⟩=>(1≤k2∧k+k2≤l.length∧wi<k+k2)∧cur.length=l.length∧cur.take wi=fa (l.take (k+k2))∧∀ j,k+k2 - 1≤j→cur.getD j default=l.getD j default) (fun _=>_) (fun ⟨wi,k2,cur⟩=>[rowE V 23 aa cur]) (fun ⟨wi,k2,cur⟩=>[(3,.int .i64 (wi:Nat)),(5,.int .i64 (k2:Nat))]) (fun ⟨wi,k2,cur⟩=>l.length - (k+k2)) (k,1,l) ⟨⟨Nat.le_refl _,by omega,by omega⟩,rfl,by rw [nr (by omega) (by omega),if_pos (by rw [← hj]; assumption),ns (by omega) hk3],fun j _=>rfl⟩ (Front.c (Front.c Front.nil)) (fun i hi m hm=>?_)
   obtain ⟨wi,k2,cur⟩:=i
   dsimp only at hi hm
   change Tr _ _ [rowE V 23 aa cur] ([(3,.int .i64 (wi:Nat)),(5,.int .i64 (k2:Nat))] ++ _) _
   obtain ⟨⟨hq1,hq2,hq3⟩,hq4,hq5,hq6⟩:=hi
   have hA:=hq6 (k+k2) (by omega)
   have hB:=hq6 (k+k2 - 1) (by omega)
   have hi1:k+(k2:Int).toNat=k+k2:=rfl
   have hi2:k+((k2:Int) - 1).toNat=k+k2 - 1:=by omega
   refine zR5 ?_
   refine zz0 (Iq rfl (by repeat constructor) am) (zR3 ?_)
   refine ab rfl ?_ ?_<;>intro h4
   ·refine zR5 ?_
    refine eU ah (zT2 ?_)
    refine aw (t7 rfl rfl (by repeat constructor) am ar rfl (by omega) (by omega)) (zT4 ?_)
    refine aw (t7 rfl rfl (by repeat constructor) am ar rfl (by omega) (by omega)) (zT4 ?_)
    refine ab rfl ?_ ?_<;>intro h5
    ·refine zR6 ?_
     refine zz0 (t7 rfl rfl (by repeat constructor) am ar rfl (by omega) (by omega)) (zR2 ?_)
     refine fN (l:=cur) (i:=wi) (cur.getD (k+(k2:Int).toNat) default) rfl rfl ar ?_
     have hls6:=@List.length_set _ cur (wi) (cur.getD (k+(k2:Int).toNat) default)
     refine mN ?_
     rw [hi1,hi2,hA,hB] at h5
     have hcs:=nr (l:=l) (k:=k+k2) (by omega) (by omega)
     rw [if_neg h5,← hq5] at hcs
     have hcm:(cur.set wi (cur.getD (k+(k2:Int).toNat) default)).take (wi+1)=fa (l.take (k+(k2+1))):=by
      rw [show k+(k2+1)=k+k2+1 by omega,hcs,bN (by rw [List.length_set]; omega),hi1,hA]
      congr 1
      ·rw [List.take_set_of_le (Nat.le_refl _)]
      ·simp [List.getD_eq_getElem?_getD,show wi<cur.length by omega]
     refine aP (wi+1,k2+1,cur.set wi (cur.getD (k+(k2:Int).toNat) default)) (o:=⟨⟨by omega,by omega,by omega⟩,by rw [List.length_set]; exact hq4,hcm,fun j a=>by rw [List.getD_eq_getElem?_getD,List.getElem?_set_ne (by omega),← List.getD_eq_getElem?_getD]; exact hq6 j (by omega)⟩)
    refine zR9 ?_
    rw [hi1,hi2,hA,hB] at h5
    have hcs:=nr (l:=l) (k:=k+k2) (by omega) (by omega)
    rw [if_pos h5,← hq5] at hcs
    refine aP (wi,k2+1,cur) (o:=⟨⟨by omega,by omega,by omega⟩,hq4,by rw [show k+(k2+1)=k+k2+1 by omega,hcs],fun j a=>hq6 j (by omega)⟩)
   refine zR9 ?_
   refine zz0 (ra rfl (by repeat constructor) rfl am ar rfl (by omega)) ?_
   refine Dv 0 rfl (by repeat constructor) (by omega) am bj rfl rfl rfl (zR6 ?_)
   refine zz0 (tY rfl (by repeat constructor) rfl am ar rfl (by rw [List.length_append,List.length_take]; omega)) (zR9 ?_)
   refine aM pH rfl (fun w' hw=>?_)
   have hkn:k+k2=l.length:=by omega
   rw [hkn,List.take_length] at hq5
   have hm:=HpOK.mutOwn hw (.head _) rfl
   have hh:=rowE.resl0 (hw.ent _ (.head _)) (k:=wi) (by rw [List.length_append,List.length_take]; omega)
   have e:(cur.take wi ++ List.replicate (cur.length - wi) (0:UInt32)).take wi=fa l:=by rw [← hq5,List.take_append_of_le_length (by rw [List.length_take]; omega),List.take_take,Nat.min_self]
   exact ⟨_,rfl,hh.2,hm.1,by rw [← e]; exact hh.1⟩
  refine zR9 ?_
  have hk4:∀ j,0<j→j<k+1→l.getD j default≠l.getD (j - 1) default:=fun j a b=>by
   by_cases c:j=k
   ·subst c; rw [← hj]; assumption
   ·exact hk3 j a (by omega)
  refine aP (k+1) (o:=⟨by omega,by omega,hk4⟩)
 refine df ?_
 refine aM pH rfl (fun w' hw=>?_)
 have e:fa l=l:=by rw [← List.take_length (l:=l)]; exact ns (Nat.le_refl _) (fun j a b=>hk3 j a (by omega))
 exact ⟨_,rfl,rfl,(HpOK.mutOwn hw (.head _) rfl).1,by rw [e]; exact (HpOK.mutOwn hw (.head _) rfl).2⟩
theorem LH (ins:List Ins) (ents:List UInt32) (ts:List TabV) (pI p1 pu pb:Option Addr) (cI c1 nu cu nb cb:Nat) (VT:Value) (w:World) (hI:Sl (hp w) al ins (.slice pI ins.length cI)) (hE:Sl (hp w) aa ents (.slice p1 ents.length c1)) (hT:Sl (hp w) dU ts VT) (hTI:TabIn (hp w) ts) (hTB:nf ts) (hel:ents.length≤700) :
  Calls prog 106 #[.agg #[.slice pI ins.length cI,.slice p1 ents.length c1,.slice pu nu cu,.slice pb nb cb],VT] w (fun e w'=>∃ V':Value,e=.returned V'∧Ext w w'∧dY w w' 23 aa (jR ins ents (ts.map (·.data))) V'):=by
 have hI':Sl (Bg.of w).blk al ins (.slice pI ins.length cI):=hI
 have hT':Sl (Bg.of w).blk dU ts VT:=hT
 have hls:∀ t∈((⟨ents,p1,c1⟩:TabV) :: ts),Sl (Bg.of w).blk aa t.data (.slice t.dp t.data.length t.dc):=fun t ht=>by
  rcases List.mem_cons.1 ht with rfl|ht
  ·exact hE
  ·exact hTI t ht
 have hlb:∀ t∈((⟨ents,p1,c1⟩:TabV) :: ts),t.data.length≤700:=fun t ht=>by
  rcases List.mem_cons.1 ht with rfl|ht
  ·exact hel
  ·have:=hTB.2 t ht; omega
 have htl:=hTB.1
 have hll:((⟨ents,p1,c1⟩:TabV) :: ts).length≤701:=by have:=hTB.1; rw [List.length_cons]; omega
 refine En f106 rfl rfl (zR2 ?_)
 refine bJ rfl rfl (fun b1=>gB ?_)
 refine fM (E:=dU) (⟨ents,p1,c1⟩:TabV) rfl rfl gz eS oh (fun V2=>zz0 (af rfl) ?_)
 refine B8 rfl rfl (by repeat constructor) (fun w hw=>hw.slF (by assumption)) gz uf (fun V3=>?_)
 refine dQ (l':=((⟨ents,p1,c1⟩:TabV) :: ts)) rfl (zR5 ?_)
 refine ay 23 aa ?_
 refine cT (ι:=Nat × Value) (fun ⟨k,Vo⟩=>k≤((⟨ents,p1,c1⟩:TabV) :: ts).length) (fun _=>_) (fun ⟨k,Vo⟩=>[rowE Vo 23 aa (nU ins ((⟨ents,p1,c1⟩:TabV) :: ts) k 0),rowE V3 31 dU ((⟨ents,p1,c1⟩:TabV) :: ts),cellE b1 [.slice pI ins.length cI,.slice p1 ents.length c1,.slice pu nu cu,.slice pb nb cb] 52]) (fun ⟨k,Vo⟩=>[(16,.int .i64 (k:Nat)),(5,Vo)]) (fun ⟨k,Vo⟩=>((⟨ents,p1,c1⟩:TabV) :: ts).length - k) (0,_) (Nat.zero_le _) (Front.c (Front.c Front.nil)) (fun i hi m hm=>?_)
 obtain ⟨k,Vo⟩:=i
 dsimp only at hi hm
 conv=>enter [3]; dsimp only
 conv=>enter [4,1]; dsimp only
 refine zR6 ?_
 refine ab rfl ?_ ?_<;>intro h4
 ·refine df ?_
  have hkj:Sl (Bg.of w).blk aa (((⟨ents,p1,c1⟩:TabV) :: ts).getD k default).data (.slice (((⟨ents,p1,c1⟩:TabV) :: ts).getD k default).dp (((⟨ents,p1,c1⟩:TabV) :: ts).getD k default).data.length (((⟨ents,p1,c1⟩:TabV) :: ts).getD k default).dc):=hls _ (ba (by omega))
  have hkjb:=hlb _ (ba (l:=((⟨ents,p1,c1⟩:TabV) :: ts)) (k:=k) (by omega))
  have hdm:(((⟨ents,p1,c1⟩:TabV) :: ts).map (·.data)).getD k []=(((⟨ents,p1,c1⟩:TabV) :: ts).getD k default).data:=by
   simp only [List.getD_eq_getElem?_getD,List.getElem?_map]
   cases ((⟨ents,p1,c1⟩:TabV) :: ts)[k]?<;>rfl
  refine zR7 ?_
  refine cT (ι:=Nat × Value) (fun ⟨j,Vo⟩=>j≤(((⟨ents,p1,c1⟩:TabV) :: ts).getD k default).data.length) (fun _=>_) (fun ⟨j,Vo⟩=>[rowE Vo 23 aa (nU ins ((⟨ents,p1,c1⟩:TabV) :: ts) k j),rowE V3 31 dU ((⟨ents,p1,c1⟩:TabV) :: ts),cellE b1 [.slice pI ins.length cI,.slice p1 ents.length c1,.slice pu nu cu,.slice pb nb cb] 52]) (fun ⟨j,Vo⟩=>[(22,.int .i64 (j:Nat)),(5,Vo)]) (fun ⟨j,Vo⟩=>(((⟨ents,p1,c1⟩:TabV) :: ts).getD k default).data.length - j) (0,_) (Nat.zero_le _) (Front.c (Front.c Front.nil)) (fun i hi m hm=>?_)
  obtain ⟨j,Vo⟩:=i
  dsimp only at hi hm
  conv=>enter [3]; dsimp only
  conv=>enter [4,1]; dsimp only
  have hkl:=JQ (ins:=ins) (k:=k) (j:=j) hlb (by omega)
  have hkm:(k+1) * 700≤701 * 700:=Nat.mul_le_mul_right _ (by omega)
  refine zR6 ?_
  refine ab rfl ?_ ?_<;>intro h5
  ·refine zR8 ?_
   refine bH bj rfl (fun b6=>?_)
   refine cK aa rfl rfl ar ?_
   refine zR6 ?_
   refine zz0 (fB rfl rfl) ?_
   refine zz0 (aK rfl (fun w hw=>qe ins _ _ _ w (hw.slF hI') call158 (fun i=>decide (i.addr=(((⟨ents,p1,c1⟩:TabV) :: ts).getD k default).data.getD j default)) (fun x hx w'' h=>JM x _ _ w'' (cellE.cell (hw.ent _ (by repeat constructor)) h rfl)))) (zR2 ?_)
   refine ab rfl ?_ ?_<;>intro h7
   ·refine zR3 ?_
    refine fM (E:=aa) ((((⟨ents,p1,c1⟩:TabV) :: ts).getD k default).data.getD j default) rfl rfl am ar bj (fun V8=>?_)
    refine zz3 rfl rfl am cp (fun V9=>?_)
    refine zR9 ?_
    rw [← JP (by omega) (by assumption)]
    refine aP (j+1,_) (o:=(by show j+1≤_; omega))
   refine zR8 ?_
   rw [← LK (by omega) (by first|assumption|simp_all)]
   refine aP (j+1,_) (o:=(by show j+1≤_; omega))
  refine cj ?_
  rw [G7 ins ((⟨ents,p1,c1⟩:TabV) :: ts) (by omega) (j:=j) (by rw [hdm]; omega)]
  refine aP (k+1,_) (o:=(by show k+1≤_; omega))
 refine zR6 ?_
 obtain rfl:k=((⟨ents,p1,c1⟩:TabV) :: ts).length:=by omega
 rw [JR]
 have hrl:=qG ins (ls:=((⟨ents,p1,c1⟩:TabV) :: ts).map (·.data)) (n:=700) (fun t ht=>by
  obtain ⟨r,hr,rfl⟩:=List.mem_map.1 ht
  exact hlb r hr)
 rw [List.length_map] at hrl
 have hrm:((⟨ents,p1,c1⟩:TabV) :: ts).length * 700≤701 * 700:=Nat.mul_le_mul_right _ hll
 refine zR2 ?_
 refine dH rfl call141 (by repeat constructor) (fun w hw=>AW (k9 ins (((⟨ents,p1,c1⟩:TabV) :: ts).map (·.data))).toArray _ w (hw.ent _ (.head _)) (by rw [List.size_toArray]; omega)) rfl ?_
 rw [Ee]
 refine zR5 ?_
 refine AM rfl call159 (by repeat constructor) (fun w hw=>FN (hZ (k9 ins (((⟨ents,p1,c1⟩:TabV) :: ts).map (·.data)))) _ w (hw.ent _ (.head _)) (by rw [uk]; omega)) rfl (fun V10 hV10=>zR4 ?_)
 exact aM results106 rfl fun w' hw=>⟨_,rfl,hw.b0,hw.new (.head _)⟩
theorem LF (x0 x1 x2 x3:Option Addr) (xn0 xc0 xn1 xc1 xn2 xc2 xn3 xc3:Nat) (l:List SecV) (pV:Option Addr) (cV:Nat) (es:List UInt32) (VE:Value) (ts:List TabV) (at_:List UInt32) (pt pa:Option Addr) (ct ca:Nat) (w:World) (hV:Sl (hp w) bP l (.slice pV l.length cV)) (hB:SecB l) (hD:DataIn (hp w) l) (hN:∀ s∈l,s.name.size≤140737488351232) (hE:Sl (hp w) aa es VE) (hT:Sl (hp w) dU ts (.slice pt ts.length ct)) (hTI:TabIn (hp w) ts) (hTB:nf ts) (hP:Sl (hp w) aa at_ (.slice pa at_.length ca)) (ht:totD l≤600) (hel:es.length≤100) :
  Calls prog 52 #[.agg #[.slice x0 xn0 xc0,.slice x1 xn1 xc1,.slice x2 xn2 xc2,.slice x3 xn3 xc3,.slice pt ts.length ct,.slice pa at_.length ca],(.slice pV l.length cV),VE] w (fun e w'=>∃ i:(Value × Value × Value × Value × Value × Value) × (CodeP × FndV × Int) × List (RV UInt32),e=.returned ((fun i:(Value × Value × Value × Value × Value × Value) × (CodeP × FndV × Int) × List (RV UInt32)=>.tuple #[.agg #[i.1.1,i.1.2.1,i.1.2.2.1,i.1.2.2.2.1,i.1.2.2.2.2.1,i.1.2.2.2.2.2],.int .i64 i.2.1.2.2]) i)∧Below w.heap.size w w'∧NewEnts w w' ((fun i:(Value × Value × Value × Value × Value × Value) × (CodeP × FndV × Int) × List (RV UInt32)=>rowE i.1.1 36 al i.2.1.1.ins :: rowE i.1.2.1 23 aa i.2.1.1.ents :: rowE i.1.2.2.1 23 aa i.2.1.1.unk :: rowE i.1.2.2.2.1 23 aa i.2.1.1.bad :: rowE i.1.2.2.2.2.1 31 bX i.2.2 :: rowE i.1.2.2.2.2.2 23 aa i.2.1.2.1.at_ :: i.2.2.map (rvE 23 aa)) i)∧(fun i:(Value × Value × Value × Value × Value × Value) × (CodeP × FndV × Int) × List (RV UInt32)=>RoundIs l es ts at_ i.2.1∧i.2.2.map (·.data)=i.2.1.2.1.ts) i):=by
 have hV0:Sl (Bg.of0 w).blk bP l (.slice pV l.length cV):=hV
 have hD0:DataIn (Bg.of0 w).blk l:=hD
 have hE0:Sl (Bg.of0 w).blk aa es VE:=hE
 have hT0:Sl (Bg.of0 w).blk dU ts (.slice pt ts.length ct):=hT
 have hTI0:TabIn (Bg.of0 w).blk ts:=hTI
 have hP0:Sl (Bg.of0 w).blk aa at_ (.slice pa at_.length ca):=hP
 refine lP func52 rfl ntmps52 rfl (zR2 ?_)
 refine bJ rfl rfl (fun b1=>?_)
 refine bH kW rfl (fun b2=>cj ?_)
 refine dE (fun i:((Value × Value × Value × Value) × CodeP × Int)=>.tuple #[.agg #[i.1.1,i.1.2.1,i.1.2.2.1,i.1.2.2.2],.int .i64 i.2.2]) (fun i:((Value × Value × Value × Value) × CodeP × Int)=>[rowE i.1.1 36 al i.2.1.ins,rowE i.1.2.1 23 aa i.2.1.ents,rowE i.1.2.2.1 23 aa i.2.1.unk,rowE i.1.2.2.2 23 aa i.2.1.bad]) (ok:=fun i=>WalkIs l ts at_ es i.2.1 i.2.2) rfl rfl call28 (fun w hw=>walk_any l ts at_ es _ VE _ _ w (hw.slF hV0) hB (hD0.mono hw.bg) hN (hw.slF hE0) (hw.slF hT0) (hTI0.mono hw.bg) hTB (hw.slF hP0) ht hel) rfl (fun i hwk=>?_)
 obtain ⟨⟨Vi,Ve,Vu,Vb⟩,c,ew⟩:=i
 replace hwk:WalkIs l ts at_ es c ew:=hwk
 have hcl:=wa hTB hwk
 change Tr _ _ [rowE Vi 36 al c.ins,rowE Ve 23 aa c.ents,rowE Vu 23 aa c.unk,rowE Vb 23 aa c.bad,cellE b2 [nS,nS,nS,nS,nS,nS] 114,cellE b1 [.slice x0 xn0 xc0,.slice x1 xn1 xc1,.slice x2 xn2 xc2,.slice x3 xn3 xc3,.slice pt ts.length ct,.slice pa at_.length ca] 114] _ _
 refine eV (V:=Vi) (fun pVi cVi hpv=>?_)
 subst hpv
 refine eV (V:=Ve) (fun pVe cVe hpv=>?_)
 subst hpv
 refine eV (V:=Vu) (fun pVu cVu hpv=>?_)
 subst hpv
 refine eV (V:=Vb) (fun pVb cVb hpv=>?_)
 subst hpv
 refine zR3 ?_
 refine bH ed rfl (fun b3=>?_)
 refine zz8 rfl rfl cR ?_
 refine bR ?_
 refine ab rfl ?_ ?_<;>intro h4
 ·have hqw:=h4
  refine bB (ay 36 al ?_)
  refine ay 23 aa ?_
  refine ay 23 aa ?_
  refine ay 23 aa ?_
  refine ay 23 aa ?_
  refine ay 31 (bX (α:=UInt32)) (cC ?_)
  refine zz0 (aI (vs:=[]) rfl rfl (vm)) (zz0 (af rfl) ?_)
  refine zz8 rfl rfl gW ?_
  refine zR5 ?_
  refine vn results52 rfl rfl isAgg114 gW (fun w' hw=>?_)
  exact ⟨((nS,nS,nS,nS,nS,nS),(⟨[],[],[],[]⟩,⟨[],[]⟩,ew),[]),rfl,hw.below0 (Bg.le.refl _),hw.ents0 rfl (by repeat' (first|exact Pick.refl _|exact Del.here _|apply Pick.cons|apply Del.there|apply Pick.skip|exact Pick.nil _)),⟨c,ew,hwk,by rw [if_pos hqw]⟩,rfl⟩
 have hqw:ew=0:=by simpa using h4
 refine zR3 ?_
 obtain ⟨R,hR⟩:∃ R,R=gC c.ins c.ents c.unk c.bad:=⟨_,rfl⟩
 have hkl:=vN c.ins c.ents c.unk c.bad
 rw [← hR] at hkl
 have hkI:∀ x∈R.kept,InsOK x:=fun x hx=>qu hwk x (EZ (by rw [← hR]; exact hx))
 have hks:R.kept.Pairwise (fun x y=>Kc mf y x=false):=(by rw [hR]; exact yz c.ins c.ents c.unk c.bad:R.kept.Pairwise fun a b=>ltA a b=true).imp fun {a b} q=>Lc.asym (by unfold Kc mf; unfold ltA at q; rw [decide_eq_true_eq] at q ⊢; exact (xR _ _).2 q)
 refine zR2 ?_
 refine jh (fun i:(Value × Value × Value × Value × Value)=>.tuple #[.agg #[i.1,i.2.1,i.2.2.1,i.2.2.2.1],i.2.2.2.2]) (fun i:(Value × Value × Value × Value × Value)=>[rowE i.1 36 al R.kept,rowE i.2.1 23 aa R.ents,rowE i.2.2.1 23 aa R.unk,rowE i.2.2.2.1 23 aa R.bad,rowE i.2.2.2.2 23 aa R.rem]) (ok:=fun _=>True) rfl call29 (fun w hw=>(Et c.ins c.ents c.unk c.bad _ _ _ _ w hw.rM hw.rM hw.rM hw.rM (qu hwk) (by omega) (by omega) (by omega) (by omega)).mono fun e w' ⟨i,q1,q2,q3⟩=>⟨i,q1,q2,by rw [hR]; exact q3,trivial⟩) rfl (fun i5 _=>?_)
 obtain ⟨Ki,Ke,Ku,Kb,Kr⟩:=i5
 change Tr _ _ (rowE Ki 36 al R.kept :: rowE Ke 23 aa R.ents :: rowE Ku 23 aa R.unk :: rowE Kb 23 aa R.bad :: rowE Kr 23 aa R.rem :: _) _ _
 refine eV (V:=Ki) (fun pKi cKi hpv=>?_)
 subst hpv
 refine eV (V:=Ke) (fun pKe cKe hpv=>?_)
 subst hpv
 refine eV (V:=Ku) (fun pKu cKu hpv=>?_)
 subst hpv
 refine eV (V:=Kb) (fun pKb cKb hpv=>?_)
 subst hpv
 refine zR3 ?_
 refine bH ed rfl (fun b5=>?_)
 refine zz8 rfl rfl cR ?_
 refine zR6 ?_
 refine zz0 (aI (vs:=[(0,_)]) (cs:=#[.slice pKi R.kept.length cKi,.slice pKe R.ents.length cKe,.slice pKu R.unk.length cKu,.slice pKb R.bad.length cKb,nS,nS]) rfl rfl (by kernel_rfl)) ?_
 refine bH kW rfl (fun b6=>?_)
 refine zz8 rfl rfl gW ?_
 refine cj ?_
 refine zz0 (dI (vs:=[.slice pKi R.kept.length cKi,.slice pKe R.ents.length cKe,.slice pKu R.unk.length cKu,.slice pKb R.bad.length cKb]) rfl (by repeat constructor) j5 cR (by rfl) (by rfl)) (zR2 ?_)
 refine cE rfl call106 (fun w hw=>LH R.kept R.ents ts _ _ _ _ _ _ _ _ _ _ _ w hw.rM hw.rM (hw.slF hT0) (hTI0.mono hw.bg) hTB (by omega)) rfl (fun V7=>?_)
 obtain ⟨rts,hrts⟩:∃ rts,rts=jR R.kept R.ents (ts.map (·.data)):=⟨_,rfl⟩
 rw [← hrts]
 have hrl:rts.length≤490700:=by
  rw [hrts]
  refine A3 (by omega) (fun t ht=>?_) (by rw [List.length_map]; exact hTB.1)
  obtain ⟨r,hr,rfl⟩:=List.mem_map.1 ht
  have:=hTB.2 r hr; omega
 refine zR5 ?_
 refine ay 177 (bX (α:=StV)) ?_
 refine cT (ι:=Nat × Bg × List (RV StV) × Value) (fun ⟨k,G,ss,Vs⟩=>((k≤rts.length∧(Bg.of0 w).le G)∧RvIn bY G.blk ss)∧ss.map (·.data)=kh R.kept (rts.take k)∧me R.kept (rts.take k)=0) (fun ⟨k,G,ss,Vs⟩=>G) (fun ⟨k,G,ss,Vs⟩=>[rowE Vs 177 bX ss,rowE V7 23 aa rts,cellE b6 [.slice pKi R.kept.length cKi,.slice pKe R.ents.length cKe,.slice pKu R.unk.length cKu,.slice pKb R.bad.length cKb,nS,nS] 114,rowE (.slice pKi R.kept.length cKi) 36 al R.kept,rowE (.slice pKe R.ents.length cKe) 23 aa R.ents,rowE (.slice pKu R.unk.length cKu) 23 aa R.unk,rowE (.slice pKb R.bad.length cKb) 23 aa R.bad,cellE b2 [nS,nS,nS,nS,nS,nS] 114]) (fun ⟨k,G,ss,Vs⟩=>[(56,.int .i64 (k:Nat)),(13,Vs)]) (fun ⟨k,G,ss,Vs⟩=>rts.length - k) (0,_,[],_) ⟨⟨⟨Nat.zero_le _,Bg.le.refl _⟩,fun t ht=>by cases ht⟩,rfl,rfl⟩ (Front.c (Front.c Front.nil)) (fun i hi m hm=>?_)
 obtain ⟨k,G,ss,Vs⟩:=i
 dsimp only at hi hm
 change Tr _ (G) [rowE Vs 177 bX ss,rowE V7 23 aa rts,cellE b6 [.slice pKi R.kept.length cKi,.slice pKe R.ents.length cKe,.slice pKu R.unk.length cKu,.slice pKb R.bad.length cKb,nS,nS] 114,rowE (.slice pKi R.kept.length cKi) 36 al R.kept,rowE (.slice pKe R.ents.length cKe) 23 aa R.ents,rowE (.slice pKu R.unk.length cKu) 23 aa R.unk,rowE (.slice pKb R.bad.length cKb) 23 aa R.bad,cellE b2 [nS,nS,nS,nS,nS,nS] 114] ([(56,.int .i64 (k:Nat)),(13,Vs)] ++ _) _
 obtain ⟨⟨⟨hk,hG⟩,hss⟩,hks1,hks0⟩:=hi
 have hsl:ss.length=min k rts.length:=by have:=congrArg List.length hks1; rw [List.length_map] at this; rw [this]; unfold kh; rw [List.length_map,List.length_take]
 refine zR6 ?_
 refine ab rfl ?_ ?_<;>intro h8
 ·refine ug ?_
  refine dE (fun V:Value=>.tuple #[V,.int .i64 (cg R.kept (rts.getD k default) 4096).2]) (fun V=>[rowE V 37 bY (cg R.kept (rts.getD k default) 4096).1]) (ok:=fun _=>True) hG.dr rfl call107 (fun w hw=>(Ge R.kept (rts.getD k default) 4096 _ w hw.rM hkI (by omega)).mono fun e w' ⟨V,q1,q2,q3⟩=>⟨V,q1,q2,q3,trivial⟩) rfl (fun VA _=>jk ?_)
  refine ab rfl ?_ ?_<;>intro h9
  ·have hqe:=h9
   refine bB (ay 36 al ?_)
   refine ay 23 aa ?_
   refine ay 23 aa ?_
   refine ay 23 aa ?_
   refine ay 23 aa ?_
   refine ay 31 (bX (α:=UInt32)) (cC ?_)
   refine zz0 (aI (vs:=[]) rfl rfl (vm)) (zz0 (af rfl) ?_)
   refine zz8 rfl rfl gW ?_
   refine bR ?_
   refine vn results52 rfl rfl isAgg114 gW (fun w' hw=>?_)
   have h1:=qc hks0 (by omega:k<rts.length)
   have hee:me R.kept rts=(cg R.kept (rts.getD k default) 4096).2:=by rw [zn (k:=k+1) (by rw [h1]; exact hqe),h1]
   exact ⟨((nS,nS,nS,nS,nS,nS),(⟨[],[],[],[]⟩,⟨[],[]⟩,(cg R.kept (rts.getD k default) 4096).2),[]),rfl,hw.below0 hG,hw.ents0 hG.lo (by repeat' (first|exact Pick.refl _|exact Del.here _|apply Pick.cons|apply Del.there|apply Pick.skip|exact Pick.nil _)),⟨c,ew,hwk,by rw [if_neg (fun q=>q hqw),yw hR (by rw [← hrts,hee]; exact hqe),← hrts,hee]⟩,rfl⟩
  have hqe:(cg R.kept (rts.getD k default) 4096).2=0:=by simpa using h9
  refine zR2 ?_
  have hek:me R.kept (rts.take (k+1))=0:=by
   rw [qc hks0 (by omega)]; exact hqe
  refine eV (V:=VA) (fun pA cA hpv=>?_)
  subst hpv
  refine kw (V:=.slice pA (cg R.kept (rts.getD k default) 4096).1.length cA) (T:=37) (E:=bY) (by repeat constructor) (fun G2 hG2 hA2=>zR3 ?_)
  refine fM (E:=(bX (α:=StV))) (⟨(cg R.kept (rts.getD k default) 4096).1,pA,cA⟩:RV StV) rfl rfl underlying175 ny zeroValue177 (fun V10=>?_)
  refine zz3 rfl rfl underlying175 GM (fun V11=>?_)
  refine zR9 ?_
  apply dn (k+1,G2,ss ++ [⟨(cg R.kept (rts.getD k default) 4096).1,pA,cA⟩],_)
  ·exact rfl
  ·exact (Front.c (Front.c Front.nil))
  ·exact zz9 25 rfl
  ·exact (by repeat' constructor)
  ·exact ⟨⟨⟨by omega,hG.trans hG2⟩,fun t ht=>by
   rcases List.mem_append.1 ht with ht|ht
   ·exact (hss t ht).mono hG2.blk
   rw [List.mem_singleton.1 ht]; exact hA2⟩,by rw [List.map_append,hks1,wB (by omega)]; rfl,hek⟩
  exact (by (try dsimp only); omega)
 refine zR6 ?_
 obtain rfl:k=rts.length:=by omega
 rw [List.take_length] at hks1 hks0
 have hVG:=hV0.mono hG.blk
 have hDG:=hD0.mono hG.blk
 refine zR4 ?_
 refine cE rfl call77 (fun w hw=>BJ R.kept _ w hw.rM (by omega)) rfl (fun VC=>zR6 ?_)
 refine iC (fun c2=>c2=R.kept) rfl call78 (fun w hw=>(rD R.kept _ 108 [] mf (fun _=>True) (fun _ _ _ _ _ _=>trivial) call108 (fun x y w' _=>JK x y w') Lc w trivial (hw.ent _ (.head _)) (by omega)).mono fun e w' ⟨q1,c2,⟨q2,q3,q4⟩,q5,q6⟩=>⟨q1,c2,(vv Lc _ _ q2 hks (Srt.all (by rw [q2.len]; exact q4))).symm,q5,q6⟩) rfl (fun c2 hc2=>?_)
 subst hc2
 refine cj ?_
 refine ay 31 (bX (α:=UInt32)) ?_
 refine ay 23 aa ?_
 refine cT (ι:=Nat × List (RV UInt32) × List UInt32 × Value × Value) (fun ⟨k,rs,at2,Vt,Vp⟩=>k≤R.kept.length∧(⟨rs.map (·.data),at2⟩:FndV)=(oe l R.kept (ss.map (·.data)) (R.kept.take k))) (fun _=>G) (fun ⟨k,rs,at2,Vt,Vp⟩=>(rowE VC 36 al R.kept :: cellE b6 [.slice pKi R.kept.length cKi,.slice pKe R.ents.length cKe,.slice pKu R.unk.length cKu,.slice pKb R.bad.length cKb,Vt,Vp] 114 :: rowE Vt 31 bX rs :: rowE Vp 23 aa at2 :: rowE Vs 177 bX ss :: rowE (.slice pKi R.kept.length cKi) 36 al R.kept :: rowE (.slice pKe R.ents.length cKe) 23 aa R.ents :: rowE (.slice pKu R.unk.length cKu) 23 aa R.unk :: rowE (.slice pKb R.bad.length cKb) 23 aa R.bad :: cellE b2 [nS,nS,nS,nS,nS,nS] 114 :: (rs.map (rvE 23 aa) ++ []))) (fun ⟨k,rs,at2,Vt,Vp⟩=>[(85,.int .i64 (k:Nat))]) (fun ⟨k,rs,at2,Vt,Vp⟩=>R.kept.length - k) (0,[],[],_,_) ⟨Nat.zero_le _,rfl⟩ (Front.c Front.nil) (hL:=(by repeat' (first|exact Pick.refl _|exact Del.here _|apply Pick.cons|apply Del.there|apply Pick.skip|exact Pick.nil _))) (fun i hi m hm=>?_)
 obtain ⟨k,rs,at2,Vt,Vp⟩:=i
 dsimp only at hi hm
 conv=>enter [3]; dsimp only
 conv=>enter [4,1]; dsimp only
 obtain ⟨hk,hfa⟩:=hi
 refine zR6 ?_
 refine ab rfl ?_ ?_<;>intro h12
 ·refine zR2 ?_
  refine gX (ι:=List (RV UInt32) × List UInt32 × Value × Value) (fun ⟨rs3,at3,Vt3,Vp3⟩=>(⟨rs3.map (·.data),at3⟩:FndV)=kM l R.kept (ss.map (·.data)) ⟨rs.map (·.data),at2⟩ (R.kept.getD k default)) (fun _=>G) (fun ⟨rs3,at3,Vt3,Vp3⟩=>(rowE VC 36 al R.kept :: cellE b6 [.slice pKi R.kept.length cKi,.slice pKe R.ents.length cKe,.slice pKu R.unk.length cKu,.slice pKb R.bad.length cKb,Vt3,Vp3] 114 :: rowE Vt3 31 bX rs3 :: rowE Vp3 23 aa at3 :: rowE Vs 177 bX ss :: rowE (.slice pKi R.kept.length cKi) 36 al R.kept :: rowE (.slice pKe R.ents.length cKe) 23 aa R.ents :: rowE (.slice pKu R.unk.length cKu) 23 aa R.unk :: rowE (.slice pKb R.bad.length cKb) 23 aa R.bad :: cellE b2 [nS,nS,nS,nS,nS,nS] 114 :: (rs3.map (rvE 23 aa) ++ []))) (fun ⟨rs3,at3,Vt3,Vp3⟩=>[]) ?_ (fun i hi=>?_)
  ·skip
   refine zR5 ?_
   refine bH aF rfl (fun b13=>zR7 ?_)
   refine zz0 (aK rfl (fun w hw=>wT (R.kept.getD k default) w (hkI _ (ba (by omega))))) (zR3 ?_)
   refine ab rfl ?_ ?_<;>intro h14
   ·have hqi:ow (R.kept.getD k default)=false:=h14
    refine zR4 ?_
    refine aT (_,_,_,_) (hL:=(by repeat' (first|exact Pick.refl _|exact Del.here _|apply Pick.cons|apply Del.there|apply Pick.skip|exact Pick.nil _))) (o:=(by show _=_; first|exact (mc hqi).symm|exact (sL hbk).symm|exact (sM hbt hqt).symm|(rw [sK hqi hbt hqt]; simp)))
   have hqi:ow (R.kept.getD k default)=true:=by simpa using h14
   refine nz (zz0 (aI (vs:=[]) rfl rfl (xg)) ?_)
   refine bH cm rfl (fun b15=>gB ?_)
   refine cT (ι:=Nat × StV × Bool) (fun ⟨q,b,kn⟩=>q≤ss.length∧(b,kn)=(sg R.kept (R.kept.getD k default).addr ((ss.map (·.data)).take q))) (fun _=>G) (fun ⟨q,b,kn⟩=>(cellE b15 (bY.enc b) 37 :: cellE b13 (al.enc (R.kept.getD k default)) 36 :: rowE VC 36 al R.kept :: cellE b6 [.slice pKi R.kept.length cKi,.slice pKe R.ents.length cKe,.slice pKu R.unk.length cKu,.slice pKb R.bad.length cKb,Vt,Vp] 114 :: rowE Vt 31 bX rs :: rowE Vp 23 aa at2 :: rowE Vs 177 bX ss :: rowE (.slice pKi R.kept.length cKi) 36 al R.kept :: rowE (.slice pKe R.ents.length cKe) 23 aa R.ents :: rowE (.slice pKu R.unk.length cKu) 23 aa R.unk :: rowE (.slice pKb R.bad.length cKb) 23 aa R.bad :: cellE b2 [nS,nS,nS,nS,nS,nS] 114 :: (rs.map (rvE 23 aa) ++ []))) (fun ⟨q,b,kn⟩=>[(95,.int .i64 (q:Nat)),(22,.bool kn)]) (fun ⟨q,b,kn⟩=>ss.length - q) (0,gx,false) ⟨Nat.zero_le _,rfl⟩ (Front.c (Front.c Front.nil)) (hL:=(by repeat' (first|exact Pick.refl _|exact Del.here _|apply Pick.cons|apply Del.there|apply Pick.skip|exact Pick.nil _))) (fun i hi m hm=>?_)
   obtain ⟨q,b,kn⟩:=i
   dsimp only at hi hm
   conv=>enter [3]; dsimp only
   conv=>enter [4,1]; dsimp only
   obtain ⟨hq,hbf⟩:=hi
   have hgd:((ss.map (·.data))).getD q default=(ss.getD q default).data:=by
    simp only [List.getD_eq_getElem?_getD,List.getElem?_map]
    cases ss[q]?<;>rfl
   refine zR6 ?_
   refine ab rfl ?_ ?_<;>intro h16
   ·refine K8 ?_
    refine zz0 (aK rfl (fun w hw=>HV R.kept (ss.getD q default).data (R.kept.getD k default).addr _ _ w hw.rM (hw.slF (hss _ (ba (by omega)))))) (zR3 ?_)
    refine bH cm rfl (fun b17=>cj ?_)
    refine ab rfl ?_ ?_<;>intro h18
    ·have hqb:(eR R.kept (ss.getD q default).data (R.kept.getD k default).addr).2=false:=h18
     refine zR9 ?_
     refine aP (q+1,b,kn) (hL:=(by repeat' (first|exact Pick.refl _|exact Del.here _|apply Pick.cons|apply Del.there|apply Pick.skip|exact Pick.nil _))) (o:=⟨by omega,by rw [BN (by rw [List.length_map]; omega),← hbf,hgd]; unfold AG; rw [if_neg (by rw [hqb]; simp)]⟩)
    have hqb:(eR R.kept (ss.getD q default).data (R.kept.getD k default).addr).2=true:=by simpa using h18
    refine zR2 ?_
    refine dZ (.of (ι:=StV) (fun x1=>x1=if kn=true then gr b (eR R.kept (ss.getD q default).data (R.kept.getD k default).addr).1 8 else (eR R.kept (ss.getD q default).data (R.kept.getD k default).addr).1) (fun _=>G) (fun x1=>(cellE b17 (bY.enc x1) 37 :: cellE b15 (bY.enc b) 37 :: cellE b13 (al.enc (R.kept.getD k default)) 36 :: rowE VC 36 al R.kept :: cellE b6 [.slice pKi R.kept.length cKi,.slice pKe R.ents.length cKe,.slice pKu R.unk.length cKu,.slice pKb R.bad.length cKb,Vt,Vp] 114 :: rowE Vt 31 bX rs :: rowE Vp 23 aa at2 :: rowE Vs 177 bX ss :: rowE (.slice pKi R.kept.length cKi) 36 al R.kept :: rowE (.slice pKe R.ents.length cKe) 23 aa R.ents :: rowE (.slice pKu R.unk.length cKu) 23 aa R.unk :: rowE (.slice pKb R.bad.length cKb) 23 aa R.bad :: cellE b2 [nS,nS,nS,nS,nS,nS] 114 :: (rs.map (rvE 23 aa) ++ []))) (fun x1=>[])) ?_ (fun x1 hi=>?_)
    ·skip
     refine zR5 ?_
     refine ab rfl ?_ ?_<;>intro h19
     ·have hkn:kn=true:=h19
      refine zR3 ?_
      refine zz0 (ak rfl (qP _ _)) (zR3 ?_)
      refine aT _ (hL:=(by repeat' (first|exact Pick.refl _|exact Del.here _|apply Pick.cons|apply Del.there|apply Pick.skip|exact Pick.nil _))) (o:=(by show _=_; rw [if_pos hkn]))
     have hkn:kn=false:=by simpa using h19
     refine zR2 ?_
     refine aT _ (hL:=(by repeat' (first|exact Pick.refl _|exact Del.here _|apply Pick.cons|apply Del.there|apply Pick.skip|exact Pick.nil _))) (o:=(by show _=_; rw [if_neg (by rw [hkn]; simp)]))
    skip
    have hx1:=hi
    refine df ?_
    refine aP (q+1,x1,true) (hL:=(by repeat' (first|exact Pick.refl _|exact Del.here _|apply Pick.cons|apply Del.there|apply Pick.skip|exact Pick.nil _))) (o:=⟨by omega,by rw [BN (by rw [List.length_map]; omega),← hbf,hgd]; unfold AG; rw [if_pos hqb,hx1]; cases kn<;>rfl⟩)
   refine zR7 ?_
   obtain rfl:q=ss.length:=by omega
   have hbf2:(b,kn)=sg R.kept (R.kept.getD k default).addr (ss.map (·.data)):=by rw [hbf,List.take_of_length_le (by rw [List.length_map]; exact Nat.le_refl _)]
   refine zR5 ?_
   refine ab rfl ?_ ?_<;>intro h20
   ·have hkn:kn=false:=h20
    have hbk:(b,false)=sg R.kept (R.kept.getD k default).addr (ss.map (·.data)):=by rw [← hkn]; exact hbf2
    refine zR4 ?_
    refine aT (_,_,_,_) (hL:=(by repeat' (first|exact Pick.refl _|exact Del.here _|apply Pick.cons|apply Del.there|apply Pick.skip|exact Pick.nil _))) (o:=(by show _=_; first|exact (mc hqi).symm|exact (sL hbk).symm|exact (sM hbt hqt).symm|(rw [sK hqi hbt hqt]; simp)))
   have hkn:kn=true:=by simpa using h20
   have hbt:(b,true)=sg R.kept (R.kept.getD k default).addr (ss.map (·.data)):=by rw [← hkn]; exact hbf2
   refine zR7 ?_
   refine eT (fun V=>.tuple #[V,.int .i64 (aQ l (R.kept.getD k default) (b.get (R.kept.getD k default).a)).2]) rfl qh (fun w hw=>nP l pV cV (R.kept.getD k default) b w (hw.slF hVG) hB (hDG.mono hw.bg) hN (hkI _ (ba (by omega)))) rfl (fun VJ=>gB ?_)
   refine ab rfl ?_ ?_<;>intro h21
   ·have hqt:(aQ l (R.kept.getD k default) (b.get (R.kept.getD k default).a)).2=0:=h21
    refine eV (V:=VJ) (fun pJ cJ hpv=>?_)
    subst hpv
    have htl:(aQ l (R.kept.getD k default) (b.get (R.kept.getD k default).a)).1.length≤64:=rz
    have hfl:=vX l R.kept (ss.map (·.data)) (R.kept.take k)
    rw [List.length_take] at hfl
    have hrsl:rs.length=(oe l R.kept (ss.map (·.data)) (R.kept.take k)).ts.length:=by rw [← hfa]; simp
    have hatl:at2.length=(oe l R.kept (ss.map (·.data)) (R.kept.take k)).at_.length:=by rw [← hfa]
    refine zM (A:=[cellE b15 (bY.enc b) 37,cellE b13 (al.enc (R.kept.getD k default)) 36,rowE VC 36 al R.kept,cellE b6 [.slice pKi R.kept.length cKi,.slice pKe R.ents.length cKe,.slice pKu R.unk.length cKu,.slice pKb R.bad.length cKb,Vt,Vp] 114,rowE Vt 31 bX rs,rowE Vp 23 aa at2,rowE Vs 177 bX ss,rowE (.slice pKi R.kept.length cKi) 36 al R.kept,rowE (.slice pKe R.ents.length cKe) 23 aa R.ents,rowE (.slice pKu R.unk.length cKu) 23 aa R.unk,rowE (.slice pKb R.bad.length cKb) 23 aa R.bad,cellE b2 [nS,nS,nS,nS,nS,nS] 114]) (f:=(rvE 23 aa)) (rs:=rs) (⟨(aQ l (R.kept.getD k default) (b.get (R.kept.getD k default).a)).1,pJ,cJ⟩:RV UInt32) ?_
    change Tr _ _ (cellE b15 (bY.enc b) 37 :: cellE b13 (al.enc (R.kept.getD k default)) 36 :: rowE VC 36 al R.kept :: cellE b6 [.slice pKi R.kept.length cKi,.slice pKe R.ents.length cKe,.slice pKu R.unk.length cKu,.slice pKb R.bad.length cKb,Vt,Vp] 114 :: rowE Vt 31 bX rs :: rowE Vp 23 aa at2 :: rowE Vs 177 bX ss :: rowE (.slice pKi R.kept.length cKi) 36 al R.kept :: rowE (.slice pKe R.ents.length cKe) 23 aa R.ents :: rowE (.slice pKu R.unk.length cKu) 23 aa R.unk :: rowE (.slice pKb R.bad.length cKb) 23 aa R.bad :: cellE b2 [nS,nS,nS,nS,nS,nS] 114 :: ((rs ++ [(⟨(aQ l (R.kept.getD k default) (b.get (R.kept.getD k default).a)).1,pJ,cJ⟩:RV UInt32)]).map (rvE 23 aa) ++ [])) _ _
    refine bC ([cellE b13 (al.enc (R.kept.getD k default)) 36]) 15 rfl ah ?_
    refine tX 15 ?_
    repeat' (first
     | refine q9.cons ?_ ?_
     | exact q9.nil
     | (refine gu 1 ?_; refine iY rfl ?_; refine zz0 (iF rfl) ?_; refine lA ?_)
     | (refine gu 3 ?_; refine iY rfl ?_; refine fM (E:=(bX (α:=UInt32))) (⟨(aQ l (R.kept.getD k default) (b.get (R.kept.getD k default).a)).1,pJ,cJ⟩:RV UInt32) rfl rfl gz eS oh (fun V22=>?_); refine lA ?_)
     | (refine gu 4 ?_; refine iY rfl ?_; refine zz3 rfl rfl gz uf (fun V23=>?_); refine cn (.head _) (fun pz cz hpz=>?_); subst hpz; refine lA ?_)
     | (refine gu 6 ?_; refine iY rfl ?_; refine zz0 (iF rfl) ?_; refine lA ?_)
     | (refine gu 9 ?_; refine iY rfl ?_; refine fM (E:=aa) (R.kept.getD k default).addr rfl rfl am ar bj (fun V24=>?_); refine lA ?_)
     | (refine gu 10 ?_; refine iY rfl ?_; refine zz3 rfl rfl am cp (fun V25=>?_); refine cn (.head _) (fun py cy hpy=>?_); subst hpy; refine lA ?_)
     | (refine gu 12 ?_; refine iY rfl ?_; refine zz1 (cs':=[_,_,_,_,_,_]) rfl rfl sizeOf53 rfl ?_; refine lA ?_)
     | (refine gu 14 ?_; refine iY rfl ?_; refine zz1 (cs':=[_,_,_,_,_,_]) rfl rfl eS rfl ?_; refine lA ?_)
     | (refine bI 0 ?_; refine eP 0 rfl (bE rfl) ?_)
     | (refine bI 1 ?_; refine eP 2 rfl (af rfl) ?_)
     | (refine bI 5 ?_; refine eP 5 rfl (bE rfl) ?_)
     | (refine bI 37 ?_; refine eP 7 rfl (bE rfl) ?_)
     | (refine bI 165 ?_; refine eP 8 rfl (iF rfl) ?_)
     | (refine bI 511 ?_; refine eP 11 rfl (bE rfl) ?_)
     | (refine bI 8191 ?_; refine eP 13 rfl (bE rfl) ?_)
     | (refine bI 1023 ?_; refine eP 11 rfl (bE rfl) ?_)
     | (refine bI 421 ?_; refine jN [1,3,6,9] ?_)
     | (refine bI 423 ?_; refine jN [3,6,9] ?_)
     | (refine bI 431 ?_; refine jN [4,6,9] ?_)
     | (refine bI 447 ?_; refine jN [6,9] ?_)
     | (refine bI 2559 ?_; refine jN [9] ?_)
     | (refine bI 3071 ?_; refine jN [10] ?_)
     | (refine bI 4095 ?_; refine jN [12] ?_)
     | (refine bI 16383 ?_; refine jN [14] ?_)
     | (refine bI 959 ?_; refine jN [6] ?_)
     | (refine bI 495 ?_; refine jN [4,9] ?_)
     | (refine bI 1007 ?_; refine jN [4] ?_)
     | (refine bI 943 ?_; refine jN [4,6] ?_)
     | (refine bI 487 ?_; refine jN [3,9] ?_)
     | (refine bI 999 ?_; refine jN [3] ?_)
     | (refine bI 935 ?_; refine jN [3,6] ?_)
     | (refine bI 429 ?_; refine jN [1,6,9] ?_)
     | (refine bI 493 ?_; refine jN [1,9] ?_)
     | (refine bI 1005 ?_; refine jN [1] ?_)
     | (refine bI 941 ?_; refine jN [1,6] ?_)
     | (refine bI 485 ?_; refine jN [1,3,9] ?_)
     | (refine bI 997 ?_; refine jN [1,3] ?_)
     | (refine bI 933 ?_; refine jN [1,3,6] ?_)
     | (
      refine bI 32767 ?_
      refine om (by kernel_rfl) (zR2 ?_)
      apply bO (_,_,_,_)
      ·exact rfl
      ·exact Front.nil
      ·exact zz9 41 rfl
      ·exact (by repeat' (first|exact Pick.refl _|exact Del.here _|apply Pick.cons|apply Del.there|apply Pick.skip|exact Pick.nil _))
      ·exact (by show _=_; first|exact (mc hqi).symm|exact (sL hbk).symm|exact (sM hbt hqt).symm|(rw [sK hqi hbt hqt]; simp))
      )
     )
   have hqt:(aQ l (R.kept.getD k default) (b.get (R.kept.getD k default).a)).2≠0:=h21
   refine zR3 ?_
   refine aT (_,_,_,_) (hL:=(by repeat' (first|exact Pick.refl _|exact Del.here _|apply Pick.cons|apply Del.there|apply Pick.skip|exact Pick.nil _))) (o:=(by show _=_; first|exact (mc hqi).symm|exact (sL hbk).symm|exact (sM hbt hqt).symm|(rw [sK hqi hbt hqt]; simp)))
  obtain ⟨rs3,at3,Vt3,Vp3⟩:=i
  replace hi:(⟨rs3.map (·.data),at3⟩:FndV)=kM l R.kept (ss.map (·.data)) ⟨rs.map (·.data),at2⟩ (R.kept.getD k default):=hi
  change Tr _ _ (rowE VC 36 al R.kept :: cellE b6 [.slice pKi R.kept.length cKi,.slice pKe R.ents.length cKe,.slice pKu R.unk.length cKu,.slice pKb R.bad.length cKb,Vt3,Vp3] 114 :: rowE Vt3 31 bX rs3 :: rowE Vp3 23 aa at3 :: rowE Vs 177 bX ss :: rowE (.slice pKi R.kept.length cKi) 36 al R.kept :: rowE (.slice pKe R.ents.length cKe) 23 aa R.ents :: rowE (.slice pKu R.unk.length cKu) 23 aa R.unk :: rowE (.slice pKb R.bad.length cKb) 23 aa R.bad :: cellE b2 [nS,nS,nS,nS,nS,nS] 114 :: (rs3.map (rvE 23 aa) ++ [])) ([] ++ _) _
  have hi3:=hi
  refine zR5 ?_
  refine aP (k+1,rs3,at3,Vt3,Vp3) (hL:=(by repeat' (first|exact Pick.refl _|exact Del.here _|apply Pick.cons|apply Del.there|apply Pick.skip|exact Pick.nil _))) (o:=⟨by omega,by rw [zi (by omega),← hfa]; exact hi3⟩)
 refine zR6 ?_
 refine eV (V:=Vt) (fun pVt cVt hpv=>?_)
 subst hpv
 refine eV (V:=Vp) (fun pVp cVp hpv=>?_)
 subst hpv
 refine cC (zz0 (cF rfl) (zz8 rfl rfl gW ?_))
 refine zR4 ?_
 refine vn results52 rfl rfl isAgg114 gW (fun w' hw=>?_)
 obtain rfl:k=R.kept.length:=by omega
 rw [List.take_length] at hfa
 rw [List.append_nil] at hw
 exact ⟨((.slice pKi R.kept.length cKi,.slice pKe R.ents.length cKe,.slice pKu R.unk.length cKu,.slice pKb R.bad.length cKb,_,_),(⟨R.kept,R.ents,R.unk,R.bad⟩,⟨rs.map (·.data),at2⟩,0),rs),rfl,hw.below0 hG,hw.ents0 hG.lo (by repeat' (first|exact Pick.refl _|exact Del.here _|apply Pick.cons|apply Del.there|apply Pick.skip|exact Pick.nil _)),⟨c,ew,hwk,by rw [if_neg (fun q=>q hqw),A2 hR (by rw [← hrts]; exact hks0),← hrts,← hks1,hfa]⟩,rfl⟩
end Go.Proofs.YtiajjbhcpeadfaaGreat
