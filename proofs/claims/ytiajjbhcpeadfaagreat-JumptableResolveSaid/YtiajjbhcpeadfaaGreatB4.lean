/- Own rules and walks, part 4. -/
import Derived.Test.YtiajjbhcpeadfaaGreatB3
set_option linter.unusedSimpArgs false
set_option linter.unusedVariables false
set_option linter.unusedSectionVars false
set_option maxRecDepth 100000
set_option maxHeartbeats 16000000
attribute [local irreducible] Go.wpList Go.Code.wp Go.HL.QS Go.HL.Tr Go.HL.TrQ Go.wpQuiet
namespace Go.Proofs.YtiajjbhcpeadfaaGreat
open Go Go.HL Go.RowKit Go.Sort
theorem uG (a:UInt32) (w:World) :
  Cr Tryz.prog 151 #[.int .u32 a.toNat] w (.bool false):=by
 refine En Tryz.f151 rfl rfl (zR9 ?_)
 refine zz0 (jz rfl rfl) (zR4 ?_)
 exact aD (e:=by simp)
theorem iv (a b:UInt32) (w:World) :
  Cr Tryz.prog 260 #[.int .u32 a.toNat,.int .u32 b.toNat] w (.bool (ltW a b)):=by
 refine En Tryz.f260 rfl rfl (zR8 ?_)
 refine zz0 (ak rfl (uG a)) (zz0 (af rfl) ?_)
 apply dV 4 7 11 (fun hT1 hT1'=>?_) ?_; rotate_right
 ·refine zz5 hT1 (af rfl) (zz5 hT1 (ak rfl (uG b)) ?_)
  exact zE
 refine zz0 (af rfl) ?_
 refine cZ 4 12 16 (h2:=zR4 ?_)
 exact aD (e:=by simp [ltW])
theorem Av (d:Array UInt32) (V:Value) (a:Nat) (b:Nat) (ai:Int) (bi:Int) (ea:ai=((a:Nat):Int)) (eb:bi=((b:Nat):Int)) (w:World) (hr:(rowE V 23 aa d.toList).holds w) (hd:d.size≤1000000) (hab:a≤b) (hb:b≤d.size) :
  Calls Tryz.prog 254 #[V,.int .i64 ai,.int .i64 bi] w (fun e w'=>e=.returned (.tuple #[])∧Mut w w' V∧(rowE V 23 aa (insertionSort ltW d a b).toList).holds w'):=by
 subst ea eb
 refine fO (l:=d.toList) (E:=aa) (T:=23) hr Tryz.func254 rfl Tryz.ntmps254 rfl (zR8 ?_)
 refine cT (ι:=Nat × Array UInt32) (fun ⟨i,cur⟩=>a+1≤i∧cur.size=d.size∧insOuter ltW a b i cur=insertionSort ltW d a b) (fun _=>_) (fun ⟨i,cur⟩=>[rowE V 23 aa cur.toList]) (fun ⟨i,cur⟩=>[(6,.int .i64 (i:Nat))]) (fun ⟨i,cur⟩=>b - i) (a+1,d) ⟨Nat.le_refl _,rfl,rfl⟩ (Front.c Front.nil) (fun i hi m hm=>?_)
 obtain ⟨i,cur⟩:=i
 dsimp only at hi hm
 change Tr _ _ [rowE V 23 aa cur.toList] ([(6,.int .i64 (i:Nat))] ++ _) _
 obtain ⟨hi1,hi2,hi3⟩:=hi
 have hcl:cur.toList.length=d.size:=by rw [Array.length_toList]; exact hi2
 refine zR8 ?_
 refine ab rfl ?_ ?_<;>intro h1
 ·refine cj ?_
  refine cT (ι:=Nat × Array UInt32) (fun ⟨j,c2⟩=>j≤i∧c2.size=d.size∧insInner ltW a j c2=insInner ltW a i cur) (fun _=>_) (fun ⟨j,c2⟩=>[rowE V 23 aa c2.toList]) (fun ⟨j,c2⟩=>[(7,.int .i64 (j:Nat))]) (fun ⟨j,c2⟩=>j) (i,cur) ⟨Nat.le_refl _,hi2,rfl⟩ (Front.c Front.nil) (fun i hi m hm=>?_)
  obtain ⟨j,c2⟩:=i
  dsimp only at hi hm
  change Tr _ _ [rowE V 23 aa c2.toList] ([(7,.int .i64 (j:Nat))] ++ _) _
  obtain ⟨hj1,hj2,hj3⟩:=hi
  have ej:((j:Int) - 1).toNat=j - 1:=by omega
  have hc2:c2.toList.length=d.size:=by rw [Array.length_toList]; exact hj2
  refine bB (bB (eU ah (zT4 ?_)))
  apply fD 11 19 30 (fun hT2 hT2'=>?_) ?_; rotate_right
  ·refine zT9 ?_
   refine db hT2 (ak rfl (iv (c2.toList.getD (j) default) (c2.toList.getD (((j:Int) - 1).toNat) default))) ?_
   exact zQ
  refine zT2 ?_
  refine ab rfl ?_ ?_<;>intro h3
  ·refine zR4 ?_
   refine dO 5 15 ah ?_
   refine dN rfl ?_
   refine dN rfl ?_
   refine dN rfl ?_
   refine dN rfl ?_
   refine ic (fun _=>yc rfl rfl) (by rfl) rfl ?_
   refine ax (vp ?_)
   refine fN (l:=c2.toList) (i:=j) (c2.toList.getD (((j:Int) - 1).toNat) default) rfl rfl ar ?_
   have hls4:=@List.length_set _ c2.toList (j) (c2.toList.getD (((j:Int) - 1).toNat) default)
   refine zz0 (ml rfl rfl) (fN (l:=(c2.toList.set (j) (c2.toList.getD (((j:Int) - 1).toNat) default))) (i:=((j:Int) - 1).toNat) (c2.toList.getD (j) default) rfl rfl ar ?_)
   have hls5:=@List.length_set _ (c2.toList.set (j) (c2.toList.getD (((j:Int) - 1).toNat) default)) (((j:Int) - 1).toNat) (c2.toList.getD (j) default)
   refine zR9 ?_
   rw [ej,dB,dB,jl]
   refine aP (j - 1,_) (o:=⟨by omega,by rw [qA]; exact hj2,by rw [← hj3]; exact (xo (d:=c2) (a:=a) (j:=j) (by omega) (by have q:=h3.2; rw [dB,dB,ej] at q; exact q)).symm⟩)
  refine df ?_
  have hst:insInner ltW a j c2=c2:=uE (by
   rcases h3 with q|q
   ·exact .inl (by omega)
   ·rw [dB,dB,ej] at q; exact .inr q)
  rw [hst] at hj3
  refine aP (i+1,c2) (o:=⟨by omega,hj2,by rw [hj3,← E6 (by omega)]; exact hi3⟩)
 refine zR4 ?_
 refine fy Tryz.results254 (fun w' hw=>?_)
 rw [E7 (by omega)] at hi3
 exact ⟨rfl,by rw [← hi3]; exact HpOK.mutOwn hw (.head _) rfl⟩
theorem Eg (d:Array UInt32) (V:Value) (lo:Nat) (top:Nat) (f:Nat) (loi:Int) (topi:Int) (fi:Int) (elo:loi=((lo:Nat):Int)) (etop:topi=((top:Nat):Int)) (ef:fi=((f:Nat):Int)) (w:World) (hr:(rowE V 23 aa d.toList).holds w) (hd:d.size≤1000000) (hlo:lo≤1000000) (hb:f+top≤d.size) :
  Calls Tryz.prog 293 #[V,.int .i64 loi,.int .i64 topi,.int .i64 fi] w (fun e w'=>e=.returned (.tuple #[])∧Mut w w' V∧(rowE V 23 aa (siftDown ltW top f lo d).toList).holds w'):=by
 subst elo etop ef
 refine fO (l:=d.toList) (E:=aa) (T:=23) hr Tryz.func293 rfl Tryz.ntmps293 rfl (zR7 ?_)
 refine cT (ι:=Nat × Array UInt32) (fun ⟨r,cur⟩=>r≤1000000∧cur.size=d.size∧siftDown ltW top f r cur=siftDown ltW top f lo d) (fun _=>_) (fun ⟨r,cur⟩=>[rowE V 23 aa cur.toList]) (fun ⟨r,cur⟩=>[(8,.int .i64 (r:Nat))]) (fun ⟨r,cur⟩=>top - r) (lo,d) ⟨hlo,rfl,rfl⟩ (Front.c Front.nil) (fun i hi m hm=>?_)
 obtain ⟨r,cur⟩:=i
 dsimp only at hi hm
 change Tr _ _ [rowE V 23 aa cur.toList] ([(8,.int .i64 (r:Nat))] ++ _) _
 obtain ⟨hr1,hr2,hr3⟩:=hi
 have hcl:cur.toList.length=d.size:=by rw [Array.length_toList]; exact hr2
 refine zR4 ?_
 refine zz0 (gw rfl rfl (by omega)) (df ?_)
 refine ab rfl ?_ ?_<;>intro h1
 ·refine q8 (qj (ku rfl (zR2 ?_)))
  refine fy Tryz.results293 (fun w' hw=>?_)
  rw [Eh (by omega)] at hr3
  exact ⟨rfl,by rw [← hr3]; exact HpOK.mutOwn hw (.head _) rfl⟩
 refine zR2 ?_
 refine dZ (.of (ι:=Nat) (fun c=>(2 * r+1≤c∧c<top)∧siftDown ltW top f r cur=if ltW cur[f+r]! cur[f+c]! = true then siftDown ltW top f c (swp cur (f+r) (f+c)) else cur) (fun _=>Bg.less w V) (fun c=>[rowE V 23 aa cur.toList]) (fun c=>[(9,.int .i64 (c:Nat))])) ?_ (fun c hi=>?_)
 ·skip
  refine bB (eU ah (zT5 ?_))
  apply fD 15 21 36 (fun hT2 hT2'=>?_) ?_; rotate_right
  ·refine zT3 ?_
   refine db hT2 (tn rfl rfl) (zT5 ?_)
   refine db hT2 (tn rfl rfl) ?_
   refine db hT2 (tn rfl rfl) (zT2 ?_)
   refine db hT2 (ak rfl (iv (cur.toList.getD (f+(2 * r+1)) default) (cur.toList.getD (f+(2 * r+1)+1) default))) ?_
   exact zQ
  refine zT2 ?_
  refine ab rfl ?_ ?_<;>intro h3
  ·refine zR6 ?_
   refine aT (2 * r+2) (o:=⟨by omega,Lt (by omega) (by rw [← dB,← dB]; exact h3.2)⟩)
  refine zR2 ?_
  apply bO (2 * r+1)
  ·exact rfl
  ·exact (Front.c Front.nil)
  ·exact zz9 6 rfl
  ·exact (by repeat' constructor)
  exact ⟨by omega,Lu (by omega) (by
   rcases h3 with q|q
   ·exact .inl (by omega)
   ·exact .inr (by rw [← dB,← dB]; exact q))⟩
 skip
 obtain ⟨hc1,hc2⟩:=hi
 refine bB (bB (eU ah (Jq ?_)))
 refine aw (ak rfl (iv (cur.toList.getD (f+r) default) (cur.toList.getD (f+c) default))) (zT3 ?_)
 refine ab rfl ?_ ?_<;>intro h4
 ·refine zR5 ?_
  refine nA Tryz.results293 (fun w' hw=>?_)
  rw [if_neg (by rw [← dB,← dB]; simp_all)] at hc2
  exact ⟨rfl,by rw [← hr3,hc2]; exact HpOK.mutOwn hw (.head _) rfl⟩
 refine j8 (bB (dO 8 21 ah ?_))
 refine dN rfl ?_
 refine dN rfl ?_
 refine dN rfl ?_
 refine ic (fun _=>tn rfl rfl) (by rfl) rfl ?_
 refine dN rfl ?_
 refine dN rfl ?_
 refine dN rfl ?_
 refine ic (fun _=>tn rfl rfl) (by rfl) rfl ?_
 refine ax (K7 ?_)
 refine fN (l:=cur.toList) (i:=f+r) (cur.toList.getD (f+c) default) rfl rfl ar ?_
 have hls5:=@List.length_set _ cur.toList (f+r) (cur.toList.getD (f+c) default)
 refine zz0 (iG rfl rfl) (fN (l:=(cur.toList.set (f+r) (cur.toList.getD (f+c) default))) (i:=f+c) (cur.toList.getD (f+r) default) rfl rfl ar ?_)
 have hls6:=@List.length_set _ (cur.toList.set (f+r) (cur.toList.getD (f+c) default)) (f+c) (cur.toList.getD (f+r) default)
 refine zR8 ?_
 rw [dB,dB,jl]
 have hst:=hc2
 rw [if_pos (by rw [← dB,← dB]; simp_all)] at hst
 refine aP (c,_) (o:=⟨by omega,by rw [qA]; exact hr2,by rw [← hr3]; exact hst.symm⟩)
theorem MJ (d:Array UInt32) (V:Value) (a:Nat) (b:Nat) (ai:Int) (bi:Int) (ea:ai=((a:Nat):Int)) (eb:bi=((b:Nat):Int)) (w:World) (hr:(rowE V 23 aa d.toList).holds w) (hd:d.size≤1000000) (hab:a<b) (hb:b≤d.size) :
  Calls Tryz.prog 255 #[V,.int .i64 ai,.int .i64 bi] w (fun e w'=>e=.returned (.tuple #[])∧Mut w w' V∧(rowE V 23 aa (heapSort ltW d a b).toList).holds w'):=by
 subst ea eb
 obtain ⟨n,hn⟩:∃ n,n=b - a:=⟨_,rfl⟩
 obtain ⟨d0,hd0⟩:∃ x,x=heapBuild ltW n a ((n - 1) / 2+1) d:=⟨_,rfl⟩
 have hhs:heapSort ltW d a b=heapPop ltW a n d0:=by rw [hd0,hn]; rfl
 refine fO (l:=d.toList) (E:=aa) (T:=23) hr Tryz.func255 rfl Tryz.ntmps255 rfl (QI ?_)
 rw [show ((b:Nat):Int) - ((a:Nat):Int)=((n:Nat):Int) by omega]
 refine zR3 ?_
 refine zz0 (kY rfl rfl (by omega)) (zR4 ?_)
 refine cT (ι:=Nat × Array UInt32) (fun ⟨k,cur⟩=>k≤(n - 1) / 2+1∧cur.size=d.size∧heapBuild ltW n a k cur=d0) (fun _=>_) (fun ⟨k,cur⟩=>[rowE V 23 aa cur.toList]) (fun ⟨k,cur⟩=>[(9,.int .i64 ((k:Int) - 1))]) (fun ⟨k,cur⟩=>k) ((n - 1) / 2+1,d) ⟨Nat.le_refl _,rfl,hd0.symm⟩ (Front.c Front.nil) (fun i hi m hm=>?_)
 obtain ⟨k,cur⟩:=i
 dsimp only at hi hm
 change Tr _ _ [rowE V 23 aa cur.toList] ([(9,.int .i64 ((k:Int) - 1))] ++ _) _
 obtain ⟨hk1,hk2,hk3⟩:=hi
 have hcl:cur.toList.length=d.size:=by rw [Array.length_toList]; exact hk2
 refine zR7 ?_
 refine ab rfl ?_ ?_<;>intro h1
 ·refine zR9 ?_
  refine dH rfl Tryz.call293 (by repeat constructor) (fun w hw=>Eg cur V (k - 1) n a _ _ _ (by omega) (by omega) (by omega) w (hw.ent _ (.head _)) (by omega) (by omega) (by omega)) rfl (zR9 ?_)
  have hst:heapBuild ltW n a (k - 1) (siftDown ltW n a (k - 1) cur)=d0:=by
   obtain ⟨q,rfl⟩:∃ q,k=q+1:=⟨k - 1,by omega⟩
   exact hk3
  refine aP (k - 1,_) (o:=⟨by omega,by rw [Pn]; exact hk2,hst⟩)
 refine zR6 ?_
 obtain rfl:k=0:=by omega
 have hd1:cur=d0:=hk3
 subst hd1
 refine zR7 ?_
 refine cT (ι:=Nat × Array UInt32) (fun ⟨k,cur⟩=>k≤n∧cur.size=d.size∧heapPop ltW a k cur=heapSort ltW d a b) (fun _=>_) (fun ⟨k,cur⟩=>[rowE V 23 aa cur.toList]) (fun ⟨k,cur⟩=>[(10,.int .i64 ((k:Int) - 1))]) (fun ⟨k,cur⟩=>k) (n,_) ⟨Nat.le_refl _,hk2,hhs.symm⟩ (Front.c Front.nil) (fun i hi m hm=>?_)
 obtain ⟨k,cur⟩:=i
 dsimp only at hi hm
 change Tr _ _ [rowE V 23 aa cur.toList] ([(10,.int .i64 ((k:Int) - 1))] ++ _) _
 obtain ⟨hk1,hk2,hk3⟩:=hi
 have hcl:cur.toList.length=d.size:=by rw [Array.length_toList]; exact hk2
 have ek:((a:Int)+((k:Int) - 1)).toNat=a+(k - 1)∨k=0:=by omega
 refine zR7 ?_
 refine ab rfl ?_ ?_<;>intro h2
 ·refine zR5 ?_
  refine dO 6 17 ah ?_
  refine dN rfl ?_
  refine dN rfl ?_
  refine dN rfl ?_
  refine dN rfl ?_
  refine dN rfl ?_
  refine ic (fun _=>tn rfl rfl) (by rfl) rfl ?_
  refine ax (Jq ?_)
  refine fN (l:=cur.toList) (i:=a) (cur.toList.getD (((a:Int)+((k:Int) - 1)).toNat) default) rfl rfl ar ?_
  have hls3:=@List.length_set _ cur.toList (a) (cur.toList.getD (((a:Int)+((k:Int) - 1)).toNat) default)
  refine zz0 (ml rfl rfl) (fN (l:=(cur.toList.set (a) (cur.toList.getD (((a:Int)+((k:Int) - 1)).toNat) default))) (i:=((a:Int)+((k:Int) - 1)).toNat) (cur.toList.getD (a) default) rfl rfl ar ?_)
  have hls4:=@List.length_set _ (cur.toList.set (a) (cur.toList.getD (((a:Int)+((k:Int) - 1)).toNat) default)) (((a:Int)+((k:Int) - 1)).toNat) (cur.toList.getD (a) default)
  rw [ek.resolve_right (by omega),dB,dB,jl]
  refine zR7 ?_
  refine dH rfl Tryz.call293 (by repeat constructor) (fun w hw=>Eg (swp cur a (a+(k - 1))) V 0 (k - 1) a _ _ _ (by omega) (by omega) (by omega) w (hw.ent _ (.head _)) (by rw [qA]; omega) (by omega) (by rw [qA]; omega)) rfl (zR9 ?_)
  have hst:heapPop ltW a (k - 1) (siftDown ltW (k - 1) a 0 (swp cur a (a+(k - 1))))=heapSort ltW d a b:=by
   obtain ⟨q,rfl⟩:∃ q,k=q+1:=⟨k - 1,by omega⟩
   exact hk3
  refine aP (k - 1,_) (o:=⟨by omega,by rw [Pn,qA]; exact hk2,hst⟩)
 refine zR4 ?_
 refine fy Tryz.results255 (fun w' hw=>?_)
 obtain rfl:k=0:=by omega
 exact ⟨rfl,by rw [← hk3]; exact HpOK.mutOwn hw (.head _) rfl⟩
theorem Er (d:Array UInt32) (V:Value) (a:Nat) (b:Nat) (ai:Int) (bi:Int) (ea:ai=((a:Nat):Int)) (eb:bi=((b:Nat):Int)) (w:World) (hr:(rowE V 23 aa d.toList).holds w) (hd:d.size≤1000000) (hab:a<b) (hb:b≤d.size) :
  Calls Tryz.prog 258 #[V,.int .i64 ai,.int .i64 bi] w (fun e w'=>e=.returned (.tuple #[])∧Mut w w' V∧(rowE V 23 aa (reverseRange d a b).toList).holds w'):=by
 subst ea eb
 refine fO (l:=d.toList) (E:=aa) (T:=23) hr Tryz.func258 rfl Tryz.ntmps258 rfl (jk ?_)
 refine cT (ι:=Nat × Nat × Array UInt32) (fun ⟨i,j,cur⟩=>(a≤i∧j<b)∧cur.size=d.size∧reverseLoop i j cur=reverseRange d a b) (fun _=>_) (fun ⟨i,j,cur⟩=>[rowE V 23 aa cur.toList]) (fun ⟨i,j,cur⟩=>[(6,.int .i64 (i:Nat)),(7,.int .i64 (j:Nat))]) (fun ⟨i,j,cur⟩=>j - i) (a,b - 1,d) ⟨⟨Nat.le_refl _,by omega⟩,rfl,rfl⟩ (Front.c (Front.c Front.nil)) (fun i hi m hm=>?_)
 obtain ⟨i,j,cur⟩:=i
 dsimp only at hi hm
 conv=>enter [3]; dsimp only
 conv=>enter [4,1]; dsimp only
 obtain ⟨hi1,hi2,hi3⟩:=hi
 have hcl:cur.toList.length=d.size:=by rw [Array.length_toList]; exact hi2
 refine zR8 ?_
 refine ab rfl ?_ ?_<;>intro h1
 ·refine zR4 ?_
  refine dO 4 13 ah ?_
  refine dN rfl ?_
  refine dN rfl ?_
  refine dN rfl ?_
  refine dN rfl ?_
  refine ax (Af ?_)
  refine fN (l:=cur.toList) (i:=i) (cur.toList.getD (j) default) rfl rfl ar ?_
  have hls2:=@List.length_set _ cur.toList (i) (cur.toList.getD (j) default)
  refine zz0 (iG rfl rfl) (fN (l:=(cur.toList.set (i) (cur.toList.getD (j) default))) (i:=j) (cur.toList.getD (i) default) rfl rfl ar ?_)
  have hls3:=@List.length_set _ (cur.toList.set (i) (cur.toList.getD (j) default)) (j) (cur.toList.getD (i) default)
  refine pf ?_
  rw [dB,dB,jl]
  refine aP (i+1,j - 1,_) (o:=⟨⟨by omega,by omega⟩,by rw [qA]; exact hi2,by rw [← PG (by omega)]; exact hi3⟩)
 refine zR4 ?_
 refine fy Tryz.results258 (fun w' hw=>?_)
 rw [LM (by omega)] at hi3
 exact ⟨rfl,by rw [← hi3]; exact HpOK.mutOwn hw (.head _) rfl⟩
theorem Aq (d:Array UInt32) (V:Value) (a:Nat) (b:Nat) (p:Nat) (ai:Int) (bi:Int) (pi:Int) (ea:ai=((a:Nat):Int)) (eb:bi=((b:Nat):Int)) (ep:pi=((p:Nat):Int)) (w:World) (hr:(rowE V 23 aa d.toList).holds w) (hd:d.size≤1000000) (hab:a+1<b) (hb:b≤d.size) (hp:p<b) :
  Calls Tryz.prog 262 #[V,.int .i64 ai,.int .i64 bi,.int .i64 pi] w (fun e w'=>e=.returned (.tuple #[.int .i64 ((partition ltW d a b p).1:Nat),.bool (partition ltW d a b p).2.1])∧Mut w w' V∧(rowE V 23 aa (partition ltW d a b p).2.2.toList).holds w'):=by
 subst ea eb ep
 obtain ⟨d1,hd1⟩:∃ x,x=swp d a p:=⟨_,rfl⟩
 have hs1:d1.size=d.size:=by rw [hd1,qA]
 have hl0:d.toList.length=d.size:=Array.length_toList
 have hl1:d1.toList.length=d.size:=by rw [Array.length_toList]; exact hs1
 obtain ⟨P,hP⟩:∃ P:UInt32→Bool,P=fun x=>ltW x d1[a]! := ⟨_,rfl⟩
 refine fO (l:=d.toList) (E:=aa) (T:=23) hr Tryz.func262 rfl Tryz.ntmps262 rfl (zR7 ?_)
 refine dO 4 13 ah ?_
 refine dN rfl ?_
 refine dN rfl ?_
 refine dN rfl ?_
 refine dN rfl ?_
 refine ax (Af ?_)
 refine fN (l:=d.toList) (i:=a) (d.toList.getD (p) default) rfl rfl ar ?_
 have hls1:=@List.length_set _ d.toList (a) (d.toList.getD (p) default)
 refine zz0 (iG rfl rfl) (fN (l:=(d.toList.set (a) (d.toList.getD (p) default))) (i:=p) (d.toList.getD (a) default) rfl rfl ar ?_)
 have hls2:=@List.length_set _ (d.toList.set (a) (d.toList.getD (p) default)) (p) (d.toList.getD (a) default)
 rw [dB,dB,jl,← hd1]
 refine jk ?_
 refine cP (.of (ι:=Nat) (fun i=>a+1≤i∧i≤b∧scanUp (fun x=>ltW x d1[a]!) d1 (b - 1) i=scanUp (fun x=>ltW x d1[a]!) d1 (b - 1) (a+1)) (fun _=>_) (fun i=>[rowE V 23 aa d1.toList]) (fun i=>[(10,.int .i64 (i:Nat)),(11,.int .i64 ((b:Int) - 1))]) (fun i=>b - i)) (a+1) ⟨Nat.le_refl _,by omega,rfl⟩ (Front.c (Front.c Front.nil)) (fun i hi m hm=>?_)
 obtain ⟨hi1,hi2,hi3⟩:=hi
 refine bB (bB (eU ah (zT4 ?_)))
 apply fD 10 33 43 (fun hT3 hT3'=>?_) ?_; rotate_right
 ·refine zT8 ?_
  refine db hT3 (ak rfl (iv (d1.toList.getD (i) default) (d1.toList.getD (a) default))) ?_
  exact zQ
 refine zT2 ?_
 refine ab rfl ?_ ?_<;>intro h4
 ·refine bR ?_
  refine aP (i+1) (o:=⟨by omega,by omega,by rw [← hi3]; exact (Lh (by omega) (by rw [← dB,← dB]; exact h4.2)).symm⟩)
 refine zR7 ?_
 refine cP (.of (ι:=Nat) (fun j=>j<b∧i≤j+1∧scanDown (fun x=>!ltW x d1[a]!) d1 i j=scanDown (fun x=>!ltW x d1[a]!) d1 i (b - 1)) (fun _=>_) (fun j=>[rowE V 23 aa d1.toList]) (fun j=>[(10,.int .i64 (i:Nat)),(11,.int .i64 (j:Nat))]) (fun j=>j)) (b - 1) ⟨by omega,by omega,rfl⟩ (Front.c (Front.c Front.nil)) (fun j hi m hm=>?_)
 obtain ⟨hj1,hj2,hj3⟩:=hi
 refine bB (bB (eU ah (zT4 ?_)))
 apply fD 11 49 60 (fun hT5 hT5'=>?_) ?_; rotate_right
 ·refine zT8 ?_
  refine db hT5 (ak rfl (iv (d1.toList.getD (j) default) (d1.toList.getD (a) default))) ?_
  exact zQ
 refine zT2 ?_
 refine ab rfl ?_ ?_<;>intro h6
 ·refine bR ?_
  refine aP (j - 1) (o:=⟨by omega,by omega,by rw [← hj3]; exact (Da (by omega) (by omega) (by rw [← dB,← dB]; simp_all)).symm⟩)
 refine zR7 ?_
 have hI:scanUp (fun x=>ltW x d1[a]!) d1 (b - 1) (a+1)=i:=by
  rw [← hi3]; exact Cb (by
   rcases h4 with q|q
   ·exact .inl (by omega)
   ·exact .inr (by rw [← dB,← dB]; exact q))
 have hJ:scanDown (fun x=>!ltW x d1[a]!) d1 i (b - 1)=j:=by
  rw [← hj3]; exact v7 (by
   rcases h6 with q|q
   ·exact .inl (by omega)
   ·exact .inr (by rw [← dB,← dB,q]; rfl))
 refine zR6 ?_
 refine ab rfl ?_ ?_<;>intro h7
 ·refine bB (dO 4 13 ah ?_)
  refine dN rfl ?_
  refine dN rfl ?_
  refine dN rfl ?_
  refine dN rfl ?_
  refine ax (Af ?_)
  refine fN (l:=d1.toList) (i:=j) (d1.toList.getD (a) default) rfl rfl ar ?_
  have hls8:=@List.length_set _ d1.toList (j) (d1.toList.getD (a) default)
  refine zz0 (iG rfl rfl) (fN (l:=(d1.toList.set (j) (d1.toList.getD (a) default))) (i:=a) (d1.toList.getD (j) default) rfl rfl ar ?_)
  have hls9:=@List.length_set _ (d1.toList.set (j) (d1.toList.getD (a) default)) (a) (d1.toList.getD (j) default)
  rw [dB,dB,jl]
  refine cj ?_
  refine cG Tryz.results262 rfl rfl (fun w' hw=>?_)
  have hpt:partition ltW d a b p=(j,true,swp d1 j a):=by
   unfold partition; simp only [← hd1,hI,hJ]; rw [if_pos (by omega)]
  exact ⟨by rw [hpt],by rw [hpt]; exact HpOK.mutOwn hw (.head _) rfl⟩
 refine zR3 ?_
 have hij:i<j:=by
  rcases Nat.lt_or_ge i j with q|q
  ·exact q
  ·exfalso
   have e:i=j:=by omega
   rcases h4 with g1|g1
   ·omega
   ·rcases h6 with g2|g2
    ·omega
    ·rw [e,g2] at g1; cases g1
 refine dO 4 13 ah ?_
 refine dN rfl ?_
 refine dN rfl ?_
 refine dN rfl ?_
 refine dN rfl ?_
 refine ax (Af ?_)
 refine fN (l:=d1.toList) (i:=i) (d1.toList.getD (j) default) rfl rfl ar ?_
 have hls10:=@List.length_set _ d1.toList (i) (d1.toList.getD (j) default)
 refine zz0 (iG rfl rfl) (fN (l:=(d1.toList.set (i) (d1.toList.getD (j) default))) (i:=j) (d1.toList.getD (i) default) rfl rfl ar ?_)
 have hls11:=@List.length_set _ (d1.toList.set (i) (d1.toList.getD (j) default)) (j) (d1.toList.getD (i) default)
 rw [dB,dB,jl]
 refine GP ?_
 refine cT (ι:=Nat × Nat × Array UInt32) (fun ⟨i3,j3,cur⟩=>(a+1≤i3∧i3≤j3+1∧j3<b)∧cur.size=d.size∧partLoop ltW a i3 j3 cur=partLoop ltW a (i+1) (j - 1) (swp d1 i j)) (fun _=>_) (fun ⟨i3,j3,cur⟩=>[rowE V 23 aa cur.toList]) (fun ⟨i3,j3,cur⟩=>[(10,.int .i64 (i3:Nat)),(11,.int .i64 (j3:Nat))]) (fun ⟨i3,j3,cur⟩=>j3+1 - i3) (i+1,j - 1,swp d1 i j) ⟨by omega,by rw [qA]; exact hs1,rfl⟩ (Front.c (Front.c Front.nil)) (fun i hi m hm=>?_)
 obtain ⟨i3,j3,cur⟩:=i
 dsimp only at hi hm
 conv=>enter [3]; dsimp only
 conv=>enter [4,1]; dsimp only
 obtain ⟨hk1,hk2,hk3⟩:=hi
 have hcl:cur.toList.length=d.size:=by rw [Array.length_toList]; exact hk2
 refine sk (bB (sk (cP (.of (ι:=Nat) (fun x=>i3≤x∧x≤j3+1∧scanUp (fun z=>ltW z cur[a]!) cur j3 x=scanUp (fun z=>ltW z cur[a]!) cur j3 i3) (fun _=>_) (fun x=>[rowE V 23 aa cur.toList]) (fun x=>[(10,.int .i64 (x:Nat)),(11,.int .i64 (j3:Nat))]) (fun x=>j3+1 - x)) i3 ⟨Nat.le_refl _,by omega,rfl⟩ (Front.c (Front.c Front.nil)) (fun x hi m hm=>?_))))
 obtain ⟨hx1,hx2,hx3⟩:=hi
 refine bB (bB (eU ah (zT4 ?_)))
 apply fD 10 102 112 (fun hT12 hT12'=>?_) ?_; rotate_right
 ·refine zT8 ?_
  refine db hT12 (ak rfl (iv (cur.toList.getD (x) default) (cur.toList.getD (a) default))) ?_
  exact zQ
 refine zT2 ?_
 refine ab rfl ?_ ?_<;>intro h13
 ·refine bR ?_
  refine aP (x+1) (o:=⟨by omega,by omega,by rw [← hx3]; exact (Lh (by omega) (by rw [← dB,← dB]; simp_all)).symm⟩)
 refine zR7 ?_
 refine cP (.of (ι:=Nat) (fun y=>y≤j3∧x≤y+1∧scanDown (fun z=>!ltW z cur[a]!) cur x y=scanDown (fun z=>!ltW z cur[a]!) cur x j3) (fun _=>_) (fun y=>[rowE V 23 aa cur.toList]) (fun y=>[(10,.int .i64 (x:Nat)),(11,.int .i64 (y:Nat))]) (fun y=>y)) j3 ⟨Nat.le_refl _,by omega,rfl⟩ (Front.c (Front.c Front.nil)) (fun y hi m hm=>?_)
 obtain ⟨hy1,hy2,hy3⟩:=hi
 refine bB (bB (eU ah (zT4 ?_)))
 apply fD 11 118 129 (fun hT14 hT14'=>?_) ?_; rotate_right
 ·refine zT8 ?_
  refine db hT14 (ak rfl (iv (cur.toList.getD (y) default) (cur.toList.getD (a) default))) ?_
  exact zQ
 refine zT2 ?_
 refine ab rfl ?_ ?_<;>intro h15
 ·refine bR ?_
  refine aP (y - 1) (o:=⟨by omega,by omega,by rw [← hy3]; exact (Da (by omega) (by omega) (by rw [← dB,← dB]; simp_all)).symm⟩)
 refine zR7 ?_
 have hX:scanUp (fun z=>ltW z cur[a]!) cur j3 i3=x:=by
  rw [← hx3]; exact Cb (by
   rcases h13 with q|q
   ·exact .inl (by omega)
   ·exact .inr (by rw [← dB,← dB]; exact q))
 have hY:scanDown (fun z=>!ltW z cur[a]!) cur x j3=y:=by
  rw [← hy3]; exact v7 (by
   rcases h15 with q|q
   ·exact .inl (by omega)
   ·exact .inr (by rw [← dB,← dB,q]; rfl))
 refine zR6 ?_
 refine ab rfl ?_ ?_<;>intro h16
 ·refine q8 (qj (ku rfl (zR4 ?_)))
  refine dO 4 13 ah ?_
  refine dN rfl ?_
  refine dN rfl ?_
  refine dN rfl ?_
  refine dN rfl ?_
  refine ax (Af ?_)
  refine fN (l:=cur.toList) (i:=y) (cur.toList.getD (a) default) rfl rfl ar ?_
  have hls17:=@List.length_set _ cur.toList (y) (cur.toList.getD (a) default)
  refine zz0 (iG rfl rfl) (fN (l:=(cur.toList.set (y) (cur.toList.getD (a) default))) (i:=a) (cur.toList.getD (y) default) rfl rfl ar ?_)
  have hls18:=@List.length_set _ (cur.toList.set (y) (cur.toList.getD (a) default)) (a) (cur.toList.getD (y) default)
  rw [dB,dB,jl]
  refine bR ?_
  refine cG Tryz.results262 rfl rfl (fun w' hw=>?_)
  have he:=Mi hX hY (by omega)
  have hpt:partition ltW d a b p=(y,false,swp cur y a):=by
   unfold partition; simp only [← hd1,hI,hJ]; rw [if_neg (by omega),← hk3,he]
  exact ⟨by rw [hpt],by rw [hpt]; exact HpOK.mutOwn hw (.head _) rfl⟩
 refine zR3 ?_
 have hxy:x<y:=by
  rcases Nat.lt_or_ge x y with q|q
  ·exact q
  ·exfalso
   have e:x=y:=by omega
   rcases h13 with g1|g1
   ·omega
   ·rcases h15 with g2|g2
    ·omega
    ·rw [e,g2] at g1; cases g1
 refine dO 4 13 ah ?_
 refine dN rfl ?_
 refine dN rfl ?_
 refine dN rfl ?_
 refine dN rfl ?_
 refine ax (Af ?_)
 refine fN (l:=cur.toList) (i:=x) (cur.toList.getD (y) default) rfl rfl ar ?_
 have hls19:=@List.length_set _ cur.toList (x) (cur.toList.getD (y) default)
 refine zz0 (iG rfl rfl) (fN (l:=(cur.toList.set (x) (cur.toList.getD (y) default))) (i:=y) (cur.toList.getD (x) default) rfl rfl ar ?_)
 have hls20:=@List.length_set _ (cur.toList.set (x) (cur.toList.getD (y) default)) (y) (cur.toList.getD (x) default)
 refine pf ?_
 rw [dB,dB,jl]
 refine aP (x+1,y - 1,_) (o:=⟨by omega,by rw [qA]; exact hk2,by rw [← hk3]; exact (EH hX hY hxy hx1 hy1).symm⟩)
theorem xn (d:Array UInt32) (V:Value) (a:Nat) (b:Nat) (p:Nat) (ai:Int) (bi:Int) (pi:Int) (ea:ai=((a:Nat):Int)) (eb:bi=((b:Nat):Int)) (ep:pi=((p:Nat):Int)) (w:World) (hr:(rowE V 23 aa d.toList).holds w) (hd:d.size≤1000000) (hab:a+1<b) (hb:b≤d.size) (hp:p<b) :
  Calls Tryz.prog 261 #[V,.int .i64 ai,.int .i64 bi,.int .i64 pi] w (fun e w'=>e=.returned (.int .i64 ((partitionEqual ltW d a b p).1:Nat))∧Mut w w' V∧(rowE V 23 aa (partitionEqual ltW d a b p).2.toList).holds w'):=by
 subst ea eb ep
 obtain ⟨d1,hd1⟩:∃ x,x=swp d a p:=⟨_,rfl⟩
 have hs1:d1.size=d.size:=by rw [hd1,qA]
 have hl0:d.toList.length=d.size:=Array.length_toList
 have hl1:d1.toList.length=d.size:=by rw [Array.length_toList]; exact hs1
 refine fO (l:=d.toList) (E:=aa) (T:=23) hr Tryz.func261 rfl Tryz.ntmps261 rfl (zR6 ?_)
 refine dO 4 13 ah ?_
 refine dN rfl ?_
 refine dN rfl ?_
 refine dN rfl ?_
 refine dN rfl ?_
 refine ax (Af ?_)
 refine fN (l:=d.toList) (i:=a) (d.toList.getD (p) default) rfl rfl ar ?_
 have hls1:=@List.length_set _ d.toList (a) (d.toList.getD (p) default)
 refine zz0 (iG rfl rfl) (fN (l:=(d.toList.set (a) (d.toList.getD (p) default))) (i:=p) (d.toList.getD (a) default) rfl rfl ar ?_)
 have hls2:=@List.length_set _ (d.toList.set (a) (d.toList.getD (p) default)) (p) (d.toList.getD (a) default)
 rw [dB,dB,jl,← hd1]
 refine jk ?_
 refine cT (ι:=Nat × Nat × Array UInt32) (fun ⟨i3,j3,cur⟩=>(a+1≤i3∧i3≤j3+1∧j3<b)∧cur.size=d.size∧partEqLoop ltW a i3 j3 cur=partitionEqual ltW d a b p) (fun _=>_) (fun ⟨i3,j3,cur⟩=>[rowE V 23 aa cur.toList]) (fun ⟨i3,j3,cur⟩=>[(9,.int .i64 (i3:Nat)),(10,.int .i64 (j3:Nat))]) (fun ⟨i3,j3,cur⟩=>j3+1 - i3) (a+1,b - 1,d1) ⟨by omega,hs1,by rw [hd1]; rfl⟩ (Front.c (Front.c Front.nil)) (fun i hi m hm=>?_)
 obtain ⟨i3,j3,cur⟩:=i
 dsimp only at hi hm
 conv=>enter [3]; dsimp only
 conv=>enter [4,1]; dsimp only
 obtain ⟨hk1,hk2,hk3⟩:=hi
 have hcl:cur.toList.length=d.size:=by rw [Array.length_toList]; exact hk2
 refine sk (bB (sk (cP (.of (ι:=Nat) (fun x=>i3≤x∧x≤j3+1∧scanUp (fun z=>!ltW cur[a]! z) cur j3 x=scanUp (fun z=>!ltW cur[a]! z) cur j3 i3) (fun _=>_) (fun x=>[rowE V 23 aa cur.toList]) (fun x=>[(9,.int .i64 (x:Nat)),(10,.int .i64 (j3:Nat))]) (fun x=>j3+1 - x)) i3 ⟨Nat.le_refl _,by omega,rfl⟩ (Front.c (Front.c Front.nil)) (fun x hi m hm=>?_))))
 obtain ⟨hx1,hx2,hx3⟩:=hi
 refine bB (bB (eU ah (zT4 ?_)))
 apply fD 11 32 43 (fun hT3 hT3'=>?_) ?_; rotate_right
 ·refine zT8 ?_
  refine db hT3 (ak rfl (iv (cur.toList.getD (a) default) (cur.toList.getD (x) default))) ?_
  exact zQ
 refine zT2 ?_
 refine ab rfl ?_ ?_<;>intro h4
 ·refine bR ?_
  refine aP (x+1) (o:=⟨by omega,by omega,by rw [← hx3]; exact (Lh (by omega) (by rw [← dB,← dB]; simp_all)).symm⟩)
 refine zR7 ?_
 refine cP (.of (ι:=Nat) (fun y=>y≤j3∧x≤y+1∧scanDown (fun z=>ltW cur[a]! z) cur x y=scanDown (fun z=>ltW cur[a]! z) cur x j3) (fun _=>_) (fun y=>[rowE V 23 aa cur.toList]) (fun y=>[(9,.int .i64 (x:Nat)),(10,.int .i64 (y:Nat))]) (fun y=>y)) j3 ⟨Nat.le_refl _,by omega,rfl⟩ (Front.c (Front.c Front.nil)) (fun y hi m hm=>?_)
 obtain ⟨hy1,hy2,hy3⟩:=hi
 refine bB (bB (eU ah (zT4 ?_)))
 apply fD 10 49 59 (fun hT5 hT5'=>?_) ?_; rotate_right
 ·refine zT8 ?_
  refine db hT5 (ak rfl (iv (cur.toList.getD (a) default) (cur.toList.getD (y) default))) ?_
  exact zQ
 refine zT2 ?_
 refine ab rfl ?_ ?_<;>intro h6
 ·refine bR ?_
  refine aP (y - 1) (o:=⟨by omega,by omega,by rw [← hy3]; exact (Da (by omega) (by omega) (by rw [← dB,← dB]; simp_all)).symm⟩)
 refine zR7 ?_
 have hX:scanUp (fun z=>!ltW cur[a]! z) cur j3 i3=x:=by
  rw [← hx3]; exact Cb (by
   rcases h4 with q|q
   ·exact .inl (by omega)
   ·exact .inr (by rw [← dB,← dB,q]; rfl))
 have hY:scanDown (fun z=>ltW cur[a]! z) cur x j3=y:=by
  rw [← hy3]; exact v7 (by
   rcases h6 with q|q
   ·exact .inl (by omega)
   ·exact .inr (by rw [← dB,← dB]; exact q))
 refine zR6 ?_
 refine ab rfl ?_ ?_<;>intro h7
 ·refine q8 (qj (ku rfl (bR ?_)))
  refine aM Tryz.results261 rfl (fun w' hw=>?_)
  have he:=Hi hX hY (by omega)
  rw [he] at hk3
  exact ⟨by rw [← hk3],by rw [← hk3]; exact HpOK.mutOwn hw (.head _) rfl⟩
 refine zR3 ?_
 have hxy:x<y:=by
  rcases Nat.lt_or_ge x y with q|q
  ·exact q
  ·exfalso
   have e:x=y:=by omega
   rcases h4 with g1|g1
   ·omega
   ·rcases h6 with g2|g2
    ·omega
    ·rw [e,g2] at g1; cases g1
 refine dO 4 13 ah ?_
 refine dN rfl ?_
 refine dN rfl ?_
 refine dN rfl ?_
 refine dN rfl ?_
 refine ax (Af ?_)
 refine fN (l:=cur.toList) (i:=x) (cur.toList.getD (y) default) rfl rfl ar ?_
 have hls8:=@List.length_set _ cur.toList (x) (cur.toList.getD (y) default)
 refine zz0 (iG rfl rfl) (fN (l:=(cur.toList.set (x) (cur.toList.getD (y) default))) (i:=y) (cur.toList.getD (x) default) rfl rfl ar ?_)
 have hls9:=@List.length_set _ (cur.toList.set (x) (cur.toList.getD (y) default)) (y) (cur.toList.getD (x) default)
 refine pf ?_
 rw [dB,dB,jl]
 refine aP (x+1,y - 1,_) (o:=⟨by omega,by rw [qA]; exact hk2,by rw [← hk3]; exact (J2 hX hY hxy hx1 hy1).symm⟩)
theorem yE (d:Array UInt32) (V:Value) (a:Nat) (b:Nat) (ai:Int) (bi:Int) (ea:ai=((a:Nat):Int)) (eb:bi=((b:Nat):Int)) (w:World) (hr:(rowE V 23 aa d.toList).holds w) (hd:d.size≤1000000) (hab:a+1<b) (hb:b≤d.size) :
  Calls Tryz.prog 259 #[V,.int .i64 ai,.int .i64 bi] w (fun e w'=>e=.returned (.bool (partialInsertionSort ltW d a b).2)∧Mut w w' V∧(rowE V 23 aa (partialInsertionSort ltW d a b).1.toList).holds w'):=by
 subst ea eb
 refine fO (l:=d.toList) (E:=aa) (T:=23) hr Tryz.func259 rfl Tryz.ntmps259 rfl (K8 ?_)
 refine cT (ι:=Nat × Nat × Array UInt32) (fun ⟨s,i,cur⟩=>(s≤5∧a+1≤i∧i≤b)∧cur.size=d.size∧partialIns ltW a b (5 - s) i cur=partialInsertionSort ltW d a b) (fun _=>_) (fun ⟨s,i,cur⟩=>[rowE V 23 aa cur.toList]) (fun ⟨s,i,cur⟩=>[(8,.int .i64 (s:Nat)),(7,.int .i64 (i:Nat))]) (fun ⟨s,i,cur⟩=>5 - s) (0,a+1,d) ⟨by omega,rfl,rfl⟩ (Front.c (Front.c Front.nil)) (fun i hi m hm=>?_)
 obtain ⟨s,i,cur⟩:=i
 dsimp only at hi hm
 conv=>enter [3]; dsimp only
 conv=>enter [4,1]; dsimp only
 obtain ⟨hk1,hk2,hk3⟩:=hi
 have hcl:cur.toList.length=d.size:=by rw [Array.length_toList]; exact hk2
 refine zR7 ?_
 refine ab rfl ?_ ?_<;>intro h1
 ·refine zR6 ?_
  refine cP (.of (ι:=Nat) (fun x=>i≤x∧x≤b∧scanSorted ltW cur b x=scanSorted ltW cur b i) (fun _=>_) (fun x=>[rowE V 23 aa cur.toList]) (fun x=>[(7,.int .i64 (x:Nat)),(8,.int .i64 (s:Nat))]) (fun x=>b - x)) i ⟨Nat.le_refl _,by omega,rfl⟩ (Front.c (Front.c Front.nil)) (fun x hi m hm=>?_)
  obtain ⟨hx1,hx2,hx3⟩:=hi
  have ex:((x:Int) - 1).toNat=x - 1:=by omega
  refine bB (bB (eU ah (zT4 ?_)))
  apply fD 12 20 32 (fun hT2 hT2'=>?_) ?_; rotate_right
  ·refine zT9 ?_
   refine db hT2 (ak rfl (iv (cur.toList.getD (x) default) (cur.toList.getD (((x:Int) - 1).toNat) default))) ?_
   exact zQ
  refine zT2 ?_
  refine ab rfl ?_ ?_<;>intro h3
  ·refine bR ?_
   refine aP (x+1) (o:=⟨by omega,by omega,by rw [← hx3]; exact (Ql (by omega) (by rw [← dB,← dB,← ex]; simp_all)).symm⟩)
  refine zR7 ?_
  have hX:scanSorted ltW cur b i=x:=by
   rw [← hx3]; exact N9 (by
    rcases h3 with q|q
    ·exact .inl (by omega)
    ·exact .inr (by rw [← dB,← dB,← ex]; exact q))
  refine zR6 ?_
  refine ab rfl ?_ ?_<;>intro h4
  ·refine df ?_
   refine aM pC rfl (fun w' hw=>?_)
   rw [show 5 - s=(4 - s)+1 by omega,Hk hX (by omega)] at hk3
   exact ⟨by rw [← hk3],by rw [← hk3]; exact HpOK.mutOwn hw (.head _) rfl⟩
  refine cj ?_
  refine ab rfl ?_ ?_<;>intro h5
  ·refine df ?_
   refine aM pC rfl (fun w' hw=>?_)
   rw [show 5 - s=(4 - s)+1 by omega,PL hX (by omega) (by omega)] at hk3
   exact ⟨by rw [← hk3],by rw [← hk3]; exact HpOK.mutOwn hw (.head _) rfl⟩
  refine j8 (bB (dO 5 15 ah ?_))
  refine dN rfl ?_
  refine dN rfl ?_
  refine dN rfl ?_
  refine dN rfl ?_
  refine ic (fun _=>yc rfl rfl) (by rfl) rfl ?_
  refine ax (vp ?_)
  refine fN (l:=cur.toList) (i:=x) (cur.toList.getD (((x:Int) - 1).toNat) default) rfl rfl ar ?_
  have hls6:=@List.length_set _ cur.toList (x) (cur.toList.getD (((x:Int) - 1).toNat) default)
  refine zz0 (ml rfl rfl) (fN (l:=(cur.toList.set (x) (cur.toList.getD (((x:Int) - 1).toNat) default))) (i:=((x:Int) - 1).toNat) (cur.toList.getD (x) default) rfl rfl ar ?_)
  have hls7:=@List.length_set _ (cur.toList.set (x) (cur.toList.getD (((x:Int) - 1).toNat) default)) (((x:Int) - 1).toNat) (cur.toList.getD (x) default)
  rw [ex,dB,dB,jl]
  refine zR2 ?_
  refine dZ (.of (ι:=Array UInt32) (fun d3=>d3.size=d.size∧d3=if x - a ≥ 2 then shiftDown ltW (x - 1) (swp cur x (x - 1)) else swp cur x (x - 1)) (fun _=>Bg.less w V) (fun d3=>[rowE V 23 aa d3.toList]) (fun d3=>[])) ?_ (fun d3 hi=>?_)
  ·skip
   refine zR8 ?_
   refine ab rfl ?_ ?_<;>intro h8
   ·refine zR8 ?_
    refine cT (ι:=Nat × Array UInt32) (fun ⟨y,c3⟩=>y<x∧c3.size=d.size∧shiftDown ltW y c3=shiftDown ltW (x - 1) (swp cur x (x - 1))) (fun _=>_) (fun ⟨y,c3⟩=>[rowE V 23 aa c3.toList]) (fun ⟨y,c3⟩=>[(9,.int .i64 (y:Nat))]) (fun ⟨y,c3⟩=>y) (x - 1,_) ⟨by omega,by rw [qA]; exact hk2,rfl⟩ (Front.c Front.nil) (fun i hi m hm=>?_)
    obtain ⟨y,c3⟩:=i
    dsimp only at hi hm
    change Tr _ _ [rowE V 23 aa c3.toList] ([(9,.int .i64 (y:Nat))] ++ _) _
    obtain ⟨hy1,hy2,hy3⟩:=hi
    have ey:((y:Int) - 1).toNat=y - 1∨y=0:=by omega
    have hc3:c3.toList.length=d.size:=by rw [Array.length_toList]; exact hy2
    refine zR7 ?_
    refine ab rfl ?_ ?_<;>intro h9
    ·refine zR6 ?_
     refine eU ah (zT9 ?_)
     refine aw (ak rfl (iv (c3.toList.getD (y) default) (c3.toList.getD (((y:Int) - 1).toNat) default))) (zT3 ?_)
     refine ab rfl ?_ ?_<;>intro h10
     ·refine q8 (qj (ku rfl (zR4 ?_)))
      refine aT c3 (o:=⟨hy2,by rw [if_pos (by omega),← hy3]; exact (ID (by first|exact .inl (by omega)|exact .inr (by have e:=ey.resolve_right (by omega); rw [← dB,← dB,← e]; assumption))).symm⟩)
     refine j8 (dO 5 15 ah ?_)
     refine dN rfl ?_
     refine dN rfl ?_
     refine dN rfl ?_
     refine dN rfl ?_
     refine ic (fun _=>yc rfl rfl) (by rfl) rfl ?_
     refine ax (vp ?_)
     refine fN (l:=c3.toList) (i:=y) (c3.toList.getD (((y:Int) - 1).toNat) default) rfl rfl ar ?_
     have hls11:=@List.length_set _ c3.toList (y) (c3.toList.getD (((y:Int) - 1).toNat) default)
     refine zz0 (ml rfl rfl) (fN (l:=(c3.toList.set (y) (c3.toList.getD (((y:Int) - 1).toNat) default))) (i:=((y:Int) - 1).toNat) (c3.toList.getD (y) default) rfl rfl ar ?_)
     have hls12:=@List.length_set _ (c3.toList.set (y) (c3.toList.getD (((y:Int) - 1).toNat) default)) (((y:Int) - 1).toNat) (c3.toList.getD (y) default)
     refine zR9 ?_
     rw [ey.resolve_right (by omega),dB,dB,jl]
     refine aP (y - 1,_) (o:=⟨by omega,by rw [qA]; exact hy2,by rw [← hy3]; exact (Qm (by omega) (by have e:=ey.resolve_right (by omega); rw [← dB,← dB,← e]; assumption)).symm⟩)
    refine zR5 ?_
    refine aT c3 (o:=⟨hy2,by rw [if_pos (by omega),← hy3]; exact (ID (by first|exact .inl (by omega)|exact .inr (by have e:=ey.resolve_right (by omega); rw [← dB,← dB,← e]; assumption))).symm⟩)
   refine zR2 ?_
   refine aT _ (o:=⟨by rw [qA]; exact hk2,by rw [if_neg (by omega)]⟩)
  skip
  have hd3:=hi
  have hl3:d3.toList.length=d.size:=by rw [Array.length_toList]; exact hi.1
  refine zR8 ?_
  refine ab rfl ?_ ?_<;>intro h13
  ·refine zR8 ?_
   refine cT (ι:=Nat × Array UInt32) (fun ⟨z,c4⟩=>x<z∧c4.size=d.size∧shiftUp ltW b z c4=shiftUp ltW b (x+1) d3) (fun _=>_) (fun ⟨z,c4⟩=>[rowE V 23 aa c4.toList]) (fun ⟨z,c4⟩=>[(10,.int .i64 (z:Nat))]) (fun ⟨z,c4⟩=>b - z) (x+1,d3) ⟨by omega,hd3.1,rfl⟩ (Front.c Front.nil) (fun i hi m hm=>?_)
   obtain ⟨z,c4⟩:=i
   dsimp only at hi hm
   change Tr _ _ [rowE V 23 aa c4.toList] ([(10,.int .i64 (z:Nat))] ++ _) _
   obtain ⟨hz1,hz2,hz3⟩:=hi
   have ez:((z:Int) - 1).toNat=z - 1:=by omega
   have hc4:c4.toList.length=d.size:=by rw [Array.length_toList]; exact hz2
   refine zR8 ?_
   refine ab rfl ?_ ?_<;>intro h14
   ·refine zR6 ?_
    refine eU ah (zT9 ?_)
    refine aw (ak rfl (iv (c4.toList.getD (z) default) (c4.toList.getD (((z:Int) - 1).toNat) default))) (zT3 ?_)
    refine ab rfl ?_ ?_<;>intro h15
    ·refine q8 (qj (ku rfl (cj ?_)))
     refine aP (s+1,x,c4) (o:=⟨by omega,hz2,by rw [← hk3,show 5 - s=(5 - (s+1))+1 by omega]; exact (vD hX (by omega) (by omega) hd3.2 (by rw [if_pos (by omega),← hz3]; exact (Iy (by first|exact .inl (by omega)|exact .inr (by rw [← dB,← dB,← ez]; assumption))).symm)).symm⟩)
    refine j8 (dO 5 15 ah ?_)
    refine dN rfl ?_
    refine dN rfl ?_
    refine dN rfl ?_
    refine dN rfl ?_
    refine ic (fun _=>yc rfl rfl) (by rfl) rfl ?_
    refine ax (vp ?_)
    refine fN (l:=c4.toList) (i:=z) (c4.toList.getD (((z:Int) - 1).toNat) default) rfl rfl ar ?_
    have hls16:=@List.length_set _ c4.toList (z) (c4.toList.getD (((z:Int) - 1).toNat) default)
    refine zz0 (ml rfl rfl) (fN (l:=(c4.toList.set (z) (c4.toList.getD (((z:Int) - 1).toNat) default))) (i:=((z:Int) - 1).toNat) (c4.toList.getD (z) default) rfl rfl ar ?_)
    have hls17:=@List.length_set _ (c4.toList.set (z) (c4.toList.getD (((z:Int) - 1).toNat) default)) (((z:Int) - 1).toNat) (c4.toList.getD (z) default)
    refine zR9 ?_
    rw [ez,dB,dB,jl]
    refine aP (z+1,_) (o:=⟨by omega,by rw [qA]; exact hz2,by rw [← hz3]; exact (Qj (by omega) (by rw [← dB,← dB,← ez]; assumption)).symm⟩)
   refine df ?_
   refine aP (s+1,x,c4) (o:=⟨by omega,hz2,by rw [← hk3,show 5 - s=(5 - (s+1))+1 by omega]; exact (vD hX (by omega) (by omega) hd3.2 (by rw [if_pos (by omega),← hz3]; exact (Iy (by first|exact .inl (by omega)|exact .inr (by rw [← dB,← dB,← ez]; assumption))).symm)).symm⟩)
  refine zR9 ?_
  refine aP (s+1,x,d3) (o:=⟨by omega,hd3.1,by rw [← hk3,show 5 - s=(5 - (s+1))+1 by omega]; exact (vD hX (by omega) (by omega) hd3.2 (by rw [if_neg (by omega)])).symm⟩)
 refine cj ?_
 refine aM pC rfl (fun w' hw=>?_)
 obtain rfl:s=5:=by omega
 have hk4:(cur,false)=partialInsertionSort ltW d a b:=hk3
 exact ⟨by rw [← hk4],by rw [← hk4]; exact HpOK.mutOwn hw (.head _) rfl⟩
theorem OE (x:Nat) (hx:x<4294967296) (w:World) :
  Cr Tryz.prog 209 #[.int .u64 (x:Nat)] w (.int .i64 (bitsLen x:Nat)):=by
 refine En Tryz.f209 rfl rfl (df ?_)
 refine fk rfl ?_ ?_<;>intro h1<;>try simp only [bs] at h1
 ·first|contradiction|(exfalso; omega)|simp_all
 refine zR2 ?_
 refine gX (ι:=Nat × Nat) (fun ⟨y,n⟩=>y<65536∧n≤16∧bitsLen x=n+bitsLen y) (fun _=>Bg.of w) (fun ⟨y,n⟩=>[]) (fun ⟨y,n⟩=>[(0,.int .u64 (y:Nat)),(2,.int .i64 (n:Nat))]) ?_ (fun i hi=>?_)
 ·skip
  refine zR6 ?_
  refine ab rfl ?_ ?_<;>intro h2
  ·refine zR3 ?_
   refine zz0 (Jj 16 rfl rfl (by decide)) (zR9 ?_)
   refine aT (x / 2 ^ 16,16) (o:=⟨by omega,by omega,Qu (by omega)⟩)
  refine zR2 ?_
  refine aT (x,0) (o:=⟨by omega,by omega,by omega⟩)
 obtain ⟨y,n⟩:=i
 replace hi:y<65536∧n≤16∧bitsLen x=n+bitsLen y:=hi
 change Tr _ _ [] ([(0,.int .u64 (y:Nat)),(2,.int .i64 (n:Nat))] ++ _) _
 obtain ⟨hy1,hy2,hy3⟩:=hi
 refine gX (ι:=Nat × Nat) (fun ⟨z,k⟩=>z<256∧k≤24∧bitsLen x=k+bitsLen z) (fun _=>Bg.of w) (fun ⟨z,k⟩=>[]) (fun ⟨z,k⟩=>[(0,.int .u64 (z:Nat)),(2,.int .i64 (k:Nat))]) ?_ (fun i hi=>?_)
 ·skip
  refine zR6 ?_
  refine ab rfl ?_ ?_<;>intro h3
  ·refine zR3 ?_
   refine zz0 (Jj 8 rfl rfl (by decide)) (zR9 ?_)
   refine aT (y / 2 ^ 8,n+8) (o:=⟨by omega,by omega,by have:=len8 (x:=y) (by omega); omega⟩)
  refine zR2 ?_
  refine aT (y,n) (o:=⟨by omega,by omega,by omega⟩)
 obtain ⟨z,k⟩:=i
 replace hi:z<256∧k≤24∧bitsLen x=k+bitsLen z:=hi
 change Tr _ _ [] ([(0,.int .u64 (z:Nat)),(2,.int .i64 (k:Nat))] ++ _) _
 obtain ⟨hz1,hz2,hz3⟩:=hi
 have hz8:=BM hz1
 refine zR4 ?_
 refine zz0 (eO rfl bF ao (by rw [IntKind.wrap_u8]; omega)) ?_
 refine zz0 (KY rfl rfl ff (by kernel_rfl) (by omega)) ?_
 refine zz0 (eO rfl ao ad (IntWalk.i64_in _ (by omega))) (zR5 ?_)
 exact aD (e:=by rw [hz3]; simp)
theorem Qt (x:Nat) (xi:Int) (ex:xi=((x:Nat):Int)) (hx:x<4294967296) (w:World) :
  Cr Tryz.prog 150 #[.int .u64 xi] w (.int .i64 (bitsLen x:Nat)):=by
 subst ex
 refine En Tryz.f150 rfl rfl (zR6 ?_)
 refine fk rfl ?_ ?_<;>intro h1<;>try simp only [bs] at h1
 ·first|contradiction|(exfalso; omega)|simp_all
 refine zR5 ?_
 refine zz0 (ak rfl (OE x hx)) (zR4 ?_)
 exact aD (e:=rfl)
theorem J4 (n:Nat) (ni:Int) (en:ni=((n:Nat):Int)) (hn:n≤1000000) (w:World) :
  Cr Tryz.prog 265 #[.int .i64 ni] w (.int .u64 ((1 <<< bitsLen n:Nat):Int)):=by
 subst en
 have hb:bitsLen n≤20:=(bitsLen_le_iff n 20).2 (by omega)
 refine En Tryz.f265 rfl rfl (zR8 ?_)
 refine zz0 (eO rfl ad dD (IntWalk.u64_in _ (by omega))) ?_
 refine zz0 (ak rfl (Qt n _ rfl (by omega))) ?_
 refine zz0 (KU rfl rfl (by omega)) (zR4 ?_)
 exact aD (e:=rfl)
theorem PP (r:UInt64) (bs:Nat) (w:World) (ho:OwnAt w [cellE bs [.int .u64 ((r).toNat:Int)] 292]) :
  Calls Tryz.prog 266 #[.pointer (some ⟨bs,0,none⟩)] w (fun e w'=>∃ i:Unit,e=.returned (.int .u64 ((xorNext r).toNat:Nat))∧Upd w.drawn w w' (cx [cellE bs [.int .u64 ((r).toNat:Int)] 292]) ([cellE bs [.int .u64 ((xorNext r).toNat:Int)] 292])∧True):=by
 refine tN (L:=[cellE bs [.int .u64 ((r).toNat:Int)] 292]) ho rfl (Nat.le_refl _) Tryz.func266 rfl Tryz.ntmps266 rfl (zR6 ?_)
 refine dO 0 9 ah ?_
 refine ax (zT6 ?_)
 refine aw (Gy 13 rfl rfl (by decide)) ?_
 refine aw (zT rfl rfl) (zT2 ?_)
 refine zz8 rfl rfl nw ?_
 refine zR3 ?_
 refine dO 0 9 ah ?_
 refine ax (zT6 ?_)
 refine aw (NP 7 rfl rfl (by decide)) ?_
 refine aw (zT rfl rfl) (zT2 ?_)
 refine zz8 rfl rfl nw ?_
 refine zR3 ?_
 refine dO 0 9 ah ?_
 refine ax (zT6 ?_)
 refine aw (Gy 17 rfl rfl (by decide)) ?_
 refine aw (zT rfl rfl) (zT2 ?_)
 refine zz8 rfl rfl nw ?_
 refine cj ?_
 exact aM Tryz.results266 rfl fun w' hw=>⟨(),rfl,hw.upd (Bg.le.refl _) (by repeat' constructor),trivial⟩
theorem tD (d:Array UInt32) (V:Value) (bs:Nat) (a b s:Nat) (ai bi:Int) (ea:ai=((a:Nat):Int)) (eb:bi=((b:Nat):Int)) (w:World) (ho:OwnAt w [rowE V 23 aa d.toList,cellE bs [.int .i64 ((s:Nat):Int)] 3]) (hd:d.size≤1000000) (ha:a<d.size) (hb:b<d.size) (hs:s≤100:=by omega) :
  Calls Tryz.prog 323 #[V,.int .i64 ai,.int .i64 bi,.pointer (some ⟨bs,0,none⟩)] w (fun e w'=>∃ i:Nat × Nat × Nat,e=.returned ((fun i:Nat × Nat × Nat=>.tuple #[.int .i64 (i.1:Nat),.int .i64 (i.2.1:Nat)]) i)∧Upd w.drawn w w' (cx [rowE V 23 aa d.toList,cellE bs [.int .i64 ((s:Nat):Int)] 3]) ([rowE V 23 aa d.toList,cellE bs [.int .i64 (i.2.2:Nat)] 3])∧i=order2 ltW d a b s):=by
 subst ea eb
 have hdl:d.toList.length=d.size:=Array.length_toList
 refine tN (L:=[rowE V 23 aa d.toList,cellE bs [.int .i64 ((s:Nat):Int)] 3]) ho rfl (Nat.le_refl _) Tryz.func323 rfl Tryz.ntmps323 rfl (zR8 ?_)
 refine eU ah (zT8 ?_)
 refine aw (ak rfl (iv (d.toList.getD (b) default) (d.toList.getD (a) default))) (zT2 ?_)
 refine ab rfl ?_ ?_<;>intro h1
 ·refine zR7 ?_
  refine jF rfl rfl aH (by repeat constructor) (by rfl) (by rfl) (by first|exact List.all_eq_true.1 rfl|exact Enc.one _ _|exact Enc.one aU _|(intro u hu; simp [Value.cells] at hu; simp_all [Value.oneCell'])) rfl (df ?_)
  refine cG Tryz.results323 rfl rfl (fun w' hw=>?_)
  refine ⟨(b,a,s+1),rfl,hw.upd (Bg.le.refl _) (by repeat' constructor),?_⟩
  unfold order2
  rw [if_pos (by rw [← dB,← dB]; simp_all)]
 refine cj ?_
 refine cG Tryz.results323 rfl rfl (fun w' hw=>?_)
 refine ⟨(a,b,s),rfl,hw.upd (Bg.le.refl _) (by repeat' constructor),?_⟩
 unfold order2
 rw [if_neg (by rw [← dB,← dB]; simp_all)]
theorem yS (d:Array UInt32) (V:Value) (bs:Nat) (a b c s:Nat) (ai bi ci:Int) (ea:ai=((a:Nat):Int)) (eb:bi=((b:Nat):Int)) (ec:ci=((c:Nat):Int)) (w:World) (ho:OwnAt w [rowE V 23 aa d.toList,cellE bs [.int .i64 ((s:Nat):Int)] 3]) (hd:d.size≤1000000) (ha:a<d.size) (hb:b<d.size) (hc:c<d.size) (hs:s≤90:=by omega) :
  Calls Tryz.prog 295 #[V,.int .i64 ai,.int .i64 bi,.int .i64 ci,.pointer (some ⟨bs,0,none⟩)] w (fun e w'=>∃ i:Nat × Nat,e=.returned ((fun i:Nat × Nat=>.int .i64 (i.1:Nat)) i)∧Upd w.drawn w w' (cx [rowE V 23 aa d.toList,cellE bs [.int .i64 ((s:Nat):Int)] 3]) ([rowE V 23 aa d.toList,cellE bs [.int .i64 (i.2:Nat)] 3])∧i=median ltW d a b c s):=by
 subst ea eb ec
 refine tN (L:=[rowE V 23 aa d.toList,cellE bs [.int .i64 ((s:Nat):Int)] 3]) ho rfl (Nat.le_refl _) Tryz.func295 rfl Tryz.ntmps295 rfl (cj ?_)
 refine jy (fun i:Nat × Nat × Nat=>.tuple #[.int .i64 (i.1:Nat),.int .i64 (i.2.1:Nat)]) [rowE V 23 aa d.toList,cellE bs [.int .i64 ((s:Nat):Int)] 3] (fun i:Nat × Nat × Nat=>[rowE V 23 aa d.toList,cellE bs [.int .i64 (i.2.2:Nat)] 3]) (ok:=fun i=>i=order2 ltW d a b s) (dd:=fun w=>w.drawn) rfl Tryz.call323 (by repeat' constructor) (fun w hw=>hw.dr) (fun w hw=>tD d V bs a b s _ _ rfl rfl w (hw.own (by repeat' constructor)) hd (by omega) (by omega)) rfl (fun p hp=>?_)
 obtain ⟨bp1,bp2,bp3⟩:=vE hp (n:=d.size) (by omega) (by omega)
 obtain ⟨x1,y1,s1⟩:=p
 dsimp only at bp1 bp2 bp3
 change Tr _ _ [rowE V 23 aa d.toList,cellE bs [.int .i64 ((s1:Nat):Int)] 3] _ _
 refine gB ?_
 refine jy (fun i:Nat × Nat × Nat=>.tuple #[.int .i64 (i.1:Nat),.int .i64 (i.2.1:Nat)]) [rowE V 23 aa d.toList,cellE bs [.int .i64 ((s1:Nat):Int)] 3] (fun i:Nat × Nat × Nat=>[rowE V 23 aa d.toList,cellE bs [.int .i64 (i.2.2:Nat)] 3]) (ok:=fun i=>i=order2 ltW d y1 c s1) (dd:=fun w=>w.drawn) rfl Tryz.call323 (by repeat' constructor) (fun w hw=>hw.dr) (fun w hw=>tD d V bs y1 c s1 _ _ rfl rfl w (hw.own (by repeat' constructor)) hd (by omega) (by omega)) rfl (fun q hq=>?_)
 obtain ⟨bq1,bq2,bq3⟩:=vE hq (n:=d.size) (by omega) (by omega)
 obtain ⟨x2,y2,s2⟩:=q
 dsimp only at bq1 bq2 bq3
 change Tr _ _ [rowE V 23 aa d.toList,cellE bs [.int .i64 ((s2:Nat):Int)] 3] _ _
 refine gB ?_
 refine jy (fun i:Nat × Nat × Nat=>.tuple #[.int .i64 (i.1:Nat),.int .i64 (i.2.1:Nat)]) [rowE V 23 aa d.toList,cellE bs [.int .i64 ((s2:Nat):Int)] 3] (fun i:Nat × Nat × Nat=>[rowE V 23 aa d.toList,cellE bs [.int .i64 (i.2.2:Nat)] 3]) (ok:=fun i=>i=order2 ltW d x1 x2 s2) (dd:=fun w=>w.drawn) rfl Tryz.call323 (by repeat' constructor) (fun w hw=>hw.dr) (fun w hw=>tD d V bs x1 x2 s2 _ _ rfl rfl w (hw.own (by repeat' constructor)) hd (by omega) (by omega)) rfl (fun r hr=>?_)
 obtain ⟨br1,br2,br3⟩:=vE hr (n:=d.size) (by omega) (by omega)
 obtain ⟨x3,y3,s3⟩:=r
 dsimp only at br1 br2 br3
 change Tr _ _ [rowE V 23 aa d.toList,cellE bs [.int .i64 ((s3:Nat):Int)] 3] _ _
 refine jk ?_
 exact aM Tryz.results295 rfl fun w' hw=>⟨(y3,s3),rfl,hw.upd (Bg.le.refl _) (by repeat' constructor),by unfold median; simp only []; rw [← hp]; dsimp only; rw [← hq]; dsimp only; rw [← hr]⟩
theorem Dl (d:Array UInt32) (V:Value) (bs:Nat) (a s:Nat) (ai:Int) (ea:ai=((a:Nat):Int)) (w:World) (ho:OwnAt w [rowE V 23 aa d.toList,cellE bs [.int .i64 ((s:Nat):Int)] 3]) (hd:d.size≤1000000) (ha:a+1<d.size) (h1:1≤a) (hs:s≤80:=by omega) :
  Calls Tryz.prog 294 #[V,.int .i64 ai,.pointer (some ⟨bs,0,none⟩)] w (fun e w'=>∃ i:Nat × Nat,e=.returned ((fun i:Nat × Nat=>.int .i64 (i.1:Nat)) i)∧Upd w.drawn w w' (cx [rowE V 23 aa d.toList,cellE bs [.int .i64 ((s:Nat):Int)] 3]) ([rowE V 23 aa d.toList,cellE bs [.int .i64 (i.2:Nat)] 3])∧i=medianAdjacent ltW d a s):=by
 subst ea
 refine tN (L:=[rowE V 23 aa d.toList,cellE bs [.int .i64 ((s:Nat):Int)] 3]) ho rfl (Nat.le_refl _) Tryz.func294 rfl Tryz.ntmps294 rfl (jk ?_)
 refine jy (fun i:Nat × Nat=>.int .i64 (i.1:Nat)) [rowE V 23 aa d.toList,cellE bs [.int .i64 ((s:Nat):Int)] 3] (fun i:Nat × Nat=>[rowE V 23 aa d.toList,cellE bs [.int .i64 (i.2:Nat)] 3]) (ok:=fun zz=>zz=median ltW d (a - 1) a (a+1) s) (dd:=fun w=>w.drawn) rfl Tryz.call295 (by repeat' constructor) (fun w hw=>hw.dr) (fun w hw=>yS d V bs (a - 1) a (a+1) s _ _ _ (by omega) (by omega) (by omega) w (hw.own (by repeat' constructor)) hd (by omega) (by omega) (by omega)) rfl (fun p hp=>?_)
 obtain ⟨x,s1⟩:=p
 change Tr _ _ [rowE V 23 aa d.toList,cellE bs [.int .i64 ((s1:Nat):Int)] 3] _ _
 refine zR4 ?_
 exact aM Tryz.results294 rfl fun w' hw=>⟨(x,s1),rfl,hw.upd (Bg.le.refl _) (by repeat' constructor),hp⟩
theorem xx (d:Array UInt32) (V:Value) (a:Nat) (b:Nat) (ai:Int) (bi:Int) (ea:ai=((a:Nat):Int)) (eb:bi=((b:Nat):Int)) (w:World) (hr:(rowE V 23 aa d.toList).holds w) (hd:d.size≤1000000) (hab:a<b) (hb:b≤d.size) :
  Calls Tryz.prog 257 #[V,.int .i64 ai,.int .i64 bi] w (fun e w'=>e=.returned (.tuple #[.int .i64 ((choosePivot ltW d a b).1:Nat),.int .i64 (hintCode (choosePivot ltW d a b).2)])∧Mut w w' V∧(rowE V 23 aa d.toList).holds w'):=by
 subst ea eb
 refine fO (l:=d.toList) (E:=aa) (T:=23) hr Tryz.func257 rfl Tryz.ntmps257 rfl (pf ?_)
 refine bH jE rfl (fun b1=>zR6 ?_)
 refine zz0 (kY rfl rfl (by omega)) ?_
 refine zz0 (gw rfl rfl (by omega)) (zR8 ?_)
 refine zz0 (kY rfl rfl (by omega)) ?_
 refine zz0 (gw rfl rfl (by omega)) (zR8 ?_)
 refine zz0 (kY rfl rfl (by omega)) ?_
 refine zz0 (gw rfl rfl (by omega)) (zR4 ?_)
 refine gX (ι:=Nat × Nat × Nat × Nat) (fun ⟨i,j,k,s⟩=>(j<d.size∧s≤12)∧(j,s)=rawPivot ltW d a b) (fun _=>Bg.less w V) (fun ⟨i,j,k,s⟩=>[rowE V 23 aa d.toList,cellE b1 [.int .i64 ((s:Nat):Int)] 3]) (fun ⟨i,j,k,s⟩=>[(10,.int .i64 (i:Nat)),(11,.int .i64 (j:Nat)),(12,.int .i64 (k:Nat))]) ?_ (fun i hi=>?_)
 ·skip
  refine zR6 ?_
  refine ab rfl ?_ ?_<;>intro h2
  ·refine gX (ι:=Nat × Nat × Nat × Nat) (fun ⟨i,j,k,s⟩=>(i<d.size∧j<d.size∧k<d.size∧s≤9)∧median ltW d i j k s=rawPivot ltW d a b) (fun _=>Bg.less w V) (fun ⟨i,j,k,s⟩=>[rowE V 23 aa d.toList,cellE b1 [.int .i64 ((s:Nat):Int)] 3]) (fun ⟨i,j,k,s⟩=>[(10,.int .i64 (i:Nat)),(11,.int .i64 (j:Nat)),(12,.int .i64 (k:Nat))]) ?_ (fun i hi=>?_)
   ·skip
    refine zR6 ?_
    refine ab rfl ?_ ?_<;>intro h3
    ·refine zR4 ?_
     refine jy (fun i:Nat × Nat=>.int .i64 (i.1:Nat)) [rowE V 23 aa d.toList,cellE b1 [.int .i64 ((0:Nat):Int)] 3] (fun i:Nat × Nat=>[rowE V 23 aa d.toList,cellE b1 [.int .i64 (i.2:Nat)] 3]) (ok:=fun zz=>zz=medianAdjacent ltW d (a+(b - a) / 4 * 1) 0) (dd:=fun w=>w.drawn) rfl Tryz.call294 (by repeat' constructor) (fun w hw=>hw.dr) (fun w hw=>Dl d V b1 (a+(b - a) / 4 * 1) 0 _ (by omega) w (hw.own (by repeat' constructor)) hd (by omega) (by omega)) rfl (fun p hp=>?_)
     have bp:=H8 hp (n:=d.size) (by omega)
     obtain ⟨x1,s1⟩:=p
     dsimp only at bp
     change Tr _ _ [rowE V 23 aa d.toList,cellE b1 [.int .i64 ((s1:Nat):Int)] 3] _ _
     refine zR7 ?_
     refine jy (fun i:Nat × Nat=>.int .i64 (i.1:Nat)) [rowE V 23 aa d.toList,cellE b1 [.int .i64 ((s1:Nat):Int)] 3] (fun i:Nat × Nat=>[rowE V 23 aa d.toList,cellE b1 [.int .i64 (i.2:Nat)] 3]) (ok:=fun zz=>zz=medianAdjacent ltW d (a+(b - a) / 4 * 2) s1) (dd:=fun w=>w.drawn) rfl Tryz.call294 (by repeat' constructor) (fun w hw=>hw.dr) (fun w hw=>Dl d V b1 (a+(b - a) / 4 * 2) s1 _ (by omega) w (hw.own (by repeat' constructor)) hd (by omega) (by omega)) rfl (fun q hq=>?_)
     have bq:=H8 hq (n:=d.size) (by omega)
     obtain ⟨x2,s2⟩:=q
     dsimp only at bq
     change Tr _ _ [rowE V 23 aa d.toList,cellE b1 [.int .i64 ((s2:Nat):Int)] 3] _ _
     refine zR6 ?_
     refine jy (fun i:Nat × Nat=>.int .i64 (i.1:Nat)) [rowE V 23 aa d.toList,cellE b1 [.int .i64 ((s2:Nat):Int)] 3] (fun i:Nat × Nat=>[rowE V 23 aa d.toList,cellE b1 [.int .i64 (i.2:Nat)] 3]) (ok:=fun zz=>zz=medianAdjacent ltW d (a+(b - a) / 4 * 3) s2) (dd:=fun w=>w.drawn) rfl Tryz.call294 (by repeat' constructor) (fun w hw=>hw.dr) (fun w hw=>Dl d V b1 (a+(b - a) / 4 * 3) s2 _ (by omega) w (hw.own (by repeat' constructor)) hd (by omega) (by omega)) rfl (fun r hr=>?_)
     have br:=H8 hr (n:=d.size) (by omega)
     obtain ⟨x3,s3⟩:=r
     dsimp only at br
     change Tr _ _ [rowE V 23 aa d.toList,cellE b1 [.int .i64 ((s3:Nat):Int)] 3] _ _
     refine zR3 ?_
     refine aT (x1,x2,x3,s3) (o:=⟨by omega,Om (by omega) hp hq hr rfl⟩)
    refine zR2 ?_
    refine aT (a+(b - a) / 4 * 1,a+(b - a) / 4 * 2,a+(b - a) / 4 * 3,0) (o:=⟨by omega,Ol (by omega) (by omega) rfl⟩)
   obtain ⟨i,j,k,s⟩:=i
   replace hi:(i<d.size∧j<d.size∧k<d.size∧s≤9)∧median ltW d i j k s=rawPivot ltW d a b:=hi
   change Tr _ _ [rowE V 23 aa d.toList,cellE b1 [.int .i64 ((s:Nat):Int)] 3] ([(10,.int .i64 (i:Nat)),(11,.int .i64 (j:Nat)),(12,.int .i64 (k:Nat))] ++ _) _
   obtain ⟨hi1,hi2⟩:=hi
   refine zR5 ?_
   refine jy (fun i:Nat × Nat=>.int .i64 (i.1:Nat)) [rowE V 23 aa d.toList,cellE b1 [.int .i64 ((s:Nat):Int)] 3] (fun i:Nat × Nat=>[rowE V 23 aa d.toList,cellE b1 [.int .i64 (i.2:Nat)] 3]) (ok:=fun zz=>zz=median ltW d i j k s) (dd:=fun w=>w.drawn) rfl Tryz.call295 (by repeat' constructor) (fun w hw=>hw.dr) (fun w hw=>yS d V b1 i j k s _ _ _ rfl rfl rfl w (hw.own (by repeat' constructor)) hd (by omega) (by omega) (by omega)) rfl (fun z hz=>?_)
   have bz:=Bi hz (n:=d.size) (by omega) (by omega) (by omega)
   obtain ⟨x4,s4⟩:=z
   dsimp only at bz
   change Tr _ _ [rowE V 23 aa d.toList,cellE b1 [.int .i64 ((s4:Nat):Int)] 3] _ _
   refine zR3 ?_
   refine aT (i,x4,k,s4) (o:=⟨by omega,by rw [← hi2]; exact hz⟩)
  refine zR2 ?_
  refine aT (a+(b - a) / 4 * 1,a+(b - a) / 4 * 2,a+(b - a) / 4 * 3,0) (o:=⟨by omega,LY (by omega)⟩)
 obtain ⟨i,j,k,s⟩:=i
 replace hi:(j<d.size∧s≤12)∧(j,s)=rawPivot ltW d a b:=hi
 change Tr _ _ [rowE V 23 aa d.toList,cellE b1 [.int .i64 ((s:Nat):Int)] 3] ([(10,.int .i64 (i:Nat)),(11,.int .i64 (j:Nat)),(12,.int .i64 (k:Nat))] ++ _) _
 obtain ⟨hj1,hj2⟩:=hi
 refine df ?_
 refine ab rfl ?_ ?_<;>intro h4
 ·refine zR9 ?_
  refine cG pD rfl rfl (fun w' hw=>?_)
  obtain rfl:s=0:=by omega
  exact ⟨by rw [choosePivot_eq,← hj2]; rfl,HpOK.mutOwn hw (.head _) rfl⟩
 refine zR6 ?_
 refine ab rfl ?_ ?_<;>intro h5
 ·refine zR9 ?_
  refine cG pD rfl rfl (fun w' hw=>?_)
  obtain rfl:s=12:=by omega
  exact ⟨by rw [choosePivot_eq,← hj2]; rfl,HpOK.mutOwn hw (.head _) rfl⟩
 refine zR9 ?_
 exact cG pD rfl rfl fun w' hw=>⟨by rw [choosePivot_eq,← hj2]; simp only [hintOf]; rw [if_neg (by omega),if_neg (by omega)]; rfl,HpOK.mutOwn hw (.head _) rfl⟩
theorem KL (d:Array UInt32) (V:Value) (a:Nat) (b:Nat) (ai:Int) (bi:Int) (ea:ai=((a:Nat):Int)) (eb:bi=((b:Nat):Int)) (w:World) (hr:(rowE V 23 aa d.toList).holds w) (hd:d.size≤1000000) (hab:a≤b) (hb:b≤d.size) :
  Calls Tryz.prog 256 #[V,.int .i64 ai,.int .i64 bi] w (fun e w'=>e=.returned (.tuple #[])∧Mut w w' V∧(rowE V 23 aa (breakPatterns d a b).toList).holds w'):=by
 subst ea eb
 obtain ⟨md,hmd⟩:∃ md,md=1 <<< bitsLen (b - a):=⟨_,rfl⟩
 obtain ⟨i0,hi0⟩:∃ i,i=a+(b - a) / 4 * 2 - 1:=⟨_,rfl⟩
 refine fO (l:=d.toList) (E:=aa) (T:=23) hr Tryz.func256 rfl Tryz.ntmps256 rfl (jk ?_)
 refine ab rfl ?_ ?_<;>intro h1
 ·refine zR3 ?_
  refine zz0 (Is (b - a) rfl ad Tryz.underlying292 (by omega) (by omega)) ?_
  refine bH Tryz.zeroValue292 rfl (fun b2=>?_)
  refine jF rfl rfl nw (by repeat constructor) (by rfl) (by rfl) (by first|exact List.all_eq_true.1 rfl|exact Enc.one _ _) rfl (zR5 ?_)
  refine zz0 (ak rfl (J4 (b - a) _ (by omega) (by omega))) ?_
  rw [← hmd]
  have hmb:=PQ (n:=b - a) (by omega)
  rw [← hmd] at hmb
  refine zR7 ?_
  refine zz0 (kY rfl rfl (by omega)) ?_
  refine zz0 (gw rfl rfl (by omega)) (zR6 ?_)
  refine cT (ι:=Nat × UInt64 × Array UInt32) (fun ⟨t,r,cur⟩=>t≤3∧cur.size=d.size∧wh a (b - a) md i0 t (UInt64.ofNat (b - a),d)=(r,cur)) (fun _=>_) (fun ⟨t,r,cur⟩=>[rowE V 23 aa cur.toList,cellE b2 [.int .u64 (r.toNat:Int)] 292]) (fun ⟨t,r,cur⟩=>[(9,.int .i64 ((i0+t:Nat):Int))]) (fun ⟨t,r,cur⟩=>3 - t) (0,UInt64.ofNat (b - a),d) ⟨by omega,rfl,rfl⟩ (Front.c Front.nil) (fun i hi m hm=>?_)
  obtain ⟨t,r,cur⟩:=i
  dsimp only at hi hm
  conv=>enter [3]; dsimp only
  conv=>enter [4,1]; dsimp only
  obtain ⟨hk1,hk2,hk3⟩:=hi
  have hcl:cur.toList.length=d.size:=by rw [Array.length_toList]; exact hk2
  refine zR6 ?_
  refine zz0 (kY rfl rfl (by omega)) ?_
  refine zz0 (gw rfl rfl (by omega)) (zR5 ?_)
  refine ab rfl ?_ ?_<;>intro h3
  ·refine zR6 ?_
   refine jy (fun _:Unit=>.int .u64 ((xorNext r).toNat:Nat)) [cellE b2 [.int .u64 ((r).toNat:Int)] 292] (fun _=>[cellE b2 [.int .u64 ((xorNext r).toNat:Int)] 292]) (ok:=fun _=>True) (dd:=fun w=>w.drawn) rfl Tryz.call266 (by repeat' constructor) (fun w hw=>hw.dr) (fun w hw=>PP r b2 w (hw.own (by repeat' constructor))) rfl (fun i hi=>zz0 (af rfl) ?_)
   refine zz0 (NL (n:=1) rfl rfl (by omega) (by omega)) ?_
   refine zz0 (NV rfl rfl (by have:=(xorNext r).toNat_lt; omega) (by omega)) ?_
   have hand:(xorNext r).toNat &&& (md - 1)≤md - 1:=Nat.and_le_right
   change Tr _ _ [cellE b2 [.int .u64 ((xorNext r).toNat:Int)] 292,rowE V 23 aa cur.toList] _ _
   refine zz0 (eO rfl dD ad (IntWalk.i64_in _ (by omega))) (zR3 ?_)
   refine dZ (.of (ι:=Nat) (fun o=>o<b - a∧o=if b - a≤((xorNext r).toNat &&& (md - 1)) then ((xorNext r).toNat &&& (md - 1)) - (b - a) else ((xorNext r).toNat &&& (md - 1))) (fun _=>Bg.less w V) (fun o=>[rowE V 23 aa cur.toList,cellE b2 [.int .u64 ((xorNext r).toNat:Int)] 292]) (fun o=>[(10,.int .i64 (o:Nat))])) ?_ (fun o hi=>?_)
   ·skip
    refine zR7 ?_
    refine ab rfl ?_ ?_<;>intro h4
    ·refine zR7 ?_
     refine aT (((xorNext r).toNat &&& (md - 1)) - (b - a)) (o:=⟨by omega,by rw [if_pos (by omega)]⟩)
    refine zR2 ?_
    refine aT ((xorNext r).toNat &&& (md - 1)) (o:=⟨by omega,by rw [if_neg (by omega)]⟩)
   skip
   obtain ⟨ho1,ho2⟩:=hi
   refine dO 6 17 ah ?_
   refine dN rfl ?_
   refine dN rfl ?_
   refine dN rfl ?_
   refine dN rfl ?_
   refine dN rfl ?_
   refine ic (fun _=>tn rfl rfl) (by rfl) rfl ?_
   refine ax (Jq ?_)
   refine fN (l:=cur.toList) (i:=(i0+t)) (cur.toList.getD ((a+o)) default) rfl rfl ar ?_
   have hls5:=@List.length_set _ cur.toList ((i0+t)) (cur.toList.getD ((a+o)) default)
   refine zz0 (iG rfl rfl) (fN (l:=(cur.toList.set ((i0+t)) (cur.toList.getD ((a+o)) default))) (i:=(a+o)) (cur.toList.getD ((i0+t)) default) rfl rfl ar ?_)
   have hls6:=@List.length_set _ (cur.toList.set ((i0+t)) (cur.toList.getD ((a+o)) default)) ((a+o)) (cur.toList.getD ((i0+t)) default)
   rw [dB,dB,jl]
   refine zR9 ?_
   refine aP (t+1,xorNext r,_) (o:=⟨by omega,by rw [qA]; exact hk2,Nr hk3 ho2⟩)
  refine zR4 ?_
  refine fy Tryz.results256 (fun w' hw=>?_)
  obtain rfl:t=3:=by omega
  have hq:breakPatterns d a b=cur:=by rw [Nt (by omega),← hmd,← hi0,hk3]
  exact ⟨rfl,by rw [hq]; exact HpOK.mutOwn hw (.head _) rfl⟩
 exact sQ (fy Tryz.results256 fun w' hw=>⟨rfl,by rw [Ns (by omega)]; exact HpOK.mutOwn hw (.head _) rfl⟩)
theorem Mg (V:Value) (n:Nat) (ih:∀ (d:Array UInt32) (a b limit:Nat) (ai bi li:Int) (w:World),ai=((a:Nat):Int)→bi=((b:Nat):Int)→li=((limit:Nat):Int)→(rowE V 23 aa d.toList).holds w→d.size≤1000000→a≤b→b≤d.size→limit≤64→b - a<n→Calls Tryz.prog 198 #[V,.int .i64 ai,.int .i64 bi,.int .i64 li] w (fun e w'=>e=.returned (.tuple #[])∧Mut w w' V∧(rowE V 23 aa (pdq ltW d a b limit true true).toList).holds w')) (d:Array UInt32) (a:Nat) (b:Nat) (limit:Nat) (ai:Int) (bi:Int) (limiti:Int) (ea:ai=((a:Nat):Int)) (eb:bi=((b:Nat):Int)) (elimit:limiti=((limit:Nat):Int)) (w:World) (hr:(rowE V 23 aa d.toList).holds w) (hd:d.size≤1000000) (hab:a≤b) (hb:b≤d.size) (hl:limit≤64) (hn:b - a≤n) :
  Calls Tryz.prog 198 #[V,.int .i64 ai,.int .i64 bi,.int .i64 limiti] w (fun e w'=>e=.returned (.tuple #[])∧Mut w w' V∧(rowE V 23 aa (pdq ltW d a b limit true true).toList).holds w'):=by
 subst ea eb elimit
 refine fO (l:=d.toList) (E:=aa) (T:=23) hr Tryz.func198 rfl Tryz.ntmps198 rfl (cj ?_)
 refine cT (ι:=Nat × Nat × Nat × Bool × Bool × Array UInt32) (fun ⟨a1,b1,l1,wb,wp,cur⟩=>(a≤a1∧a1≤b1∧b1≤b∧l1≤64)∧cur.size=d.size∧pdq ltW cur a1 b1 l1 wb wp=pdq ltW d a b limit true true) (fun _=>_) (fun ⟨a1,b1,l1,wb,wp,cur⟩=>[rowE V 23 aa cur.toList]) (fun ⟨a1,b1,l1,wb,wp,cur⟩=>[(1,.int .i64 (a1:Nat)),(2,.int .i64 (b1:Nat)),(3,.int .i64 (l1:Nat)),(8,.bool wb),(9,.bool wp)]) (fun ⟨a1,b1,l1,wb,wp,cur⟩=>b1 - a1) (a,b,limit,true,true,d) ⟨⟨Nat.le_refl _,hab,Nat.le_refl _,hl⟩,rfl,rfl⟩ (.cons (by first|rfl|exact az rfl (by omega)|exact bU rfl (decide_eq_decide.2 (by omega))|exact az rfl (by simp)|exact bU rfl (by simp)) (.cons (by first|rfl|exact az rfl (by omega)|exact bU rfl (decide_eq_decide.2 (by omega))|exact az rfl (by simp)|exact bU rfl (by simp)) (.cons (by first|rfl|exact az rfl (by omega)|exact bU rfl (decide_eq_decide.2 (by omega))|exact az rfl (by simp)|exact bU rfl (by simp)) (.cons (by first|rfl|exact az rfl (by omega)|exact bU rfl (decide_eq_decide.2 (by omega))|exact az rfl (by simp)|exact bU rfl (by simp)) (.cons (by first|rfl|exact az rfl (by omega)|exact bU rfl (decide_eq_decide.2 (by omega))|exact az rfl (by simp)|exact bU rfl (by simp)) Front.nil))))) (fun i hi m hm=>?_)
 obtain ⟨a1,b1,l1,wb,wp,cur⟩:=i
 dsimp only at hi hm
 conv=>enter [3]; dsimp only
 conv=>enter [4,1]; dsimp only
 obtain ⟨hk1,hk2,hk3⟩:=hi
 have hcl:cur.toList.length=d.size:=by rw [Array.length_toList]; exact hk2
 refine pf ?_
 refine ab rfl ?_ ?_<;>intro h1
 ·refine zR5 ?_
  refine dH rfl Tryz.call254 (by repeat constructor) (fun w hw=>Av cur V a1 b1 _ _ rfl rfl w (hw.ent _ (.head _)) (by omega) (by omega) (by omega)) rfl (zR7 ?_)
  exact nA pG fun w' hw=>⟨rfl,by rw [← hk3,Ar (by omega)]; exact HpOK.mutOwn hw (.head _) rfl⟩
 refine zR9 ?_
 refine ab rfl ?_ ?_<;>intro h2
 ·refine zR5 ?_
  refine dH rfl Tryz.call255 (by repeat constructor) (fun w hw=>MJ cur V a1 b1 _ _ rfl rfl w (hw.ent _ (.head _)) (by omega) (by omega) (by omega)) rfl (zR7 ?_)
  exact nA pG fun w' hw=>⟨rfl,by rw [← hk3,Cw (by omega) (by omega)]; exact HpOK.mutOwn hw (.head _) rfl⟩
 refine zR2 ?_
 refine gX (ι:=Nat × Array UInt32) (fun ⟨l2,d1⟩=>(d1.size=d.size∧l2≤64)∧l2=(if !wb then l1 - 1 else l1)∧d1=(if !wb then breakPatterns cur a1 b1 else cur)) (fun _=>Bg.less w V) (fun ⟨l2,d1⟩=>[rowE V 23 aa d1.toList]) (fun ⟨l2,d1⟩=>[(3,.int .i64 (l2:Nat))]) ?_ (fun i hi=>?_)
 ·skip
  refine zR6 ?_
  refine ab rfl ?_ ?_<;>intro h3
  ·refine zR5 ?_
   refine dH rfl Tryz.call256 (by repeat constructor) (fun w hw=>KL cur V a1 b1 _ _ rfl rfl w (hw.ent _ (.head _)) (by omega) (by omega) (by omega)) rfl ?_
   refine mi hr (.head _) (fun hq=>?_)
   have hz1:(breakPatterns cur a1 b1).size=d.size:=by rw [← Array.length_toList,← Array.length_toList]; exact hq
   refine zR8 ?_
   refine xc (l1 - 1,breakPatterns cur a1 b1) (.cons (by first|rfl|exact az rfl (by omega)|exact bU rfl (decide_eq_decide.2 (by omega))|exact az rfl (by simp)|exact bU rfl (by simp)) Front.nil) (zz9 9 rfl) (o:=⟨⟨hz1,by omega⟩,by simp_all,by simp_all⟩)
  refine zR2 ?_
  refine xc (l1,cur) (.cons (by first|rfl|exact az rfl (by omega)|exact bU rfl (decide_eq_decide.2 (by omega))|exact az rfl (by simp)|exact bU rfl (by simp)) Front.nil) (zz9 2 rfl) (o:=⟨⟨hk2,by omega⟩,by simp_all,by simp_all⟩)
 obtain ⟨l2,d1⟩:=i
 replace hi:(d1.size=d.size∧l2≤64)∧l2=(if !wb then l1 - 1 else l1)∧d1=(if !wb then breakPatterns cur a1 b1 else cur):=hi
 change Tr _ _ [rowE V 23 aa d1.toList] ([(3,.int .i64 (l2:Nat))] ++ _) _
 obtain ⟨hd1,hl2,hd1e⟩:=hi
 refine zR5 ?_
 refine dH rfl Tryz.call257 (by repeat constructor) (fun w hw=>xx d1 V a1 b1 _ _ rfl rfl w (hw.ent _ (.head _)) (by omega) (by omega) (by omega)) rfl ?_
 obtain ⟨c,hc⟩:∃ c,c=choosePivot ltW d1 a1 b1:=⟨_,rfl⟩
 rw [← hc]
 have hcr:=choosePivot_holds ltW d1 a1 b1 (by omega)
 rw [← hc] at hcr
 refine zR7 ?_
 refine gX (ι:=Nat × Hint × Array UInt32) (fun ⟨pv,hint,d2⟩=>(a1≤pv∧pv<b1∧d2.size=d.size)∧d2=(if c.2=.decreasing then reverseRange d1 a1 b1 else d1)∧pv=(if c.2=.decreasing then (b1 - 1) - (c.1 - a1) else c.1)∧hint=(if c.2=.decreasing then Hint.increasing else c.2)) (fun _=>Bg.less w V) (fun ⟨pv,hint,d2⟩=>[rowE V 23 aa d2.toList]) (fun ⟨pv,hint,d2⟩=>[(11,.int .i64 (pv:Nat)),(12,.int .i64 (hintCode hint))]) ?_ (fun i hi=>?_)
 ·skip
  refine zR6 ?_
  refine ab rfl ?_ ?_<;>intro h4
  ·refine zR5 ?_
   refine dH rfl Tryz.call258 (by repeat constructor) (fun w hw=>Er d1 V a1 b1 _ _ rfl rfl w (hw.ent _ (.head _)) (by omega) (by omega) (by omega)) rfl ?_
   refine mi hr (.head _) (fun hq=>?_)
   have hz2:(reverseRange d1 a1 b1).size=d.size:=by rw [← Array.length_toList,← Array.length_toList]; exact hq
   refine ug ?_
   have hx:c.2=.decreasing:=(uS c.2).1 (by assumption)
   refine xc (b1 - 1 - (c.1 - a1),.increasing,reverseRange d1 a1 b1) (.cons (by first|rfl|exact az rfl (by omega)|exact bU rfl (decide_eq_decide.2 (by omega))|exact az rfl (by simp)|exact bU rfl (by simp)) (.cons (by first|rfl|exact az rfl (by omega)|exact bU rfl (decide_eq_decide.2 (by omega))|exact az rfl (by simp)|exact bU rfl (by simp)) Front.nil)) (zz9 14 rfl) (o:=⟨⟨by omega,by omega,hz2⟩,by rw [if_pos hx],by rw [if_pos hx],by rw [if_pos hx]⟩)
  refine zR2 ?_
  have hx:¬ c.2=.decreasing:=fun e=>absurd ((uS c.2).2 e) (by assumption)
  refine xc (c.1,c.2,d1) (.cons (by first|rfl|exact az rfl (by omega)|exact bU rfl (decide_eq_decide.2 (by omega))|exact az rfl (by simp)|exact bU rfl (by simp)) (.cons (by first|rfl|exact az rfl (by omega)|exact bU rfl (decide_eq_decide.2 (by omega))|exact az rfl (by simp)|exact bU rfl (by simp)) Front.nil)) (zz9 2 rfl) (o:=⟨⟨by omega,by omega,hd1.1⟩,by rw [if_neg hx],by rw [if_neg hx],by rw [if_neg hx]⟩)
 obtain ⟨pv,hint,d2⟩:=i
 replace hi:(a1≤pv∧pv<b1∧d2.size=d.size)∧d2=(if c.2=.decreasing then reverseRange d1 a1 b1 else d1)∧pv=(if c.2=.decreasing then (b1 - 1) - (c.1 - a1) else c.1)∧hint=(if c.2=.decreasing then Hint.increasing else c.2):=hi
 change Tr _ _ [rowE V 23 aa d2.toList] ([(11,.int .i64 (pv:Nat)),(12,.int .i64 (hintCode hint))] ++ _) _
 obtain ⟨hpv,hd2,hpve,hhint⟩:=hi
 have hdl2:d2.toList.length=d.size:=by rw [Array.length_toList]; exact hpv.2.2
 refine dZ (.of (ι:=Array UInt32) (fun d3=>d3.size=d.size∧(if wb && wp && hint=.increasing then partialInsertionSort ltW d2 a1 b1 else (d2,false))=(d3,false)) (fun _=>Bg.less w V) (fun d3=>[rowE V 23 aa d3.toList]) (fun d3=>[])) ?_ (fun d3 hi=>?_)
 ·skip
  refine zR4 ?_
  refine dT 2 62 64 (h2:=?_)
  refine zz0 (af rfl) ?_
  refine dT 3 65 68 (h2:=zR2 ?_)
  refine ab rfl ?_ ?_<;>intro h7
  ·refine zR5 ?_
   refine dH rfl Tryz.call259 (by repeat constructor) (fun w hw=>yE d2 V a1 b1 _ _ rfl rfl w (hw.ent _ (.head _)) (by omega) (by omega) (by omega)) rfl ?_
   obtain ⟨p,hp⟩:∃ p,p=partialInsertionSort ltW d2 a1 b1:=⟨_,rfl⟩
   rw [← hp]
   refine mi hr (.head _) (fun hq=>?_)
   have hz3:p.1.size=d.size:=by rw [← Array.length_toList,← Array.length_toList]; exact hq
   refine zR2 ?_
   refine ab rfl ?_ ?_<;>intro h8
   ·refine zR5 ?_
    refine nA pG (fun w' hw=>?_)
    have hfin:pdq ltW cur a1 b1 l1 wb wp=p.1:=Cx (by omega) (by omega) hd1e hc hd2 hhint (by rw [if_pos (Mf h7),← hp]; exact Prod.ext rfl (by assumption))
    exact ⟨rfl,by rw [← hk3,hfin]; exact HpOK.mutOwn hw (.head _) rfl⟩
   refine zR2 ?_
   refine aT p.1 (o:=⟨hz3,by rw [if_pos (Mf h7)]; exact Prod.ext rfl (by assumption)⟩)
  refine zR2 ?_
  refine aT d2 (o:=⟨hpv.2.2,by rw [if_neg (Qo h7)]⟩)
 skip
 obtain ⟨hd3,hd3e⟩:=hi
 have hdl3:d3.toList.length=d.size:=by rw [Array.length_toList]; exact hd3
 have hR:Rnd cur a1 b1 l1 wb wp l2 pv d3:=⟨d1,d2,c,hint,hd1e,hl2,hc,hd2,hpve,hhint,hd3e⟩
 have ea1:((a1:Int) - 1).toNat=a1 - 1∨a1=0:=by omega
 refine bB (bB (eU ah (zT3 ?_)))
 apply fD 12 75 87 (fun hT9 hT9'=>?_) ?_; rotate_right
 ·refine zT9 ?_
  refine db hT9 (ak rfl (iv (d3.toList.getD (((a1:Int) - 1).toNat) default) (d3.toList.getD (pv) default))) ?_
  exact zQ
 refine zT2 ?_
 refine ab rfl ?_ ?_<;>intro h10
 ·refine zR6 ?_
  refine dH rfl Tryz.call261 (by repeat constructor) (fun w hw=>xn d3 V a1 b1 pv _ _ _ rfl rfl rfl w (hw.ent _ (.head _)) (by omega) (by omega) (by omega) (by omega)) rfl ?_
  obtain ⟨p,hpe⟩:∃ p,p=partitionEqual ltW d3 a1 b1 pv:=⟨_,rfl⟩
  have hpr:=Hj (d:=d3) (pv:=pv) (show a1+1<b1 by omega) (by omega)
  rw [← hpe] at hpr
  rw [← hpe]
  obtain ⟨mid,d4⟩:=p
  dsimp only at hpr ⊢
  refine mi hr (.head _) (fun hq=>?_)
  have hz4:d4.size=d.size:=by rw [← Array.length_toList,← Array.length_toList]; exact hq
  refine gB ?_
  apply dn (mid,b1,l2,wb,wp,d4)
  ·exact rfl
  ·exact (.cons (by first|rfl|exact az rfl (by omega)|exact bU rfl (decide_eq_decide.2 (by omega))|exact az rfl (by simp)|exact bU rfl (by simp)) (.cons (by first|rfl|exact az rfl (by omega)|exact bU rfl (decide_eq_decide.2 (by omega))|exact az rfl (by simp)|exact bU rfl (by simp)) (.cons (by first|rfl|exact az rfl (by omega)|exact bU rfl (decide_eq_decide.2 (by omega))|exact az rfl (by simp)|exact bU rfl (by simp)) (.cons (by first|rfl|exact az rfl (by omega)|exact bU rfl (decide_eq_decide.2 (by omega))|exact az rfl (by simp)|exact bU rfl (by simp)) (.cons (by first|rfl|exact az rfl (by omega)|exact bU rfl (decide_eq_decide.2 (by omega))|exact az rfl (by simp)|exact bU rfl (by simp)) Front.nil)))))
  ·exact zz9 37 rfl
  ·exact (by repeat' constructor)
  ·exact ⟨by show a≤mid∧mid≤b1∧b1≤b∧l2≤64; omega,hz4,by rw [← hk3]; exact (Ot (by omega) (by omega) hR (by omega) (by rw [← dB,← dB,← ea1.resolve_right (by omega)]; simp_all) hpe.symm (by omega)).symm⟩
  exact (by show b1 - mid<m; omega)
 refine zR3 ?_
 have hcond:a1=0∨ltW d3[a1 - 1]! d3[pv]! = true:=by
  rcases Nat.eq_zero_or_pos a1 with q|q
  ·exact .inl q
  ·right
   rw [← dB,← dB,← ea1.resolve_right (by omega)]
   simp_all
 refine zR5 ?_
 refine dH rfl Tryz.call262 (by repeat constructor) (fun w hw=>Aq d3 V a1 b1 pv _ _ _ rfl rfl rfl w (hw.ent _ (.head _)) (by omega) (by omega) (by omega) (by omega)) rfl ?_
 obtain ⟨p,hpt⟩:∃ p,p=partition ltW d3 a1 b1 pv:=⟨_,rfl⟩
 have hpr:=Mh (d:=d3) (a:=a1) (b:=b1) (pv:=pv) (by omega) (by omega) (by omega)
 rw [← hpt] at hpr
 rw [← hpt]
 obtain ⟨mid,ap,d4⟩:=p
 dsimp only at hpr ⊢
 refine mi hr (.head _) (fun hq=>?_)
 have hz4:d4.size=d.size:=by rw [← Array.length_toList,← Array.length_toList]; exact hq
 refine QF ?_
 refine zz0 (kY rfl rfl (by omega)) (bR ?_)
 refine ab rfl ?_ ?_<;>intro h11
 ·refine jk ?_
  refine dH rfl Tryz.call198 (by repeat constructor) (fun w hw=>ih d4 a1 mid l2 _ _ _ w rfl rfl rfl (hw.ent _ (.head _)) (by omega) (by omega) (by omega) (by omega) (by omega)) rfl ?_
  refine mi hr (.head _) (fun hq=>?_)
  have hz5:(pdq ltW d4 a1 mid l2 true true).size=d.size:=by rw [← Array.length_toList,← Array.length_toList]; exact hq
  refine zR9 ?_
  apply dn (mid+1,b1,l2,decide (mid - a1 ≥ (b1 - a1) / 8),ap,pdq ltW d4 a1 mid l2 true true)
  ·exact rfl
  ·exact (.cons (by first|rfl|exact az rfl (by omega)|exact bU rfl (decide_eq_decide.2 (by omega))|exact az rfl (by simp)|exact bU rfl (by simp)) (.cons (by first|rfl|exact az rfl (by omega)|exact bU rfl (decide_eq_decide.2 (by omega))|exact az rfl (by simp)|exact bU rfl (by simp)) (.cons (by first|rfl|exact az rfl (by omega)|exact bU rfl (decide_eq_decide.2 (by omega))|exact az rfl (by simp)|exact bU rfl (by simp)) (.cons (by first|rfl|exact az rfl (by omega)|exact bU rfl (decide_eq_decide.2 (by omega))|exact az rfl (by simp)|exact bU rfl (by simp)) (.cons (by first|rfl|exact az rfl (by omega)|exact bU rfl (decide_eq_decide.2 (by omega))|exact az rfl (by simp)|exact bU rfl (by simp)) Front.nil)))))
  ·exact zz9 67 rfl
  ·exact (by repeat' constructor)
  ·exact ⟨by show a≤mid+1∧mid+1≤b1∧b1≤b∧l2≤64; omega,hz5,by rw [← hk3]; exact (Cv (by omega) (by omega) hR hcond hpt.symm (by omega) (by omega)).symm⟩
  exact (by show b1 - (mid+1)<m; omega)
 refine mN ?_
 refine dH rfl Tryz.call198 (by repeat constructor) (fun w hw=>ih d4 (mid+1) b1 l2 _ _ _ w (by omega) rfl rfl (hw.ent _ (.head _)) (by omega) (by omega) (by omega) (by omega) (by omega)) rfl ?_
 refine mi hr (.head _) (fun hq=>?_)
 have hz5:(pdq ltW d4 (mid+1) b1 l2 true true).size=d.size:=by rw [← Array.length_toList,← Array.length_toList]; exact hq
 refine zR8 ?_
 apply dn (a1,mid,l2,decide (b1 - mid ≥ (b1 - a1) / 8),ap,pdq ltW d4 (mid+1) b1 l2 true true)
 ·exact rfl
 ·exact (.cons (by first|rfl|exact az rfl (by omega)|exact bU rfl (decide_eq_decide.2 (by omega))|exact az rfl (by simp)|exact bU rfl (by simp)) (.cons (by first|rfl|exact az rfl (by omega)|exact bU rfl (decide_eq_decide.2 (by omega))|exact az rfl (by simp)|exact bU rfl (by simp)) (.cons (by first|rfl|exact az rfl (by omega)|exact bU rfl (decide_eq_decide.2 (by omega))|exact az rfl (by simp)|exact bU rfl (by simp)) (.cons (by first|rfl|exact az rfl (by omega)|exact bU rfl (decide_eq_decide.2 (by omega))|exact az rfl (by simp)|exact bU rfl (by simp)) (.cons (by first|rfl|exact az rfl (by omega)|exact bU rfl (decide_eq_decide.2 (by omega))|exact az rfl (by simp)|exact bU rfl (by simp)) Front.nil)))))
 ·exact zz9 67 rfl
 ·exact (by repeat' constructor)
 ·exact ⟨by show a≤a1∧a1≤mid∧mid≤b∧l2≤64; omega,hz5,by rw [← hk3]; exact (As (by omega) (by omega) hR hcond hpt.symm (by omega) (by omega)).symm⟩
 exact (by show mid - a1<m; omega)
theorem IK (V:Value):∀ (n:Nat) (d:Array UInt32) (a b limit:Nat) (ai bi li:Int) (w:World),ai=((a:Nat):Int)→bi=((b:Nat):Int)→li=((limit:Nat):Int)→(rowE V 23 aa d.toList).holds w→d.size≤1000000→a≤b→b≤d.size→limit≤64→b - a<n→Calls Tryz.prog 198 #[V,.int .i64 ai,.int .i64 bi,.int .i64 li] w (fun e w'=>e=.returned (.tuple #[])∧Mut w w' V∧(rowE V 23 aa (pdq ltW d a b limit true true).toList).holds w')
 | 0,_,_,_,_,_,_,_,_,_,_,_,_,_,_,_,_,h=>absurd h (Nat.not_lt_zero _)
 | n+1,d,a,b,limit,ai,bi,li,w,e1,e2,e3,hr,hd,hab,hb,hl,h=>Mg V n (IK V n) d a b limit ai bi li e1 e2 e3 w hr hd hab hb hl (Nat.le_of_lt_succ h)
theorem AW (d:Array UInt32) (V:Value) (w:World) (hr:(rowE V 23 aa d.toList).holds w) (hd:d.size≤1000000) :
  Calls Tryz.prog 141 #[V] w (fun e w'=>e=.returned (.tuple #[])∧Mut w w' V∧(rowE V 23 aa (sort ltW d).toList).holds w'):=by
 have hdl:d.toList.length=d.size:=Array.length_toList
 have hb20:bitsLen d.size≤20:=(bitsLen_le_iff _ 20).2 (by omega)
 refine fO (l:=d.toList) (E:=aa) (T:=23) hr Tryz.func141 rfl Tryz.ntmps141 rfl (cj ?_)
 refine zz0 (eO rfl ad dD (IntWalk.u64_in _ (by omega))) ?_
 refine zz0 (ak rfl (Qt d.size _ (by omega) (by omega))) ?_
 refine dH rfl Tryz.call198 (by repeat constructor) (fun w hw=>IK V _ d 0 d.size (bitsLen d.size) _ _ _ w rfl (by omega) rfl (hw.ent _ (.head _)) hd (by omega) (by omega) (by omega) (Nat.lt_succ_self _)) rfl (mj ?_)
 exact fy Tryz.results141 fun w' hw=>⟨rfl,HpOK.mutOwn hw (.head _) rfl⟩
end Go.Proofs.YtiajjbhcpeadfaaGreat
namespace Go.Proofs.YtiajjbhcpeadfaaGreat
open Go Go.HL Go.RowKit Tryz
theorem Ee (l:List UInt32):(Go.Sort.sort ltW l.toArray).toList=hZ l:=by
 rw [Lq,List.toList_toArray]
 unfold hZ
 congr 1
 funext x y
 simp only [ltW]
 by_cases h:x≤y
 ·rw [decide_eq_true h,decide_eq_false (by rw [UInt32.lt_iff_toNat_lt]; rw [UInt32.le_iff_toNat_le] at h; omega)]; rfl
 rw [decide_eq_false h,decide_eq_true (by rw [UInt32.lt_iff_toNat_lt]; rw [UInt32.le_iff_toNat_le] at h; omega)]; rfl
theorem Kg (b:Nat) (w:World) :
  Calls prog 139 #[.map (some b)] w (fun e w'=>∃ i:Nat,e=.returned (.func (.func 196) #[] #[.pointer (some ⟨i,0,none⟩)])∧Ext w w'∧CellsIn (Ba w w') i [.map (some b)]):=by
 refine En f139 rfl rfl (zR2 ?_)
 refine bJ rfl rfl (fun b1=>zR5 ?_)
 refine zz0 (fB rfl rfl) (zR4 ?_)
 exact aM results139 rfl fun w' hw=>⟨b1,rfl,hw.b0,hw.cellNew rfl (by repeat constructor)⟩
theorem Hu {α:Type} {f:α→Value} {l:List (UInt32 × α)} (b Bm:Nat) (es:Array MapEntry) (ck:Nat) (hmI:MapIs f l es ck) (w:World) (c1:CellsIn (hp w) Bm [.map (some b)]) (hb:w.heap[b]?=some (.map es ck)) (lv B:Nat) (hB:B≤w.heap.size) (J Jx:List UInt32→World→Prop) (hJ:AbidesFrom B J) (hJx:AbidesFrom B Jx) (hY:∀ pre x W1,J pre W1→pre.length<l.length→YieldAt Fence.wide 1 prog lv #[.int .u32 x.toNat] W1 fun e W'=>(e=.returned (.bool true)∧J (pre ++ [x]) W'∧KeepsWalks W1 W')∨(e=.returned (.bool false)∧Jx (pre ++ [x]) W')) (h0:J [] w) :
  Calls prog 196 #[.func (.yield lv) #[] #[],.pointer (some ⟨Bm,0,none⟩)] w (fun e W'=>(∃ v,e=.returned v)∧((∃ xs,xs.Perm (l.map (·.1))∧J xs W')∨(∃ pre,True∧Jx pre W'))):=by
 have c1':CellsIn (Bg.of0 w).blk Bm [.map (some b)]:=c1
 refine lP func196 rfl ntmps196 rfl (zR2 ?_)
 refine zz0 (eL rfl c1' gk (by rfl)) ?_
 refine BV rfl hmI hb dP rfl (fun W1 r hg1 hr1 hI1=>zR3 ?_)
 refine cT (ι:=World × List UInt32) (fun ⟨Ws,done⟩=>IterAt Ws b r es ck done∧done.Nodup∧(∀ k∈done,k∈l.map (·.1))∧J done Ws) (fun ⟨Ws,done⟩=>Bg.of0 Ws) (fun ⟨Ws,done⟩=>[]) (fun ⟨Ws,done⟩=>[]) (fun ⟨Ws,done⟩=>l.length - done.length) (W1,[]) ⟨hI1,List.nodup_nil,fun k h=>(by cases h),hJ [] w W1 none h0 hg1 (fun r e=>by cases e)⟩ Front.nil (fun i hi m hm=>?_)
 obtain ⟨Ws,done⟩:=i
 dsimp only at hi hm
 change Tr _ (Bg.of0 Ws) [] ([] ++ _) _
 obtain ⟨q1,q2,q3,q4⟩:=hi
 refine bB ?_
 refine Gs (l:=l) rfl hmI q1 rfl rfl (fun k x W2 W3 hx2 hk1 hk2 g1 g2 i1 i2=>?_) (fun hall=>?_)
 ·skip
  have hlen:done.length<l.length:=IQ q2 q3 hk1 hk2
  have hJ3:J done W3:=hJ done W2 W3 (some r) (hJ done Ws W2 none q4 g1 (fun r e=>by cases e)) g2 (fun r' e=>by cases e; exact ⟨by omega,i1.walk⟩)
  refine zR2 ?_
  refine fk rfl ?_ ?_<;>intro h1<;>try simp only [bs] at h1
  ·refine zR5 ?_
   refine zz0 (B6 rfl hmI i2 (by simp) hx2) (zR5 ?_)
   refine Gk (x:=k) (fun x:UInt32=>.int .u32 x.toNat) rfl rfl rfl rfl hJ3 hJ (fun W4 h=>hY done k W4 h hlen) rfl rfl rfl rfl (fun W4 W' y1 y2 y3=>?_) (fun W' y1=>?_)
   ·skip
    refine aS ?_
    refine fk rfl ?_ ?_<;>intro h2<;>try simp only [bs] at h2
    ·first|contradiction|(exfalso; omega)|simp_all
    refine zR3 ?_
    have hdl:(done ++ [k]).length=done.length+1:=by simp
    apply dn (W',done ++ [k])
    ·exact rfl
    ·exact Front.nil
    ·exact zz9 9 rfl
    ·exact (by repeat' constructor)
    ·exact ⟨(i2.grown y1.grown).keeps y2,yH q2 hk2,fun j hj=>(List.mem_append.1 hj).elim (q3 j) (fun h=>(List.mem_singleton.1 h) ▸ hk1),y3⟩
    exact (by show l.length - (done ++ [k]).length<m; omega)
   skip
   refine aS ?_
   refine fk rfl ?_ ?_<;>intro h3<;>try simp only [bs] at h3
   ·exact Dp (zN (zJ (zN (nA results196 fun w' hw=>⟨⟨_,rfl⟩,.inr ⟨_,trivial,hJx _ W' _ none y1 hw.grown (fun r e=>by cases e)⟩⟩))))
   first|contradiction|(exfalso; omega)|simp_all
  first|contradiction|(exfalso; omega)|simp_all
 skip
 refine zR2 ?_
 refine fk rfl ?_ ?_<;>intro h4<;>try simp only [bs] at h4
 ·first|contradiction|(exfalso; omega)|simp_all
 refine zR4 ?_
 exact fy results196 fun w' hw=>⟨⟨_,rfl⟩,.inl ⟨done,EY hmI.nodup q2 q3 hall,hJ done Ws _ none q4 hw.grown (fun r e=>by cases e)⟩⟩
theorem xq {α:Type} {f:α→Value} {l:List (UInt32 × α)} (b Bm:Nat) (w:World) (hm:MapIn (hp w) b f l) (c1:CellsIn (hp w) Bm [.map (some b)]) :
  SeqStopsK Fence.wide 2 prog 196 [.pointer (some ⟨Bm,0,none⟩)].toArray (fun x:UInt32=>#[.int .u32 x.toNat]) KeepsWalks (fun xs=>xs.Perm (l.map (·.1))) (fun _=>True) l.length w:=by
 obtain ⟨es,ck,hb,hm⟩:=hm
 intro lv J Jx W hBel hJ hJx hY h0
 have hle:Hp.le (hp w) (hp W):=fun k o e=>(hBel.block k (Array.getElem?_eq_some_iff.1 (show w.heap[k]?=some o from e)).1).trans e
 exact callsIn_wide.2 (Hu b Bm es ck hm W (c1.mono hle) (hle b _ hb) lv W.heap.size (Nat.le_refl _) J Jx hJ hJx hY h0)
theorem MD (b:Nat) (w:World) :
  Calls prog 72 #[.map (some b)] w (fun e w'=>∃ i:Nat,e=.returned (.func (.func 142) #[] #[.pointer (some ⟨i,0,none⟩)])∧Ext w w'∧CellsIn (Ba w w') i [.map (some b)]):=by
 refine En f72 rfl rfl (zR2 ?_)
 refine bJ rfl rfl (fun b1=>zR5 ?_)
 refine zz0 (fB rfl rfl) (zR4 ?_)
 exact aM results72 rfl fun w' hw=>⟨b1,rfl,hw.b0,hw.cellNew rfl (by repeat constructor)⟩
theorem Kh {α:Type} {f:α→Value} {l:List (UInt32 × α)} (b Bm:Nat) (es:Array MapEntry) (ck:Nat) (hmI:MapIs f l es ck) (w:World) (c1:CellsIn (hp w) Bm [.map (some b)]) (hb:w.heap[b]?=some (.map es ck)) (lv B:Nat) (hB:B≤w.heap.size) (J Jx:List UInt32→World→Prop) (hJ:AbidesFrom B J) (hJx:AbidesFrom B Jx) (hY:∀ pre x W1,J pre W1→pre.length<l.length→YieldAt Fence.wide 1 prog lv #[.int .u32 x.toNat] W1 fun e W'=>(e=.returned (.bool true)∧J (pre ++ [x]) W'∧KeepsWalks W1 W')∨(e=.returned (.bool false)∧Jx (pre ++ [x]) W')) (h0:J [] w) :
  Calls prog 142 #[.func (.yield lv) #[] #[],.pointer (some ⟨Bm,0,none⟩)] w (fun e W'=>(∃ v,e=.returned v)∧((∃ xs,xs.Perm (l.map (·.1))∧J xs W')∨(∃ pre,True∧Jx pre W'))):=by
 have c1':CellsIn (Bg.of0 w).blk Bm [.map (some b)]:=c1
 refine lP func142 rfl ntmps142 rfl (zR2 ?_)
 refine zz0 (eL rfl c1' j7 (by rfl)) ?_
 refine BV rfl hmI hb fX rfl (fun W1 r hg1 hr1 hI1=>zR3 ?_)
 refine cT (ι:=World × List UInt32) (fun ⟨Ws,done⟩=>IterAt Ws b r es ck done∧done.Nodup∧(∀ k∈done,k∈l.map (·.1))∧J done Ws) (fun ⟨Ws,done⟩=>Bg.of0 Ws) (fun ⟨Ws,done⟩=>[]) (fun ⟨Ws,done⟩=>[]) (fun ⟨Ws,done⟩=>l.length - done.length) (W1,[]) ⟨hI1,List.nodup_nil,fun k h=>(by cases h),hJ [] w W1 none h0 hg1 (fun r e=>by cases e)⟩ Front.nil (fun i hi m hm=>?_)
 obtain ⟨Ws,done⟩:=i
 dsimp only at hi hm
 change Tr _ (Bg.of0 Ws) [] ([] ++ _) _
 obtain ⟨q1,q2,q3,q4⟩:=hi
 refine bB ?_
 refine Gs (l:=l) rfl hmI q1 rfl rfl (fun k x W2 W3 hx2 hk1 hk2 g1 g2 i1 i2=>?_) (fun hall=>?_)
 ·skip
  have hlen:done.length<l.length:=IQ q2 q3 hk1 hk2
  have hJ3:J done W3:=hJ done W2 W3 (some r) (hJ done Ws W2 none q4 g1 (fun r e=>by cases e)) g2 (fun r' e=>by cases e; exact ⟨by omega,i1.walk⟩)
  refine zR2 ?_
  refine fk rfl ?_ ?_<;>intro h1<;>try simp only [bs] at h1
  ·refine zR5 ?_
   refine zz0 (B6 rfl hmI i2 (by simp) hx2) (zR5 ?_)
   refine Gk (x:=k) (fun x:UInt32=>.int .u32 x.toNat) rfl rfl rfl rfl hJ3 hJ (fun W4 h=>hY done k W4 h hlen) rfl rfl rfl rfl (fun W4 W' y1 y2 y3=>?_) (fun W' y1=>?_)
   ·skip
    refine aS ?_
    refine fk rfl ?_ ?_<;>intro h2<;>try simp only [bs] at h2
    ·first|contradiction|(exfalso; omega)|simp_all
    refine zR3 ?_
    have hdl:(done ++ [k]).length=done.length+1:=by simp
    apply dn (W',done ++ [k])
    ·exact rfl
    ·exact Front.nil
    ·exact zz9 9 rfl
    ·exact (by repeat' constructor)
    ·exact ⟨(i2.grown y1.grown).keeps y2,yH q2 hk2,fun j hj=>(List.mem_append.1 hj).elim (q3 j) (fun h=>(List.mem_singleton.1 h) ▸ hk1),y3⟩
    exact (by show l.length - (done ++ [k]).length<m; omega)
   skip
   refine aS ?_
   refine fk rfl ?_ ?_<;>intro h3<;>try simp only [bs] at h3
   ·exact Dp (zN (zJ (zN (nA results142 fun w' hw=>⟨⟨_,rfl⟩,.inr ⟨_,trivial,hJx _ W' _ none y1 hw.grown (fun r e=>by cases e)⟩⟩))))
   first|contradiction|(exfalso; omega)|simp_all
  first|contradiction|(exfalso; omega)|simp_all
 skip
 refine zR2 ?_
 refine fk rfl ?_ ?_<;>intro h4<;>try simp only [bs] at h4
 ·first|contradiction|(exfalso; omega)|simp_all
 refine zR4 ?_
 exact fy results142 fun w' hw=>⟨⟨_,rfl⟩,.inl ⟨done,EY hmI.nodup q2 q3 hall,hJ done Ws _ none q4 hw.grown (fun r e=>by cases e)⟩⟩
theorem yY {α:Type} {f:α→Value} {l:List (UInt32 × α)} (b Bm:Nat) (w:World) (hm:MapIn (hp w) b f l) (c1:CellsIn (hp w) Bm [.map (some b)]) :
  SeqStopsK Fence.wide 2 prog 142 [.pointer (some ⟨Bm,0,none⟩)].toArray (fun x:UInt32=>#[.int .u32 x.toNat]) KeepsWalks (fun xs=>xs.Perm (l.map (·.1))) (fun _=>True) l.length w:=by
 obtain ⟨es,ck,hb,hm⟩:=hm
 intro lv J Jx W hBel hJ hJx hY h0
 have hle:Hp.le (hp w) (hp W):=fun k o e=>(hBel.block k (Array.getElem?_eq_some_iff.1 (show w.heap[k]?=some o from e)).1).trans e
 exact callsIn_wide.2 (Kh b Bm es ck hm W (c1.mono hle) (hle b _ hb) lv W.heap.size (Nat.le_refl _) J Jx hJ hJx hY h0)
attribute [local semireducible] Go.HL.Tr Go.HL.TrQ in
theorem AI (g:Nat) (lb:List Value) (keys:List UInt32) (Nm:Nat) (hN:Nm≤1000000) (eg:∀ (args:Array Value) (w:World),(callFunc g args).run prog w=.ok (.enter g args) w) (w:World) (hseq:SeqStopsK Fence.wide 2 prog g lb.toArray (fun x:UInt32=>#[.int .u32 x.toNat]) KeepsWalks (fun xs=>xs.Perm keys) (fun _=>True) Nm w) :
  Calls prog 197 #[nS,.func (.func g) #[] lb.toArray] w (fun e w'=>∃ i:Value × List UInt32,e=.returned i.1∧Below w.heap.size w w'∧NewEnts w w' [rowE i.1 23 aa i.2]∧i.2.Perm keys):=by
 refine P1 func197 rfl ntmps197 rfl (zR2 ?_)
 refine bJ rfl rfl (fun b1=>bR ?_)
 refine ay 23 aa ?_
 refine Ig (α:=UInt32) (ι:=Value × List UInt32) (lb:=lb) (fun x=>.int .u32 x.toNat) (fun xs=>xs.Perm keys) (fun pre j=>j.2=pre) (fun j=>[cellE b1 [j.1] 31,rowE j.1 23 aa j.2]) Nm (nS,[]) rfl rfl rfl eg rfl rfl (by repeat' constructor) rfl (fun j=>.cell (.row .nil)) ?_ ?_ ?_
 ·exact fun w2 F1 hf h1=>SeqStopsK.later hseq (h1.below0 hf)
 ·intro pre x j l0 F1 hF1 hok hlen
  obtain ⟨V,xs⟩:=j
  replace hok:xs=pre:=hok
  subst hok
  change Tr _ _ [cellE b1 [V] 31,rowE V 23 aa xs] _ _
  refine Ik ?_
  refine If (QM Mm) rfl (zR2 ?_)
  refine fM (E:=aa) x rfl rfl am ar bj (fun V2=>?_)
  refine zz3 rfl rfl am cp (fun V3=>?_)
  refine cn (.head _) (fun pa pc hpv=>?_)
  subst hpv
  refine jF rfl rfl eS (by repeat constructor) (by rfl) (by rfl) (by first|exact List.all_eq_true.1 rfl|exact Enc.one _ _) rfl (zR2 ?_)
  exact fun a w ha hw=>⟨rfl,(.slice pa (xs ++ [x]).length pc,xs ++ [x]),rfl,Pick.heap (L':=[cellE b1 [.slice pa (xs ++ [x]).length pc] 31,rowE (.slice pa (xs ++ [x]).length pc) 23 aa (xs ++ [x])]) (by repeat' constructor) hw⟩
 intro xs j D F1 hF1 hS hok
 obtain ⟨V,ys⟩:=j
 replace hok:ys=xs:=hok
 subst hok
 change Tr _ _ [Mt D,cellE b1 [V] 31,rowE V 23 aa ys] _ _
 refine zR9 ?_
 refine NB (D:=D) results197 rfl (by (repeat rw [cL,if_neg (by unfold mk0; omega)]); exact Kd) (by repeat constructor) (fun w' hw=>?_)
 exact ⟨(V,ys),rfl,hw.below0 hF1,hw.ents0 hF1.lo (by repeat' constructor),hS⟩
theorem FO (g:Nat) (lb:List Value) (keys:List UInt32) (Nm:Nat) (hN:Nm≤1000000) (eg:∀ (args:Array Value) (w:World),(callFunc g args).run prog w=.ok (.enter g args) w) (w:World) (hseq:SeqStopsK Fence.wide 2 prog g lb.toArray (fun x:UInt32=>#[.int .u32 x.toNat]) KeepsWalks (fun xs=>xs.Perm keys) (fun _=>True) Nm w) :
  Calls prog 140 #[.func (.func g) #[] lb.toArray] w (fun e w'=>∃ i:Value × List UInt32,e=.returned i.1∧Below w.heap.size w w'∧NewEnts w w' [rowE i.1 23 aa i.2]∧i.2.Perm keys):=by
 refine lP func140 rfl ntmps140 rfl (zR8 ?_)
 refine dE (fun i:Value × List UInt32=>i.1) (fun i=>[rowE i.1 23 aa i.2]) (ok:=fun i=>i.2.Perm keys) rfl rfl call197 (fun w hw=>AI g lb keys Nm hN eg w (SeqStopsK.later hseq (hw.below0 (Bg.le.refl _)))) rfl (fun i hi=>?_)
 obtain ⟨V,ys⟩:=i
 change Tr _ _ [rowE V 23 aa ys] _ _
 refine zR4 ?_
 exact aM results140 rfl fun w' hw=>⟨(V,ys),rfl,hw.below0 (Bg.le.refl _),hw.ents0 rfl (by repeat' constructor),hi⟩
theorem yq (g:Nat) (lb:List Value) (keys:List UInt32) (Nm:Nat) (hN:Nm≤1000000) (eg:∀ (args:Array Value) (w:World),(callFunc g args).run prog w=.ok (.enter g args) w) (hK:keys.length≤1000000) (w:World) (hseq:SeqStopsK Fence.wide 2 prog g lb.toArray (fun x:UInt32=>#[.int .u32 x.toNat]) KeepsWalks (fun xs=>xs.Perm keys) (fun _=>True) Nm w) :
  Calls prog 71 #[.func (.func g) #[] lb.toArray] w (fun e w'=>∃ V:Value,e=.returned V∧Below w.heap.size w w'∧NewEnts w w' [rowE V 23 aa (hZ keys)]∧True):=by
 refine lP func71 rfl ntmps71 rfl (zR8 ?_)
 refine dE (fun i:Value × List UInt32=>i.1) (fun i=>[rowE i.1 23 aa i.2]) (ok:=fun i=>i.2.Perm keys) rfl rfl call140 (fun w hw=>FO g lb keys Nm hN eg w (SeqStopsK.later hseq (hw.below0 (Bg.le.refl _)))) rfl (fun i hi=>?_)
 obtain ⟨V,ys⟩:=i
 replace hi:ys.Perm keys:=hi
 have hyl:=hi.length_eq
 change Tr _ _ [rowE V 23 aa ys] _ _
 refine zR6 ?_
 refine dH rfl call141 (by repeat constructor) (fun w hw=>AW ys.toArray V w (hw.ent _ (.head _)) (by rw [List.size_toArray]; omega)) rfl ?_
 rw [Ee,Cj hi]
 refine zR9 ?_
 exact aM results71 rfl fun w' hw=>⟨V,rfl,hw.below0 (Bg.le.refl _),hw.ents0 rfl (by repeat' constructor),trivial⟩
theorem lz (l:List (UInt32 × Bool)) (b:Nat) (w:World) (hm:MapIn (hp w) b dw l) (hl:l.length≤1000000) :
  Calls prog 70 #[.map (some b)] w (fun e w'=>∃ V:Value,e=.returned V∧Below w.heap.size w w'∧NewEnts w w' [rowE V 23 aa (hZ (l.map (·.1)))]∧True):=by
 have hm':MapIn (Bg.of0 w).blk b dw l:=hm
 refine lP func70 rfl ntmps70 rfl (zR8 ?_)
 refine BY (fun i:Nat=>.func (.func 196) #[] #[.pointer (some ⟨i,0,none⟩)]) (R:=fun h i=>CellsIn h i [.map (some b)]) (fun h h' i hh r=>r.mono hh) rfl call139 (fun w hw=>Kg b w) rfl (fun i7 F7 hF7 hR7=>?_)
 refine dE (fun V:Value=>V) (fun V=>[rowE V 23 aa (hZ (l.map (·.1)))]) (ok:=fun _=>True) (hF7.dr) rfl call71 (fun w hw=>yq _ _ (l.map (·.1)) l.length hl call196 (by rw [List.length_map]; exact hl) w (xq b i7 w ((hm'.mono hF7.blk).mono hw.bg) (hR7.mono hw.bg))) rfl (fun V7 _=>zR4 ?_)
 exact aM results70 rfl fun w' hw=>⟨V7,rfl,hw.below0 hF7,hw.ents0 hF7.lo (by repeat' constructor),trivial⟩
theorem FU (a b:UInt32) (w:World) :
  Cr prog 84 #[.int .u32 a.toNat,.int .u32 b.toNat] w (.int .i64 (zB a b)):=by
 refine En f84 rfl rfl (zR8 ?_)
 refine zz0 (ak rfl (uG a)) (zR6 ?_)
 refine zz0 (ak rfl (uG b)) (zR9 ?_)
 refine fk rfl ?_ ?_<;>intro h1<;>try simp only [bs] at h1
 ·first|contradiction|(exfalso; omega)|simp_all
 refine zR8 ?_
 refine fk rfl ?_ ?_<;>intro h2<;>try simp only [bs] at h2
 ·first|contradiction|(exfalso; omega)|simp_all
 refine bR ?_
 refine ab rfl ?_ ?_<;>intro h3
 ·refine zR7 ?_
  exact aD (e:=by rw [zB,if_pos (by assumption)])
 refine bR ?_
 refine ab rfl ?_ ?_<;>intro h4
 ·refine zR7 ?_
  exact aD (e:=by rw [zB,if_neg (by assumption),if_pos (by assumption)])
 refine zR8 ?_
 exact aD (e:=by rw [zB,if_neg (by assumption),if_neg (by assumption)])
theorem EN (a:Int) (w:World) :
  Cr prog 147 #[.int .i64 a] w (.bool false):=by
 refine En f147 rfl rfl (jk ?_)
 exact aD (e:=by simp)
theorem Nl (a b:Int) (w:World) :
  Cr prog 80 #[.int .i64 a,.int .i64 b] w (.int .i64 (HM a b)):=by
 refine En f80 rfl rfl (zR8 ?_)
 refine zz0 (ak rfl (EN a)) (zR6 ?_)
 refine zz0 (ak rfl (EN b)) (zR9 ?_)
 refine fk rfl ?_ ?_<;>intro h1<;>try simp only [bs] at h1
 ·first|contradiction|(exfalso; omega)|simp_all
 refine zR8 ?_
 refine fk rfl ?_ ?_<;>intro h2<;>try simp only [bs] at h2
 ·first|contradiction|(exfalso; omega)|simp_all
 refine bR ?_
 refine ab rfl ?_ ?_<;>intro h3
 ·refine zR7 ?_
  exact aD (e:=by rw [HM,if_pos (by assumption)])
 refine bR ?_
 refine ab rfl ?_ ?_<;>intro h4
 ·refine zR7 ?_
  exact aD (e:=by rw [HM,if_neg (by assumption),if_pos (by assumption)])
 refine zR8 ?_
 exact aD (e:=by rw [HM,if_neg (by assumption),if_neg (by assumption)])
theorem Br (l:List UInt32) (V:Value) (a:UInt32) (w:World) (hV:Sl (hp w) aa l V) :
  Cr prog 145 #[V,.int .u32 a.toNat] w (.int .i64 (dA (fun x=>decide (a=x)) 0 l)):=by
 have hV':Sl (Bg.of w).blk aa l V:=hV
 have hlen:=hV.len_le
 refine En f145 rfl rfl (jk ?_)
 refine cP (.of (ι:=Nat) (fun k=>k≤l.length∧dA (fun x=>decide (a=x)) k (l.drop k)=dA (fun x=>decide (a=x)) 0 l) (fun _=>_) (fun k=>[]) (fun k=>[(8,.int .i64 (k:Nat))]) (fun k=>l.length - k)) 0 ⟨Nat.zero_le _,rfl⟩ (Front.c Front.nil) (fun k hi m hm=>?_)
 obtain ⟨hk1,hk2⟩:=hi
 refine zR6 ?_
 refine ab rfl ?_ ?_<;>intro h1
 ·refine Pu ?_
  refine ab rfl ?_ ?_<;>intro h2
  ·refine df ?_
   exact aD (e:=by rw [← hk2,drop_cons (k:=k) (by omega),dA,if_pos (by simp_all)])
  refine zR8 ?_
  refine aP (k+1) (o:=⟨by omega,by rw [← hk2,drop_cons (k:=k) (by omega),dA,if_neg (by simp_all)]⟩)
 refine cj ?_
 exact aD (e:=by rw [← hk2,List.drop_of_length_le (by omega)]; rfl)
theorem Dc (l:List UInt32) (V:Value) (a:UInt32) (w:World) (hV:Sl (hp w) aa l V) :
  Cr prog 76 #[V,.int .u32 a.toNat] w (.bool (Ay l a)):=by
 have hV':Sl (Bg.of w).blk aa l V:=hV
 have hlen:=hV.len_le
 refine En f76 rfl rfl (zR9 ?_)
 refine zz0 (aK rfl (fun w hw=>Br l V a w (hw.slF hV'))) (zR5 ?_)
 exact aD (e:=by rw [uQ]; rfl)
theorem wc (l:List UInt32) (V:Value) (w:World) (hV:Sl (hp w) aa l V) (hb:l.length≤1000000) :
  Calls prog 57 #[V] w (fun e w'=>∃ V',e=.returned V'∧Ext w w'∧dY w w' 23 aa (l) V'):=by
 have hV':Sl (Bg.of w).blk aa l V:=hV
 refine En f57 rfl rfl (zR9 ?_)
 refine zz0 (uc rfl (by assumption) am) (zR2 ?_)
 refine ab rfl ?_ ?_<;>intro h1
 ·refine zR7 ?_
  exact aM results57 rfl fun w' hw=>⟨_,rfl,hw.b0,cH (hV.isNil h1)⟩
 refine nz (sS aa am ar rfl (fun V2=>zz0 (af rfl) ?_))
 refine B8 rfl rfl (by repeat constructor) (fun w hw=>hw.slF (by assumption)) am cp (fun V3=>?_)
 refine zR4 ?_
 exact aM results57 rfl fun w' hw=>⟨_,rfl,hw.b0,hw.new (.head _)⟩
theorem BJ (l:List Ins) (V:Value) (w:World) (hV:Sl (hp w) al l V) (hb:l.length≤1000000) :
  Calls prog 77 #[V] w (fun e w'=>∃ V',e=.returned V'∧Ext w w'∧dY w w' 36 al (l) V'):=by
 have hV':Sl (Bg.of w).blk al l V:=hV
 refine En f77 rfl rfl (zR9 ?_)
 refine zz0 (uc rfl (by assumption) aR) (zR2 ?_)
 refine ab rfl ?_ ?_<;>intro h1
 ·refine zR7 ?_
  exact aM results77 rfl fun w' hw=>⟨_,rfl,hw.b0,cH (hV.isNil h1)⟩
 refine nz (sS al aR bV rfl (fun V2=>zz0 (af rfl) ?_))
 refine B8 rfl rfl (by repeat constructor) (fun w hw=>hw.slF (by assumption)) aR fY (fun V3=>?_)
 refine zR4 ?_
 exact aM results77 rfl fun w' hw=>⟨_,rfl,hw.b0,hw.new (.head _)⟩
theorem td (l:List Ins) (V:Value) (g:FuncId) (cb:List Value) (w:World) (hV:Sl (hp w) al l V) (eg:∀ args w,(callFunc g args).run prog w=.ok (.enter g args) w) (p:Ins→Bool) (hp:∀ x,x∈l→∀ w',Ext w w'→Calls prog g ([Value.agg (al.enc x).toArray] ++ cb).toArray w' fun e w''=>e=.returned (.bool (p x))∧Ext w' w'') :
  Cr prog 152 #[V,.func (.func g) #[] cb.toArray] w (.int .i64 (dA p 0 l)):=by
 have hV':Sl (Bg.of w).blk al l V:=hV
 have hlen:=hV.len_le
 refine En f152 rfl rfl (jk ?_)
 refine cP (.of (ι:=Nat) (fun k=>k≤l.length∧dA p k (l.drop k)=dA p 0 l) (fun _=>_) (fun k=>[]) (fun k=>[(8,.int .i64 (k:Nat))]) (fun k=>l.length - k)) 0 ⟨Nat.zero_le _,rfl⟩ (Front.c Front.nil) (fun k hi m hm=>?_)
 obtain ⟨hk1,hk2⟩:=hi
 refine zR6 ?_
 refine ab rfl ?_ ?_<;>intro h1
 ·refine ug ?_
  refine zz0 (i6 rfl rfl eg (fun w hw=>hp _ (ba (by omega)) w (hw.b0))) (zR2 ?_)
  refine ab rfl ?_ ?_<;>intro h2
  ·refine df ?_
   exact aD (e:=by rw [← hk2,drop_cons (k:=k) (by omega),dA,if_pos (by assumption)])
  refine zR8 ?_
  refine aP (k+1) (o:=⟨by omega,by rw [← hk2,drop_cons (k:=k) (by omega),dA,if_neg (by simp_all)]⟩)
 refine cj ?_
 exact aD (e:=by rw [← hk2,List.drop_of_length_le (by omega)]; rfl)
theorem qe (l:List Ins) (V:Value) (g:FuncId) (cb:List Value) (w:World) (hV:Sl (hp w) al l V) (eg:∀ args w,(callFunc g args).run prog w=.ok (.enter g args) w) (p:Ins→Bool) (hp:∀ x,x∈l→∀ w',Ext w w'→Calls prog g ([Value.agg (al.enc x).toArray] ++ cb).toArray w' fun e w''=>e=.returned (.bool (p x))∧Ext w' w'') :
  Cr prog 86 #[V,.func (.func g) #[] cb.toArray] w (.bool (l.any p)):=by
 have hV':Sl (Bg.of w).blk al l V:=hV
 refine En f86 rfl rfl (zR9 ?_)
 refine zz0 (aK rfl (fun w hw=>td l V g cb w (hw.slF hV') eg p (fun x hx w'' h=>hp x hx w'' ((hw.b0).trans h)))) (zR5 ?_)
 exact aD (e:=by rw [uQ])
theorem jC (a b:List UInt32) (V W:Value) (w:World) (hV:Sl (hp w) aa a V) (hW:Sl (hp w) aa b W) :
  Cr prog 22 #[V,W] w (.bool (decide (a=b))):=by
 have hV':Sl (Bg.of w).blk aa a V:=hV
 have hW':Sl (Bg.of w).blk aa b W:=hW
 have hl1:=hV.len_le
 have hl2:=hW.len_le
 refine En f22 rfl rfl (mN ?_)
 refine ab rfl ?_ ?_<;>intro h1
 ·refine zR7 ?_
  exact aD (e:=by rw [decide_eq_false (fun e=>by subst e; omega)])
 refine zR9 ?_
 refine cP (.of (ι:=Nat) (fun k=>k≤a.length∧a.take k=b.take k) (fun _=>_) (fun k=>[]) (fun k=>[(5,.int .i64 (k:Nat))]) (fun k=>a.length - k)) 0 ⟨by omega,rfl⟩ (Front.c Front.nil) (fun k hi m hm=>?_)
 obtain ⟨hk1,hk3⟩:=hi
 refine zR9 ?_
 refine ab rfl ?_ ?_<;>intro h2
 ·refine zR5 ?_
  refine eU ah (vp ?_)
  refine ab rfl ?_ ?_<;>intro h3
  ·refine cj ?_
   exact aD (e:=by rw [decide_eq_false (fun e=>by subst e; simp_all)])
  refine zR9 ?_
  refine aP (k+1) (o:=⟨by omega,by rw [bN (by omega),bN (by omega),hk3]; congr 2⟩)
 refine cj ?_
 exact aD (e:=by rw [decide_eq_true (show a=b by rw [← List.take_of_length_le (show a.length≤k by omega),hk3,List.take_of_length_le (by omega)])])
theorem Bv (l:List UInt32) (V:Value) (a:UInt32) (w:World) (hV:Sl (hp w) aa l V) :
  Cr prog 32 #[V,.int .u32 a.toNat] w (.bool (Ay l a)):=by
 have hV':Sl (Bg.of w).blk aa l V:=hV
 have hlen:=hV.len_le
 refine En f32 rfl rfl (df ?_)
 refine cP (.of (ι:=Nat) (fun k=>k≤l.length∧(l.take k).any (fun x=>decide (a=x))=false) (fun _=>_) (fun k=>[]) (fun k=>[(5,.int .i64 (k:Nat))]) (fun k=>l.length - k)) 0 ⟨Nat.zero_le _,rfl⟩ (Front.c Front.nil) (fun k hi m hm=>?_)
 obtain ⟨hk1,hk2⟩:=hi
 refine zR9 ?_
 refine ab rfl ?_ ?_<;>intro h1
 ·refine jk ?_
  refine ab rfl ?_ ?_<;>intro h2
  ·refine cj ?_
   exact aD (e:=by rw [Ay,List.any_eq_true.2 ⟨_,ba (k:=k) (by omega),by simp_all⟩])
  refine zR9 ?_
  refine aP (k+1) (o:=⟨by omega,by rw [any_take_succ (by omega),hk2,Bool.false_or]; exact decide_eq_false (fun e=>by simp_all)⟩)
 refine cj ?_
 exact aD (e:=by rw [Ay,← hk2,List.take_of_length_le (by omega)])
theorem jo (l:List UInt32) (V:Value) (n:UInt32) (w:World) (hV:Sl (hp w) aa l V) (hn:l.length≤1000000) :
  Calls prog 174 #[V,.int .u32 n.toNat] w (fun e w'=>∃ V',e=.returned V'∧Ext w w'∧((V'=V∧kC ltU l n=l)∨dY w w' 23 aa (kC ltU l n) V')):=by
 have hV':Sl (Bg.of w).blk aa l V:=hV
 refine En f174 rfl rfl (df ?_)
 refine cP (.of (ι:=Nat) (fun k=>k≤l.length∧∀ j,j<k→ltU (l.getD j default) n=true) (fun _=>_) (fun k=>[]) (fun k=>[(5,.int .i64 (k:Nat))]) (fun k=>l.length - k)) 0 ⟨Nat.zero_le _,fun j q=>by omega⟩ (Front.c Front.nil) (fun k hi m hm=>?_)
 obtain ⟨hk1,hk2⟩:=hi
 refine zR8 ?_
 apply dV 7 11 18 (fun hT1 hT1'=>?_) ?_; rotate_right
 ·refine zR3 ?_
  refine zz5 hT1 (re rfl) ?_
  exact zE
 refine zR2 ?_
 refine ab rfl ?_ ?_<;>intro h2
 ·refine bR ?_
  have hlt:ltU (l.getD k default) n=true:=by simp only [ltU,Bool.or_eq_true,Bool.and_eq_true,decide_eq_true_eq]; exact h2.2
  apply dn (k+1)
  ·exact rfl
  ·exact (Front.c Front.nil)
  ·exact zz9 10 rfl
  ·exact (by repeat' constructor)
  ·exact ⟨by omega,fun j q=>by
    by_cases c:j=k
    ·subst c; exact hlt
    ·exact hk2 j (by omega)⟩
  exact (by (try dsimp only); omega)
 refine zR7 ?_
 have hid:lM (fun y=>ltU y n) l=k:=C0 hk1 hk2 (by
   rcases Nat.lt_or_ge k l.length with c|c
   ·refine .inr ?_
    cases d:ltU (l.getD k default) n
    ·rfl
    ·exfalso
     rcases h2 with q|q
     ·omega
     ·simp only [ltU,Bool.or_eq_true,Bool.and_eq_true,decide_eq_true_eq,UInt32.lt_iff_toNat_lt,UInt32.le_iff_toNat_le,← UInt32.toNat_inj] at d q; omega
   ·exact .inl (by omega))
 have hs1:Sl (Bg.of w).blk aa (l.take k) (HL.Q4 V 0 k aa.k):=by
  have q:=Sl.resl hV' (l:=0) (h:=k) (by omega) (by omega)
  rw [List.drop_zero] at q; exact q
 have hs2:Sl (Bg.of w).blk aa (l.drop k) (HL.Q4 V k l.length aa.k):=by
  have q:=Sl.resl hV' (l:=k) (h:=l.length) (by omega) (by omega)
  rw [List.take_length] at q; exact q
 have hdl:(l.drop k).length=l.length - k:=List.length_drop
 refine zR6 ?_
 apply dV 7 25 32 (fun hT3 hT3'=>?_) ?_; rotate_right
 ·refine zR3 ?_
  refine zz5 hT3 (re rfl) (zz5 hT3 (af rfl) ?_)
  refine zz5 hT3 (dq rfl rfl) ?_
  exact zE
 refine zR2 ?_
 refine ab rfl ?_ ?_<;>intro h4
 ·refine zR8 ?_
  exact aM results174 rfl fun w' hw=>⟨_,rfl,hw.b0,.inl ⟨rfl,by rw [kC,hid,if_pos ⟨by omega,h4.2⟩]⟩⟩
 refine nz (sS aa am ar rfl (fun V5=>zR2 ?_))
 refine zz0 (rr (lv:=none) (hv:=some (_,_)) rfl rfl rfl am ar) ?_
 refine ji (ys:=l.take k) rfl rfl (by repeat constructor) (fun w hw=>hw.slF hs1) am cp (by rfl) (by rfl) (by (try simp only [List.length_cons,List.length_nil,List.length_append,List.length_take,List.length_drop]); omega) (by unfold maxLen; (try simp only [List.length_cons,List.length_nil,List.length_append,List.length_take,List.length_drop]); omega) rfl (fun V71=>zR7 ?_)
 refine fM (E:=aa) n rfl rfl am ar bj (fun V6=>?_)
 refine zz3 rfl rfl am cp (fun V7=>?_)
 refine zR8 ?_
 refine zz0 (rr (lv:=some (_,_)) (hv:=none) rfl rfl rfl am ar) ?_
 refine ji (ys:=l.drop k) rfl rfl (by repeat constructor) (fun w hw=>hw.slF hs2) am cp (by rfl) (by rfl) (by (try simp only [List.length_cons,List.length_nil,List.length_append,List.length_take,List.length_drop]); omega) (by unfold maxLen; (try simp only [List.length_cons,List.length_nil,List.length_append,List.length_take,List.length_drop]); omega) rfl (fun V73=>zR4 ?_)
 refine aM results174 rfl (fun w' hw=>?_)
 have hres:([] ++ l.take k) ++ [n] ++ l.drop k=kC ltU l n:=by
  rw [kC,hid,if_neg (by rintro ⟨q1,q2⟩; rcases h4 with q|q; (· omega); (· exact q q2)),List.nil_append]
 rw [hres] at hw
 exact ⟨_,rfl,hw.b0,.inr (hw.new (.head _))⟩
theorem D4 (i:Ins) (w:World) (hI:InsOK i) :
  Calls prog 224 #[.agg (al.enc i).toArray] w (fun e w'=>∃ V',e=.returned V'∧Ext w w'∧dY w w' 23 aa (bW i) V'):=by
 refine En f224 rfl rfl (zR2 ?_)
 refine bJ rfl rfl (fun b1=>zR7 ?_)
 refine zz0 (aK rfl (fun w hw=>l5 i w hI)) (zR3 ?_)
 refine ab rfl ?_ ?_<;>intro h2
 ·refine bB (ay 23 aa (zR6 ?_))
  exact aM results224 rfl fun w' hw=>⟨_,rfl,hw.b0,by rw [show bW i=[] by unfold bW; rw [if_neg (by simp_all)]]; exact hw.new (.head _)⟩
 refine zR3 ?_
 refine ay 23 aa (zR4 ?_)
 refine dZ (.of (ι:=Value) (fun V1=>True) (fun _=>Bg.of w) (fun V1=>[rowE V1 23 aa (if (bG i).2=true then [(bG i).1] else []),cellE b1 (al.enc i) 36]) (fun V1=>[(3,V1)])) ?_ (fun V1 hi=>?_)
 ·skip
  refine zR3 ?_
  refine zz0 (ak rfl (tt i)) (df ?_)
  refine ab rfl ?_ ?_<;>intro h3
  ·refine zR3 ?_
   refine fM (E:=aa) (bG i).1 rfl rfl am ar bj (fun V4=>?_)
   refine zz3 rfl rfl am cp (fun V5=>?_)
   refine zR3 ?_
   refine dQ (l':=if (bG i).2=true then [(bG i).1] else []) (by rw [if_pos (by assumption)]; rfl) ?_
   refine aT _ (o:=trivial)
  refine j8 (dQ (l':=if (bG i).2=true then [(bG i).1] else []) (by rw [if_neg (by simp_all)]) ?_)
  refine aT _ (o:=trivial)
 skip
 have htl:(if (bG i).2=true then [(bG i).1] else []).length≤1:=by split<;>simp
 refine dZ (.of (ι:=Value) (fun V2=>True) (fun _=>Bg.of w) (fun V2=>[rowE V2 23 aa ((if (bG i).2=true then [(bG i).1] else []) ++ (if jf i=true then [] else [jT i])),cellE b1 (al.enc i) 36]) (fun V2=>[(3,V2)])) ?_ (fun V2 hi=>?_)
 ·skip
  refine zR3 ?_
  refine zz0 (ak rfl (Fz i)) (zR3 ?_)
  refine ab rfl ?_ ?_<;>intro h6
  ·refine zR3 ?_
   refine zz0 (aK rfl (fun w hw=>EL i w hI)) ?_
   refine fM (E:=aa) (jT i) rfl rfl am ar bj (fun V7=>?_)
   refine zz3 rfl rfl am cp (fun V8=>?_)
   refine zR3 ?_
   refine dQ (l':=(if (bG i).2=true then [(bG i).1] else []) ++ (if jf i=true then [] else [jT i])) (by rw [if_neg (c:=jf i=true) (by simp_all)]) ?_
   refine aT _ (o:=trivial)
  refine j8 (dQ (l':=(if (bG i).2=true then [(bG i).1] else []) ++ (if jf i=true then [] else [jT i])) (by rw [if_pos (c:=jf i=true) (by simp_all),List.append_nil]) ?_)
  refine aT _ (o:=trivial)
 skip
 refine zR7 ?_
 exact aM results224 rfl fun w' hw=>⟨_,rfl,hw.b0,by rw [show bW i=_ by unfold bW; rw [if_pos (by simp_all)]]; exact hw.new (.head _)⟩
theorem FX (i:Ins) (a:UInt32) (b:Nat) (w:World) (hc:Cell (hp w) b 0 (.int .u32 a.toNat)) :
  Cr prog 165 #[.agg (al.enc i).toArray,.pointer (some ⟨b,0,none⟩)] w (.bool (decide (i.addr=a))):=by
 have hc':Cell (Bg.of w).blk b 0 (.int .u32 a.toNat):=hc
 refine En f165 rfl rfl (zR2 ?_)
 refine bJ rfl rfl (fun b1=>zR7 ?_)
 refine zz0 (qm rfl (by assumption) co) (zR5 ?_)
 exact aD (e:=rfl)
theorem HV (l:List Ins) (st:List StV) (a:UInt32) (V VS:Value) (w:World) (hV:Sl (hp w) al l V) (hS:Sl (hp w) bY st VS) :
  Cr prog 109 #[V,VS,.int .u32 a.toNat] w (.tuple #[.agg (bY.enc (eR l st a).1).toArray,.bool (eR l st a).2]):=by
 have hV':Sl (Bg.of w).blk al l V:=hV
 have hS':Sl (Bg.of w).blk bY st VS:=hS
 have hlS:=hS'.len_le
 have hix:=jY (fun i:Ins=>decide (i.addr=a)) l 0
 refine En f109 rfl rfl (zR2 ?_)
 refine bJ rfl rfl (fun b1=>?_)
 refine bH cm rfl (fun b2=>zR6 ?_)
 refine zz0 (fB rfl rfl) ?_
 refine zz0 (aK rfl (fun w hw=>td l V _ _ w (hw.slF hV') call165 (fun i=>decide (i.addr=a)) (fun x hx w'' h=>FX x a _ w'' (cellE.cell (hw.ent _ (by repeat constructor)) h rfl)))) (zR9 ?_)
 refine cZ 5 14 19 (h2:=zR2 ?_)
 refine ab rfl ?_ ?_<;>intro h4
 ·refine dx (zz0 (aI (vs:=[]) rfl rfl (xg)) (zR6 ?_))
  refine fL (e:=?_)
  unfold eR
  (repeat' split)<;>first|(exfalso; first|(simp_all; done)|grind)|rfl
 refine gB ?_
 refine fL (e:=?_)
 unfold eR
 (repeat' split)<;>first|(exfalso; first|(simp_all; done)|grind)|rfl
theorem BQ (l:List Ins) (st:List StV) (gd:List Int) (bx bm:Nat) (VI VEd VG VB VV VM:Value) (k:Nat) (ee:Int × Bool) (w:World) (hx:CellsIn (hp w) bx [VI,.map (some bm),VEd,VG,VB,VV,VM]) (hI:Sl (hp w) al l VI) (hG:Sl (hp w) aU gd VG) (hB:Sl (hp w) bY st VB) (hIO:∀ x∈l,InsOK x) (hgl:gd.length=l.length) (hsl:st.length=l.length) (hgd:∀ j,j<gd.length→gd.getD j default<(l.length:Int)) (hk:k<l.length) :
  Cr prog 226 #[.pointer (some ⟨bx,0,none⟩),.int .i64 (k:Nat),.agg (fh.enc ee).toArray] w (.agg (bY.enc (kF l st gd k ee)).toArray):=by
 have hx':CellsIn (Bg.of w).blk bx [VI,.map (some bm),VEd,VG,VB,VV,VM]:=hx
 have hI':Sl (Bg.of w).blk al l VI:=hI
 have hG':Sl (Bg.of w).blk aU gd VG:=hG
 have hB':Sl (Bg.of w).blk bY st VB:=hB
 have hlI:=hI'.len_le
 have hgk:=hgd k (by omega)
 have hio:=hIO _ (ba hk)
 refine En f226 rfl rfl (zR2 ?_)
 refine bJ rfl rfl (fun b1=>?_)
 refine bH cm rfl (fun b2=>zR2 ?_)
 refine gX (ι:=Nat × Nat) (fun ⟨p,q⟩=>True) (fun _=>Bg.of w) (fun ⟨p,q⟩=>[cellE q (bY.enc (st.getD k default)) 37,cellE p (al.enc (l.getD k default)) 36,cellE b2 (bY.enc gx) 37,cellE b1 (fh.enc ee) 274]) (fun ⟨p,q⟩=>[(8,.pointer (some ⟨q,0,none⟩)),(7,.pointer (some ⟨p,0,none⟩))]) ?_ (fun i hi=>?_)
 ·skip
  refine bC ([cellE b2 (bY.enc gx) 37,cellE b1 (fh.enc ee) 274]) 18 rfl ah ?_
  refine zK [0,1,2] ?_
  refine zz4 3 rfl (nL rfl isAgg50) ?_
  refine zK [4,5,6,7,8,9] ?_
  refine zz4 10 rfl (nL rfl m4) ?_
  refine zK [11,12,13] ?_
  refine m8 [14,15] (fun iq hq=>?_)
  rcases List.mem_cons.1 hq with rfl|hq
  ·skip
   refine cU rfl ?_
   refine bH aF rfl (fun b3=>?_)
   refine aC ?_
   refine au 15 rfl ?_
   refine bH cm rfl (fun b4=>?_)
   refine aC ?_
   refine au 16 rfl (cK al rfl rfl bV ?_)
   refine aC ?_
   refine au 17 rfl (cK bY rfl rfl gj ?_)
   refine aC ?_
   refine fg (aS ?_)
   refine aT (_,_) (o:=trivial)
  obtain rfl:=List.mem_singleton.1 hq
  refine cU rfl ?_
  refine bH cm rfl (fun b5=>?_)
  refine aC ?_
  refine au 14 rfl ?_
  refine bH aF rfl (fun b6=>?_)
  refine aC ?_
  refine au 16 rfl (cK al rfl rfl bV ?_)
  refine aC ?_
  refine au 17 rfl (cK bY rfl rfl gj ?_)
  refine aC ?_
  refine fg (aS ?_)
  refine aT (_,_) (o:=trivial)
 obtain ⟨p,q⟩:=i
 replace hi:True:=hi
 change Tr _ _ [cellE q (bY.enc (st.getD k default)) 37,cellE p (al.enc (l.getD k default)) 36,cellE b2 (bY.enc gx) 37,cellE b1 (fh.enc ee) 274] ([(8,.pointer (some ⟨q,0,none⟩)),(7,.pointer (some ⟨p,0,none⟩))] ++ _) _
 refine zR8 ?_
 refine cZ 4 27 31 (h2:=zR3 ?_)
 refine ab rfl ?_ ?_<;>intro h8
 ·refine dx (zz0 (ak rfl rx) (zR6 ?_))
  refine aL (e:=?_)
  unfold kF
  (repeat' split)<;>first|(exfalso; first|(simp_all; done)|grind)|rfl
 refine zR6 ?_
 apply dV 9 37 46 (fun hT9 hT9'=>?_) ?_; rotate_right
 ·refine zz5 hT9 (af rfl) (zz5 hT9 (ke rfl) (zz5 hT9 (bE rfl) ?_))
  refine zz5 hT9 (nL rfl o5) (zR2 ?_)
  refine zz5 hT9 (re rfl) ?_
  exact zE
 refine zR3 ?_
 refine ab rfl ?_ ?_<;>intro h10
 ·refine bB (dO 0 19 ah ?_)
  refine ax (zT5 ?_)
  refine aw (nL rfl isAgg50) (zT3 ?_)
  refine aw (nL rfl o5) (zT8 ?_)
  refine aw (aK rfl (fun w hw=>G8 (l.getD k default).cc (l.getD (gd.getD k default).toNat default) (st.getD k default) ee.2 w (hIO _ (ba (by omega))))) (zT7 ?_)
  refine aL (e:=?_)
  unfold kF
  (repeat' split)<;>first|(exfalso; first|(simp_all; done)|grind)|rfl
 refine zR7 ?_
 refine zz0 (aK rfl (fun w hw=>Cd (l.getD k default) (st.getD k default) w hio)) (zR4 ?_)
 refine aL (e:=?_)
 unfold kF
 (repeat' split)<;>first|(exfalso; first|(simp_all; done)|grind)|rfl
end Go.Proofs.YtiajjbhcpeadfaaGreat
