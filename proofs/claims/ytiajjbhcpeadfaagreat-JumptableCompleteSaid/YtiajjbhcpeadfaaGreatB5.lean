/- Own rules and walks, part 5. -/
import Derived.Test.YtiajjbhcpeadfaaGreatB4
set_option linter.unusedSimpArgs false
set_option linter.unusedVariables false
set_option linter.unusedSectionVars false
set_option maxRecDepth 100000
set_option maxHeartbeats 16000000
attribute [local irreducible] Go.wpList Go.Code.wp Go.HL.QS Go.HL.Tr Go.HL.TrQ Go.wpQuiet
namespace Go.Proofs.YtiajjbhcpeadfaaGreat
open Go Go.HL Go.RowKit
def dN (cmp:Ins→Ins→Int) (x y:Ins):Bool:=decide (cmp x y<0)
def Do (cmp:Ins→Ins→Int) (V:Value) (l:List Ins) (a b:Nat) (w:World):Ending→World→Prop:=fun e w'=>e=.returned (.tuple #[])∧∃ l',(Stab (dN cmp) l l'∧Fram a b l l'∧Srt (dN cmp) l' a b)∧Mut w w' V∧(rowE V 36 am l').holds w'
def Ic (g:FuncId) (cb:List Value) (cmp:Ins→Ins→Int) (I:World→Prop) (V:Value) (n:Nat):Prop:=∀ (l:List Ins) (a md b:Nat) (ai mdi bi:Int) (w:World),ai=((a:Nat):Int)→mdi=((md:Nat):Int)→bi=((b:Nat):Int)→b - a≤n→a<md→md<b→b≤l.length→l.length≤1000000→Srt (dN cmp) l a md→Srt (dN cmp) l md b→I w→(rowE V 36 am l).holds w→Calls Tryz.prog 200 #[V,.int .i64 ai,.int .i64 mdi,.int .i64 bi,.func (.func g) #[] cb.toArray] w (Do cmp V l a b w)
theorem td (l:List Ins) (V:Value) (a:Nat) (b:Nat) (ai:Int) (bi:Int) (ea:ai=((a:Nat):Int)) (eb:bi=((b:Nat):Int)) (g:FuncId) (cb:List Value) (cmp:Ins→Ins→Int) (I:World→Prop) (hI:∀ w w' l',I w→Mut w w' V→(rowE V 36 am l').holds w'→I w') (eg:∀ args w,(callFunc g args).run Tryz.prog w=.ok (.enter g args) w) (hc:∀ x y w',I w'→Calls Tryz.prog g ([Value.agg (am.enc x).toArray,Value.agg (am.enc y).toArray] ++ cb).toArray w' fun e w''=>e=.returned (.int .i64 (cmp x y))∧Ext w' w'') (hO:WO (dN cmp)) (w:World) (hIw:I w) (hr:(rowE V 36 am l).holds w) (hl:l.length≤1000000) (hab:a≤b) (hb:b≤l.length) :
  Calls Tryz.prog 199 #[V,.int .i64 ai,.int .i64 bi,.func (.func g) #[] cb.toArray] w (Do cmp V l a b w):=by
 subst ea eb
 refine fy (l:=l) (E:=am) (T:=36) hr Tryz.func199 rfl Tryz.ntmps199 rfl (zR3 ?_)
 refine zz0 (aZ rfl rfl) (zR4 ?_)
 refine dO (ι:=Nat × List Ins) (fun ⟨i,cur⟩=>a+1≤i∧(i≤b∨i=a+1)∧Stab (dN cmp) l cur∧Fram a b l cur∧Srt (dN cmp) cur a i) (fun _=>_) (fun ⟨i,cur⟩=>[rowE V 36 am cur]) (fun ⟨i,cur⟩=>[(8,.int .i64 (i:Nat))]) (fun ⟨i,cur⟩=>b - i) (a+1,l) ⟨Nat.le_refl _,.inr rfl,.refl _ _,.refl _ _ _,.one (Nat.le_refl _)⟩ (Front.c Front.nil) (fun i hi m hm=>?_)
 obtain ⟨i,cur⟩:=i
 dsimp only at hi hm
 change Tr _ _ [rowE V 36 am cur] ([(8,.int .i64 (i:Nat))] ++ _) _
 obtain ⟨hi1,hi2,hi3,hi4,hi5⟩:=hi
 have hcl:cur.length=l.length:=hi4.1
 refine zR8 ?_
 refine af rfl (fun h1=>?_) (fun h1=>?_)
 ·refine dy ?_
  have e0:mp (cU i i (i+1)) cur=cur:=t6 (.inl rfl) (Nat.le_refl _) (by omega)
  refine fD e0.symm ?_
  refine ed (.of (ι:=Nat) (fun j=>a≤j∧j≤i∧∀ q,j≤q→q<i→dN cmp (cur.getD i default) (cur.getD q default)=true) (fun _=>_) (fun j=>[rowE V 36 am (mp (cU j i (i+1)) cur)]) (fun j=>[(9,.int .i64 (j:Nat))]) (fun j=>j)) i ⟨by omega,Nat.le_refl _,fun q x y=>by omega⟩ (Front.c Front.nil) (fun j hi m hm=>?_)
  obtain ⟨hj1,hj2,hj3⟩:=hi
  have hml:(mp (cU j i (i+1)) cur).length=l.length:=by rw [iE]; exact hcl
  have ej:((j:Int) - 1).toNat=j - 1:=by omega
  have ev:(mp (cU j i (i+1)) cur).getD j default=cur.getD i default:=by rw [jf (by omega)]; congr 1; have:=fH j i (i+1) j; omega
  have ew:0<j→(mp (cU j i (i+1)) cur).getD (j - 1) default=cur.getD (j - 1) default:=fun q=>by rw [jf (by omega)]; congr 1; have:=fH j i (i+1) (j - 1); omega
  refine bE (bE (ip ak (zT2 ?_)))
  refine aB (rD rfl rfl) (aB (ae rfl) ?_)
  apply eW
  ·exact (rfl:_=(13,21,34))
  ·exact rfl
  ·intro hT2; have hT2':=hT2
   try simp only [bs] at hT2'
   refine zT4 ?_
   refine eI hT2 (zC rfl) (zT2 ?_)
   refine eI hT2 (dB rfl rfl) (eI hT2 (kT rfl rfl) ?_)
   refine eI hT2 (zC rfl) ?_
   refine eI hT2 (iS rfl rfl eg (fun w hw=>hc _ _ w (hI _ _ _ hIw (HpOK.mutOwn hw (.head _) rfl).1 (HpOK.mutOwn hw (.head _) rfl).2))) ?_
   refine eI hT2 (sy rfl rfl) (aB (eY rfl hT2 rfl) ?_)
   exact cg (Sub.cons rfl (zz8 13 rfl))
  ·intro hF2
   refine PS ?_
   exact cg (Sub.cons rfl (zz8 13 rfl))
  refine zT2 ?_
  refine af rfl (fun h3=>?_) (fun h3=>?_)
  ·refine zR4 ?_
   refine fE 5 15 ak ?_
   refine dJ rfl ?_
   refine dJ rfl ?_
   refine dJ rfl ?_
   refine dJ rfl ?_
   refine gz (fun _=>dB rfl rfl) (by rfl) rfl ?_
   refine aG (zT2 ?_)
   refine aB (dB rfl rfl) (zT8 ?_)
   refine gg (l:=(mp (cU j i (i+1)) cur)) (i:=j) ((mp (cU j i (i+1)) cur).getD (((j:Int) - 1).toNat) default) rfl rfl aw ?_
   have hls4:(List.set (mp (cU j i (i+1)) cur) (j) ((mp (cU j i (i+1)) cur).getD (((j:Int) - 1).toNat) default)).length=((mp (cU j i (i+1)) cur)).length:=List.length_set
   refine zz0 (kT rfl rfl) (gg (l:=((mp (cU j i (i+1)) cur).set (j) ((mp (cU j i (i+1)) cur).getD (((j:Int) - 1).toNat) default))) (i:=((j:Int) - 1).toNat) ((mp (cU j i (i+1)) cur).getD (j) default) rfl rfl aw ?_)
   have hls5:(List.set ((mp (cU j i (i+1)) cur).set (j) ((mp (cU j i (i+1)) cur).getD (((j:Int) - 1).toNat) default)) (((j:Int) - 1).toNat) ((mp (cU j i (i+1)) cur).getD (j) default)).length=(((mp (cU j i (i+1)) cur).set (j) ((mp (cU j i (i+1)) cur).getD (((j:Int) - 1).toNat) default))).length:=List.length_set
   refine zR5 ?_
   refine zz0 (dB rfl rfl) (zR3 ?_)
   have hsw:=Hy (l:=(mp (cU j i (i+1)) cur)) (p:=j) (q:=j - 1) (by omega) (by omega)
   rw [DF (by omega) hj2 (by omega)] at hsw
   have hlt:dN cmp (cur.getD i default) (cur.getD (j - 1) default)=true:=by
    rw [← ev,← ew (by omega),← ej]
    simpa [dN] using h3.2
   have hj3':∀ q,j - 1≤q→q<i→dN cmp (cur.getD i default) (cur.getD q default)=true:=fun q x y=>by
    by_cases c:q=j - 1
    ·rw [c]; exact hlt
    ·exact hj3 q (by omega) y
   rw [ej,hsw]
   refine bC (j - 1) (Front.c Front.nil) (zz9 25 rfl) (o:=⟨by omega,by omega,hj3'⟩)
  refine zR8 ?_
  refine zz0 (aZ rfl rfl) (zR3 ?_)
  have hB:j=a∨dN cmp (cur.getD i default) (cur.getD (j - 1) default)=false:=by
   rcases h3 with h3|h3
   ·exact .inl (by omega)
   ·by_cases q:j=a
    ·exact .inl q
    ·refine .inr ?_
     rw [← ev,← ew (by omega),← ej]
     simpa [dN] using h3
  have hin:=Hk hO hi5 (by omega) hj1 hj2 hj3 hB
  have hfr:Fram a b l (mp (cU j i (i+1)) cur):=hi4.trans (Fram.rot hj1 (by omega) hj2 (by omega))
  refine bC (i+1,_) (Front.c Front.nil) (zz9 15 rfl) (o:=⟨by omega,by omega,hi3.trans hin.1,hfr,hin.2⟩)
 refine zR4 ?_
 exact dH Tryz.results199 fun w' hw=>⟨rfl,_,⟨hi3,hi4,hi5.sub (Nat.le_refl _) (by omega)⟩,HpOK.mutOwn hw (.head _) rfl⟩
theorem oQ (l:List Ins) (V:Value) (a:Nat) (b:Nat) (n:Nat) (ai:Int) (bi:Int) (ni:Int) (ea:ai=((a:Nat):Int)) (eb:bi=((b:Nat):Int)) (en:ni=((n:Nat):Int)) (cv:Value) (w:World) (hr:(rowE V 36 am l).holds w) (hl:l.length≤1000000) (hab:a+n≤b) (hb:b+n≤l.length) :
  Calls Tryz.prog 296 #[V,.int .i64 ai,.int .i64 bi,.int .i64 ni,cv] w (fun e w'=>e=.returned (.tuple #[])∧Mut w w' V∧(rowE V 36 am (mp (swR a b n) l)).holds w'):=by
 subst ea eb en
 refine fy (l:=l) (E:=am) (T:=36) hr Tryz.func296 rfl Tryz.ntmps296 rfl (zR6 ?_)
 have e0:mp (swR a b 0) l=l:=PV
 refine fD e0.symm ?_
 refine ed (.of (ι:=Nat) (fun i=>i≤n) (fun _=>_) (fun i=>[rowE V 36 am (mp (swR a b i) l)]) (fun i=>[(10,.int .i64 (i:Nat))]) (fun i=>n - i)) 0 (Nat.zero_le _) (Front.c Front.nil) (fun i hi m hm=>?_)
 have hml:(mp (swR a b i) l).length=l.length:=iE _ _
 refine zR8 ?_
 refine af rfl (fun h1=>?_) (fun h1=>?_)
 ·refine zR4 ?_
  refine fE 8 21 ak ?_
  refine dJ rfl ?_
  refine dJ rfl ?_
  refine dJ rfl ?_
  refine gz (fun _=>aZ rfl rfl) (by rfl) rfl ?_
  refine dJ rfl ?_
  refine dJ rfl ?_
  refine dJ rfl ?_
  refine gz (fun _=>aZ rfl rfl) (by rfl) rfl ?_
  refine aG (zT3 ?_)
  refine aB (aZ rfl rfl) (zT5 ?_)
  refine aB (aZ rfl rfl) (zT4 ?_)
  refine gg (l:=(mp (swR a b i) l)) (i:=a+i) ((mp (swR a b i) l).getD (b+i) default) rfl rfl aw ?_
  have hls2:(List.set (mp (swR a b i) l) (a+i) ((mp (swR a b i) l).getD (b+i) default)).length=((mp (swR a b i) l)).length:=List.length_set
  refine zz0 (kU rfl rfl) (gg (l:=((mp (swR a b i) l).set (a+i) ((mp (swR a b i) l).getD (b+i) default))) (i:=b+i) ((mp (swR a b i) l).getD (a+i) default) rfl rfl aw ?_)
  have hls3:(List.set ((mp (swR a b i) l).set (a+i) ((mp (swR a b i) l).getD (b+i) default)) (b+i) ((mp (swR a b i) l).getD (a+i) default)).length=(((mp (swR a b i) l).set (a+i) ((mp (swR a b i) l).getD (b+i) default))).length:=List.length_set
  refine zR5 ?_
  refine zz0 (aZ rfl rfl) (zR3 ?_)
  have hsw:=Hy (l:=(mp (swR a b i) l)) (p:=a+i) (q:=b+i) (by omega) (by omega)
  rw [Kg hab hb (by omega)] at hsw
  rw [hsw]
  refine bC (i+1) (Front.c Front.nil) (zz9 29 rfl) (o:=(by show i+1≤n; omega))
 refine zR4 ?_
 refine dH Tryz.results296 (fun w' hw=>?_)
 obtain rfl:i=n:=by omega
 exact ⟨rfl,HpOK.mutOwn hw (.head _) rfl⟩
theorem FM (l:List Ins) (V:Value) (a:Nat) (md:Nat) (b:Nat) (ai:Int) (mdi:Int) (bi:Int) (ea:ai=((a:Nat):Int)) (emd:mdi=((md:Nat):Int)) (eb:bi=((b:Nat):Int)) (cv:Value) (w:World) (hr:(rowE V 36 am l).holds w) (hl:l.length≤1000000) (ham:a<md) (hmb:md<b) (hb:b≤l.length) :
  Calls Tryz.prog 263 #[V,.int .i64 ai,.int .i64 mdi,.int .i64 bi,cv] w (fun e w'=>e=.returned (.tuple #[])∧Mut w w' V∧(rowE V 36 am (mp (cU a md b) l)).holds w'):=by
 subst ea emd eb
 refine fy (l:=l) (E:=am) (T:=36) hr Tryz.func263 rfl Tryz.ntmps263 rfl (zR4 ?_)
 refine zz0 (dB rfl rfl) (zR7 ?_)
 refine zz0 (dB rfl rfl) (zR5 ?_)
 refine dO (ι:=Nat × Nat × List Ins) (fun ⟨i,j,cur⟩=>0<i∧0<j∧i≤md∧md+j≤l.length∧cur.length=l.length∧mp (cU (md - i) md (md+j)) cur=mp (cU a md b) l) (fun _=>_) (fun ⟨i,j,cur⟩=>[rowE V 36 am cur]) (fun ⟨i,j,cur⟩=>[(10,.int .i64 (i:Nat)),(11,.int .i64 (j:Nat))]) (fun ⟨i,j,cur⟩=>i+j) (md - a,b - md,l) ⟨by omega,by omega,by omega,by omega,rfl,by rw [show md - (md - a)=a by omega,show md+(b - md)=b by omega]⟩ (Front.c (Front.c Front.nil)) (fun i hi m hm=>?_)
 obtain ⟨i,j,cur⟩:=i
 dsimp only at hi hm
 change Tr _ _ [rowE V 36 am cur] ([(10,.int .i64 (i:Nat)),(11,.int .i64 (j:Nat))] ++ _) _
 obtain ⟨hi1,hi2,hi3,hi4,hi5,hi6⟩:=hi
 refine zR8 ?_
 refine af rfl (fun h1=>?_) (fun h1=>?_)
 ·refine df ?_
  refine af rfl (fun h2=>?_) (fun h2=>?_)
  ·refine zR5 ?_
   refine zz0 (dB rfl rfl) (zR3 ?_)
   refine dz rfl Tryz.call296 (by repeat constructor) (fun w hw=>oQ cur V (md - i) md j _ _ _ (by omega) (by omega) (by omega) cv w (hw.ent _ (.head _)) (by omega) (by omega) (by omega)) rfl (zR5 ?_)
   refine zz0 (dB rfl rfl) (zR4 ?_)
   have hn:=(O6 (l:=cur) (m:=md) (i:=i) (j:=j) hi3 (by omega) (by omega)).trans hi6
   refine bC (i - j,j,_) (Front.c (Front.c Front.nil)) (zz9 20 rfl) (o:=⟨by omega,hi2,by omega,hi4,by rw [iE]; exact hi5,hn⟩)
  refine zR5 ?_
  refine zz0 (dB rfl rfl) (zR2 ?_)
  refine zz0 (aZ rfl rfl) (zz0 (ae rfl) ?_)
  refine zz0 (dB rfl rfl) (zR2 ?_)
  refine dz rfl Tryz.call296 (by repeat constructor) (fun w hw=>oQ cur V (md - i) (md+j - i) i _ _ _ (by omega) (by omega) (by omega) cv w (hw.ent _ (.head _)) (by omega) (by omega) (by omega)) rfl (zR5 ?_)
  refine zz0 (dB rfl rfl) (zR4 ?_)
  have hn:=(O5 (l:=cur) (m:=md) (i:=i) (j:=j) hi3 (by omega) (by omega)).trans hi6
  refine bC (i,j - i,_) (Front.c (Front.c Front.nil)) (zz9 24 rfl) (o:=⟨hi1,by omega,hi3,by omega,by rw [iE]; exact hi5,hn⟩)
 refine zR9 ?_
 refine zz0 (dB rfl rfl) (zR3 ?_)
 refine dz rfl Tryz.call296 (by repeat constructor) (fun w hw=>oQ cur V (md - i) md i _ _ _ (by omega) (by omega) (by omega) cv w (hw.ent _ (.head _)) (by omega) (by omega) (by omega)) rfl (fV ?_)
 refine dH Tryz.results263 (fun w' hw=>?_)
 obtain rfl:j=i:=by omega
 rw [O7 hi3,hi6] at hw
 exact ⟨rfl,HpOK.mutOwn hw (.head _) rfl⟩
theorem IA (l:List Ins) (V:Value) (a:Nat) (md:Nat) (b:Nat) (ai:Int) (mdi:Int) (bi:Int) (ea:ai=((a:Nat):Int)) (emd:mdi=((md:Nat):Int)) (eb:bi=((b:Nat):Int)) (g:FuncId) (cb:List Value) (cmp:Ins→Ins→Int) (I:World→Prop) (hI:∀ w w' l',I w→Mut w w' V→(rowE V 36 am l').holds w'→I w') (eg:∀ args w,(callFunc g args).run Tryz.prog w=.ok (.enter g args) w) (hc:∀ x y w',I w'→Calls Tryz.prog g ([Value.agg (am.enc x).toArray,Value.agg (am.enc y).toArray] ++ cb).toArray w' fun e w''=>e=.returned (.int .i64 (cmp x y))∧Ext w' w'') (hO:WO (dN cmp)) (w:World) (hIw:I w) (hr:(rowE V 36 am l).holds w) (hl:l.length≤1000000) (ih:∀ n,n<b - a→Ic g cb cmp I V n) (ham:a<md) (hmb:md<b) (hb:b≤l.length) (h1s:Srt (dN cmp) l a md) (h2s:Srt (dN cmp) l md b) :
  Calls Tryz.prog 200 #[V,.int .i64 ai,.int .i64 mdi,.int .i64 bi,.func (.func g) #[] cb.toArray] w (Do cmp V l a b w):=by
 subst ea emd eb
 refine fy (l:=l) (E:=am) (T:=36) hr Tryz.func200 rfl Tryz.ntmps200 rfl (zR5 ?_)
 refine zz0 (dB rfl rfl) (zR3 ?_)
 refine af rfl (fun h1=>?_) (fun h1=>?_)
 ·refine lN ?_
  refine dO (ι:=Nat × Nat) (fun ⟨i,j⟩=>md≤i∧i≤j∧j≤b∧(∀ q,md≤q→q<i→dN cmp (l.getD q default) (l.getD a default)=true)∧(∀ q,j≤q→q<b→dN cmp (l.getD q default) (l.getD a default)=false)) (fun _=>_) (fun ⟨i,j⟩=>[rowE V 36 am l]) (fun ⟨i,j⟩=>[(10,.int .i64 (i:Nat)),(11,.int .i64 (j:Nat))]) (fun ⟨i,j⟩=>j - i) (md,b) ⟨Nat.le_refl _,by omega,Nat.le_refl _,fun q x y=>by omega,fun q x y=>by omega⟩ (Front.c (Front.c Front.nil)) (fun i hi m hm=>?_)
  obtain ⟨i,j⟩:=i
  dsimp only at hi hm
  change Tr _ _ [rowE V 36 am l] ([(10,.int .i64 (i:Nat)),(11,.int .i64 (j:Nat))] ++ _) _
  obtain ⟨hi1,hi2,hi3,hi4,hi5⟩:=hi
  refine zR8 ?_
  refine af rfl (fun h2=>?_) (fun h2=>?_)
  ·refine zR7 ?_
   refine zz0 (aZ rfl rfl) ?_
   refine zz0 (dQ rfl ax dq (IntWalk.u64_in _ (by omega))) ?_
   refine zz0 (xt rfl rfl (by omega)) ?_
   refine zz0 (dQ rfl dq ax (IntWalk.i64_in _ (by omega))) (zR4 ?_)
   obtain ⟨h,hhh⟩:∃ h,h=(i+j) / 2:=⟨_,rfl⟩
   rw [show (((i:Nat):Int)+((j:Nat):Int)) / 2=((h:Nat):Int) by omega]
   refine ip ak (zT9 ?_)
   refine aB (iS rfl rfl eg (fun w hw=>hc _ _ w (hI _ _ _ hIw (HpOK.mutOwn hw (.head _) rfl).1 (HpOK.mutOwn hw (.head _) rfl).2))) (zT3 ?_)
   refine af rfl (fun h3=>?_) (fun h3=>?_)
   ·refine aP (zz0 (ae rfl) (zz0 (aZ rfl rfl) (zR4 ?_)))
    have hx:dN cmp (l.getD h default) (l.getD a default)=true:=by simp only [dN,decide_eq_true_eq]; assumption
    have hn:∀ q,md≤q→q<h+1→dN cmp (l.getD q default) (l.getD a default)=true:=fun q x y=>hO.le_lt (h2s.le hO x (by omega) (by omega)) hx
    refine bC (h+1,j) (Front.c (Front.c Front.nil)) (zz9 26 rfl) (o:=⟨by omega,by omega,hi3,hn,hi5⟩)
   refine zR6 ?_
   have hx:dN cmp (l.getD h default) (l.getD a default)=false:=by simp only [dN,decide_eq_false_iff_not]; assumption
   have hn:∀ q,h≤q→q<b→dN cmp (l.getD q default) (l.getD a default)=false:=fun q x y=>hO.ntr _ _ _ (h2s.le hO (by omega) x y) hx
   refine bC (i,h) (Front.c (Front.c Front.nil)) (zz9 25 rfl) (o:=⟨hi1,by omega,by omega,hi4,hn⟩)
  refine jz ?_
  have e0:mp (cU a (a+1) (a+1)) l=l:=t6 (.inr rfl) (by omega) (Nat.le_refl _)
  refine fD e0.symm ?_
  refine ed (.of (ι:=Nat) (fun k=>a≤k∧k+1≤i) (fun _=>_) (fun k=>[rowE V 36 am (mp (cU a (a+1) (k+1)) l)]) (fun k=>[(13,.int .i64 (k:Nat))]) (fun k=>i - k)) a ⟨Nat.le_refl _,by omega⟩ (Front.c Front.nil) (fun k hi m hm=>?_)
  obtain ⟨hk1,hk2⟩:=hi
  have hml:(mp (cU a (a+1) (k+1)) l).length=l.length:=iE _ _
  refine zR5 ?_
  refine zz0 (dB rfl rfl) (zR3 ?_)
  refine af rfl (fun h4=>?_) (fun h4=>?_)
  ·refine zR4 ?_
   refine fE 5 15 ak ?_
   refine dJ rfl ?_
   refine dJ rfl ?_
   refine dJ rfl ?_
   refine dJ rfl ?_
   refine gz (fun _=>aZ rfl rfl) (by rfl) rfl ?_
   refine aG (zT2 ?_)
   refine aB (aZ rfl rfl) (zT8 ?_)
   refine gg (l:=(mp (cU a (a+1) (k+1)) l)) (i:=k) ((mp (cU a (a+1) (k+1)) l).getD (k+1) default) rfl rfl aw ?_
   have hls5:(List.set (mp (cU a (a+1) (k+1)) l) (k) ((mp (cU a (a+1) (k+1)) l).getD (k+1) default)).length=((mp (cU a (a+1) (k+1)) l)).length:=List.length_set
   refine zz0 (kT rfl rfl) (gg (l:=((mp (cU a (a+1) (k+1)) l).set (k) ((mp (cU a (a+1) (k+1)) l).getD (k+1) default))) (i:=k+1) ((mp (cU a (a+1) (k+1)) l).getD (k) default) rfl rfl aw ?_)
   have hls6:(List.set ((mp (cU a (a+1) (k+1)) l).set (k) ((mp (cU a (a+1) (k+1)) l).getD (k+1) default)) (k+1) ((mp (cU a (a+1) (k+1)) l).getD (k) default)).length=(((mp (cU a (a+1) (k+1)) l).set (k) ((mp (cU a (a+1) (k+1)) l).getD (k+1) default))).length:=List.length_set
   refine zR5 ?_
   refine zz0 (aZ rfl rfl) (zR3 ?_)
   have hsw:=Hy (l:=(mp (cU a (a+1) (k+1)) l)) (p:=k) (q:=k+1) (by omega) (by omega)
   rw [O4 hk1 (by omega)] at hsw
   rw [hsw]
   refine bC (k+1) (Front.c Front.nil) (zz9 24 rfl) (o:=⟨by omega,by omega⟩)
  refine zR7 ?_
  refine nj mg (fun w' hw=>?_)
  have hin:=Kn hO (l:=l) (a:=a) (i:=i) (b:=b) (by rw [show a+1=md by omega]; exact h2s) hb (by omega) (by omega) (fun q x y=>hi4 q (by omega) y) (fun q x y=>hi5 q (by omega) y)
  obtain rfl:i=k+1:=by omega
  exact ⟨rfl,_,⟨hin.1,Fram.rot (Nat.le_refl _) (by omega) (by omega) (by omega),hin.2⟩,HpOK.mutOwn hw (.head _) rfl⟩
 refine zR7 ?_
 refine zz0 (dB rfl rfl) (zR3 ?_)
 refine af rfl (fun h7=>?_) (fun h7=>?_)
 ·refine lN ?_
  refine dO (ι:=Nat × Nat) (fun ⟨i,j⟩=>a≤i∧i≤j∧j≤md∧(∀ q,a≤q→q<i→dN cmp (l.getD md default) (l.getD q default)=false)∧(∀ q,j≤q→q<md→dN cmp (l.getD md default) (l.getD q default)=true)) (fun _=>_) (fun ⟨i,j⟩=>[rowE V 36 am l]) (fun ⟨i,j⟩=>[(14,.int .i64 (i:Nat)),(15,.int .i64 (j:Nat))]) (fun ⟨i,j⟩=>j - i) (a,md) ⟨Nat.le_refl _,by omega,Nat.le_refl _,fun q x y=>by omega,fun q x y=>by omega⟩ (Front.c (Front.c Front.nil)) (fun i hi m hm=>?_)
  obtain ⟨i,j⟩:=i
  dsimp only at hi hm
  change Tr _ _ [rowE V 36 am l] ([(14,.int .i64 (i:Nat)),(15,.int .i64 (j:Nat))] ++ _) _
  obtain ⟨hi1,hi2,hi3,hi4,hi5⟩:=hi
  refine zR8 ?_
  refine af rfl (fun h8=>?_) (fun h8=>?_)
  ·refine zR7 ?_
   refine zz0 (aZ rfl rfl) ?_
   refine zz0 (dQ rfl ax dq (IntWalk.u64_in _ (by omega))) ?_
   refine zz0 (xt rfl rfl (by omega)) ?_
   refine zz0 (dQ rfl dq ax (IntWalk.i64_in _ (by omega))) (zR4 ?_)
   obtain ⟨h,hhh⟩:∃ h,h=(i+j) / 2:=⟨_,rfl⟩
   rw [show (((i:Nat):Int)+((j:Nat):Int)) / 2=((h:Nat):Int) by omega]
   refine ip ak (zT9 ?_)
   refine aB (iS rfl rfl eg (fun w hw=>hc _ _ w (hI _ _ _ hIw (HpOK.mutOwn hw (.head _) rfl).1 (HpOK.mutOwn hw (.head _) rfl).2))) (zT4 ?_)
   refine af rfl (fun h9=>?_) (fun h9=>?_)
   ·refine aP (zz0 (ae rfl) (zz0 (aZ rfl rfl) (zR4 ?_)))
    have hx:dN cmp (l.getD md default) (l.getD h default)=false:=by simp only [dN,decide_eq_false_iff_not]; assumption
    have hn:∀ q,a≤q→q<h+1→dN cmp (l.getD md default) (l.getD q default)=false:=fun q x y=>hO.ntr _ _ _ hx (h1s.le hO x (by omega) (by omega))
    refine bC (h+1,j) (Front.c (Front.c Front.nil)) (zz9 27 rfl) (o:=⟨by omega,by omega,hi3,hn,hi5⟩)
   refine zR6 ?_
   have hx:dN cmp (l.getD md default) (l.getD h default)=true:=by simp only [dN,decide_eq_true_eq]; assumption
   have hn:∀ q,h≤q→q<md→dN cmp (l.getD md default) (l.getD q default)=true:=fun q x y=>hO.lt_le hx (h1s.le hO (by omega) x y)
   refine bC (i,h) (Front.c (Front.c Front.nil)) (zz9 26 rfl) (o:=⟨hi1,by omega,by omega,hi4,hn⟩)
  refine jz ?_
  have e0:mp (cU md md (md+1)) l=l:=t6 (.inl rfl) (Nat.le_refl _) (by omega)
  refine fD e0.symm ?_
  refine ed (.of (ι:=Nat) (fun k=>i≤k∧k≤md) (fun _=>_) (fun k=>[rowE V 36 am (mp (cU k md (md+1)) l)]) (fun k=>[(17,.int .i64 (k:Nat))]) (fun k=>k)) md ⟨by omega,Nat.le_refl _⟩ (Front.c Front.nil) (fun k hi m hm=>?_)
  obtain ⟨hk1,hk2⟩:=hi
  have hml:(mp (cU k md (md+1)) l).length=l.length:=iE _ _
  have ej:((k:Int) - 1).toNat=k - 1:=by omega
  refine zR8 ?_
  refine af rfl (fun h10=>?_) (fun h10=>?_)
  ·refine zR4 ?_
   refine fE 5 15 ak ?_
   refine dJ rfl ?_
   refine dJ rfl ?_
   refine dJ rfl ?_
   refine dJ rfl ?_
   refine gz (fun _=>dB rfl rfl) (by rfl) rfl ?_
   refine aG (zT2 ?_)
   refine aB (dB rfl rfl) (zT8 ?_)
   refine gg (l:=(mp (cU k md (md+1)) l)) (i:=k) ((mp (cU k md (md+1)) l).getD (((k:Int) - 1).toNat) default) rfl rfl aw ?_
   have hls11:(List.set (mp (cU k md (md+1)) l) (k) ((mp (cU k md (md+1)) l).getD (((k:Int) - 1).toNat) default)).length=((mp (cU k md (md+1)) l)).length:=List.length_set
   refine zz0 (kT rfl rfl) (gg (l:=((mp (cU k md (md+1)) l).set (k) ((mp (cU k md (md+1)) l).getD (((k:Int) - 1).toNat) default))) (i:=((k:Int) - 1).toNat) ((mp (cU k md (md+1)) l).getD (k) default) rfl rfl aw ?_)
   have hls12:(List.set ((mp (cU k md (md+1)) l).set (k) ((mp (cU k md (md+1)) l).getD (((k:Int) - 1).toNat) default)) (((k:Int) - 1).toNat) ((mp (cU k md (md+1)) l).getD (k) default)).length=(((mp (cU k md (md+1)) l).set (k) ((mp (cU k md (md+1)) l).getD (((k:Int) - 1).toNat) default))).length:=List.length_set
   refine zR5 ?_
   refine zz0 (dB rfl rfl) (zR3 ?_)
   have hsw:=Hy (l:=(mp (cU k md (md+1)) l)) (p:=k) (q:=k - 1) (by omega) (by omega)
   rw [DF (by omega) hk2 (by omega)] at hsw
   rw [ej,hsw]
   refine bC (k - 1) (Front.c Front.nil) (zz9 23 rfl) (o:=⟨by omega,by omega⟩)
  refine zR7 ?_
  refine nj mg (fun w' hw=>?_)
  obtain rfl:i=k:=by omega
  have hin:=Hk hO (l:=l) (a:=a) (i:=md) (j:=i) h1s (by omega) (by omega) (by omega) (fun q x y=>hi5 q (by omega) y) (if q:i=a then .inl q else .inr (hi4 _ (by omega) (by omega)))
  obtain rfl:b=md+1:=by omega
  exact ⟨rfl,_,⟨hin.1,Fram.rot (by omega) (Nat.le_refl _) (by omega) (by omega),hin.2⟩,HpOK.mutOwn hw (.head _) rfl⟩
 refine zR6 ?_
 refine zz0 (aZ rfl rfl) ?_
 refine zz0 (dQ rfl ax dq (IntWalk.u64_in _ (by omega))) ?_
 refine zz0 (xt rfl rfl (by omega)) ?_
 refine zz0 (dQ rfl dq ax (IntWalk.i64_in _ (by omega))) (zR4 ?_)
 obtain ⟨mid,hhmid⟩:∃ mid,mid=(a+b) / 2:=⟨_,rfl⟩
 rw [show (((a:Nat):Int)+((b:Nat):Int)) / 2=((mid:Nat):Int) by omega]
 refine zR3 ?_
 refine zz0 (aZ rfl rfl) (zR9 ?_)
 refine ga (ι:=Nat × Nat) (fun ⟨s0,r0⟩=>(mid<md∧s0+b=mid+md∧r0=mid)∨(md≤mid∧s0=a∧r0=md)) (fun _=>Bg.less w V) (fun ⟨s0,r0⟩=>[rowE V 36 am l]) (fun ⟨s0,r0⟩=>[(20,.int .i64 (s0:Nat)),(21,.int .i64 (r0:Nat))]) ?_ (fun i hi=>?_)
 ·skip
  refine zR7 ?_
  refine af rfl (fun h13=>?_) (fun h13=>?_)
  ·refine zR4 ?_
   refine zz0 (dB rfl rfl) (zR8 ?_)
   refine aQ (mid+md - b,mid) (Front.c (Front.c Front.nil)) (zz9 9 rfl) (o:=.inl ⟨by omega,by omega,rfl⟩)
  refine dy ?_
  refine aQ (a,md) (Front.c (Front.c Front.nil)) (zz9 7 rfl) (o:=.inr ⟨by omega,rfl,rfl⟩)
 obtain ⟨s0,r0⟩:=i
 replace hi:(mid<md∧s0+b=mid+md∧r0=mid)∨(md≤mid∧s0=a∧r0=md):=hi
 change Tr _ _ [rowE V 36 am l] ([(20,.int .i64 (s0:Nat)),(21,.int .i64 (r0:Nat))] ++ _) _
 have hs0:a≤s0∧s0≤r0∧r0≤md:=by omega
 refine zR3 ?_
 refine zz0 (dB rfl rfl) (zR5 ?_)
 refine dO (ι:=Nat × Nat) (fun ⟨st,r⟩=>s0≤st∧st≤r∧r≤r0∧(st=s0∨dN cmp (l.getD (mid+md - st) default) (l.getD (st - 1) default)=false)∧(r=r0∨dN cmp (l.getD (mid+md - 1 - r) default) (l.getD r default)=true)) (fun _=>_) (fun ⟨st,r⟩=>[rowE V 36 am l]) (fun ⟨st,r⟩=>[(20,.int .i64 (st:Nat)),(21,.int .i64 (r:Nat))]) (fun ⟨st,r⟩=>r - st) (s0,r0) ⟨Nat.le_refl _,by omega,Nat.le_refl _,.inl rfl,.inl rfl⟩ (Front.c (Front.c Front.nil)) (fun i hi m hm=>?_)
 obtain ⟨st,r⟩:=i
 dsimp only at hi hm
 change Tr _ _ [rowE V 36 am l] ([(20,.int .i64 (st:Nat)),(21,.int .i64 (r:Nat))] ++ _) _
 obtain ⟨hi1,hi2,hi3,hi4,hi5⟩:=hi
 refine zR8 ?_
 refine af rfl (fun h14=>?_) (fun h14=>?_)
 ·refine zR7 ?_
  refine zz0 (aZ rfl rfl) ?_
  refine zz0 (dQ rfl ax dq (IntWalk.u64_in _ (by omega))) ?_
  refine zz0 (xt rfl rfl (by omega)) ?_
  refine zz0 (dQ rfl dq ax (IntWalk.i64_in _ (by omega))) (zR4 ?_)
  obtain ⟨c,hhc⟩:∃ c,c=(st+r) / 2:=⟨_,rfl⟩
  rw [show (((st:Nat):Int)+((r:Nat):Int)) / 2=((c:Nat):Int) by omega]
  refine ip ak (zT4 ?_)
  refine aB (dB rfl rfl) (zT6 ?_)
  refine aB (iS rfl rfl eg (fun w hw=>hc _ _ w (hI _ _ _ hIw (HpOK.mutOwn hw (.head _) rfl).1 (HpOK.mutOwn hw (.head _) rfl).2))) (zT4 ?_)
  refine af rfl (fun h15=>?_) (fun h15=>?_)
  ·refine aP (zz0 (ae rfl) (zz0 (aZ rfl rfl) (zR4 ?_)))
   have ec:((((mid:Nat):Int)+((md:Nat):Int)) - 1 - ((c:Nat):Int)).toNat=mid+md - 1 - c:=by omega
   have hx:dN cmp (l.getD (mid+md - 1 - c) default) (l.getD c default)=false:=by rw [← ec]; simp only [dN,decide_eq_false_iff_not]; assumption
   refine bC (c+1,r) (Front.c (Front.c Front.nil)) (zz9 29 rfl) (o:=⟨by omega,by omega,hi3,.inr (by rw [show mid+md - (c+1)=mid+md - 1 - c by omega]; exact hx),hi5⟩)
  refine zR6 ?_
  have ec:((((mid:Nat):Int)+((md:Nat):Int)) - 1 - ((c:Nat):Int)).toNat=mid+md - 1 - c:=by omega
  have hx:dN cmp (l.getD (mid+md - 1 - c) default) (l.getD c default)=true:=by rw [← ec]; simp only [dN,decide_eq_true_eq]; assumption
  refine bC (st,c) (Front.c (Front.c Front.nil)) (zz9 28 rfl) (o:=⟨hi1,by omega,by omega,hi4,.inr hx⟩)
 refine zR9 ?_
 refine zz0 (dB rfl rfl) (zR3 ?_)
 obtain rfl:r=st:=by omega
 obtain ⟨e,he⟩:∃ e,e=mid+md - r:=⟨_,rfl⟩
 rw [show (((mid:Nat):Int)+((md:Nat):Int)) - ((r:Nat):Int)=((e:Nat):Int) by omega]
 have hme:md≤e:=by omega
 have heb:e≤b:=by omega
 have hmm:mid=r+(e - md):=by omega
 have hd:r=md∨md=e∨dN cmp (l.getD (e - 1) default) (l.getD r default)=true:=by
  rcases hi5 with q|q
  ·omega
  ·exact .inr (.inr (by rw [show e - 1=mid+md - 1 - r by omega]; exact q))
 have hg:r=a∨e=b∨dN cmp (l.getD e default) (l.getD (r - 1) default)=false:=by
  rcases hi4 with q|q
  ·omega
  ·exact .inr (.inr (by rw [he]; exact q))
 have hf:=Lz hO h1s h2s hb (by omega) (by omega) hme heb hmm hd hg
 have hml:(mp (cU r md e) l).length=l.length:=iE _ _
 refine fC (.of (ι:=Unit) (fun _u=>True) (fun _=>Bg.less w V) (fun _u=>[rowE V 36 am (mp (cU r md e) l)]) (fun _u=>[])) ?_ (fun _u hi=>?_)
 ·skip
  refine zR6 ?_
  apply cj 4 181 185 (fun hT16 hT16'=>?_) ?_; rotate_right
  ·exact zE
  refine zR2 ?_
  refine af rfl (fun h17=>?_) (fun h17=>?_)
  ·refine zR6 ?_
   refine dz rfl Tryz.call263 (by repeat constructor) (fun w hw=>FM l V r md e _ _ _ (by omega) (by omega) (by omega) _ w (hw.ent _ (.head _)) hl (by omega) (by omega) (by omega)) rfl (zR2 ?_)
   refine aQ () Front.nil (zz9 11 rfl) (o:=trivial)
  refine mG (fD (l':=mp (cU r md e) l) (t6 (by omega) (by omega) (by omega)).symm ?_)
  refine aQ () Front.nil (zz9 5 rfl) (o:=trivial)
 skip
 refine fC (.of (ι:=List Ins) (fun c2=>Half (dN cmp) l c2 a mid mid e b) (fun _=>Bg.less w V) (fun c2=>[rowE V 36 am c2]) (fun c2=>[])) ?_ (fun c2 hi=>?_)
 ·skip
  refine zR6 ?_
  apply cj 4 195 199 (fun hT18 hT18'=>?_) ?_; rotate_right
  ·exact zE
  refine zR2 ?_
  refine af rfl (fun h19=>?_) (fun h19=>?_)
  ·refine zR6 ?_
   refine ik (fun c=>Stab (dN cmp) (mp (cU r md e) l) c∧Fram a mid (mp (cU r md e) l) c∧Srt (dN cmp) c a mid) rfl rn (fun w hw=>ih (mid - a) (by omega) (mp (cU r md e) l) a r mid _ _ _ w (by omega) (by omega) (by omega) (Nat.le_refl _) (by omega) (by omega) (by omega) (by omega) hf.s1 hf.s2 (hI _ _ _ hIw (HpOK.mutOwn hw (.head _) rfl).1 (HpOK.mutOwn hw (.head _) rfl).2) (hw.ent _ (.head _))) rfl (fun c2 hc2=>zR2 ?_)
   refine aQ c2 Front.nil (zz9 11 rfl) (o:=hf.left hb (by omega) (by omega) hc2.1 hc2.2.1 hc2.2.2)
  refine zR2 ?_
  refine aQ _ Front.nil (zz9 5 rfl) (o:=hf.left0 (by omega) (by omega) (by omega))
 skip
 have hl2:=hi.fr.1
 refine zR6 ?_
 apply cj 4 209 213 (fun hT20 hT20'=>?_) ?_; rotate_right
 ·exact zE
 refine zR2 ?_
 refine af rfl (fun h21=>?_) (fun h21=>?_)
 ·refine zR6 ?_
  refine ik (fun c=>Stab (dN cmp) c2 c∧Fram mid b c2 c∧Srt (dN cmp) c mid b) rfl rn (fun w hw=>ih (b - mid) (by omega) c2 mid e b _ _ _ w (by omega) (by omega) (by omega) (Nat.le_refl _) (by omega) (by omega) (by omega) (by omega) hi.s3 hi.s4 (hI _ _ _ hIw (HpOK.mutOwn hw (.head _) rfl).1 (HpOK.mutOwn hw (.head _) rfl).2) (hw.ent _ (.head _))) rfl (fun c3 hc3=>fV ?_)
  exact dH mg fun w' hw=>⟨rfl,c3,hi.right hb (by omega) (by omega) hc3.1 hc3.2.1 hc3.2.2,HpOK.mutOwn hw (.head _) rfl⟩
 exact fO (dH mg fun w' hw=>⟨rfl,c2,hi.right0 (by omega) (by omega) (by omega),HpOK.mutOwn hw (.head _) rfl⟩)
theorem tV (V:Value) (g:FuncId) (cb:List Value) (cmp:Ins→Ins→Int) (I:World→Prop) (hI:∀ w w' l',I w→Mut w w' V→(rowE V 36 am l').holds w'→I w') (eg:∀ args w,(callFunc g args).run Tryz.prog w=.ok (.enter g args) w) (hc:∀ x y w',I w'→Calls Tryz.prog g ([Value.agg (am.enc x).toArray,Value.agg (am.enc y).toArray] ++ cb).toArray w' fun e w''=>e=.returned (.int .i64 (cmp x y))∧Ext w' w'') (hO:WO (dN cmp)):∀ n,Ic g cb cmp I V n:=by
 intro n
 induction n using Nat.strongRecOn with
 | ind n ih =>
  intro l a md b ai mdi bi w ea emd eb hn ham hmb hb hl h1s h2s hIw hr
  exact IA l V a md b ai mdi bi ea emd eb g cb cmp I hI eg hc hO w hIw hr hl (fun k hk=>ih k (by omega)) ham hmb hb h1s h2s
theorem Ex {l:List Ins} {k:Nat} (h:l.length≤k):l.getD k default=default:=by simp [List.getD_eq_getElem?_getD,List.getElem?_eq_none h]
theorem FH (l:List Ins) (V:Value) (n:Nat) (ni:Int) (en:ni=((n:Nat):Int)) (g:FuncId) (cb:List Value) (cmp:Ins→Ins→Int) (I:World→Prop) (hI:∀ w w' l',I w→Mut w w' V→(rowE V 36 am l').holds w'→I w') (eg:∀ args w,(callFunc g args).run Tryz.prog w=.ok (.enter g args) w) (hc:∀ x y w',I w'→Calls Tryz.prog g ([Value.agg (am.enc x).toArray,Value.agg (am.enc y).toArray] ++ cb).toArray w' fun e w''=>e=.returned (.int .i64 (cmp x y))∧Ext w' w'') (hO:WO (dN cmp)) (w:World) (hIw:I w) (hr:(rowE V 36 am l).holds w) (hl:l.length≤1000000) (hn:n=l.length) :
  Calls Tryz.prog 146 #[V,.int .i64 ni,.func (.func g) #[] cb.toArray] w (Do cmp V l 0 n w):=by
 subst en
 refine fy (l:=l) (E:=am) (T:=36) hr Tryz.func146 rfl Tryz.ntmps146 rfl (lN ?_)
 refine dO (ι:=Nat × List Ins) (fun ⟨t,cur⟩=>t * 20≤n∧Stab (dN cmp) l cur∧Blk (dN cmp) cur 20 (t * 20)) (fun _=>_) (fun ⟨t,cur⟩=>[rowE V 36 am cur]) (fun ⟨t,cur⟩=>[(7,.int .i64 ((t * 20:Nat):Int)),(8,.int .i64 ((t * 20+20:Nat):Int))]) (fun ⟨t,cur⟩=>n - t * 20) (0,l) ⟨by omega,.refl _ _,fun t p q a1 a2 a3 a4=>by omega⟩ (Front.c (Front.c Front.nil)) (fun i hi m hm=>?_)
 obtain ⟨t,cur⟩:=i
 dsimp only at hi hm
 change Tr _ _ [rowE V 36 am cur] ([(7,.int .i64 ((t * 20:Nat):Int)),(8,.int .i64 ((t * 20+20:Nat):Int))] ++ _) _
 obtain ⟨ht1,ht2,ht3⟩:=hi
 have hcl:=ht2.len
 refine zR8 ?_
 refine af rfl (fun h1=>?_) (fun h1=>?_)
 ·refine zR9 ?_
  refine ik (fun c=>Stab (dN cmp) cur c∧Fram (t * 20) (t * 20+20) cur c∧Srt (dN cmp) c (t * 20) (t * 20+20)) rfl Tryz.call199 (fun w hw=>td cur V (t * 20) (t * 20+20) _ _ (by omega) (by omega) g cb cmp I hI eg hc hO w (hI _ _ _ hIw (HpOK.mutOwn hw (.head _) rfl).1 (HpOK.mutOwn hw (.head _) rfl).2) (hw.ent _ (.head _)) (by omega) (by omega) (by omega)) rfl (fun c2 hc2=>dy ?_)
  refine zz0 (aZ rfl rfl) (zR4 ?_)
  have hcl2:=hc2.1.len
  have hb2:Blk (dN cmp) c2 20 ((t+1) * 20):=by rw [show (t+1) * 20=t * 20+20 by omega]; exact xn ht3 hc2.2.1 hc2.2.2 (by omega)
  refine bC (t+1,c2) (Front.c (Front.c Front.nil)) (zz9 16 rfl) (o:=⟨by omega,ht2.trans hc2.1,hb2⟩)
 refine dy ?_
 refine ik (fun c=>Stab (dN cmp) cur c∧Fram (t * 20) n cur c∧Srt (dN cmp) c (t * 20) n) rfl Tryz.call199 (fun w hw=>td cur V (t * 20) n _ _ (by omega) (by omega) g cb cmp I hI eg hc hO w (hI _ _ _ hIw (HpOK.mutOwn hw (.head _) rfl).1 (HpOK.mutOwn hw (.head _) rfl).2) (hw.ent _ (.head _)) (by omega) (by omega) (by omega)) rfl (fun c3 hc3=>zR3 ?_)
 have hcl3:=hc3.1.len
 have hb3:Blk (dN cmp) c3 20 n:=xn ht3 hc3.2.1 hc3.2.2 (by omega)
 have hst3:=ht2.trans hc3.1
 clear hc3 ht3 ht2
 refine dO (ι:=Nat × Int × Int × List Ins) (fun ⟨bz,xa,xb,cur⟩=>1≤bz∧bz≤2 * n+20∧Stab (dN cmp) l cur∧Blk (dN cmp) cur bz n) (fun _=>_) (fun ⟨bz,xa,xb,cur⟩=>[rowE V 36 am cur]) (fun ⟨bz,xa,xb,cur⟩=>[(6,.int .i64 (bz:Nat)),(7,.int .i64 xa),(8,.int .i64 xb)]) (fun ⟨bz,xa,xb,cur⟩=>n - bz) (20,_,_,c3) ⟨by omega,by omega,hst3,hb3⟩ (Front.c (Front.c (Front.c Front.nil))) (fun i hi m hm=>?_)
 obtain ⟨bz,xa,xb,cur⟩:=i
 dsimp only at hi hm
 change Tr _ _ [rowE V 36 am cur] ([(6,.int .i64 (bz:Nat)),(7,.int .i64 xa),(8,.int .i64 xb)] ++ _) _
 obtain ⟨hb1,hb2,hb4,hb5⟩:=hi
 have hcl4:=hb4.len
 refine zR8 ?_
 refine af rfl (fun h2=>?_) (fun h2=>?_)
 ·refine zR6 ?_
  refine zz0 (kG rfl rfl (by omega)) (zR6 ?_)
  refine dO (ι:=Nat × Nat × List Ins) (fun ⟨t,x,c4⟩=>x=t * (2 * bz)∧x≤n∧Stab (dN cmp) l c4∧Mix (dN cmp) c4 bz x n) (fun _=>_) (fun ⟨t,x,c4⟩=>[rowE V 36 am c4]) (fun ⟨t,x,c4⟩=>[(7,.int .i64 (x:Nat)),(8,.int .i64 ((x+2 * bz:Nat):Int))]) (fun ⟨t,x,c4⟩=>n - x) (0,0,cur) ⟨by omega,by omega,hb4,P5 hb5⟩ (Front.c (Front.c Front.nil)) (fun i hi m hm=>?_)
  obtain ⟨t,x,c4⟩:=i
  dsimp only at hi hm
  change Tr _ _ [rowE V 36 am c4] ([(7,.int .i64 (x:Nat)),(8,.int .i64 ((x+2 * bz:Nat):Int))] ++ _) _
  obtain ⟨ht1,ht2,ht3,ht4⟩:=hi
  have hcl5:=ht3.len
  refine zR8 ?_
  refine af rfl (fun h3=>?_) (fun h3=>?_)
  ·refine zR4 ?_
   have hs1:Srt (dN cmp) c4 x (x+bz):=by subst ht1; exact yr ht4 (Nat.le_refl _) (by omega)
   have hs2:Srt (dN cmp) c4 (x+bz) (x+2 * bz):=by subst ht1; exact AK ht4 (Nat.le_refl _) (by omega)
   refine zR5 ?_
   refine zz0 (aZ rfl rfl) (zR2 ?_)
   refine ik (fun c=>Stab (dN cmp) c4 c∧Fram x (x+2 * bz) c4 c∧Srt (dN cmp) c x (x+2 * bz)) rfl rn (fun w hw=>tV V g cb cmp I hI eg hc hO _ c4 x (x+bz) (x+2 * bz) _ _ _ w (by omega) (by omega) (by omega) (Nat.le_refl _) (by omega) (by omega) (by omega) (by omega) hs1 hs2 (hI _ _ _ hIw (HpOK.mutOwn hw (.head _) rfl).1 (HpOK.mutOwn hw (.head _) rfl).2) (hw.ent _ (.head _))) rfl (fun c5 hc5=>dy ?_)
   refine zz0 (kG rfl rfl (by omega)) ?_
   refine zz0 (aZ rfl rfl) (zR4 ?_)
   have hm2:Mix (dN cmp) c5 bz (x+2 * bz) n:=by
    have f:=hc5.2.1
    have so:=hc5.2.2
    subst ht1
    exact K9 ht4 f so (Nat.le_refl _) (by omega)
   refine bC (t+1,x+2 * bz,c5) (Front.c (Front.c Front.nil)) (zz9 20 rfl) (o:=⟨by rw [Nat.add_mul,ht1]; omega,by omega,ht3.trans hc5.1,hm2⟩)
  refine zR5 ?_
  refine fC (.of (ι:=List Ins) (fun c6=>Stab (dN cmp) l c6∧Blk (dN cmp) c6 (2 * bz) n) (fun _=>Bg.less w V) (fun c6=>[rowE V 36 am c6]) (fun c6=>[])) ?_ (fun c6 hi=>?_)
  ·skip
   refine zR4 ?_
   refine zz0 (aZ rfl rfl) (df ?_)
   refine af rfl (fun h4=>?_) (fun h4=>?_)
   ·have hs1:Srt (dN cmp) c4 x (x+bz):=by subst ht1; exact yr ht4 (Nat.le_refl _) (by omega)
    have hs2:Srt (dN cmp) c4 (x+bz) n:=by subst ht1; exact AK ht4 (by omega) (Nat.le_refl _)
    refine zR6 ?_
    refine ik (fun c=>Stab (dN cmp) c4 c∧Fram x n c4 c∧Srt (dN cmp) c x n) rfl rn (fun w hw=>tV V g cb cmp I hI eg hc hO _ c4 x (x+bz) n _ _ _ w (by omega) (by omega) (by omega) (Nat.le_refl _) (by omega) (by omega) (by omega) (by omega) hs1 hs2 (hI _ _ _ hIw (HpOK.mutOwn hw (.head _) rfl).1 (HpOK.mutOwn hw (.head _) rfl).2) (hw.ent _ (.head _))) rfl (fun c5 hc5=>zR2 ?_)
    have hm2:Blk (dN cmp) c5 (2 * bz) n:=by
     have f:=hc5.2.1
     have so:=hc5.2.2
     subst ht1
     exact xn ht4.1 f so (by rw [Nat.add_mul]; omega)
    refine aQ c5 Front.nil (zz9 13 rfl) (o:=⟨ht3.trans hc5.1,hm2⟩)
   refine zR2 ?_
   have hm2:Blk (dN cmp) c4 (2 * bz) n:=by
    subst ht1
    exact NP ht4 (by omega)
   refine aQ c4 Front.nil (zz9 7 rfl) (o:=⟨ht3,hm2⟩)
  skip
  refine aP (zz0 (ae rfl) (zz0 (kG rfl rfl (by omega)) (zR4 ?_)))
  refine bC (2 * bz,_,_,c6) (Front.c (Front.c (Front.c Front.nil))) (zz9 18 rfl) (o:=⟨by omega,by omega,hi.1,hi.2⟩)
 refine zR4 ?_
 exact dH Tryz.results146 fun w' hw=>⟨rfl,cur,⟨hb4,⟨hb4.len,fun k hk=>by rw [Ex (by omega),Ex (by omega)]⟩,hb5.all (by omega)⟩,HpOK.mutOwn hw (.head _) rfl⟩
theorem rO (l:List Ins) (V:Value) (g:FuncId) (cb:List Value) (cmp:Ins→Ins→Int) (I:World→Prop) (hI:∀ w w' l',I w→Mut w w' V→(rowE V 36 am l').holds w'→I w') (eg:∀ args w,(callFunc g args).run Tryz.prog w=.ok (.enter g args) w) (hc:∀ x y w',I w'→Calls Tryz.prog g ([Value.agg (am.enc x).toArray,Value.agg (am.enc y).toArray] ++ cb).toArray w' fun e w''=>e=.returned (.int .i64 (cmp x y))∧Ext w' w'') (hO:WO (dN cmp)) (w:World) (hIw:I w) (hr:(rowE V 36 am l).holds w) (hl:l.length≤1000000) :
  Calls Tryz.prog 78 #[V,.func (.func g) #[] cb.toArray] w (Do cmp V l 0 l.length w):=by
 refine fy (l:=l) (E:=am) (T:=36) hr Tryz.func78 rfl Tryz.ntmps78 rfl (zR5 ?_)
 refine ik (fun c=>Stab (dN cmp) l c∧Fram 0 l.length l c∧Srt (dN cmp) c 0 l.length) rfl Tryz.call146 (fun w hw=>FH l V l.length _ rfl g cb cmp I hI eg hc hO w (hI _ _ _ hIw (HpOK.mutOwn hw (.head _) rfl).1 (HpOK.mutOwn hw (.head _) rfl).2) (hw.ent _ (.head _)) hl rfl) rfl (fun c2 hc2=>fV ?_)
 exact dH Tryz.results78 fun w' hw=>⟨rfl,c2,hc2,HpOK.mutOwn hw (.head _) rfl⟩
end Go.Proofs.YtiajjbhcpeadfaaGreat
namespace Go.Proofs.YtiajjbhcpeadfaaGreat
open Go Go.HL Go.RowKit
theorem HV (i:Ins) (w:World) (hI:InsOK i) :
  Cr Tryz.prog 148 #[.agg (am.enc i).toArray] w (.int .u64 (yU i)):=by
 have hl:=Cg i
 have ha:=i.addr.toNat_lt
 refine enter Tryz.func148 rfl Tryz.ntmps148 rfl (zR2 ?_)
 refine cm rfl rfl (fun b1=>zR4 ?_)
 refine ip ak (zT2 ?_)
 refine aB (dx rfl an aO) (aB (bU rfl) (aB (ac rfl rr (fun w hw=>qX i w hI)) ?_))
 refine aB (dQ rfl ax aO (IntWalk.u64_in _ (by omega))) ?_
 refine aB (oK rfl rfl (by omega)) (zT4 ?_)
 exact ah Tryz.results148 rfl fun w' hw=>⟨rfl,hw.b0⟩
theorem Cx (a b:Ins) (w:World) (hI:InsOK a) (hJ:InsOK b) :
  Cr Tryz.prog 81 #[.agg (am.enc a).toArray,.agg (am.enc b).toArray] w (.bool (kP a b)):=by
 refine enter Tryz.func81 rfl Tryz.ntmps81 rfl (zR2 ?_)
 refine cm rfl rfl (fun b1=>?_)
 refine cm rfl rfl (fun b2=>zR4 ?_)
 refine ip ak (zT6 ?_)
 apply eW
 ·exact (rfl:_=(4,10,14))
 ·exact rfl
 ·intro hT3; have hT3':=hT3
  try simp only [bs] at hT3'
  refine eI hT3 (bU rfl) (eI hT3 (ac rfl rr (fun w hw=>qX a w hI)) ?_)
  refine eI hT3 (rD rfl rfl) (aB (eY rfl hT3 rfl) ?_)
  exact cg (Sub.cons rfl (zz8 4 rfl))
 ·intro hF3
  refine zT4 ?_
  exact cg (Sub.cons rfl (zz8 4 rfl))
 refine aB (ae rfl) ?_
 apply eW
 ·exact (rfl:_=(4,15,19))
 ·exact rfl
 ·intro hT4; have hT4':=hT4
  try simp only [bs] at hT4'
  refine eI hT4 (bU rfl) (eI hT4 (ac rfl rr (fun w hw=>qX b w hJ)) ?_)
  refine eI hT4 (rD rfl rfl) (aB (eY rfl hT4 rfl) ?_)
  exact cg (Sub.cons rfl (zz8 4 rfl))
 ·intro hF4
  refine zT4 ?_
  exact cg (Sub.cons rfl (zz8 4 rfl))
 refine aB (ae rfl) ?_
 apply eW
 ·exact (rfl:_=(13,20,33))
 ·exact rfl
 ·intro hT5; have hT5':=hT5
  try simp only [bs] at hT5'
  refine zT4 ?_
  refine eI hT5 (sx rfl rfl) ?_
  refine eI hT5 (dx rfl an aO) (eI hT5 (bU rfl) (eI hT5 (ac rfl Tryz.call148 (fun w hw=>HV a w hI)) (eI hT5 (bU rfl) ?_)))
  refine eI hT5 (ac rfl Tryz.call148 (fun w hw=>HV b w hJ)) ?_
  refine eI hT5 (xu rfl rfl) ?_
  refine eI hT5 (sy rfl rfl) (aB (eY rfl hT5 rfl) ?_)
  exact cg (Sub.cons rfl (zz8 13 rfl))
 ·intro hF5
  refine PS ?_
  exact cg (Sub.cons rfl (zz8 13 rfl))
 refine zT4 ?_
 exact ah Tryz.results81 rfl fun w' hw=>⟨rfl,hw.b0⟩
theorem rH (w:World) (g:FuncId) (cb:Array Value) :
  Cr Tryz.prog 199 #[.slice none 0 0,.int .i64 0,.int .i64 0,.func (.func g) #[] cb] w (.tuple #[]):=by
 refine enter Tryz.func199 rfl Tryz.ntmps199 rfl (zR3 ?_)
 refine zz0 (aZ rfl rfl) (zR4 ?_)
 refine ed (.of (ι:=Unit) (fun _u=>True) (fun _=>_) (fun _u=>[]) (fun _u=>[(8,.int .i64 1)]) (fun _u=>0)) () trivial (Front.c Front.nil) (fun _u hi m hm=>zR8 ?_)
 refine dw rfl ?_ ?_ <;> intro h1 <;> try simp only [bs] at h1
 ·first|contradiction|(exfalso; omega)|simp_all
 refine zR4 ?_
 exact dH Tryz.results199 fun w' hw=>⟨rfl,hw.b0⟩
theorem wN (w:World) (g:FuncId) (cb:Array Value) :
  Cr Tryz.prog 149 #[.slice none 0 0,.int .i64 0,.int .i64 0,.int .i64 0,.func (.func g) #[] cb] w (.tuple #[]):=by
 refine enter Tryz.func149 rfl Tryz.ntmps149 rfl (dy ?_)
 refine ed (.of (ι:=Unit) (fun _u=>True) (fun _=>_) (fun _u=>[]) (fun _u=>[]) (fun _u=>0)) () trivial Front.nil (fun _u hi m hm=>zR5 ?_)
 refine zz0 (dB rfl rfl) (df ?_)
 refine dw rfl ?_ ?_ <;> intro h1 <;> try simp only [bs] at h1
 ·refine zR6 ?_
  refine zz0 (ac rfl Tryz.call199 (fun w hw=>rH w g cb)) (zR7 ?_)
  exact nj Tryz.results149 fun w' hw=>⟨rfl,hw.b0⟩
 first|contradiction|(exfalso; omega)|simp_all
theorem pZ (w:World) (g:FuncId) (cb:Array Value) :
  Cr Tryz.prog 82 #[.slice none 0 0,.func (.func g) #[] cb] w (.tuple #[]):=by
 refine enter Tryz.func82 rfl Tryz.ntmps82 rfl (zR3 ?_)
 refine zz0 (l5 rfl cC) (zR7 ?_)
 refine zz0 (dQ rfl ax dq (IntWalk.u64_in _ (by omega))) ?_
 refine zz0 (ac rfl Tryz.call150 (fun w hw=>(Go.Proofs.Any.bits_Len (Go.Proofs.SlLaysF0.n15.bits (P:=Tryz.prog) (ρ:=Tryz.sortIns_ren) { Tryz.sortIns with }) 0 w (by decide) (by decide)).mono (fun e w' h=>⟨h.1,by rw [h.2]; exact Ext.refl _⟩))) (zz0 (ae rfl) ?_)
 refine zz0 (ac rfl Tryz.call149 (fun w hw=>wN w g cb)) (fV ?_)
 exact dH Tryz.results82 fun w' hw=>⟨rfl,hw.b0⟩
theorem Ad (a b:Ins) (w:World) :
  Cr Tryz.prog 143 #[.agg (am.enc a).toArray,.agg (am.enc b).toArray] w (.int .i64 (m9 a b)):=by
 refine enter Tryz.func143 rfl Tryz.ntmps143 rfl (zR2 ?_)
 refine cm rfl rfl (fun b1=>?_)
 refine cm rfl rfl (fun b2=>zR9 ?_)
 refine zz0 (ac rfl Tryz.call84 (fun w hw=>EU a.addr b.addr w)) (zR4 ?_)
 exact ah Tryz.results143 rfl fun w' hw=>⟨rfl,hw.b0⟩
theorem B0 (a b:Ins) (w:World) :
  Cr Tryz.prog 83 #[.agg (am.enc a).toArray,.agg (am.enc b).toArray] w (.int .i64 (m9 a b)):=by
 refine enter Tryz.func83 rfl Tryz.ntmps83 rfl (zR2 ?_)
 refine cm rfl rfl (fun b1=>?_)
 refine cm rfl rfl (fun b2=>zR9 ?_)
 refine zz0 (ac rfl Tryz.call84 (fun w hw=>EU a.addr b.addr w)) (zR4 ?_)
 exact ah Tryz.results83 rfl fun w' hw=>⟨rfl,hw.b0⟩
theorem Cv (l:List Ins) (V:Value) (w:World) (hV:Sl (hp w) am l V) (hI:∀ x∈l,InsOK x) (h40:l.length≤700) :
  Calls Tryz.prog 73 #[V] w (fun e w'=>∃ V',e=.returned V'∧Ext w w'∧je w w' 36 am (eU l) V'):=by
 have hV':Sl (Bg.of w).blk am l V:=hV
 refine enter Tryz.func73 rfl Tryz.ntmps73 rfl (zR7 ?_)
 refine gm cL rfl (fun b1=>xz ?_)
 refine aR 36 am ?_
 refine dO (ι:=Nat × Value) (fun ⟨k,V'⟩=>k≤l.length) (fun _=>_) (fun ⟨k,V'⟩=>[rowE V' 36 am (vE (l.take k)),mapE b1 cL (CB (vE (l.take k)))]) (fun ⟨k,V'⟩=>[(10,.int .i64 (k:Nat)),(4,V')]) (fun ⟨k,V'⟩=>l.length - k) (0,_) (Nat.zero_le _) (Front.c (Front.c Front.nil)) (fun i hi m hm=>?_)
 obtain ⟨k,V'⟩:=i
 dsimp only at hi hm
 change Tr _ _ [rowE V' 36 am (vE (l.take k)),mapE b1 cL (CB (vE (l.take k)))] ([(10,.int .i64 (k:Nat)),(4,V')] ++ _) _
 have hcl:=ET (l.take k)
 rw [List.length_take] at hcl
 have hIk:k<l.length→InsOK (l.getD k default):=fun q=>hI _ (bB q)
 refine zR6 ?_
 refine af rfl (fun h2=>?_) (fun h2=>?_)
 ·refine zR8 ?_
  refine bS aJ rfl (fun b3=>?_)
  refine ad am rfl rfl aw ?_
  refine zR7 ?_
  refine zz0 (Fi rfl rfl (by repeat constructor) dF an o6) ?_
  rw [Ms]
  refine zR2 ?_
  apply cj 3 19 22 (fun hT4 hT4'=>?_) ?_; rotate_right
  ·refine zz5 hT4 (bU rfl) (zz5 hT4 (ac rfl lU (fun w hw=>lO (l.getD k default) w (hIk (by omega)))) ?_)
   exact zE
  refine zR2 ?_
  refine af rfl (fun h5=>?_) (fun h5=>?_)
  ·refine zR4 ?_
   refine g7 (E:=am) _ rfl rfl cC aw aJ (fun V6=>?_)
   refine zz3 rfl rfl cC l7 (fun V7=>?_)
   refine zR7 ?_
   refine fP _ rfl rfl rfl (by repeat constructor) dF an rfl (zR4 ?_)
   refine zz0 (aZ rfl rfl) (zR3 ?_)
   have hst:=EQ (l:=l) (k:=k) (by omega)
   rw [gY,if_pos (by simp only [Bool.and_eq_true,Bool.not_eq_true',decide_eq_true_eq]; assumption)] at hst
   rw [Mr (by simp_all),← hst]
   refine bC (k+1,_) (Front.c (Front.c Front.nil)) (zz9 23 rfl) (o:=(by show k+1≤_; omega))
  refine zR4 ?_
  refine zz0 (aZ rfl rfl) (zR3 ?_)
  have hst:=EQ (l:=l) (k:=k) (by omega)
  rw [gY,if_neg (by rw [Bool.and_eq_true,Bool.not_eq_true',decide_eq_true_eq]; rintro ⟨q1,q2⟩; rcases h5 with q|q; (· rw [q1] at q; cases q); (· exact q q2))] at hst
  rw [← hst]
  refine bC (k+1,_) (Front.c (Front.c Front.nil)) (zz9 15 rfl) (o:=(by show k+1≤_; omega))
 refine zR6 ?_
 obtain rfl:k=l.length:=by omega
 rw [List.take_length] at *
 refine zR2 ?_
 refine dz rfl Tryz.call82 (by repeat constructor) (fun w hw=>tY Tryz.sortIns am 36 di aw m9 mn 143 [] _ _ w Tryz.call143 (hw.ent _ (.head _)) (by omega) (fun x y w' _=>Ad x y w') (pZ w 143 #[])) rfl (zR9 ?_)
 exact ah Tryz.results73 rfl fun w' hw=>⟨_,rfl,hw.b0,hw.new (.head _)⟩
theorem Di (l:List Ins) (V:Value) (w:World) (hV:Sl (hp w) am l V) (hI:∀ x∈l,InsOK x) (h40:l.length≤700) :
  Calls Tryz.prog 74 #[V] w (fun e w'=>∃ b,e=.returned (.map (some b))∧Ext w w'∧NewEnts w w' [mapE b cL (u0 l)]):=by
 have hV':Sl (Bg.of w).blk am l V:=hV
 refine enter Tryz.func74 rfl Tryz.ntmps74 rfl (zR7 ?_)
 refine gm cL rfl (fun b1=>fu ?_)
 refine ed (.of (ι:=Nat) (fun k=>k≤l.length) (fun _=>_) (fun k=>[mapE b1 cL (u0 (l.take k))]) (fun k=>[(11,.int .i64 (k:Nat))]) (fun k=>l.length - k)) 0 (Nat.zero_le _) (Front.c Front.nil) (fun k hi m hm=>zR6 ?_)
 refine af rfl (fun h2=>?_) (fun h2=>?_)
 ·refine zR8 ?_
  refine bS aJ rfl (fun b3=>?_)
  refine ad am rfl rfl aw ?_
  refine zR5 ?_
  refine zz0 (ac rfl Tryz.call144 (fun w hw=>tl (l.getD k default) w)) (fu ?_)
  refine af rfl (fun h4=>?_) (fun h4=>?_)
  ·refine zR3 ?_
   refine fP _ rfl rfl rfl (by repeat constructor) dF an rfl (zR4 ?_)
   refine zz0 (aZ rfl rfl) (zR3 ?_)
   have hst:=Dg (l:=l) (k:=k) (by omega)
   rw [w9,if_pos (by assumption)] at hst
   rw [← hst]
   refine bC (k+1) (Front.c Front.nil) (zz9 17 rfl) (o:=(by show k+1≤_; omega))
  refine zR4 ?_
  refine zz0 (aZ rfl rfl) (zR3 ?_)
  have hst:=Dg (l:=l) (k:=k) (by omega)
  rw [w9,if_neg (by simp_all)] at hst
  rw [← hst]
  refine bC (k+1) (Front.c Front.nil) (zz9 15 rfl) (o:=(by show k+1≤_; omega))
 refine fu ?_
 refine ah Tryz.results74 rfl (fun w' hw=>?_)
 obtain rfl:k=l.length:=by omega
 rw [List.take_length] at hw
 exact ⟨_,rfl,hw.b0,hw.ents (w:=w) (Bg.le.refl _) (by repeat' constructor)⟩
theorem t7 (i:Ins) (ents:List UInt32) (tm:List (UInt32 × Bool)) (Vi Ve Vu Vb:Value) (bc bm bmap:Nat) (w:World) (hc:CellsIn (hp w) bc [Vi,Ve,Vu,Vb]) (hm:CellsIn (hp w) bm [.map (some bmap)]) (hM:MapIn (hp w) bmap cL tm) (hE:Sl (hp w) aa ents Ve) :
  Cr Tryz.prog 75 #[.agg (am.enc i).toArray,.pointer (some ⟨bc,0,none⟩),.pointer (some ⟨bm,0,none⟩)] w (.int .i64 (gB ents tm i)):=by
 have hc':CellsIn (Bg.of w).blk bc [Vi,Ve,Vu,Vb]:=hc
 have hm':CellsIn (Bg.of w).blk bm [.map (some bmap)]:=hm
 have hM':MapIn (Bg.of w).blk bmap cL tm:=hM
 have hE':Sl (Bg.of w).blk aa ents Ve:=hE
 refine enter Tryz.func75 rfl Tryz.ntmps75 rfl (zR2 ?_)
 refine cm rfl rfl (fun b1=>zR8 ?_)
 refine zz0 (lh rfl Tryz.isAgg31) (zR2 ?_)
 refine zz0 (ac rfl Tryz.call76 (fun w hw=>Cw ents Ve i.addr w (hw.slF hE'))) (zR3 ?_)
 refine af rfl (fun h2=>?_) (fun h2=>?_)
 ·refine zR8 ?_
  exact ah Tryz.results75 rfl fun w' hw=>⟨by rw [gB,if_pos (by assumption)],hw.b0⟩
 refine eO (zz0 (lh rfl fU) (zR2 ?_))
 refine zz0 (JM rfl rfl (by assumption) dF an o6) (zR3 ?_)
 refine af rfl (fun h3=>?_) (fun h3=>?_)
 ·refine zR8 ?_
  exact ah Tryz.results75 rfl fun w' hw=>⟨by rw [gB,if_neg (by simp_all),if_pos (by assumption)],hw.b0⟩
 refine zR9 ?_
 exact ah Tryz.results75 rfl fun w' hw=>⟨by rw [gB,if_neg (by simp_all),if_neg (by simp_all)],hw.b0⟩
theorem B1 (i j:Ins) (ents:List UInt32) (tm:List (UInt32 × Bool)) (Vi Ve Vu Vb:Value) (bc bm bmap:Nat) (bg:Nat) (w:World) (hc:CellsIn (hp w) bc [Vi,Ve,Vu,Vb]) (hm:CellsIn (hp w) bm [.map (some bmap)]) (hM:MapIn (hp w) bmap cL tm) (hE:Sl (hp w) aa ents Ve) (hg:CellsIn (hp w) bg [.func (.func 75) #[] #[.pointer (some ⟨bc,0,none⟩),.pointer (some ⟨bm,0,none⟩)]]) :
  Cr Tryz.prog 79 #[.agg (am.enc i).toArray,.agg (am.enc j).toArray,.pointer (some ⟨bg,0,none⟩)] w (.int .i64 (Oo ents tm i j)):=by
 have hc':CellsIn (Bg.of w).blk bc [Vi,Ve,Vu,Vb]:=hc
 have hm':CellsIn (Bg.of w).blk bm [.map (some bmap)]:=hm
 have hM':MapIn (Bg.of w).blk bmap cL tm:=hM
 have hE':Sl (Bg.of w).blk aa ents Ve:=hE
 have hg':CellsIn (Bg.of w).blk bg [.func (.func 75) #[] #[.pointer (some ⟨bc,0,none⟩),.pointer (some ⟨bm,0,none⟩)]]:=hg
 refine enter Tryz.func79 rfl Tryz.ntmps79 rfl (zR2 ?_)
 refine cm rfl rfl (fun b1=>?_)
 refine cm rfl rfl (fun b2=>zR4 ?_)
 refine ip ak ?_
 refine aB (lh rfl Tryz.isAgg153) (aB (bU rfl) ?_)
 refine aB (iS rfl rfl Tryz.call75 (fun w hw=>t7 i ents tm Vi Ve Vu Vb bc bm bmap w (hc'.mono hw.bg) (hm'.mono hw.bg) (hM'.mono hw.bg) (hw.slF hE'))) ?_
 refine aB (lh rfl Tryz.isAgg153) (aB (bU rfl) ?_)
 refine aB (iS rfl rfl Tryz.call75 (fun w hw=>t7 j ents tm Vi Ve Vu Vb bc bm bmap w (hc'.mono hw.bg) (hm'.mono hw.bg) (hM'.mono hw.bg) (hw.slF hE'))) ?_
 refine aB (ac rfl Tryz.call80 (fun w hw=>Mt (gB ents tm i) (gB ents tm j) w)) (zT4 ?_)
 exact ah Tryz.results79 rfl fun w' hw=>⟨rfl,hw.b0⟩
theorem zN (i:Ins) (a:UInt32) (b:Nat) (w:World) (hc:Cell (hp w) b 0 (.int .u32 a.toNat)) :
  Cr Tryz.prog 87 #[.agg (am.enc i).toArray,.pointer (some ⟨b,0,none⟩)] w (.bool (decide (i.addr=a))):=by
 have hc':Cell (Bg.of w).blk b 0 (.int .u32 a.toNat):=hc
 refine enter Tryz.func87 rfl Tryz.ntmps87 rfl (zR2 ?_)
 refine cm rfl rfl (fun b1=>zR7 ?_)
 refine zz0 (qA rfl (by assumption) dG) (zR5 ?_)
 exact ah Tryz.results87 rfl fun w' hw=>⟨rfl,hw.b0⟩
theorem qO (a:UInt32) (l:List Ins) (V:Value) (b:Nat) (w:World) (hc:CellsIn (hp w) b [V]) (hV:Sl (hp w) am l V) :
  Cr Tryz.prog 85 #[.int .u32 a.toNat,.pointer (some ⟨b,0,none⟩)] w (.bool (inK l a)):=by
 have hc':CellsIn (Bg.of w).blk b [V]:=hc
 have hV':Sl (Bg.of w).blk am l V:=hV
 refine enter Tryz.func85 rfl Tryz.ntmps85 rfl (zR2 ?_)
 refine cm rfl rfl (fun b1=>zR5 ?_)
 refine zz0 (lh rfl Tryz.isAgg50) ?_
 refine zz0 (eP rfl rfl) ?_
 refine zz0 (ac rfl Tryz.call86 (fun w hw=>qn l V _ _ w (hw.slF hV') Tryz.call87 (fun i=>decide (i.addr=a)) (fun x hx w'' h=>zN x a _ w'' (cellE.cell (hw.ent _ (by repeat constructor)) h rfl)))) (zR4 ?_)
 exact ah Tryz.results85 rfl fun w' hw=>⟨rfl,hw.b0⟩
end Go.Proofs.YtiajjbhcpeadfaaGreat
namespace Go.Proofs.YtiajjbhcpeadfaaGreat
open Go Go.HL Go.RowKit
theorem Lh (ents:List UInt32) (tm:List (UInt32 × Bool)):dN (Oo ents tm)=ltG (gB ents tm):=by
 funext x y
 unfold dN Oo ltG
 congr 1
 exact propext (On _ _)
theorem DI (ins:List Ins) (ents unk bad:List UInt32) (Vi Ve Vu Vb:Value) (w:World) (hV:Sl (hp w) am ins Vi) (hE:Sl (hp w) aa ents Ve) (hU:Sl (hp w) aa unk Vu) (hB:Sl (hp w) aa bad Vb) (hI:∀ x∈ins,InsOK x) (hn1:ins.length≤700) (hn2:ents.length≤700) (hn3:unk.length≤700) (hn4:bad.length≤100000) :
  Calls Tryz.prog 29 #[.agg #[Vi,Ve,Vu,Vb]] w (fun e w'=>∃ i:Value × Value × Value × Value × Value,e=.returned (.tuple #[.agg #[i.1,i.2.1,i.2.2.1,i.2.2.2.1],i.2.2.2.2])∧Ext w w'∧NewEnts w w' [rowE i.1 36 am (fY ins ents unk bad).kept,rowE i.2.1 23 aa (fY ins ents unk bad).ents,rowE i.2.2.1 23 aa (fY ins ents unk bad).unk,rowE i.2.2.2.1 23 aa (fY ins ents unk bad).bad,rowE i.2.2.2.2 23 aa (fY ins ents unk bad).rem]):=by
 have hV':Sl (Bg.of w).blk am ins Vi:=hV
 have hE':Sl (Bg.of w).blk aa ents Ve:=hE
 have hU':Sl (Bg.of w).blk aa unk Vu:=hU
 have hB':Sl (Bg.of w).blk aa bad Vb:=hB
 obtain ⟨lc,hlc⟩:∃ lc,lc=eU ins:=⟨_,rfl⟩
 obtain ⟨tm,htm⟩:∃ tm,tm=u0 lc:=⟨_,rfl⟩
 have hcl:=yZ ins
 rw [← hlc] at hcl
 have hcI:∀ x∈lc,InsOK x:=fun x hx=>hI _ (yY (hlc ▸ hx))
 obtain ⟨w0,hw0⟩:∃ w0,w0=w:=⟨_,rfl⟩
 subst hw0
 refine enter Tryz.func29 rfl Tryz.ntmps29 rfl (zR2 ?_)
 refine cm rfl rfl (fun b1=>?_)
 refine bS dE rfl (fun b2=>zR8 ?_)
 refine dj rfl Tryz.call73 (fun w hw=>(by rw [hlc]; exact Cv ins Vi w (hw.slF hV') hI hn1:Calls Tryz.prog 73 #[Vi] w (fun e w'=>∃ V',e=.returned V'∧Ext w w'∧je w w' 36 am (lc) V'))) rfl (fun V3=>zR4 ?_)
 skip
 refine zR2 ?_
 refine il (fun b:Nat=>.map (some b)) (fun b=>[mapE b cL tm]) (ok:=fun _=>True) rfl Tryz.call74 (fun w hw=>(Di lc _ w (hw.row (by repeat constructor)) hcI (by omega)).mono fun e w' ⟨b,q1,q2,q3⟩=>⟨b,q1,q2,by rw [htm]; exact q3,trivial⟩) rfl (fun bmap _=>?_)
 refine bS Tryz.zeroValue141 rfl (fun b4=>?_)
 refine ka rfl rfl Tryz.sizeOf141 (by repeat constructor) (by rfl) (by rfl) (by first|exact List.all_eq_true.1 rfl|exact Enc.one _ _) rfl (zR4 ?_)
 refine zz0 (eP rfl rfl) ?_
 refine bS Tryz.zeroValue153 rfl (fun b5=>?_)
 refine ka rfl rfl Tryz.sizeOf153 (by repeat constructor) (by rfl) (by rfl) (by first|exact List.all_eq_true.1 rfl|exact Enc.one _ _) rfl (zR5 ?_)
 refine dj rfl Tryz.call77 (fun w hw=>Be lc _ w (hw.row (by repeat constructor)) (by omega)) rfl (fun V6=>zR6 ?_)
 refine zz0 (eP rfl rfl) ?_
 refine ik (fun c=>c=dM (gB ents tm) lc) rfl Tryz.call78 (fun w hw=>(rO lc _ 79 [.pointer (some ⟨b5,0,none⟩)] (Oo ents tm) (fun w'=>∃ l',HpOK (Bg.of w0) (rowE V6 36 am l' :: [cellE b5 [.func (.func 75) #[] #[.pointer (some ⟨b1,0,none⟩),.pointer (some ⟨b4,0,none⟩)]] 153,cellE b4 [.map (some bmap)] 141,mapE bmap cL tm,rowE V3 36 am lc,cellE b2 [.slice none 0 0,.slice none 0 0,.slice none 0 0,.slice none 0 0] 52,cellE b1 [Vi,Ve,Vu,Vb] 52]) w') (fun w w' l' ⟨l0,h⟩ m r=>⟨l',HpOK.mut h (.here _) m r⟩) Tryz.call79 (fun x y w' ⟨l0,h⟩=>B1 x y ents tm Vi Ve Vu Vb b1 b4 bmap b5 w' (cellE.cellsIn (h.ent _ (by repeat constructor)) (Ext.refl _)) (cellE.cellsIn (h.ent _ (by repeat constructor)) (Ext.refl _)) (mapE.in_ (h.ent _ (by repeat constructor))) (h.slF hE') (cellE.cellsIn (h.ent _ (by repeat constructor)) (Ext.refl _))) (by rw [Lh]; exact JW _) w ⟨lc,hw⟩ (hw.ent _ (.head _)) (by omega)).mono fun e w' ⟨q1,c,⟨q2,q3,q4⟩,q5,q6⟩=>⟨q1,c,by rw [Lh] at q2 q4; exact Ph (nn ents tm) q2 (Srt.all (by rw [q2.len]; exact q4)),q5,q6⟩) rfl (fun c2 hc2=>zR3 ?_)
 subst hc2
 refine aP (bS Tryz.zeroValue50 rfl (fun b7=>lN ?_))
 refine aR 36 am ?_
 refine dO (ι:=Nat × Value) (fun ⟨k,Vk⟩=>k≤(dM (gB ents tm) lc).length) (fun _=>_) (fun ⟨k,Vk⟩=>[cellE b7 [Vk] 50,rowE Vk 36 am (mU ((dM (gB ents tm) lc).take k)),rowE V6 36 am (dM (gB ents tm) lc),cellE b5 [.func (.func 75) #[] #[.pointer (some ⟨b1,0,none⟩),.pointer (some ⟨b4,0,none⟩)]] 153,cellE b4 [.map (some bmap)] 141,mapE bmap cL tm,rowE V3 36 am lc,cellE b2 [.slice none 0 0,.slice none 0 0,.slice none 0 0,.slice none 0 0] 52,cellE b1 [Vi,Ve,Vu,Vb] 52]) (fun ⟨k,Vk⟩=>[(35,.int .i64 (k:Nat))]) (fun ⟨k,Vk⟩=>(dM (gB ents tm) lc).length - k) (0,_) (Nat.zero_le _) (Front.c Front.nil) (fun i hi m hm=>?_)
 obtain ⟨k,Vk⟩:=i
 dsimp only at hi hm
 change Tr _ _ [cellE b7 [Vk] 50,rowE Vk 36 am (mU ((dM (gB ents tm) lc).take k)),rowE V6 36 am (dM (gB ents tm) lc),cellE b5 [.func (.func 75) #[] #[.pointer (some ⟨b1,0,none⟩),.pointer (some ⟨b4,0,none⟩)]] 153,cellE b4 [.map (some bmap)] 141,mapE bmap cL tm,rowE V3 36 am lc,cellE b2 [.slice none 0 0,.slice none 0 0,.slice none 0 0,.slice none 0 0] 52,cellE b1 [Vi,Ve,Vu,Vb] 52] ([(35,.int .i64 (k:Nat))] ++ _) _
 have hol:=Cb (nn ents tm) lc
 have hkl:=vp ((dM (gB ents tm) lc).take k)
 rw [List.length_take] at hkl
 have hoI:∀ x∈dM (gB ents tm) lc,InsOK x:=fun x hx=>hcI x (Hx hx)
 obtain ⟨kq,hkq⟩:∃ kq,kq=mU ((dM (gB ents tm) lc).take k):=⟨_,rfl⟩
 have hqI:∀ x∈kq,InsOK x:=fun x hx=>by
  rw [hkq] at hx
  exact hoI x (List.mem_of_mem_take (Ea hx))
 rw [← hkq] at hkl ⊢
 refine zR6 ?_
 refine af rfl (fun h8=>?_) (fun h8=>?_)
 ·refine zR8 ?_
  refine bS aJ rfl (fun b9=>?_)
  refine ad am rfl rfl aw ?_
  refine dy ?_
  refine ed (.of (ι:=Nat) (fun j=>j≤kq.length∧(kq.take j).any (kP ((dM (gB ents tm) lc).getD k default))=false) (fun _=>_) (fun j=>[cellE b9 (am.enc ((dM (gB ents tm) lc).getD k default)) 36,cellE b7 [Vk] 50,rowE Vk 36 am kq,rowE V6 36 am (dM (gB ents tm) lc),cellE b5 [.func (.func 75) #[] #[.pointer (some ⟨b1,0,none⟩),.pointer (some ⟨b4,0,none⟩)]] 153,cellE b4 [.map (some bmap)] 141,mapE bmap cL tm,rowE V3 36 am lc,cellE b2 [.slice none 0 0,.slice none 0 0,.slice none 0 0,.slice none 0 0] 52,cellE b1 [Vi,Ve,Vu,Vb] 52]) (fun j=>[(41,.int .i64 (j:Nat))]) (fun j=>kq.length - j)) 0 ⟨Nat.zero_le _,rfl⟩ (Front.c Front.nil) (fun j hi m hm=>?_)
  obtain ⟨hj1,hj2⟩:=hi
  refine zR6 ?_
  refine af rfl (fun h10=>?_) (fun h10=>?_)
  ·refine zR8 ?_
   refine bS aJ rfl (fun b11=>?_)
   refine ad am rfl rfl aw ?_
   refine zR6 ?_
   refine zz0 (ac rfl Tryz.call81 (fun w hw=>Cx ((dM (gB ents tm) lc).getD k default) (kq.getD j default) w (hoI _ (bB (by omega))) (hqI _ (bB (by omega))))) (zR2 ?_)
   refine af rfl (fun h12=>?_) (fun h12=>?_)
   ·refine rz (kb rfl (zR2 ?_))
    refine kb rfl (zR3 ?_)
    skip
    refine aP (zz0 (aZ rfl rfl) (zR3 ?_))
    have hst:=AV (l:=dM (gB ents tm) lc) (k:=k) (by omega)
    rw [← hkq,gA,if_pos (List.any_eq_true.2 ⟨_,bB (k:=j) (by omega),by assumption⟩)] at hst
    rw [← hst]
    refine bC (k+1,_) (Front.c Front.nil) (zz9 18 rfl) (o:=(by show k+1≤_; omega))
   refine fO (eK (az (aP (zz0 (aZ rfl rfl) (zR3 ?_)))))
   refine bC (j+1) (Front.c Front.nil) (zz9 10 rfl) (o:=⟨by omega,by rw [any_take_succ (by omega),hj2,Bool.false_or]; assumption⟩)
  refine zR8 ?_
  refine g7 (E:=am) _ rfl rfl cC aw aJ (fun V13=>?_)
  refine zz3 rfl rfl cC l7 (fun V14=>?_)
  refine cG (.head _) (fun pz qz hpv=>?_)
  subst hpv
  refine ka rfl rfl oz (by repeat constructor) (by rfl) (by rfl) (by first|exact List.all_eq_true.1 rfl|exact Enc.one _ _) rfl (zR3 ?_)
  skip
  refine aP (zz0 (aZ rfl rfl) (zR3 ?_))
  obtain rfl:j=kq.length:=by omega
  rw [List.take_length] at hj2
  have hst:=AV (l:=dM (gB ents tm) lc) (k:=k) (by omega)
  rw [← hkq,gA,if_neg (by rw [hj2]; simp)] at hst
  rw [← hst]
  refine bC (k+1,_) (Front.c Front.nil) (zz9 16 rfl) (o:=(by show k+1≤_; omega))
 refine zR6 ?_
 obtain rfl:k=(dM (gB ents tm) lc).length:=by omega
 rw [List.take_length] at *
 subst hkq
 have hkl:=vp (dM (gB ents tm) lc)
 have hol:=Cb (nn ents tm) lc
 refine zR2 ?_
 refine dz rfl Tryz.call82 (by repeat constructor) (fun w hw=>tY Tryz.sortIns am 36 di aw m9 mn 83 [] (mU (dM (gB ents tm) lc)) _ w Tryz.call83 (hw.ent _ (by repeat constructor)) (by omega) (fun x y w' _=>B0 x y w') (pZ w 83 #[])) rfl (zR3 ?_)
 obtain ⟨kp,hkp⟩:∃ kp,kp=nY (Go.Proofs.ltOf m9) (mU (dM (gB ents tm) lc)):=⟨_,rfl⟩
 rw [← hkp]
 refine aP (zz0 (eP rfl rfl) (xz ?_))
 refine aR 23 aa ?_
 refine dO (ι:=Nat × Value) (fun ⟨k,Vr⟩=>k≤lc.length) (fun _=>_) (fun ⟨k,Vr⟩=>[rowE Vr 23 aa (qd (lc.take k) kp),cellE b7 [Vk] 50,rowE Vk 36 am kp,rowE V6 36 am (dM (gB ents tm) lc),cellE b5 [.func (.func 75) #[] #[.pointer (some ⟨b1,0,none⟩),.pointer (some ⟨b4,0,none⟩)]] 153,cellE b4 [.map (some bmap)] 141,mapE bmap cL tm,rowE V3 36 am lc,cellE b2 [.slice none 0 0,.slice none 0 0,.slice none 0 0,.slice none 0 0] 52,cellE b1 [Vi,Ve,Vu,Vb] 52]) (fun ⟨k,Vr⟩=>[(59,.int .i64 (k:Nat)),(14,Vr)]) (fun ⟨k,Vr⟩=>lc.length - k) (0,_) (Nat.zero_le _) (Front.c (Front.c Front.nil)) (fun i hi m hm=>?_)
 obtain ⟨k,Vr⟩:=i
 dsimp only at hi hm
 change Tr _ _ [rowE Vr 23 aa (qd (lc.take k) kp),cellE b7 [Vk] 50,rowE Vk 36 am kp,rowE V6 36 am (dM (gB ents tm) lc),cellE b5 [.func (.func 75) #[] #[.pointer (some ⟨b1,0,none⟩),.pointer (some ⟨b4,0,none⟩)]] 153,cellE b4 [.map (some bmap)] 141,mapE bmap cL tm,rowE V3 36 am lc,cellE b2 [.slice none 0 0,.slice none 0 0,.slice none 0 0,.slice none 0 0] 52,cellE b1 [Vi,Ve,Vu,Vb] 52] ([(59,.int .i64 (k:Nat)),(14,Vr)] ++ _) _
 have hrl:=NB (lc.take k) kp
 rw [List.length_take] at hrl
 refine zR6 ?_
 refine af rfl (fun h15=>?_) (fun h15=>?_)
 ·refine zR8 ?_
  refine bS aJ rfl (fun b16=>?_)
  refine ad am rfl rfl aw ?_
  refine zR7 ?_
  refine zz0 (iS rfl rfl Tryz.call85 (fun w hw=>qO (lc.getD k default).addr kp Vk b7 w (cellE.cellsIn (hw.ent _ (by repeat constructor)) (Ext.refl _)) (hw.row (by repeat constructor)))) (zR3 ?_)
  refine af rfl (fun h17=>?_) (fun h17=>?_)
  ·refine zR4 ?_
   refine g7 (E:=aa) _ rfl rfl au aj ba (fun V18=>?_)
   refine zz3 rfl rfl au dA (fun V19=>?_)
   refine zR5 ?_
   refine zz0 (aZ rfl rfl) (zR3 ?_)
   rw [← NA (by omega) (by simp_all)]
   refine bC (k+1,_) (Front.c (Front.c Front.nil)) (zz9 19 rfl) (o:=(by show k+1≤_; omega))
  refine fO (eK (az (aP (zz0 (aZ rfl rfl) (zR3 ?_)))))
  rw [← O9 (by omega) (by simp_all)]
  refine bC (k+1,_) (Front.c (Front.c Front.nil)) (zz9 13 rfl) (o:=(by show k+1≤_; omega))
 refine zR5 ?_
 obtain rfl:k=lc.length:=by omega
 rw [List.take_length] at *
 refine fq (V:=Vk) (fun pa1 pc1 hpv=>?_)
 subst hpv
 refine ga (ι:=Nat × Option Addr × Nat) (fun ⟨b17,pb,cb⟩=>True) (fun _=>Bg.of w0) (fun ⟨b17,pb,cb⟩=>[cellE b17 [(.slice pa1 kp.length pc1),.slice none 0 0,.slice none 0 0,(.slice pb bad.length cb)] 52,rowE (.slice pb bad.length cb) 23 aa bad,rowE Vr 23 aa (qd lc kp),cellE b7 [(.slice pa1 kp.length pc1)] 50,rowE (.slice pa1 kp.length pc1) 36 am kp,rowE V6 36 am (dM (gB ents tm) lc),cellE b5 [.func (.func 75) #[] #[.pointer (some ⟨b1,0,none⟩),.pointer (some ⟨b4,0,none⟩)]] 153,cellE b4 [.map (some bmap)] 141,mapE bmap cL tm,rowE V3 36 am lc,cellE b2 [.slice none 0 0,.slice none 0 0,.slice none 0 0,.slice none 0 0] 52,cellE b1 [Vi,Ve,Vu,Vb] 52]) (fun ⟨b17,pb,cb⟩=>[(17,.pointer (some ⟨b17,0,none⟩))]) ?_ (fun i hi=>?_)
 ·skip
  skip
  refine aL ([rowE Vr 23 aa (qd lc kp),cellE b7 [(.slice pa1 kp.length pc1)] 50,rowE (.slice pa1 kp.length pc1) 36 am kp,rowE V6 36 am (dM (gB ents tm) lc),cellE b5 [.func (.func 75) #[] #[.pointer (some ⟨b1,0,none⟩),.pointer (some ⟨b4,0,none⟩)]] 153,cellE b4 [.map (some bmap)] 141,mapE bmap cL tm,rowE V3 36 am lc,cellE b2 [.slice none 0 0,.slice none 0 0,.slice none 0 0,.slice none 0 0] 52,cellE b1 [Vi,Ve,Vu,Vb] 52]) 7 rfl ak ?_
  refine zz1 0 rfl (cH rfl) ?_
  refine zz1 1 rfl (aD rfl) ?_
  refine zz1 2 rfl (cH rfl) ?_
  refine lH [3,5] (fun iq hq=>?_)
  rcases List.mem_cons.1 hq with rfl|hq
  ·skip
   refine bY rfl ?_
   refine dj rfl j9 (fun w hw=>jY bad Vb w (hw.slF hB') (by omega)) rfl (fun V20=>?_)
   refine cG (.head _) (fun pb cb hpv=>?_)
   subst hpv
   refine ay ?_
   refine zz1 4 rfl (aK (vs:=[(0,_),(3,_)]) rfl rfl rfl) ?_
   refine ao 5 rfl ?_
   refine bS dE rfl (fun b21=>?_)
   refine ay ?_
   refine ao 6 rfl ?_
   refine zz7 rfl rfl cp ?_
   refine ay ?_
   refine dK (az ?_)
   refine aQ (_,_,_) (Front.c Front.nil) (zz9 6 rfl) (o:=trivial)
  obtain rfl:=List.mem_singleton.1 hq
  refine bY rfl ?_
  refine bS dE rfl (fun b22=>?_)
  refine ay ?_
  refine ao 3 rfl ?_
  refine dj rfl j9 (fun w hw=>jY bad Vb w (hw.slF hB') (by omega)) rfl (fun V23=>?_)
  refine cG (.head _) (fun pb cb hpv=>?_)
  subst hpv
  refine ay ?_
  refine zz1 4 rfl (aK (vs:=[(0,_),(3,_)]) rfl rfl rfl) ?_
  refine ao 6 rfl ?_
  refine zz7 rfl rfl cp ?_
  refine ay ?_
  refine dK (az ?_)
  refine aQ (_,_,_) (Front.c Front.nil) (zz9 6 rfl) (o:=trivial)
 obtain ⟨b17,pb,cb⟩:=i
 replace hi:True:=hi
 change Tr _ _ [cellE b17 [(.slice pa1 kp.length pc1),.slice none 0 0,.slice none 0 0,(.slice pb bad.length cb)] 52,rowE (.slice pb bad.length cb) 23 aa bad,rowE Vr 23 aa (qd lc kp),cellE b7 [(.slice pa1 kp.length pc1)] 50,rowE (.slice pa1 kp.length pc1) 36 am kp,rowE V6 36 am (dM (gB ents tm) lc),cellE b5 [.func (.func 75) #[] #[.pointer (some ⟨b1,0,none⟩),.pointer (some ⟨b4,0,none⟩)]] 153,cellE b4 [.map (some bmap)] 141,mapE bmap cL tm,rowE V3 36 am lc,cellE b2 [.slice none 0 0,.slice none 0 0,.slice none 0 0,.slice none 0 0] 52,cellE b1 [Vi,Ve,Vu,Vb] 52] ([(17,.pointer (some ⟨b17,0,none⟩))] ++ _) _
 refine zR2 ?_
 skip
 refine zR8 ?_
 refine aR 23 aa ?_
 refine dO (ι:=Nat × Value) (fun ⟨k,Ve2⟩=>k≤ents.length) (fun _=>_) (fun ⟨k,Ve2⟩=>[cellE b17 [(.slice pa1 kp.length pc1),Ve2,.slice none 0 0,(.slice pb bad.length cb)] 52,rowE Ve2 23 aa ((ents.take k).filter (inK kp)),rowE (.slice pb bad.length cb) 23 aa bad,rowE Vr 23 aa (qd lc kp),cellE b7 [(.slice pa1 kp.length pc1)] 50,rowE (.slice pa1 kp.length pc1) 36 am kp,rowE V6 36 am (dM (gB ents tm) lc),cellE b5 [.func (.func 75) #[] #[.pointer (some ⟨b1,0,none⟩),.pointer (some ⟨b4,0,none⟩)]] 153,cellE b4 [.map (some bmap)] 141,mapE bmap cL tm,rowE V3 36 am lc,cellE b2 [.slice none 0 0,.slice none 0 0,.slice none 0 0,.slice none 0 0] 52,cellE b1 [Vi,Ve,Vu,Vb] 52]) (fun ⟨k,Ve2⟩=>[(82,.int .i64 (k:Nat))]) (fun ⟨k,Ve2⟩=>ents.length - k) (0,_) (Nat.zero_le _) (Front.c Front.nil) (fun i hi m hm=>?_)
 obtain ⟨k,Ve2⟩:=i
 dsimp only at hi hm
 change Tr _ _ [cellE b17 [(.slice pa1 kp.length pc1),Ve2,.slice none 0 0,(.slice pb bad.length cb)] 52,rowE Ve2 23 aa ((ents.take k).filter (inK kp)),rowE (.slice pb bad.length cb) 23 aa bad,rowE Vr 23 aa (qd lc kp),cellE b7 [(.slice pa1 kp.length pc1)] 50,rowE (.slice pa1 kp.length pc1) 36 am kp,rowE V6 36 am (dM (gB ents tm) lc),cellE b5 [.func (.func 75) #[] #[.pointer (some ⟨b1,0,none⟩),.pointer (some ⟨b4,0,none⟩)]] 153,cellE b4 [.map (some bmap)] 141,mapE bmap cL tm,rowE V3 36 am lc,cellE b2 [.slice none 0 0,.slice none 0 0,.slice none 0 0,.slice none 0 0] 52,cellE b1 [Vi,Ve,Vu,Vb] 52] ([(82,.int .i64 (k:Nat))] ++ _) _
 have hfl:=List.length_filter_le (inK kp) (ents.take k)
 rw [List.length_take] at hfl
 refine zR6 ?_
 refine af rfl (fun h24=>?_) (fun h24=>?_)
 ·refine qE ?_
  refine zz0 (iS rfl rfl Tryz.call85 (fun w hw=>qO (ents.getD k default) kp _ b7 w (cellE.cellsIn (hw.ent _ (by repeat constructor)) (Ext.refl _)) (hw.row (by repeat constructor)))) (zR2 ?_)
  refine af rfl (fun h25=>?_) (fun h25=>?_)
  ·refine zR4 ?_
   refine g7 (E:=aa) _ rfl rfl au aj ba (fun V26=>?_)
   refine zz3 rfl rfl au dA (fun V27=>?_)
   refine cG (.head _) (fun pz qz hpv=>?_)
   subst hpv
   refine zz0 (aD rfl) (zz4 (cs':=[_,_,_,_]) rfl rfl fS rfl ?_)
   refine fV (eK (az (aP (zz0 (aZ rfl rfl) (zR3 ?_)))))
   rw [← mN (by omega) (by assumption)]
   refine bC (k+1,_) (Front.c Front.nil) (zz9 16 rfl) (o:=(by show k+1≤_; omega))
  refine fO (eK (az (aP (zz0 (aZ rfl rfl) (zR3 ?_)))))
  rw [← mO (p:=inK kp) (by omega) (by assumption)]
  refine bC (k+1,_) (Front.c Front.nil) (zz9 10 rfl) (o:=(by show k+1≤_; omega))
 refine zR7 ?_
 obtain rfl:k=ents.length:=by omega
 rw [List.take_length] at *
 refine fq (V:=Ve2) (fun pa3 pc3 hpv=>?_)
 subst hpv
 refine zR8 ?_
 refine aR 23 aa ?_
 refine dO (ι:=Nat × Value) (fun ⟨k,Vu2⟩=>k≤unk.length) (fun _=>_) (fun ⟨k,Vu2⟩=>[cellE b17 [(.slice pa1 kp.length pc1),(.slice pa3 (ents.filter (inK kp)).length pc3),Vu2,(.slice pb bad.length cb)] 52,rowE Vu2 23 aa ((unk.take k).filter (inK kp)),rowE (.slice pa3 (ents.filter (inK kp)).length pc3) 23 aa (ents.filter (inK kp)),rowE (.slice pb bad.length cb) 23 aa bad,rowE Vr 23 aa (qd lc kp),cellE b7 [(.slice pa1 kp.length pc1)] 50,rowE (.slice pa1 kp.length pc1) 36 am kp,rowE V6 36 am (dM (gB ents tm) lc),cellE b5 [.func (.func 75) #[] #[.pointer (some ⟨b1,0,none⟩),.pointer (some ⟨b4,0,none⟩)]] 153,cellE b4 [.map (some bmap)] 141,mapE bmap cL tm,rowE V3 36 am lc,cellE b2 [.slice none 0 0,.slice none 0 0,.slice none 0 0,.slice none 0 0] 52,cellE b1 [Vi,Ve,Vu,Vb] 52]) (fun ⟨k,Vu2⟩=>[(99,.int .i64 (k:Nat))]) (fun ⟨k,Vu2⟩=>unk.length - k) (0,_) (Nat.zero_le _) (Front.c Front.nil) (fun i hi m hm=>?_)
 obtain ⟨k,Vu2⟩:=i
 dsimp only at hi hm
 change Tr _ _ [cellE b17 [(.slice pa1 kp.length pc1),(.slice pa3 (ents.filter (inK kp)).length pc3),Vu2,(.slice pb bad.length cb)] 52,rowE Vu2 23 aa ((unk.take k).filter (inK kp)),rowE (.slice pa3 (ents.filter (inK kp)).length pc3) 23 aa (ents.filter (inK kp)),rowE (.slice pb bad.length cb) 23 aa bad,rowE Vr 23 aa (qd lc kp),cellE b7 [(.slice pa1 kp.length pc1)] 50,rowE (.slice pa1 kp.length pc1) 36 am kp,rowE V6 36 am (dM (gB ents tm) lc),cellE b5 [.func (.func 75) #[] #[.pointer (some ⟨b1,0,none⟩),.pointer (some ⟨b4,0,none⟩)]] 153,cellE b4 [.map (some bmap)] 141,mapE bmap cL tm,rowE V3 36 am lc,cellE b2 [.slice none 0 0,.slice none 0 0,.slice none 0 0,.slice none 0 0] 52,cellE b1 [Vi,Ve,Vu,Vb] 52] ([(99,.int .i64 (k:Nat))] ++ _) _
 have hfl:=List.length_filter_le (inK kp) (unk.take k)
 rw [List.length_take] at hfl
 refine zR6 ?_
 refine af rfl (fun h28=>?_) (fun h28=>?_)
 ·refine qE ?_
  refine zz0 (iS rfl rfl Tryz.call85 (fun w hw=>qO (unk.getD k default) kp _ b7 w (cellE.cellsIn (hw.ent _ (by repeat constructor)) (Ext.refl _)) (hw.row (by repeat constructor)))) (zR2 ?_)
  refine af rfl (fun h29=>?_) (fun h29=>?_)
  ·refine zR4 ?_
   refine g7 (E:=aa) _ rfl rfl au aj ba (fun V30=>?_)
   refine zz3 rfl rfl au dA (fun V31=>?_)
   refine cG (.head _) (fun pz qz hpv=>?_)
   subst hpv
   refine zz0 (aD rfl) (zz4 (cs':=[_,_,_,_]) rfl rfl fS rfl ?_)
   refine fV (eK (az (aP (zz0 (aZ rfl rfl) (zR3 ?_)))))
   rw [← mN (by omega) (by assumption)]
   refine bC (k+1,_) (Front.c Front.nil) (zz9 16 rfl) (o:=(by show k+1≤_; omega))
  refine fO (eK (az (aP (zz0 (aZ rfl rfl) (zR3 ?_)))))
  rw [← mO (p:=inK kp) (by omega) (by assumption)]
  refine bC (k+1,_) (Front.c Front.nil) (zz9 10 rfl) (o:=(by show k+1≤_; omega))
 refine zR6 ?_
 obtain rfl:k=unk.length:=by omega
 rw [List.take_length] at *
 refine fq (V:=Vu2) (fun pa4 pc4 hpv=>?_)
 subst hpv
 refine zR3 ?_
 refine zz7 rfl rfl cp ?_
 refine zR5 ?_
 refine kJ Tryz.results29 rfl rfl jO cp (fun w' hw=>?_)
 subst hkp htm hlc
 exact ⟨(_,_,_,_,_),rfl,hw.b0,hw.ents (w:=w0) (Bg.le.refl _) (by repeat' constructor)⟩
end Go.Proofs.YtiajjbhcpeadfaaGreat
namespace Go.Proofs.YtiajjbhcpeadfaaGreat
open Go Go.HL Go.RowKit
theorem Cm (i:Ins) (w:World) :
  Cr Tryz.prog 137 #[.agg (am.enc i).toArray] w (.bool (s8 i.op)):=by
 refine enter Tryz.func137 rfl Tryz.ntmps137 rfl (zR2 ?_)
 refine cm rfl rfl (fun b1=>zR9 ?_)
 apply cE 4 6 10 (fun hF2 hF2'=>?_) ?_; rotate_right
 ·exact zE
 refine zz0 (ae rfl) ?_
 apply cE 4 11 15 (fun hF3 hF3'=>?_) ?_; rotate_right
 ·exact zE
 refine zR4 ?_
 exact ah Tryz.results137 rfl fun w' hw=>⟨by unfold s8; congr 2; rw [Bool.eq_iff_iff]; simp [or_assoc],hw.b0⟩
theorem Kh (i:Ins) (w:World) (hI:InsOK i) :
  Calls Tryz.prog 136 #[.agg (am.enc i).toArray] w (fun e w'=>∃ V',e=.returned V'∧Ext w w'∧je w w' 23 aa (co i) V'):=by
 refine enter Tryz.func136 rfl Tryz.ntmps136 rfl (zR2 ?_)
 refine cm rfl rfl (fun b1=>zR7 ?_)
 refine zz0 (ac rfl lU (fun w hw=>lO i w hI)) (zR3 ?_)
 refine af rfl (fun h2=>?_) (fun h2=>?_)
 ·refine bE (aR 23 aa (zR6 ?_))
  exact ah Tryz.results136 rfl fun w' hw=>⟨_,rfl,hw.b0,by rw [show co i=[] by unfold co; rw [if_neg (by simp_all)]]; exact hw.new (.head _)⟩
 refine zR3 ?_
 refine aR 23 aa (zR4 ?_)
 refine fC (.of (ι:=Value) (fun V1=>True) (fun _=>Bg.of w) (fun V1=>[rowE V1 23 aa (if (bW i).2=true then [(bW i).1] else []),cellE b1 (am.enc i) 36]) (fun V1=>[(3,V1)])) ?_ (fun V1 hi=>?_)
 ·skip
  refine zR3 ?_
  refine zz0 (ac rfl Tryz.call144 (fun w hw=>tl i w)) (fu ?_)
  refine af rfl (fun h3=>?_) (fun h3=>?_)
  ·refine zR3 ?_
   refine g7 (E:=aa) (bW i).1 rfl rfl au aj ba (fun V4=>?_)
   refine zz3 rfl rfl au dA (fun V5=>?_)
   refine zR3 ?_
   refine fD (l':=if (bW i).2=true then [(bW i).1] else []) (by rw [if_pos (by assumption)]; rfl) ?_
   refine aQ _ (Front.c Front.nil) (zz9 13 rfl) (o:=trivial)
  refine mG (fD (l':=if (bW i).2=true then [(bW i).1] else []) (by rw [if_neg (by simp_all)]) ?_)
  refine aQ _ (Front.c Front.nil) (zz9 8 rfl) (o:=trivial)
 skip
 have htl:(if (bW i).2=true then [(bW i).1] else []).length≤1:=by split <;> simp
 refine fC (.of (ι:=Value) (fun V2=>True) (fun _=>Bg.of w) (fun V2=>[rowE V2 23 aa ((if (bW i).2=true then [(bW i).1] else []) ++ (if ke i=true then [] else [aV i])),cellE b1 (am.enc i) 36]) (fun V2=>[(3,V2)])) ?_ (fun V2 hi=>?_)
 ·skip
  refine zR3 ?_
  refine zz0 (ac rfl Tryz.call195 (fun w hw=>EE i w)) (zR3 ?_)
  refine af rfl (fun h6=>?_) (fun h6=>?_)
  ·refine zR3 ?_
   refine zz0 (ac rfl lX (fun w hw=>nw i w hI)) ?_
   refine g7 (E:=aa) (aV i) rfl rfl au aj ba (fun V7=>?_)
   refine zz3 rfl rfl au dA (fun V8=>?_)
   refine zR3 ?_
   refine fD (l':=(if (bW i).2=true then [(bW i).1] else []) ++ (if ke i=true then [] else [aV i])) (by rw [if_neg (c:=ke i=true) (by simp_all)]) ?_
   refine aQ _ (Front.c Front.nil) (zz9 9 rfl) (o:=trivial)
  refine mG (fD (l':=(if (bW i).2=true then [(bW i).1] else []) ++ (if ke i=true then [] else [aV i])) (by rw [if_pos (c:=ke i=true) (by simp_all),List.append_nil]) ?_)
  refine aQ _ (Front.c Front.nil) (zz9 3 rfl) (o:=trivial)
 skip
 refine zR7 ?_
 exact ah Tryz.results136 rfl fun w' hw=>⟨_,rfl,hw.b0,by rw [show co i=_ by unfold co; rw [if_pos (by simp_all)]]; exact hw.new (.head _)⟩
theorem Om (l:List SecV) (V:Value) (a:UInt32) (w:World) (hV:Sl (hp w) cD l V) (hB:SecB l) (hD:DataIn (hp w) l) :
  Cr Tryz.prog 68 #[V,.int .u32 a.toNat] w (.tuple #[.agg (am.enc (atP l a).1).toArray,.bool (atP l a).2]):=by
 have hV':Sl (Bg.of w).blk cD l V:=hV
 have hlen:=hB.1
 have hf:=gC (l:=l) (a:=a)
 have ha:=a.toNat_lt
 refine enter Tryz.func68 rfl Tryz.ntmps68 rfl (zR2 ?_)
 refine bS aJ rfl (fun b1=>zR7 ?_)
 refine zz0 (ac rfl rx (fun w hw=>uA l V a w (hw.slF hV') hB)) (zR9 ?_)
 apply cE 7 15 22 (fun hF2 hF2'=>?_) ?_; rotate_right
 ·refine zR2 ?_
  refine zz5 hF2 (pO rfl rfl) (zz5 hF2 (aD rfl) ?_)
  refine zz5 hF2 (l6 rfl (by assumption) k7 (by omega) (by rfl)) ?_
  exact zE
 refine zR2 ?_
 refine af rfl (fun h3=>?_) (fun h3=>?_)
 ·refine eO (zz0 (aK (vs:=[]) rfl rfl (lg)) ?_)
  refine ad am rfl rfl aw ?_
  refine zR5 ?_
  refine kJ Tryz.results68 rfl rfl di aw (fun w' hw=>?_)
  exact ⟨by unfold atP; rw [if_pos (by unfold DX; simp_all)]; rfl,hw.b0⟩
 refine zR3 ?_
 have hna:DX l a=false:=by unfold DX; rw [Bool.or_eq_false_iff]; exact ⟨decide_eq_false h3.1,by rw [h3.2]; rfl⟩
 have hin:=om.1 (mD (l:=l) (a:=a) (by omega))
 have hen:m6 (l.getD (bG l a).toNat default)≤((l.getD (bG l a).toNat default).addr.toNat:Int)+(l.getD (bG l a).toNat default).data.length:=by unfold m6; omega
 have hsub:(a - (l.getD (bG l a).toNat default).addr).toNat=a.toNat - (l.getD (bG l a).toNat default).addr.toNat:=UInt32.toNat_sub_of_le _ _ (UInt32.le_iff_toNat_le.2 hin.1)
 have hdl:=hB.at (k:=(bG l a).toNat) (by omega)
 have hDk:Sl (Bg.of w).blk cX (l.getD (bG l a).toNat default).data (.slice (l.getD (bG l a).toNat default).dp (l.getD (bG l a).toNat default).data.length (l.getD (bG l a).toNat default).dc):=hD _ (bB (by omega))
 refine ip ak (zT2 ?_)
 refine aB (pO rfl rfl) (aB (aD rfl) ?_)
 refine aB (l6 rfl (by assumption) Tryz.isAgg47 (by omega) (by rfl)) (zT3 ?_)
 refine aB (pO rfl rfl) (aB (aD rfl) ?_)
 refine aB (l6 rfl (by assumption) dG (by omega) (by rfl)) (aB (gR rfl rfl) ?_)
 refine aB (Im (lv:=some (_,_)) (hv:=none) rfl rfl rfl aS eJ) (zT4 ?_)
 have hs1:=Sl.resl (l:=(a - (l.getD (bG l a).toNat default).addr).toNat) (h:=(l.getD (bG l a).toNat default).data.length) hDk (by omega) (Nat.le_refl _)
 rw [List.take_length] at hs1
 have hs1l:(List.drop (a - (l.getD (bG l a).toNat default).addr).toNat (l.getD (bG l a).toNat default).data).length=(l.getD (bG l a).toNat default).data.length - (a - (l.getD (bG l a).toNat default).addr).toNat:=List.length_drop
 have hs3:=Sl.resl (l:=0) (h:=(min (((l.getD (bG l a).toNat default).data.drop (a - (l.getD (bG l a).toNat default).addr).toNat).length:Int) 6).toNat) hs1 (Nat.zero_le _) (by omega)
 rw [List.drop_zero,show ((l.getD (bG l a).toNat default).data.drop (a - (l.getD (bG l a).toNat default).addr).toNat).take (min (((l.getD (bG l a).toNat default).data.drop (a - (l.getD (bG l a).toNat default).addr).toNat).length:Int) 6).toNat=BI l a by unfold BI; rw [List.take_eq_take_iff]; omega] at hs3
 refine zR5 ?_
 refine zz0 (Im (lv:=none) (hv:=some (_,_)) rfl rfl rfl aS eJ) (zz0 (ae rfl) ?_)
 refine zz0 (ac rfl Tryz.call135 (fun w hw=>yV (BI l a) _ a w (hw.slF hs3))) (zR3 ?_)
 refine bS aJ rfl (fun b4=>?_)
 refine ad am rfl rfl aw ?_
 refine zR8 ?_
 refine ad am rfl rfl aw ?_
 refine zR4 ?_
 refine kJ Tryz.results68 rfl rfl di aw (fun w' hw=>?_)
 exact ⟨by unfold atP; rw [if_neg (by simp [hna])]; rfl,hw.b0⟩
theorem Gx (bw bi bb be bu:Nat) (VT VP:Value) (ts:List TabV) (at_:List UInt32) (a:UInt32) (w:World) (hcw:CellsIn (hp w) bw [.map (some bi),.map (some bb),.map (some be),.map (some bu),VT,VP]) (hT:Sl (hp w) gr ts VT) (hP:Sl (hp w) aa at_ VP) (hl:ts.length=at_.length) :
  Cr Tryz.prog 138 #[.pointer (some ⟨bw,0,none⟩),.int .u32 a.toNat] w (.tuple #[vm ts at_ a,.bool (fK ts at_ a).isSome]):=by
 have hcw':CellsIn (Bg.of w).blk bw [.map (some bi),.map (some bb),.map (some be),.map (some bu),VT,VP]:=hcw
 have hT':Sl (Bg.of w).blk gr ts VT:=hT
 have hP':Sl (Bg.of w).blk aa at_ VP:=hP
 have hib:=gi (fun x=>decide (a=x)) at_ 0
 refine enter Tryz.func138 rfl Tryz.ntmps138 rfl (dy ?_)
 refine zz0 (lh rfl Tryz.isAgg31) (zz0 (ae rfl) ?_)
 refine zz0 (ac rfl Tryz.call145 (fun w hw=>A0 at_ VP a w (hw.slF hP'))) (df ?_)
 refine af rfl (fun h1=>?_) (fun h1=>?_)
 ·refine zR8 ?_
  exact bV Tryz.results138 rfl rfl fun w' hw=>⟨by rw [AS (by omega),AT (by omega)]; rfl,hw.b0⟩
 refine zR7 ?_
 refine zz0 (lh rfl Tryz.isAgg53) (zR8 ?_)
 exact bV Tryz.results138 rfl rfl fun w' hw=>⟨by rw [yx (by omega),yy (by omega)]; rfl,hw.b0⟩
theorem Gt (bw bi bb be bu:Nat) (VT VP:Value) (ts:List TabV) (at_:List UInt32) (i:Ins) (ents unk:List (UInt32 × Bool)) (w:World) (ho:OwnAt w [mapE be cL ents,mapE bu cL unk]) (hcw:CellsIn (Bg.lessB w [be,bu] 0).blk bw [.map (some bi),.map (some bb),.map (some be),.map (some bu),VT,VP]) (hT:Sl (Bg.lessB w [be,bu] 0).blk gr ts VT) (hTI:TabIn (Bg.lessB w [be,bu] 0).blk ts) (hTB:s9 ts) (hP:Sl (Bg.lessB w [be,bu] 0).blk aa at_ VP) (hl:ts.length=at_.length) (hI:InsOK i) :
  Calls Tryz.prog 69 #[.pointer (some ⟨bw,0,none⟩),.agg (am.enc i).toArray] w (fun e w'=>∃ V:Value,e=.returned V∧Upd 0 w w' (aT [mapE be cL ents,mapE bu cL unk]) [rowE V 23 aa (lM ts at_ i),mapE be cL (ix ents (lx ts at_ i)),mapE bu cL (if rK ts at_ i=true then eH unk i.addr true else unk)]∧True):=by
 have hKS:=Lk hTI hTB (at_:=at_) (a:=i.addr) hl
 have hkl:=vl hTB at_ i.addr
 have hsl:=lr i
 refine iW (L:=[mapE be cL ents,mapE bu cL unk]) ho rfl (Nat.zero_le _) Tryz.func69 rfl Tryz.ntmps69 rfl (zR2 ?_)
 refine cm rfl rfl (fun b1=>zR6 ?_)
 refine dj rfl Tryz.call136 (fun w hw=>Kh i w hI) rfl (fun V2=>zR3 ?_)
 refine fC (.of (ι:=List (UInt32 × Bool)) (fun m1=>m1=(if i.op=23 then eH ents i.imm true else ents)) (fun _=>(Bg.lessB w [be,bu] 0)) (fun m1=>[rowE V2 23 aa (co i),mapE be cL m1,mapE bu cL unk,cellE b1 (am.enc i) 36]) (fun m1=>[])) ?_ (fun m1 hi=>?_)
 ·skip
  refine zR7 ?_
  refine af rfl (fun h3=>?_) (fun h3=>?_)
  ·refine fE 0 6 ak ?_
   refine aG (zT3 ?_)
   refine aB (lh rfl fU) (zT3 ?_)
   refine fP true rfl rfl rfl (by repeat constructor) dF an rfl (zR2 ?_)
   refine aQ _ Front.nil (zz9 9 rfl) (o:=(by show _=_; rw [if_pos (by assumption)]))
  refine zR2 ?_
  refine aQ _ Front.nil (zz9 3 rfl) (o:=(by show _=_; rw [if_neg (by assumption)]))
 skip
 have hm1:=hi
 refine zR4 ?_
 refine zz0 (ac rfl Tryz.call137 (fun w hw=>Cm i w)) (zR3 ?_)
 refine af rfl (fun h4=>?_) (fun h4=>?_)
 ·refine zR8 ?_
  refine ah Tryz.results69 rfl (fun w' hw=>?_)
  have hb1:lM ts at_ i=co i:=by unfold lM; rw [if_neg (by simp_all),List.append_nil]
  have hb2:ix ents (lx ts at_ i)=m1:=GH hm1 (by simp_all)
  have hb3:rK ts at_ i=false:=by unfold rK; simp_all
  exact ⟨_,rfl,by rw [hb1,hb2,hb3,if_neg (by decide)]; exact hw.upd (Bg.le.refl _) (by repeat' constructor),trivial⟩
 refine zR7 ?_
 refine zz0 (ac rfl Tryz.call138 (fun w hw=>Gx bw bi bb be bu VT VP ts at_ i.addr w (hcw.mono hw.bg) (hw.slF hT) (hw.slF hP) hl)) (zR7 ?_)
 refine fC (.of (ι:=List (UInt32 × Bool)) (fun u1=>u1=(if (fK ts at_ i.addr).isSome=true then unk else eH unk i.addr true)) (fun _=>(Bg.lessB w [be,bu] 0)) (fun u1=>[rowE V2 23 aa (co i),mapE be cL m1,mapE bu cL u1,cellE b1 (am.enc i) 36]) (fun u1=>[])) ?_ (fun u1 hi=>?_)
 ·skip
  refine zR6 ?_
  refine af rfl (fun h5=>?_) (fun h5=>?_)
  ·refine fE 0 6 ak ?_
   refine aG (zT3 ?_)
   refine aB (lh rfl fU) (zT3 ?_)
   refine fP true rfl rfl rfl (by repeat constructor) dF an rfl (zR2 ?_)
   refine aQ _ Front.nil (zz9 8 rfl) (o:=(by show _=_; rw [if_neg (by simp_all)]))
  refine zR2 ?_
  refine aQ _ Front.nil (zz9 2 rfl) (o:=(by show _=_; rw [if_pos (by assumption)]))
 skip
 have hu1:=hi
 refine fC (.of (ι:=List (UInt32 × Bool)) (fun m2=>m2=if i.op=24 then ix m1 ((fK ts at_ i.addr).getD []) else m1) (fun _=>(Bg.lessB w [be,bu] 0)) (fun m2=>[rowE V2 23 aa (co i),mapE be cL m2,mapE bu cL u1,cellE b1 (am.enc i) 36]) (fun m2=>[])) ?_ (fun m2 hi=>?_)
 ·skip
  refine zR7 ?_
  refine af rfl (fun h6=>?_) (fun h6=>?_)
  ·refine zR8 ?_
   refine ed (.of (ι:=Nat) (fun k=>k≤((fK ts at_ i.addr).getD []).length) (fun _=>(Bg.lessB w [be,bu] 0)) (fun k=>[rowE V2 23 aa (co i),mapE be cL (ix m1 (((fK ts at_ i.addr).getD []).take k)),mapE bu cL u1,cellE b1 (am.enc i) 36]) (fun k=>[(45,.int .i64 (k:Nat))]) (fun k=>((fK ts at_ i.addr).getD []).length - k)) 0 (Nat.zero_le _) (Front.c Front.nil) (fun k hi m hm=>zR6 ?_)
   refine af rfl (fun h7=>?_) (fun h7=>?_)
   ·refine qE ?_
    refine zz0 (lh rfl fU) (zz0 (ae rfl) ?_)
    refine fP true rfl rfl rfl (by repeat constructor) dF an rfl (zR4 ?_)
    refine zz0 (aZ rfl rfl) (zR3 ?_)
    rw [← yq,← bX (by omega)]
    refine bC (k+1) (Front.c Front.nil) (zz9 12 rfl) (o:=(by show k+1≤_; omega))
   refine zR5 ?_
   refine aQ _ Front.nil (zz9 8 rfl) (o:=(by show _=_; rw [if_pos (by assumption),List.take_of_length_le (by omega)]))
  refine zR2 ?_
  refine aQ _ Front.nil (zz9 3 rfl) (o:=(by show _=_; rw [if_neg (by assumption)]))
 skip
 have hm2:=hi
 refine zR4 ?_
 refine Fy rfl rfl (by repeat constructor) (fun w hw=>hw.slF (by assumption)) au dA (fun V8=>?_)
 refine zR4 ?_
 refine ah Tryz.results69 rfl (fun w' hw=>?_)
 have hb1:lM ts at_ i=co i ++ ((fK ts at_ i.addr).getD []):=by unfold lM; rw [if_pos (by simp_all)]
 have hb2:ix ents (lx ts at_ i)=m2:=My hm1 hm2 (by simp_all)
 have hb3:(if rK ts at_ i=true then eH unk i.addr true else unk)=u1:=Nk hu1 (by simp_all)
 exact ⟨_,rfl,by rw [hb1,hb2,hb3]; exact hw.upd (Bg.le.refl _) (by repeat' constructor),trivial⟩
theorem walk_any (l:List SecV) (ts:List TabV) (at_ es:List UInt32) (V VE VT VP:Value) (w:World) (hV:Sl (hp w) cD l V) (hB:SecB l) (hD:DataIn (hp w) l) (hN:∀ s∈l,s.name.size≤140737488351232) (hE:Sl (hp w) aa es VE) (hT:Sl (hp w) gr ts VT) (hTI:TabIn (hp w) ts) (hTB:s9 ts) (hP:Sl (hp w) aa at_ VP) (ht:totD l≤600) (hel:es.length≤100) :
  Calls Tryz.prog 28 #[V,VE,VT,VP] w (fun e w'=>∃ i:((Value × Value × Value × Value) × CodeP × Int),e=.returned ((fun i:((Value × Value × Value × Value) × CodeP × Int)=>.tuple #[.agg #[i.1.1,i.1.2.1,i.1.2.2.1,i.1.2.2.2],.int .i64 i.2.2]) i)∧Below w.heap.size w w'∧NewEnts w w' ((fun i:((Value × Value × Value × Value) × CodeP × Int)=>[rowE i.1.1 36 am i.2.1.ins,rowE i.1.2.1 23 aa i.2.1.ents,rowE i.1.2.2.1 23 aa i.2.1.unk,rowE i.1.2.2.2 23 aa i.2.1.bad]) i)∧WalkIs l ts at_ es i.2.1 i.2.2):=by
 obtain ⟨ta,tc,hvt,_⟩:=hT.shape
 subst hvt
 obtain ⟨pa,pc,hvp,_⟩:=hP.shape
 subst hvp
 have hV0:Sl (Bg.of0 w).blk cD l V:=hV
 have hD0:DataIn (Bg.of0 w).blk l:=hD
 have hE0:Sl (Bg.of0 w).blk aa es VE:=hE
 have hT0:Sl (Bg.of0 w).blk gr ts (.slice ta ts.length tc):=hT
 have hTI0:TabIn (Bg.of0 w).blk ts:=hTI
 have hP0:Sl (Bg.of0 w).blk aa at_ (.slice pa at_.length pc):=hP
 refine lT Tryz.func28 rfl Tryz.ntmps28 rfl (zR2 ?_)
 refine bS dE rfl (fun b1=>lN ?_)
 refine af rfl (fun h2=>?_) (fun h2=>?_)
 ·refine bE (aR 36 am ?_)
  refine aR 23 aa ?_
  refine aR 23 aa ?_
  refine aR 23 aa (aP ?_)
  refine zz0 (aK (vs:=[]) rfl rfl (sD)) ?_
  refine zz7 rfl rfl cp ?_
  refine zR6 ?_
  refine kJ Tryz.results28 rfl rfl jO cp (fun w' hw=>?_)
  exact ⟨((.slice none 0 0,.slice none 0 0,.slice none 0 0,.slice none 0 0),⟨[],[],[],[]⟩,2),rfl,hw.below0 (Bg.le.refl _),hw.ents0 rfl (by repeat' constructor),.arg (by show ts.length≠at_.length; omega) rfl rfl⟩
 refine zR6 ?_
 refine zz0 (ac rfl sX (fun w hw=>sT l V w (hw.slF hV0) hB (fun s hs=>by have:=hN s hs; omega))) (zR9 ?_)
 refine af rfl (fun h3=>?_) (fun h3=>?_)
 ·refine bE (aR 36 am ?_)
  refine aR 23 aa ?_
  refine aR 23 aa ?_
  refine aR 23 aa (aP ?_)
  refine zz0 (aK (vs:=[]) rfl rfl (sD)) (zz0 (ae rfl) ?_)
  refine zz7 rfl rfl cp ?_
  refine zR6 ?_
  refine kJ Tryz.results28 rfl rfl jO cp (fun w' hw=>?_)
  exact ⟨((.slice none 0 0,.slice none 0 0,.slice none 0 0,.slice none 0 0),⟨[],[],[],[]⟩,cF l),rfl,hw.below0 (Bg.le.refl _),hw.ents0 rfl (by repeat' constructor),.chk (by show ts.length=at_.length; omega) (by assumption) rfl rfl⟩
 refine zR3 ?_
 have hl:ts.length=at_.length:=by omega
 refine aP (gm wS rfl (fun b4=>?_))
 refine gm cL rfl (fun b5=>?_)
 refine gm cL rfl (fun b6=>?_)
 refine gm cL rfl (fun b7=>zR2 ?_)
 refine zz0 (lG (vs:=[(0,_),(1,_),(2,_),(3,_),(4,_),(5,_)]) (cs:=#[.map (some b4),.map (some b5),.map (some b6),.map (some b7),(.slice ta ts.length tc),(.slice pa at_.length pc)]) rfl rfl) ?_
 refine cm (cs:=[.map (some b4),.map (some b5),.map (some b6),.map (some b7),(.slice ta ts.length tc),(.slice pa at_.length pc)]) rfl rfl (fun b8=>?_)
 refine zn (b:=b8) (by repeat constructor) (fun F1 hF1 hcw=>?_)
 have hV1:=hV0.mono hF1.blk
 have hD1:=hD0.mono hF1.blk
 have hE1:=hE0.mono hF1.blk
 have hT1:=hT0.mono hF1.blk
 have hTI1:=hTI0.mono hF1.blk
 have hP1:=hP0.mono hF1.blk
 refine fu ?_
 refine ed (.of (ι:=Nat) (fun k=>k≤es.length) (fun _=>_) (fun k=>[mapE b6 cL (ix [] (es.take k)),mapE b4 wS [],mapE b5 cL [],mapE b7 cL [],cellE b1 [.slice none 0 0,.slice none 0 0,.slice none 0 0,.slice none 0 0] 52]) (fun k=>[(50,.int .i64 (k:Nat))]) (fun k=>es.length - k)) 0 (Nat.zero_le _) (Front.c Front.nil) (fun k hi m hm=>zR6 ?_)
 refine af rfl (fun h8=>?_) (fun h8=>?_)
 ·refine qE ?_
  refine zz0 (eh rfl hcw fU (by rfl)) (zz0 (ae rfl) ?_)
  refine fP true rfl rfl rfl (by repeat constructor) dF an rfl (zR4 ?_)
  refine zz0 (aZ rfl rfl) (zR3 ?_)
  rw [← yq,← bX (by omega)]
  refine bC (k+1) (Front.c Front.nil) (zz9 12 rfl) (o:=(by show k+1≤_; omega))
 refine zR6 ?_
 obtain rfl:k=es.length:=by omega
 rw [List.take_length]
 refine aP (zz0 (ae rfl) (dj rfl j9 (fun w hw=>jY es VE w (hw.slF hE1) (by omega)) rfl (fun V9=>jz ?_)))
 refine dO (ι:=DSt × Value) (fun ⟨s,Vr⟩=>DInv l ts at_ es s) (fun _=>_) (fun ⟨s,Vr⟩=>[rowE Vr 23 aa s.rest,mapE b4 wS s.ins,mapE b5 cL s.bad,mapE b6 cL s.ents,mapE b7 cL s.unk,cellE b1 [.slice none 0 0,.slice none 0 0,.slice none 0 0,.slice none 0 0] 52]) (fun ⟨s,Vr⟩=>[(14,Vr),(15,.bool false)]) (fun ⟨s,Vr⟩=>(601 - s.ins.length) * 70+s.rest.length) (⟨[],[],ix [] es,[],es⟩,_) DInv.begin (Front.c (Front.c Front.nil)) (fun i hi m hm=>?_)
 obtain ⟨s,Vr⟩:=i
 dsimp only at hi hm
 change Tr _ _ [rowE Vr 23 aa s.rest,mapE b4 wS s.ins,mapE b5 cL s.bad,mapE b6 cL s.ents,mapE b7 cL s.unk,cellE b1 [.slice none 0 0,.slice none 0 0,.slice none 0 0,.slice none 0 0] 52] ([(14,Vr),(15,.bool false)] ++ _) _
 have hinv:=hi
 have hic:=hinv.count
 have hil:=hinv.lRest
 refine zR8 ?_
 refine af rfl (fun h10=>?_) (fun h10=>?_)
 ·refine zR8 ?_
  refine zz0 (dB rfl rfl) (zR2 ?_)
  obtain ⟨a,ha⟩:∃ a,a=s.rest.getD ((s.rest.length:Int) - 1).toNat default:=⟨_,rfl⟩
  obtain ⟨r,hre⟩:∃ r,r=s.rest.take ((s.rest.length:Int) - 1).toNat:=⟨_,rfl⟩
  have hr:s.rest=r ++ [a]:=by rw [ha,hre]; exact Gf (by omega)
  have hrl:r.length+1=s.rest.length:=by rw [hr,List.length_append]; rfl
  rw [← ha]
  refine zR8 ?_
  refine zz0 (dB rfl rfl) ?_
  refine JF rfl (by repeat constructor) rfl au aj (by omega) rfl (fun Vr2=>?_)
  rw [← hre]
  refine zR9 ?_
  refine zz0 (eh rfl hcw jP (by rfl)) (zz0 (ae rfl) ?_)
  refine zz0 (G6 rfl rfl (by repeat constructor) fL an aJ (by rfl)) (zR3 ?_)
  refine bS aJ rfl (fun b11=>?_)
  refine ad am rfl rfl aw ?_
  refine zR7 ?_
  apply cE 7 86 93 (fun hF12 hF12'=>?_) ?_; rotate_right
  ·refine zR3 ?_
   refine zz5 hF12 (eh rfl hcw fU (by rfl)) (zz5 hF12 (ae rfl) ?_)
   refine zz5 hF12 (Fi rfl rfl (by repeat constructor) dF an o6) ?_
   exact zE
  refine zR2 ?_
  refine af rfl (fun h13=>?_) (fun h13=>?_)
  ·refine zR4 ?_
   apply fW (⟨s.ins,s.bad,s.ents,s.unk,r⟩,_)
   ·exact rfl
   ·exact (Front.c (Front.c Front.nil))
   ·exact zz9 32 rfl
   ·exact (by repeat' constructor)
   ·exact (hinv.skip hr (Dt (by assumption)))
   exact (by show (601 - s.ins.length) * 70+r.length<m; omega)
  refine zR6 ?_
  refine zz0 (ac rfl Tryz.call68 (fun w hw=>Om l V a w (hw.slF hV1) hB (hD1.mono hw.bg))) (zR3 ?_)
  refine bS aJ rfl (fun b14=>?_)
  refine ad am rfl rfl aw ?_
  refine df ?_
  refine af rfl (fun h15=>?_) (fun h15=>?_)
  ·refine zR5 ?_
   refine zz0 (eh rfl hcw fU (by rfl)) (zz0 (ae rfl) ?_)
   refine fP true rfl rfl rfl (by repeat constructor) dF an rfl (zR6 ?_)
   apply fW (⟨s.ins,eH s.bad a true,s.ents,s.unk,r⟩,_)
   ·exact rfl
   ·exact (Front.c (Front.c Front.nil))
   ·exact zz9 47 rfl
   ·exact (by repeat' constructor)
   ·exact (hinv.isBad hr (by assumption))
   exact (by show (601 - s.ins.length) * 70+r.length<m; omega)
  refine zR3 ?_
  have hok:(atP l a).2=true:=by assumption
  have hnk:a ∉ s.ins.map (·.1):=Hn (by assumption)
  have hinv2:=DInv.found hTB hinv hr hok hnk
  have hct:(eH s.ins a (atP l a).1).length≤totD l:=hinv2.count
  have hml:=uf (l:=s.ins) (k:=a) (by cases hq:cO s.ins a with|none=>rfl|some x=>exact absurd (Cj hq) hnk) (atP l a).1
  have hml2:(eH s.ins a (atP l a).1).length=s.ins.length+1:=by rw [hml,List.length_append]; rfl
  have hld:=yw hTB at_ (atP l a).1
  refine fE 0 6 ak ?_
  refine aG (zT3 ?_)
  refine aB (eh rfl hcw jP (by rfl)) (zT3 ?_)
  refine fP (atP l a).1 rfl rfl rfl (by repeat constructor) fL an rfl (zR8 ?_)
  refine zz0 (eh rfl hcw jP (by rfl)) ?_
  refine zz0 (JQ rfl (by repeat constructor) fL) (zR3 ?_)
  refine dw rfl ?_ ?_ <;> intro h16 <;> try simp only [bs] at h16
  ·first|contradiction|(exfalso; omega)|simp_all
  refine zR6 ?_
  refine db (fun V:Value=>V) [mapE b6 cL s.ents,mapE b7 cL s.unk] (fun V=>[rowE V 23 aa (lM ts at_ (atP l a).1),mapE b6 cL (ix s.ents (lx ts at_ (atP l a).1)),mapE b7 cL (if rK ts at_ (atP l a).1=true then eH s.unk (atP l a).1.addr true else s.unk)]) (ok:=fun _=>True) (dd:=fun _=>0) rfl Tryz.call69 (by repeat' constructor) (fun w hw=>Nat.le_of_eq hF1.dr) (fun w hw=>Gt b8 b4 b5 b6 b7 (.slice ta ts.length tc) (.slice pa at_.length pc) ts at_ (atP l a).1 s.ents s.unk w (hw.own (by repeat' constructor)) (hcw.mono (show Hp.le F1.blk (Bg.lessB w [b6,b7] 0).blk from hw.lessB (Lo:=[mapE b6 cL s.ents,mapE b7 cL s.unk]) (by repeat' constructor))) (hT1.mono (show Hp.le F1.blk (Bg.lessB w [b6,b7] 0).blk from hw.lessB (Lo:=[mapE b6 cL s.ents,mapE b7 cL s.unk]) (by repeat' constructor))) (hTI1.mono (show Hp.le F1.blk (Bg.lessB w [b6,b7] 0).blk from hw.lessB (Lo:=[mapE b6 cL s.ents,mapE b7 cL s.unk]) (by repeat' constructor))) hTB (hP1.mono (show Hp.le F1.blk (Bg.lessB w [b6,b7] 0).blk from hw.lessB (Lo:=[mapE b6 cL s.ents,mapE b7 cL s.unk]) (by repeat' constructor))) hl (OX l a)) rfl (fun V25 _=>?_)
  refine Fy rfl rfl (by repeat constructor) (fun w hw=>hw.row (by repeat constructor)) au dA (fun V17=>?_)
  refine zR4 ?_
  apply fW (stepD l ts at_ a s r,_)
  ·exact rfl
  ·exact (Front.c (Front.c Front.nil))
  ·exact zz9 60 rfl
  ·exact (by repeat' constructor)
  ·exact hinv2
  exact (by show (601 - (eH s.ins a (atP l a).1).length) * 70+(r ++ lM ts at_ (atP l a).1).length<m; rw [List.length_append]; omega)
 refine zR7 ?_
 have hr0:s.rest=[]:=List.length_eq_zero_iff.1 (by omega)
 have hcode:=hinv.code hr0
 have hcnt:=hinv.count
 have hl1:=hinv.lRest
 have hl2:=hinv.lEnts
 have hl3:=hinv.lUnk
 refine zR4 ?_
 refine dw rfl ?_ ?_ <;> intro h18 <;> try simp only [bs] at h18
 ·first|contradiction|(exfalso; omega)|simp_all
 refine mG (nK (b:=b4) (by repeat constructor) (fun F2 hF2 hmI=>?_))
 refine nK (b:=b5) (by repeat constructor) (fun F3 hF3 hmB=>?_)
 refine nK (b:=b6) (by repeat constructor) (fun F4 hF4 hmE=>?_)
 refine nK (b:=b7) (by repeat constructor) (fun F5 hF5 hmU5=>?_)
 have hmI5:=hmI.mono (hF3.trans (hF4.trans hF5)).blk
 have hmB5:=hmB.mono (hF4.trans hF5).blk
 have hmE5:=hmE.mono hF5.blk
 have hF15:=hF2.trans (hF3.trans (hF4.trans hF5))
 have hdr5:F5.dr=0:=hF15.dr.trans hF1.dr
 have hcw5:=hcw.mono hF15.blk
 refine ga (ι:=Value × Value × Nat) (fun ⟨Vu,Vb,bc⟩=>True) (fun _=>F5) (fun ⟨Vu,Vb,bc⟩=>[cellE bc [.slice none 0 0,.slice none 0 0,Vu,Vb] 52,rowE Vu 23 aa (gh (s.unk.map (·.1))),rowE Vb 23 aa (gh (s.bad.map (·.1))),cellE b1 [.slice none 0 0,.slice none 0 0,.slice none 0 0,.slice none 0 0] 52]) (fun ⟨Vu,Vb,bc⟩=>[(21,.pointer (some ⟨bc,0,none⟩))]) ?_ (fun i hi=>?_)
 ·skip
  refine aL ([cellE b1 [.slice none 0 0,.slice none 0 0,.slice none 0 0,.slice none 0 0] 52]) 13 rfl ak ?_
  refine zz1 0 rfl (ae rfl) ?_
  refine zz1 1 rfl (aA rfl) ?_
  refine zz1 2 rfl (aD rfl) ?_
  refine kg 3 rfl (by kernel_rfl) (aC (qR cw)) (eh rfl hcw5 fU (by rfl)) ?_
  refine zz1 5 rfl (ae rfl) ?_
  refine zz1 6 rfl (aA rfl) ?_
  refine zz1 7 rfl (aD rfl) ?_
  refine kg 8 rfl (by kernel_rfl) (aC (qR cw)) (eh rfl hcw5 fU (by rfl)) ?_
  refine lH [4,11] (fun iq hq=>?_)
  rcases List.mem_cons.1 hq with rfl|hq
  ·skip
   refine bY rfl ?_
   refine dC (fun V:Value=>V) (fun V=>[rowE V 23 aa (gh (s.unk.map (·.1)))]) (ok:=fun _=>True) (hdr5) rfl np (fun w hw=>k6 s.unk b7 w (hmU5.mono hw.bg) (by omega)) rfl (fun V28 _=>?_)
   refine fq (V:=V28) (fun pu cu hpv=>?_)
   subst hpv
   refine ay ?_
   refine lH [9,11] (fun iq hq=>?_)
   rcases List.mem_cons.1 hq with rfl|hq
   ·skip
    refine bY rfl ?_
    refine dC (fun V:Value=>V) (fun V=>[rowE V 23 aa (gh (s.bad.map (·.1)))]) (ok:=fun _=>True) (hdr5) rfl np (fun w hw=>k6 s.bad b5 w (hmB5.mono hw.bg) (by omega)) rfl (fun V29 _=>?_)
    refine fq (V:=V29) (fun pb cb hpv=>?_)
    subst hpv
    refine ay ?_
    refine zz1 10 rfl (lG (vs:=[(2,_),(3,_)]) (cs:=#[.slice none 0 0,.slice none 0 0,.slice pu (gh (s.unk.map (·.1))).length cu,.slice pb (gh (s.bad.map (·.1))).length cb]) rfl rfl) ?_
    refine ao 11 rfl ?_
    refine bS dE rfl (fun b19=>?_)
    refine ay ?_
    refine ao 12 rfl ?_
    refine zz7 rfl rfl cp ?_
    refine ay ?_
    refine dK (az ?_)
    refine aQ (_,_,_) (Front.c Front.nil) (zz9 12 rfl) (o:=trivial)
   obtain rfl:=List.mem_singleton.1 hq
   refine bY rfl ?_
   refine bS dE rfl (fun b20=>?_)
   refine ay ?_
   refine ao 9 rfl ?_
   refine dC (fun V:Value=>V) (fun V=>[rowE V 23 aa (gh (s.bad.map (·.1)))]) (ok:=fun _=>True) (hdr5) rfl np (fun w hw=>k6 s.bad b5 w (hmB5.mono hw.bg) (by omega)) rfl (fun V29 _=>?_)
   refine fq (V:=V29) (fun pb cb hpv=>?_)
   subst hpv
   refine ay ?_
   refine zz1 10 rfl (lG (vs:=[(2,_),(3,_)]) (cs:=#[.slice none 0 0,.slice none 0 0,.slice pu (gh (s.unk.map (·.1))).length cu,.slice pb (gh (s.bad.map (·.1))).length cb]) rfl rfl) ?_
   refine ao 12 rfl ?_
   refine zz7 rfl rfl cp ?_
   refine ay ?_
   refine dK (az ?_)
   refine aQ (_,_,_) (Front.c Front.nil) (zz9 12 rfl) (o:=trivial)
  obtain rfl:=List.mem_singleton.1 hq
  refine bY rfl ?_
  refine bS dE rfl (fun b21=>?_)
  refine ay ?_
  refine ao 4 rfl ?_
  refine dC (fun V:Value=>V) (fun V=>[rowE V 23 aa (gh (s.unk.map (·.1)))]) (ok:=fun _=>True) (hdr5) rfl np (fun w hw=>k6 s.unk b7 w (hmU5.mono hw.bg) (by omega)) rfl (fun V28 _=>?_)
  refine fq (V:=V28) (fun pu cu hpv=>?_)
  subst hpv
  refine ay ?_
  refine ao 9 rfl ?_
  refine dC (fun V:Value=>V) (fun V=>[rowE V 23 aa (gh (s.bad.map (·.1)))]) (ok:=fun _=>True) (hdr5) rfl np (fun w hw=>k6 s.bad b5 w (hmB5.mono hw.bg) (by omega)) rfl (fun V29 _=>?_)
  refine fq (V:=V29) (fun pb cb hpv=>?_)
  subst hpv
  refine ay ?_
  refine zz1 10 rfl (lG (vs:=[(2,_),(3,_)]) (cs:=#[.slice none 0 0,.slice none 0 0,.slice pu (gh (s.unk.map (·.1))).length cu,.slice pb (gh (s.bad.map (·.1))).length cb]) rfl rfl) ?_
  refine ao 12 rfl ?_
  refine zz7 rfl rfl cp ?_
  refine ay ?_
  refine dK (az ?_)
  refine aQ (_,_,_) (Front.c Front.nil) (zz9 12 rfl) (o:=trivial)
 obtain ⟨Vu,Vb,bc⟩:=i
 replace hi:True:=hi
 change Tr _ _ [cellE bc [.slice none 0 0,.slice none 0 0,Vu,Vb] 52,rowE Vu 23 aa (gh (s.unk.map (·.1))),rowE Vb 23 aa (gh (s.bad.map (·.1))),cellE b1 [.slice none 0 0,.slice none 0 0,.slice none 0 0,.slice none 0 0] 52] ([(21,.pointer (some ⟨bc,0,none⟩))] ++ _) _
 refine zR6 ?_
 refine zz0 (eh rfl hcw5 jP (by rfl)) ?_
 refine Bu (fun i:Nat=>.func (.func 142) #[] #[.pointer (some ⟨i,0,none⟩)]) (R:=fun h i=>CellsIn h i [.map (some b4)]) (fun h h' i hh r=>r.mono hh) rfl Tryz.call72 (fun w hw=>Lm b4 w) rfl (fun i9 F9 hF9 hR9=>?_)
 have hmI9:=hmI5.mono hF9.blk
 have hmB9:=hmB5.mono hF9.blk
 have hcw9:=hcw5.mono hF9.blk
 refine dC (fun V:Value=>V) (fun V=>[rowE V 23 aa (gh (s.ins.map (·.1)))]) (ok:=fun _=>True) (hF9.dr.trans hdr5) rfl Tryz.call71 (fun w hw=>xQ _ _ (s.ins.map (·.1)) s.ins.length (by omega) Tryz.call142 (by rw [List.length_map]; omega) w (yz b4 i9 w (hmI9.mono hw.bg) (hR9.mono hw.bg))) rfl (fun V30 _=>?_)
 obtain ⟨ks,hks⟩:∃ ks,ks=gh (s.ins.map (·.1)):=⟨_,rfl⟩
 rw [← hks]
 refine zR5 ?_
 refine aR 36 am ?_
 refine dO (ι:=Nat × Value) (fun ⟨k,Vi⟩=>k≤ks.length) (fun _=>_) (fun ⟨k,Vi⟩=>[rowE V30 23 aa ks,cellE bc [Vi,.slice none 0 0,Vu,Vb] 52,rowE Vi 36 am ((ks.take k).map fun a=>(atP l a).1),rowE Vu 23 aa (gh (s.unk.map (·.1))),rowE Vb 23 aa (gh (s.bad.map (·.1))),cellE b1 [.slice none 0 0,.slice none 0 0,.slice none 0 0,.slice none 0 0] 52]) (fun ⟨k,Vi⟩=>[(144,.int .i64 (k:Nat))]) (fun ⟨k,Vi⟩=>ks.length - k) (0,_) (Nat.zero_le _) (Front.c Front.nil) (fun i hi m hm=>?_)
 obtain ⟨k,Vi⟩:=i
 dsimp only at hi hm
 change Tr _ _ [rowE V30 23 aa ks,cellE bc [Vi,.slice none 0 0,Vu,Vb] 52,rowE Vi 36 am ((ks.take k).map fun a=>(atP l a).1),rowE Vu 23 aa (gh (s.unk.map (·.1))),rowE Vb 23 aa (gh (s.bad.map (·.1))),cellE b1 [.slice none 0 0,.slice none 0 0,.slice none 0 0,.slice none 0 0] 52] ([(144,.int .i64 (k:Nat))] ++ _) _
 have hksl:ks.length≤600:=by rw [hks,tW,List.length_map]; omega
 have hkml:((ks.take k).map fun a=>(atP l a).1).length≤600:=by rw [List.length_map,List.length_take]; omega
 refine zR6 ?_
 refine af rfl (fun h22=>?_) (fun h22=>?_)
 ·refine dy ?_
  have hga:(cO s.ins (ks.getD k default)).getD bJ=(atP l (ks.getD k default)).1:=Pt hinv (by rw [← nA,← hks]; exact bB (by omega))
  refine aL ([cellE b1 [.slice none 0 0,.slice none 0 0,.slice none 0 0,.slice none 0 0] 52]) 12 rfl ak ?_
  refine zz1 0 rfl (aD rfl) ?_
  refine zz1 2 rfl (ae rfl) ?_
  refine zz1 3 rfl (aA rfl) ?_
  refine zz1 4 rfl (aD rfl) ?_
  refine kg 5 rfl (by kernel_rfl) (cN (aC (aC (cN (aC (qR cw)))))) (eh rfl hcw9 jP (by rfl)) ?_
  refine zz1 6 rfl (ae rfl) ?_
  refine lH [1,7] (fun iq hq=>?_)
  rcases List.mem_cons.1 hq with rfl|hq
  ·skip
   refine bY rfl (zz0 (cH rfl) ?_)
   refine ay ?_
   refine ao 7 rfl ?_
   refine zz0 (By rfl rfl (by assumption) fL an aJ (by rfl)) ?_
   rw [hga]
   refine ay ?_
   refine ao 8 rfl ?_
   refine g7 (E:=am) (atP l (ks.getD k default)).1 rfl rfl cC aw aJ (fun V23=>?_)
   refine ay ?_
   refine ao 9 rfl ?_
   refine zz3 rfl rfl cC l7 (fun V24=>?_)
   refine cG (.head _) (fun pi ci hpv=>?_)
   subst hpv
   refine ay ?_
   refine zz1 10 rfl (aD rfl) ?_
   refine ao 11 rfl ?_
   refine zz4 (cs':=[_,_,_,_]) rfl rfl oz rfl ?_
   refine ay ?_
   refine dK (zR3 ?_)
   refine zz0 (aZ rfl rfl) (zR3 ?_)
   rw [oV (fun a=>(atP l a).1) (by omega)]
   refine bC (k+1,_) (Front.c Front.nil) (zz9 18 rfl) (o:=(by show k+1≤_; omega))
  obtain rfl:=List.mem_singleton.1 hq
  refine bY rfl ?_
  refine zz0 (By rfl rfl (by assumption) fL an aJ (by rfl)) ?_
  rw [hga]
  refine ay ?_
  refine lH [1,8] (fun iq hq=>?_)
  rcases List.mem_cons.1 hq with rfl|hq
  ·skip
   refine bY rfl (zz0 (cH rfl) ?_)
   refine ay ?_
   refine ao 8 rfl ?_
   refine g7 (E:=am) (atP l (ks.getD k default)).1 rfl rfl cC aw aJ (fun V25=>?_)
   refine ay ?_
   refine ao 9 rfl ?_
   refine zz3 rfl rfl cC l7 (fun V26=>?_)
   refine cG (.head _) (fun pi ci hpv=>?_)
   subst hpv
   refine ay ?_
   refine zz1 10 rfl (aD rfl) ?_
   refine ao 11 rfl ?_
   refine zz4 (cs':=[_,_,_,_]) rfl rfl oz rfl ?_
   refine ay ?_
   refine dK (zR3 ?_)
   refine zz0 (aZ rfl rfl) (zR3 ?_)
   rw [oV (fun a=>(atP l a).1) (by omega)]
   refine bC (k+1,_) (Front.c Front.nil) (zz9 18 rfl) (o:=(by show k+1≤_; omega))
  obtain rfl:=List.mem_singleton.1 hq
  refine bY rfl ?_
  refine g7 (E:=am) (atP l (ks.getD k default)).1 rfl rfl cC aw aJ (fun V27=>?_)
  refine ay ?_
  refine ao 1 rfl (zz0 (cH rfl) ?_)
  refine ay ?_
  refine ao 9 rfl ?_
  refine zz3 rfl rfl cC l7 (fun V28=>?_)
  refine cG (.head _) (fun pi ci hpv=>?_)
  subst hpv
  refine ay ?_
  refine zz1 10 rfl (aD rfl) ?_
  refine ao 11 rfl ?_
  refine zz4 (cs':=[_,_,_,_]) rfl rfl oz rfl ?_
  refine ay ?_
  refine dK (zR3 ?_)
  refine zz0 (aZ rfl rfl) (zR3 ?_)
  rw [oV (fun a=>(atP l a).1) (by omega)]
  refine bC (k+1,_) (Front.c Front.nil) (zz9 18 rfl) (o:=(by show k+1≤_; omega))
 refine zR7 ?_
 obtain rfl:k=ks.length:=by omega
 rw [List.take_length]
 refine zR4 ?_
 refine zz0 (eh rfl hcw9 fU (by rfl)) ?_
 refine dC (fun V:Value=>V) (fun V=>[rowE V 23 aa (gh (s.ents.map (·.1)))]) (ok:=fun _=>True) (hF9.dr.trans hdr5) rfl np (fun w hw=>k6 s.ents b6 w ((hmE5.mono hF9.blk).mono hw.bg) (by omega)) rfl (fun V31 _=>?_)
 obtain ⟨se,hse⟩:∃ se,se=gh (s.ents.map (·.1)):=⟨_,rfl⟩
 rw [← hse]
 refine zR5 ?_
 refine aR 23 aa ?_
 refine dO (ι:=Nat × Value) (fun ⟨j,Ve⟩=>j≤se.length) (fun _=>_) (fun ⟨j,Ve⟩=>[rowE V31 23 aa se,cellE bc [Vi,Ve,Vu,Vb] 52,rowE Ve 23 aa ((se.take j).filter fun a=>(cO s.ins a).isSome),rowE Vi 36 am ((ks).map fun a=>(atP l a).1),rowE Vu 23 aa (gh (s.unk.map (·.1))),rowE Vb 23 aa (gh (s.bad.map (·.1))),cellE b1 [.slice none 0 0,.slice none 0 0,.slice none 0 0,.slice none 0 0] 52]) (fun ⟨j,Ve⟩=>[(166,.int .i64 (j:Nat))]) (fun ⟨j,Ve⟩=>se.length - j) (0,_) (Nat.zero_le _) (Front.c Front.nil) (fun i hi m hm=>?_)
 obtain ⟨j,Ve⟩:=i
 dsimp only at hi hm
 change Tr _ _ [rowE V31 23 aa se,cellE bc [Vi,Ve,Vu,Vb] 52,rowE Ve 23 aa ((se.take j).filter fun a=>(cO s.ins a).isSome),rowE Vi 36 am ((ks).map fun a=>(atP l a).1),rowE Vu 23 aa (gh (s.unk.map (·.1))),rowE Vb 23 aa (gh (s.bad.map (·.1))),cellE b1 [.slice none 0 0,.slice none 0 0,.slice none 0 0,.slice none 0 0] 52] ([(166,.int .i64 (j:Nat))] ++ _) _
 have hsel:se.length≤50000:=by rw [hse,tW,List.length_map]; omega
 have hfl:((se.take j).filter fun a=>(cO s.ins a).isSome).length≤50000:=Nat.le_trans (List.length_filter_le _ _) (by rw [List.length_take]; omega)
 refine zR6 ?_
 refine af rfl (fun h29=>?_) (fun h29=>?_)
 ·refine wK ?_
  refine zz0 (eh rfl hcw9 jP (by rfl)) (zz0 (ae rfl) ?_)
  refine zz0 (Fl rfl rfl (by assumption) fL an aJ (by rfl)) (zR3 ?_)
  refine bS aJ rfl (fun b30=>?_)
  refine ad am rfl rfl aw ?_
  refine zR8 ?_
  refine af rfl (fun h31=>?_) (fun h31=>?_)
  ·refine zR4 ?_
   refine g7 (E:=aa) (se.getD j default) rfl rfl au aj ba (fun V32=>?_)
   refine zz3 rfl rfl au dA (fun V33=>?_)
   refine cG (.head _) (fun pe ce hpv=>?_)
   subst hpv
   refine zz0 (aD rfl) (zz4 (cs':=[_,_,_,_]) rfl rfl fS rfl ?_)
   refine fV (eK (az (aP (zz0 (aZ rfl rfl) (zR3 ?_)))))
   rw [wU (p:=fun a=>(cO s.ins a).isSome) (by omega) (by assumption)]
   refine bC (j+1,_) (Front.c Front.nil) (zz9 25 rfl) (o:=(by show j+1≤_; omega))
  refine fO (eK (az (aP (zz0 (aZ rfl rfl) (zR3 ?_)))))
  rw [yR (p:=fun a=>(cO s.ins a).isSome) (by omega) (by simp_all)]
  refine bC (j+1,_) (Front.c Front.nil) (zz9 19 rfl) (o:=(by show j+1≤_; omega))
 refine zR6 ?_
 obtain rfl:j=se.length:=by omega
 rw [List.take_length]
 refine fq (V:=Vi) (fun pVi cVi hpv=>?_)
 subst hpv
 refine fq (V:=Ve) (fun pVe cVe hpv=>?_)
 subst hpv
 refine fq (V:=Vu) (fun pVu cVu hpv=>?_)
 subst hpv
 refine fq (V:=Vb) (fun pVb cVb hpv=>?_)
 subst hpv
 refine aP (zz0 (bU rfl) (zz7 rfl rfl cp ?_))
 refine zR5 ?_
 refine kJ Tryz.results28 rfl rfl jO cp (fun w' hw=>?_)
 rw [← hks,← hse] at hcode
 exact ⟨((_,_,_,_),⟨_,_,_,_⟩,0),rfl,hw.below0 (hF1.trans (hF15.trans hF9)),hw.ents0 (hF1.trans (hF15.trans hF9)).lo (by repeat' constructor),.ok hl (by simp_all) rfl hcode⟩
end Go.Proofs.YtiajjbhcpeadfaaGreat
namespace Go.Proofs.YtiajjbhcpeadfaaGreat
open Go Go.HL Go.RowKit
theorem A6 (l n2:List UInt32) (V W:Value) (w:World) (hV:Sl (hp w) aa l V) (hW:Sl (hp w) aa n2 W) :
  Cr Tryz.prog 111 #[V,W] w (.bool (decide (l=n2))):=by
 have hV':Sl (Bg.of w).blk aa l V:=hV
 have hW':Sl (Bg.of w).blk aa n2 W:=hW
 have hlen:=hV.len_le
 refine enter Tryz.func111 rfl Tryz.ntmps111 rfl (qE ?_)
 refine af rfl (fun h1=>?_) (fun h1=>?_)
 ·have hq:=h1
  refine zR7 ?_
  exact ah pK rfl fun w' hw=>⟨by rw [decide_eq_false (fun e=>hq (by rw [e]))],hw.b0⟩
 have hq:=h1
 refine dy ?_
 refine ed (.of (ι:=Nat) (fun k=>k≤l.length∧l.take k=n2.take k) (fun _=>_) (fun k=>[]) (fun k=>[(13,.int .i64 (k:Nat))]) (fun k=>l.length - k)) 0 ⟨Nat.zero_le _,rfl⟩ (Front.c Front.nil) (fun k hi m hm=>?_)
 obtain ⟨hk1,hk2⟩:=hi
 refine zR6 ?_
 refine af rfl (fun h2=>?_) (fun h2=>?_)
 ·refine dy ?_
  refine ip ak (Io ?_)
  refine af rfl (fun h3=>?_) (fun h3=>?_)
  ·have hq2:=h3
   refine dy ?_
   exact ah pK rfl fun w' hw=>⟨by rw [decide_eq_false (fun e=>hq2 (by rw [e]))],hw.b0⟩
  have hq2:=h3
  refine fO (eK (az (aP (zz0 (aZ rfl rfl) (zR3 ?_)))))
  refine bC (k+1) (Front.c Front.nil) (zz9 15 rfl) (o:=⟨by omega,by rw [bX (by omega),bX (by omega),hk2,show l.getD k default=n2.getD k default by first|exact hq2|simp_all]⟩)
 refine dy ?_
 exact ah pK rfl fun w' hw=>⟨by rw [decide_eq_true (show l=n2 by rw [← List.take_length (l:=l),← List.take_length (l:=n2),show n2.length=l.length by omega,show l.length=k by omega]; exact hk2)],hw.b0⟩
theorem Kx (l n2:List UInt32) (V W:Value) (w:World) (hV:Sl (hp w) aa l V) (hW:Sl (hp w) aa n2 W) :
  Cr Tryz.prog 113 #[V,W] w (.bool (decide (l=n2))):=by
 have hV':Sl (Bg.of w).blk aa l V:=hV
 have hW':Sl (Bg.of w).blk aa n2 W:=hW
 refine enter Tryz.func113 rfl Tryz.ntmps113 rfl (zR9 ?_)
 refine zz0 (ac rfl Tryz.call111 (fun w hw=>A6 l n2 V W w (hw.slF hV') (hw.slF hW'))) (zR4 ?_)
 exact ah Tryz.results113 rfl fun w' hw=>⟨rfl,hw.b0⟩
theorem Ab (l n2:List TabV) (V W:Value) (w:World) (hV:Sl (hp w) gr l V) (hW:Sl (hp w) gr n2 W) (hI:TabIn (hp w) l) (hJ:TabIn (hp w) n2) :
  Cr Tryz.prog 112 #[V,W,.func (.func 113) #[] #[]] w (.bool (decide (l.map (·.data)=n2.map (·.data)))):=by
 have hV':Sl (Bg.of w).blk gr l V:=hV
 have hW':Sl (Bg.of w).blk gr n2 W:=hW
 have hI':TabIn (Bg.of w).blk l:=hI
 have hJ':TabIn (Bg.of w).blk n2:=hJ
 have hlen:=hV.len_le
 refine enter Tryz.func112 rfl Tryz.ntmps112 rfl (qE ?_)
 refine af rfl (fun h1=>?_) (fun h1=>?_)
 ·have hq:=h1
  refine zR7 ?_
  exact ah pH rfl fun w' hw=>⟨by rw [decide_eq_false (fun e=>hq (by have:=congrArg List.length e; rw [List.length_map,List.length_map] at this; rw [this]))],hw.b0⟩
 have hq:=h1
 refine dy ?_
 refine ed (.of (ι:=Nat) (fun k=>k≤l.length∧(l.map (·.data)).take k=(n2.map (·.data)).take k) (fun _=>_) (fun k=>[]) (fun k=>[(17,.int .i64 (k:Nat))]) (fun k=>l.length - k)) 0 ⟨Nat.zero_le _,rfl⟩ (Front.c Front.nil) (fun k hi m hm=>?_)
 obtain ⟨hk1,hk2⟩:=hi
 have hgl:∀ q:List TabV,(q.map (·.data)).getD k default=(q.getD k default).data:=fun q=>by
  simp only [List.getD_eq_getElem?_getD,List.getElem?_map]
  cases q[k]? <;> rfl
 refine zR6 ?_
 refine af rfl (fun h2=>?_) (fun h2=>?_)
 ·refine Ql ?_
  refine zz0 (iS rfl rfl Tryz.call113 (fun w hw=>Kx (l.getD k default).data (n2.getD k default).data _ _ w (hw.slF (hI' _ (bB (by omega)))) (hw.slF (hJ' _ (bB (by omega)))))) (zR3 ?_)
  refine af rfl (fun h3=>?_) (fun h3=>?_)
  ·have hq2:=h3
   refine dy ?_
   exact ah pH rfl fun w' hw=>⟨by rw [decide_eq_false (fun e=>hq2 (by rw [← hgl,← hgl,e]))],hw.b0⟩
  have hq2:=h3
  refine fO (eK (az (aP (zz0 (aZ rfl rfl) (zR3 ?_)))))
  refine bC (k+1) (Front.c Front.nil) (zz9 19 rfl) (o:=⟨by omega,by rw [bX (by rw [List.length_map]; omega),bX (by rw [List.length_map]; omega),hk2,hgl,hgl,show (l.getD k default).data=(n2.getD k default).data by first|exact hq2|simp_all]⟩)
 refine dy ?_
 exact ah pH rfl fun w' hw=>⟨by rw [decide_eq_true (show l.map (·.data)=n2.map (·.data) by rw [← List.take_length (l:=l.map (·.data)),← List.take_length (l:=n2.map (·.data)),List.length_map,List.length_map,show n2.length=l.length by omega,show l.length=k by omega]; exact hk2)],hw.b0⟩
theorem Nu (x0 x1 x2 x3:Option Addr) (xn0 xc0 xn1 xc1 xn2 xc2 xn3 xc3:Nat) (y0 y1 y2 y3:Option Addr) (yn0 yc0 yn1 yc1 yn2 yc2 yn3 yc3:Nat) (ts us:List TabV) (at_ bt_:List UInt32) (pt pa qt qa:Option Addr) (ct ca dt da:Nat) (w:World) (h1:Sl (hp w) gr ts (.slice pt ts.length ct)) (h2:TabIn (hp w) ts) (h3:Sl (hp w) aa at_ (.slice pa at_.length ca)) (k1:Sl (hp w) gr us (.slice qt us.length dt)) (k2:TabIn (hp w) us) (k3:Sl (hp w) aa bt_ (.slice qa bt_.length da)) :
  Cr Tryz.prog 53 #[.agg #[.slice x0 xn0 xc0,.slice x1 xn1 xc1,.slice x2 xn2 xc2,.slice x3 xn3 xc3,.slice pt ts.length ct,.slice pa at_.length ca],.agg #[.slice y0 yn0 yc0,.slice y1 yn1 yc1,.slice y2 yn2 yc2,.slice y3 yn3 yc3,.slice qt us.length dt,.slice qa bt_.length da]] w (.bool (decide (at_=bt_) && decide (ts.map (·.data)=us.map (·.data)))):=by
 have h1':Sl (Bg.of w).blk gr ts (.slice pt ts.length ct):=h1
 have h2':TabIn (Bg.of w).blk ts:=h2
 have h3':Sl (Bg.of w).blk aa at_ (.slice pa at_.length ca):=h3
 have k1':Sl (Bg.of w).blk gr us (.slice qt us.length dt):=k1
 have k2':TabIn (Bg.of w).blk us:=k2
 have k3':Sl (Bg.of w).blk aa bt_ (.slice qa bt_.length da):=k3
 refine enter Tryz.func53 rfl Tryz.ntmps53 rfl (zR2 ?_)
 refine cm rfl rfl (fun b1=>?_)
 refine cm rfl rfl (fun b2=>zR9 ?_)
 refine zz0 (ac rfl Tryz.call111 (fun w hw=>A6 at_ bt_ _ _ w (hw.slF h3') (hw.slF k3'))) (zz0 (ae rfl) ?_)
 apply cj 6 10 16 (fun hT3 hT3'=>?_) ?_; rotate_right
 ·refine zR4 ?_
  refine zz5 hT3 (ac rfl Tryz.call112 (fun w hw=>Ab ts us _ _ w (hw.slF h1') (hw.slF k1') (h2'.mono hw.bg) (k2'.mono hw.bg))) ?_
  exact zE
 refine zR4 ?_
 exact ah Tryz.results53 rfl fun w' hw=>⟨rfl,hw.b0⟩
theorem IN (i:Ins) (a:UInt32) (b:Nat) (w:World) (hc:Cell (hp w) b 0 (.int .u32 a.toNat)) :
  Cr Tryz.prog 158 #[.agg (am.enc i).toArray,.pointer (some ⟨b,0,none⟩)] w (.bool (decide (i.addr=a))):=by
 have hc':Cell (Bg.of w).blk b 0 (.int .u32 a.toNat):=hc
 refine enter Tryz.func158 rfl Tryz.ntmps158 rfl (zR2 ?_)
 refine cm rfl rfl (fun b1=>zR7 ?_)
 refine zz0 (qA rfl (by assumption) dG) (zR5 ?_)
 exact ah Tryz.results158 rfl fun w' hw=>⟨rfl,hw.b0⟩
theorem IL (x y:Ins) (w:World) :
  Cr Tryz.prog 108 #[.agg (am.enc x).toArray,.agg (am.enc y).toArray] w (.int .i64 (m9 x y)):=by
 refine enter Tryz.func108 rfl Tryz.ntmps108 rfl (zR2 ?_)
 refine cm rfl rfl (fun b1=>?_)
 refine cm rfl rfl (fun b2=>qE ?_)
 refine af rfl (fun h3=>?_) (fun h3=>?_)
 ·refine zR8 ?_
  exact ah pL rfl fun w' hw=>⟨by unfold m9 zd; rw [if_pos (by assumption)],hw.b0⟩
 refine df ?_
 refine af rfl (fun h4=>?_) (fun h4=>?_)
 ·refine zR8 ?_
  exact ah pL rfl fun w' hw=>⟨by unfold m9 zd; rw [if_neg (by assumption),if_pos (by assumption)],hw.b0⟩
 refine zR9 ?_
 exact ah pL rfl fun w' hw=>⟨by unfold m9 zd; rw [if_neg (by assumption),if_neg (by assumption)],hw.b0⟩
theorem EO (l:List UInt32) (V:Value) (w:World) (hr:(rowE V 23 aa l).holds w) (hl:l.length≤1000000) :
  Calls Tryz.prog 159 #[V] w (fun e w'=>∃ V',e=.returned V'∧V'.ownBlock=V.ownBlock∧Mut w w' V∧(rowE V' 23 aa (fB l)).holds w'):=by
 refine fy (l:=l) (E:=aa) (T:=23) hr Tryz.func159 rfl Tryz.ntmps159 rfl (jz ?_)
 refine af rfl (fun h1=>?_) (fun h1=>?_)
 ·refine zR8 ?_
  refine ah pE rfl (fun w' hw=>?_)
  have e:fB l=l:=by rw [← List.take_length (l:=l)]; exact m8 (Nat.le_refl _) (fun j a b=>by omega)
  exact ⟨_,rfl,rfl,(HpOK.mutOwn hw (.head _) rfl).1,by rw [e]; exact (HpOK.mutOwn hw (.head _) rfl).2⟩
 refine zR9 ?_
 refine ed (.of (ι:=Nat) (fun k=>1≤k∧k≤l.length∧∀ j,0<j→j<k→l.getD j default≠l.getD (j - 1) default) (fun _=>_) (fun k=>[rowE V 23 aa l]) (fun k=>[(3,.int .i64 (k:Nat))]) (fun k=>l.length - k)) 1 ⟨Nat.le_refl _,by omega,fun j a b=>by omega⟩ (Front.c Front.nil) (fun k hi m hm=>?_)
 obtain ⟨hk1,hk2,hk3⟩:=hi
 have hj:((k:Int) - 1).toNat=k - 1:=by omega
 refine zR9 ?_
 refine af rfl (fun h2=>?_) (fun h2=>?_)
 ·refine zR5 ?_
  refine ip ak (zT6 ?_)
  refine aB (dB rfl rfl) (zT2 ?_)
  refine aB (fb rfl rfl) (zT2 ?_)
  refine af rfl (fun h3=>?_) (fun h3=>?_)
  ·refine zR4 ?_
   refine zz0 (uM rfl (by repeat constructor) rfl au aj rfl (by omega)) (df ?_)
   refine dO (ι:=Nat × Nat × List UInt32) (fun ⟨wi,k2,cur⟩=>(1≤k2∧k+k2≤l.length∧wi<k+k2)∧cur.length=l.length∧cur.take wi=fB (l.take (k+k2))∧∀ j,k+k2 - 1≤j→cur.getD j default=l.getD j default) (fun _=>_) (fun ⟨wi,k2,cur⟩=>[rowE V 23 aa cur]) (fun ⟨wi,k2,cur⟩=>[(3,.int .i64 (wi:Nat)),(5,.int .i64 (k2:Nat))]) (fun ⟨wi,k2,cur⟩=>l.length - (k+k2)) (k,1,l) ⟨⟨Nat.le_refl _,by omega,by omega⟩,rfl,by rw [m7 (by omega) (by omega),if_pos (by rw [← hj]; assumption),m8 (by omega) hk3],fun j _=>rfl⟩ (Front.c (Front.c Front.nil)) (fun i hi m hm=>?_)
   obtain ⟨wi,k2,cur⟩:=i
   dsimp only at hi hm
   change Tr _ _ [rowE V 23 aa cur] ([(3,.int .i64 (wi:Nat)),(5,.int .i64 (k2:Nat))] ++ _) _
   obtain ⟨⟨hq1,hq2,hq3⟩,hq4,hq5,hq6⟩:=hi
   have hA:=hq6 (k+k2) (by omega)
   have hB:=hq6 (k+k2 - 1) (by omega)
   have hi1:k+(k2:Int).toNat=k+k2:=rfl
   have hi2:k+((k2:Int) - 1).toNat=k+k2 - 1:=by omega
   refine zR5 ?_
   refine zz0 (G7 rfl (by repeat constructor) au) (zR3 ?_)
   refine af rfl (fun h4=>?_) (fun h4=>?_)
   ·refine zR5 ?_
    refine ip ak (zT2 ?_)
    refine aB (tP rfl rfl (by repeat constructor) au aj rfl (by omega) (by omega)) (zT3 ?_)
    refine aB (dB rfl rfl) ?_
    refine aB (tP rfl rfl (by repeat constructor) au aj rfl (by omega) (by omega)) (zT4 ?_)
    refine af rfl (fun h5=>?_) (fun h5=>?_)
    ·refine zR6 ?_
     refine zz0 (tP rfl rfl (by repeat constructor) au aj rfl (by omega) (by omega)) (zR2 ?_)
     refine gg (l:=cur) (i:=wi) (cur.getD (k+(k2:Int).toNat) default) rfl rfl aj ?_
     have hls6:(List.set cur (wi) (cur.getD (k+(k2:Int).toNat) default)).length=(cur).length:=List.length_set
     refine zR4 ?_
     refine zz0 (aZ rfl rfl) (zR6 ?_)
     refine zz0 (aZ rfl rfl) (zR3 ?_)
     rw [hi1,hi2,hA,hB] at h5
     have hcs:=m7 (l:=l) (k:=k+k2) (by omega) (by omega)
     rw [if_neg h5,← hq5] at hcs
     have hcm:(cur.set wi (cur.getD (k+(k2:Int).toNat) default)).take (wi+1)=fB (l.take (k+(k2+1))):=by
      rw [show k+(k2+1)=k+k2+1 by omega,hcs,bX (by rw [List.length_set]; omega),hi1,hA]
      congr 1
      ·rw [List.take_set_of_le (Nat.le_refl _)]
      ·simp [List.getD_eq_getElem?_getD,show wi<cur.length by omega]
     refine bC (wi+1,k2+1,cur.set wi (cur.getD (k+(k2:Int).toNat) default)) (Front.c (Front.c Front.nil)) (zz9 29 rfl) (o:=⟨⟨by omega,by omega,by omega⟩,by rw [List.length_set]; exact hq4,hcm,fun j a=>by rw [List.getD_eq_getElem?_getD,List.getElem?_set_ne (by omega),← List.getD_eq_getElem?_getD]; exact hq6 j (by omega)⟩)
    refine zR5 ?_
    refine zz0 (aZ rfl rfl) (zR3 ?_)
    rw [hi1,hi2,hA,hB] at h5
    have hcs:=m7 (l:=l) (k:=k+k2) (by omega) (by omega)
    rw [if_pos h5,← hq5] at hcs
    refine bC (wi,k2+1,cur) (Front.c (Front.c Front.nil)) (zz9 19 rfl) (o:=⟨⟨by omega,by omega,by omega⟩,hq4,by rw [show k+(k2+1)=k+k2+1 by omega,hcs],fun j a=>hq6 j (by omega)⟩)
   refine zR9 ?_
   refine zz0 (uM rfl (by repeat constructor) rfl au aj rfl (by omega)) ?_
   refine CX 0 rfl (by repeat constructor) (by omega) au ba rfl rfl rfl (zR6 ?_)
   refine zz0 (zq rfl (by repeat constructor) rfl au aj rfl (by rw [List.length_append,List.length_take]; omega)) (zR9 ?_)
   refine ah pE rfl (fun w' hw=>?_)
   have hkn:k+k2=l.length:=by omega
   rw [hkn,List.take_length] at hq5
   have hm:=HpOK.mutOwn hw (.head _) rfl
   have hh:=rowE.resl0 (hw.ent _ (.head _)) (k:=wi) (by rw [List.length_append,List.length_take]; omega)
   have e:(cur.take wi ++ List.replicate (cur.length - wi) (0:UInt32)).take wi=fB l:=by rw [← hq5,List.take_append_of_le_length (by rw [List.length_take]; omega),List.take_take,Nat.min_self]
   exact ⟨_,rfl,hh.2,hm.1,by rw [← e]; exact hh.1⟩
  refine zR5 ?_
  refine zz0 (aZ rfl rfl) (zR3 ?_)
  have hk4:∀ j,0<j→j<k+1→l.getD j default≠l.getD (j - 1) default:=fun j a b=>by
   by_cases c:j=k
   ·subst c; rw [← hj]; assumption
   ·exact hk3 j a (by omega)
  refine bC (k+1) (Front.c Front.nil) (zz9 18 rfl) (o:=⟨by omega,by omega,hk4⟩)
 refine fu ?_
 refine ah pE rfl (fun w' hw=>?_)
 have e:fB l=l:=by rw [← List.take_length (l:=l)]; exact m8 (Nat.le_refl _) (fun j a b=>hk3 j a (by omega))
 exact ⟨_,rfl,rfl,(HpOK.mutOwn hw (.head _) rfl).1,by rw [e]; exact (HpOK.mutOwn hw (.head _) rfl).2⟩
theorem KC (ins:List Ins) (ents:List UInt32) (ts:List TabV) (pI p1 pu pb:Option Addr) (cI c1 nu cu nb cb:Nat) (VT:Value) (w:World) (hI:Sl (hp w) am ins (.slice pI ins.length cI)) (hE:Sl (hp w) aa ents (.slice p1 ents.length c1)) (hT:Sl (hp w) gr ts VT) (hTI:TabIn (hp w) ts) (hTB:s9 ts) (hel:ents.length≤700) :
  Calls Tryz.prog 106 #[.agg #[.slice pI ins.length cI,.slice p1 ents.length c1,.slice pu nu cu,.slice pb nb cb],VT] w (fun e w'=>∃ V':Value,e=.returned V'∧Ext w w'∧je w w' 23 aa (g8 ins ents (ts.map (·.data))) V'):=by
 have hI':Sl (Bg.of w).blk am ins (.slice pI ins.length cI):=hI
 have hT':Sl (Bg.of w).blk gr ts VT:=hT
 have hls:∀ t∈((⟨ents,p1,c1⟩:TabV) :: ts),Sl (Bg.of w).blk aa t.data (.slice t.dp t.data.length t.dc):=fun t ht=>by
  rcases List.mem_cons.1 ht with rfl|ht
  ·exact hE
  ·exact hTI t ht
 have hlb:∀ t∈((⟨ents,p1,c1⟩:TabV) :: ts),t.data.length≤700:=fun t ht=>by
  rcases List.mem_cons.1 ht with rfl|ht
  ·exact hel
  ·have:=hTB.2 t ht; omega
 have htl:=hTB.1
 have hll:((⟨ents,p1,c1⟩:TabV) :: ts).length≤701:=by have:=hTB.1; rw [List.length_cons]; omega
 refine enter Tryz.func106 rfl Tryz.ntmps106 rfl (zR2 ?_)
 refine cm rfl rfl (fun b1=>jz ?_)
 refine g7 (E:=gr) (⟨ents,p1,c1⟩:TabV) rfl rfl jg fS Tryz.zeroValue31 (fun V2=>zz0 (ae rfl) ?_)
 refine Fy rfl rfl (by repeat constructor) (fun w hw=>hw.slF (by assumption)) jg zF (fun V3=>?_)
 refine fD (l':=((⟨ents,p1,c1⟩:TabV) :: ts)) rfl (zR5 ?_)
 refine aR 23 aa ?_
 refine dO (ι:=Nat × Value) (fun ⟨k,Vo⟩=>k≤((⟨ents,p1,c1⟩:TabV) :: ts).length) (fun _=>_) (fun ⟨k,Vo⟩=>[rowE Vo 23 aa (mo ins ((⟨ents,p1,c1⟩:TabV) :: ts) k 0),rowE V3 31 gr ((⟨ents,p1,c1⟩:TabV) :: ts),cellE b1 [.slice pI ins.length cI,.slice p1 ents.length c1,.slice pu nu cu,.slice pb nb cb] 52]) (fun ⟨k,Vo⟩=>[(16,.int .i64 (k:Nat)),(5,Vo)]) (fun ⟨k,Vo⟩=>((⟨ents,p1,c1⟩:TabV) :: ts).length - k) (0,_) (Nat.zero_le _) (Front.c (Front.c Front.nil)) (fun i hi m hm=>?_)
 obtain ⟨k,Vo⟩:=i
 dsimp only at hi hm
 change Tr _ _ [rowE Vo 23 aa (mo ins ((⟨ents,p1,c1⟩:TabV) :: ts) k 0),rowE V3 31 gr ((⟨ents,p1,c1⟩:TabV) :: ts),cellE b1 [.slice pI ins.length cI,.slice p1 ents.length c1,.slice pu nu cu,.slice pb nb cb] 52] ([(16,.int .i64 (k:Nat)),(5,Vo)] ++ _) _
 refine zR6 ?_
 refine af rfl (fun h4=>?_) (fun h4=>?_)
 ·refine fu ?_
  have hkj:Sl (Bg.of w).blk aa (((⟨ents,p1,c1⟩:TabV) :: ts).getD k default).data (.slice (((⟨ents,p1,c1⟩:TabV) :: ts).getD k default).dp (((⟨ents,p1,c1⟩:TabV) :: ts).getD k default).data.length (((⟨ents,p1,c1⟩:TabV) :: ts).getD k default).dc):=hls _ (bB (by omega))
  have hkjb:=hlb _ (bB (l:=((⟨ents,p1,c1⟩:TabV) :: ts)) (k:=k) (by omega))
  have hdm:(((⟨ents,p1,c1⟩:TabV) :: ts).map (·.data)).getD k []=(((⟨ents,p1,c1⟩:TabV) :: ts).getD k default).data:=by
   simp only [List.getD_eq_getElem?_getD,List.getElem?_map]
   cases ((⟨ents,p1,c1⟩:TabV) :: ts)[k]? <;> rfl
  refine zR7 ?_
  refine dO (ι:=Nat × Value) (fun ⟨j,Vo⟩=>j≤(((⟨ents,p1,c1⟩:TabV) :: ts).getD k default).data.length) (fun _=>_) (fun ⟨j,Vo⟩=>[rowE Vo 23 aa (mo ins ((⟨ents,p1,c1⟩:TabV) :: ts) k j),rowE V3 31 gr ((⟨ents,p1,c1⟩:TabV) :: ts),cellE b1 [.slice pI ins.length cI,.slice p1 ents.length c1,.slice pu nu cu,.slice pb nb cb] 52]) (fun ⟨j,Vo⟩=>[(22,.int .i64 (j:Nat)),(5,Vo)]) (fun ⟨j,Vo⟩=>(((⟨ents,p1,c1⟩:TabV) :: ts).getD k default).data.length - j) (0,_) (Nat.zero_le _) (Front.c (Front.c Front.nil)) (fun i hi m hm=>?_)
  obtain ⟨j,Vo⟩:=i
  dsimp only at hi hm
  change Tr _ _ [rowE Vo 23 aa (mo ins ((⟨ents,p1,c1⟩:TabV) :: ts) k j),rowE V3 31 gr ((⟨ents,p1,c1⟩:TabV) :: ts),cellE b1 [.slice pI ins.length cI,.slice p1 ents.length c1,.slice pu nu cu,.slice pb nb cb] 52] ([(22,.int .i64 (j:Nat)),(5,Vo)] ++ _) _
  have hkl:=IP (ins:=ins) (k:=k) (j:=j) hlb (by omega)
  have hkm:(k+1) * 700≤701 * 700:=Nat.mul_le_mul_right _ (by omega)
  refine zR6 ?_
  refine af rfl (fun h5=>?_) (fun h5=>?_)
  ·refine zR8 ?_
   refine bS ba rfl (fun b6=>?_)
   refine ad aa rfl rfl aj ?_
   refine zR6 ?_
   refine zz0 (eP rfl rfl) ?_
   refine zz0 (ac rfl Tryz.call86 (fun w hw=>qn ins _ _ _ w (hw.slF hI') Tryz.call158 (fun i=>decide (i.addr=(((⟨ents,p1,c1⟩:TabV) :: ts).getD k default).data.getD j default)) (fun x hx w'' h=>IN x _ _ w'' (cellE.cell (hw.ent _ (by repeat constructor)) h rfl)))) (zR2 ?_)
   refine af rfl (fun h7=>?_) (fun h7=>?_)
   ·refine zR3 ?_
    refine g7 (E:=aa) ((((⟨ents,p1,c1⟩:TabV) :: ts).getD k default).data.getD j default) rfl rfl au aj ba (fun V8=>?_)
    refine zz3 rfl rfl au dA (fun V9=>?_)
    refine zR5 ?_
    refine zz0 (aZ rfl rfl) (zR3 ?_)
    rw [← IO (by omega) (by assumption)]
    refine bC (j+1,_) (Front.c (Front.c Front.nil)) (zz9 17 rfl) (o:=(by show j+1≤_; omega))
   refine fO (eK (az (aP (zz0 (aZ rfl rfl) (zR3 ?_)))))
   rw [← KD (by omega) (by first|assumption|simp_all)]
   refine bC (j+1,_) (Front.c (Front.c Front.nil)) (zz9 12 rfl) (o:=(by show j+1≤_; omega))
  refine zR7 ?_
  refine zz0 (aZ rfl rfl) (zR3 ?_)
  rw [FN ins ((⟨ents,p1,c1⟩:TabV) :: ts) (by omega) (j:=j) (by rw [hdm]; omega)]
  refine bC (k+1,_) (Front.c (Front.c Front.nil)) (zz9 14 rfl) (o:=(by show k+1≤_; omega))
 refine zR6 ?_
 obtain rfl:k=((⟨ents,p1,c1⟩:TabV) :: ts).length:=by omega
 rw [IQ]
 have hrl:=qM ins (ls:=((⟨ents,p1,c1⟩:TabV) :: ts).map (·.data)) (n:=700) (fun t ht=>by
  obtain ⟨r,hr,rfl⟩:=List.mem_map.1 ht
  exact hlb r hr)
 rw [List.length_map] at hrl
 have hrm:((⟨ents,p1,c1⟩:TabV) :: ts).length * 700≤701 * 700:=Nat.mul_le_mul_right _ hll
 refine zR2 ?_
 refine dz rfl Tryz.call141 (by repeat constructor) (fun w hw=>Ax (mM ins (((⟨ents,p1,c1⟩:TabV) :: ts).map (·.data))).toArray _ w (hw.ent _ (.head _)) (by rw [List.size_toArray]; omega)) rfl ?_
 rw [Dq]
 refine zR5 ?_
 refine Am rfl Tryz.call159 (by repeat constructor) (fun w hw=>EO (gh (mM ins (((⟨ents,p1,c1⟩:TabV) :: ts).map (·.data)))) _ w (hw.ent _ (.head _)) (by rw [tW]; omega)) rfl (fun V10 hV10=>zR4 ?_)
 exact ah Tryz.results106 rfl fun w' hw=>⟨_,rfl,hw.b0,hw.new (.head _)⟩
end Go.Proofs.YtiajjbhcpeadfaaGreat
namespace Go.Proofs.YtiajjbhcpeadfaaGreat
open Go Go.HL Go.RowKit
theorem KA (x0 x1 x2 x3:Option Addr) (xn0 xc0 xn1 xc1 xn2 xc2 xn3 xc3:Nat) (l:List SecV) (pV:Option Addr) (cV:Nat) (es:List UInt32) (VE:Value) (ts:List TabV) (at_:List UInt32) (pt pa:Option Addr) (ct ca:Nat) (w:World) (hV:Sl (hp w) cD l (.slice pV l.length cV)) (hB:SecB l) (hD:DataIn (hp w) l) (hN:∀ s∈l,s.name.size≤140737488351232) (hE:Sl (hp w) aa es VE) (hT:Sl (hp w) gr ts (.slice pt ts.length ct)) (hTI:TabIn (hp w) ts) (hTB:s9 ts) (hP:Sl (hp w) aa at_ (.slice pa at_.length ca)) (ht:totD l≤600) (hel:es.length≤100) :
  Calls Tryz.prog 52 #[.agg #[.slice x0 xn0 xc0,.slice x1 xn1 xc1,.slice x2 xn2 xc2,.slice x3 xn3 xc3,.slice pt ts.length ct,.slice pa at_.length ca],(.slice pV l.length cV),VE] w (fun e w'=>∃ i:(Value × Value × Value × Value × Value × Value) × (CodeP × FndV × Int) × List (RV UInt32),e=.returned ((fun i:(Value × Value × Value × Value × Value × Value) × (CodeP × FndV × Int) × List (RV UInt32)=>.tuple #[.agg #[i.1.1,i.1.2.1,i.1.2.2.1,i.1.2.2.2.1,i.1.2.2.2.2.1,i.1.2.2.2.2.2],.int .i64 i.2.1.2.2]) i)∧Below w.heap.size w w'∧NewEnts w w' ((fun i:(Value × Value × Value × Value × Value × Value) × (CodeP × FndV × Int) × List (RV UInt32)=>rowE i.1.1 36 am i.2.1.1.ins :: rowE i.1.2.1 23 aa i.2.1.1.ents :: rowE i.1.2.2.1 23 aa i.2.1.1.unk :: rowE i.1.2.2.2.1 23 aa i.2.1.1.bad :: rowE i.1.2.2.2.2.1 31 cK i.2.2 :: rowE i.1.2.2.2.2.2 23 aa i.2.1.2.1.at_ :: i.2.2.map (rvE 23 aa)) i)∧(fun i:(Value × Value × Value × Value × Value × Value) × (CodeP × FndV × Int) × List (RV UInt32)=>RoundIs l es ts at_ i.2.1∧i.2.2.map (·.data)=i.2.1.2.1.ts) i):=by
 have hV0:Sl (Bg.of0 w).blk cD l (.slice pV l.length cV):=hV
 have hD0:DataIn (Bg.of0 w).blk l:=hD
 have hE0:Sl (Bg.of0 w).blk aa es VE:=hE
 have hT0:Sl (Bg.of0 w).blk gr ts (.slice pt ts.length ct):=hT
 have hTI0:TabIn (Bg.of0 w).blk ts:=hTI
 have hP0:Sl (Bg.of0 w).blk aa at_ (.slice pa at_.length ca):=hP
 refine lT Tryz.func52 rfl Tryz.ntmps52 rfl (zR2 ?_)
 refine cm rfl rfl (fun b1=>?_)
 refine bS kD rfl (fun b2=>dy ?_)
 refine dC (fun i:((Value × Value × Value × Value) × CodeP × Int)=>.tuple #[.agg #[i.1.1,i.1.2.1,i.1.2.2.1,i.1.2.2.2],.int .i64 i.2.2]) (fun i:((Value × Value × Value × Value) × CodeP × Int)=>[rowE i.1.1 36 am i.2.1.ins,rowE i.1.2.1 23 aa i.2.1.ents,rowE i.1.2.2.1 23 aa i.2.1.unk,rowE i.1.2.2.2 23 aa i.2.1.bad]) (ok:=fun i=>WalkIs l ts at_ es i.2.1 i.2.2) rfl rfl Tryz.call28 (fun w hw=>walk_any l ts at_ es _ VE _ _ w (hw.slF hV0) hB (hD0.mono hw.bg) hN (hw.slF hE0) (hw.slF hT0) (hTI0.mono hw.bg) hTB (hw.slF hP0) ht hel) rfl (fun i hwk=>?_)
 obtain ⟨⟨Vi,Ve,Vu,Vb⟩,c,ew⟩:=i
 replace hwk:WalkIs l ts at_ es c ew:=hwk
 have hcl:=Bc hTB hwk
 change Tr _ _ [rowE Vi 36 am c.ins,rowE Ve 23 aa c.ents,rowE Vu 23 aa c.unk,rowE Vb 23 aa c.bad,cellE b2 [.slice none 0 0,.slice none 0 0,.slice none 0 0,.slice none 0 0,.slice none 0 0,.slice none 0 0] 114,cellE b1 [.slice x0 xn0 xc0,.slice x1 xn1 xc1,.slice x2 xn2 xc2,.slice x3 xn3 xc3,.slice pt ts.length ct,.slice pa at_.length ca] 114] _ _
 refine fq (V:=Vi) (fun pVi cVi hpv=>?_)
 subst hpv
 refine fq (V:=Ve) (fun pVe cVe hpv=>?_)
 subst hpv
 refine fq (V:=Vu) (fun pVu cVu hpv=>?_)
 subst hpv
 refine fq (V:=Vb) (fun pVb cVb hpv=>?_)
 subst hpv
 refine zR3 ?_
 refine bS dE rfl (fun b3=>?_)
 refine zz7 rfl rfl cp ?_
 refine df ?_
 refine af rfl (fun h4=>?_) (fun h4=>?_)
 ·have hqw:=h4
  refine bE (aR 36 am ?_)
  refine aR 23 aa ?_
  refine aR 23 aa ?_
  refine aR 23 aa ?_
  refine aR 23 aa ?_
  refine aR 31 (cK (α:=UInt32)) (aP ?_)
  refine zz0 (aK (vs:=[]) rfl rfl (uW)) (zz0 (ae rfl) ?_)
  refine zz7 rfl rfl gu ?_
  refine zR5 ?_
  refine kJ Tryz.results52 rfl rfl Tryz.isAgg114 gu (fun w' hw=>?_)
  exact ⟨((.slice none 0 0,.slice none 0 0,.slice none 0 0,.slice none 0 0,.slice none 0 0,.slice none 0 0),(⟨[],[],[],[]⟩,⟨[],[]⟩,ew),[]),rfl,hw.below0 (Bg.le.refl _),hw.ents0 rfl (by repeat' (first|exact Pick.refl _|exact Del.here _|apply Pick.cons|apply Del.there|apply Pick.skip|exact Pick.nil _)),⟨c,ew,hwk,by rw [if_pos hqw]⟩,rfl⟩
 have hqw:ew=0:=by simpa using h4
 refine zR3 ?_
 obtain ⟨R,hR⟩:∃ R,R=fY c.ins c.ents c.unk c.bad:=⟨_,rfl⟩
 have hkl:=AU c.ins c.ents c.unk c.bad
 rw [← hR] at hkl
 have hkI:∀ x∈R.kept,InsOK x:=fun x hx=>ti hwk x (yA (by rw [← hR]; exact hx))
 have hks:R.kept.Pairwise (fun x y=>I9 m9 y x=false):=(by rw [hR]; exact qP c.ins c.ents c.unk c.bad:R.kept.Pairwise fun a b=>ltA a b=true).imp fun {a b} q=>JX.asym (by unfold I9 m9; unfold ltA at q; rw [decide_eq_true_eq] at q ⊢; exact (xk _ _).2 q)
 refine zR2 ?_
 refine il (fun i:(Value × Value × Value × Value × Value)=>.tuple #[.agg #[i.1,i.2.1,i.2.2.1,i.2.2.2.1],i.2.2.2.2]) (fun i:(Value × Value × Value × Value × Value)=>[rowE i.1 36 am R.kept,rowE i.2.1 23 aa R.ents,rowE i.2.2.1 23 aa R.unk,rowE i.2.2.2.1 23 aa R.bad,rowE i.2.2.2.2 23 aa R.rem]) (ok:=fun _=>True) rfl Tryz.call29 (fun w hw=>(DI c.ins c.ents c.unk c.bad _ _ _ _ w (hw.row (by repeat constructor)) (hw.row (by repeat constructor)) (hw.row (by repeat constructor)) (hw.row (by repeat constructor)) (ti hwk) (by omega) (by omega) (by omega) (by omega)).mono fun e w' ⟨i,q1,q2,q3⟩=>⟨i,q1,q2,by rw [hR]; exact q3,trivial⟩) rfl (fun i5 _=>?_)
 obtain ⟨Ki,Ke,Ku,Kb,Kr⟩:=i5
 change Tr _ _ (rowE Ki 36 am R.kept :: rowE Ke 23 aa R.ents :: rowE Ku 23 aa R.unk :: rowE Kb 23 aa R.bad :: rowE Kr 23 aa R.rem :: _) _ _
 refine fq (V:=Ki) (fun pKi cKi hpv=>?_)
 subst hpv
 refine fq (V:=Ke) (fun pKe cKe hpv=>?_)
 subst hpv
 refine fq (V:=Ku) (fun pKu cKu hpv=>?_)
 subst hpv
 refine fq (V:=Kb) (fun pKb cKb hpv=>?_)
 subst hpv
 refine zR3 ?_
 refine bS dE rfl (fun b5=>?_)
 refine zz7 rfl rfl cp ?_
 refine zR6 ?_
 refine zz0 (lG (vs:=[(0,_)]) (cs:=#[.slice pKi R.kept.length cKi,.slice pKe R.ents.length cKe,.slice pKu R.unk.length cKu,.slice pKb R.bad.length cKb,.slice none 0 0,.slice none 0 0]) rfl rfl) ?_
 refine bS kD rfl (fun b6=>?_)
 refine zz7 rfl rfl gu ?_
 refine dy ?_
 refine zz0 (eQ (vs:=[.slice pKi R.kept.length cKi,.slice pKe R.ents.length cKe,.slice pKu R.unk.length cKu,.slice pKb R.bad.length cKb]) rfl (by repeat constructor) jO cp (by rfl) (by rfl)) (zR2 ?_)
 refine dj rfl Tryz.call106 (fun w hw=>KC R.kept R.ents ts _ _ _ _ _ _ _ _ _ _ _ w (hw.row (by repeat constructor)) (hw.row (by repeat constructor)) (hw.slF hT0) (hTI0.mono hw.bg) hTB (by omega)) rfl (fun V7=>?_)
 obtain ⟨rts,hrts⟩:∃ rts,rts=g8 R.kept R.ents (ts.map (·.data)):=⟨_,rfl⟩
 rw [← hrts]
 have hrl:rts.length≤490700:=by
  rw [hrts]
  refine IM (by omega) (fun t ht=>?_) (by rw [List.length_map]; exact hTB.1)
  obtain ⟨r,hr,rfl⟩:=List.mem_map.1 ht
  have:=hTB.2 r hr; omega
 refine zR5 ?_
 refine aR 177 (cK (α:=StV)) ?_
 refine dO (ι:=Nat × Bg × List (RV StV) × Value) (fun ⟨k,G,ss,Vs⟩=>((k≤rts.length∧(Bg.of0 w).le G)∧RvIn bQ G.blk ss)∧ss.map (·.data)=gW R.kept (rts.take k)∧lS R.kept (rts.take k)=0) (fun ⟨k,G,ss,Vs⟩=>G) (fun ⟨k,G,ss,Vs⟩=>[rowE Vs 177 cK ss,rowE V7 23 aa rts,cellE b6 [.slice pKi R.kept.length cKi,.slice pKe R.ents.length cKe,.slice pKu R.unk.length cKu,.slice pKb R.bad.length cKb,.slice none 0 0,.slice none 0 0] 114,rowE (.slice pKi R.kept.length cKi) 36 am R.kept,rowE (.slice pKe R.ents.length cKe) 23 aa R.ents,rowE (.slice pKu R.unk.length cKu) 23 aa R.unk,rowE (.slice pKb R.bad.length cKb) 23 aa R.bad,cellE b2 [.slice none 0 0,.slice none 0 0,.slice none 0 0,.slice none 0 0,.slice none 0 0,.slice none 0 0] 114]) (fun ⟨k,G,ss,Vs⟩=>[(56,.int .i64 (k:Nat)),(13,Vs)]) (fun ⟨k,G,ss,Vs⟩=>rts.length - k) (0,_,[],_) ⟨⟨⟨Nat.zero_le _,Bg.le.refl _⟩,fun t ht=>by cases ht⟩,rfl,rfl⟩ (Front.c (Front.c Front.nil)) (fun i hi m hm=>?_)
 obtain ⟨k,G,ss,Vs⟩:=i
 dsimp only at hi hm
 change Tr _ (G) [rowE Vs 177 cK ss,rowE V7 23 aa rts,cellE b6 [.slice pKi R.kept.length cKi,.slice pKe R.ents.length cKe,.slice pKu R.unk.length cKu,.slice pKb R.bad.length cKb,.slice none 0 0,.slice none 0 0] 114,rowE (.slice pKi R.kept.length cKi) 36 am R.kept,rowE (.slice pKe R.ents.length cKe) 23 aa R.ents,rowE (.slice pKu R.unk.length cKu) 23 aa R.unk,rowE (.slice pKb R.bad.length cKb) 23 aa R.bad,cellE b2 [.slice none 0 0,.slice none 0 0,.slice none 0 0,.slice none 0 0,.slice none 0 0,.slice none 0 0] 114] ([(56,.int .i64 (k:Nat)),(13,Vs)] ++ _) _
 obtain ⟨⟨⟨hk,hG⟩,hss⟩,hks1,hks0⟩:=hi
 have hsl:ss.length=min k rts.length:=by have:=congrArg List.length hks1; rw [List.length_map] at this; rw [this]; unfold gW; rw [List.length_map,List.length_take]
 refine zR6 ?_
 refine af rfl (fun h8=>?_) (fun h8=>?_)
 ·refine xz ?_
  refine dC (fun V:Value=>.tuple #[V,.int .i64 (cR R.kept (rts.getD k default) 4096).2]) (fun V=>[rowE V 37 bQ (cR R.kept (rts.getD k default) 4096).1]) (ok:=fun _=>True) hG.dr rfl Tryz.call107 (fun w hw=>(E1 R.kept (rts.getD k default) 4096 _ w (hw.row (by repeat constructor)) hkI (by omega)).mono fun e w' ⟨V,q1,q2,q3⟩=>⟨V,q1,q2,q3,trivial⟩) rfl (fun VA _=>lN ?_)
  refine af rfl (fun h9=>?_) (fun h9=>?_)
  ·have hqe:=h9
   refine bE (aR 36 am ?_)
   refine aR 23 aa ?_
   refine aR 23 aa ?_
   refine aR 23 aa ?_
   refine aR 23 aa ?_
   refine aR 31 (cK (α:=UInt32)) (aP ?_)
   refine zz0 (aK (vs:=[]) rfl rfl (uW)) (zz0 (ae rfl) ?_)
   refine zz7 rfl rfl gu ?_
   refine df ?_
   refine kJ Tryz.results52 rfl rfl Tryz.isAgg114 gu (fun w' hw=>?_)
   have h1:=vA hks0 (by omega:k<rts.length)
   have hee:lS R.kept rts=(cR R.kept (rts.getD k default) 4096).2:=by rw [EB (k:=k+1) (by rw [h1]; exact hqe),h1]
   exact ⟨((.slice none 0 0,.slice none 0 0,.slice none 0 0,.slice none 0 0,.slice none 0 0,.slice none 0 0),(⟨[],[],[],[]⟩,⟨[],[]⟩,(cR R.kept (rts.getD k default) 4096).2),[]),rfl,hw.below0 hG,hw.ents0 hG.lo (by repeat' (first|exact Pick.refl _|exact Del.here _|apply Pick.cons|apply Del.there|apply Pick.skip|exact Pick.nil _)),⟨c,ew,hwk,by rw [if_neg (fun q=>q hqw),tq hR (by rw [← hrts,hee]; exact hqe),← hrts,hee]⟩,rfl⟩
  have hqe:(cR R.kept (rts.getD k default) 4096).2=0:=by simpa using h9
  refine zR2 ?_
  have hek:lS R.kept (rts.take (k+1))=0:=by
   rw [vA hks0 (by omega)]; exact hqe
  refine fq (V:=VA) (fun pA cA hpv=>?_)
  subst hpv
  refine l4 (V:=.slice pA (cR R.kept (rts.getD k default) 4096).1.length cA) (T:=37) (E:=bQ) (by repeat constructor) (fun G2 hG2 hA2=>zR3 ?_)
  refine g7 (E:=(cK (α:=StV))) (⟨(cR R.kept (rts.getD k default) 4096).1,pA,cA⟩:RV StV) rfl rfl Tryz.underlying175 nc Tryz.zeroValue177 (fun V10=>?_)
  refine zz3 rfl rfl Tryz.underlying175 Fx (fun V11=>?_)
  refine zR5 ?_
  refine zz0 (aZ rfl rfl) (zR3 ?_)
  apply fW (k+1,G2,ss ++ [⟨(cR R.kept (rts.getD k default) 4096).1,pA,cA⟩],_)
  ·exact rfl
  ·exact (Front.c (Front.c Front.nil))
  ·exact zz9 25 rfl
  ·exact (by repeat' constructor)
  ·exact ⟨⟨⟨by omega,hG.trans hG2⟩,fun t ht=>by
   rcases List.mem_append.1 ht with ht|ht
   ·exact (hss t ht).mono hG2.blk
   rw [List.mem_singleton.1 ht]; exact hA2⟩,by rw [List.map_append,hks1,Dn (by omega)]; rfl,hek⟩
  exact (by (try dsimp only); omega)
 refine zR6 ?_
 obtain rfl:k=rts.length:=by omega
 rw [List.take_length] at hks1 hks0
 have hVG:=hV0.mono hG.blk
 have hDG:=hD0.mono hG.blk
 refine zR4 ?_
 refine dj rfl Tryz.call77 (fun w hw=>Be R.kept _ w (hw.row (by repeat constructor)) (by omega)) rfl (fun VC=>zR6 ?_)
 refine ik (fun c2=>c2=R.kept) rfl Tryz.call78 (fun w hw=>(rO R.kept _ 108 [] m9 (fun _=>True) (fun _ _ _ _ _ _=>trivial) Tryz.call108 (fun x y w' _=>IL x y w') JX w trivial (hw.ent _ (.head _)) (by omega)).mono fun e w' ⟨q1,c2,⟨q2,q3,q4⟩,q5,q6⟩=>⟨q1,c2,(u3 JX _ _ q2 hks (Srt.all (by rw [q2.len]; exact q4))).symm,q5,q6⟩) rfl (fun c2 hc2=>?_)
 subst hc2
 refine dy ?_
 refine aR 31 (cK (α:=UInt32)) ?_
 refine aR 23 aa ?_
 refine dO (ι:=Nat × List (RV UInt32) × List UInt32 × Value × Value) (fun ⟨k,rs,at2,Vt,Vp⟩=>k≤R.kept.length∧(⟨rs.map (·.data),at2⟩:FndV)=(mV l R.kept (ss.map (·.data)) (R.kept.take k))) (fun _=>G) (fun ⟨k,rs,at2,Vt,Vp⟩=>(rowE VC 36 am R.kept :: cellE b6 [.slice pKi R.kept.length cKi,.slice pKe R.ents.length cKe,.slice pKu R.unk.length cKu,.slice pKb R.bad.length cKb,Vt,Vp] 114 :: rowE Vt 31 cK rs :: rowE Vp 23 aa at2 :: rowE Vs 177 cK ss :: rowE (.slice pKi R.kept.length cKi) 36 am R.kept :: rowE (.slice pKe R.ents.length cKe) 23 aa R.ents :: rowE (.slice pKu R.unk.length cKu) 23 aa R.unk :: rowE (.slice pKb R.bad.length cKb) 23 aa R.bad :: cellE b2 [.slice none 0 0,.slice none 0 0,.slice none 0 0,.slice none 0 0,.slice none 0 0,.slice none 0 0] 114 :: (rs.map (rvE 23 aa) ++ []))) (fun ⟨k,rs,at2,Vt,Vp⟩=>[(85,.int .i64 (k:Nat))]) (fun ⟨k,rs,at2,Vt,Vp⟩=>R.kept.length - k) (0,[],[],_,_) ⟨Nat.zero_le _,rfl⟩ (Front.c Front.nil) (hL:=(by repeat' (first|exact Pick.refl _|exact Del.here _|apply Pick.cons|apply Del.there|apply Pick.skip|exact Pick.nil _))) (fun i hi m hm=>?_)
 obtain ⟨k,rs,at2,Vt,Vp⟩:=i
 dsimp only at hi hm
 change Tr _ _ (rowE VC 36 am R.kept :: cellE b6 [.slice pKi R.kept.length cKi,.slice pKe R.ents.length cKe,.slice pKu R.unk.length cKu,.slice pKb R.bad.length cKb,Vt,Vp] 114 :: rowE Vt 31 cK rs :: rowE Vp 23 aa at2 :: rowE Vs 177 cK ss :: rowE (.slice pKi R.kept.length cKi) 36 am R.kept :: rowE (.slice pKe R.ents.length cKe) 23 aa R.ents :: rowE (.slice pKu R.unk.length cKu) 23 aa R.unk :: rowE (.slice pKb R.bad.length cKb) 23 aa R.bad :: cellE b2 [.slice none 0 0,.slice none 0 0,.slice none 0 0,.slice none 0 0,.slice none 0 0,.slice none 0 0] 114 :: (rs.map (rvE 23 aa) ++ [])) ([(85,.int .i64 (k:Nat))] ++ _) _
 obtain ⟨hk,hfa⟩:=hi
 refine zR6 ?_
 refine af rfl (fun h12=>?_) (fun h12=>?_)
 ·refine zR2 ?_
  refine ga (ι:=List (RV UInt32) × List UInt32 × Value × Value) (fun ⟨rs3,at3,Vt3,Vp3⟩=>(⟨rs3.map (·.data),at3⟩:FndV)=k5 l R.kept (ss.map (·.data)) ⟨rs.map (·.data),at2⟩ (R.kept.getD k default)) (fun _=>G) (fun ⟨rs3,at3,Vt3,Vp3⟩=>(rowE VC 36 am R.kept :: cellE b6 [.slice pKi R.kept.length cKi,.slice pKe R.ents.length cKe,.slice pKu R.unk.length cKu,.slice pKb R.bad.length cKb,Vt3,Vp3] 114 :: rowE Vt3 31 cK rs3 :: rowE Vp3 23 aa at3 :: rowE Vs 177 cK ss :: rowE (.slice pKi R.kept.length cKi) 36 am R.kept :: rowE (.slice pKe R.ents.length cKe) 23 aa R.ents :: rowE (.slice pKu R.unk.length cKu) 23 aa R.unk :: rowE (.slice pKb R.bad.length cKb) 23 aa R.bad :: cellE b2 [.slice none 0 0,.slice none 0 0,.slice none 0 0,.slice none 0 0,.slice none 0 0,.slice none 0 0] 114 :: (rs3.map (rvE 23 aa) ++ []))) (fun ⟨rs3,at3,Vt3,Vp3⟩=>[]) ?_ (fun i hi=>?_)
  ·skip
   refine zR5 ?_
   refine bS aJ rfl (fun b13=>?_)
   refine ad am rfl rfl aw ?_
   refine zR6 ?_
   refine zz0 (ac rfl Tryz.call38 (fun w hw=>wm (R.kept.getD k default) w (hkI _ (bB (by omega))))) (zR3 ?_)
   refine af rfl (fun h14=>?_) (fun h14=>?_)
   ·have hqi:kL (R.kept.getD k default)=false:=h14
    refine zR4 ?_
    refine tK (_,_,_,_) Front.nil (zz9 6 rfl) (o:=(by show _=_; first|exact (sR hqi).symm|exact (sQ hbk).symm|exact (sS hbt hqt).symm|(rw [sP hqi hbt hqt]; simp)))
   have hqi:kL (R.kept.getD k default)=true:=by simpa using h14
   refine oH (zz0 (aK (vs:=[]) rfl rfl (wI)) ?_)
   refine bS bR rfl (fun b15=>?_)
   refine ad bQ rfl rfl aI ?_
   refine fu ?_
   refine dO (ι:=Nat × StV × Bool) (fun ⟨q,b,kn⟩=>q≤ss.length∧(b,kn)=(o5 R.kept (R.kept.getD k default).addr ((ss.map (·.data)).take q))) (fun _=>G) (fun ⟨q,b,kn⟩=>(cellE b15 (bQ.enc b) 37 :: cellE b13 (am.enc (R.kept.getD k default)) 36 :: rowE VC 36 am R.kept :: cellE b6 [.slice pKi R.kept.length cKi,.slice pKe R.ents.length cKe,.slice pKu R.unk.length cKu,.slice pKb R.bad.length cKb,Vt,Vp] 114 :: rowE Vt 31 cK rs :: rowE Vp 23 aa at2 :: rowE Vs 177 cK ss :: rowE (.slice pKi R.kept.length cKi) 36 am R.kept :: rowE (.slice pKe R.ents.length cKe) 23 aa R.ents :: rowE (.slice pKu R.unk.length cKu) 23 aa R.unk :: rowE (.slice pKb R.bad.length cKb) 23 aa R.bad :: cellE b2 [.slice none 0 0,.slice none 0 0,.slice none 0 0,.slice none 0 0,.slice none 0 0,.slice none 0 0] 114 :: (rs.map (rvE 23 aa) ++ []))) (fun ⟨q,b,kn⟩=>[(95,.int .i64 (q:Nat)),(22,.bool kn)]) (fun ⟨q,b,kn⟩=>ss.length - q) (0,kh,false) ⟨Nat.zero_le _,rfl⟩ (Front.c (Front.c Front.nil)) (hL:=(by repeat' (first|exact Pick.refl _|exact Del.here _|apply Pick.cons|apply Del.there|apply Pick.skip|exact Pick.nil _))) (fun i hi m hm=>?_)
   obtain ⟨q,b,kn⟩:=i
   dsimp only at hi hm
   change Tr _ _ (cellE b15 (bQ.enc b) 37 :: cellE b13 (am.enc (R.kept.getD k default)) 36 :: rowE VC 36 am R.kept :: cellE b6 [.slice pKi R.kept.length cKi,.slice pKe R.ents.length cKe,.slice pKu R.unk.length cKu,.slice pKb R.bad.length cKb,Vt,Vp] 114 :: rowE Vt 31 cK rs :: rowE Vp 23 aa at2 :: rowE Vs 177 cK ss :: rowE (.slice pKi R.kept.length cKi) 36 am R.kept :: rowE (.slice pKe R.ents.length cKe) 23 aa R.ents :: rowE (.slice pKu R.unk.length cKu) 23 aa R.unk :: rowE (.slice pKb R.bad.length cKb) 23 aa R.bad :: cellE b2 [.slice none 0 0,.slice none 0 0,.slice none 0 0,.slice none 0 0,.slice none 0 0,.slice none 0 0] 114 :: (rs.map (rvE 23 aa) ++ [])) ([(95,.int .i64 (q:Nat)),(22,.bool kn)] ++ _) _
   obtain ⟨hq,hbf⟩:=hi
   have hgd:((ss.map (·.data))).getD q default=(ss.getD q default).data:=by
    simp only [List.getD_eq_getElem?_getD,List.getElem?_map]
    cases ss[q]? <;> rfl
   refine zR6 ?_
   refine af rfl (fun h16=>?_) (fun h16=>?_)
   ·refine PU ?_
    refine zz0 (ac rfl Tryz.call109 (fun w hw=>GK R.kept (ss.getD q default).data (R.kept.getD k default).addr _ _ w (hw.row (by repeat constructor)) (hw.slF (hss _ (bB (by omega)))))) (zR3 ?_)
    refine bS bR rfl (fun b17=>?_)
    refine ad bQ rfl rfl aI ?_
    refine df ?_
    refine af rfl (fun h18=>?_) (fun h18=>?_)
    ·have hqb:(jy R.kept (ss.getD q default).data (R.kept.getD k default).addr).2=false:=h18
     refine zR5 ?_
     refine zz0 (aZ rfl rfl) (zR3 ?_)
     refine rA (q+1,b,kn) (Front.c (Front.c Front.nil)) (zz9 22 rfl) (o:=⟨by omega,by rw [Bo (by rw [List.length_map]; omega),← hbf,hgd]; unfold GL; rw [if_neg (by rw [hqb]; simp)]⟩)
    have hqb:(jy R.kept (ss.getD q default).data (R.kept.getD k default).addr).2=true:=by simpa using h18
    refine zR2 ?_
    refine fC (.of (ι:=StV) (fun x1=>x1=if kn=true then jH b (jy R.kept (ss.getD q default).data (R.kept.getD k default).addr).1 8 else (jy R.kept (ss.getD q default).data (R.kept.getD k default).addr).1) (fun _=>G) (fun x1=>(cellE b17 (bQ.enc x1) 37 :: cellE b15 (bQ.enc b) 37 :: cellE b13 (am.enc (R.kept.getD k default)) 36 :: rowE VC 36 am R.kept :: cellE b6 [.slice pKi R.kept.length cKi,.slice pKe R.ents.length cKe,.slice pKu R.unk.length cKu,.slice pKb R.bad.length cKb,Vt,Vp] 114 :: rowE Vt 31 cK rs :: rowE Vp 23 aa at2 :: rowE Vs 177 cK ss :: rowE (.slice pKi R.kept.length cKi) 36 am R.kept :: rowE (.slice pKe R.ents.length cKe) 23 aa R.ents :: rowE (.slice pKu R.unk.length cKu) 23 aa R.unk :: rowE (.slice pKb R.bad.length cKb) 23 aa R.bad :: cellE b2 [.slice none 0 0,.slice none 0 0,.slice none 0 0,.slice none 0 0,.slice none 0 0,.slice none 0 0] 114 :: (rs.map (rvE 23 aa) ++ []))) (fun x1=>[])) ?_ (fun x1 hi=>?_)
    ·skip
     refine zR5 ?_
     refine af rfl (fun h19=>?_) (fun h19=>?_)
     ·have hkn:kn=true:=h19
      refine zR3 ?_
      refine zz0 (ac rfl ru (fun w hw=>qY _ _ w)) ?_
      refine ad bQ rfl rfl aI ?_
      refine zR2 ?_
      refine tK _ Front.nil (zz9 4 rfl) (o:=(by show _=_; rw [if_pos hkn]))
     have hkn:kn=false:=by simpa using h19
     refine zR2 ?_
     refine tK _ Front.nil (zz9 1 rfl) (o:=(by show _=_; rw [if_neg (by rw [hkn]; simp)]))
    skip
    have hx1:=hi
    refine aP (zz0 (bU rfl) (ad bQ rfl rfl aI ?_))
    refine zR5 ?_
    refine zz0 (aZ rfl rfl) (zR3 ?_)
    refine rA (q+1,x1,true) (Front.c (Front.c Front.nil)) (zz9 24 rfl) (o:=⟨by omega,by rw [Bo (by rw [List.length_map]; omega),← hbf,hgd]; unfold GL; rw [if_pos hqb,hx1]; cases kn <;> rfl⟩)
   refine zR7 ?_
   obtain rfl:q=ss.length:=by omega
   have hbf2:(b,kn)=o5 R.kept (R.kept.getD k default).addr (ss.map (·.data)):=by rw [hbf,List.take_of_length_le (by rw [List.length_map]; exact Nat.le_refl _)]
   refine zR5 ?_
   refine af rfl (fun h20=>?_) (fun h20=>?_)
   ·have hkn:kn=false:=h20
    have hbk:(b,false)=o5 R.kept (R.kept.getD k default).addr (ss.map (·.data)):=by rw [← hkn]; exact hbf2
    refine zR4 ?_
    refine tK (_,_,_,_) Front.nil (zz9 17 rfl) (o:=(by show _=_; first|exact (sR hqi).symm|exact (sQ hbk).symm|exact (sS hbt hqt).symm|(rw [sP hqi hbt hqt]; simp)))
   have hkn:kn=true:=by simpa using h20
   have hbt:(b,true)=o5 R.kept (R.kept.getD k default).addr (ss.map (·.data)):=by rw [← hkn]; exact hbf2
   refine zR7 ?_
   refine ij (fun V=>.tuple #[V,.int .i64 (bF l (R.kept.getD k default) (b.get (R.kept.getD k default).a)).2]) rfl qu (fun w hw=>nv l pV cV (R.kept.getD k default) b w (hw.slF hVG) hB (hDG.mono hw.bg) hN (hkI _ (bB (by omega)))) rfl (fun VJ=>jz ?_)
   refine af rfl (fun h21=>?_) (fun h21=>?_)
   ·have hqt:(bF l (R.kept.getD k default) (b.get (R.kept.getD k default).a)).2=0:=h21
    refine fq (V:=VJ) (fun pJ cJ hpv=>?_)
    subst hpv
    have htl:(bF l (R.kept.getD k default) (b.get (R.kept.getD k default).a)).1.length≤64:=vW
    have hfl:=A3 l R.kept (ss.map (·.data)) (R.kept.take k)
    rw [List.length_take] at hfl
    have hrsl:rs.length=(mV l R.kept (ss.map (·.data)) (R.kept.take k)).ts.length:=by rw [← hfa]; simp
    have hatl:at2.length=(mV l R.kept (ss.map (·.data)) (R.kept.take k)).at_.length:=by rw [← hfa]
    refine GY (A:=[cellE b15 (bQ.enc b) 37,cellE b13 (am.enc (R.kept.getD k default)) 36,rowE VC 36 am R.kept,cellE b6 [.slice pKi R.kept.length cKi,.slice pKe R.ents.length cKe,.slice pKu R.unk.length cKu,.slice pKb R.bad.length cKb,Vt,Vp] 114,rowE Vt 31 cK rs,rowE Vp 23 aa at2,rowE Vs 177 cK ss,rowE (.slice pKi R.kept.length cKi) 36 am R.kept,rowE (.slice pKe R.ents.length cKe) 23 aa R.ents,rowE (.slice pKu R.unk.length cKu) 23 aa R.unk,rowE (.slice pKb R.bad.length cKb) 23 aa R.bad,cellE b2 [.slice none 0 0,.slice none 0 0,.slice none 0 0,.slice none 0 0,.slice none 0 0,.slice none 0 0] 114]) (f:=(rvE 23 aa)) (rs:=rs) (⟨(bF l (R.kept.getD k default) (b.get (R.kept.getD k default).a)).1,pJ,cJ⟩:RV UInt32) ?_
    change Tr _ _ (cellE b15 (bQ.enc b) 37 :: cellE b13 (am.enc (R.kept.getD k default)) 36 :: rowE VC 36 am R.kept :: cellE b6 [.slice pKi R.kept.length cKi,.slice pKe R.ents.length cKe,.slice pKu R.unk.length cKu,.slice pKb R.bad.length cKb,Vt,Vp] 114 :: rowE Vt 31 cK rs :: rowE Vp 23 aa at2 :: rowE Vs 177 cK ss :: rowE (.slice pKi R.kept.length cKi) 36 am R.kept :: rowE (.slice pKe R.ents.length cKe) 23 aa R.ents :: rowE (.slice pKu R.unk.length cKu) 23 aa R.unk :: rowE (.slice pKb R.bad.length cKb) 23 aa R.bad :: cellE b2 [.slice none 0 0,.slice none 0 0,.slice none 0 0,.slice none 0 0,.slice none 0 0,.slice none 0 0] 114 :: ((rs ++ [(⟨(bF l (R.kept.getD k default) (b.get (R.kept.getD k default).a)).1,pJ,cJ⟩:RV UInt32)]).map (rvE 23 aa) ++ [])) _ _
    refine aL ([cellE b13 (am.enc (R.kept.getD k default)) 36]) 15 rfl ak ?_
    refine PN 15 ?_
    repeat' (first
     | refine rB.cons ?_ ?_
     | exact rB.nil
     | (refine oI 1 ?_; refine sq rfl ?_; refine zz0 (cH rfl) ?_; refine wA ?_)
     | (refine oI 3 ?_; refine sq rfl ?_; refine g7 (E:=(cK (α:=UInt32))) (⟨(bF l (R.kept.getD k default) (b.get (R.kept.getD k default).a)).1,pJ,cJ⟩:RV UInt32) rfl rfl jg fS Tryz.zeroValue31 (fun V22=>?_); refine wA ?_)
     | (refine oI 4 ?_; refine sq rfl ?_; refine zz3 rfl rfl jg zF (fun V23=>?_); refine cG (.head _) (fun pz cz hpz=>?_); subst hpz; refine wA ?_)
     | (refine oI 6 ?_; refine sq rfl ?_; refine zz0 (cH rfl) ?_; refine wA ?_)
     | (refine oI 9 ?_; refine sq rfl ?_; refine g7 (E:=aa) (R.kept.getD k default).addr rfl rfl au aj ba (fun V24=>?_); refine wA ?_)
     | (refine oI 10 ?_; refine sq rfl ?_; refine zz3 rfl rfl au dA (fun V25=>?_); refine cG (.head _) (fun py cy hpy=>?_); subst hpy; refine wA ?_)
     | (refine oI 12 ?_; refine sq rfl ?_; refine zz4 (cs':=[_,_,_,_,_,_]) rfl rfl Tryz.sizeOf53 rfl ?_; refine wA ?_)
     | (refine oI 14 ?_; refine sq rfl ?_; refine zz4 (cs':=[_,_,_,_,_,_]) rfl rfl fS rfl ?_; refine wA ?_)
     | (refine gP 0 ?_; refine wz 0 rfl (by kernel_rfl) (cN (aC (aC (cN (aC cw))))) (aD rfl) ?_)
     | (refine gP 1 ?_; refine wz 2 rfl (by kernel_rfl) (cN (aC (aC (cN (aC cw))))) (ae rfl) ?_)
     | (refine gP 5 ?_; refine wz 5 rfl (by kernel_rfl) (cN (aC (aC (cN (aC cw))))) (aD rfl) ?_)
     | (refine gP 37 ?_; refine wz 7 rfl (by kernel_rfl) (cN (aC (aC (cN (aC cw))))) (aD rfl) ?_)
     | (refine gP 165 ?_; refine wz 8 rfl (by kernel_rfl) (cN (aC (aC (cN (aC cw))))) (cH rfl) ?_)
     | (refine gP 511 ?_; refine wz 11 rfl (by kernel_rfl) (cN (aC (aC (cN (aC cw))))) (aD rfl) ?_)
     | (refine gP 8191 ?_; refine wz 13 rfl (by kernel_rfl) (cN (aC (aC (cN (aC cw))))) (aD rfl) ?_)
     | (refine gP 1023 ?_; refine wz 11 rfl (by kernel_rfl) (cN (aC (aC (cN (aC cw))))) (aD rfl) ?_)
     | (refine gP 421 ?_; refine nT [1,3,6,9] ?_)
     | (refine gP 423 ?_; refine nT [3,6,9] ?_)
     | (refine gP 431 ?_; refine nT [4,6,9] ?_)
     | (refine gP 447 ?_; refine nT [6,9] ?_)
     | (refine gP 2559 ?_; refine nT [9] ?_)
     | (refine gP 3071 ?_; refine nT [10] ?_)
     | (refine gP 4095 ?_; refine nT [12] ?_)
     | (refine gP 16383 ?_; refine nT [14] ?_)
     | (refine gP 959 ?_; refine nT [6] ?_)
     | (refine gP 495 ?_; refine nT [4,9] ?_)
     | (refine gP 1007 ?_; refine nT [4] ?_)
     | (refine gP 943 ?_; refine nT [4,6] ?_)
     | (refine gP 487 ?_; refine nT [3,9] ?_)
     | (refine gP 999 ?_; refine nT [3] ?_)
     | (refine gP 935 ?_; refine nT [3,6] ?_)
     | (refine gP 429 ?_; refine nT [1,6,9] ?_)
     | (refine gP 493 ?_; refine nT [1,9] ?_)
     | (refine gP 1005 ?_; refine nT [1] ?_)
     | (refine gP 941 ?_; refine nT [1,6] ?_)
     | (refine gP 485 ?_; refine nT [1,3,9] ?_)
     | (refine gP 997 ?_; refine nT [1,3] ?_)
     | (refine gP 933 ?_; refine nT [1,3,6] ?_)
     | (
      refine gP 32767 ?_
      refine MR (by kernel_rfl) (zR2 ?_)
      apply dI (_,_,_,_)
      ·exact rfl
      ·exact Front.nil
      ·exact zz9 41 rfl
      ·exact (by repeat' (first|exact Pick.refl _|exact Del.here _|apply Pick.cons|apply Del.there|apply Pick.skip|exact Pick.nil _))
      ·exact (by show _=_; first|exact (sR hqi).symm|exact (sQ hbk).symm|exact (sS hbt hqt).symm|(rw [sP hqi hbt hqt]; simp))
      )
     )
   have hqt:(bF l (R.kept.getD k default) (b.get (R.kept.getD k default).a)).2≠0:=h21
   refine zR3 ?_
   refine tK (_,_,_,_) Front.nil (zz9 28 rfl) (o:=(by show _=_; first|exact (sR hqi).symm|exact (sQ hbk).symm|exact (sS hbt hqt).symm|(rw [sP hqi hbt hqt]; simp)))
  obtain ⟨rs3,at3,Vt3,Vp3⟩:=i
  replace hi:(⟨rs3.map (·.data),at3⟩:FndV)=k5 l R.kept (ss.map (·.data)) ⟨rs.map (·.data),at2⟩ (R.kept.getD k default):=hi
  change Tr _ _ (rowE VC 36 am R.kept :: cellE b6 [.slice pKi R.kept.length cKi,.slice pKe R.ents.length cKe,.slice pKu R.unk.length cKu,.slice pKb R.bad.length cKb,Vt3,Vp3] 114 :: rowE Vt3 31 cK rs3 :: rowE Vp3 23 aa at3 :: rowE Vs 177 cK ss :: rowE (.slice pKi R.kept.length cKi) 36 am R.kept :: rowE (.slice pKe R.ents.length cKe) 23 aa R.ents :: rowE (.slice pKu R.unk.length cKu) 23 aa R.unk :: rowE (.slice pKb R.bad.length cKb) 23 aa R.bad :: cellE b2 [.slice none 0 0,.slice none 0 0,.slice none 0 0,.slice none 0 0,.slice none 0 0,.slice none 0 0] 114 :: (rs3.map (rvE 23 aa) ++ [])) ([] ++ _) _
  have hi3:=hi
  refine aP (zz0 (aZ rfl rfl) (zR3 ?_))
  refine rA (k+1,rs3,at3,Vt3,Vp3) (Front.c Front.nil) (zz9 4 rfl) (o:=⟨by omega,by rw [Gu (by omega),← hfa]; exact hi3⟩)
 refine zR6 ?_
 refine fq (V:=Vt) (fun pVt cVt hpv=>?_)
 subst hpv
 refine fq (V:=Vp) (fun pVp cVp hpv=>?_)
 subst hpv
 refine aP (zz0 (bU rfl) (zz7 rfl rfl gu ?_))
 refine zR4 ?_
 refine kJ Tryz.results52 rfl rfl Tryz.isAgg114 gu (fun w' hw=>?_)
 obtain rfl:k=R.kept.length:=by omega
 rw [List.take_length] at hfa
 rw [List.append_nil] at hw
 exact ⟨((.slice pKi R.kept.length cKi,.slice pKe R.ents.length cKe,.slice pKu R.unk.length cKu,.slice pKb R.bad.length cKb,_,_),(⟨R.kept,R.ents,R.unk,R.bad⟩,⟨rs.map (·.data),at2⟩,0),rs),rfl,hw.below0 hG,hw.ents0 hG.lo (by repeat' (first|exact Pick.refl _|exact Del.here _|apply Pick.cons|apply Del.there|apply Pick.skip|exact Pick.nil _)),⟨c,ew,hwk,by rw [if_neg (fun q=>q hqw),u7 hR (by rw [← hrts]; exact hks0),← hrts,← hks1,hfa]⟩,rfl⟩
end Go.Proofs.YtiajjbhcpeadfaaGreat
namespace Go.Proofs.YtiajjbhcpeadfaaGreat
open Go Go.HL Go.RowKit
theorem tt (l:List SecV) (pV:Option Addr) (cV:Nat) (es:List UInt32) (VE:Value) (w:World) (hV:Sl (hp w) cD l (.slice pV l.length cV)) (hB:SecB l) (hD:DataIn (hp w) l) (hN:∀ s∈l,s.name.size≤140737488351232) (hE:Sl (hp w) aa es VE) (ht:totD l≤600) (hel:es.length≤100) :
  Calls Tryz.prog 17 #[(.slice pV l.length cV),VE] w (fun e w'=>∃ i:(Value × Value × Value × Value × Value × Value) × (CodeP × FndV × Int) × List (RV UInt32),e=.returned ((fun i:(Value × Value × Value × Value × Value × Value) × (CodeP × FndV × Int) × List (RV UInt32)=>.tuple #[.agg #[i.1.1,i.1.2.1,i.1.2.2.1,i.1.2.2.2.1],i.1.2.2.2.2.1,i.1.2.2.2.2.2,.int .i64 i.2.1.2.2]) i)∧Below w.heap.size w w'∧NewEnts w w' ((fun i:(Value × Value × Value × Value × Value × Value) × (CodeP × FndV × Int) × List (RV UInt32)=>rowE i.1.1 36 am i.2.1.1.ins :: rowE i.1.2.1 23 aa i.2.1.1.ents :: rowE i.1.2.2.1 23 aa i.2.1.1.unk :: rowE i.1.2.2.2.1 23 aa i.2.1.1.bad :: rowE i.1.2.2.2.2.1 31 cK i.2.2 :: rowE i.1.2.2.2.2.2 23 aa i.2.1.2.1.at_ :: i.2.2.map (rvE 23 aa)) i)∧(fun i:(Value × Value × Value × Value × Value × Value) × (CodeP × FndV × Int) × List (RV UInt32)=>ResIs l es i.2.1∧i.2.2.map (·.data)=i.2.1.2.1.ts) i):=by
 have hV0:Sl (Bg.of0 w).blk cD l (.slice pV l.length cV):=hV
 have hD0:DataIn (Bg.of0 w).blk l:=hD
 have hE0:Sl (Bg.of0 w).blk aa es VE:=hE
 refine lT Tryz.func17 rfl Tryz.ntmps17 rfl (zR2 ?_)
 refine bS dE rfl (fun b1=>zR8 ?_)
 refine bS kD rfl (fun b2=>df ?_)
 refine ga (ι:=Bg × Int) (fun ⟨G9,e9⟩=>(Bg.of0 w).le G9∧ResIs l es (yi,⟨[],[]⟩,e9)) (fun ⟨G9,e9⟩=>G9) (fun ⟨G9,e9⟩=>[cellE b1 [.slice none 0 0,.slice none 0 0,.slice none 0 0,.slice none 0 0] 52]) (fun ⟨G9,e9⟩=>[(9,.int .i64 e9)]) ?_ (fun i hi=>?_)
 ·skip
  refine zR6 ?_
  refine dO (ι:=Nat × Bg × ((Option Addr × Nat × Nat) × (Option Addr × Nat × Nat) × (Option Addr × Nat × Nat) × (Option Addr × Nat × Nat)) × (List TabV × Option Addr × Nat) × (List UInt32 × Option Addr × Nat)) (fun ⟨k,G,⟨⟨x0,xn0,xc0⟩,⟨x1,xn1,xc1⟩,⟨x2,xn2,xc2⟩,⟨x3,xn3,xc3⟩⟩,⟨ts,pt,ct⟩,⟨at_,pa,ca⟩⟩=>((k≤16∧(Bg.of0 w).le G)∧s9 ts)∧(Sl G.blk gr ts (.slice pt ts.length ct)∧TabIn G.blk ts∧Sl G.blk aa at_ (.slice pa at_.length ca))∧Rnds l es k ⟨ts.map (·.data),at_⟩) (fun ⟨k,G,⟨⟨x0,xn0,xc0⟩,⟨x1,xn1,xc1⟩,⟨x2,xn2,xc2⟩,⟨x3,xn3,xc3⟩⟩,⟨ts,pt,ct⟩,⟨at_,pa,ca⟩⟩=>G) (fun ⟨k,G,⟨⟨x0,xn0,xc0⟩,⟨x1,xn1,xc1⟩,⟨x2,xn2,xc2⟩,⟨x3,xn3,xc3⟩⟩,⟨ts,pt,ct⟩,⟨at_,pa,ca⟩⟩=>[cellE b2 [.slice x0 xn0 xc0,.slice x1 xn1 xc1,.slice x2 xn2 xc2,.slice x3 xn3 xc3,.slice pt ts.length ct,.slice pa at_.length ca] 114,cellE b1 [.slice none 0 0,.slice none 0 0,.slice none 0 0,.slice none 0 0] 52]) (fun ⟨k,G,⟨⟨x0,xn0,xc0⟩,⟨x1,xn1,xc1⟩,⟨x2,xn2,xc2⟩,⟨x3,xn3,xc3⟩⟩,⟨ts,pt,ct⟩,⟨at_,pa,ca⟩⟩=>[(12,.int .i64 (k:Nat))]) (fun ⟨k,G,⟨⟨x0,xn0,xc0⟩,⟨x1,xn1,xc1⟩,⟨x2,xn2,xc2⟩,⟨x3,xn3,xc3⟩⟩,⟨ts,pt,ct⟩,⟨at_,pa,ca⟩⟩=>16 - k) (0,_,((none,0,0),(none,0,0),(none,0,0),(none,0,0)),([],none,0),([],none,0)) ⟨⟨⟨Nat.zero_le _,Bg.le.refl _⟩,⟨Nat.zero_le _,(fun t ht=>by cases ht)⟩⟩,⟨Sl.nil _ _,(fun t ht=>by cases ht),Sl.nil _ _⟩,.zero⟩ (Front.c Front.nil) (fun i hi m hm=>?_)
  obtain ⟨k,G,⟨⟨x0,xn0,xc0⟩,⟨x1,xn1,xc1⟩,⟨x2,xn2,xc2⟩,⟨x3,xn3,xc3⟩⟩,⟨ts,pt,ct⟩,⟨at_,pa,ca⟩⟩:=i
  dsimp only at hi hm
  change Tr _ (G) [cellE b2 [.slice x0 xn0 xc0,.slice x1 xn1 xc1,.slice x2 xn2 xc2,.slice x3 xn3 xc3,.slice pt ts.length ct,.slice pa at_.length ca] 114,cellE b1 [.slice none 0 0,.slice none 0 0,.slice none 0 0,.slice none 0 0] 52] ([(12,.int .i64 (k:Nat))] ++ _) _
  obtain ⟨⟨⟨hk,hG⟩,hTB⟩,⟨hT,hTI,hP⟩,hRn⟩:=hi
  refine zR6 ?_
  refine af rfl (fun h3=>?_) (fun h3=>?_)
  ·refine zR9 ?_
   refine dC (fun i:(Value × Value × Value × Value × Value × Value) × (CodeP × FndV × Int) × List (RV UInt32)=>.tuple #[.agg #[i.1.1,i.1.2.1,i.1.2.2.1,i.1.2.2.2.1,i.1.2.2.2.2.1,i.1.2.2.2.2.2],.int .i64 i.2.1.2.2]) (fun i:(Value × Value × Value × Value × Value × Value) × (CodeP × FndV × Int) × List (RV UInt32)=>rowE i.1.1 36 am i.2.1.1.ins :: rowE i.1.2.1 23 aa i.2.1.1.ents :: rowE i.1.2.2.1 23 aa i.2.1.1.unk :: rowE i.1.2.2.2.1 23 aa i.2.1.1.bad :: rowE i.1.2.2.2.2.1 31 cK i.2.2 :: rowE i.1.2.2.2.2.2 23 aa i.2.1.2.1.at_ :: i.2.2.map (rvE 23 aa)) (ok:=fun i:(Value × Value × Value × Value × Value × Value) × (CodeP × FndV × Int) × List (RV UInt32)=>RoundIs l es ts at_ i.2.1∧i.2.2.map (·.data)=i.2.1.2.1.ts) hG.dr rfl Tryz.call52 (fun w hw=>KA _ _ _ _ _ _ _ _ _ _ _ _ l pV cV es VE ts at_ _ _ _ _ w ((hw.slF (hV0.mono hG.blk))) hB ((hD0.mono hG.blk).mono hw.bg) hN (hw.slF (hE0.mono hG.blk)) (hw.slF hT) (hTI.mono hw.bg) hTB (hw.slF hP) ht hel) rfl (fun i hri=>?_)
   obtain ⟨⟨Wi,We,Wu,Wb,Wt,Wp⟩,o,rs⟩:=i
   obtain ⟨hro,hrs⟩:RoundIs l es ts at_ o∧rs.map (·.data)=o.2.1.ts:=hri
   change Tr _ _ (rowE Wi 36 am o.1.ins :: rowE We 23 aa o.1.ents :: rowE Wu 23 aa o.1.unk :: rowE Wb 23 aa o.1.bad :: rowE Wt 31 cK rs :: rowE Wp 23 aa o.2.1.at_ :: (rs.map (rvE 23 aa) ++ _)) _ _
   refine fq (V:=Wi) (fun pWi cWi hpv=>?_)
   subst hpv
   refine fq (V:=We) (fun pWe cWe hpv=>?_)
   subst hpv
   refine fq (V:=Wu) (fun pWu cWu hpv=>?_)
   subst hpv
   refine fq (V:=Wb) (fun pWb cWb hpv=>?_)
   subst hpv
   refine fq (V:=Wt) (fun pWt cWt hpv=>?_)
   subst hpv
   refine fq (V:=Wp) (fun pWp cWp hpv=>?_)
   subst hpv
   have hml:rs.length=(rs.map mT).length:=(List.length_map _).symm
   rw [hml]
   refine GR (A:=[rowE (.slice pWi o.1.ins.length cWi) 36 am o.1.ins,rowE (.slice pWe o.1.ents.length cWe) 23 aa o.1.ents,rowE (.slice pWu o.1.unk.length cWu) 23 aa o.1.unk,rowE (.slice pWb o.1.bad.length cWb) 23 aa o.1.bad,rowE (.slice pWt (rs.map mT).length cWt) 31 cK rs,rowE (.slice pWp o.2.1.at_.length cWp) 23 aa o.2.1.at_]) (B:=rs.map (rvE 23 aa)) (C:=[cellE b2 [.slice x0 xn0 xc0,.slice x1 xn1 xc1,.slice x2 xn2 xc2,.slice x3 xn3 xc3,.slice pt ts.length ct,.slice pa at_.length ca] 114,cellE b1 [.slice none 0 0,.slice none 0 0,.slice none 0 0,.slice none 0 0] 52]) ?_
   change Tr _ _ (rowE (.slice pWi o.1.ins.length cWi) 36 am o.1.ins :: rowE (.slice pWe o.1.ents.length cWe) 23 aa o.1.ents :: rowE (.slice pWu o.1.unk.length cWu) 23 aa o.1.unk :: rowE (.slice pWb o.1.bad.length cWb) 23 aa o.1.bad :: rowE (.slice pWt (rs.map mT).length cWt) 31 cK rs :: rowE (.slice pWp o.2.1.at_.length cWp) 23 aa o.2.1.at_ :: cellE b2 [.slice x0 xn0 xc0,.slice x1 xn1 xc1,.slice x2 xn2 xc2,.slice x3 xn3 xc3,.slice pt ts.length ct,.slice pa at_.length ca] 114 :: cellE b1 [.slice none 0 0,.slice none 0 0,.slice none 0 0,.slice none 0 0] 52 :: (rs.map (rvE 23 aa) ++ [])) _ _
   refine zR3 ?_
   refine bS kD rfl (fun b4=>?_)
   refine zz7 rfl rfl gu ?_
   refine df ?_
   refine af rfl (fun h5=>?_) (fun h5=>?_)
   ·have hqq:o.2.2≠0:=h5
    refine zR8 ?_
    refine kb rfl (zR4 ?_)
    refine tK (_,o.2.2) (Front.c Front.nil) (zz9 16 rfl) (o:=⟨hG,.err k _ ts o hRn (by omega) rfl hro hqq rfl⟩)
   have hqq:o.2.2=0:=by simpa using h5
   refine zR7 ?_
   refine zz0 (ac rfl Tryz.call53 (fun w hw=>Nu _ _ _ _ _ _ _ _ _ _ _ _ _ _ _ _ _ _ _ _ _ _ _ _ (rs.map mT) ts o.2.1.at_ at_ _ _ _ _ _ _ _ _ w (Kc (hw.row (by repeat constructor))) (Kd (hw.rvs (T:=23) (fun r hr=>by repeat (first|exact List.mem_append_left _ (List.mem_map.2 ⟨r,hr,rfl⟩)|apply List.Mem.tail)))) (hw.row (by repeat constructor)) (hw.slF hT) (hTI.mono hw.bg) (hw.slF hP))) (zR2 ?_)
   refine af rfl (fun h6=>?_) (fun h6=>?_)
   ·have hsm:=h6
    refine bE (aL ([cellE b4 [.slice pWi o.1.ins.length cWi,.slice pWe o.1.ents.length cWe,.slice pWu o.1.unk.length cWu,.slice pWb o.1.bad.length cWb,.slice pWt (rs.map mT).length cWt,.slice pWp o.2.1.at_.length cWp] 114]) 10 rfl ak ?_)
    refine zz1 0 rfl (aD rfl) ?_
    refine kg 1 rfl (by kernel_rfl) (aC (aC (cN (aC (aC (cN (aC (qR cw)))))))) (eQ (vs:=[.slice pWi o.1.ins.length cWi,.slice pWe o.1.ents.length cWe,.slice pWu o.1.unk.length cWu,.slice pWb o.1.bad.length cWb]) rfl (by repeat constructor) jO cp (by rfl) (by rfl)) ?_
    refine zz1 2 rfl (aD rfl) ?_
    refine zz1 3 rfl (cH rfl) ?_
    refine zz1 4 rfl (aD rfl) ?_
    refine zz1 5 rfl (cH rfl) ?_
    refine ao 6 rfl ?_
    refine zz7 rfl rfl cp ?_
    refine ay ?_
    refine zz1 7 rfl (bh rfl) ?_
    refine zz1 8 rfl (bh rfl) ?_
    refine zz1 9 rfl (bh rfl) ?_
    refine dK (zR9 ?_)
    refine E6 Tryz.results17 rfl rfl rfl rfl (by repeat constructor) jO cp (by rfl) (fun w' hw=>?_)
    exact ⟨(((.slice pWi o.1.ins.length cWi),(.slice pWe o.1.ents.length cWe),(.slice pWu o.1.unk.length cWu),(.slice pWb o.1.bad.length cWb),(.slice pWt (rs.map mT).length cWt),(.slice pWp o.2.1.at_.length cWp)),o,rs),(by show _=Ending.returned (Value.tuple #[_,_,_,Value.int .i64 o.2.2]); rw [hqq]; rfl),hw.below0 hG,hw.ents0 hG.lo (by repeat' (first|exact Pick.refl _|exact Pick.left _ _|exact Del.here _|apply Pick.cons|apply Del.there|apply Pick.skip|exact Pick.nil _)),.ok k _ ts o hRn (by omega) rfl hro hqq ⟨hsm.1,by rw [← hrs,← xJ]; exact hsm.2⟩ rfl,hrs⟩
   have hsm:=h6
   refine zR2 ?_
   have hne:¬ (o.2.1.at_=at_∧o.2.1.ts=ts.map (·.data)):=fun q=>by
    rcases hsm with h|h
    ·exact h q.1
    ·exact h (by rw [xJ,hrs]; exact q.2)
   have htb:=hro.tabs hTB
   have hTB9:=BQ hrs (by omega) htb.2
   refine ry (A:=[cellE b4 [.slice pWi o.1.ins.length cWi,.slice pWe o.1.ents.length cWe,.slice pWu o.1.unk.length cWu,.slice pWb o.1.bad.length cWb,.slice pWt (rs.map mT).length cWt,.slice pWp o.2.1.at_.length cWp] 114,rowE (.slice pWi o.1.ins.length cWi) 36 am o.1.ins,rowE (.slice pWe o.1.ents.length cWe) 23 aa o.1.ents,rowE (.slice pWu o.1.unk.length cWu) 23 aa o.1.unk,rowE (.slice pWb o.1.bad.length cWb) 23 aa o.1.bad,rowE (.slice pWt (rs.map mT).length cWt) 31 cK rs,rowE (.slice pWp o.2.1.at_.length cWp) 23 aa o.2.1.at_,cellE b2 [.slice x0 xn0 xc0,.slice x1 xn1 xc1,.slice x2 xn2 xc2,.slice x3 xn3 xc3,.slice pt ts.length ct,.slice pa at_.length ca] 114,cellE b1 [.slice none 0 0,.slice none 0 0,.slice none 0 0,.slice none 0 0] 52]) rs (fun F6 hF6 hI6=>?_)
   change Tr _ _ [cellE b4 [.slice pWi o.1.ins.length cWi,.slice pWe o.1.ents.length cWe,.slice pWu o.1.unk.length cWu,.slice pWb o.1.bad.length cWb,.slice pWt (rs.map mT).length cWt,.slice pWp o.2.1.at_.length cWp] 114,rowE (.slice pWi o.1.ins.length cWi) 36 am o.1.ins,rowE (.slice pWe o.1.ents.length cWe) 23 aa o.1.ents,rowE (.slice pWu o.1.unk.length cWu) 23 aa o.1.unk,rowE (.slice pWb o.1.bad.length cWb) 23 aa o.1.bad,rowE (.slice pWt (rs.map mT).length cWt) 31 cK rs,rowE (.slice pWp o.2.1.at_.length cWp) 23 aa o.2.1.at_,cellE b2 [.slice x0 xn0 xc0,.slice x1 xn1 xc1,.slice x2 xn2 xc2,.slice x3 xn3 xc3,.slice pt ts.length ct,.slice pa at_.length ca] 114,cellE b1 [.slice none 0 0,.slice none 0 0,.slice none 0 0,.slice none 0 0] 52] _ _
   refine l4 (V:=.slice pWt (rs.map mT).length cWt) (T:=31) (E:=cK) (l:=rs) (by repeat constructor) (fun F7 hF7 hT7=>?_)
   refine l4 (V:=.slice pWp o.2.1.at_.length cWp) (T:=23) (E:=aa) (l:=o.2.1.at_) (by repeat constructor) (fun F9 hF9 hP9=>?_)
   have hF59:=hF6.trans (hF7.trans hF9)
   refine aP (zz0 (bU rfl) (zz7 rfl rfl gu ?_))
   refine fV (eK (az (aP (zz0 (aZ rfl rfl) (zR3 ?_)))))
   refine bC (k+1,F9,((_,_,_),(_,_,_),(_,_,_),(_,_,_)),(rs.map mT,pWt,cWt),(o.2.1.at_,pWp,cWp)) (Front.c Front.nil) (zz9 19 rfl) (o:=⟨⟨⟨by omega,hG.trans hF59⟩,hTB9⟩,⟨Kc (hT7.mono hF9.blk),Kd (hI6.mono (hF7.trans hF9).blk),hP9⟩,by rw [xJ,hrs]; exact Rnds.step k _ ts o hRn rfl hro hqq hne⟩)
  refine zR5 ?_
  refine tK (_,15) (Front.c Front.nil) (zz9 3 rfl) (o:=⟨hG,.out ⟨ts.map (·.data),at_⟩ (by have e:k=16:=(by omega); subst e; exact hRn) rfl⟩)
 obtain ⟨G9,e9⟩:=i
 replace hi:(Bg.of0 w).le G9∧ResIs l es (yi,⟨[],[]⟩,e9):=hi
 change Tr _ _ [cellE b1 [.slice none 0 0,.slice none 0 0,.slice none 0 0,.slice none 0 0] 52] ([(9,.int .i64 e9)] ++ _) _
 obtain ⟨hG9,hrr⟩:=hi
 refine bE (aR 36 am ?_)
 refine aR 23 aa ?_
 refine aR 23 aa ?_
 refine aR 23 aa ?_
 refine aR 23 aa ?_
 refine aR 31 (cK (α:=UInt32)) (aP ?_)
 refine zz0 (aK (vs:=[]) rfl rfl (sD)) (zz0 (ae rfl) ?_)
 refine zz7 rfl rfl cp ?_
 refine zR7 ?_
 refine E6 Tryz.results17 rfl rfl rfl rfl (by repeat constructor) jO cp (by rfl) (fun w' hw=>?_)
 exact ⟨((.slice none 0 0,.slice none 0 0,.slice none 0 0,.slice none 0 0,.slice none 0 0,.slice none 0 0),(yi,⟨[],[]⟩,e9),[]),rfl,hw.below0 hG9,hw.ents0 hG9.lo (by repeat' (first|exact Pick.refl _|exact Pick.left _ _|exact Del.here _|apply Pick.cons|apply Del.there|apply Pick.skip|exact Pick.nil _)),hrr,rfl⟩
end Go.Proofs.YtiajjbhcpeadfaaGreat
namespace Go.Proofs.YtiajjbhcpeadfaaGreat
open Go Go.HL Go.RowKit
theorem tI (n k:Nat) (wr:Bool) (w:World) (hn:1≤n∧n≤100) (hk:k≤1000) :
  Calls Tryz.prog 33 #[.int .i64 (n:Nat),.int .i64 (k:Nat),.bool wr] w (fun e w'=>∃ i:Value × Option Addr × Option Addr × Nat × Nat,e=.returned i.1∧Ext w w'∧NewEnts w w' ((fun i:Value × Option Addr × Option Addr × Nat × Nat=>[rowE i.1 49 cD (kS n k wr i.2.1 i.2.2.1 i.2.2.2.1 i.2.2.2.2),rowE (.slice i.2.1 (kt n).length i.2.2.2.1) 5 cX (kt n),rowE (.slice i.2.2.1 (mP n k n).length i.2.2.2.2) 5 cX (mP n k n)]) i)∧True):=by
 refine enter Tryz.func33 rfl Tryz.ntmps33 rfl (zR8 ?_)
 refine zz0 (jr rfl ax aU) (zz0 (ae rfl) (zz0 (aZ rfl rfl) ?_))
 refine zz0 (jr rfl ax aU) (uK (E:=cX) (ze n) (vs:=[(0,_),(1,_),(2,_),(3,_),(4,_),(5,_),(6,_),(7,_),(8,_),(9,_),(10,_),(11,_),(12,_)]) rfl rfl aS eJ ku (by rfl) (by rfl) rfl (by first|kernel_rfl|rfl) rfl (fun V1=>zR4 ?_))
 refine aR 5 cX (dy ?_)
 change Tr _ _ [rowE (.slice none 0 0) 5 cX (mP n k 0),rowE V1 5 cX (ze n ++ List.replicate 0 (1:UInt8))] _ _
 refine dO (ι:=Nat × Value × Value) (fun ⟨i,Vc,Vt⟩=>i≤n) (fun _=>_) (fun ⟨i,Vc,Vt⟩=>[rowE Vt 5 cX (mP n k i),rowE Vc 5 cX (ze n ++ List.replicate i 1)]) (fun ⟨i,Vc,Vt⟩=>[(9,.int .i64 (i:Nat)),(7,Vc),(8,Vt)]) (fun ⟨i,Vc,Vt⟩=>n - i) (0,_,_) (Nat.zero_le _) (Front.c (Front.c (Front.c Front.nil))) (fun i hi m hm=>?_)
 obtain ⟨i,Vc,Vt⟩:=i
 dsimp only at hi hm
 change Tr _ _ [rowE Vt 5 cX (mP n k i),rowE Vc 5 cX (ze n ++ List.replicate i 1)] ([(9,.int .i64 (i:Nat)),(7,Vc),(8,Vt)] ++ _) _
 have hbl:=uJ n k i
 have hpl:(ze n ++ List.replicate i (1:UInt8)).length=13+i:=by simp [ze]; omega
 have hel:(bEl n k i).length=4:=rfl
 have hmd:=Int.emod_nonneg ((i:Int)+(k:Int)) (b:=(n:Int)) (by omega)
 have hml:=Int.emod_lt_of_pos ((i:Int)+(k:Int)) (b:=(n:Int)) (by omega)
 have hp3:(ze n).length=13:=rfl
 have hrp:(List.replicate i (1:UInt8)).length=i:=List.length_replicate
 refine zR8 ?_
 refine af rfl (fun h2=>?_) (fun h2=>?_)
 ·refine zR7 ?_
  refine g7 (E:=cX) (1:UInt8) rfl rfl aS eJ ku (fun V3=>?_)
  refine zz3 rfl rfl aS nq (fun V4=>?_)
  refine zR7 ?_
  refine zz0 (aZ rfl rfl) (zz0 (ae rfl) ?_)
  refine zz0 (OG rfl rfl (by omega)) ?_
  refine zz0 (aZ rfl rfl) ?_
  refine zz0 (jr rfl ax aU) (uK (E:=cX) (bEl n k i) (vs:=[(0,_),(1,_),(2,_),(3,_)]) rfl rfl aS eJ ku (by rfl) (by rfl) rfl (by first|kernel_rfl|rfl) rfl (fun V5=>?_))
  refine zz3 rfl rfl aS nq (fun V6=>?_)
  refine zR6 ?_
  refine zz0 (aZ rfl rfl) (zR3 ?_)
  have e1:(ze n ++ List.replicate i (1:UInt8)) ++ [1]=ze n ++ List.replicate (i+1) 1:=by rw [List.append_assoc,← List.replicate_succ']
  rw [e1,← Bp]
  refine bC (i+1,_,_) (Front.c (Front.c (Front.c Front.nil))) (zz9 24 rfl) (o:=(by show i+1≤_; omega))
 refine zR6 ?_
 obtain rfl:i=n:=by omega
 refine fq (V:=Vt) (fun pt ct hpv=>?_)
 subst hpv
 refine zR2 ?_
 refine g7 (E:=cX) (1:UInt8) rfl rfl aS eJ ku (fun V7=>?_)
 refine zz3 rfl rfl aS nq (fun V8=>?_)
 refine fD (l':=kt i) rfl ?_
 refine cG (.head _) (fun pc cc hpv=>?_)
 subst hpv
 refine zz0 (lG (vs:=[(0,_),(1,_),(2,_),(4,_)]) (cs:=#[.string nmC,.int .u32 4096,.slice pc (kt i).length cc,.bool false,.bool true]) rfl rfl) (zR2 ?_)
 refine zz0 (lG (vs:=[(0,_),(1,_),(2,_),(3,_)]) (cs:=#[.string nmT,.int .u32 12288,.slice pt (mP i k i).length ct,.bool wr,.bool false]) rfl rfl) ?_
 refine uK (E:=cD) (kS i k wr pc pt cc ct) (vs:=[(0,_),(1,_)]) rfl rfl mS jM lz (by rfl) (by rfl) rfl (by first|kernel_rfl|rfl) rfl (fun V9=>zR4 ?_)
 exact ah Tryz.results33 rfl fun w' hw=>⟨(_,pc,pt,cc,ct),rfl,hw.b0,hw.ents (Bg.le.refl _) (by repeat' (first|exact Pick.refl _|exact Del.here _|apply Pick.cons|apply Del.there|apply Pick.skip|exact Pick.nil _)),trivial⟩
theorem kN (w:World) :
  Calls Tryz.prog 11 #[] w (fun e w'=>e=.returned (.bool true)∧Below w.heap.size w w'):=by
 refine lT Tryz.func11 rfl Tryz.ntmps11 rfl (zR7 ?_)
 refine il (fun i:Value × Option Addr × Option Addr × Nat × Nat=>i.1) (fun i:Value × Option Addr × Option Addr × Nat × Nat=>[rowE i.1 49 cD (kS 3 0 false i.2.1 i.2.2.1 i.2.2.2.1 i.2.2.2.2),rowE (.slice i.2.1 (kt 3).length i.2.2.2.1) 5 cX (kt 3),rowE (.slice i.2.2.1 (mP 3 0 3).length i.2.2.2.2) 5 cX (mP 3 0 3)]) (ok:=fun _=>True) rfl Tryz.call33 (fun w hw=>tI 3 0 false w (by omega) (by omega)) rfl (fun ib1 _=>?_)
 obtain ⟨VB1,p1,q1,c1,d1⟩:=ib1
 change Tr _ _ (rowE (VB1) 49 cD (kS 3 0 false p1 q1 c1 d1) :: rowE (.slice p1 (kt 3).length c1) 5 cX (kt 3) :: rowE (.slice q1 (mP 3 0 3).length d1) 5 cX (mP 3 0 3) :: _) _ _
 refine cG (V:=VB1) (.head _) (fun pb1 cb1 hpv=>?_)
 subst hpv
 refine g7 (E:=aa) (4096:UInt32) rfl rfl au aj ba (fun V1=>?_)
 refine dC (fun i:(Value × Value × Value × Value × Value × Value) × (CodeP × FndV × Int) × List (RV UInt32)=>.tuple #[.agg #[i.1.1,i.1.2.1,i.1.2.2.1,i.1.2.2.2.1],i.1.2.2.2.2.1,i.1.2.2.2.2.2,.int .i64 i.2.1.2.2]) (fun i:(Value × Value × Value × Value × Value × Value) × (CodeP × FndV × Int) × List (RV UInt32)=>rowE i.1.1 36 am i.2.1.1.ins :: rowE i.1.2.1 23 aa i.2.1.1.ents :: rowE i.1.2.2.1 23 aa i.2.1.1.unk :: rowE i.1.2.2.2.1 23 aa i.2.1.1.bad :: rowE i.1.2.2.2.2.1 31 cK i.2.2 :: rowE i.1.2.2.2.2.2 23 aa i.2.1.2.1.at_ :: i.2.2.map (rvE 23 aa)) (ok:=fun i:(Value × Value × Value × Value × Value × Value) × (CodeP × FndV × Int) × List (RV UInt32)=>ResIs (kS 3 0 false p1 q1 c1 d1) [4096] i.2.1∧i.2.2.map (·.data)=i.2.1.2.1.ts) rfl rfl Tryz.call17 (fun w hw=>tt (kS 3 0 false p1 q1 c1 d1) _ _ [4096] _ w (hw.row (by repeat constructor)) (tJ (by omega)) (rf (hw.row (by repeat constructor)) (hw.row (by repeat constructor))) re (hw.row (by repeat constructor)) (EZ (by omega)) (by simp)) rfl (fun iR hR=>?_)
 obtain ⟨⟨Wi,We,Wu,Wb,Wt,Wp⟩,o,rs⟩:=iR
 obtain ⟨ho,hrs⟩:ResIs (kS 3 0 false p1 q1 c1 d1) [4096] o∧rs.map (·.data)=o.2.1.ts:=hR
 obtain rfl:=Px ho
 obtain ⟨pr,cr,rfl⟩:=Pi hrs
 change Tr _ _ (rowE Wi 36 am OU.ins :: rowE We 23 aa OU.ents :: rowE Wu 23 aa OU.unk :: rowE Wb 23 aa OU.bad :: rowE Wt 31 cK [⟨[4109,4110,4111],pr,cr⟩] :: rowE Wp 23 aa ([4103]:List UInt32) :: rvE 23 aa ⟨[4109,4110,4111],pr,cr⟩ ::  _) _ _
 refine fq (V:=Wi) (fun pWi cWi hpv=>?_)
 subst hpv
 refine fq (V:=We) (fun pWe cWe hpv=>?_)
 subst hpv
 refine fq (V:=Wu) (fun pWu cWu hpv=>?_)
 subst hpv
 refine fq (V:=Wb) (fun pWb cWb hpv=>?_)
 subst hpv
 refine fq (V:=Wt) (fun pWt cWt hpv=>?_)
 subst hpv
 refine fq (V:=Wp) (fun pWp cWp hpv=>?_)
 subst hpv
 refine zR5 ?_
 refine bS dE rfl (fun b2=>?_)
 refine zz7 rfl rfl cp ?_
 refine zR7 ?_
 refine bS bR rfl (fun b3=>?_)
 change Tr _ _ (cellE b3 (bQ.enc kh) 37 :: _) _ _
 refine H8 (zz0 (ac rfl dL (fun w hw=>dh 1 3 2 w)) (zz0 (aD rfl) ?_))
 refine zz0 (fX rfl rfl bA ab) ?_
 refine ff rfl rfl ab (by repeat constructor) (mJ (s:=kh) (k:=(1:Int)) ⟨by omega,by omega⟩ (by simp) (exX)) (by rfl) (mL (k:=(1:Int)) ⟨by omega,by omega⟩ (by simp)) (by first|exact Enc.one aM _|exact List.all_eq_true.1 rfl) rfl (zR4 ?_)
 refine il (fun i:Value × Option Addr × Option Addr × Nat × Nat=>i.1) (fun i:Value × Option Addr × Option Addr × Nat × Nat=>[rowE i.1 49 cD (kS 4 0 false i.2.1 i.2.2.1 i.2.2.2.1 i.2.2.2.2),rowE (.slice i.2.1 (kt 4).length i.2.2.2.1) 5 cX (kt 4),rowE (.slice i.2.2.1 (mP 4 0 4).length i.2.2.2.2) 5 cX (mP 4 0 4)]) (ok:=fun _=>True) rfl Tryz.call33 (fun w hw=>tI 4 0 false w (by omega) (by omega)) rfl (fun ib2 _=>?_)
 obtain ⟨VB2,p2,q2,c2,d2⟩:=ib2
 change Tr _ _ (rowE (VB2) 49 cD (kS 4 0 false p2 q2 c2 d2) :: rowE (.slice p2 (kt 4).length c2) 5 cX (kt 4) :: rowE (.slice q2 (mP 4 0 4).length d2) 5 cX (mP 4 0 4) :: _) _ _
 refine cG (V:=VB2) (.head _) (fun pb2 cb2 hpv=>?_)
 subst hpv
 refine zR6 ?_
 refine zz0 (aK (vs:=[(2,_),(6,_),(1,_)]) rfl rfl (oM _ _ _)) (zz0 (bU rfl) ?_)
 refine ij (E:=aa) (l:=([4110,4110,4110,4112]:List UInt32)) (T:=23) (fun V=>.tuple #[V,.int .i64 0]) rfl qu (fun w hw=>by have q:=nv (kS 4 0 false p2 q2 c2 d2) _ _ LU N6 w (hw.row (by repeat constructor)) (tJ (by omega)) (rf (hw.row (by repeat constructor)) (hw.row (by repeat constructor))) re HT; rw [show N6.get LU.a=exX from rfl,Oa] at q; exact q) rfl (fun T1=>zR8 ?_)
 refine aL ([cellE b3 (bQ.enc N6) 37]) 9 rfl ak ?_
 refine zz1 1 rfl (aK (vs:=[(2,_),(6,_),(1,_)]) rfl rfl (oM _ _ _)) ?_
 refine zz1 2 rfl (bU rfl) ?_
 refine ao 0 rfl ?_
 refine il (fun i:Value × Option Addr × Option Addr × Nat × Nat=>i.1) (fun i:Value × Option Addr × Option Addr × Nat × Nat=>[rowE i.1 49 cD (kS 4 0 true i.2.1 i.2.2.1 i.2.2.2.1 i.2.2.2.2),rowE (.slice i.2.1 (kt 4).length i.2.2.2.1) 5 cX (kt 4),rowE (.slice i.2.2.1 (mP 4 0 4).length i.2.2.2.2) 5 cX (mP 4 0 4)]) (ok:=fun _=>True) rfl Tryz.call33 (fun w hw=>tI 4 0 true w (by omega) (by omega)) rfl (fun ib3 _=>?_)
 obtain ⟨VB3,p3,q3,c3,d3⟩:=ib3
 change Tr _ _ (rowE (VB3) 49 cD (kS 4 0 true p3 q3 c3 d3) :: rowE (.slice p3 (kt 4).length c3) 5 cX (kt 4) :: rowE (.slice q3 (mP 4 0 4).length d3) 5 cX (mP 4 0 4) :: _) _ _
 refine cG (V:=VB3) (.head _) (fun pb3 cb3 hpv=>?_)
 subst hpv
 refine ay ?_
 refine ao 3 rfl ?_
 refine ij (E:=aa) (l:=([]:List UInt32)) (T:=23) (fun V=>.tuple #[V,.int .i64 19]) rfl qu (fun w hw=>by have q:=nv (kS 4 0 true p3 q3 c3 d3) _ _ LU N6 w (hw.row (by repeat constructor)) (tJ (by omega)) (rf (hw.row (by repeat constructor)) (hw.row (by repeat constructor))) re HT; rw [show N6.get LU.a=exX from rfl,N9] at q; exact q) rfl (fun T2=>?_)
 refine ay ?_
 refine zz1 4 rfl (ae rfl) ?_
 refine zz1 5 rfl (eo rfl rfl) ?_
 refine zz1 6 rfl (eo rfl rfl) ?_
 refine zz1 7 rfl (bh rfl) ?_
 refine zz1 8 rfl (bh rfl) ?_
 refine dK (zR3 ?_)
 refine zz0 (ac rfl jq (fun w hw=>kr 4112 w)) (zz0 (aD rfl) ?_)
 refine zz0 (fX rfl rfl bA ab) ?_
 refine ff rfl rfl ab (by repeat constructor) (mJ (s:=N6) (k:=(2:Int)) ⟨by omega,by omega⟩ (by simp) (gI 4112)) (by rfl) (mL (k:=(2:Int)) ⟨by omega,by omega⟩ (by simp)) (by first|exact Enc.one aM _|exact List.all_eq_true.1 rfl) rfl (zR5 ?_)
 refine zz0 (aK (vs:=[(2,_),(6,_)]) rfl rfl (kH _ _)) (zz0 (bU rfl) ?_)
 refine ij (E:=aa) (l:=([4112]:List UInt32)) (T:=23) (fun V=>.tuple #[V,.int .i64 0]) rfl qu (fun w hw=>by have q:=nv (kS 4 0 false p2 q2 c2 d2) _ _ LR Qb w (hw.row (by repeat constructor)) (tJ (by omega)) (rf (hw.row (by repeat constructor)) (hw.row (by repeat constructor))) re HS; rw [show Qb.get LR.a=gI 4112 from rfl,N8] at q; exact q) rfl (fun T3=>zR9 ?_)
 refine zz0 (ac rfl f9 (fun w hw=>ln w)) (zz0 (aD rfl) ?_)
 refine zz0 (fX rfl rfl bA ab) ?_
 refine ff rfl rfl ab (by repeat constructor) (mJ (s:=Qb) (k:=(2:Int)) ⟨by omega,by omega⟩ (by simp) (mZ)) (by rfl) (mL (k:=(2:Int)) ⟨by omega,by omega⟩ (by simp)) (by first|exact Enc.one aM _|exact List.all_eq_true.1 rfl) rfl (zR5 ?_)
 refine zz0 (aK (vs:=[(2,_),(6,_)]) rfl rfl (kH _ _)) (zz0 (bU rfl) ?_)
 refine ij (E:=aa) (l:=([]:List UInt32)) (T:=23) (fun V=>.tuple #[V,.int .i64 19]) rfl qu (fun w hw=>by have q:=nv (kS 4 0 false p2 q2 c2 d2) _ _ LR Qo w (hw.row (by repeat constructor)) (tJ (by omega)) (rf (hw.row (by repeat constructor)) (hw.row (by repeat constructor))) re HS; rw [show Qo.get LR.a=mZ from rfl,N7] at q; exact q) rfl (fun T4=>fu ?_)
 refine zz5 rfl (ae rfl) ?_
 refine zm rfl rfl rfl ?_
 refine g7 (E:=aa) (4103:UInt32) rfl rfl au aj ba (fun V4=>?_)
 refine zz5 rfl (ac rfl sY (fun w hw=>sF [4103] [4103] _ _ w (hw.row (by repeat constructor)) (hw.row (by repeat constructor)))) (zR2 ?_)
 refine zz5 rfl (ae rfl) ?_
 refine zz5 rfl (nN rfl) ?_
 refine zz5 rfl (lE rfl rfl) (zR2 ?_)
 refine zz5 rfl (ae rfl) ?_
 refine zz5 rfl (tO (E:=cK (α:=UInt32)) (l:=[⟨[4109,4110,4111],pr,cr⟩]) (i:=0) rfl rfl (by repeat constructor) jg fS (by rfl) (by simp)) ?_
 refine zz5 rfl (C4 (E:=cK (α:=UInt32)) (l:=[⟨[4109,4110,4111],pr,cr⟩]) (i:=0) rfl (by repeat constructor) Tryz.isAgg31 (by simp) (by rfl)) ?_
 refine zm rfl rfl rfl ?_
 refine uK (E:=aa) ([4109,4110,4111]:List UInt32) (vs:=[(0,_),(1,_),(2,_)]) rfl rfl au aj ba (by rfl) (by rfl) rfl (by first|kernel_rfl|rfl) rfl (fun V5=>?_)
 refine zz5 rfl (ac rfl sY (fun w hw=>sF [4109,4110,4111] [4109,4110,4111] _ _ w (hw.row (by repeat constructor)) (hw.row (by repeat constructor)))) (zR2 ?_)
 refine zz5 rfl (aD rfl) ?_
 refine zz5 rfl (cH rfl) ?_
 refine zz5 rfl (nN rfl) ?_
 refine zz5 rfl (lE rfl rfl) (zR2 ?_)
 refine zz5 rfl (aD rfl) ?_
 refine zz5 rfl (cH rfl) ?_
 refine zz5 rfl (nN rfl) ?_
 refine zz5 rfl (lE rfl rfl) (zR2 ?_)
 refine zz5 rfl (ae rfl) ?_
 refine zz5 rfl (lE rfl rfl) (zR2 ?_)
 refine zz5 rfl (ae rfl) ?_
 refine zm rfl rfl rfl ?_
 refine uK (E:=aa) ([4110,4110,4110,4112]:List UInt32) (vs:=[(0,_),(1,_),(2,_),(3,_)]) rfl rfl au aj ba (by rfl) (by rfl) rfl (by first|kernel_rfl|rfl) rfl (fun V6=>?_)
 refine zz5 rfl (ac rfl sY (fun w hw=>sF [4110,4110,4110,4112] [4110,4110,4110,4112] _ _ w (hw.row (by repeat constructor)) (hw.row (by repeat constructor)))) (zR2 ?_)
 refine zz5 rfl (ae rfl) ?_
 refine zz5 rfl (lE rfl rfl) (zR2 ?_)
 refine zz5 rfl (ae rfl) ?_
 refine zz5 rfl (lE rfl rfl) (zR2 ?_)
 refine zz5 rfl (ae rfl) ?_
 refine zm rfl rfl rfl ?_
 refine g7 (E:=aa) (4112:UInt32) rfl rfl au aj ba (fun V7=>?_)
 refine zz5 rfl (ac rfl sY (fun w hw=>sF [4112] [4112] _ _ w (hw.row (by repeat constructor)) (hw.row (by repeat constructor)))) (zR2 ?_)
 refine zz5 rfl (ae rfl) ?_
 refine zz5 rfl (lE rfl rfl) (zR2 ?_)
 refine zz5 rfl (ae rfl) ?_
 refine zz5 rfl (ac rfl Tryz.call23 (fun w hw=>yC (kS 4 0 false p2 q2 c2 d2) _ _ 12288 4 w (hw.row (by repeat constructor)) (tJ (by omega)) (rf (hw.row (by repeat constructor)) (hw.row (by repeat constructor))) re)) ?_
 rw [Oc]
 refine zR2 ?_
 refine zz5 rfl (ae rfl) ?_
 refine zz5 rfl (ac rfl Tryz.call23 (fun w hw=>yC (kS 4 0 false p2 q2 c2 d2) _ _ 12288 5 w (hw.row (by repeat constructor)) (tJ (by omega)) (rf (hw.row (by repeat constructor)) (hw.row (by repeat constructor))) re)) ?_
 rw [Ob]
 refine zz5 rfl (tM rfl) (zR5 ?_)
 exact ah Tryz.results11 rfl fun w' hw=>⟨rfl,hw.below0 (Bg.le.refl _)⟩
end Go.Proofs.YtiajjbhcpeadfaaGreat
namespace Go.Proofs.YtiajjbhcpeadfaaGreat
open Go Go.HL Go.RowKit
theorem Ds (l:List SecV) (V:Value) (w:World) (hV:Sl (hp w) cD l V) (hz:∀ s∈l,s.data.length≤140737488351232) :
  Cr Tryz.prog 10 #[V] w (.bool (vY l)):=by
 have hV':Sl (Bg.of w).blk cD l V:=hV
 have hlen:=hV.len_le
 refine enter Tryz.func10 rfl Tryz.ntmps10 rfl (jz ?_)
 refine af rfl (fun h1=>?_) (fun h1=>?_)
 ·refine zR7 ?_
  exact ah Tryz.results10 rfl fun w' hw=>⟨by unfold vY; rw [decide_eq_false (by omega),Bool.false_and],hw.b0⟩
 refine lN ?_
 refine ed (.of (ι:=Nat) (fun k=>k≤l.length∧oP l k<600) (fun _=>_) (fun k=>[]) (fun k=>[(4,.int .i64 (k:Nat)),(3,.int .i64 (oP l k))]) (fun k=>l.length - k)) 0 ⟨Nat.zero_le _,by show (0:Int)<600; decide⟩ (Front.c (Front.c Front.nil)) (fun k hi m hm=>?_)
 obtain ⟨hk1,hk2⟩:=hi
 have hk0:0≤oP l k:=BO (l:=l) (Nat.zero_le k)
 have hbk:k<l.length→(l.getD k default).data.length≤140737488351232:=fun q=>hz _ (bB q)
 refine zR9 ?_
 refine af rfl (fun h2=>?_) (fun h2=>?_)
 ·refine dy ?_
  refine zz0 (l6 rfl (by assumption) Tryz.isAgg47 (by omega) (by rfl)) ?_
  refine zz0 (l5 rfl aS) (zz0 (xu rfl rfl) ?_)
  refine zz0 (aZ rfl rfl) (zR9 ?_)
  refine af rfl (fun h3=>?_) (fun h3=>?_)
  ·refine dy ?_
   refine ah Tryz.results10 rfl (fun w' hw=>?_)
   have hle:=BO (l:=l) (show k+1≤l.length by omega)
   have he:oP l (k+1)=oP l k+min ((l.getD k default).data.length:Int) 600:=rfl
   exact ⟨by unfold vY; rw [decide_eq_false (p:=oP l l.length<600) (by omega),Bool.and_false],hw.b0⟩
  refine zR5 ?_
  refine zz0 (aZ rfl rfl) (zR3 ?_)
  refine bC (k+1) (Front.c (Front.c Front.nil)) (zz9 21 rfl) (o:=⟨by omega,by show oP l k+min ((l.getD k default).data.length:Int) 600<600; omega⟩)
 refine dy ?_
 refine ah Tryz.results10 rfl (fun w' hw=>?_)
 obtain rfl:k=l.length:=by omega
 exact ⟨by unfold vY; rw [decide_eq_true hk2,decide_eq_true (by omega)]; rfl,hw.b0⟩
end Go.Proofs.YtiajjbhcpeadfaaGreat
namespace Go.Proofs.YtiajjbhcpeadfaaGreat
open Go Go.HL Go.RowKit
theorem AY (r:Int) (w:World) :
  Cr Tryz.prog 213 #[.int .i64 r] w (.bool (mq r)):=by
 refine enter Tryz.func213 rfl Tryz.ntmps213 rfl (df ?_)
 apply cj 3 5 8 (fun hT1 hT1'=>?_) ?_; rotate_right
 ·exact zE
 refine zR4 ?_
 exact ah Tryz.results213 rfl fun w' hw=>⟨rfl,hw.b0⟩
theorem Lq (r:Int) (w:World) :
  Cr Tryz.prog 216 #[.int .i64 r] w (.bool (HD r)):=by
 refine enter Tryz.func216 rfl Tryz.ntmps216 rfl (df ?_)
 apply cj 3 5 8 (fun hT1 hT1'=>?_) ?_; rotate_right
 ·exact zE
 refine zR4 ?_
 exact ah Tryz.results216 rfl fun w' hw=>⟨rfl,hw.b0⟩
theorem yD (n:UInt32) (w:World) :
  Cr Tryz.prog 220 #[.int .u32 n.toNat] w (.bool (oh n)):=by
 refine enter Tryz.func220 rfl Tryz.ntmps220 rfl (zR8 ?_)
 refine zz0 (uO (n:=127) rfl rfl) (zz0 (ae rfl) ?_)
 apply cE 3 5 8 (fun hF1 hF1'=>?_) ?_; rotate_right
 ·refine zz5 hF1 (ae rfl) (zz5 hF1 (nP (n:=4294967168) rfl rfl) ?_)
  exact zE
 refine zR4 ?_
 exact ah Tryz.results220 rfl fun w' hw=>⟨rfl,hw.b0⟩
theorem sM (op:Int) (w:World) :
  Cr Tryz.prog 218 #[.int .i64 op] w (.bool (oW op)):=by
 refine enter Tryz.func218 rfl Tryz.ntmps218 rfl (df ?_)
 apply cj 3 5 8 (fun hT1 hT1'=>?_) ?_; rotate_right
 ·exact zE
 refine zR4 ?_
 exact ah Tryz.results218 rfl fun w' hw=>⟨rfl,hw.b0⟩
theorem m5 (op:Int) (w:World) :
  Cr Tryz.prog 219 #[.int .i64 op] w (.bool (oY op)):=by
 refine enter Tryz.func219 rfl Tryz.ntmps219 rfl (df ?_)
 apply cE 3 5 8 (fun hF1 hF1'=>?_) ?_; rotate_right
 ·exact zE
 refine zz0 (ae rfl) ?_
 apply cE 3 9 12 (fun hF2 hF2'=>?_) ?_; rotate_right
 ·exact zE
 refine zR4 ?_
 exact ah Tryz.results219 rfl fun w' hw=>⟨rfl,hw.b0⟩
theorem Eu (op:Int) (w:World) :
  Cr Tryz.prog 212 #[.int .i64 op] w (.bool (Ev op)):=by
 refine enter Tryz.func212 rfl Tryz.ntmps212 rfl (df ?_)
 apply cj 3 5 8 (fun hT1 hT1'=>?_) ?_; rotate_right
 ·exact zE
 refine zz0 (ae rfl) ?_
 apply cj 3 9 12 (fun hT2 hT2'=>?_) ?_; rotate_right
 ·exact zE
 refine zz0 (ae rfl) ?_
 apply cj 3 13 16 (fun hT3 hT3'=>?_) ?_; rotate_right
 ·exact zE
 refine zR4 ?_
 exact ah Tryz.results212 rfl fun w' hw=>⟨rfl,hw.b0⟩
theorem Es (i:Ins) (w:World) :
  Cr Tryz.prog 214 #[.agg (am.enc i).toArray] w (.bool (Et i)):=by
 refine enter Tryz.func214 rfl Tryz.ntmps214 rfl (zR2 ?_)
 refine cm rfl rfl (fun b1=>zR7 ?_)
 refine zz0 (ac rfl rm (fun w hw=>sM i.op w)) (zz0 (ae rfl) ?_)
 apply cj 4 6 10 (fun hT2 hT2'=>?_) ?_; rotate_right
 ·exact zE
 refine zz0 (ae rfl) ?_
 apply cE 4 11 15 (fun hF3 hF3'=>?_) ?_; rotate_right
 ·refine zR2 ?_
  refine zz5 hF3 (ac rfl rl (fun w hw=>m5 i.op w)) ?_
  exact zE
 refine zz0 (ae rfl) ?_
 apply cE 4 16 20 (fun hF4 hF4'=>?_) ?_; rotate_right
 ·exact zE
 refine zR4 ?_
 exact ah Tryz.results214 rfl fun w' hw=>⟨rfl,hw.b0⟩
theorem Gn (i:Ins) (w:World) :
  Cr Tryz.prog 217 #[.agg (am.enc i).toArray] w (.bool (xg i)):=by
 refine enter Tryz.func217 rfl Tryz.ntmps217 rfl (zR2 ?_)
 refine cm rfl rfl (fun b1=>zR7 ?_)
 refine zz0 (ac rfl rm (fun w hw=>sM i.op w)) (zz0 (ae rfl) ?_)
 apply cj 4 6 10 (fun hT2 hT2'=>?_) ?_; rotate_right
 ·exact zE
 refine zz0 (ae rfl) ?_
 apply cE 4 11 15 (fun hF3 hF3'=>?_) ?_; rotate_right
 ·refine zR2 ?_
  refine zz5 hF3 (ac rfl rl (fun w hw=>m5 i.op w)) ?_
  exact zE
 refine zz0 (ae rfl) ?_
 apply cE 4 16 20 (fun hF4 hF4'=>?_) ?_; rotate_right
 ·exact zE
 refine zz0 (ae rfl) ?_
 apply cE 4 21 25 (fun hF5 hF5'=>?_) ?_; rotate_right
 ·exact zE
 refine zz0 (ae rfl) ?_
 apply cE 4 26 30 (fun hF6 hF6'=>?_) ?_; rotate_right
 ·exact zE
 refine zz0 (ae rfl) ?_
 apply cE 4 31 35 (fun hF7 hF7'=>?_) ?_; rotate_right
 ·exact zE
 refine zR4 ?_
 exact ah Tryz.results217 rfl fun w' hw=>⟨rfl,hw.b0⟩
theorem A1 (op:Int) (w:World) :
  Cr Tryz.prog 215 #[.int .i64 op] w (.bool (yN op)):=by
 refine enter Tryz.func215 rfl Tryz.ntmps215 rfl (df ?_)
 apply cE 3 5 8 (fun hF1 hF1'=>?_) ?_; rotate_right
 ·exact zE
 refine zR4 ?_
 exact ah Tryz.results215 rfl fun w' hw=>⟨rfl,hw.b0⟩
theorem zY (i:Ins) (w:World) :
  Cr Tryz.prog 210 #[.agg (am.enc i).toArray] w (.bool (kM i)):=by
 refine enter Tryz.func210 rfl Tryz.ntmps210 rfl (zR2 ?_)
 refine cm rfl rfl (fun b1=>zR8 ?_)
 refine zz0 (ac rfl rm (fun w hw=>sM i.op w)) (zR2 ?_)
 refine af rfl (fun h2=>?_) (fun h2=>?_)
 ·refine zR6 ?_
  apply cj 4 9 13 (fun hT3 hT3'=>?_) ?_; rotate_right
  ·exact zE
  refine zR5 ?_
  exact ah pp rfl fun w' hw=>⟨by clear hw; unfold kM; (repeat (first|rw [if_pos (by first|assumption|omega|grind)]|rw [if_neg (by first|assumption|omega|grind)])) <;> rfl,hw.b0⟩
 refine df ?_
 refine af rfl (fun h4=>?_) (fun h4=>?_)
 ·refine zR6 ?_
  apply cE 4 20 24 (fun hF5 hF5'=>?_) ?_; rotate_right
  ·exact zE
  refine zR5 ?_
  exact ah pp rfl fun w' hw=>⟨by clear hw; unfold kM; (repeat (first|rw [if_pos (by first|assumption|omega|grind)]|rw [if_neg (by first|assumption|omega|grind)])) <;> rfl,hw.b0⟩
 refine dy ?_
 exact ah pp rfl fun w' hw=>⟨by clear hw; unfold kM; (repeat (first|rw [if_pos (by first|assumption|omega|grind)]|rw [if_neg (by first|assumption|omega|grind)])) <;> rfl,hw.b0⟩
theorem xC (i:Ins) (w:World) :
  Cr Tryz.prog 211 #[.agg (am.enc i).toArray] w (.bool (jD i)):=by
 refine enter Tryz.func211 rfl Tryz.ntmps211 rfl (zR2 ?_)
 refine cm rfl rfl (fun b1=>dy ?_)
 refine af rfl (fun h2=>?_) (fun h2=>?_)
 ·refine zR6 ?_
  apply cE 4 9 13 (fun hF3 hF3'=>?_) ?_; rotate_right
  ·exact zE
  refine zR5 ?_
  exact ah po rfl fun w' hw=>⟨by clear hw; unfold jD; (repeat (first|rw [if_pos (by first|assumption|omega|grind)]|rw [if_neg (by first|assumption|omega|grind)])) <;> rfl,hw.b0⟩
 refine zR7 ?_
 refine zz0 (ac rfl rl (fun w hw=>m5 i.op w)) (zR2 ?_)
 refine af rfl (fun h4=>?_) (fun h4=>?_)
 ·refine zR6 ?_
  apply cE 4 20 24 (fun hF5 hF5'=>?_) ?_; rotate_right
  ·exact zE
  refine zz0 (ae rfl) ?_
  apply cE 4 25 29 (fun hF6 hF6'=>?_) ?_; rotate_right
  ·exact zE
  refine zR5 ?_
  exact ah po rfl fun w' hw=>⟨by clear hw; unfold jD; (repeat (first|rw [if_pos (by first|assumption|omega|grind)]|rw [if_neg (by first|assumption|omega|grind)])) <;> rfl,hw.b0⟩
 refine dy ?_
 exact ah po rfl fun w' hw=>⟨by clear hw; unfold jD; (repeat (first|rw [if_pos (by first|assumption|omega|grind)]|rw [if_neg (by first|assumption|omega|grind)])) <;> rfl,hw.b0⟩
theorem B5 (i:Ins) (w:World) :
  Cr Tryz.prog 153 #[.agg (am.enc i).toArray] w (.int .i64 (jW i)):=by
 refine enter Tryz.func153 rfl Tryz.ntmps153 rfl (zR2 ?_)
 refine cm rfl rfl (fun b1=>df ?_)
 apply cE 4 6 10 (fun hF2 hF2'=>?_) ?_; rotate_right
 ·exact zE
 refine zz0 (ae rfl) ?_
 apply cE 4 11 15 (fun hF3 hF3'=>?_) ?_; rotate_right
 ·refine zz5 hF3 (bU rfl) (zz5 hF3 (ac rfl Tryz.call210 (fun w hw=>zY i w)) ?_)
  exact zE
 refine zz0 (ae rfl) ?_
 apply cE 4 16 20 (fun hF4 hF4'=>?_) ?_; rotate_right
 ·refine zz5 hF4 (bU rfl) (zz5 hF4 (ac rfl Tryz.call211 (fun w hw=>xC i w)) ?_)
  exact zE
 refine zR2 ?_
 refine af rfl (fun h5=>?_) (fun h5=>?_)
 ·refine zR7 ?_
  exact ah jp rfl fun w' hw=>⟨by clear hw; unfold jW; (repeat (first|rw [if_pos (by first|assumption|omega|grind)]|rw [if_neg (by first|assumption|omega|grind)])) <;> rfl,hw.b0⟩
 refine zR7 ?_
 refine zz0 (ac rfl Tryz.call212 (fun w hw=>Eu i.op w)) (zz0 (ae rfl) ?_)
 apply cj 5 24 29 (fun hT6 hT6'=>?_) ?_; rotate_right
 ·refine zR2 ?_
  refine zz5 hT6 (ac rfl Tryz.call213 (fun w hw=>AY i.a w)) ?_
  exact zE
 refine zz0 (ae rfl) ?_
 apply lC
 ·exact (rfl:_=(10,30,40))
 ·exact rfl
 ·intro hF7; have hF7':=hF7
  try simp only [bs] at hF7'
  refine zR2 ?_
  refine zz5 hF7 (ac rfl Tryz.call212 (fun w hw=>Eu i.op w)) (zR2 ?_)
  apply kc
  ·exact (rfl:_=(4,35,39))
  ·exact rfl
  ·intro hT8; have hT8':=hT8
   try simp only [bs] at hT8'
   refine zR6 ?_
   exact bP (Sub.cons rfl (zz8 4 rfl))
  ·intro hF8
   refine zR6 ?_
   exact bP (Sub.cons rfl (zz8 4 rfl))
  refine zR3 ?_
  exact bP (Sub.cons rfl (zz8 7 rfl))
 ·intro hT7
  refine fu ?_
  exact bP (Sub.cons rfl (zz8 10 rfl))
 refine zz0 (ae rfl) ?_
 apply lC
 ·exact (rfl:_=(9,41,50))
 ·exact rfl
 ·intro hF9; have hF9':=hF9
  try simp only [bs] at hF9'
  refine zz5 hF9 (bU rfl) (zz5 hF9 (ac rfl Tryz.call214 (fun w hw=>Es i w)) (zz5 hF9 (ae rfl) ?_))
  apply kc
  ·exact (rfl:_=(5,44,49))
  ·exact rfl
  ·intro hT10; have hT10':=hT10
   try simp only [bs] at hT10'
   refine zR2 ?_
   refine zz5 hT10 (ac rfl Tryz.call213 (fun w hw=>AY i.b w)) (zR4 ?_)
   exact bP (Sub.cons rfl (zz8 5 rfl))
  ·intro hF10
   refine zR7 ?_
   exact bP (Sub.cons rfl (zz8 5 rfl))
  refine zR3 ?_
  exact bP (Sub.cons rfl (zz8 5 rfl))
 ·intro hT9
  refine dy ?_
  exact bP (Sub.cons rfl (zz8 9 rfl))
 refine zz0 (ae rfl) ?_
 apply lC
 ·exact (rfl:_=(9,51,60))
 ·exact rfl
 ·intro hF11; have hF11':=hF11
  try simp only [bs] at hF11'
  refine zz5 hF11 (bU rfl) (zz5 hF11 (ac rfl Tryz.call214 (fun w hw=>Es i w)) (zR2 ?_))
  apply kc
  ·exact (rfl:_=(4,55,59))
  ·exact rfl
  ·intro hT12; have hT12':=hT12
   try simp only [bs] at hT12'
   refine zR6 ?_
   exact bP (Sub.cons rfl (zz8 4 rfl))
  ·intro hF12
   refine zR6 ?_
   exact bP (Sub.cons rfl (zz8 4 rfl))
  refine zR3 ?_
  exact bP (Sub.cons rfl (zz8 6 rfl))
 ·intro hT11
  refine dy ?_
  exact bP (Sub.cons rfl (zz8 9 rfl))
 refine zR2 ?_
 refine af rfl (fun h13=>?_) (fun h13=>?_)
 ·refine zR7 ?_
  exact ah jp rfl fun w' hw=>⟨by clear hw; unfold jW; (repeat (first|rw [if_pos (by first|assumption|omega|grind)]|rw [if_neg (by first|assumption|omega|grind)])) <;> rfl,hw.b0⟩
 refine zR7 ?_
 refine zz0 (ac rfl Tryz.call215 (fun w hw=>A1 i.op w)) (zz0 (ae rfl) ?_)
 apply cj 5 64 69 (fun hT14 hT14'=>?_) ?_; rotate_right
 ·refine zR2 ?_
  refine zz5 hT14 (ac rfl Tryz.call216 (fun w hw=>Lq i.cc w)) ?_
  exact zE
 refine zz0 (ae rfl) ?_
 apply lC
 ·exact (rfl:_=(10,70,80))
 ·exact rfl
 ·intro hF15; have hF15':=hF15
  try simp only [bs] at hF15'
  refine zR2 ?_
  refine zz5 hF15 (ac rfl Tryz.call215 (fun w hw=>A1 i.op w)) (zR2 ?_)
  apply kc
  ·exact (rfl:_=(4,75,79))
  ·exact rfl
  ·intro hT16; have hT16':=hT16
   try simp only [bs] at hT16'
   refine zR6 ?_
   exact bP (Sub.cons rfl (zz8 4 rfl))
  ·intro hF16
   refine zR6 ?_
   exact bP (Sub.cons rfl (zz8 4 rfl))
  refine zR3 ?_
  exact bP (Sub.cons rfl (zz8 7 rfl))
 ·intro hT15
  refine fu ?_
  exact bP (Sub.cons rfl (zz8 10 rfl))
 refine zz0 (ae rfl) ?_
 apply lC
 ·exact (rfl:_=(9,81,90))
 ·exact rfl
 ·intro hF17; have hF17':=hF17
  try simp only [bs] at hF17'
  refine zz5 hF17 (bU rfl) (zz5 hF17 (ac rfl Tryz.call217 (fun w hw=>Gn i w)) (zR2 ?_))
  apply kc
  ·exact (rfl:_=(4,85,89))
  ·exact rfl
  ·intro hT18; have hT18':=hT18
   try simp only [bs] at hT18'
   refine zR2 ?_
   refine zz5 hT18 (iQ (n:=0) rfl rfl) (zR3 ?_)
   exact bP (Sub.cons rfl (zz8 4 rfl))
  ·intro hF18
   refine zR6 ?_
   exact bP (Sub.cons rfl (zz8 4 rfl))
  refine zR3 ?_
  exact bP (Sub.cons rfl (zz8 6 rfl))
 ·intro hT17
  refine dy ?_
  exact bP (Sub.cons rfl (zz8 9 rfl))
 refine zR2 ?_
 refine af rfl (fun h19=>?_) (fun h19=>?_)
 ·refine zR7 ?_
  exact ah jp rfl fun w' hw=>⟨by clear hw; unfold jW; (repeat (first|rw [if_pos (by first|assumption|omega|grind)]|rw [if_neg (by first|assumption|omega|grind)])) <;> rfl,hw.b0⟩
 refine zR2 ?_
 refine fC (.of (ι:=Unit) (fun u=>¬ (((oW i.op=true∧i.form=1)∨oY i.op=true∨i.op=19)∧oh i.imm=false)) (fun _=>Bg.of w) (fun u=>[cellE b1 (am.enc i) 36]) (fun u=>[])) ?_ (fun u hi=>?_)
 ·skip
  refine zR4 ?_
  refine zz0 (ac rfl rm (fun w hw=>sM i.op w)) (zz0 (ae rfl) ?_)
  apply cj 4 94 98 (fun hT20 hT20'=>?_) ?_; rotate_right
  ·exact zE
  refine zz0 (ae rfl) ?_
  apply cE 4 99 103 (fun hF21 hF21'=>?_) ?_; rotate_right
  ·refine zR2 ?_
   refine zz5 hF21 (ac rfl rl (fun w hw=>m5 i.op w)) ?_
   exact zE
  refine zz0 (ae rfl) ?_
  apply cE 4 104 108 (fun hF22 hF22'=>?_) ?_; rotate_right
  ·exact zE
  refine zR2 ?_
  refine af rfl (fun h23=>?_) (fun h23=>?_)
  ·refine zR4 ?_
   refine zz0 (ac rfl Tryz.call220 (fun w hw=>yD i.imm w)) (zR3 ?_)
   refine af rfl (fun h24=>?_) (fun h24=>?_)
   ·refine zR7 ?_
    exact ah jp rfl fun w' hw=>⟨by clear hw; unfold jW; (repeat (first|rw [if_pos (by first|assumption|omega|grind)]|rw [if_neg (by first|assumption|omega|grind)])) <;> rfl,hw.b0⟩
   refine zR2 ?_
   refine aQ () Front.nil (zz9 13 rfl) (o:=(by grind))
  refine zR2 ?_
  refine aQ () Front.nil (zz9 9 rfl) (o:=(by grind))
 skip
 refine zR7 ?_
 apply cj 4 116 120 (fun hT25 hT25'=>?_) ?_; rotate_right
 ·exact zE
 refine zz0 (ae rfl) ?_
 apply cj 9 121 130 (fun hT26 hT26'=>?_) ?_; rotate_right
 ·refine zR5 ?_
  refine zz5 hT26 (gR (n:=2) rfl rfl) ?_
  refine zz5 hT26 (ac rfl Tryz.call220 (fun w hw=>yD (i.imm - i.addr - 2) w)) ?_
  exact zE
 refine zR2 ?_
 refine af rfl (fun h27=>?_) (fun h27=>?_)
 ·refine zR7 ?_
  exact ah jp rfl fun w' hw=>⟨by clear hw; unfold jW; (repeat (first|rw [if_pos (by first|assumption|omega|grind)]|rw [if_neg (by first|assumption|omega|grind)])) <;> rfl,hw.b0⟩
 refine zR8 ?_
 exact ah jp rfl fun w' hw=>⟨by clear hw; unfold jW; (repeat (first|rw [if_pos (by first|assumption|omega|grind)]|rw [if_neg (by first|assumption|omega|grind)])) <;> rfl,hw.b0⟩
theorem B2 (i:Ins) (w:World) :
  Cr Tryz.prog 88 #[.agg (am.enc i).toArray] w (.bool (decide (jW i=0))):=by
 refine enter Tryz.func88 rfl Tryz.ntmps88 rfl (zR2 ?_)
 refine cm rfl rfl (fun b1=>zR6 ?_)
 refine zz0 (ac rfl Tryz.call153 (fun w hw=>B5 i w)) (zR5 ?_)
 exact ah Tryz.results88 rfl fun w' hw=>⟨rfl,hw.b0⟩
end Go.Proofs.YtiajjbhcpeadfaaGreat
namespace Go.Proofs.YtiajjbhcpeadfaaGreat
open Go Go.HL Go.RowKit
theorem yF (op:Int) (w:World) :
  Cr Tryz.prog 89 #[.int .i64 op] w (.bool (s8 op)):=by
 refine enter Tryz.func89 rfl Tryz.ntmps89 rfl (df ?_)
 apply cE 3 5 8 (fun hF1 hF1'=>?_) ?_; rotate_right
 ·exact zE
 refine zz0 (ae rfl) ?_
 apply cE 3 9 12 (fun hF2 hF2'=>?_) ?_; rotate_right
 ·exact zE
 refine zR4 ?_
 exact ah Tryz.results89 rfl fun w' hw=>⟨by unfold s8; congr 2; rw [Bool.eq_iff_iff]; simp [or_assoc],hw.b0⟩
theorem Jf (i:Ins) (w:World) (hI:InsOK i) :
  Cr Tryz.prog 31 #[.agg (am.enc i).toArray] w (.bool (kL i)):=by
 refine enter Tryz.func31 rfl Tryz.ntmps31 rfl (zR2 ?_)
 refine cm rfl rfl (fun b1=>zR6 ?_)
 refine zz0 (ac rfl Tryz.call88 (fun w hw=>by have q:=B2 i w; rw [Od] at q; exact q)) (zz0 (ae rfl) ?_)
 apply cj 4 5 9 (fun hT2 hT2'=>?_) ?_; rotate_right
 ·refine zR2 ?_
  refine zz5 hT2 (ac rfl Tryz.call89 (fun w hw=>yF i.op w)) ?_
  exact zE
 refine zR4 ?_
 exact ah Tryz.results31 rfl fun w' hw=>⟨rfl,hw.b0⟩
end Go.Proofs.YtiajjbhcpeadfaaGreat
namespace Go.Proofs.YtiajjbhcpeadfaaGreat
open Go Go.HL Go.RowKit
theorem O3 (a b:List Ins) (V W:Value) (w:World) (hV:Sl (hp w) am a V) (hW:Sl (hp w) am b W) :
  Cr Tryz.prog 26 #[V,W] w (.bool (decide (a=b))):=by
 have hV':Sl (Bg.of w).blk am a V:=hV
 have hW':Sl (Bg.of w).blk am b W:=hW
 have hl1:=hV.len_le
 have hl2:=hW.len_le
 refine enter Tryz.func26 rfl Tryz.ntmps26 rfl (qE ?_)
 refine af rfl (fun h1=>?_) (fun h1=>?_)
 ·refine zR7 ?_
  exact ah Tryz.results26 rfl fun w' hw=>⟨by rw [decide_eq_false (fun e=>by subst e; omega)],hw.b0⟩
 refine zR9 ?_
 refine ed (.of (ι:=Nat) (fun k=>k≤a.length∧a.take k=b.take k) (fun _=>_) (fun k=>[]) (fun k=>[(5,.int .i64 (k:Nat))]) (fun k=>a.length - k)) 0 ⟨by omega,rfl⟩ (Front.c Front.nil) (fun k hi m hm=>?_)
 obtain ⟨hk1,hk3⟩:=hi
 refine zR9 ?_
 refine af rfl (fun h2=>?_) (fun h2=>?_)
 ·refine zR5 ?_
  refine ip ak (zT3 ?_)
  refine aB (tQ rfl) (zT3 ?_)
  refine aB (tQ rfl) ?_
  refine aB (Ig rfl rfl Ek kE (wF _ kE) rfl zG BD) (zT2 ?_)
  refine af rfl (fun h3=>?_) (fun h3=>?_)
  ·refine dy ?_
   exact ah Tryz.results26 rfl fun w' hw=>⟨by rw [decide_eq_false (fun e=>by subst e; simp_all)],hw.b0⟩
  refine zR5 ?_
  refine zz0 (aZ rfl rfl) (zR3 ?_)
  refine bC (k+1) (Front.c Front.nil) (zz9 17 rfl) (o:=⟨by omega,by rw [bX (by omega),bX (by omega),hk3]; congr 2⟩)
 refine dy ?_
 exact ah Tryz.results26 rfl fun w' hw=>⟨by rw [decide_eq_true (show a=b by rw [← List.take_of_length_le (show a.length≤k by omega),hk3,List.take_of_length_le (by omega)])],hw.b0⟩
theorem HM (li:List Ins) (a:UInt32) (Vi Ve Vu Vb:Value) (w:World) (hI:Sl (hp w) am li Vi) :
  Cr Tryz.prog 30 #[.agg #[Vi,Ve,Vu,Vb],.int .u32 a.toNat] w (.tuple #[.agg (am.enc (f8 li a).1).toArray,.bool (f8 li a).2]):=by
 have hI':Sl (Bg.of w).blk am li Vi:=hI
 have hlen:=hI.len_le
 refine enter Tryz.func30 rfl Tryz.ntmps30 rfl (zR2 ?_)
 refine cm rfl rfl (fun b1=>?_)
 refine bS aJ rfl (fun b2=>df ?_)
 refine ed (.of (ι:=Nat) (fun k=>k≤li.length∧bK (fun i:Ins=>decide (i.addr=a)) k (li.drop k)=bK (fun i:Ins=>decide (i.addr=a)) 0 li) (fun _=>_) (fun k=>[cellE b2 (am.enc ⟨0,0,0,0,0,0,0,0,0⟩) 36,cellE b1 [Vi,Ve,Vu,Vb] 52]) (fun k=>[(6,.int .i64 (k:Nat))]) (fun k=>li.length - k)) 0 ⟨Nat.zero_le _,rfl⟩ (Front.c Front.nil) (fun k hi m hm=>?_)
 obtain ⟨hk1,hk2⟩:=hi
 refine df ?_
 refine af rfl (fun h3=>?_) (fun h3=>?_)
 ·refine dy ?_
  refine zz0 (l6 rfl (by assumption) dG (by omega) (by rfl)) (zR4 ?_)
  refine af rfl (fun h4=>?_) (fun h4=>?_)
  ·refine zR7 ?_
   refine ad am rfl rfl aw ?_
   refine zR9 ?_
   refine kJ Tryz.results30 rfl rfl di aw (fun w' hw=>?_)
   have hix:bK (fun i:Ins=>decide (i.addr=a)) 0 li=(k:Int):=by
    rw [← hk2,drop_cons (k:=k) (by omega),bK,if_pos (by simp_all)]
   exact ⟨by unfold f8; rw [if_neg (by rw [hix]; omega),hix]; rfl,hw.b0⟩
  refine zR5 ?_
  refine zz0 (aZ rfl rfl) (zR3 ?_)
  refine bC (k+1) (Front.c Front.nil) (zz9 17 rfl) (o:=⟨by omega,by rw [← hk2,drop_cons (k:=k) (by omega),bK,if_neg (by simp_all)]⟩)
 refine zR7 ?_
 refine zz0 (aK (vs:=[]) rfl rfl (lg)) ?_
 refine ad am rfl rfl aw ?_
 refine zR4 ?_
 refine kJ Tryz.results30 rfl rfl di aw (fun w' hw=>?_)
 have hix:bK (fun i:Ins=>decide (i.addr=a)) 0 li=-1:=by rw [← hk2,List.drop_of_length_le (by omega)]; rfl
 exact ⟨by unfold f8; rw [if_pos (by rw [hix]; decide)]; rfl,hw.b0⟩
end Go.Proofs.YtiajjbhcpeadfaaGreat
namespace Go.Proofs.YtiajjbhcpeadfaaGreat
open Go Go.HL Go.RowKit
theorem FY (b:Nat) (wl:WL) (w:World) (hW:MapIn (hp w) b u8V wl):Calls Tryz.prog 115 #[.map (some b)] w (fun e w'=>∃ b':Nat,e=.returned (.map (some b'))∧Ext w w'∧NewEnts w w' [mapE b' u8V wl]∧True):=by
 obtain ⟨es,ck,hb,hm⟩:=hW
 refine (AnyW.maps_Clone Tryz.mclone b es ck w hb).mono fun e w' ⟨h1,h2⟩=>?_
 subst h1 h2
 refine ⟨_,rfl,⟨(Below.refl _ _).alloc (Nat.le_refl _) _,Nat.le_refl _⟩,⟨fun e he=>?_,by simp [aT,mapE],fun x hx=>?_,fun x hx=>?_⟩,trivial⟩
 ·obtain rfl:=List.mem_singleton.1 he
  exact ⟨es,ck,World.alloc_heap_new _ _,hm⟩
 ·simp only [aT,mapE,List.filterMap_cons,List.filterMap_nil,List.mem_singleton] at hx
  subst hx; simp
 simp only [aT,mapE,List.filterMap_cons,List.filterMap_nil,List.mem_singleton] at hx
 omega
theorem sJ (bM bm:Nat) (VR:Value) (w:World) (hC:CellsIn (hp w) bM [VR,.map (some bm)]) :
  Cr Tryz.prog 48 #[.pointer (some ⟨bM,0,none⟩)] w (.bool true):=by
 have hC':CellsIn (Bg.of w).blk bM [VR,.map (some bm)]:=hC
 refine enter Tryz.func48 rfl Tryz.ntmps48 rfl (zR8 ?_)
 refine zz0 (zr rfl rfl jh rfl) (zz0 (ae rfl) ?_)
 apply cj 6 5 11 (fun hT1 hT1'=>?_) ?_; rotate_right
 ·refine zR3 ?_
  refine zz5 hT1 (lh rfl ri) ?_
  refine zz5 hT1 (M6 rfl rfl mR rfl) ?_
  exact zE
 refine zR4 ?_
 exact ah Tryz.results48 rfl fun w' hw=>⟨rfl,hw.b0⟩
theorem yn (n:Int) (w:World) :
  Cr Tryz.prog 49 #[.int .i64 n] w (.bool (qF n)):=by
 refine enter Tryz.func49 rfl Tryz.ntmps49 rfl (df ?_)
 apply cE 3 5 8 (fun hF1 hF1'=>?_) ?_; rotate_right
 ·exact zE
 refine zz0 (ae rfl) ?_
 apply cE 3 9 12 (fun hF2 hF2'=>?_) ?_; rotate_right
 ·exact zE
 refine zR4 ?_
 exact ah Tryz.results49 rfl fun w' hw=>⟨by unfold qF; congr 2; rw [Bool.eq_iff_iff]; simp [or_assoc],hw.b0⟩
theorem AM (bM bm:Nat) (VR:Value) (rs:List RegV) (l:List SecV) (a:UInt32) (w:World) (hM:MemAt (hp w) bM bm VR rs) (hO:MemOK l rs) :
  Cr Tryz.prog 105 #[.pointer (some ⟨bM,0,none⟩),.int .u32 a.toNat] w (.tuple #[.agg (du.enc (dS rs a)).toArray,.bool (decide (¬ jA rs a<0))]):=by
 have hC':CellsIn (Bg.of w).blk bM [VR,.map (some bm)]:=hM.cells
 have hR':Sl (Bg.of w).blk du rs VR:=hM.regs
 have hM':MemAt (Bg.of w).blk bM bm VR rs:=hM
 have hrl:=hO.bounds.1
 refine enter Tryz.func105 rfl Tryz.ntmps105 rfl (zR2 ?_)
 refine bS dm rfl (fun b1=>zR9 ?_)
 refine zz0 (lh rfl Tryz.isAgg100) (zR5 ?_)
 refine ed (.of (ι:=Nat) (fun k=>k≤rs.length∧bK (inG a) k (rs.drop k)=bK (inG a) 0 rs) (fun _=>_) (fun k=>[cellE b1 [.int .u64 0,.slice none 0 0,.bool false,.bool false] 107]) (fun k=>[(14,.int .i64 (k:Nat))]) (fun k=>rs.length - k)) 0 ⟨Nat.zero_le _,rfl⟩ (Front.c Front.nil) (fun k hi m hm=>?_)
 obtain ⟨hk1,hk2⟩:=hi
 refine zR6 ?_
 refine af rfl (fun h2=>?_) (fun h2=>?_)
 ·refine zR5 ?_
  have hbk:=hO.bounds.2 (rs.getD k default) (bB (by omega))
  have hal:=a.toNat_lt
  refine zR3 ?_
  refine bS dm rfl (fun b3=>?_)
  refine ad du rfl rfl cM ?_
  refine zR5 ?_
  refine zz0 (dx rfl an aO) (df ?_)
  apply cj 10 24 34 (fun hT4 hT4'=>?_) ?_; rotate_right
  ·refine zR5 ?_
   refine zz5 hT4 (l5 rfl aS) ?_
   refine zz5 hT4 (dQ rfl ax aO (IntWalk.u64_in _ (by omega))) ?_
   refine zz5 hT4 (oK rfl rfl (by omega)) ?_
   exact zE
  refine zR2 ?_
  refine af rfl (fun h5=>?_) (fun h5=>?_)
  ·refine zR3 ?_
   refine ad du rfl rfl cM ?_
   refine zR9 ?_
   refine kJ Tryz.results105 rfl rfl oG cM (fun w' hw=>?_)
   have hyes:inG a (rs.getD k default)=true:=by unfold inG; rw [Bool.and_eq_true,decide_eq_true_eq,decide_eq_true_eq]; omega
   have hix:jA rs a=(k:Int):=by unfold jA; rw [← hk2,drop_cons (k:=k) (by omega),bK,if_pos hyes]
   exact ⟨by unfold dS; rw [hix,if_neg (by omega),decide_eq_true (by omega)]; rfl,hw.b0⟩
  refine zR4 ?_
  refine zz0 (aZ rfl rfl) (zR3 ?_)
  have hne:inG a (rs.getD k default)=false:=by unfold inG; rw [Bool.and_eq_false_iff,decide_eq_false_iff_not,decide_eq_false_iff_not]; omega
  refine bC (k+1) (Front.c Front.nil) (zz9 16 rfl) (o:=⟨by omega,by rw [← hk2,drop_cons (k:=k) (by omega),bK,if_neg (by rw [hne]; simp)]⟩)
 refine zR7 ?_
 refine zz0 (aK (vs:=[]) rfl rfl (uX)) ?_
 refine ad du rfl rfl cM ?_
 refine zR4 ?_
 refine kJ Tryz.results105 rfl rfl oG cM (fun w' hw=>?_)
 have hix:jA rs a=-1:=by unfold jA; rw [← hk2,List.drop_of_length_le (by omega)]; rfl
 exact ⟨by unfold dS; rw [hix,if_pos (by decide),decide_eq_false (by decide)]; rfl,hw.b0⟩
theorem AI (bM bm:Nat) (VR:Value) (r:RegV) (a:UInt32) (n:Nat) (wl:WL) (w:World) (hC:CellsIn (hp w) bM [VR,.map (some bm)]) (hW:MapIn (hp w) bm u8V wl) (hr:Sl (hp w) cX r.data (.slice r.dp r.data.length r.dc)) (h1:r.org≤a.toNat) (h2:a.toNat≤r.org+r.data.length) (h3:r.org+r.data.length≤4294967295) (hn:n≤100) :
  Calls Tryz.prog 51 #[.pointer (some ⟨bM,0,none⟩),.agg (du.enc r).toArray,.int .u32 a.toNat,.int .i64 (n:Nat)] w (fun e w'=>∃ V',e=.returned V'∧Ext w w'∧je w w' 5 cX (ya r wl a n) V'):=by
 have hC':CellsIn (Bg.of w).blk bM [VR,.map (some bm)]:=hC
 have hW':MapIn (Bg.of w).blk bm u8V wl:=hW
 have hr':Sl (Bg.of w).blk cX r.data (.slice r.dp r.data.length r.dc):=hr
 have hal:=a.toNat_lt
 refine enter Tryz.func51 rfl Tryz.ntmps51 rfl (zR2 ?_)
 refine cm rfl rfl (fun b1=>zR6 ?_)
 refine zz0 (dx rfl an aO) (zR2 ?_)
 refine zz0 (xr rfl rfl (by omega)) ?_
 refine zz0 (dQ rfl aO ax (IntWalk.i64_in _ (by omega))) (df ?_)
 refine zz0 (aZ rfl rfl) (zR4 ?_)
 refine zz0 (Im (lv:=some (_,_)) (hv:=some (_,_)) rfl rfl rfl aS eJ) ?_
 refine dj rfl sW (fun w hw=>uI ((r.data.take (min (((a.toNat:Int) - r.org)+n) (r.data.length:Int)).toNat).drop ((a.toNat:Int) - r.org).toNat) _ w (Sl.resl (l:=((a.toNat:Int) - r.org).toNat) (h:=(min (((a.toNat:Int) - r.org)+n) (r.data.length:Int)).toNat) (hw.slF hr') (by omega) (by omega)) (by simp only [List.length_drop,List.length_take]; omega)) rfl (fun V2=>zR5 ?_)
 obtain ⟨base,hbase⟩:∃ base,base=((r.data.take (min (((a.toNat:Int) - r.org)+n) (r.data.length:Int)).toNat).drop ((a.toNat:Int) - r.org).toNat):=⟨_,rfl⟩
 rw [← hbase]
 have hbl:base.length≤100:=by rw [hbase,List.length_drop,List.length_take]; omega
 refine fD (l':=(ovr wl a (base.take 0) ++ base.drop 0)) (by simp [ovr]) ?_
 have hcl:∀ k,k≤base.length→(ovr wl a (base.take k) ++ base.drop k).length=base.length:=fun k hk=>by rw [List.length_append,sH,List.length_take,List.length_drop]; omega
 refine zR2 ?_
 refine zz0 (Qi (l:=(ovr wl a (base.take 0) ++ base.drop 0)) rfl aS) (zR4 ?_)
 have hlen0:=hcl 0 (Nat.zero_le _)
 refine ed (.of (ι:=Nat) (fun k=>k≤base.length) (fun _=>_) (fun k=>[rowE V2 5 cX (ovr wl a (base.take k) ++ base.drop k),cellE b1 (du.enc r) 107]) (fun k=>[(34,.int .i64 (k:Nat)),(33,.int .i64 (base.length:Nat))]) (fun k=>base.length - k)) 0 (Nat.zero_le _) (Front.c (Front.c Front.nil)) (fun k hi m hm=>zR6 ?_)
 refine af rfl (fun h3=>?_) (fun h3=>?_)
 ·refine qE ?_
  refine zz0 (lh rfl ri) (zR2 ?_)
  refine zz0 (gU rfl ax an) (zz0 (gV rfl rfl) (zz0 (Fo rfl rfl hW' mR an ku) (fu ?_)))
  refine af rfl (fun h4=>?_) (fun h4=>?_)
  ·have hlen:=hcl k (by omega)
   refine zR5 ?_
   refine gg (l:=(ovr wl a (base.take k) ++ base.drop k)) (i:=k) (((cO wl (a+u32 (k:Int))).getD 0)) rfl rfl eJ ?_
   have hls5:(List.set (ovr wl a (base.take k) ++ base.drop k) (k) (((cO wl (a+u32 (k:Int))).getD 0))).length=((ovr wl a (base.take k) ++ base.drop k)).length:=List.length_set
   refine zR4 ?_
   refine zz0 (aZ rfl rfl) (zR3 ?_)
   obtain ⟨x,hx⟩:=Option.isSome_iff_exists.1 (show (cO wl (a+u32 (k:Int))).isSome=true by assumption)
   rw [hx,Option.getD_some,NF (by omega) (by rw [← BM]; exact hx)]
   refine bC (k+1) (Front.c (Front.c Front.nil)) (zz9 26 rfl) (o:=(by show k+1≤_; omega))
  refine zR4 ?_
  refine zz0 (aZ rfl rfl) (zR3 ?_)
  rw [Pg (by omega) (by rw [← BM]; exact Option.isNone_iff_eq_none.1 (by simp_all))]
  refine bC (k+1) (Front.c (Front.c Front.nil)) (zz9 22 rfl) (o:=(by show k+1≤_; omega))
 refine fu ?_
 refine ah Tryz.results51 rfl (fun w' hw=>?_)
 have hfin:(ovr wl a (base.take k) ++ base.drop k)=ya r wl a n:=by
  rw [List.take_of_length_le (by omega),List.drop_of_length_le (by omega),List.append_nil,hbase]
  unfold ya
  congr 1
  rw [List.drop_take,show ((a.toNat:Int) - r.org).toNat=a.toNat - r.org by omega,List.take_eq_take_iff,List.length_drop]
  omega
 rw [hfin] at hw
 exact ⟨_,rfl,hw.b0,hw.new (.head _)⟩
theorem wc (bM bm:Nat) (VR:Value) (rs:List RegV) (l:List SecV) (a:UInt32) (n:Int) (w:World) (hM:MemAt (hp w) bM bm VR rs) (hO:MemOK l rs) (hn:1≤n∧n≤100) :
  Cr Tryz.prog 50 #[.pointer (some ⟨bM,0,none⟩),.int .u32 a.toNat,.int .i64 n] w (.tuple #[.agg (du.enc (Ga l rs a n)).toArray,.int .i64 (mz l a n)]):=by
 have hC':CellsIn (Bg.of w).blk bM [VR,.map (some bm)]:=hM.cells
 have hR':Sl (Bg.of w).blk du rs VR:=hM.regs
 have hM':MemAt (Bg.of w).blk bM bm VR rs:=hM
 have hrl:=hO.bounds.1
 have hal:=a.toNat_lt
 refine enter Tryz.func50 rfl Tryz.ntmps50 rfl (zR2 ?_)
 refine bS dm rfl (fun b1=>zR7 ?_)
 refine zz0 (ac rfl Tryz.call105 (fun w hw=>AM bM bm VR rs l a w (hM'.mono hw.bg) hO)) (zR3 ?_)
 refine bS dm rfl (fun b2=>?_)
 refine ad du rfl rfl cM ?_
 refine zR9 ?_
 apply cE 14 18 32 (fun hF3 hF3'=>?_) ?_; rotate_right
 ·have hf:¬ jA rs a<0:=by simp_all
  obtain ⟨_,_,_,hg1,hg2⟩:=hO.reg hf
  have hg3:=hO.top hf
  refine zz5 hF3 (ae rfl) (zz5 hF3 (dQ rfl ax aO (IntWalk.u64_in _ (by omega))) (zR4 ?_))
  refine zz5 hF3 (l5 rfl aS) ?_
  refine zz5 hF3 (dQ rfl ax aO (IntWalk.u64_in _ (by omega))) ?_
  refine zz5 hF3 (oK rfl rfl (by omega)) (zz5 hF3 (ae rfl) ?_)
  refine zz5 hF3 (dx rfl an aO) (zz5 hF3 (xr rfl rfl (by omega)) ?_)
  exact zE
 refine zR2 ?_
 refine af rfl (fun h4=>?_) (fun h4=>?_)
 ·refine eO (zz0 (aK (vs:=[]) rfl rfl (uX)) ?_)
  refine ad du rfl rfl cM ?_
  refine zR5 ?_
  refine kJ Tryz.results50 rfl rfl oG cM (fun w' hw=>?_)
  have hq:fg l a<n:=(hO.mapd (by omega)).2 (by simp_all)
  exact ⟨by unfold Ga mz; rw [if_pos hq,if_pos hq]; rfl,hw.b0⟩
 refine zR5 ?_
 refine ad du rfl rfl cM ?_
 refine zR4 ?_
 refine kJ Tryz.results50 rfl rfl oG cM (fun w' hw=>?_)
 have hq:¬ fg l a<n:=by rw [hO.mapd (by omega)]; simp_all
 exact ⟨by unfold Ga mz; rw [if_neg hq,if_neg hq]; rfl,hw.b0⟩
theorem sK (bM bm:Nat) (VR:Value) (rs:List RegV) (l:List SecV) (a:UInt32) (n:Int) (wl:WL) (w:World) (hM:MemAt (hp w) bM bm VR rs) (hO:MemOK l rs) (hW:MapIn (hp w) bm u8V wl) :
  Cr Tryz.prog 16 #[.pointer (some ⟨bM,0,none⟩),.int .u32 a.toNat,.int .i64 n] w (.tuple #[.int .u32 (dV l (dZ wl) a n).1.toNat,.int .i64 (dV l (dZ wl) a n).2]):=by
 have hC':CellsIn (Bg.of w).blk bM [VR,.map (some bm)]:=hM.cells
 have hR':Sl (Bg.of w).blk du rs VR:=hM.regs
 have hM':MemAt (Bg.of w).blk bM bm VR rs:=hM
 have hrl:=hO.bounds.1
 have hW':MapIn (Bg.of w).blk bm u8V wl:=hW
 refine enter Tryz.func16 rfl Tryz.ntmps16 rfl (df ?_)
 refine zz0 (ac rfl sV (fun w hw=>sJ bM bm VR w (hC'.mono hw.bg))) (zR3 ?_)
 refine dw rfl ?_ ?_ <;> intro h1 <;> try simp only [bs] at h1
 ·first|contradiction|(exfalso; omega)|simp_all
 refine zR6 ?_
 refine zz0 (ac rfl Tryz.call49 (fun w hw=>yn n w)) (zR3 ?_)
 refine af rfl (fun h2=>?_) (fun h2=>?_)
 ·refine zR8 ?_
  exact bV Tryz.results16 rfl rfl fun w' hw=>⟨by rw [Pq (by assumption)]; rfl,hw.b0⟩
 refine zR3 ?_
 have hw0:¬ qF n=false:=by simp_all
 have hwr:=Db (show qF n=true by simpa using hw0)
 refine zR4 ?_
 refine zz0 (ac rfl Tryz.call50 (fun w hw=>wc bM bm VR rs l a n w (hM'.mono hw.bg) hO (by omega))) (zR3 ?_)
 refine bS dm rfl (fun b3=>?_)
 refine ad du rfl rfl cM ?_
 change Tr _ _ (cellE b3 (du.enc (Ga l rs a n)) 107 :: _) _ _
 refine df ?_
 refine af rfl (fun h4=>?_) (fun h4=>?_)
 ·refine zR9 ?_
  refine bV Tryz.results16 rfl rfl (fun w' hw=>?_)
  have hq:fg l a<n:=by
   rcases Int.lt_or_le (fg l a) n with q|q
   ·exact q
   ·exfalso
    have e:mz l a n=0:=by unfold mz; rw [if_neg (by omega)]
    exact absurd e (by assumption)
  exact ⟨by rw [Pp hw0 hq,show mz l a n=11 by unfold mz; rw [if_pos hq]]; rfl,hw.b0⟩
 refine zR3 ?_
 have hq:¬ fg l a<n:=by
  intro q
  have e:mz l a n=11:=by unfold mz; rw [if_pos q]
  omega
 obtain ⟨hf,hmr,_,hg1,hg2,hg3⟩:=hO.mapd_ok (by omega) hq
 rw [hmr]
 have hbl:=kR l (dZ wl) n.toNat a
 refine dy ?_
 refine dj rfl Tryz.call51 (fun w hw=>(by have q:=AI bM bm VR (dS rs a) a n.toNat wl w (hC'.mono hw.bg) (hW'.mono hw.bg) (hw.slF (hM'.fnd a)) hg1 hg2 hg3 (by omega); rw [show ((n.toNat:Nat):Int)=n by omega] at q; exact q)) rfl (fun V5=>?_)
 refine fD (l':=(gJ l (dZ wl) a n.toNat)) (hO.pres hf (by omega)) (zR5 ?_)
 refine ed (.of (ι:=Nat) (fun k=>k≤(gJ l (dZ wl) a n.toNat).length) (fun _=>_) (fun k=>[rowE V5 5 cX (gJ l (dZ wl) a n.toNat),cellE b3 (du.enc (dS rs a)) 107]) (fun k=>[(35,.int .i64 (k:Nat)),(10,.int .u32 (leP ((gJ l (dZ wl) a n.toNat).take k)).toNat)]) (fun k=>(gJ l (dZ wl) a n.toNat).length - k)) 0 (Nat.zero_le _) (.cons (by first|rfl|exact bH rfl (by omega)|exact bH rfl (by rw [og (by omega) (by omega) rfl])|exact bH rfl (by simp)|exact cP rfl (by simp)) (.cons (by first|rfl|exact bH rfl (by omega)|exact bH rfl (by rw [og (by omega) (by omega) rfl])|exact bH rfl (by simp)|exact cP rfl (by simp)) Front.nil)) (fun k hi m hm=>zR6 ?_)
 refine af rfl (fun h6=>?_) (fun h6=>?_)
 ·refine wK ?_
  refine zz0 (iU rfl aU an) (zz0 (ae rfl) (zz0 (kG rfl rfl (by omega)) ?_))
  refine zz0 (nL rfl rfl (by omega)) ?_
  refine zz0 (s7 rfl rfl) (zR5 ?_)
  refine zz0 (aZ rfl rfl) (zR3 ?_)
  refine bC (k+1) (.cons (by first|rfl|exact bH rfl (by omega)|exact bH rfl (by rw [og (by omega) (by omega) rfl])|exact bH rfl (by simp)|exact cP rfl (by simp)) (.cons (by first|rfl|exact bH rfl (by omega)|exact bH rfl (by rw [og (by omega) (by omega) rfl])|exact bH rfl (by simp)|exact cP rfl (by simp)) Front.nil)) (zz9 18 rfl) (o:=(by show k+1≤_; omega))
 refine jz ?_
 exact bV Tryz.results16 rfl rfl fun w' hw=>⟨by rw [Po hw0 hq,List.take_of_length_le (by omega)],hw.b0⟩
theorem D1 (l:List SecV) (V:Value) (w:World) (hV:Sl (hp w) cD l V) (hB:SecB l) (hN:∀ s∈l,s.name.size≤140737488351232) (hD:DataIn (hp w) l) :
  Calls Tryz.prog 14 #[V] w (fun e w'=>∃ i:Option (Nat × Nat × Value × List RegV),e=.returned (.tuple #[match i with|none=>.pointer none|some j=>.pointer (some ⟨j.1,0,none⟩),.int .i64 (cF l)])∧Ext w w'∧NewEnts w w' (match i with|none=>[]|some j=>cellE j.1 [j.2.2.1,.map (some j.2.1)] 102 :: mapE j.2.1 u8V [] :: rowE j.2.2.1 107 du j.2.2.2 :: iz 5 j.2.2.2)∧(match i with|none=>cF l≠0|some j=>MemOK l j.2.2.2)):=by
 have hV':Sl (Bg.of w).blk cD l V:=hV
 have hD':DataIn (Bg.of w).blk l:=hD
 have hlen:=hB.1
 refine enter Tryz.func14 rfl Tryz.ntmps14 rfl (df ?_)
 refine zz0 (ac rfl sX (fun w hw=>sT l V w (hw.slF hV') hB (fun s hs=>by have:=hN s hs; omega))) (zR9 ?_)
 refine af rfl (fun h1=>?_) (fun h1=>?_)
 ·refine zR9 ?_
  exact bV nh rfl rfl fun w' hw=>⟨none,rfl,hw.b0,hw.ents (Bg.le.refl _) (by repeat' constructor),by assumption⟩
 refine oH (gm u8V rfl (fun b2=>?_))
 refine zz0 (lG (vs:=[(1,_)]) (cs:=#[.slice none 0 0,.map (some b2)]) rfl rfl) ?_
 refine cm rfl rfl (fun b3=>fu ?_)
 refine aR 107 du ?_
 refine dO (ι:=Nat × Value × List RegV) (fun ⟨k,Vr,rs⟩=>k≤l.length∧rs.map RegV.pl=(l.take k).map BZ) (fun _=>_) (fun ⟨k,Vr,rs⟩=>(cellE b3 [Vr,.map (some b2)] 102 :: rowE Vr 107 du rs :: mapE b2 u8V [] :: iz 5 rs)) (fun ⟨k,Vr,rs⟩=>[(18,.int .i64 (k:Nat))]) (fun ⟨k,Vr,rs⟩=>l.length - k) (0,.slice none 0 0,[]) ⟨Nat.zero_le _,rfl⟩ (Front.c Front.nil) (fun i hi m hm=>?_)
 obtain ⟨k,Vr,rs⟩:=i
 dsimp only at hi hm
 change Tr _ _ (cellE b3 [Vr,.map (some b2)] 102 :: rowE Vr 107 du rs :: mapE b2 u8V [] :: iz 5 rs) ([(18,.int .i64 (k:Nat))] ++ _) _
 obtain ⟨hk1,hk2⟩:=hi
 have hrl:rs.length=k:=by have:=congrArg List.length hk2; rw [List.length_map,List.length_map,List.length_take] at this; omega
 refine zR6 ?_
 refine af rfl (fun h4=>?_) (fun h4=>?_)
 ·refine zR5 ?_
  have hk3:=bB (l:=l) (k:=k) (by omega)
  have hDk:=hD' (l.getD k default) hk3
  have hdl:=hB.at (k:=k) (by omega)
  refine zR3 ?_
  refine bS lz rfl (fun b5=>?_)
  refine ad cD rfl rfl jM ?_
  change Tr _ _ (cellE b5 (cD.enc (l.getD k default)) 49 :: _) _ _
  refine lD (aL ([cellE b5 (cD.enc (l.getD k default)) 49]) 22 rfl ak ?_)
  refine zz1 0 rfl (ae rfl) ?_
  refine zz1 1 rfl (ae rfl) ?_
  refine zz1 2 rfl (aA rfl) ?_
  refine zz1 3 rfl (aD rfl) ?_
  refine zz1 5 rfl (aD rfl) ?_
  refine zz1 6 rfl (cH rfl) ?_
  refine zz1 7 rfl (dx rfl an aO) ?_
  refine zz1 8 rfl (aD rfl) ?_
  refine zz1 9 rfl (cH rfl) ?_
  refine zz1 11 rfl (aD rfl) ?_
  refine zz1 12 rfl (cH rfl) ?_
  refine zz1 13 rfl (aD rfl) ?_
  refine zz1 14 rfl (cH rfl) ?_
  refine zz1 15 rfl (lG (vs:=[(0,_),(1,_)]) (cs:=#[.bool (l.getD k default).wr,.bool (l.getD k default).ex]) rfl rfl) ?_
  refine lH [4,10] (fun iq hq=>?_)
  rcases List.mem_cons.1 hq with rfl|hq
  ·skip
   refine bY rfl (zz0 (dP rfl) ?_)
   refine ay ?_
   refine ao 10 rfl ?_
   refine dj rfl sW (fun w hw=>uI (l.getD k default).data _ w (hw.slF hDk) (by omega)) rfl (fun V41=>?_)
   refine fq (V:=V41) (fun pd cd hpv=>?_)
   subst hpv
   refine ay ?_
   refine zz1 16 rfl (lG (vs:=[(0,_),(1,_),(2,_)]) (cs:=(du.enc (⟨(l.getD k default).addr.toNat,(l.getD k default).data,pd,cd,(l.getD k default).wr,(l.getD k default).ex⟩:RegV)).toArray) rfl rfl) ?_
   refine ao 17 rfl ?_
   refine g7 (E:=du) (⟨(l.getD k default).addr.toNat,(l.getD k default).data,pd,cd,(l.getD k default).wr,(l.getD k default).ex⟩:RegV) rfl rfl cB cM dm (fun V6=>?_)
   refine ay ?_
   refine ao 18 rfl ?_
   refine zz3 rfl rfl cB jS (fun V44=>?_)
   refine fq (V:=V44) (fun pn cn hpv=>?_)
   subst hpv
   refine ay ?_
   refine zz1 19 rfl (aA rfl) ?_
   refine zz1 20 rfl (aD rfl) ?_
   refine ao 21 rfl ?_
   refine zz4 rfl rfl j7 rfl ?_
   refine ay ?_
   refine dK (zR3 ?_)
   refine zz0 (aZ rfl rfl) (zR3 ?_)
   apply fW (k+1,.slice pn (rs ++ [(⟨(l.getD k default).addr.toNat,(l.getD k default).data,pd,cd,(l.getD k default).wr,(l.getD k default).ex⟩:RegV)]).length cn,rs ++ [(⟨(l.getD k default).addr.toNat,(l.getD k default).data,pd,cd,(l.getD k default).wr,(l.getD k default).ex⟩:RegV)])
   ·exact rfl
   ·exact (Front.c Front.nil)
   ·exact zz9 28 rfl
   ·exact (by show Pick _ (cellE b3 [(.slice pn (rs ++ [(⟨(l.getD k default).addr.toNat,(l.getD k default).data,pd,cd,(l.getD k default).wr,(l.getD k default).ex⟩:RegV)]).length cn),.map (some b2)] 102 :: rowE (.slice pn (rs ++ [(⟨(l.getD k default).addr.toNat,(l.getD k default).data,pd,cd,(l.getD k default).wr,(l.getD k default).ex⟩:RegV)]).length cn) 107 du (rs ++ [(⟨(l.getD k default).addr.toNat,(l.getD k default).data,pd,cd,(l.getD k default).wr,(l.getD k default).ex⟩:RegV)]) :: mapE b2 u8V [] :: iz 5 (rs ++ [(⟨(l.getD k default).addr.toNat,(l.getD k default).data,pd,cd,(l.getD k default).wr,(l.getD k default).ex⟩:RegV)])); rw [jV]; exact .cons (by repeat constructor) (.cons (by repeat constructor) (.cons (by repeat constructor) (.cons (by repeat constructor) (by repeat (first|exact Pick.refl _|apply Pick.skip))))))
   ·exact ⟨by omega,by rw [List.map_append,hk2,bX (by omega),List.map_append]; rfl⟩
   exact (by (try dsimp only); omega)
  obtain rfl:=List.mem_singleton.1 hq
  refine bY rfl ?_
  refine dj rfl sW (fun w hw=>uI (l.getD k default).data _ w (hw.slF hDk) (by omega)) rfl (fun V41=>?_)
  refine fq (V:=V41) (fun pd cd hpv=>?_)
  subst hpv
  refine ay ?_
  refine zz1 16 rfl (lG (vs:=[(0,_),(1,_),(2,_)]) (cs:=(du.enc (⟨(l.getD k default).addr.toNat,(l.getD k default).data,pd,cd,(l.getD k default).wr,(l.getD k default).ex⟩:RegV)).toArray) rfl rfl) ?_
  refine lH [4,17] (fun iq hq=>?_)
  rcases List.mem_cons.1 hq with rfl|hq
  ·skip
   refine bY rfl (zz0 (dP rfl) ?_)
   refine ay ?_
   refine ao 17 rfl ?_
   refine g7 (E:=du) (⟨(l.getD k default).addr.toNat,(l.getD k default).data,pd,cd,(l.getD k default).wr,(l.getD k default).ex⟩:RegV) rfl rfl cB cM dm (fun V7=>?_)
   refine ay ?_
   refine ao 18 rfl ?_
   refine zz3 rfl rfl cB jS (fun V44=>?_)
   refine fq (V:=V44) (fun pn cn hpv=>?_)
   subst hpv
   refine ay ?_
   refine zz1 19 rfl (aA rfl) ?_
   refine zz1 20 rfl (aD rfl) ?_
   refine ao 21 rfl ?_
   refine zz4 rfl rfl j7 rfl ?_
   refine ay ?_
   refine dK (zR3 ?_)
   refine zz0 (aZ rfl rfl) (zR3 ?_)
   apply fW (k+1,.slice pn (rs ++ [(⟨(l.getD k default).addr.toNat,(l.getD k default).data,pd,cd,(l.getD k default).wr,(l.getD k default).ex⟩:RegV)]).length cn,rs ++ [(⟨(l.getD k default).addr.toNat,(l.getD k default).data,pd,cd,(l.getD k default).wr,(l.getD k default).ex⟩:RegV)])
   ·exact rfl
   ·exact (Front.c Front.nil)
   ·exact zz9 28 rfl
   ·exact (by show Pick _ (cellE b3 [(.slice pn (rs ++ [(⟨(l.getD k default).addr.toNat,(l.getD k default).data,pd,cd,(l.getD k default).wr,(l.getD k default).ex⟩:RegV)]).length cn),.map (some b2)] 102 :: rowE (.slice pn (rs ++ [(⟨(l.getD k default).addr.toNat,(l.getD k default).data,pd,cd,(l.getD k default).wr,(l.getD k default).ex⟩:RegV)]).length cn) 107 du (rs ++ [(⟨(l.getD k default).addr.toNat,(l.getD k default).data,pd,cd,(l.getD k default).wr,(l.getD k default).ex⟩:RegV)]) :: mapE b2 u8V [] :: iz 5 (rs ++ [(⟨(l.getD k default).addr.toNat,(l.getD k default).data,pd,cd,(l.getD k default).wr,(l.getD k default).ex⟩:RegV)])); rw [jV]; exact .cons (by repeat constructor) (.cons (by repeat constructor) (.cons (by repeat constructor) (.cons (by repeat constructor) (by repeat (first|exact Pick.refl _|apply Pick.skip))))))
   ·exact ⟨by omega,by rw [List.map_append,hk2,bX (by omega),List.map_append]; rfl⟩
   exact (by (try dsimp only); omega)
  obtain rfl:=List.mem_singleton.1 hq
  refine bY rfl ?_
  refine g7 (E:=du) (⟨(l.getD k default).addr.toNat,(l.getD k default).data,pd,cd,(l.getD k default).wr,(l.getD k default).ex⟩:RegV) rfl rfl cB cM dm (fun V8=>?_)
  refine ay ?_
  refine ao 4 rfl (zz0 (dP rfl) ?_)
  refine ay ?_
  refine ao 18 rfl ?_
  refine zz3 rfl rfl cB jS (fun V44=>?_)
  refine fq (V:=V44) (fun pn cn hpv=>?_)
  subst hpv
  refine ay ?_
  refine zz1 19 rfl (aA rfl) ?_
  refine zz1 20 rfl (aD rfl) ?_
  refine ao 21 rfl ?_
  refine zz4 rfl rfl j7 rfl ?_
  refine ay ?_
  refine dK (zR3 ?_)
  refine zz0 (aZ rfl rfl) (zR3 ?_)
  apply fW (k+1,.slice pn (rs ++ [(⟨(l.getD k default).addr.toNat,(l.getD k default).data,pd,cd,(l.getD k default).wr,(l.getD k default).ex⟩:RegV)]).length cn,rs ++ [(⟨(l.getD k default).addr.toNat,(l.getD k default).data,pd,cd,(l.getD k default).wr,(l.getD k default).ex⟩:RegV)])
  ·exact rfl
  ·exact (Front.c Front.nil)
  ·exact zz9 28 rfl
  ·exact (by show Pick _ (cellE b3 [(.slice pn (rs ++ [(⟨(l.getD k default).addr.toNat,(l.getD k default).data,pd,cd,(l.getD k default).wr,(l.getD k default).ex⟩:RegV)]).length cn),.map (some b2)] 102 :: rowE (.slice pn (rs ++ [(⟨(l.getD k default).addr.toNat,(l.getD k default).data,pd,cd,(l.getD k default).wr,(l.getD k default).ex⟩:RegV)]).length cn) 107 du (rs ++ [(⟨(l.getD k default).addr.toNat,(l.getD k default).data,pd,cd,(l.getD k default).wr,(l.getD k default).ex⟩:RegV)]) :: mapE b2 u8V [] :: iz 5 (rs ++ [(⟨(l.getD k default).addr.toNat,(l.getD k default).data,pd,cd,(l.getD k default).wr,(l.getD k default).ex⟩:RegV)])); rw [jV]; exact .cons (by repeat constructor) (.cons (by repeat constructor) (.cons (by repeat constructor) (.cons (by repeat constructor) (by repeat (first|exact Pick.refl _|apply Pick.skip))))))
  ·exact ⟨by omega,by rw [List.map_append,hk2,bX (by omega),List.map_append]; rfl⟩
  exact (by (try dsimp only); omega)
 refine zR6 ?_
 refine aL ([]) 13 rfl ak ?_
 refine zz1 0 rfl (ae rfl) ?_
 refine zz1 1 rfl (ae rfl) ?_
 refine zz1 2 rfl (aA rfl) ?_
 refine zz1 3 rfl (aD rfl) ?_
 refine zz1 6 rfl (lG (vs:=[(0,_)]) (cs:=#[.bool true,.bool false]) rfl rfl) ?_
 refine lH [4,5] (fun iq hq=>?_)
 rcases List.mem_cons.1 hq with rfl|hq
 ·skip
  refine bY rfl (zz0 (dP rfl) ?_)
  refine ay ?_
  refine ao 5 rfl ?_
  refine ja (E:=cX) 0 (n:=4096) rfl rfl aS nq rfl rfl rfl (by decide) rfl (fun b42=>?_)
  obtain ⟨z4,hz4⟩:∃ z:List UInt8,z=List.replicate 4096 0:=⟨_,rfl⟩
  rw [← hz4]
  refine ay ?_
  refine zz1 7 rfl (lG (vs:=[(0,_),(1,_),(2,_)]) (cs:=(du.enc (⟨978944,z4,some ⟨b42,0,none⟩,4096,true,false⟩:RegV)).toArray) rfl rfl) ?_
  refine ao 8 rfl ?_
  refine g7 (E:=du) (⟨978944,z4,some ⟨b42,0,none⟩,4096,true,false⟩:RegV) rfl rfl cB cM dm (fun V9=>?_)
  refine ay ?_
  refine ao 9 rfl ?_
  refine zz3 rfl rfl cB jS (fun V44=>?_)
  refine fq (V:=V44) (fun pn cn hpv=>?_)
  subst hpv
  refine ay ?_
  refine zz1 10 rfl (aA rfl) ?_
  refine zz1 11 rfl (aD rfl) ?_
  refine ao 12 rfl ?_
  refine zz4 rfl rfl j7 rfl ?_
  refine ay ?_
  refine dK (zR9 ?_)
  refine bV nh rfl rfl (fun w' hw=>?_)
  have hfin:MemOK l (rs ++ [(⟨978944,z4,some ⟨b42,0,none⟩,4096,true,false⟩:RegV)]):=⟨by assumption,by rw [List.map_append,hk2,List.take_of_length_le (by omega),hz4]; rfl⟩
  exact ⟨some (b3,b2,.slice pn (rs ++ [(⟨978944,z4,some ⟨b42,0,none⟩,4096,true,false⟩:RegV)]).length cn,rs ++ [(⟨978944,z4,some ⟨b42,0,none⟩,4096,true,false⟩:RegV)]),by rw [hfin.chk],hw.b0,hw.ents (Bg.le.refl _) (by show Pick _ (cellE b3 [.slice pn (rs ++ [(⟨978944,z4,some ⟨b42,0,none⟩,4096,true,false⟩:RegV)]).length cn,.map (some b2)] 102 :: mapE b2 u8V [] :: rowE (.slice pn (rs ++ [(⟨978944,z4,some ⟨b42,0,none⟩,4096,true,false⟩:RegV)]).length cn) 107 du (rs ++ [(⟨978944,z4,some ⟨b42,0,none⟩,4096,true,false⟩:RegV)]) :: iz 5 (rs ++ [(⟨978944,z4,some ⟨b42,0,none⟩,4096,true,false⟩:RegV)])); rw [jV]; exact .cons (by repeat constructor) (.cons (by repeat constructor) (.cons (by repeat constructor) (.cons (by repeat constructor) (by repeat (first|exact Pick.refl _|apply Pick.skip)))))),hfin⟩
 obtain rfl:=List.mem_singleton.1 hq
 refine bY rfl ?_
 refine ja (E:=cX) 0 (n:=4096) rfl rfl aS nq rfl rfl rfl (by decide) rfl (fun b42=>?_)
 obtain ⟨z4,hz4⟩:∃ z:List UInt8,z=List.replicate 4096 0:=⟨_,rfl⟩
 rw [← hz4]
 refine ay ?_
 refine zz1 7 rfl (lG (vs:=[(0,_),(1,_),(2,_)]) (cs:=(du.enc (⟨978944,z4,some ⟨b42,0,none⟩,4096,true,false⟩:RegV)).toArray) rfl rfl) ?_
 refine lH [4,8] (fun iq hq=>?_)
 rcases List.mem_cons.1 hq with rfl|hq
 ·skip
  refine bY rfl (zz0 (dP rfl) ?_)
  refine ay ?_
  refine ao 8 rfl ?_
  refine g7 (E:=du) (⟨978944,z4,some ⟨b42,0,none⟩,4096,true,false⟩:RegV) rfl rfl cB cM dm (fun V10=>?_)
  refine ay ?_
  refine ao 9 rfl ?_
  refine zz3 rfl rfl cB jS (fun V44=>?_)
  refine fq (V:=V44) (fun pn cn hpv=>?_)
  subst hpv
  refine ay ?_
  refine zz1 10 rfl (aA rfl) ?_
  refine zz1 11 rfl (aD rfl) ?_
  refine ao 12 rfl ?_
  refine zz4 rfl rfl j7 rfl ?_
  refine ay ?_
  refine dK (zR9 ?_)
  refine bV nh rfl rfl (fun w' hw=>?_)
  have hfin:MemOK l (rs ++ [(⟨978944,z4,some ⟨b42,0,none⟩,4096,true,false⟩:RegV)]):=⟨by assumption,by rw [List.map_append,hk2,List.take_of_length_le (by omega),hz4]; rfl⟩
  exact ⟨some (b3,b2,.slice pn (rs ++ [(⟨978944,z4,some ⟨b42,0,none⟩,4096,true,false⟩:RegV)]).length cn,rs ++ [(⟨978944,z4,some ⟨b42,0,none⟩,4096,true,false⟩:RegV)]),by rw [hfin.chk],hw.b0,hw.ents (Bg.le.refl _) (by show Pick _ (cellE b3 [.slice pn (rs ++ [(⟨978944,z4,some ⟨b42,0,none⟩,4096,true,false⟩:RegV)]).length cn,.map (some b2)] 102 :: mapE b2 u8V [] :: rowE (.slice pn (rs ++ [(⟨978944,z4,some ⟨b42,0,none⟩,4096,true,false⟩:RegV)]).length cn) 107 du (rs ++ [(⟨978944,z4,some ⟨b42,0,none⟩,4096,true,false⟩:RegV)]) :: iz 5 (rs ++ [(⟨978944,z4,some ⟨b42,0,none⟩,4096,true,false⟩:RegV)])); rw [jV]; exact .cons (by repeat constructor) (.cons (by repeat constructor) (.cons (by repeat constructor) (.cons (by repeat constructor) (by repeat (first|exact Pick.refl _|apply Pick.skip)))))),hfin⟩
 obtain rfl:=List.mem_singleton.1 hq
 refine bY rfl ?_
 refine g7 (E:=du) (⟨978944,z4,some ⟨b42,0,none⟩,4096,true,false⟩:RegV) rfl rfl cB cM dm (fun V11=>?_)
 refine ay ?_
 refine ao 4 rfl (zz0 (dP rfl) ?_)
 refine ay ?_
 refine ao 9 rfl ?_
 refine zz3 rfl rfl cB jS (fun V44=>?_)
 refine fq (V:=V44) (fun pn cn hpv=>?_)
 subst hpv
 refine ay ?_
 refine zz1 10 rfl (aA rfl) ?_
 refine zz1 11 rfl (aD rfl) ?_
 refine ao 12 rfl ?_
 refine zz4 rfl rfl j7 rfl ?_
 refine ay ?_
 refine dK (zR9 ?_)
 refine bV nh rfl rfl (fun w' hw=>?_)
 have hfin:MemOK l (rs ++ [(⟨978944,z4,some ⟨b42,0,none⟩,4096,true,false⟩:RegV)]):=⟨by assumption,by rw [List.map_append,hk2,List.take_of_length_le (by omega),hz4]; rfl⟩
 exact ⟨some (b3,b2,.slice pn (rs ++ [(⟨978944,z4,some ⟨b42,0,none⟩,4096,true,false⟩:RegV)]).length cn,rs ++ [(⟨978944,z4,some ⟨b42,0,none⟩,4096,true,false⟩:RegV)]),by rw [hfin.chk],hw.b0,hw.ents (Bg.le.refl _) (by show Pick _ (cellE b3 [.slice pn (rs ++ [(⟨978944,z4,some ⟨b42,0,none⟩,4096,true,false⟩:RegV)]).length cn,.map (some b2)] 102 :: mapE b2 u8V [] :: rowE (.slice pn (rs ++ [(⟨978944,z4,some ⟨b42,0,none⟩,4096,true,false⟩:RegV)]).length cn) 107 du (rs ++ [(⟨978944,z4,some ⟨b42,0,none⟩,4096,true,false⟩:RegV)]) :: iz 5 (rs ++ [(⟨978944,z4,some ⟨b42,0,none⟩,4096,true,false⟩:RegV)])); rw [jV]; exact .cons (by repeat constructor) (.cons (by repeat constructor) (.cons (by repeat constructor) (.cons (by repeat constructor) (by repeat (first|exact Pick.refl _|apply Pick.skip)))))),hfin⟩
theorem NM (l:List SecV) (V:Value) (w:World) (hV:Sl (hp w) cD l V) (hB:SecB l) (hN:∀ s∈l,s.name.size≤140737488351232) (hD:DataIn (hp w) l) (h:cF l=0):Calls Tryz.prog 14 #[V] w (fun e w'=>∃ j:Nat × Nat × Value × List RegV,e=.returned (.tuple #[.pointer (some ⟨j.1,0,none⟩),.int .i64 0])∧Ext w w'∧NewEnts w w' (cellE j.1 [j.2.2.1,.map (some j.2.1)] 102 :: mapE j.2.1 u8V [] :: rowE j.2.2.1 107 du j.2.2.2 :: iz 5 j.2.2.2)∧MemOK l j.2.2.2):=by
 refine (D1 l V w hV hB hN hD).mono fun e w' ⟨i,h1,h2,h3,h4⟩=>?_
 rcases i with _|j
 ·exact absurd h h4
 rw [h] at h1
 exact ⟨j,h1,h2,h3,h4⟩
theorem NN (l:List SecV) (V:Value) (w:World) (hV:Sl (hp w) cD l V) (hB:SecB l) (hN:∀ s∈l,s.name.size≤140737488351232) (hD:DataIn (hp w) l) (h:cF l≠0):Cr Tryz.prog 14 #[V] w (.tuple #[.pointer none,.int .i64 (cF l)]):=by
 refine (D1 l V w hV hB hN hD).mono fun e w' ⟨i,h1,h2,h3,h4⟩=>?_
 rcases i with _|j
 ·exact ⟨h1,h2⟩
 exact absurd h4.chk h
end Go.Proofs.YtiajjbhcpeadfaaGreat
namespace Go.Proofs.YtiajjbhcpeadfaaGreat
open Go Go.HL Go.RowKit
theorem ny (bM bm:Nat) (VR:Value) (rs:List RegV) (l:List SecV) (a:UInt32) (n:Int) (x:UInt32) (wl:WL) (w:World) (ho:OwnAt w [mapE bm u8V wl]) (hM:MemAt (Bg.lessB w [bm] 0).blk bM bm VR rs) (hO:MemOK l rs) :
  Calls Tryz.prog 55 #[.pointer (some ⟨bM,0,none⟩),.int .u32 a.toNat,.int .i64 n,.int .u32 x.toNat] w (fun e w'=>∃ wl':WL,e=.returned (.int .i64 (dD l (dZ wl) a n x).2)∧Upd 0 w w' (aT [mapE bm u8V wl]) [mapE bm u8V wl']∧(dZ wl'=(dD l (dZ wl) a n x).1∧wl'.length≤wl.length+4)):=by
 have hC':=hM.cells
 refine iW (L:=[mapE bm u8V wl]) ho rfl (Nat.zero_le _) Tryz.func55 rfl Tryz.ntmps55 rfl (zR9 ?_)
 refine zz0 (ac rfl sV (fun w hw=>sJ bM bm VR w (hC'.mono hw.bg))) (zR3 ?_)
 refine dw rfl ?_ ?_ <;> intro h1 <;> try simp only [bs] at h1
 ·first|contradiction|(exfalso; omega)|simp_all
 refine zR6 ?_
 refine zz0 (ac rfl Tryz.call49 (fun w hw=>yn n w)) (zR3 ?_)
 refine af rfl (fun h2=>?_) (fun h2=>?_)
 ·refine zR7 ?_
  exact ah nf rfl fun w' hw=>⟨wl,by rw [Hj (by assumption)],hw.upd (Bg.le.refl _) (by repeat' constructor),by rw [Hj (by assumption)],by omega⟩
 refine zR3 ?_
 have hw0:¬ qF n=false:=by simp_all
 have hwr:=Db (show qF n=true by simpa using hw0)
 refine zR4 ?_
 refine zz0 (ac rfl Tryz.call50 (fun w hw=>wc bM bm VR rs l a n w (hM.mono hw.bg) hO (by omega))) (zR3 ?_)
 refine bS dm rfl (fun b3=>?_)
 refine ad du rfl rfl cM ?_
 change Tr _ _ (cellE b3 (du.enc (Ga l rs a n)) 107 :: _) _ _
 refine df ?_
 refine af rfl (fun h4=>?_) (fun h4=>?_)
 ·refine zR8 ?_
  refine ah nf rfl (fun w' hw=>?_)
  have hq:fg l a<n:=by
   rcases Int.lt_or_le (fg l a) n with q|q
   ·exact q
   ·exfalso
    have e:mz l a n=0:=by unfold mz; rw [if_neg (by omega)]
    exact absurd e (by assumption)
  exact ⟨wl,by rw [Hi hw0 hq,show mz l a n=11 by unfold mz; rw [if_pos hq]]; rfl,hw.upd (Bg.le.refl _) (by repeat' constructor),by rw [Hi hw0 hq],by omega⟩
 refine zR4 ?_
 have hq:¬ fg l a<n:=by
  intro q
  have e:mz l a n=11:=by unfold mz; rw [if_pos q]
  omega
 obtain ⟨hf,hmr,_,hg1,hg2,hg3⟩:=hO.mapd_ok (by omega) hq
 rw [hmr]
 have hwr8:=(hO.rights hf).1
 refine zR7 ?_
 refine af rfl (fun h5=>?_) (fun h5=>?_)
 ·refine zR7 ?_
  refine ah nf rfl (fun w' hw=>?_)
  have h3:wrA l a=false:=by rw [← hwr8]; simp_all
  exact ⟨wl,by rw [Hh hw0 hq h3],hw.upd (Bg.le.refl _) (by repeat' constructor),by rw [Hh hw0 hq h3],by omega⟩
 refine df ?_
 refine ed (.of (ι:=Nat) (fun k=>k≤n.toNat) (fun _=>(Bg.lessB w [bm] 0)) (fun k=>[mapE bm u8V (DR wl a x k),cellE b3 (du.enc (dS rs a)) 107]) (fun k=>[(33,.int .i64 (k:Nat))]) (fun k=>n.toNat - k)) 0 (Nat.zero_le _) (Front.c Front.nil) (fun k hi m hm=>zR6 ?_)
 refine af rfl (fun h6=>?_) (fun h6=>?_)
 ·refine df ?_
  refine aL ([]) 14 rfl ak ?_
  refine zz1 0 rfl (ae rfl) ?_
  refine zz1 1 rfl (aA rfl) ?_
  refine zz1 2 rfl (aD rfl) ?_
  refine zz1 3 rfl (lh rfl ri) ?_
  refine zz1 4 rfl (ae rfl) ?_
  refine zz1 5 rfl (ae rfl) ?_
  refine zz1 6 rfl (gU rfl ax an) ?_
  refine zz1 7 rfl (gV rfl rfl) ?_
  refine zz1 8 rfl (ae rfl) ?_
  refine zz1 9 rfl (ae rfl) ?_
  refine kg 10 rfl (by kernel_rfl) (cN (aC (aC (cN (aC cw))))) (kG rfl rfl (by omega)) ?_
  refine kg 11 rfl (by kernel_rfl) (cN (aC (aC (cN (aC cw))))) (Fg rfl rfl (by omega)) ?_
  refine zz1 12 rfl (Fp rfl an aU) ?_
  refine ao 13 rfl ?_
  refine fP (kW x (8 * (k:Int)).toNat).toUInt8 rfl rfl rfl (by repeat constructor) mR an rfl ?_
  refine ay ?_
  refine dK (zR3 ?_)
  refine zz0 (aZ rfl rfl) (zR3 ?_)
  rw [show eH (DR wl a x k) (a+u32 (k:Int)) (kW x (8 * (k:Int)).toNat).toUInt8=DR wl a x (k+1) by rw [BM,show (8 * (k:Int)).toNat=8 * k by omega]; rfl]
  refine bC (k+1) (Front.c Front.nil) (zz9 19 rfl) (o:=(by show k+1≤_; omega))
 refine dy ?_
 refine ah nf rfl (fun w' hw=>?_)
 have h3:¬ wrA l a=false:=by rw [← hwr8]; simp_all
 obtain rfl:k=n.toNat:=by omega
 have hpl:=DO wl a x n.toNat
 exact ⟨_,by rw [BS hw0 hq h3],hw.upd (Bg.le.refl _) (by repeat' constructor),by rw [BS hw0 hq h3,AB],by omega⟩
theorem FV (bM bm:Nat) (VR:Value) (rs:List RegV) (l:List SecV) (a:UInt32) (wl:WL) (w:World) (hM:MemAt (hp w) bM bm VR rs) (hO:MemOK l rs) (hW:MapIn (hp w) bm u8V wl) :
  Calls Tryz.prog 168 #[.pointer (some ⟨bM,0,none⟩),.int .u32 a.toNat] w (fun e w'=>∃ V':Value,e=.returned (.tuple #[V',.int .i64 (gp l (dZ wl) a).2])∧Ext w w'∧je w w' 5 cX (gp l (dZ wl) a).1 V'):=by
 have hC':CellsIn (Bg.of w).blk bM [VR,.map (some bm)]:=hM.cells
 have hR':Sl (Bg.of w).blk du rs VR:=hM.regs
 have hM':MemAt (Bg.of w).blk bM bm VR rs:=hM
 have hrl:=hO.bounds.1
 have hW':MapIn (Bg.of w).blk bm u8V wl:=hW
 have hal:=a.toNat_lt
 refine enter Tryz.func168 rfl Tryz.ntmps168 rfl (df ?_)
 refine zz0 (ac rfl sV (fun w hw=>sJ bM bm VR w (hC'.mono hw.bg))) (zR3 ?_)
 refine dw rfl ?_ ?_ <;> intro h1 <;> try simp only [bs] at h1
 ·first|contradiction|(exfalso; omega)|simp_all
 refine zR6 ?_
 refine zz0 (ac rfl Tryz.call105 (fun w hw=>AM bM bm VR rs l a w (hM'.mono hw.bg) hO)) (zR3 ?_)
 refine bS dm rfl (fun b2=>?_)
 refine ad du rfl rfl cM ?_
 change Tr _ _ (cellE b2 (du.enc (dS rs a)) 107 :: _) _ _
 refine df ?_
 refine af rfl (fun h3=>?_) (fun h3=>?_)
 ·refine bE (aR 5 cX (zR7 ?_))
  refine bV pD rfl rfl (fun w' hw=>?_)
  have hnr:qg l a=true:=(hO.none (by simp_all)).1
  exact ⟨_,by rw [HQ hnr],hw.b0,by rw [HQ hnr]; exact hw.new (.head _)⟩
 refine zR4 ?_
 have hf:¬ jA rs a<0:=by simp_all
 obtain ⟨_,hnr,_,hg1,hg2⟩:=hO.reg hf
 have hg3:=hO.top hf
 have hex:=(hO.rights hf).2
 refine aP (zz0 (aD rfl) (zz0 (eQ (vs:=[.bool (dS rs a).wr,.bool (dS rs a).ex]) rfl (by repeat constructor) Tryz.isAgg105 Tryz.sizeOf105 rfl rfl) ?_))
 refine zz0 (aK (vs:=[]) rfl rfl (C7)) ?_
 refine zz0 (xx (p:=⟨(dS rs a).wr,(dS rs a).ex⟩) (q:=⟨false,false⟩) rfl rfl DC j4 (uT _ j4) rfl wH zH) (zz0 (ae rfl) ?_)
 apply cE 5 23 28 (fun hF4 hF4'=>?_) ?_; rotate_right
 ·refine zz5 hF4 (aD rfl) (zz5 hF4 (eQ (vs:=[.bool (dS rs a).wr,.bool (dS rs a).ex]) rfl (by repeat constructor) Tryz.isAgg105 Tryz.sizeOf105 rfl rfl) ?_)
  refine zz5 hF4 (aK (vs:=[(0,_)]) rfl rfl (zI _)) ?_
  refine zz5 hF4 (xx (p:=⟨(dS rs a).wr,(dS rs a).ex⟩) (q:=⟨true,false⟩) rfl rfl DC j4 (uT _ j4) rfl wH zH) ?_
  exact zE
 refine zR2 ?_
 refine af rfl (fun h5=>?_) (fun h5=>?_)
 ·refine bE (aR 5 cX (zR7 ?_))
  refine bV pD rfl rfl (fun w' hw=>?_)
  have hx:exA l a=false:=by rw [← hex]; simp_all; grind
  exact ⟨_,by rw [HO (by simp [hnr]) hx],hw.b0,by rw [HO (by simp [hnr]) hx]; exact hw.new (.head _)⟩
 refine zR7 ?_
 refine dj rfl Tryz.call51 (fun w hw=>(by have q:=AI bM bm VR (dS rs a) a 6 wl w (hC'.mono hw.bg) (hW'.mono hw.bg) (hw.slF (hM'.fnd a)) (by omega) (by omega) (by omega) (by omega); exact q)) rfl (fun V6=>?_)
 refine fD (l':=(gJ l (dZ wl) a (min 6 (fg l a)).toNat)) (hO.pres6 hf) (zR5 ?_)
 refine bV pD rfl rfl (fun w' hw=>?_)
 have hx:¬ exA l a=false:=by rw [← hex]; simp_all; grind
 exact ⟨_,by rw [HN (by simp [hnr]) hx],hw.b0,by rw [HN (by simp [hnr]) hx]; exact hw.new (.head _)⟩
theorem JC (l:List RegV) (V:Value) (w:World) (hV:Sl (hp w) du l V) (hb:l.length≤1000000) :
  Calls Tryz.prog 114 #[V] w (fun e w'=>∃ V',e=.returned V'∧Ext w w'∧je w w' 107 du (l) V'):=by
 have hV':Sl (Bg.of w).blk du l V:=hV
 refine enter Tryz.func114 rfl Tryz.ntmps114 rfl (zR9 ?_)
 refine zz0 (rE rfl (by assumption) cB) (zR2 ?_)
 refine af rfl (fun h1=>?_) (fun h1=>?_)
 ·refine zR7 ?_
  exact ah Tryz.results114 rfl fun w' hw=>⟨_,rfl,hw.b0,eS (hV.isNil h1)⟩
 refine oH (xq du cB cM rfl (fun V2=>zz0 (ae rfl) ?_))
 refine Fy rfl rfl (by repeat constructor) (fun w hw=>hw.slF (by assumption)) cB jS (fun V3=>?_)
 refine zR4 ?_
 exact ah Tryz.results114 rfl fun w' hw=>⟨_,rfl,hw.b0,hw.new (.head _)⟩
theorem Lf (bM bm:Nat) (VR:Value) (rs:List RegV) (wl:WL) (w:World) (hM:MemAt (hp w) bM bm VR rs) (hW:MapIn (hp w) bm u8V wl) (hr:rs.length≤100) :
  Calls Tryz.prog 54 #[.pointer (some ⟨bM,0,none⟩)] w (fun e w'=>∃ i:Nat × Nat × Value,e=.returned (.pointer (some ⟨i.1,0,none⟩))∧Ext w w'∧NewEnts w w' [cellE i.1 [i.2.2,.map (some i.2.1)] 102,mapE i.2.1 u8V wl,rowE i.2.2 107 du rs]∧True):=by
 have hC':CellsIn (Bg.of w).blk bM [VR,.map (some bm)]:=hM.cells
 have hR':Sl (Bg.of w).blk du rs VR:=hM.regs
 have hW':MapIn (Bg.of w).blk bm u8V wl:=hW
 refine enter Tryz.func54 rfl Tryz.ntmps54 rfl (zR9 ?_)
 refine zz0 (ac rfl sV (fun w hw=>sJ bM bm VR w (hC'.mono hw.bg))) (zR3 ?_)
 refine dw rfl ?_ ?_ <;> intro h1 <;> try simp only [bs] at h1
 ·first|contradiction|(exfalso; omega)|simp_all
 refine zR3 ?_
 refine aL ([]) 13 rfl ak ?_
 refine zz1 0 rfl (ae rfl) ?_
 refine zz1 1 rfl (aA rfl) ?_
 refine zz1 2 rfl (aD rfl) ?_
 refine zz1 3 rfl (lh rfl Tryz.isAgg100) ?_
 refine zz1 5 rfl (ae rfl) ?_
 refine zz1 6 rfl (aA rfl) ?_
 refine zz1 7 rfl (aD rfl) ?_
 refine zz1 8 rfl (lh rfl ri) ?_
 refine ao 4 rfl ?_
 refine dj rfl Tryz.call114 (fun w hw=>JC rs VR w (hw.slF hR') (by omega)) rfl (fun V40=>?_)
 refine fq (V:=V40) (fun pr cr hpv=>?_)
 subst hpv
 refine ay ?_
 refine ao 9 rfl ?_
 refine il (fun b':Nat=>.map (some b')) (fun b'=>[mapE b' u8V wl]) (ok:=fun _=>True) rfl Tryz.call115 (fun w hw=>FY bm wl w (hW'.mono hw.bg)) rfl (fun bn _=>?_)
 refine ay ?_
 refine zz1 10 rfl (lG (vs:=[(0,_),(1,_)]) (cs:=#[.slice pr rs.length cr,.map (some bn)]) rfl rfl) ?_
 refine ao 11 rfl ?_
 refine cm rfl rfl (fun b2=>?_)
 refine ay ?_
 refine zz1 12 rfl (bh rfl) ?_
 refine dK (zR2 ?_)
 exact ah Tryz.results54 rfl fun w' hw=>⟨(_,_,_),rfl,hw.b0,hw.ents (Bg.le.refl _) (by repeat' constructor),trivial⟩
end Go.Proofs.YtiajjbhcpeadfaaGreat
namespace Go.Proofs.YtiajjbhcpeadfaaGreat
open Go Go.HL Go.RowKit
theorem BG (a:UInt32) (w:World) :
  Cr Tryz.prog 305 #[.int .u32 a.toNat] w (.agg (nH.enc (NT a)).toArray):=by
 refine enter Tryz.func305 rfl Tryz.ntmps305 rfl (zR2 ?_)
 refine bS gl rfl (fun b1=>zR5 ?_)
 refine zz0 (fb (n:=0) rfl rfl) (zz0 (ae rfl) ?_)
 refine zz0 (lF (n:=2147483648) rfl rfl) ?_
 refine zz0 (iQ (n:=0) rfl rfl) ?_
 refine zz0 (aK (vs:=[(0,_),(1,_)]) rfl rfl (vT _ _)) ?_
 refine ad nH rfl rfl de ?_
 refine zR3 ?_
 refine d6 Tryz.results305 rfl k9 de (fun w' hw=>?_)
 exact ⟨by rw [BY]; rfl,hw.b0⟩
theorem Gc (a:UInt32) (w:World) :
  Cr Tryz.prog 278 #[.int .u32 a.toNat] w (.agg (nH.enc (NT a)).toArray):=by
 refine enter Tryz.func278 rfl Tryz.ntmps278 rfl (zR2 ?_)
 refine bS gl rfl (fun b1=>zR5 ?_)
 refine zz0 (ac rfl Tryz.call305 (fun w hw=>BG a w)) ?_
 refine ad nH rfl rfl de ?_
 refine zR3 ?_
 refine d6 Tryz.results278 rfl k9 de (fun w' hw=>?_)
 exact ⟨rfl,hw.b0⟩
theorem MF (a b:UInt32) (w:World) :
  Cr Tryz.prog 275 #[.int .u32 a.toNat,.int .u32 b.toNat] w (.tuple #[.int .u32 (a+b).toNat,.agg (nH.enc (PG a b)).toArray]):=by
 refine enter Tryz.func275 rfl Tryz.ntmps275 rfl (zR3 ?_)
 refine bS gl rfl (fun b1=>jz ?_)
 refine zz0 (ac rfl Tryz.call305 (fun w hw=>BG (a+b) w)) ?_
 refine bS gl rfl (fun b2=>?_)
 refine ad nH rfl rfl de ?_
 refine zR8 ?_
 refine zz4 (cs':=[_,_,_,_]) rfl rfl iu rfl ?_
 refine dy ?_
 refine zz0 (lF (n:=2147483648) rfl rfl) ?_
 refine zz0 (iQ (n:=0) rfl rfl) (zz0 (aD rfl) ?_)
 refine zz4 (cs':=[_,_,_,_]) rfl rfl iu rfl ?_
 refine zR3 ?_
 refine aL ([cellE b2 [.bool (decide (a+b=0)),.bool (iT (a+b)),.bool (decide (a+b<a)),.bool (decide ((a ^^^ (a+b)) &&& (b ^^^ (a+b)) &&& 2147483648≠0))] 122]) 4 rfl ak ?_
 refine zz1 0 rfl (ae rfl) ?_
 refine zz1 1 rfl (bU rfl) ?_
 refine zz1 2 rfl (bh rfl) ?_
 refine ao 3 rfl ?_
 refine ad nH rfl rfl de ?_
 refine ay ?_
 refine dK (zR2 ?_)
 refine zk Tryz.results275 rfl rfl (by repeat constructor) k9 de (by rfl) (fun w' hw=>?_)
 exact ⟨by rw [Qe]; rfl,hw.b0⟩
theorem Dl (a b:UInt32) (w:World) :
  Cr Tryz.prog 276 #[.int .u32 a.toNat,.int .u32 b.toNat] w (.tuple #[.int .u32 (a - b).toNat,.agg (nH.enc (tn a b)).toArray]):=by
 refine enter Tryz.func276 rfl Tryz.ntmps276 rfl (zR3 ?_)
 refine bS gl rfl (fun b1=>jz ?_)
 refine zz0 (ac rfl Tryz.call305 (fun w hw=>BG (a - b) w)) ?_
 refine bS gl rfl (fun b2=>?_)
 refine ad nH rfl rfl de ?_
 refine zR8 ?_
 refine zz4 (cs':=[_,_,_,_]) rfl rfl iu rfl ?_
 refine dy ?_
 refine zz0 (lF (n:=2147483648) rfl rfl) ?_
 refine zz0 (iQ (n:=0) rfl rfl) (zz0 (aD rfl) ?_)
 refine zz4 (cs':=[_,_,_,_]) rfl rfl iu rfl ?_
 refine zR3 ?_
 refine aL ([cellE b2 [.bool (decide (a - b=0)),.bool (iT (a - b)),.bool (decide (a<b)),.bool (decide ((a ^^^ b) &&& (a ^^^ (a - b)) &&& 2147483648≠0))] 122]) 4 rfl ak ?_
 refine zz1 0 rfl (ae rfl) ?_
 refine zz1 1 rfl (bU rfl) ?_
 refine zz1 2 rfl (bh rfl) ?_
 refine ao 3 rfl ?_
 refine ad nH rfl rfl de ?_
 refine ay ?_
 refine dK (zR2 ?_)
 refine zk Tryz.results276 rfl rfl (by repeat constructor) k9 de (by rfl) (fun w' hw=>?_)
 exact ⟨by rw [PW]; rfl,hw.b0⟩
theorem yJ (cc:Int) (f:Flg) (w:World) :
  Cr Tryz.prog 273 #[.int .i64 cc,.agg (nH.enc f).toArray] w (.bool (eT cc f)):=by
 refine enter Tryz.func273 rfl Tryz.ntmps273 rfl (zR2 ?_)
 refine cm rfl rfl (fun b1=>zR9 ?_)
 refine zz0 (Fq rfl rfl Tryz.underlying4) (wK ?_)
 apply cE 2 22 24 (fun hF2 hF2'=>?_) ?_; rotate_right
 ·exact zE
 refine zR4 ?_
 apply cj 3 28 31 (fun hT3 hT3'=>?_) ?_; rotate_right
 ·exact zE
 refine zR8 ?_
 apply cE 3 39 42 (fun hF4 hF4'=>?_) ?_; rotate_right
 ·exact zE
 refine zR4 ?_
 apply cj 4 46 50 (fun hT5 hT5'=>?_) ?_; rotate_right
 ·exact zE
 refine df ?_
 refine zz0 (aK (vs:=[(0,_),(1,_),(2,_),(3,_),(4,_),(5,_),(6,_),(7,_),(8,_),(9,_),(10,_),(11,_),(12,_),(13,_),(14,_)]) rfl rfl (im _ _ _ _ _ _ _ _ _ _ _ _ _ _ _)) ?_
 refine bS Tryz.zeroValue322 rfl (fun b6=>?_)
 refine zz7 rfl rfl Tryz.sizeOf322 ?_
 refine zR7 ?_
 apply cj 3 64 67 (fun hT7 hT7'=>?_) ?_; rotate_right
 ·exact zE
 refine zz0 (ae rfl) ?_
 apply cj 4 68 72 (fun hT8 hT8'=>?_) ?_; rotate_right
 ·have hcc:0≤cc∧cc<15:=by first|assumption|simp_all
  refine zz5 hT8 (ae rfl) (zz5 hT8 (fX rfl rfl Tryz.underlying322 iu) ?_)
  refine zz5 hT8 (eZ (v:=.bool (eT cc f)) rfl (by repeat constructor) k7 (Lr (l:=!(f.n == f.v)) (by simp_all) (by simp) (by cases f.n <;> cases f.v <;> rfl))) ?_
  exact zE
 refine zR4 ?_
 exact ah Tryz.results273 rfl fun w' hw=>⟨by by_cases hcc:0≤cc∧cc<15 <;> first|simp [hcc.1,hcc.2]|(rw [Jh hcc]; first|(simp; done)|(simp; omega)),hw.b0⟩
end Go.Proofs.YtiajjbhcpeadfaaGreat
