/- Own rules and walks, part 3. -/
import Derived.Test.YtiajjbhcpeadfaaGreatB2
set_option linter.unusedSimpArgs false
set_option linter.unusedVariables false
set_option linter.unusedSectionVars false
set_option maxRecDepth 100000
set_option maxHeartbeats 16000000
namespace Go.HL
open Go Go.Sort
open Go.Proofs (ltOf)
def q9 (p:Nat→Prop):List Nat→Prop
 | []=>True
 | x :: t=>p x∧q9 p t
theorem q9.nil {p:Nat→Prop}:q9 p []:=trivial
theorem q9.cons {p:Nat→Prop} {x:Nat} {t:List Nat} (h:p x) (k:q9 p t):q9 p (x :: t):=⟨h,k⟩
theorem q9.all {p:Nat→Prop}:∀ {l:List Nat},q9 p l→∀ i∈l,p i
 | _ :: _,h,i,hi=>by
  rcases List.mem_cons.1 hi with rfl|hi
  ·exact h.1
  ·exact q9.all h.2 i hi
section
variable {P:Program} {N:Nat} {F:Bg} {L:List Ent} {M:Fr} {ops:Array Oper} {Q:Exit→Act→World→Prop} {fuel:Nat} {listed:Array Bool}
def nh (n m:Nat):Array Bool:=(Array.range n).map fun i=>m.testBit i
structure Tr.AnyG (P:Program) (N:Nat) (F:Bg) (L:List Ent) (M:Fr) (ops:Array Oper) (Q:Exit→Act→World→Prop) (S:World→Prop) (fuel n m:Nat):Prop where
 get:Tr N F L M (wpAnyH P .any ops Q S fuel (nh n m))
structure Tr.OpG (P:Program) (N:Nat) (F:Bg) (L:List Ent) (M:Fr) (ops:Array Oper) (Q:Exit→Act→World→Prop) (S:World→Prop) (fuel n m i:Nat):Prop where
 get:Tr N F L M (fun a w=>wpOp P ops Q i (fun a' w'=>S w'∧wpAnyH P .any ops Q S fuel ((nh n m).setIfInBounds i true) a' w') a w)
theorem tX {S:World→Prop} (n:Nat) (k:Tr.AnyG P N F L M ops Q S fuel n 0) (e:listed=nh n 0:=by decide +kernel):Tr N F L M (wpAnyH P .any ops Q S fuel listed):=by
 subst e; exact k.get
theorem bI {S:World→Prop} {n:Nat} (m:Nat) (k:Tr.AnyG P N F L M ops Q S fuel n m):Tr.AnyG P N F L M ops Q S fuel n m:=k
theorem gu {S:World→Prop} {n m:Nat} (i:Nat) (k:Tr.OpG P N F L M ops Q S fuel n m i):Tr.OpG P N F L M ops Q S fuel n m i:=k
theorem iY {S:World→Prop} {n m:Nat} {o:Oper} {i:Nat} (hi:ops[i]?=some o) (h:Tr N F L M (wpList P ops (Exit.then (fun a' w'=>S w'∧wpAnyH P .any ops Q S fuel (nh n (m+2 ^ i)) a' w') Q) [o]))
  (e:(nh n m).setIfInBounds i true=nh n (m+2 ^ i):=by decide +kernel):Tr.OpG P N F L M ops Q S fuel n m i:=⟨by rw [e]; exact cU hi h⟩
theorem Pa {S:World→Prop} {n m:Nat} (rs:List Nat) (hr:Region.ready .any ops (nh n m)=rs) (h:q9 (fun i=>Tr.OpG P N F L M ops Q S fuel n m i) rs)
  (hne:rs≠[]:=by simp):Tr.AnyG P N F L M ops Q S (fuel+1) n m:=⟨Dt rs hr hne fun i hi=>(q9.all h i hi).get⟩
theorem jN {S:World→Prop} {n m:Nat} (rs:List Nat) (h:q9 (fun i=>Tr.OpG P N F L M ops Q S fuel n m i) rs) (hr:Region.ready .any ops (nh n m)=rs:=by kernel_rfl) (hne:rs≠[]:=by simp):Tr.AnyG P N F L M ops Q S (fuel+1) n m:=Pa rs hr h hne
theorem om {S:World→Prop} {n m:Nat} (hr:Region.ready .any ops (nh n m)=[]) (h:Tr N F L M (Q .normal)):Tr.AnyG P N F L M ops Q S fuel n m:=⟨Gv hr h⟩
variable {L0:List Ent} {op:Op} {ty:TypeId} {pos:String} {after:Array Edge} {d:Nat}
theorem lA {n m:Nat} (k:Tr.AnyG P N F L M ops Q (HpOK F L0) fuel n m) (hL:Pick L L0:=by repeat' (first|exact Pick.nil _|exact Del.here _|apply Pick.cons|apply Del.there)) :
  Tr N F L M (wpList P ops (Exit.then (fun a w=>HpOK F L0 w∧wpAnyH P .any ops Q (HpOK F L0) fuel (nh n m) a w) Q) []):=Gu hL k.get
theorem NI {v:Value} {n m:Nat} (i:Nat) (hi:ops[i]?=some ⟨some d,op,ty,pos,after,none⟩) (hB:takeB ops (nh n m) i=true) (hQ:∀ c a d v w,Q (.panic c) (a.put d v) w→Q (.panic c) a w)
  (h:QS P N F L0 M ⟨some d,op,ty,pos,after,none⟩ v) (k:Tr.AnyG P N F L ((d,v) :: M) ops Q (HpOK F L0) fuel n (m+2 ^ i))
  (e:(nh n m).setIfInBounds i true=nh n (m+2 ^ i):=by decide +kernel)
  (hp:mB op=true:=by rfl) (hd:Nat.ble (d+1) N=true:=by rfl) (hL:Pick L L0:=by repeat' (first|exact Pick.nil _|exact Del.here _|apply Pick.cons|apply Del.there)) :
  Tr.AnyG P N F L M ops Q (HpOK F L0) (fuel+1) n m:=⟨Gt i hi hB hQ hp h hL hd (by rw [e]; exact k.get)⟩
theorem eP {v:Value} {n m:Nat} (i:Nat) (hi:ops[i]?=some ⟨some d,op,ty,pos,after,none⟩) (h:QS P N F L0 M ⟨some d,op,ty,pos,after,none⟩ v) (k:Tr.AnyG P N F L ((d,v) :: M) ops Q (HpOK F L0) fuel n (m+2 ^ i)) (hB:takeB ops (nh n m) i=true:=by kernel_rfl) (hQ:∀ c a d v w,Q (.panic c) (a.put d v) w→Q (.panic c) a w:=by intro c a d v w h; first|(cases d<;>exact h)|cases h.1) (e:(nh n m).setIfInBounds i true=nh n (m+2 ^ i):=by decide +kernel) (hp:mB op=true:=by rfl) (hd:Nat.ble (d+1) N=true:=by rfl) (hL:Pick L L0:=by repeat' (first|exact Pick.nil _|exact Del.here _|apply Pick.cons|apply Del.there)):Tr.AnyG P N F L M ops Q (HpOK F L0) (fuel+1) n m:=NI i hi hB hQ h k e hp hd hL
end
def fE (r:RV UInt32):TabV:=⟨r.data,r.dp,r.dc⟩
theorem tw {h:Hp} {rs:List (RV UInt32)} {V:Value} (s:Sl h bX rs V):Sl h dU (rs.map fE) V:=by
 obtain ⟨⟨a,c,h1,h2,h3,h4⟩,hc⟩:=s
 refine ⟨⟨a,c,by rw [List.length_map]; exact h1,by rw [List.length_map]; exact h2,h3,fun e=>h4 (fun q=>e (by rw [q]; rfl))⟩,fun i x hx=>?_⟩
 rw [List.getElem?_map] at hx
 cases hr:rs[i]? with
 | none=>rw [hr] at hx; cases hx
 | some r =>
  rw [hr] at hx
  simp only [Option.map_some,Option.some.injEq] at hx
  subst hx
  exact hc i r hr
theorem tz {h:Hp} {rs:List (RV UInt32)} (s:RvIn aa h rs):TabIn h (rs.map fE):=fun t ht=>by
 obtain ⟨r,hr,rfl⟩:=List.mem_map.1 ht
 exact s r hr
def k9 (ins:List Ins) (ls:List (List UInt32)):List UInt32:=ls.flatMap fun t=>t.filter (inK ins)
def jR (ins:List Ins) (ents:List UInt32) (ts:List (List UInt32)):List UInt32:=fa (hZ (k9 ins (ents :: ts)))
def nU (ins:List Ins) (ls:List TabV) (k j:Nat):List UInt32:=k9 ins ((ls.map (·.data)).take k) ++ (((ls.map (·.data)).getD k []).take j).filter (inK ins)
theorem G7 (ins:List Ins) (ls:List TabV) {k:Nat} (hk:k<ls.length) {j:Nat} (hj:((ls.map (·.data)).getD k []).length≤j):nU ins ls k j=nU ins ls (k+1) 0:=by
 unfold nU k9
 rw [List.take_of_length_le hj,show (k+1:Nat)=k+1 from rfl,bN (l:=ls.map (·.data)) (k:=k) (by rw [List.length_map]; exact hk),List.flatMap_append]
 simp
 rfl
theorem JP {ins:List Ins} {ls:List TabV} {k j:Nat} (hj:j<(ls.getD k default).data.length) (h:inK ins ((ls.getD k default).data.getD j default)=true):nU ins ls k (j+1)=nU ins ls k j ++ [(ls.getD k default).data.getD j default]:=by
 have e:(ls.map (·.data)).getD k []=(ls.getD k default).data:=by
  simp only [List.getD_eq_getElem?_getD,List.getElem?_map]
  cases ls[k]?<;>rfl
 unfold nU
 rw [e,bN hj,List.filter_append,List.filter_cons,if_pos h,List.filter_nil,List.append_assoc]
theorem LK {ins:List Ins} {ls:List TabV} {k j:Nat} (hj:j<(ls.getD k default).data.length) (h:inK ins ((ls.getD k default).data.getD j default)=false):nU ins ls k (j+1)=nU ins ls k j:=by
 have e:(ls.map (·.data)).getD k []=(ls.getD k default).data:=by
  simp only [List.getD_eq_getElem?_getD,List.getElem?_map]
  cases ls[k]?<;>rfl
 unfold nU
 rw [e,bN hj,List.filter_append,List.filter_cons,if_neg (by rw [h]; simp),List.filter_nil,List.append_nil]
theorem qG (ins:List Ins):∀ {ls:List (List UInt32)} {n:Nat},(∀ t∈ls,t.length≤n)→(k9 ins ls).length≤ls.length * n
 | [],n,_=>by simp [k9]
 | t :: ls,n,h=>by
  have ih:=qG ins (ls:=ls) (n:=n) fun x hx=>h x (.tail _ hx)
  have h1:=h t (.head _)
  have h2:=List.length_filter_le (inK ins) t
  unfold k9 at *
  rw [List.flatMap_cons,List.length_append,List.length_cons,Nat.add_mul]
  omega
theorem JQ {ins:List Ins} {ls:List TabV} {k j n:Nat} (h:∀ t∈ls,t.data.length≤n) (hk:k<ls.length):(nU ins ls k j).length≤(k+1) * n:=by
 unfold nU
 rw [List.length_append]
 have h1:=qG ins (ls:=(ls.map (·.data)).take k) (n:=n) (fun t ht=>by
  obtain ⟨r,hr,rfl⟩:=List.mem_map.1 (List.mem_of_mem_take ht)
  exact h r hr)
 rw [List.length_take,List.length_map] at h1
 have h2:(((ls.map (·.data)).getD k []).take j).length≤n:=by
  rw [List.length_take]
  have e:(ls.map (·.data)).getD k []=(ls.getD k default).data:=by
   simp only [List.getD_eq_getElem?_getD,List.getElem?_map]
   cases ls[k]?<;>rfl
  rw [e]
  have:=h _ (ba (l:=ls) hk)
  omega
 have h3:=List.length_filter_le (inK ins) (((ls.map (·.data)).getD k []).take j)
 have h4:min k ls.length * n≤k * n:=Nat.mul_le_mul_right _ (Nat.min_le_left _ _)
 rw [Nat.add_mul]; omega
theorem JR (ins:List Ins) (ls:List TabV):nU ins ls ls.length 0=k9 ins (ls.map (·.data)):=by
 unfold nU
 rw [List.take_zero,List.filter_nil,List.append_nil,List.take_of_length_le (by rw [List.length_map]; exact Nat.le_refl _)]
def me (ins:List Ins):List UInt32→Int
 | []=>0
 | r :: t=>if (cg ins r 4096).2≠0 then (cg ins r 4096).2 else me ins t
theorem qc {ins:List Ins}:∀ {rts:List UInt32} {k:Nat},me ins (rts.take k)=0→k<rts.length→me ins (rts.take (k+1))=(cg ins (rts.getD k default) 4096).2
 | [],k,_,h=>by simp at h
 | r :: t,0,_,_=>by
  simp only [List.take_succ_cons,List.take_zero,me,List.getD_cons_zero]
  split
  ·rfl
  ·rename_i q; simp only [ne_eq,Decidable.not_not] at q; rw [q]
 | r :: t,k+1,h,hk=>by
  simp only [List.take_succ_cons,me] at h ⊢
  split at h
  ·rename_i q; exact absurd h q
  ·rename_i q
   rw [if_neg q,List.getD_cons_succ]
   exact qc h (by simpa using hk)
theorem zn {ins:List Ins}:∀ {rts:List UInt32} {k:Nat},me ins (rts.take k)≠0→me ins rts=me ins (rts.take k)
 | [],k,h=>by simp [me] at h
 | r :: t,0,h=>by simp [me] at h
 | r :: t,k+1,h=>by
  simp only [List.take_succ_cons,me] at h ⊢
  split
  ·rfl
  ·rename_i q
   rw [if_neg q] at h
   exact zn h
def kh (ins:List Ins) (rts:List UInt32):List (List StV):=rts.map fun r=>(cg ins r 4096).1
def AG (ins:List Ins) (a:UInt32) (b:StV × Bool) (s:List StV):StV × Bool :=
 if (eR ins s a).2=true then (if b.2=true then (gr b.1 (eR ins s a).1 8,true) else ((eR ins s a).1,true)) else b
def sg (ins:List Ins) (a:UInt32) (ss:List (List StV)):StV × Bool:=ss.foldl (AG ins a) (gx,false)
structure FndV where
 ts:List (List UInt32)
 at_:List UInt32
def kM (l:List SecV) (ins:List Ins) (ss:List (List StV)) (f:FndV) (i:Ins):FndV :=
 if ow i=true∧(sg ins i.addr ss).2=true∧(aQ l i ((sg ins i.addr ss).1.get i.a)).2=0
 then ⟨f.ts ++ [(aQ l i ((sg ins i.addr ss).1.get i.a)).1],f.at_ ++ [i.addr]⟩ else f
def oe (l:List SecV) (ins:List Ins) (ss:List (List StV)) (xs:List Ins):FndV:=xs.foldl (kM l ins ss) ⟨[],[]⟩
def vB (l:List SecV) (c:CodeP) (ts:List (List UInt32)):CodeP × FndV × Int :=
 if me (gC c.ins c.ents c.unk c.bad).kept (jR (gC c.ins c.ents c.unk c.bad).kept (gC c.ins c.ents c.unk c.bad).ents ts)≠0
 then (⟨[],[],[],[]⟩,⟨[],[]⟩,me (gC c.ins c.ents c.unk c.bad).kept (jR (gC c.ins c.ents c.unk c.bad).kept (gC c.ins c.ents c.unk c.bad).ents ts))
 else (⟨(gC c.ins c.ents c.unk c.bad).kept,(gC c.ins c.ents c.unk c.bad).ents,(gC c.ins c.ents c.unk c.bad).unk,(gC c.ins c.ents c.unk c.bad).bad⟩,
  oe l (gC c.ins c.ents c.unk c.bad).kept (kh (gC c.ins c.ents c.unk c.bad).kept (jR (gC c.ins c.ents c.unk c.bad).kept (gC c.ins c.ents c.unk c.bad).ents ts)) (gC c.ins c.ents c.unk c.bad).kept,0)
def RoundIs (l:List SecV) (es:List UInt32) (ts:List TabV) (at_:List UInt32) (o:CodeP × FndV × Int):Prop :=
 ∃ c e,WalkIs l ts at_ es c e∧if e≠0 then o=(⟨[],[],[],[]⟩,⟨[],[]⟩,e) else o=vB l c (ts.map (·.data))
theorem wa {l:List SecV} {ts:List TabV} {at_ es:List UInt32} {c:CodeP} {e:Int} (hT:nf ts) (h:WalkIs l ts at_ es c e):(c.ins.length≤totD l∧c.ents.length≤totD l)∧c.unk.length≤totD l∧c.bad.length≤es.length+totD l * 66:=by
 cases h with
 | arg h1 h2 h3=>subst h3; simp
 | chk h0 h1 h2 h3=>subst h3; simp
 | ok h0 h1 h2 h =>
  have key:∀ xs:List UInt32,xs.Pairwise (·<·)→(∀ a∈xs,(atP l a).2=true)→xs.length≤totD l:=fun xs h1 h2=>by
   rw [← um]; exact nG (rQ h1) (fun a ha=>xU (h2 a ha))
  refine ⟨⟨?_,key _ h.ents.1 (fun a ha=>((h.ents.2 a).1 ha).1.2)⟩,key _ h.unk.1 (fun a ha=>((h.unk.2 a).1 ha).1.2),?_⟩
  ·obtain ⟨ks,k1,k2,k3⟩:=h.ins
   rw [k3,List.length_map]; exact key ks k1 (fun a ha=>((k2 a).1 ha).2)
  ·have hsub:∀ a∈c.bad,a∈es ++ (yn l).flatMap (fun b=>iJ ts at_ (atP l b).1):=fun a ha=>by
    cases ((h.bad.2 a).1 ha).1 with
    | ent a q=>exact List.mem_append_left _ q
    | step b a q1 q2 q3=>exact List.mem_append_right _ (List.mem_flatMap.2 ⟨b,xU q2,q3⟩)
   have h1:=nG (rQ h.bad.1) hsub
   rw [List.length_append] at h1
   have h2:∀ xs:List UInt32,(xs.flatMap (fun b=>iJ ts at_ (atP l b).1)).length≤xs.length * 66:=by
    intro xs
    induction xs with
    | nil=>simp
    | cons x xs ih =>
     rw [List.flatMap_cons,List.length_append,List.length_cons]
     have:=rS hT at_ (atP l x).1
     omega
   have h3:=h2 (yn l)
   rw [um] at h3
   omega
theorem qu {l:List SecV} {ts:List TabV} {at_ es:List UInt32} {c:CodeP} {e:Int} (h:WalkIs l ts at_ es c e):∀ x∈c.ins,InsOK x:=by
 cases h with
 | arg h1 h2 h3=>subst h3; intro x hx; cases hx
 | chk h0 h1 h2 h3=>subst h3; intro x hx; cases hx
 | ok h0 h1 h2 h =>
  obtain ⟨ks,k1,k2,k3⟩:=h.ins
  intro x hx
  rw [k3] at hx
  obtain ⟨a,_,rfl⟩:=List.mem_map.1 hx
  exact Nv l a
theorem vN (ins:List Ins) (ents unk bad:List UInt32):((gC ins ents unk bad).kept.length≤ins.length∧(gC ins ents unk bad).ents.length≤ents.length)∧(gC ins ents unk bad).unk.length≤unk.length∧(gC ins ents unk bad).bad.length=bad.length:=by
 refine ⟨⟨?_,List.length_filter_le _ _⟩,List.length_filter_le _ _,rfl⟩
 show (mR _ _).length≤_
 rw [nj mP]
 exact Nat.le_trans (vO _) (Nat.le_trans (Nat.le_of_eq (CB (lw ents _) _)) (zt ins))
theorem EZ {ins:List Ins} {ents unk bad:List UInt32} {x:Ins} (h:x∈(gC ins ents unk bad).kept):x∈ins:=zr (PH h)
theorem De {α:Type} [DecidableEq α]:∀ l:List α,(fa l).length≤l.length
 | []=>Nat.le_refl _
 | x :: t=>by
  have:∀ (t:List α) (x:α),(lS x t).length≤t.length:=by
   intro t
   induction t with
   | nil=>intro x; simp [lS]
   | cons y t ih =>
    intro x
    unfold lS
    split
    ·have:=ih x; simp only [List.length_cons]; omega
    ·have:=ih y; simp only [List.length_cons]; omega
  have:=this t x
  simp only [fa,List.length_cons]; omega
theorem mc {l:List SecV} {ins:List Ins} {ss:List (List StV)} {f:FndV} {i:Ins} (h:ow i=false):kM l ins ss f i=f:=if_neg (fun q=>by rw [h] at q; cases q.1)
theorem sL {l:List SecV} {ins:List Ins} {ss:List (List StV)} {f:FndV} {i:Ins} {b:StV} (h:(b,false)=sg ins i.addr ss):kM l ins ss f i=f:=if_neg (fun q=>by rw [← h] at q; cases q.2.1)
theorem sM {l:List SecV} {ins:List Ins} {ss:List (List StV)} {f:FndV} {i:Ins} {b:StV} {k:Bool} (h:(b,k)=sg ins i.addr ss) (h2:(aQ l i (b.get i.a)).2≠0):kM l ins ss f i=f:=if_neg (fun q=>by rw [← h] at q; exact h2 q.2.2)
theorem sK {l:List SecV} {ins:List Ins} {ss:List (List StV)} {f:FndV} {i:Ins} {b:StV} (h1:ow i=true) (h:(b,true)=sg ins i.addr ss) (h2:(aQ l i (b.get i.a)).2=0):kM l ins ss f i=⟨f.ts ++ [(aQ l i (b.get i.a)).1],f.at_ ++ [i.addr]⟩:=by
 unfold kM; rw [← h]; exact if_pos ⟨h1,rfl,h2⟩
theorem BN {ins:List Ins} {a:UInt32} {ss:List (List StV)} {q:Nat} (hq:q<ss.length):sg ins a (ss.take (q+1))=AG ins a (sg ins a (ss.take q)) (ss.getD q default):=pY _ _ _ hq
theorem zi {l:List SecV} {ins:List Ins} {ss:List (List StV)} {xs:List Ins} {k:Nat} (hk:k<xs.length):oe l ins ss (xs.take (k+1))=kM l ins ss (oe l ins ss (xs.take k)) (xs.getD k default):=pY _ _ _ hk
def Kc (cmp:Ins→Ins→Int) (x y:Ins):Bool:=decide (cmp x y<0)
theorem Lc:WO (Kc mf) where
 irr:=fun x=>by simp [Kc,mf,zB]
 tr:=fun x y z h1 h2=>by
  simp only [Kc,decide_eq_true_eq,mf,xR,UInt32.lt_iff_toNat_lt] at *; omega
 ntr:=fun x y z h1 h2=>by
  simp only [Kc,decide_eq_false_iff_not,mf,xR,UInt32.lt_iff_toNat_lt] at *; omega
theorem vX (l:List SecV) (ins:List Ins) (ss:List (List StV)):∀ (xs:List Ins),(oe l ins ss xs).ts.length≤xs.length∧(oe l ins ss xs).at_.length≤xs.length:=by
 have key:∀ (xs:List Ins) (f:FndV),(xs.foldl (kM l ins ss) f).ts.length≤f.ts.length+xs.length∧(xs.foldl (kM l ins ss) f).at_.length≤f.at_.length+xs.length:=by
  intro xs
  induction xs with
  | nil=>intro f; simp
  | cons x xs ih =>
   intro f
   have h:=ih (kM l ins ss f x)
   have h2:(kM l ins ss f x).ts.length≤f.ts.length+1∧(kM l ins ss f x).at_.length≤f.at_.length+1:=by
    unfold kM
    split
    ·simp
    ·omega
   simp only [List.foldl_cons,List.length_cons]; omega
 intro xs
 have:=key xs ⟨[],[]⟩
 simpa [oe] using this
theorem rz {l:List SecV} {i:Ins} {x:VSet}:(aQ l i x).1.length≤64:=by
 unfold aQ
 split
 ·simp
 split
 ·simp
 split
 ·simp
 split
 ·split
  ·simp
  ·rename_i h
   exact v6 (by simpa using (fun q=>h (.inl q)))
 split
 ·simp
 ·rename_i h
  split
  ·simp
  ·rename_i out ho
   have:=ui ho
   rw [UInt32.not_le,UInt32.lt_iff_toNat_lt] at h
   have e:(64:UInt32).toNat=64:=rfl
   show out.length≤64
   omega
theorem KA (l:List SecV) (ins:List Ins) (ss:List (List StV)) (xs:List Ins):∀ t∈(oe l ins ss xs).ts,t.length≤64:=by
 have key:∀ (xs:List Ins) (f:FndV),(∀ t∈f.ts,t.length≤64)→∀ t∈(xs.foldl (kM l ins ss) f).ts,t.length≤64:=by
  intro xs
  induction xs with
  | nil=>intro f h; exact h
  | cons x xs ih =>
   intro f h
   refine ih _ ?_
   unfold kM
   split
   ·intro t ht
    rcases List.mem_append.1 ht with ht|ht
    ·exact h t ht
    ·rw [List.mem_singleton.1 ht]; exact rz
   ·exact h
 exact key xs ⟨[],[]⟩ (fun t ht=>by cases ht)
theorem yw {l:List SecV} {c:CodeP} {ts:List (List UInt32)} {R:ResV} (hR:R=gC c.ins c.ents c.unk c.bad) (h:me R.kept (jR R.kept R.ents ts)≠0):vB l c ts=(⟨[],[],[],[]⟩,⟨[],[]⟩,me R.kept (jR R.kept R.ents ts)):=by
 subst hR; exact if_pos h
theorem A2 {l:List SecV} {c:CodeP} {ts:List (List UInt32)} {R:ResV} (hR:R=gC c.ins c.ents c.unk c.bad) (h:me R.kept (jR R.kept R.ents ts)=0):vB l c ts=(⟨R.kept,R.ents,R.unk,R.bad⟩,oe l R.kept (kh R.kept (jR R.kept R.ents ts)) R.kept,0):=by
 subst hR; exact if_neg (fun q=>q h)
theorem wB {ins:List Ins} {rts:List UInt32} {k:Nat} (hk:k<rts.length):kh ins (rts.take (k+1))=kh ins (rts.take k) ++ [(cg ins (rts.getD k default) 4096).1]:=by
 unfold kh; rw [bN hk,List.map_append]; rfl
theorem A3 {ins:List Ins} {ents:List UInt32} {ts:List (List UInt32)} (h1:ents.length≤700) (h2:∀ t∈ts,t.length≤700) (h3:ts.length≤700):(jR ins ents ts).length≤490700:=by
 have h:=qG ins (ls:=ents :: ts) (n:=700) (fun t ht=>by
  rcases List.mem_cons.1 ht with rfl|ht
  ·exact h1
  ·exact h2 t ht)
 rw [List.length_cons] at h
 have h4:=De (hZ (k9 ins (ents :: ts)))
 rw [uk] at h4
 have h5:(ts.length+1) * 700≤701 * 700:=Nat.mul_le_mul_right _ (by omega)
 unfold jR; omega
theorem zM {α:Type} {N:Nat} {F:Bg} {A:List Ent} {M:Fr} {X:Act→World→Prop} {f:α→Ent} {rs:List α} (r:α) (K:Tr N F (A ++ ((rs ++ [r]).map f ++ [])) M X):Tr N F (f r :: (A ++ (rs.map f ++ []))) M X:=by
 refine sR (L':=A ++ ((rs ++ [r]).map f ++ [])) ?_ K
 rw [List.append_nil,List.append_nil,List.map_append,← List.append_assoc]
 exact List.perm_append_comm
end Go.HL
namespace Go.HL
open Go
section
variable {P:Program} {Q:Exit→Act→World→Prop} {N:Nat} {F:Bg} {L:List Ent} {M:Fr}
theorem si {fn:Func} {R:Ending→World→Prop} {t T:TypeId} {u s r q:Tmp} {v v2 v3:Value} {b k:Nat} {cs:List Value} (hr:fn.results=#[.cell u t,.tmp s,.tmp r,.tmp q]) (hv:look M u=some (.pointer (some ⟨b,0,none⟩))) (hs:look M s=some v) (hs2:look M r=some v2) (hs3:look M q=some v3) (hm:cellE b cs T∈L)
  (hagg:∀ w,(isAgg t).run P w=.ok true w) (hz:∀ w,(sizeOf t).run P w=.ok k w) (hl:cs.length=k) (h:∀ w,HpOK F L w→R (.returned (.tuple #[.agg cs.toArray,v,v2,v3])) w) (hD:look M mk0=some undef:=by rfl) :
  Tr N F L M (bodyPost P fn R .ret):=fun a w ha hw=>⟨ha.defers0 hD,_,by
   have h1:=ha.val u _ hv
   have h2:=ha.val s _ hs
   have h3:=ha.val r _ hs2
   have h4:=ha.val q _ hs3
   rw [Array.getD_eq_getD_getElem?] at h1 h2 h3 h4
   simp [results,hr,h1,h2,h3,h4,asAddr,mT (hw.ent _ hm) hagg hz hl],h w hw⟩
theorem HpOK.rvs {α:Type} {T:TypeId} {E:Enc α} {rs:List (RV α)} {w:World} (h:HpOK F L w) (hm:∀ r∈rs,rvE T E r∈L):RvIn E (HL.hp w) rs:=fun r hr=>rowE.sl (h.ent _ (hm r hr))
end
theorem Pick.left:∀ (A B:List Ent),Pick (A ++ B) A
 | [],B=>.nil _
 | a :: A,B=>.cons (.here _) (Pick.left A B)
theorem zL {A B C:List Ent} {N:Nat} {F:Bg} {M:Fr} {X:Act→World→Prop} (K:Tr N F (A ++ (C ++ (B ++ []))) M X):Tr N F (A ++ (B ++ C)) M X:=by
 refine sR (L':=A ++ (C ++ (B ++ []))) ?_ K
 rw [List.append_nil]
 exact List.perm_append_comm.append_left _
theorem js (rs:List (RV UInt32)):(rs.map fE).map (·.data)=rs.map (·.data):=by rw [List.map_map]; rfl
theorem Ix {rs:List (RV UInt32)} {L:List (List UInt32)} (h:rs.map (·.data)=L) (h1:L.length≤700) (h2:∀ t∈L,t.length≤64):nf (rs.map fE):=by
 subst h
 rw [List.length_map] at h1
 refine ⟨by rw [List.length_map]; exact h1,fun t ht=>?_⟩
 obtain ⟨r,hr,rfl⟩:=List.mem_map.1 ht
 exact h2 r.data (List.mem_map.2 ⟨r,hr,rfl⟩)
inductive Rnds (l:List SecV) (es:List UInt32):Nat→FndV→Prop
 | zero:Rnds l es 0 ⟨[],[]⟩
 | step (n:Nat) (f:FndV) (ts:List TabV) (o:CodeP × FndV × Int) (h:Rnds l es n f) (ht:ts.map (·.data)=f.ts) (hr:RoundIs l es ts f.at_ o) (h0:o.2.2=0) (hn:¬ (o.2.1.at_=f.at_∧o.2.1.ts=f.ts)):Rnds l es (n+1) o.2.1
def uF:CodeP:=⟨[],[],[],[]⟩
inductive ResIs (l:List SecV) (es:List UInt32) (o:CodeP × FndV × Int):Prop
 | err (n:Nat) (f:FndV) (ts:List TabV) (o':CodeP × FndV × Int) (h:Rnds l es n f) (hn:n<16) (ht:ts.map (·.data)=f.ts) (hr:RoundIs l es ts f.at_ o') (h0:o'.2.2≠0) (ho:o=(uF,⟨[],[]⟩,o'.2.2)):ResIs l es o
 | ok (n:Nat) (f:FndV) (ts:List TabV) (o':CodeP × FndV × Int) (h:Rnds l es n f) (hn:n<16) (ht:ts.map (·.data)=f.ts) (hr:RoundIs l es ts f.at_ o') (h0:o'.2.2=0) (hs:o'.2.1.at_=f.at_∧o'.2.1.ts=f.ts) (ho:o=o'):ResIs l es o
 | out (f:FndV) (h:Rnds l es 16 f) (ho:o=(uF,⟨[],[]⟩,15)):ResIs l es o
theorem RoundIs.tabs {l:List SecV} {es:List UInt32} {ts:List TabV} {at_:List UInt32} {o:CodeP × FndV × Int} (hT:nf ts) (h:RoundIs l es ts at_ o):(o.2.1.ts.length≤totD l∧o.2.1.at_.length≤totD l)∧∀ t∈o.2.1.ts,t.length≤64:=by
 obtain ⟨c,e,hw,hi⟩:=h
 split at hi
 ·subst hi; exact ⟨⟨Nat.zero_le _,Nat.zero_le _⟩,fun t ht=>by cases ht⟩
 ·subst hi
  unfold vB
  split
  ·exact ⟨⟨Nat.zero_le _,Nat.zero_le _⟩,fun t ht=>by cases ht⟩
  ·have h1:=(wa hT hw).1.1
   have h2:=(vN c.ins c.ents c.unk c.bad).1.1
   have h3:=vX l (gC c.ins c.ents c.unk c.bad).kept (kh (gC c.ins c.ents c.unk c.bad).kept (jR (gC c.ins c.ents c.unk c.bad).kept (gC c.ins c.ents c.unk c.bad).ents (ts.map (·.data)))) (gC c.ins c.ents c.unk c.bad).kept
   exact ⟨⟨Nat.le_trans h3.1 (Nat.le_trans h2 h1),Nat.le_trans h3.2 (Nat.le_trans h2 h1)⟩,KA _ _ _ _⟩
end Go.HL
namespace Go.HL
open Go Go.Sort
open Go.Proofs (ltOf)
def Hw (x:UInt32):List UInt32→List UInt32
 | []=>[x]
 | y :: t=>if x≤y then x :: y :: t else y :: Hw x t
def CW:List UInt32→List UInt32
 | []=>[]
 | x :: t=>Hw x (CW t)
theorem vR (x:UInt32):∀ l,(Hw x l).Perm (x :: l)
 | []=>.refl _
 | y :: t=>by
  unfold Hw
  split
  ·exact .refl _
  ·exact ((vR x t).cons y).trans (.swap x y t)
theorem wR (x:UInt32):∀ l:List UInt32,l.Pairwise (fun a b=>a≤b)→(Hw x l).Pairwise (fun a b=>a≤b)
 | [],_=>by simp [Hw]
 | y :: t,h=>by
  unfold Hw
  rw [List.pairwise_cons] at h
  split
  ·rename_i q
   rw [List.pairwise_cons]
   refine ⟨fun z hz=>?_,List.pairwise_cons.2 h⟩
   rcases List.mem_cons.1 hz with rfl|hz
   ·exact q
   ·have:=h.1 z hz
    rw [UInt32.le_iff_toNat_le] at *; omega
  ·rename_i q
   rw [List.pairwise_cons]
   refine ⟨fun z hz=>?_,wR x t h.2⟩
   rcases List.mem_cons.1 ((vR x t).mem_iff.1 hz) with rfl|hz
   ·rw [UInt32.le_iff_toNat_le] at *; omega
   ·exact h.1 z hz
theorem pU:∀ l,hZ l=CW l:=by
 have h1:∀ l,(CW l).Perm l:=by
  intro l
  induction l with
  | nil=>exact .refl _
  | cons x t ih=>exact (vR x _).trans (ih.cons x)
 have h2:∀ l,(CW l).Pairwise (fun a b=>a≤b):=by
  intro l
  induction l with
  | nil=>exact .nil
  | cons x t ih=>exact wR x _ ih
 exact fun l=>vw ((nD l).trans (h1 l).symm) (mQ l) (h2 l)
def Ch (es:List UInt32):DSt:=⟨[],[],iI [] es,[],es⟩
def Pm (l:List SecV) (ts:List TabV) (at_:List UInt32) (s:DSt) (a:UInt32) (r:List UInt32):DSt :=
 if ((du s.ins a).isSome || (du s.bad a).getD false)=true then ⟨s.ins,s.bad,s.ents,s.unk,r⟩
 else if (atP l a).2=true then stepD l ts at_ a s r else ⟨s.ins,fG s.bad a true,s.ents,s.unk,r⟩
def yj (l:List SecV) (ts:List TabV) (at_:List UInt32):Nat→DSt→DSt
 | 0,s=>s
 | n+1,s=>match s.rest with
  | []=>s
  | x :: t=>yj l ts at_ n (Pm l ts at_ s ((x :: t).getLast (by simp)) (x :: t).dropLast)
theorem AN {l:List SecV} {ts:List TabV} {at_ es:List UInt32} (hT:nf ts):∀ (n:Nat) (s:DSt),DInv l ts at_ es s→DInv l ts at_ es (yj l ts at_ n s)
 | 0,s,h=>h
 | n+1,s,h=>by
  unfold yj
  split
  ·exact h
  ·rename_i x t hr
   refine AN hT n _ ?_
   have hr':s.rest=(x :: t).dropLast ++ [(x :: t).getLast (by simp)]:=by rw [hr,List.dropLast_concat_getLast]
   unfold Pm
   split
   ·rename_i q
    rw [Bool.or_eq_true] at q
    exact h.skip hr' (Ef q)
   ·rename_i q
    rw [Bool.not_eq_true,Bool.or_eq_false_iff] at q
    split
    ·rename_i q2
     exact h.found hT hr' q2 (IA q)
    ·rename_i q2
     exact h.isBad hr' (by simpa using q2)
def Ni (s:DSt):CodeP:=⟨(CW (s.ins.map (·.1))).map fun a=>(du s.ins a).getD bh,(CW (s.ents.map (·.1))).filter fun a=>(du s.ins a).isSome,CW (s.unk.map (·.1)),CW (s.bad.map (·.1))⟩
theorem Ju {l:List SecV} {ts:List TabV} {at_ es:List UInt32} {c:CodeP} {e:Int} (hT:nf ts) (h:WalkIs l ts at_ es c e) (hl:ts.length=at_.length) (hc:fV l=0) {n:Nat} (hr:(yj l ts at_ n (Ch es)).rest=[]) :
  c=Ni (yj l ts at_ n (Ch es))∧e=0:=by
 have hi:=AN hT n _ (DInv.begin (l:=l) (ts:=ts) (at_:=at_) (es:=es))
 have hk:=hi.code hr
 cases h with
 | arg h=>exact absurd hl h
 | chk h h1=>exact absurd hc h1
 | ok h h1 he hcc =>
  refine ⟨(hcc.eq hk (fun a=>Iff.rfl) (fun a=>Iff.rfl)).trans ?_,he⟩
  unfold Ni
  rw [pU,pU,pU,pU]
  congr 1
  refine List.map_congr_left fun a ha=>?_
  have hm:a∈(yj l ts at_ n (Ch es)).ins.map (·.1):=by
   rw [← pU,mW] at ha; exact ha
  obtain ⟨x,hx⟩:=qL hm
  rw [hx,(hi.ins a x hx).2.2]; rfl
def apartB:List Ins→Bool
 | []=>true
 | a :: t=>(match t with
  | []=>true
  | b :: _=>decide (a.addr<b.addr) && decide (xu a≤(b.addr.toNat:Int))) && apartB t
theorem Gd:∀ l:List Ins,apartB l=true→l.Pairwise fun a b=>ltA a b=true∧xu a≤(b.addr.toNat:Int)
 | [],_=>.nil
 | [a],_=>by simp
 | a :: b :: t,h=>by
  unfold apartB at h
  simp only [Bool.and_eq_true,decide_eq_true_eq] at h
  have ih:=Gd (b :: t) h.2
  rw [List.pairwise_cons]
  refine ⟨fun z hz=>?_,ih⟩
  rcases List.mem_cons.1 hz with rfl|hz
  ·exact ⟨by simp [ltA,h.1.1],h.1.2⟩
  ·have h1:=(List.pairwise_cons.1 ih).1 z hz
   have h2:b.addr<z.addr:=by have:=h1.1; simpa [ltA] using this
   have h3:=h.1.1
   have h4:=h.1.2
   rw [UInt32.lt_iff_toNat_lt] at h2 h3
   exact ⟨by simp only [ltA,decide_eq_true_eq,UInt32.lt_iff_toNat_lt]; omega,by omega⟩
def MU (ins:List Ins):Bool:=ins.all (fun i=>decide (eN i=0)) && apartB ins
theorem MS {ins:List Ins} (h:MU ins=true) (ents unk bad:List UInt32):gC ins ents unk bad=⟨ins,ents.filter (inK ins),unk.filter (inK ins),bad,[]⟩:=by
 unfold MU at h
 rw [Bool.and_eq_true,List.all_eq_true] at h
 have hp:=Gd ins h.2
 have hs:ins.Pairwise fun a b=>ltA a b=true:=hp.imp fun q=>q.1
 have hd:=rB hs
 have hc:eZ ins=ins:=by
  rw [zp hd (fun y hy=>by simpa using h.1 y hy)]
  obtain ⟨k1,k2⟩:=uo hd
  exact uq CN yU _ _ k1 hs k2
 have hn:∀ a∈ins,∀ b∈ins,iT a b=false:=by
  have key:∀ a b:Ins,ltA a b=true→xu a≤(b.addr.toNat:Int)→iT a b=false:=by
   intro a b h1 h2
   simp only [ltA,decide_eq_true_eq,UInt32.lt_iff_toNat_lt] at h1
   unfold iT
   rw [Bool.and_eq_false_iff]; right
   rw [decide_eq_false_iff_not]
   have:(mxU a.addr b.addr).toNat=b.addr.toNat:=by
    unfold mxU
    split
    ·rfl
    ·rename_i q; rw [UInt32.lt_iff_toNat_lt] at q; omega
   rw [this]; omega
  intro a ha b hb
  obtain ⟨i,hi,rfl⟩:=List.mem_iff_getElem.1 ha
  obtain ⟨j,hj,rfl⟩:=List.mem_iff_getElem.1 hb
  rw [List.pairwise_iff_getElem] at hp
  rcases Nat.lt_trichotomy i j with q|q|q
  ·exact key _ _ (hp i j hi hj q).1 (hp i j hi hj q).2
  ·subst q; unfold iT; simp
  ·rw [FM]; exact key _ _ (hp j i hj hi q).1 (hp j i hj hi q).2
 have hr:=Og (ins:=ins) (ents:=ents) (unk:=unk) (bad:=bad) (by rw [hc]; exact hn)
 rw [hc] at hr
 have e1:(gC ins ents unk bad).ents=ents.filter (inK (gC ins ents unk bad).kept):=rfl
 have e2:(gC ins ents unk bad).unk=unk.filter (inK (gC ins ents unk bad).kept):=rfl
 have e3:(gC ins ents unk bad).bad=bad:=rfl
 rw [hr.1] at e1 e2
 generalize hR:gC ins ents unk bad=R at *
 cases R
 simp only at hr e1 e2 e3
 rw [hr.1,hr.2,e1,e2,e3]
def M7:List (List StV × Int)→Int
 | []=>0
 | x :: t=>if x.2≠0 then x.2 else M7 t
theorem IZ (ins:List Ins):∀ rts,me ins rts=M7 (rts.map fun r=>cg ins r 4096)
 | []=>rfl
 | r :: t=>by simp only [me,List.map_cons,M7,IZ ins t]
def Pt (l:List SecV) (c:CodeP) (A:List (List StV × Int)):CodeP × FndV × Int :=
 if M7 A≠0 then (⟨[],[],[],[]⟩,⟨[],[]⟩,M7 A) else (c,oe l c.ins (A.map (·.1)) c.ins,0)
def Pr (l:List SecV) (c:CodeP) (ts:List (List UInt32)):CodeP × FndV × Int :=
 Pt l c ((fa (CW (k9 c.ins (c.ents :: ts)))).map fun r=>cg c.ins r 4096)
def M5 (l:List SecV) (c:CodeP) (ts:List (List UInt32)):Option (CodeP × FndV × Int) :=
 if MU c.ins=true then some (Pr l ⟨c.ins,c.ents.filter (inK c.ins),c.unk.filter (inK c.ins),c.bad⟩ ts) else none
def evalW (l:List SecV) (s:DSt) (ts:List (List UInt32)):Option (CodeP × FndV × Int):=match s.rest with
 | []=>M5 l (Ni s) ts
 | _ :: _=>none
def tabs (ts:List (List UInt32)):List TabV:=ts.map fun d=>⟨d,none,0⟩
def vZ (l:List SecV) (es:List UInt32) (f:FndV) (n:Nat):Option (CodeP × FndV × Int) :=
 if f.ts.length=f.at_.length∧fV l=0 then evalW l (yj l (tabs f.ts) f.at_ n (Ch es)) f.ts else none
theorem M4 {l:List SecV} {c:CodeP} {ts:List (List UInt32)} {o:CodeP × FndV × Int} (h:M5 l c ts=some o):o=vB l c ts:=by
 unfold M5 at h
 split at h
 ·rename_i hf
  cases h
  unfold vB Pr Pt jR
  rw [MS hf]
  simp only [pU,IZ,kh,List.map_map]
  rfl
 ·cases h
theorem EX {ts ts':List TabV} (h:ts.map (·.data)=ts'.map (·.data)) (at_:List UInt32):eY ts at_=eY ts' at_:=by
 funext a
 have key:∀ j,(ts.getD j default).data=(ts'.getD j default).data:=fun j=>by
  have e:∀ q:List TabV,(q.getD j default).data=(q.map (·.data)).getD j []:=fun q=>by
   simp only [List.getD_eq_getElem?_getD,List.getElem?_map]
   cases q[j]?<;>rfl
  rw [e,e,h]
 unfold eY
 split
 ·rfl
 ·rw [key]
theorem wK {l:List SecV} {ts ts':List TabV} {at_ es:List UInt32} (h:eY ts at_=eY ts' at_) {a:UInt32} (r:Reach l ts at_ es a):Reach l ts' at_ es a:=by
 induction r with
 | ent a q=>exact .ent a q
 | step b a q1 q2 q3 ih=>exact .step b a ih q2 (by unfold iJ at *; rw [← h]; exact q3)
theorem yi {l:List SecV} {ts ts':List TabV} {at_ es:List UInt32} {c:CodeP} {e:Int} (h:ts.map (·.data)=ts'.map (·.data)) (hw:WalkIs l ts at_ es c e):WalkIs l ts' at_ es c e:=by
 have hk:=EX h at_
 have hl:ts.length=ts'.length:=by have:=congrArg List.length h; simpa using this
 have hR:∀ a,Reach l ts at_ es a↔Reach l ts' at_ es a:=fun a=>⟨wK hk,wK hk.symm⟩
 cases hw with
 | arg h1 h2 h3=>exact .arg (hl ▸ h1) h2 h3
 | chk h1 h2 h3 h4=>exact .chk (hl ▸ h1) h2 h3 h4
 | ok h1 h2 h3 h4 =>
  refine .ok (hl ▸ h1) h2 h3 ⟨?_,?_,?_,?_⟩
  ·obtain ⟨ks,k1,k2,k3⟩:=h4.ins
   exact ⟨ks,k1,fun a=>by rw [k2,hR],k3⟩
  ·exact ⟨h4.bad.1,fun a=>by rw [h4.bad.2,hR]⟩
  ·refine ⟨h4.ents.1,fun a=>?_⟩
   rw [h4.ents.2,hR]
   have:∀ i,eH ts at_ i=eH ts' at_ i:=fun i=>by unfold eH; rw [hk]
   simp only [hR,this]
  ·refine ⟨h4.unk.1,fun a=>?_⟩
   rw [h4.unk.2,hR]
   have:∀ i,k6 ts at_ i=k6 ts' at_ i:=fun i=>by unfold k6; rw [hk]
   simp only [this]
theorem tA {l:List SecV} {es:List UInt32} {f:FndV} {ts:List TabV} {o o2:CodeP × FndV × Int} {n:Nat} (hb:f.ts.length≤700) (hb2:∀ t∈f.ts,t.length≤64) (ht:ts.map (·.data)=f.ts) (h:RoundIs l es ts f.at_ o) (he:vZ l es f n=some o2):o=o2:=by
 have hd:ts.map (·.data)=(tabs f.ts).map (·.data):=by rw [ht]; unfold tabs; rw [List.map_map]; exact (List.map_id' _).symm
 have hT:nf (tabs f.ts):=⟨by unfold tabs; rw [List.length_map]; exact hb,fun t q=>by
  obtain ⟨d,hd,rfl⟩:=List.mem_map.1 q
  exact hb2 d hd⟩
 obtain ⟨c,e,hw,hi⟩:=h
 have hw:=yi hd hw
 unfold vZ at he
 split at he
 ·rename_i hc
  unfold evalW at he
  split at he
  ·rename_i hr
   obtain ⟨k1,k2⟩:=Ju hT hw (by unfold tabs; rw [List.length_map]; exact hc.1) hc.2 hr
   rw [if_neg (by rw [k2]; simp)] at hi
   rw [hi,M4 he,k1,ht]
  ·cases he
 ·cases he
def oR (l:List SecV) (es:List UInt32) (n:Nat):Nat→FndV→Option (CodeP × FndV × Int)
 | 0,f=>some (uF,⟨[],[]⟩,15)
 | k+1,f=>match vZ l es f n with
  | none=>none
  | some o=>if o.2.2≠0 then some (uF,⟨[],[]⟩,o.2.2) else if o.2.1.at_=f.at_∧o.2.1.ts=f.ts then some o else oR l es n k o.2.1
theorem tC {l:List SecV} {es:List UInt32} (ht:totD l≤600) {n:Nat} {f:FndV} (h:Rnds l es n f):f.ts.length≤700∧∀ t∈f.ts,t.length≤64:=by
 induction h with
 | zero=>exact ⟨Nat.zero_le _,fun t q=>by cases q⟩
 | step n f ts o h hd hr h0 hn ih =>
  have hT:nf ts:=⟨by have:=congrArg List.length hd; rw [List.length_map] at this; rw [this]; exact ih.1,fun t q=>by
   have:=ih.2 t.data (by rw [← hd]; exact List.mem_map.2 ⟨t,q,rfl⟩); exact this⟩
  have:=hr.tabs hT
  exact ⟨by omega,this.2⟩
theorem vC {l:List SecV} {es:List UInt32} (ht:totD l≤600) {n N:Nat} {f:FndV} {o:CodeP × FndV × Int} (h:Rnds l es n f):n≤16→oR l es N 16 ⟨[],[]⟩=some o→oR l es N (16 - n) f=some o:=by
 induction h with
 | zero=>exact fun _ h=>h
 | step n f ts o' h hd hr h0 hn ih =>
  intro hle he
  have ih:=ih (by omega) he
  rw [show 16 - n=16 - (n+1)+1 by omega] at ih
  unfold oR at ih
  have hs:=tC ht h
  split at ih
  ·cases ih
  ·rename_i o2 hq
   have e:=tA hs.1 hs.2 hd hr hq
   subst e
   rw [if_neg (by rw [h0]; simp),if_neg hn] at ih
   exact ih
theorem LN {l:List SecV} {es:List UInt32} (ht:totD l≤600) {N:Nat} {o o':CodeP × FndV × Int} (h:ResIs l es o) (he:oR l es N 16 ⟨[],[]⟩=some o'):o=o':=by
 cases h with
 | err n f ts o2 h hn hd hr h0 ho =>
  have k:=vC ht h (by omega) he
  have hs:=tC ht h
  rw [show 16 - n=16 - (n+1)+1 by omega] at k
  unfold oR at k
  split at k
  ·cases k
  ·rename_i o3 hq
   have e:=tA hs.1 hs.2 hd hr hq
   subst e
   rw [if_pos h0] at k
   cases k; exact ho
 | ok n f ts o2 h hn hd hr h0 hs2 ho =>
  have k:=vC ht h (by omega) he
  have hs:=tC ht h
  rw [show 16 - n=16 - (n+1)+1 by omega] at k
  unfold oR at k
  split at k
  ·cases k
  ·rename_i o3 hq
   have e:=tA hs.1 hs.2 hd hr hq
   subst e
   rw [if_neg (by rw [h0]; simp),if_pos hs2] at k
   cases k; exact ho
 | out f h ho =>
  have k:=vC ht h (Nat.le_refl _) he
  rw [show 16 - 16=0 from rfl] at k
  cases k; exact ho
end Go.HL
namespace Go.HL
open Go
def AH (n:Nat):List UInt8:=[160,1,58,1,u8 (n:Int),104,u8 ((n:Int)+6),131,1,0,48,0,0]
def bEl (n k i:Nat):List UInt8:=[u8 (13+((i:Int)+(k:Int)) % (n:Int)),16,0,0]
def nv (n k j:Nat):List UInt8:=(List.range j).flatMap (bEl n k)
def kO (n:Nat):List UInt8:=(AH n ++ List.replicate n 1) ++ [1]
def nmC:ByteArray:=⟨#[99,111,100,101]⟩
def nmT:ByteArray:=⟨#[116,97,98,108,101]⟩
def lk (n k:Nat) (wr:Bool) (p q:Option Addr) (c d:Nat):List SecV:=[⟨nmC,4096,kO n,p,c,false,true⟩,⟨nmT,12288,nv n k n,q,d,wr,false⟩]
theorem BO (n k j:Nat):nv n k (j+1)=nv n k j ++ bEl n k j:=by unfold nv; rw [List.range_succ,List.flatMap_append]; simp
theorem vb (n k:Nat):∀ j,(nv n k j).length=4 * j
 | 0=>rfl
 | j+1=>by rw [BO,List.length_append,vb n k j]; simp [bEl]; omega
theorem BP (n:Nat):(kO n).length=14+n:=by unfold kO AH; simp; omega
theorem qY {h:Hp} {n k:Nat} {wr:Bool} {p q:Option Addr} {c d:Nat} (h1:Sl h cd (kO n) (.slice p (kO n).length c)) (h2:Sl h cd (nv n k n) (.slice q (nv n k n).length d)):DataIn h (lk n k wr p q c d):=by
 intro s hs
 rcases List.mem_cons.1 hs with rfl|hs
 ·exact h1
 ·rw [List.mem_singleton.1 hs]; exact h2
theorem tV {n k:Nat} {wr:Bool} {p q:Option Addr} {c d:Nat} (hn:n≤200):SecB (lk n k wr p q c d):=by
 refine ⟨by simp [lk],fun s hs=>?_⟩
 rcases List.mem_cons.1 hs with rfl|hs
 ·have:=BP n; simp only; omega
 ·rw [List.mem_singleton.1 hs]; have:=vb n k n; simp only; omega
theorem qX {n k:Nat} {wr:Bool} {p q:Option Addr} {c d:Nat}:∀ s∈lk n k wr p q c d,s.name.size≤140737488351232:=by
 intro s hs
 rcases List.mem_cons.1 hs with rfl|hs
 ·show nmC.size≤_; decide
 ·rw [List.mem_singleton.1 hs]; show nmT.size≤_; decide
theorem FZ {n k:Nat} {wr:Bool} {p q:Option Addr} {c d:Nat} (hn:n≤100):totD (lk n k wr p q c d)≤600:=by
 have h1:=BP n; have h2:=vb n k n
 simp only [totD,lk,List.map_cons,List.map_nil,List.sum_cons,List.sum_nil]
 omega
def QA:List Ins:=[⟨4096,0,26,0,0,0,1,0,2⟩,⟨4098,3,15,1,0,0,1,0,3⟩,⟨4101,4112,20,1,0,8,0,0,2⟩,⟨4103,12288,22,0,0,0,1,0,6⟩]
def hlt (a:UInt32):Ins:=⟨a,0,1,0,0,0,0,0,1⟩
def Pq:CodeP:=⟨QA ++ [hlt 4109,hlt 4110,hlt 4111,hlt 4112],[4096],[],[]⟩
theorem M3 (p q:Option Addr) (c d:Nat):oR (lk 3 0 false p q c d) [4096] 3000 16 ⟨[],[]⟩=some (Pq,⟨[[4109,4110,4111]],[4103]⟩,0):=by kernel_rfl
theorem PX {p q:Option Addr} {c d:Nat} {o:CodeP × FndV × Int} (h:ResIs (lk 3 0 false p q c d) [4096] o):o=(Pq,⟨[[4109,4110,4111]],[4103]⟩,0):=LN (FZ (by omega)) h (M3 p q c d)
def exX:VSet:=bS 1 3 2
def M1:Ins:=⟨0,12288,22,0,0,0,1,0,0⟩
def MZ:Ins:=⟨0,0,21,0,0,0,2,0,0⟩
theorem OO (p q:Option Addr) (c d:Nat):aQ (lk 4 0 false p q c d) M1 exX=([4110,4110,4110,4112],0):=by kernel_rfl
theorem ON (p q:Option Addr) (c d:Nat):aQ (lk 4 0 true p q c d) M1 exX=([],19):=by kernel_rfl
theorem OM (p q:Option Addr) (c d:Nat):aQ (lk 4 0 false p q c d) MZ (fH 4112)=([4112],0):=by kernel_rfl
theorem OL (p q:Option Addr) (c d:Nat):aQ (lk 4 0 false p q c d) MZ iL=([],19):=by kernel_rfl
theorem OQ (p q:Option Addr) (c d:Nat):vQ (lk 4 0 false p q c d) 12288 4=true:=by kernel_rfl
theorem OP (p q:Option Addr) (c d:Nat):vQ (lk 4 0 false p q c d) 12288 5=false:=by kernel_rfl
theorem PN {α:Type} {rs:List (RV α)} {x:List α} (h:rs.map (·.data)=[x]):∃ p c,rs=[⟨x,p,c⟩]:=by
 cases rs with
 | nil=>cases h
 | cons r t =>
  cases t with
  | nil =>
   obtain ⟨d,p,c⟩:=r
   simp only [List.map_cons,List.map_nil,List.cons.injEq,and_true] at h
   subst h
   exact ⟨p,c,rfl⟩
  | cons _ _=>simp at h
def OK:StV:=gx.set 1 exX
def Qy:StV:=OK.set 2 (fH 4112)
def QN:StV:=Qy.set 2 iL
theorem IX:InsOK M1:=by constructor<;>(unfold I64; decide)
theorem IW:InsOK MZ:=by constructor<;>(unfold I64; decide)
def pg (l:List SecV):Nat→Int
 | 0=>0
 | k+1=>pg l k+min ((l.getD k default).data.length:Int) 600
theorem AS (l:List SecV) (k:Nat):∀ n,pg l k≤pg l (k+n)
 | 0=>Int.le_refl _
 | n+1=>by
  have:=AS l k n
  show pg l k≤pg l (k+n)+min ((l.getD (k+n) default).data.length:Int) 600
  omega
theorem Cf {l:List SecV} {k n:Nat} (h:k≤n):pg l k≤pg l n:=by
 have:=AS l k (n - k)
 rw [show k+(n - k)=n by omega] at this; exact this
def yr (l:List SecV):Bool:=decide ((l.length:Int)<20) && decide (pg l l.length<600)
structure Sm16 (l:List SecV):Prop where
 secB:SecB l
 tot:totD l≤600
theorem D1 {l:List SecV}:∀ {k:Nat},k≤l.length→pg l k<600→(totD (l.take k):Int)=pg l k
 | 0,_,_=>by simp [totD,pg]
 | k+1,hk,h=>by
  have h1:pg l (k+1)=pg l k+min ((l.getD k default).data.length:Int) 600:=rfl
  have h2:=Cf (l:=l) (Nat.zero_le k)
  have h3:pg l 0=0:=rfl
  have ih:=D1 (l:=l) (k:=k) (by omega) (by omega)
  have e:totD (l.take (k+1))=totD (l.take k)+(l.getD k default).data.length:=by
   rw [bN (by omega)]; unfold totD; rw [List.map_append,List.sum_append]; simp
  rw [e]; omega
theorem Iu:∀ {l:List SecV} {s:SecV},s∈l→s.data.length≤totD l
 | x :: l,s,h=>by
  have e:totD (x :: l)=x.data.length+totD l:=by simp [totD]
  rcases List.mem_cons.1 h with rfl|h
  ·omega
  ·have:=Iu h; omega
theorem Oa {l:List SecV} (h:yr l=true):Sm16 l:=by
 unfold yr at h
 simp only [Bool.and_eq_true,decide_eq_true_eq] at h
 have ht:=D1 (l:=l) (Nat.le_refl _) h.2
 rw [List.take_length] at ht
 exact ⟨⟨by omega,fun s hs=>by have:=Iu hs; omega⟩,by omega⟩
theorem A4 {l:List SecV} {a:UInt32} (h:(fF l a 4).2=0):0≤bL l a:=by
 rcases Int.lt_or_le (bL l a) 0 with q|q
 ·unfold fF at h
  rw [if_neg (by decide),if_neg (by decide),yC q] at h
  simp at h
 ·exact q
theorem OG {l:List UInt8} (h:l.length=4) :
  (((l.getD 0 default).toUInt32+jt (l.getD 1 default).toUInt32 8)+jt (l.getD 2 default).toUInt32 16)+jt (l.getD 3 default).toUInt32 24=leP l:=by
 obtain ⟨a,b,c,d,rfl⟩:∃ a b c d,l=[a,b,c,d]:=by
  match l,h with
  | [a,b,c,d],_=>exact ⟨a,b,c,d,rfl⟩
 rw [← UInt32.toNat_inj]
 have ha:=a.toNat_lt
 have hb:=b.toNat_lt
 have hc:=c.toNat_lt
 have hd:=d.toNat_lt
 simp [leP,UInt32.toNat_add,UInt32.toNat_mul,jc]
 omega
theorem La {l:List SecV} {a:UInt32} (h:((fF l a 4).2≠0∨((fF l a 4).1.length:Int)≠4)∨(l.getD (bL l a).toNat default).wr=true):mO l a=(0,false):=by
  unfold mO
  split
  · rfl
  · rename_i q
    rw [if_pos (by rcases h with h|h
                   · exact absurd (by rcases h with h|h
                                      · exact .inl h
                                      · exact .inr (by omega)) q
                   · exact .inr h)]
theorem Jr {l:List SecV} {a:UInt32} (h0:(fF l a 4).2=0) (h1:((fF l a 4).1.length:Int)=4) (h2:(l.getD (bL l a).toNat default).wr=false):mO l a=(leP (fF l a 4).1,true):=by
 have:=A4 h0
 unfold mO
 rw [if_neg (by omega),if_neg (by rw [h2]; simp; omega)]
def yl (l:List SecV) (t:UInt32) (s:VSet):List UInt32 × Int:=if 64≤s.hi then ([],19) else match qy l t s (s.hi.toNat+1) with
 | none=>([],19)
 | some out=>(out,0)
theorem Lg {s:VSet} (h:¬(s.top=true∨s.em=true)) (h2:s.hi≤s.lo):eD s=(decide (s.lo=s.hi) && decide (s.st=0)):=by
 unfold eD
 rw [if_neg h]
 split
 ·rename_i q; rw [decide_eq_true q,Bool.and_true]
 ·rename_i q
  rw [decide_eq_false q,Bool.and_false,decide_eq_false (by rw [UInt32.not_lt]; exact h2),Bool.false_and,Bool.false_and]
theorem Lf {s:VSet} (h:¬(s.top=true∨s.em=true)) (h2:s.lo<s.hi):eD s=(decide (0<s.st) && (decide ((s.hi - s.lo) % s.st=0) && (decide (s.lo≠0) || decide (s.hi≠4294967295) || decide (s.st≠1)))):=by
 unfold eD
 rw [if_neg h]
 split
 ·rename_i q
  rw [q,decide_eq_false (fun e=>by rw [e] at h2; exact absurd h2 (UInt32.lt_irrefl _)),decide_eq_false (by decide:¬(0:UInt32)<0),Bool.false_and]
 ·rename_i q
  have q0:0<s.st:=by
   rw [UInt32.lt_iff_toNat_lt]
   rcases Nat.eq_zero_or_pos s.st.toNat with e|e
   ·exact absurd (UInt32.toNat_inj.1 e) q
   ·exact e
  have e1:decide (0<s.lo)=decide (s.lo≠0):=by
   congr 1; rw [eq_iff_iff]
   constructor
   ·intro e1 e2; rw [e2] at e1; exact absurd e1 (by decide)
   ·intro e1; rw [UInt32.lt_iff_toNat_lt]
    rcases Nat.eq_zero_or_pos s.lo.toNat with e|e
    ·exact absurd (UInt32.toNat_inj.1 e) e1
    ·exact e
  have e2:decide (s.hi<4294967295)=decide (s.hi≠4294967295):=by
   congr 1; rw [eq_iff_iff]
   constructor
   ·intro e1 e2; rw [e2] at e1; exact absurd e1 (by decide)
   ·intro e1; rw [UInt32.lt_iff_toNat_lt]
    have h3:=s.hi.toNat_lt
    have h4:s.hi.toNat≠4294967295:=fun e=>e1 (UInt32.toNat_inj.1 e)
    show s.hi.toNat<4294967295
    omega
  have e3:decide (1<s.st)=decide (s.st≠1):=by
   congr 1; rw [eq_iff_iff]
   constructor
   ·intro e1 e2; rw [e2] at e1; exact absurd e1 (by decide)
   ·intro e1; rw [UInt32.lt_iff_toNat_lt]
    rw [UInt32.lt_iff_toNat_lt] at q0
    have h4:s.st.toNat≠1:=fun e=>e1 (UInt32.toNat_inj.1 e)
    have h5:(0:UInt32).toNat=0:=rfl
    show 1<s.st.toNat
    omega
  rw [decide_eq_true h2,decide_eq_true q0,e1,e2,e3]; simp
theorem AO {s:VSet} (hv:eD s=true) (h:¬(s.top=true∨s.em=true)) (h0:s.st=0):s.lo=s.hi:=by
 unfold eD at hv
 rw [if_neg h,if_pos h0,decide_eq_true_eq] at hv; exact hv
theorem PV {s:VSet} {n:UInt32} (h:(ae s).top=true∨(ae s).em=true):qS s n=(ae s).top:=by
 unfold qS zc; rw [if_pos h]
theorem PU {s:VSet} {n:UInt32} (h:¬((ae s).top=true∨(ae s).em=true)) (h2:n<(ae s).lo∨(ae s).hi<n):qS s n=false:=by
 unfold qS zc
 rw [if_neg h]
 split
 ·rename_i q
  rw [decide_eq_false_iff_not]
  have:=AO (gZ s) h q
  rintro rfl
  rw [← this] at h2
  rcases h2 with h2|h2<;>exact absurd h2 (UInt32.lt_irrefl _)
 ·rcases h2 with h2|h2
  ·rw [decide_eq_false (by rw [UInt32.not_le]; exact h2),Bool.false_and,Bool.false_and]
  ·rw [decide_eq_false (p:=n≤_) (by rw [UInt32.not_le]; exact h2),Bool.and_false,Bool.false_and]
theorem PT {s:VSet} {n:UInt32} (h:¬((ae s).top=true∨(ae s).em=true)) (h2:(ae s).lo≤n) (h3:n≤(ae s).hi):qS s n=(decide ((ae s).st=0) || decide ((n - (ae s).lo) % (ae s).st=0)):=by
 unfold qS zc
 rw [if_neg h]
 split
 ·rename_i q
  rw [decide_eq_true q,Bool.true_or,decide_eq_true_eq]
  have:=AO (gZ s) h q
  rw [← this] at h3
  exact UInt32.le_antisymm h3 h2
 ·rename_i q
  rw [decide_eq_true h2,decide_eq_true h3,decide_eq_false q]; simp
theorem KH (s:VSet):0≤cQ s∧cQ s≤4294967296:=by
 unfold cQ kl
 split
 ·omega
 split
 ·omega
 split
 ·omega
 ·have:=((((ae s).hi - (ae s).lo) / (ae s).st)).toNat_lt
  omega
theorem wW (s:VSet):cQ (ae s)=cQ s:=by unfold cQ; rw [gg]
theorem D5 {l:List SecV} {i:Ins} {x:VSet} (h1:ow i=true) (h2:fV l=0) (h3:¬((eD x=false∨x.em=true)∨x.top=true)) (h4:i.op=22):aQ l i x=yl l i.imm x:=by
 unfold aQ yl
 rw [if_neg (by rw [h1]; simp),if_neg (by rw [h2]; simp),if_neg h3,if_neg (fun q=>q h4)]
 split
 ·rfl
 ·cases qy l i.imm x (x.hi.toNat+1)<;>rfl
theorem wC (L:List Ent):∀ B:List Ent,Split (B ++ L) B L
 | []=>.nil _
 | b :: B=>.cons (.here _) (wC L B)
section
variable {P:Program} {ops:Array Oper} {Q:Exit→Act→World→Prop} {N:Nat} {F:Bg} {L:List Ent} {M:Fr} {ty:TypeId} {pos:String} {after:Array Edge} {rest:List Oper} {d:Nat}
end
end Go.HL
namespace Go.HL
open Go Go.RowKit
section
variable {P:Program} {ops:Array Oper} {Q:Exit→Act→World→Prop} {N:Nat} {F:Bg} {L:List Ent} {M:Fr} {ty:TypeId} {pos:String} {after:Array Edge} {rest:List Oper} {d:Nat}
theorem zR {ι:Type} (φ:ι→Value) (B:ι→List Ent) {ok:ι→Prop} {f:FuncId} {xs:List Operand} {vs:List Value} {ts:Array TypeId} (h0:F.dr=0) (hx:l3 M xs=some vs)
  (he:∀ (args:Array Value) (w:World),(callFunc f args).run P w=.ok (.enter f args) w)
  (hc:∀ w,HpOK F L w→Calls P f vs.toArray w fun e w'=>∃ i,e=.returned (φ i)∧Below w.heap.size w w'∧NewEnts w w' (B i)∧ok i) (hd:Nat.ble (d+1) N=true)
  (K:∀ i F',ok i→F.le F'→(∀ e∈B i,e.ok (e.blk.bind F'.blk))→Tr N F' L ((d,φ i) :: M) (wpList P ops Q rest)) :
  Tr N F L M (wpList P ops Q (⟨some d,.call { callee:=.value (.func f),args:=xs.toArray,argTypes:=ts },ty,pos,after,none⟩ :: rest)) :=
 dE φ B (ok:=ok) h0 hx he hc hd (fun i hi=>Ii (wC L (B i)) (fun F' hF' hk=>K i F' hi hF' hk))
end
theorem rowE.slL {α:Type} {V:Value} {T:TypeId} {E:Enc α} {l:List α} {h:Hp} {Ls:List Ent} (k:∀ e∈Ls,e.ok (e.blk.bind h)) (hm:rowE V T E l∈Ls):Sl h E l V:=RowOK.sl (k _ hm)
theorem rvE.inL {α:Type} {T:TypeId} {E:Enc α} {rs:List (RV α)} {h:Hp} {Ls:List Ent} (k:∀ e∈Ls,e.ok (e.blk.bind h)) (hm:∀ r∈rs,rvE T E r∈Ls):RvIn E h rs:=fun r hr=>RowOK.sl (k _ (hm r hr))
theorem WalkIs.uniq {l:List SecV} {ts:List TabV} {at_ es:List UInt32} {c c':CodeP} {e e':Int} (h:WalkIs l ts at_ es c e) (h':WalkIs l ts at_ es c' e'):c=c'∧e=e':=by
 cases h with
 | arg q1 q2 q3=>cases h' with
  | arg r1 r2 r3=>exact ⟨q3.trans r3.symm,q2.trans r2.symm⟩
  | chk r0 r1 r2 r3=>exact absurd r0 q1
  | ok r0 r1 r2 r3=>exact absurd r0 q1
 | chk q0 q1 q2 q3=>cases h' with
  | arg r1 r2 r3=>exact absurd q0 r1
  | chk r0 r1 r2 r3=>exact ⟨q3.trans r3.symm,q2.trans r2.symm⟩
  | ok r0 r1 r2 r3=>exact absurd r1 q1
 | ok q0 q1 q2 q3=>cases h' with
  | arg r1 r2 r3=>exact absurd q0 r1
  | chk r0 r1 r2 r3=>exact absurd q1 r1
  | ok r0 r1 r2 r3=>exact ⟨q3.eq r3 (fun a=>Iff.rfl) (fun a=>Iff.rfl),q2.trans r2.symm⟩
end Go.HL
namespace Go.HL
open Go
def ig (lo hi st:Int):VSet :=
 if hi<lo then emptyS else if st=0 then fH (u32 lo) else if lo=lo+(hi - lo) / st * st then fH (u32 lo)
 else if (lo=0∧lo+(hi - lo) / st * st=4294967295)∧st=1 then iL else ⟨false,false,u32 lo,u32 (lo+(hi - lo) / st * st),u32 st⟩
theorem ry (x:UInt32):u32 (x.toNat:Int)=x:=by
 apply UInt32.toNat_inj.1
 have:=x.toNat_lt
 rw [show (u32 (x.toNat:Int)).toNat=x.toNat from by have:=nC (x:=(x.toNat:Int)) (by omega); omega]
theorem N6 {x:Int} {y:UInt32} (h:x=(y.toNat:Int)):u32 x=y:=by rw [h]; exact ry y
theorem g5 (lo hi st:UInt32):ig (lo.toNat:Nat) (hi.toNat:Nat) (st.toNat:Nat)=bS lo hi st:=by
 have hl:=lo.toNat_lt
 have hh:=hi.toNat_lt
 have hs:=st.toNat_lt
 unfold ig bS
 by_cases h1:hi<lo
 ·rw [if_pos h1,if_pos (by rw [UInt32.lt_iff_toNat_lt] at h1; omega)]
 rw [if_neg h1,if_neg (by rw [UInt32.lt_iff_toNat_lt] at h1; omega)]
 have hle:lo.toNat≤hi.toNat:=by rw [UInt32.lt_iff_toNat_lt] at h1; omega
 have hsub:(hi - lo).toNat=hi.toNat - lo.toNat:=UInt32.toNat_sub_of_le _ _ (by rw [UInt32.le_iff_toNat_le]; exact hle)
 by_cases h2:st=0
 ·rw [if_pos (by rw [h2]; rfl),if_pos (.inl h2),ry]
 have hs0:st.toNat≠0:=fun e=>h2 (UInt32.toNat_inj.1 e)
 rw [if_neg (show ¬ ((st.toNat:Nat):Int)=0 by omega)]
 obtain ⟨d,hd⟩:∃ d,d=hi.toNat - lo.toNat:=⟨_,rfl⟩
 obtain ⟨e,he⟩:∃ e,e=d / st.toNat * st.toNat:=⟨_,rfl⟩
 have hq:((hi.toNat:Nat) - (lo.toNat:Nat):Int) / (st.toNat:Nat) * (st.toNat:Nat)=(e:Int):=by
  rw [show ((hi.toNat:Nat):Int) - (lo.toNat:Nat)=(d:Int) by omega,he]; norm_cast
 rw [hq]
 have hdm:=Nat.div_add_mod d st.toNat
 have hml:=Nat.mod_lt d (Nat.pos_of_ne_zero hs0)
 rw [Nat.mul_comm,← he] at hdm
 have h3i:hi - lo<st↔d<st.toNat:=by rw [UInt32.lt_iff_toNat_lt,hsub,hd]
 have hmod:((hi - lo) % st).toNat=d % st.toNat:=by rw [UInt32.toNat_mod,hsub,hd]
 by_cases h3:d<st.toNat
 ·have he0:e=0:=by rw [he,Nat.div_eq_of_lt h3,Nat.zero_mul]
  rw [if_pos (show (st=0∨hi - lo<st) from .inr (h3i.2 h3)),if_pos (show ((lo.toNat:Nat):Int)=(lo.toNat:Nat)+(e:Int) by omega),ry]
 have hep:0<e:=by rw [he]; exact Nat.mul_pos (Nat.div_pos (by omega) (Nat.pos_of_ne_zero hs0)) (Nat.pos_of_ne_zero hs0)
 rw [if_neg (show ¬ (st=0∨hi - lo<st) from fun q=>q.elim h2 (fun q=>h3 (h3i.1 q))),if_neg (show ¬ ((lo.toNat:Nat):Int)=(lo.toNat:Nat)+(e:Int) by omega)]
 have hz:(4294967295:UInt32).toNat=4294967295:=rfl
 have h0:(0:UInt32).toNat=0:=rfl
 have h1':(1:UInt32).toNat=1:=rfl
 by_cases h4:lo=0∧hi=4294967295∧st=1
 ·have e1:=congrArg UInt32.toNat h4.1
  have e2:=congrArg UInt32.toNat h4.2.1
  have e3:=congrArg UInt32.toNat h4.2.2
  rw [h0] at e1; rw [hz] at e2; rw [h1'] at e3
  rw [if_pos h4,if_pos]
  have hml0:d % st.toNat=0:=by omega
  exact ⟨⟨by omega,by omega⟩,by omega⟩
 rw [if_neg h4,if_neg]
 ·have hb:(hi - (hi - lo) % st).toNat=hi.toNat - d % st.toNat:=by
   rw [UInt32.toNat_sub_of_le _ _ (by rw [UInt32.le_iff_toNat_le,hmod]; omega),hmod]
  rw [ry,ry,N6 (y:=hi - (hi - lo) % st) (by rw [hb]; omega)]
 ·rintro ⟨⟨q1,q2⟩,q3⟩
  apply h4
  have e3:st.toNat=1:=by omega
  exact ⟨UInt32.toNat_inj.1 (by omega),UInt32.toNat_inj.1 (by omega),UInt32.toNat_inj.1 (by omega)⟩
theorem wN (x:UInt32):0≤((x.toNat:Nat):Int)∧((x.toNat:Nat):Int)≤1099511627776:=by have:=x.toNat_lt; omega
theorem EM (x:UInt32):-1099511627776≤((x.toNat:Nat):Int)∧((x.toNat:Nat):Int)≤1099511627776:=by have:=x.toNat_lt; omega
theorem join_step (s x y:UInt32):iE (iE s (x - jv x y)) (y - jv x y)=iE s (jV x y - jv x y):=by
 unfold jv jV
 by_cases h:y<x
 ·rw [if_pos h,if_neg (by rw [UInt32.lt_iff_toNat_lt] at h ⊢; omega),UInt32.sub_self,uU]
 ·rw [if_neg h,UInt32.sub_self,uU]
  by_cases h2:x<y
  ·rw [if_pos h2]
  ·have:x=y:=UInt32.toNat_inj.1 (by rw [UInt32.lt_iff_toNat_lt] at h h2; omega)
   rw [if_neg h2,this]
theorem MR {a:VSet} {lo:UInt32} (h:a.lo<lo):lO a lo=((a.lo.toNat:Nat):Int)+(((lo.toNat:Nat):Int) - (a.lo.toNat:Nat)+(a.st.toNat:Nat) - 1) / ((a.st.toNat:Nat):Int) * (a.st.toNat:Nat):=by
 have hs:(lo - a.lo).toNat=lo.toNat - a.lo.toNat:=UInt32.toNat_sub_of_le _ _ (by rw [UInt32.le_iff_toNat_le]; rw [UInt32.lt_iff_toNat_lt] at h; omega)
 rw [UInt32.lt_iff_toNat_lt] at h
 unfold lO
 rw [hs,show ((lo.toNat - a.lo.toNat:Nat):Int)=((lo.toNat:Nat):Int) - (a.lo.toNat:Nat) by omega]
theorem MQ {a:VSet} (h:a.st≠0):lO a a.lo=((a.lo.toNat:Nat):Int):=by
 have hp:=rJ h
 unfold lO
 rw [UInt32.sub_self,show (((0:UInt32).toNat:Nat):Int)+(a.st.toNat:Nat) - 1=((a.st.toNat:Nat):Int) - 1 by rw [UInt32.toNat_zero]; omega,Int.ediv_eq_zero_of_lt (by omega) (by omega)]
 omega
theorem J8 {a b:VSet} {x:Int} (hx:x=lO a (jV a.lo b.lo)) (h0:0≤x):ig x ((jv a.hi b.hi).toNat:Nat) (a.st.toNat:Nat)=uK a b:=by
 unfold uK
 rw [← hx]
 have hm:=(jv a.hi b.hi).toNat_lt
 by_cases h:(((jv a.hi b.hi).toNat:Nat):Int)<x
 ·rw [if_pos h]; unfold ig; rw [if_pos h]
 ·rw [if_neg h,← g5]
  congr 1
  exact (nC (by omega)).symm
theorem KG {a b:VSet} (h:cQ (ae a)≤64) (hb:(ae b).top=false) (ha:(ae a).top=false):mX (ae b) (il (ae a)) emptyS=jM a b:=by
 unfold jM l9 rk
 rw [if_neg (by rw [hb]; simp),if_neg (by rw [ha]; simp),if_neg (by omega)]
 have e:dm (ae a)=(il (ae a),0):=by unfold dm; rw [if_neg (by omega),gg]
 rw [e,if_pos rfl]
theorem HJ {a b:VSet} (h1:64<cQ (ae a)) (h:cQ (ae b)≤64) (hb:(ae b).top=false) (ha:(ae a).top=false):mX (ae a) (il (ae b)) emptyS=jM a b:=by
 unfold jM l9 rk
 rw [if_neg (by rw [hb]; simp),if_neg (by rw [ha]; simp),if_pos h1]
 have e:dm (ae b)=(il (ae b),0):=by unfold dm; rw [if_neg (by omega),gg]
 rw [e,if_pos rfl]
theorem J7 {a b:VSet} (h1:64<cQ (ae a)) (h:64<cQ (ae b)) (hb:(ae b).top=false) (ha:(ae a).top=false):uK (ae a) (ae b)=jM a b:=by
 unfold jM l9 rk
 rw [if_neg (by rw [hb]; simp),if_neg (by rw [ha]; simp),if_pos h1]
 have e:(dm (ae b)).2≠0:=by unfold dm; rw [if_pos h]; decide
 rw [if_neg e]
theorem xC (a:UInt32):jt a 0=a:=by
 rw [← UInt32.toNat_inj,jc]
 have:=a.toNat_lt
 omega
theorem xB (a:UInt32):jQ a 0=a:=by
 rw [← UInt32.toNat_inj,jb]
 simp
theorem qE (a:UInt32) (k:Nat):jt a k * 2=jt a (k+1):=by
 rw [← UInt32.toNat_inj,UInt32.toNat_mul,jc,jc]
 have e:a.toNat * 2 ^ (k+1)=a.toNat * 2 ^ k * 2:=by rw [Nat.pow_succ,Nat.mul_assoc]
 rw [e]
 show _ * 2 % 4294967296=_
 omega
theorem qD (a:UInt32) (k:Nat):jQ a k / 2=jQ a (k+1):=by
 rw [← UInt32.toNat_inj,UInt32.toNat_div,jb,jb,Nat.pow_succ,← Nat.div_div_eq_div_mul]
 rfl
theorem QJ (n:Int):IntKind.i32.wrap n=if 2147483648≤n % 4294967296 then n % 4294967296 - 4294967296 else n % 4294967296:=by
 unfold IntKind.wrap; simp [IntKind.signed,IntKind.bits]
theorem wrap32 (a:UInt32):IntKind.i32.wrap a.toNat=if G3 a=true then (a.toNat:Int) - 4294967296 else a.toNat:=by
 have h:=a.toNat_lt
 unfold G3
 simp only [UInt32.le_iff_toNat_le,decide_eq_true_eq]
 have e:(2147483648:UInt32).toNat=2147483648:=rfl
 rw [e,QJ]
 split<;>split<;>omega
theorem wH (a:UInt32):xl a 0=a:=by
 unfold xl
 rw [← UInt32.toNat_inj]
 have h:=a.toNat_lt
 have h2:=nB ((IntKind.i32.wrap a.toNat).fdiv (2 ^ 0))
 rw [show ((2:Int) ^ 0)=1 from rfl,Int.fdiv_one,wrap32] at h2 ⊢
 split at h2
 ·rename_i q; rw [if_pos q]; omega
 ·rename_i q; rw [if_neg q]; omega
def xj (a:UInt32):UInt32:=if G3 a=true then 2147483648 else 0
theorem mS (a:UInt32) (k:Nat):xl a k / 2+xj a=xl a (k+1):=by
 unfold xl xj
 rw [← UInt32.toNat_inj,UInt32.toNat_add,UInt32.toNat_div]
 have h:=a.toNat_lt
 obtain ⟨A,hA⟩:∃ A,A=IntKind.i32.wrap a.toNat:=⟨_,rfl⟩
 have hA':=hA
 rw [wrap32] at hA'
 rw [← hA]
 have hp:(0:Int)<2 ^ k:=Int.pow_pos (by decide)
 have e1:A.fdiv (2 ^ (k+1))=(A.fdiv (2 ^ k)).fdiv 2:=by
  rw [Int.fdiv_eq_ediv_of_nonneg _ (Int.le_of_lt hp),Int.fdiv_eq_ediv_of_nonneg _ (show (0:Int)≤2 by decide),Int.fdiv_eq_ediv_of_nonneg _ (Int.le_of_lt (Int.pow_pos (show (0:Int)<2 by decide))),Int.pow_succ,Int.ediv_ediv_of_nonneg (Int.le_of_lt hp)]
 obtain ⟨q,hq⟩:∃ q,q=A.fdiv (2 ^ k):=⟨_,rfl⟩
 have hq':=hq
 rw [Int.fdiv_eq_ediv_of_nonneg _ (Int.le_of_lt hp)] at hq'
 rw [e1,← hq]
 have h1:=nB q
 have h2:=nB (q.fdiv 2)
 rw [Int.fdiv_eq_ediv_of_nonneg _ (by decide)] at h2 ⊢
 have hd:=Int.mul_ediv_add_emod A (2 ^ k)
 have hm1:=Int.emod_nonneg A (Int.ne_of_gt hp)
 have hm2:=Int.emod_lt_of_pos A hp
 rw [← hq'] at hd
 show ((u32 q).toNat / 2+_) % 4294967296=_
 by_cases hs:G3 a=true
 ·rw [if_pos hs] at hA' ⊢
  have hn:2147483648≤a.toNat:=by
   unfold G3 at hs
   simpa [UInt32.le_iff_toNat_le] using hs
  have q1:q<0:=by
   rcases Int.lt_or_le q 0 with c|c
   ·exact c
   ·have:=Int.mul_nonneg (Int.le_of_lt hp) c
    omega
  have q2:-2147483648≤q:=by
   rcases Int.lt_or_le q (-2147483648) with c|c
   ·exfalso
    have g1:2 ^ k * q≤2 ^ k * (-2147483649):=Int.mul_le_mul_of_nonneg_left (by omega) (Int.le_of_lt hp)
    omega
   ·exact c
  show ((u32 q).toNat / 2+2147483648) % 4294967296=_
  omega
 ·rw [if_neg hs] at hA' ⊢
  have hn:a.toNat<2147483648:=by
   unfold G3 at hs
   simpa [UInt32.le_iff_toNat_le] using hs
  have q1:0≤q:=by
   rcases Int.lt_or_le q 0 with c|c
   ·exfalso
    have g1:2 ^ k * q≤2 ^ k * (-1):=Int.mul_le_mul_of_nonneg_left (by omega) (Int.le_of_lt hp)
    omega
   ·exact c
  have q2:q≤A:=by
   rcases Int.lt_or_le A q with c|c
   ·exfalso
    have g1:1 * q≤2 ^ k * q:=Int.mul_le_mul_of_nonneg_right (by omega) q1
    omega
   ·exact c
  show ((u32 q).toNat / 2+0) % 4294967296=_
  omega
theorem Ca {s:VSet} (h:eD s=true) (ht:s.top=false) (he:s.em=false):s.lo.toNat≤s.hi.toNat∧s.st.toNat≤s.hi.toNat - s.lo.toNat:=by
 rcases GU h ht he with ⟨h1,h2,h3⟩|⟨h1,h2⟩
 ·have h2':=h2
  rw [UInt32.lt_iff_toNat_lt] at h2'
  have hs:(s.hi - s.lo).toNat=s.hi.toNat - s.lo.toNat:=UInt32.toNat_sub_of_le _ _ (by rw [UInt32.le_iff_toNat_le]; omega)
  have h3':=congrArg UInt32.toNat h3
  rw [UInt32.toNat_mod,hs,UInt32.toNat_zero] at h3'
  exact ⟨by omega,Nat.le_of_dvd (by omega) (Nat.dvd_of_mod_eq_zero h3')⟩
 ·rw [h1,h2,UInt32.toNat_zero]; omega
theorem N7 {a b:VSet} (ha:a.lo.toNat≤a.hi.toNat) (hb:b.lo.toNat≤b.hi.toNat) (h:a.hi.toNat+b.hi.toNat≤4294967295) (g:UInt32) :
  ig (((a.lo.toNat:Nat):Int)+(b.lo.toNat:Nat)) (((a.hi.toNat:Nat):Int)+(b.hi.toNat:Nat)) (g.toNat:Nat)=bS (a.lo+b.lo) (a.hi+b.hi) g:=by
 rw [← g5,UInt32.toNat_add,UInt32.toNat_add,Nat.mod_eq_of_lt (by show _<4294967296; omega),Nat.mod_eq_of_lt (by show _<4294967296; omega)]
 rfl
theorem CH {a k:UInt32} (h:a.toNat * k.toNat≤4294967295):(((a * k).toNat:Nat):Int)=((a.toNat:Nat):Int) * (k.toNat:Nat):=by
 rw [UInt32.toNat_mul,Nat.mod_eq_of_lt (by show _<4294967296; omega)]; rfl
theorem Mc {a:VSet} {k:UInt32} (hl:a.lo.toNat≤a.hi.toNat) (hs:a.st.toNat≤a.hi.toNat) (h:a.hi.toNat * k.toNat≤4294967295) :
  ig (((a.lo.toNat:Nat):Int) * (k.toNat:Nat)) (((a.hi.toNat:Nat):Int) * (k.toNat:Nat)) (((a.st.toNat:Nat):Int) * (k.toNat:Nat))=bS (a.lo * k) (a.hi * k) (a.st * k):=by
 have h1:=Nat.mul_le_mul_right k.toNat hl
 have h2:=Nat.mul_le_mul_right k.toNat hs
 rw [← g5,CH h,CH (by omega),CH (by omega)]
theorem kH (k:Nat):2 * ((2 ^ k:Nat):Int)=((2 ^ (k+1):Nat):Int):=by rw [Nat.pow_succ]; omega
theorem Hh {k:Nat} (h:k<32):2 ^ k≤2147483648:=Nat.le_trans (Nat.pow_le_pow_right (by decide) (show k≤31 by omega)) (by decide)
theorem Ow:∀ k,k<32→(jt 1 k).toNat=2 ^ k:=by decide
theorem qK (k:Nat):UInt32.ofNat k+1=UInt32.ofNat (k+1):=by rw [← UInt32.toNat_inj]; simp only [UInt32.toNat_add,UInt32.toNat_ofNat',UInt32.toNat_one]; omega
theorem zA (n:UInt32):d6 n<32:=by
 unfold d6; rw [UInt32.toNat_mod]; exact Nat.mod_lt _ (by decide)
theorem OV {h k:Int} (hk:0<k) (q:4294967295 / k<h):4294967295<h * k:=(Int.ediv_lt_iff_lt_mul hk).1 q
theorem KF {h k:Int} (hk:0≤k) (q:¬ 0<k∨¬ 4294967295 / k<h):h * k≤4294967295:=by
 rcases Int.lt_or_le 0 k with p|p
 ·have q:h≤4294967295 / k:=by rcases q with q|q; exact absurd p q; omega
  exact (Int.le_ediv_iff_mul_le p).1 q
 ·have:k=0:=by omega
  rw [this,Int.mul_zero]; decide
theorem OB {N j q:Nat} (hN:N<4294967296) (h:N=2 ^ (j+1) * q+2 ^ j):N &&& (4294967296 - N)=2 ^ j:=by
 have hp:0<2 ^ j:=Nat.pow_pos (by decide)
 have hlt:2 ^ j<2 ^ (j+1):=Nat.pow_lt_pow_right (by decide) (by omega)
 have hj:j<32:=by
  rcases Nat.lt_or_ge j 32 with r|r
  ·exact r
  ·have:2 ^ 32≤2 ^ j:=Nat.pow_le_pow_right (by decide) r
   omega
 apply Nat.eq_of_testBit_eq
 intro i
 rw [Nat.testBit_and,show 4294967296 - N=2 ^ 32 - ((N - 1)+1) by omega,Nat.testBit_two_pow_sub_succ (by omega),show N - 1=2 ^ (j+1) * q+(2 ^ j - 1) by omega,h,
  Nat.testBit_two_pow_mul_add _ hlt,Nat.testBit_two_pow_mul_add _ (by omega),Nat.testBit_two_pow,Nat.testBit_two_pow_sub_one]
 by_cases hi:i<j+1
 ·rw [if_pos hi,if_pos hi]
  by_cases e:j=i
  ·subst e; simp [hj]
  ·simp [e]
 ·rw [if_neg hi,if_neg hi]
  have:¬ j=i:=by omega
  cases q.testBit (i - (j+1))<;>simp [this]
theorem Na {n j:Nat} (h:((n:Nat):Int) % (2 * ((2 ^ j:Nat):Int))=0):2 ^ (j+1) ∣ n:=by
 rw [kH] at h
 exact Int.natCast_dvd_natCast.1 (Int.dvd_of_emod_eq_zero h)
theorem Nb {n j:Nat} (hd:2 ^ j ∣ n) (h0:0<n) (hn:n<4294967296):j<32:=by
 rcases Nat.lt_or_ge j 32 with r|r
 ·exact r
 ·have h1:2 ^ 32≤2 ^ j:=Nat.pow_le_pow_right (by decide) r
  have h2:=Nat.le_of_dvd h0 hd
  omega
theorem Ml {n j:Nat} (hd:2 ^ j ∣ n) (h:¬ ((n:Nat):Int) % (2 * ((2 ^ j:Nat):Int))=0):∃ q,n=2 ^ (j+1) * q+2 ^ j:=by
 obtain ⟨m,rfl⟩:=hd
 rcases Nat.mod_two_eq_zero_or_one m with e|e
 ·exfalso
  apply h
  rw [kH]
  refine Int.emod_eq_zero_of_dvd (Int.natCast_dvd_natCast.2 ⟨m / 2,?_⟩)
  rw [Nat.pow_succ,Nat.mul_assoc,show 2 * (m / 2)=m by omega]
 ·obtain ⟨q,hq⟩:∃ q,m=2 * q+1:=⟨m / 2,by omega⟩
  subst hq
  exact ⟨q,by rw [Nat.pow_succ,Nat.mul_assoc,Nat.mul_add,Nat.mul_one]⟩
theorem Mw {k:UInt32} {j:Nat} (h0:k≠0) (hd:2 ^ j ∣ k.toNat) (h:¬ ((k.toNat:Nat):Int) % (2 * ((2 ^ j:Nat):Int))=0):(k &&& (0 - k)).toNat=2 ^ j:=by
 obtain ⟨q,hq⟩:=Ml hd h
 have hk:=k.toNat_lt
 have hz:k.toNat≠0:=fun e=>h0 (UInt32.toNat_inj.1 e)
 rw [UInt32.toNat_and,UInt32.toNat_sub,UInt32.toNat_zero,Nat.add_zero,Nat.mod_eq_of_lt (by omega)]
 exact OB hk hq
theorem Ka (a:VSet):mC a 0=fH 0:=by
 unfold mC bS
 rw [if_neg (by rw [UInt32.lt_iff_toNat_lt,UInt32.toNat_zero]; omega),if_pos (.inl (by simp))]
theorem Mr (a:VSet) {k hh:UInt32} {j:Nat} (h0:k≠0) (hd:2 ^ j ∣ k.toNat) (h:¬ ((k.toNat:Nat):Int) % (2 * ((2 ^ j:Nat):Int))=0) (hhh:hh=if a.top=false then jv k a.hi else k) :
  ig 0 ((hh.toNat:Nat):Int) ((2 ^ j:Nat):Int)=mC a k:=by
 unfold mC
 rw [← hhh,← g5,Mw h0 hd h]
 rfl
def Py (a b:VSet):VSet:=if (a.top=true∨b.top=true)∨4294967295<(a.hi.toNat:Int)+b.hi.toNat then iL else bS (a.lo+b.lo) (a.hi+b.hi) (iE a.st b.st)
def P4 (a b:VSet):VSet:=if (a.top=true∨b.top=true)∨a.lo<b.hi then iL else bS (a.lo - b.hi) (a.hi - b.lo) (iE a.st b.st)
def Au (b:VSet):Bool:=!b.top && decide (b.st=0)
def j2 (op:Int) (a b:VSet):VSet :=
 if op=3 then Py a b else if op=4 then P4 a b else if op=5 then (if Au b=true then mw a b.lo else iL)
 else if op=9 then (if Au b=true then mw a (jt 1 (d6 b.lo)) else iL) else if op=6 then (if Au b=true then mC a b.lo else iL)
 else if op=10 then (if Au b=true∧a.top=false then bS (jQ a.lo (d6 b.lo)) (jQ a.hi (d6 b.lo)) 1 else iL)
 else if op=12∨op=13∨op=14∨op=15 then bS 0 1 1 else iL
theorem nQ {b:VSet} (h:b.em=false):nk b=Au b:=by unfold nk Au; rw [h]; simp
theorem KP {op:Int} {a b:VSet} (hb:b.em=false):j2 op a b=iU op a b:=by
 unfold j2 iU kE
 rw [nQ hb]
 by_cases h3:op=3
 ·subst h3
  unfold Py
  by_cases q:(a.top=true∨b.top=true)∨4294967295<(a.hi.toNat:Int)+b.hi.toNat
  ·rw [if_pos rfl,if_pos q,if_neg (by decide),if_neg (by rintro ⟨_,⟨q1,q2⟩,q3⟩; rcases q with (q|q)|q<;>simp_all<;>omega),if_neg (by rintro ⟨q,_⟩; exact absurd q (by decide))]
   split<;>simp
  ·rw [if_pos rfl,if_neg q,if_neg (by decide),if_pos ⟨rfl,⟨by cases e:a.top; rfl; exact absurd (.inl (.inl e)) q,by cases e:b.top; rfl; exact absurd (.inl (.inr e)) q⟩,by have:¬ 4294967295<(a.hi.toNat:Int)+b.hi.toNat:=fun e=>q (.inr e); omega⟩]
 by_cases h4:op=4
 ·subst h4
  unfold P4
  by_cases q:(a.top=true∨b.top=true)∨a.lo<b.hi
  ·rw [if_neg (by decide),if_pos rfl,if_pos q,if_neg (by decide),if_neg (by rintro ⟨q,_⟩; exact absurd q (by decide)),if_neg (by rintro ⟨_,⟨q1,q2⟩,q3⟩; rcases q with (q|q)|q; simp_all; simp_all; rw [UInt32.le_iff_toNat_le] at q3; rw [UInt32.lt_iff_toNat_lt] at q; omega)]
   split<;>simp
  ·rw [if_neg (by decide),if_pos rfl,if_neg q,if_neg (by decide),if_neg (by rintro ⟨q,_⟩; exact absurd q (by decide)),if_pos ⟨rfl,⟨by cases e:a.top; rfl; exact absurd (.inl (.inl e)) q,by cases e:b.top; rfl; exact absurd (.inl (.inr e)) q⟩,by rw [← UInt32.not_lt]; exact fun e=>q (.inr e)⟩]
 by_cases h12:op=12∨op=13∨op=14∨op=15
 ·rw [if_neg h3,if_neg h4,if_neg (by omega),if_neg (by omega),if_neg (by omega),if_neg (by omega),if_pos h12,if_pos h12]
 simp only [h3,h4,h12,if_false,false_and]
 cases e:Au b
 ·simp
 ·simp
  repeat' split
  all_goals first|rfl|(exfalso; omega)|simp_all
theorem IC (x:UInt32) (c:Nat):(((jQ x c).toNat:Nat):Int)=((x.toNat:Nat):Int) / ((2 ^ c:Nat):Int):=by
 show ((((x.toBitVec >>> c).toNat:Nat):Int))=_
 rw [BitVec.toNat_ushiftRight,Nat.shiftRight_eq_div_pow]
 rfl
theorem Ob (a:VSet) (c:Nat):ig (((a.lo.toNat:Nat):Int) / ((2 ^ c:Nat):Int)) (((a.hi.toNat:Nat):Int) / ((2 ^ c:Nat):Int)) 1=bS (jQ a.lo c) (jQ a.hi c) 1:=by
 rw [← IC,← IC,← g5]; rfl
theorem HU:ig 0 1 1=bS 0 1 1:=by rw [← g5]; rfl
theorem u9 {a:VSet} (h:kD a=true):a.st=0↔a.lo=a.hi:=by
 unfold kD at h
 simp only [Bool.and_eq_true,Bool.not_eq_true'] at h
 rcases GU h.1.1 h.1.2 h.2 with ⟨h1,h2,_⟩|⟨h1,h2⟩
 ·exact ⟨fun q=>absurd q h1,fun q=>by rw [q] at h2; exact absurd h2 (UInt32.lt_irrefl _)⟩
 ·exact ⟨fun _=>h2,fun _=>h1⟩
def qH (c:Int) (s:VSet) (n:UInt32):VSet :=
 if 3≤c∧c≤6 then (if (kD s=false∨2147483648≤s.hi)∨2147483648≤n then s else dz (c+4) s n) else dz c s n
theorem JS {c:Int} {s:VSet} {n:UInt32} (h:(3≤c∧c≤6)∧((kD s=false∨2147483648≤s.hi)∨2147483648≤n)):qH c s n=s:=by
 unfold qH; rw [if_pos h.1,if_pos h.2]
theorem lr {c d:Int} {s:VSet} {n:UInt32} (h:(3≤c∧c≤6)→¬ ((kD s=false∨2147483648≤s.hi)∨2147483648≤n)) (hd:(c=d∧¬ (3≤d∧d≤6))∨(c+4=d∧7≤d∧d≤10)):qH c s n=dz d s n:=by
 unfold qH
 rcases hd with ⟨e,q⟩|⟨e,q⟩
 ·subst e; rw [if_neg q]
 ·rw [if_pos (by omega),if_neg (h (by omega)),e]
theorem Ov {cc:Int} (h:1≤cc∧cc≤14) (h2:cc % 2=1):vF cc=cc+1:=by
 rw [Hl (by omega)]
 rcases (show cc=1∨cc=3∨cc=5∨cc=7∨cc=9∨cc=11∨cc=13 by omega) with e|e|e|e|e|e|e<;>subst e<;>rfl
theorem Mj {cc:Int} (h:1≤cc∧cc≤14) (h2:¬ cc % 2=1):vF cc=cc - 1:=by
 rw [Hl (by omega)]
 rcases (show cc=2∨cc=4∨cc=6∨cc=8∨cc=10∨cc=12∨cc=14 by omega) with e|e|e|e|e|e|e<;>subst e<;>rfl
theorem Oc (s:StV) {k:Int} (h:0≤k∧k<8):s.set k (s.get k)=s:=by
 rcases (show k=0∨k=1∨k=2∨k=3∨k=4∨k=5∨k=6∨k=7 by omega) with e|e|e|e|e|e|e|e<;>subst e<;>rfl
theorem Ha {c:Int} {i:Ins} {s:StV} (h:0≤i.a∧i.a<8):s.set i.a (qH c (s.get i.a) i.imm)=nn c i s:=by
 unfold nn qH
 split
 ·split
  ·exact Oc s h
  ·rfl
 ·rfl
theorem My {n:Int} (h:n=1∨n=2∨n=4):(if n=1 then bS 0 255 1 else if n=2 then bS 0 65535 1 else iL)=if n<4 then bS 0 (jt 1 (8 * n).toNat - 1) 1 else iL:=by
 rcases h with e|e|e<;>subst e<;>decide
theorem GW {i:Ins} {s:StV} (he:eN i=0) (h:i.op=16) (hw:i.width=1∨i.width=2∨i.width=4):fm i s=s.set i.a (if i.width=1 then bS 0 255 1 else if i.width=2 then bS 0 65535 1 else iL):=by
 rw [My hw]
 unfold fm
 rw [if_pos he,if_neg (by omega),if_neg (by omega)]
 by_cases q:i.width<4
 ·rw [if_pos ⟨h,q⟩,if_pos q]
 ·rw [if_neg (fun r=>q r.2),if_pos (.inl h),if_neg q]
def jn (l:List Ins) (k:Nat):List UInt32:=if bD l (l.getD k default).addr=(k:Int) then (bW (l.getD k default)).filter (fun a=>decide (0≤bD l a)) else []
theorem uz (l:List Ins) (k:Nat):(jn l k).length≤2:=by
 unfold jn
 split
 ·exact Nat.le_trans (List.length_filter_le _ _) (ir _)
 ·simp
theorem Eb {i:Ins} (h:eN i=0):((if i.op=20∨i.op=23 then [i.imm] else []) ++ if jf i=true then [] else [jT i])=bW i:=by
 unfold bW bG
 rw [if_pos h]
 split<;>rfl
theorem tM {p:UInt32→Bool} {l:List UInt32} {k:Nat} (hk:k<l.length) (h:p (l.getD k default)=true):(l.take (k+1)).filter p=(l.take k).filter p ++ [l.getD k default]:=by
 rw [bN hk,List.filter_append,List.filter_cons,if_pos h,List.filter_nil]
theorem vY {p:UInt32→Bool} {l:List UInt32} {k:Nat} (hk:k<l.length) (h:¬ p (l.getD k default)=true):(l.take (k+1)).filter p=(l.take k).filter p:=by
 rw [bN hk,List.filter_append,List.filter_cons,if_neg h,List.filter_nil,List.append_nil]
def lJ (l:List Ins) (a:UInt32):Nat→List Int
 | 0=>[]
 | j+1=>lJ l a j ++ ((jn l j).filter (fun x=>decide (x=a))).map (fun _=>(j:Int))
def tI (l:List Ins) (a:UInt32) (j x:Nat):List Int:=lJ l a j ++ (((jn l j).take x).filter (fun x=>decide (x=a))).map (fun _=>(j:Int))
theorem Mz {l:List Ins} {a:UInt32} {j x:Nat} (hx:x<(jn l j).length) (h:(jn l j).getD x default=a):tI l a j (x+1)=tI l a j x ++ [(j:Int)]:=by
 unfold tI
 rw [tM hx (decide_eq_true h),List.map_append,List.append_assoc]; rfl
theorem OF {l:List Ins} {a:UInt32} {j x:Nat} (hx:x<(jn l j).length) (h:¬ (jn l j).getD x default=a):tI l a j (x+1)=tI l a j x:=by
 unfold tI
 rw [vY hx (by simpa using h)]
theorem MB {l:List Ins} {a:UInt32} {j x:Nat} (hx:(jn l j).length≤x):tI l a j x=lJ l a (j+1):=by
 unfold tI
 rw [List.take_of_length_le hx]; rfl
theorem Kf (l:List Ins) (a:UInt32) (j:Nat):tI l a j 0=lJ l a j:=by unfold tI; simp
theorem yW (l:List Ins) (a:UInt32):∀ j,(lJ l a j).length≤2 * j
 | 0=>Nat.le_refl _
 | j+1=>by
  have h1:=yW l a j
  have h2:=uz l j
  have h3:=List.length_filter_le (fun x=>decide (x=a)) (jn l j)
  unfold lJ
  rw [List.length_append,List.length_map]; omega
theorem MA (l:List Ins) (a:UInt32) (j x:Nat):(tI l a j x).length≤2 * j+2:=by
 have h1:=yW l a j
 have h2:=uz l j
 have h3:=List.length_filter_le (fun x=>decide (x=a)) ((jn l j).take x)
 have h4:((jn l j).take x).length≤(jn l j).length:=by rw [List.length_take]; exact Nat.min_le_right _ _
 unfold tI
 rw [List.length_append,List.length_map]; omega
def wP (l:List Ins) (q:List Int):Ins:=q.foldl (fun _ j=>l.getD j.toNat default) bh
theorem Ht (l:List Ins) (q:List Int) (j:Nat):wP l (q ++ [(j:Int)])=l.getD j default:=by
 unfold wP; rw [List.foldl_append]; rfl
def rW (l:List Ins) (k:Nat) (entry:UInt32):Ins :=
 if (lJ l (l.getD k default).addr l.length).length≠1∨(l.getD k default).addr=entry then bh else wP l (lJ l (l.getD k default).addr l.length)
def wm (l:List Ins) (k:Nat) (entry:UInt32) (s:StV) (n:Int):StV :=
 if (l.getD k default).op=23∨(l.getD k default).op=24 then vr 8
 else if (l.getD k default).op=20∧tQ (rW l k entry)=true then my (l.getD k default).cc (rW l k entry) s (decide (n=0) && decide (0≤bD l (l.getD k default).imm))
 else fm (l.getD k default) s
theorem LQ {l:List Ins} {k:Nat} (h:eN (l.getD k default)≠0):jn l k=[]:=by
 unfold jn bW
 rw [if_neg h]; split<;>rfl
theorem vU {l:List Ins} {k:Nat} {entry:UInt32} (h:(lJ l (l.getD k default).addr l.length).length≠1∨(l.getD k default).addr=entry):rW l k entry=bh:=if_pos h
theorem zf {l:List Ins} {k:Nat} {entry:UInt32} (h:¬ (lJ l (l.getD k default).addr l.length).length≠1) (h2:¬ (l.getD k default).addr=entry):rW l k entry=wP l (lJ l (l.getD k default).addr l.length):=if_neg (fun q=>q.elim h h2)
theorem yd:InsOK bh:=by constructor<;>exact ⟨by decide,by decide⟩
theorem HH:InsOK (default:Ins):=by constructor<;>exact ⟨by decide,by decide⟩
theorem MC {l:List Ins} (h:∀ x∈l,InsOK x) (q:List Int):InsOK (wP l q):=by
 have key:∀ (q:List Int) (z:Ins),InsOK z→InsOK (q.foldl (fun _ j=>l.getD j.toNat default) z):=by
  intro q
  induction q with
  | nil=>intro z hz; exact hz
  | cons j t ih =>
   intro z hz
   refine ih _ ?_
   by_cases c:j.toNat<l.length
   ·exact h _ (ba c)
   ·show InsOK (l.getD j.toNat default)
    rw [List.getD_eq_getElem?_getD,List.getElem?_eq_none (by omega)]; exact HH
 exact key q _ yd
theorem Kt {l:List Ins} (h:∀ x∈l,InsOK x) (k:Nat) (entry:UInt32):InsOK (rW l k entry):=by
 unfold rW
 split
 ·exact yd
 ·exact MC h _
def ox (l:List Ins) (k:Nat):Nat→List (Int × Bool)
 | 0=>[]
 | n+1=>if bD l ((bW (l.getD k default)).getD n default)<0 then ox l k n else ox l k n ++ [(bD l ((bW (l.getD k default)).getD n default),decide ((n:Int)=0))]
theorem FK {l:List Ins} {k:Nat} {s:CSt} (hk:k<s.es.length):∀ n,(jg l k s n).es.length=s.es.length∧(jg l k s n).es.getD k []=s.es.getD k [] ++ ox l k n
 | 0=>⟨rfl,by simp [jg,ox]⟩
 | n+1=>by
  obtain ⟨h0,h⟩:=FK hk n
  by_cases c:bD l ((bW (l.getD k default)).getD n default)<0
  ·rw [u5 c]; simp only [ox]; rw [if_pos c]; exact ⟨h0,h⟩
  ·rw [sO c]; simp only [ox]
   rw [if_neg c]
   refine ⟨by rw [List.length_set]; exact h0,?_⟩
   rw [kL,if_pos ⟨rfl,by omega⟩,h,List.append_assoc]
theorem zu {l:List Ins} {k:Nat} {s:CSt} (t:Nat) (hl:s.into.length=l.length):∀ n,(jg l k s n).into.length=l.length∧(jg l k s n).into.getD t []=s.into.getD t [] ++ ((ox l k n).filter (fun e=>decide (e.1=(t:Int)))).map (fun _=>(k:Int))
 | 0=>⟨hl,by simp [jg,ox]⟩
 | n+1=>by
  obtain ⟨h0,h⟩:=zu t hl n
  have hb:=od l ((bW (l.getD k default)).getD n default)
  by_cases c:bD l ((bW (l.getD k default)).getD n default)<0
  ·rw [u5 c]; simp only [ox]; rw [if_pos c]; exact ⟨h0,h⟩
  ·rw [sO c]; simp only [ox]
   rw [if_neg c]
   refine ⟨by rw [List.length_set]; exact h0,?_⟩
   rw [kL,List.filter_append,List.map_append,← List.append_assoc]
   by_cases e:bD l ((bW (l.getD k default)).getD n default)=(t:Int)
   ·rw [if_pos ⟨by omega,by omega⟩,List.filter_cons,if_pos (by simpa using e),List.filter_nil,show (bD l ((bW (l.getD k default)).getD n default)).toNat=t by omega,h]
    rfl
   ·rw [if_neg (fun q=>e (by omega)),List.filter_cons,if_neg (by simpa using e),List.filter_nil,List.map_nil,List.append_nil,h]
theorem FD (l:List Ins) (k:Nat):∀ n,n≤(bW (l.getD k default)).length→(ox l k n).map (fun e=>(l.getD e.1.toNat default).addr)=((bW (l.getD k default)).take n).filter (fun a=>decide (0≤bD l a))
 | 0,_=>rfl
 | n+1,h=>by
  have ih:=FD l k n (by omega)
  simp only [ox]
  by_cases c:bD l ((bW (l.getD k default)).getD n default)<0
  ·rw [if_pos c,vY (by omega) (by simpa using c),ih]
  ·rw [if_neg c,tM (by omega) (by simpa using c),List.map_append,ih]
   simp only [List.map_cons,List.map_nil]
   rw [pZ (by omega)]
theorem qU {l:List Ins} {k:Nat}:∀ n,∀ e∈ox l k n,0≤e.1∧e.1<(l.length:Int)∧bD l (l.getD e.1.toNat default).addr=e.1
 | 0,e,h=>by cases h
 | n+1,e,h=>by
  simp only [ox] at h
  have hb:=od l ((bW (l.getD k default)).getD n default)
  split at h
  ·exact qU n e h
  ·rcases List.mem_append.1 h with h|h
   ·exact qU n e h
   ·rw [List.mem_singleton.1 h]
    refine ⟨by omega,hb.2,?_⟩
    show bD l (l.getD (bD l _).toNat default).addr=_
    rw [pZ (by omega)]
theorem u3 (l:List Ins) {k:Nat} (hk:k<l.length):(cO l).getD k []=if bD l (l.getD k default).addr=(k:Int) then ox l k (bW (l.getD k default)).length else []:=by
 have key:∀ m,m≤l.length→(ko l m).es.getD k []=if k<m then (if bD l (l.getD k default).addr=(k:Int) then ox l k (bW (l.getD k default)).length else []) else []:=by
  intro m
  induction m with
  | zero=>intro _; rw [if_neg (by omega)]; exact (sc l 0 (Nat.zero_le _)).2 k (Nat.zero_le _)
  | succ m ih =>
   intro hm
   have ih:=ih (by omega)
   have ho:=sc l m (by omega)
   by_cases e:m=k
   ·subst e
    rw [if_pos (by omega)]
    by_cases c:bD l (l.getD m default).addr=(m:Int)
    ·rw [sb c,if_pos c,(FK (by rw [ho.1.le]; omega) _).2,ho.2 m (Nat.le_refl _)]; rfl
    ·rw [u4 c,if_neg c,ho.2 m (Nat.le_refl _)]
   ·have hs:(ko l (m+1)).es.getD k []=(ko l m).es.getD k []:=by
     by_cases c:bD l (l.getD m default).addr=(m:Int)
     ·rw [sb c]
      exact (qf (by omega) ho.1 (by rw [ho.2 m (Nat.le_refl _)]; rfl) _ (ir _)).2.2.2.2.2.2 k (by omega)
     ·rw [u4 c]
    rw [hs,ih]
    by_cases q:k<m
    ·rw [if_pos q,if_pos (show k<m+1 by omega)]
    ·rw [if_neg q,if_neg (show ¬ k<m+1 by omega)]
 have:=key l.length (Nat.le_refl _)
 rw [if_pos hk] at this
 exact this
theorem yA (l:List Ins) {k:Nat} (hk:k<l.length):jn l k=((cO l).getD k []).map (fun e=>(l.getD e.1.toNat default).addr):=by
 rw [u3 l hk]
 unfold jn
 split
 ·rw [FD l k _ (Nat.le_refl _),List.take_length]
 ·rfl
theorem wV {l:List Ins} {k:Nat} (hk:k<l.length):∀ e∈(cO l).getD k [],0≤e.1∧e.1<(l.length:Int)∧bD l (l.getD e.1.toNat default).addr=e.1:=by
 rw [u3 l hk]
 split
 ·exact qU _
 ·intro e he; cases he
theorem BI {l:List Ins} {k:Nat} (hk:k<l.length) (hf:bD l (l.getD k default).addr=(k:Int)):∀ m,m≤l.length→(ko l m).into.getD k []=lJ l (l.getD k default).addr m
 | 0,_=>by simp [ko,lJ,List.getD_eq_getElem?_getD,List.getElem?_replicate,hk]
 | m+1,hm=>by
  have ih:=BI hk hf m (by omega)
  have ho:=qV l (k:=m) (by omega)
  unfold lJ
  by_cases c:bD l (l.getD m default).addr=(m:Int)
  ·rw [sb c,(zu k ho.li _).2,ih]
   congr 1
   rw [yA l (by omega),u3 l (by omega),if_pos c,List.filter_map,List.map_map]
   have hp:(ox l m (bW (l.getD m default)).length).filter (fun e=>decide (e.1=(k:Int)))=(ox l m (bW (l.getD m default)).length).filter ((fun x=>decide (x=(l.getD k default).addr)) ∘ fun e=>(l.getD e.1.toNat default).addr):=by
    apply List.filter_congr
    intro e he
    obtain ⟨h1,h2,h3⟩:=qU _ e he
    simp only [Function.comp]
    rw [decide_eq_decide]
    constructor
    ·intro q; rw [q,Int.toNat_natCast]
    ·intro q; rw [q,hf] at h3; exact h3.symm
   rw [hp]; rfl
  ·rw [u4 c,ih]
   unfold jn
   rw [if_neg c]; simp
theorem Lm {i:Ins} (h:eN i=0) (h2:i.op=20):(bW i).getD 0 default=i.imm:=by
 unfold bW bG
 rw [if_pos h,if_pos (show i.op=20∨i.op=23 from .inl h2)]; rfl
theorem M9 {l:List Ins} {k:Nat} {a:UInt32} (h0:(bW (l.getD k default)).getD 0 default=a) {x:Nat}:∀ n,n≤2→x<(ox l k n).length→((ox l k n).getD x default).2=(decide ((x:Int)=0) && decide (0≤bD l a))
 | 0,_,h=>absurd h (Nat.not_lt_zero _)
 | 1,_,h=>by
  simp only [ox,h0] at h ⊢
  split at h
  ·exact absurd h (Nat.not_lt_zero _)
  ·rename_i c
   rw [if_neg c]
   obtain rfl:x=0:=by simp at h; omega
   simp; omega
 | 2,_,h=>by
  simp only [ox,h0] at h ⊢
  by_cases c:bD l a<0
  ·simp only [c,if_true] at h ⊢
   split at h
   ·exact absurd h (Nat.not_lt_zero _)
   ·rename_i d
    rw [if_neg d]
    obtain rfl:x=0:=by simp at h; omega
    simp; omega
  ·simp only [c,if_false] at h ⊢
   have c':0≤bD l a:=by omega
   split at h
   ·rename_i d
    rw [if_pos d]
    obtain rfl:x=0:=by simp at h; omega
    simp [c']
   ·rename_i d
    rw [if_neg d]
    simp at h
    rcases x with _|_|x
    ·simp [c']
    ·simp
    ·omega
theorem BR {l:List Ins} {k:Nat} {entry:UInt32} {e:Nat} {st:List StV} {x:Nat} (hk:k<l.length) (hf:bD l (l.getD k default).addr=(k:Int)) (he:bD l entry=(e:Int)) (hx:x<((cO l).getD k []).length) :
  wm l k entry (st.getD k default) (x:Int)=kF l st (bZ l e) k (((cO l).getD k []).getD x default):=by
 have hea:(l.getD e default).addr=entry:=by
  have:=pZ (l:=l) (a:=entry) (by omega)
  rw [he,Int.toNat_natCast] at this; exact this
 have hgd:(bZ l e).getD k default=oa l e (ko l l.length).into k:=by
  unfold bZ
  rw [← getD_at (by simpa using hk)]; simp
 have hci:=BI hk hf l.length (Nat.le_refl _)
 unfold wm kF
 by_cases h1:(l.getD k default).op=23∨(l.getD k default).op=24
 ·rw [if_pos h1,if_pos h1]; rfl
 rw [if_neg h1,if_neg h1,hgd]
 by_cases h2:(l.getD k default).op=20
 case neg=>rw [if_neg (fun q=>h2 q.1),if_neg (fun q=>h2 q.1)]
 rw [u3 l hk,if_pos hf] at hx ⊢
 have hE:eN (l.getD k default)=0:=by
  apply Classical.byContradiction
  intro q
  have:bW (l.getD k default)=[]:=by unfold bW; rw [if_neg q]
  rw [this] at hx
  exact absurd hx (Nat.not_lt_zero _)
 unfold oa
 rw [hci,hea]
 by_cases h3:(lJ l (l.getD k default).addr l.length).length=1
 case neg =>
  rw [vU (.inl h3),if_neg (fun q=>absurd q.2 (by decide)),if_neg (fun q=>by rw [if_neg (fun r=>h3 r.2.2.2.1)] at q; exact absurd q.2 (by decide))]
 by_cases h4:(l.getD k default).addr=entry
 ·rw [vU (.inr h4),if_neg (fun q=>absurd q.2 (by decide)),if_neg (fun q=>by rw [if_neg (fun r=>r.2.2.1 h4)] at q; exact absurd q.2 (by decide))]
 rw [zf (fun q=>q h3) h4]
 obtain ⟨j,hj⟩:∃ j,lJ l (l.getD k default).addr l.length=[j]:=by
  rcases hq:lJ l (l.getD k default).addr l.length with _|⟨j,_|⟨b,t⟩⟩
  ·rw [hq] at h3; simp at h3
  ·exact ⟨j,rfl⟩
  ·rw [hq] at h3; simp at h3
 have hjn:0≤j:=by
  have hm:j∈(ko l l.length).into.getD k []:=by rw [hci,hj]; exact .head _
  exact ((qV l (Nat.le_refl _)).i _ (getD_mem hm) j hm).1
 rw [hj]
 have hl:wP l [j]=l.getD j.toNat default:=rfl
 have hg:([j]:List Int).getD 0 default=j:=rfl
 rw [hl,hg]
 by_cases h5:tQ (l.getD j.toNat default)=true
 case neg=>rw [if_neg (fun q=>h5 q.2),if_neg (fun q=>by rw [if_neg (fun r=>h5 r.2.2.2.2)] at q; exact absurd q.2 (by decide))]
 rw [if_pos ⟨h2,h5⟩,if_pos (show (l.getD k default).op=20∧eN (l.getD k default)=0∧(l.getD k default).addr≠entry∧([j]:List Int).length=1∧tQ (l.getD j.toNat default)=true from ⟨h2,hE,h4,rfl,h5⟩),if_pos ⟨h2,hjn⟩,M9 (Lm hE h2) _ (ir _) hx]
theorem lu {l:List Ins} {k:Nat} (hk:k<l.length):(jn l k).length=((cO l).getD k []).length:=by rw [yA l hk,List.length_map]
theorem IH {l:List Ins} {k x:Nat} (hk:k<l.length) (hx:x<(jn l k).length):bD l ((jn l k).getD x default)=(((cO l).getD k []).getD x default).1∧0≤(((cO l).getD k []).getD x default).1∧(((cO l).getD k []).getD x default).1<(l.length:Int):=by
 have hx2:=hx
 rw [lu hk] at hx2
 obtain ⟨h1,h2,h3⟩:=wV hk _ (ba hx2)
 refine ⟨?_,h1,h2⟩
 have e:(jn l k).getD x default=(l.getD (((cO l).getD k []).getD x default).1.toNat default).addr:=by
  rw [← getD_at hx,← getD_at hx2]
  simp only [yA l hk,List.getElem_map]
 rw [e,h3]
def Marks (l:List Ins) (s:VSt):Prop:=∀ j,j<l.length→s.mb.getD j default=true→bD l (l.getD j default).addr=(j:Int)
theorem Fq {l:List Ins} {a:UInt32} {n:Nat} (h:bD l a=(n:Int)):bD l (l.getD n default).addr=(n:Int):=by
 have:=pZ (l:=l) (a:=a) (by omega)
 rw [h,Int.toNat_natCast] at this
 rw [this]; exact h
theorem Ec {l:List Ins} {entry:UInt32} {e:Nat} (h:bD l entry=(e:Int)):Marks l (lH l e):=by
 intro j hj hm
 unfold lH at hm
 simp only at hm
 rw [kL] at hm
 split at hm
 ·rename_i q
  rw [← q.1]; exact Fq h
 ·rw [List.getD_eq_getElem?_getD,List.getElem?_replicate] at hm
  split at hm<;>simp at hm
theorem OA {l:List Ins} {s:VSt} {k:Nat} (hl:s.mb.length=l.length) (h:Marks l s) (hk:jZ s.mb=(k:Int)):k<l.length∧bD l (l.getD k default).addr=(k:Int):=by
 have hb:=jY (fun x:Bool=>decide (true=x)) s.mb 0
 have ha:=(xI (fun x:Bool=>decide (true=x)) s.mb 0 (by show 0≤jZ s.mb; omega)).2
 have hkk:dA (fun x:Bool=>decide (true=x)) 0 s.mb=(k:Int):=hk
 rw [hkk] at hb ha
 rw [show ((k:Int) - (0:Nat)).toNat=k by omega] at ha
 have hkl:k<l.length:=by omega
 exact ⟨hkl,h k hkl (of_decide_eq_true ha).symm⟩
theorem DU {l:List Ins} {gd:List Int} {k:Nat} {s:VSt} (hk:k<l.length) (h:Marks l s):Marks l (iK l gd ((cO l).getD k []) k s):=by
 have key:∀ (es:List (Int × Bool)) (s:VSt),(∀ e∈es,0≤e.1∧e.1<(l.length:Int)∧bD l (l.getD e.1.toNat default).addr=e.1)→Marks l s→Marks l (es.foldl (dG l gd k) s):=by
  intro es
  induction es with
  | nil=>intro s _ hs; exact hs
  | cons e t ih =>
   intro s he hs
   refine ih _ (fun x hx=>he x (.tail _ hx)) ?_
   obtain ⟨e1,e2,e3⟩:=he e (.head _)
   unfold dG
   split
   ·exact hs
   ·intro j hj hm
    simp only at hm
    rw [kL] at hm
    split at hm
    ·rename_i q
     rw [← q.1,e3]; omega
    ·exact hs j hj hm
 refine key _ _ (wV hk) ?_
 intro j hj hm
 unfold eW at hm
 simp only at hm
 rw [kL] at hm
 split at hm
 ·cases hm
 ·exact h j hj hm
def qJ (l:List Ins) (a:UInt32):Nat→Nat
 | 0=>0
 | k+1=>if a<(l.getD k default).addr then qJ l a k else k+1
def Ct (l:List Ins) (i:Ins):List Ins:=l.take (qJ l i.addr l.length) ++ [i] ++ l.drop (qJ l i.addr l.length)
theorem Cu (l:List Ins) (a:UInt32):∀ k,qJ l a k≤k
 | 0=>Nat.le_refl _
 | k+1=>by
  unfold qJ
  split
  ·have:=Cu l a k; omega
  ·exact Nat.le_refl _
theorem EB (l:List Ins) (a:UInt32):∀ k,qJ l a k=0∨¬ a<(l.getD (qJ l a k - 1) default).addr
 | 0=>.inl rfl
 | k+1=>by
  unfold qJ
  split
  ·exact EB l a k
  ·rename_i hh
   right; rw [Nat.add_sub_cancel]; exact hh
theorem II (l:List Ins) (a:UInt32):∀ k j,qJ l a k≤j→j<k→a<(l.getD j default).addr
 | 0,j,_,h=>absurd h (Nat.not_lt_zero _)
 | k+1,j,h1,h2=>by
  unfold qJ at h1
  split at h1
  ·rename_i hh
   by_cases e:j=k
   ·subst e; exact hh
   ·exact II l a k j h1 (by omega)
  ·omega
theorem Oq {l:List Ins} {a:UInt32} {k:Nat} (h0:0<k) (h:a<(l.getD ((k:Int) - 1).toNat default).addr):qJ l a k=qJ l a (k - 1):=by
 obtain ⟨n,rfl⟩:∃ n,k=n+1:=⟨k - 1,by omega⟩
 rw [show (((n+1:Nat):Int) - 1).toNat=n by omega] at h
 rw [qJ,if_pos h]; rfl
theorem JZ {l:List Ins} {a:UInt32} {k:Nat} (h:k=0∨¬ a<(l.getD ((k:Int) - 1).toNat default).addr):qJ l a k=k:=by
 cases k with
 | zero=>rfl
 | succ n =>
  rcases h with h|h
  ·cases h
  ·rw [show (((n+1:Nat):Int) - 1).toNat=n by omega] at h
   rw [qJ,if_neg h]
theorem L8 (l:List Ins) (i:Ins):(Ct l i).length=l.length+1:=by
 have:=Cu l i.addr l.length
 unfold Ct
 simp only [List.length_append,List.length_take,List.length_drop,List.length_singleton]
 omega
theorem L6 {f:UInt32→Ins} {ks:List UInt32} (hk:ks.Pairwise (·<·)) (hf:∀ b∈ks,(f b).addr=b) {a:UInt32} (ha:(f a).addr=a) (hn:a ∉ ks) :
  ∃ ks':List UInt32,ks'.Pairwise (·<·)∧(∀ b,b∈ks'↔b∈ks∨b=a)∧Ct (ks.map f) (f a)=ks'.map f:=by
 obtain ⟨p,hp⟩:∃ p,p=qJ (ks.map f) a (ks.map f).length:=⟨_,rfl⟩
 have hpl:=Cu (ks.map f) a (ks.map f).length
 have hlow:=EB (ks.map f) a (ks.map f).length
 have hup:=II (ks.map f) a (ks.map f).length
 rw [← hp] at hpl hlow hup
 rw [List.length_map] at hpl hup
 have hget:∀ j,(hj:j<ks.length)→((ks.map f).getD j default).addr=ks[j]:=fun j hj=>by
  rw [List.getD_eq_getElem?_getD,List.getElem?_map,List.getElem?_eq_getElem hj]
  exact hf _ (List.getElem_mem hj)
 refine ⟨ks.take p ++ [a] ++ ks.drop p,?_,fun b=>?_,?_⟩
 ·have hlt:∀ b∈ks.take p,b<a:=fun b hb=>by
   obtain ⟨j,hj,rfl⟩:=List.mem_take_iff_getElem.1 hb
   have hq:p - 1<ks.length:=by omega
   have h1:¬ a<ks[p - 1]:=by
    rcases hlow with h|h
    ·omega
    ·rw [hget _ hq] at h; exact h
   have h2:ks[j]=ks[p - 1]∨ks[j]<ks[p - 1]:=by
    by_cases e:j=p - 1
    ·left; simp only [e]
    ·right; exact List.pairwise_iff_getElem.1 hk j (p - 1) (by omega) hq (by omega)
   have h3:ks[j]≠a:=fun e=>hn (e ▸ List.getElem_mem _)
   rw [Ne,← UInt32.toNat_inj] at h3
   rw [UInt32.lt_iff_toNat_lt] at h1 ⊢
   rcases h2 with h2|h2
   ·rw [← UInt32.toNat_inj] at h2; omega
   ·rw [UInt32.lt_iff_toNat_lt] at h2; omega
  have hgt:∀ b∈ks.drop p,a<b:=fun b hb=>by
   obtain ⟨j,hj,rfl⟩:=List.mem_drop_iff_getElem.1 hb
   have:=hup (p+j) (by omega) (by omega)
   rw [hget _ (by omega)] at this
   exact this
  refine List.pairwise_append.2 ⟨List.pairwise_append.2 ⟨hk.sublist (List.take_sublist _ _),List.pairwise_singleton _ _,fun x hx y hy=>?_⟩,hk.sublist (List.drop_sublist _ _),fun x hx y hy=>?_⟩
  ·rw [List.mem_singleton.1 hy]; exact hlt x hx
  ·rcases List.mem_append.1 hx with hx|hx
   ·have h1:=hlt x hx
    have h2:=hgt y hy
    rw [UInt32.lt_iff_toNat_lt] at *; omega
   ·rw [List.mem_singleton.1 hx]; exact hgt y hy
 ·rw [List.mem_append,List.mem_append,List.mem_singleton]
  constructor
  ·rintro ((h|h)|h)
   ·exact .inl (List.mem_of_mem_take h)
   ·exact .inr h
   ·exact .inl (List.mem_of_mem_drop h)
  ·rintro (h|h)
   ·rw [← List.take_append_drop p ks] at h
    rcases List.mem_append.1 h with h|h
    ·exact .inl (.inl h)
    ·exact .inr h
   ·exact .inl (.inr h)
 ·unfold Ct
  rw [ha,← hp,← List.map_take,← List.map_drop,List.map_append,List.map_append]
  rfl
theorem yT {l:List UInt32}:l.Pairwise (fun a b=>ltU a b=true)↔l.Pairwise (·<·):=by
 unfold ltU
 simp only [decide_eq_true_eq]
structure RInv (l:List SecV) (ts:List TabV) (at_ es:List UInt32) (k:Nat) (work:List UInt32) (ins:List Ins) (bad:List UInt32):Prop where
 le:k≤work.length
 rest:∀ a∈work,Reach l ts at_ es a
 start:∀ a∈es,a∈work
 close:∀ a∈work.take k,(atP l a).2=true→∀ b∈iJ ts at_ (atP l a).1,b∈work
 isI:∃ ks:List UInt32,ks.Pairwise (·<·)∧(∀ a,a∈ks↔a∈work.take k∧(atP l a).2=true)∧ins=ks.map fun a=>(atP l a).1
 isB:bad.Pairwise (fun a b=>ltU a b=true)∧∀ a,a∈bad↔a∈work.take k∧(atP l a).2=false
 lWork:work.length≤es.length+66 * ins.length
 lBad:bad.length≤k
section
variable {l:List SecV} {ts:List TabV} {at_ es:List UInt32} {k:Nat} {work:List UInt32} {ins:List Ins} {bad:List UInt32} {a:UInt32}
theorem RInv.begin:RInv l ts at_ es 0 es [] [] :=
 ⟨Nat.zero_le _,fun a h=>.ent a h,fun a h=>h,fun a h=>by simp at h,⟨[],List.Pairwise.nil,fun a=>by simp,rfl⟩,⟨List.Pairwise.nil,fun a=>by simp⟩,by simp,Nat.le_refl _⟩
theorem po (hk:k<work.length) (ha:a=work.getD k default) (b:UInt32):b∈work.take (k+1)↔b∈work.take k∨b=a:=by
 rw [bN hk,List.mem_append,List.mem_singleton,ha]
theorem RInv.skip (h:RInv l ts at_ es k work ins bad) (hk:k<work.length) (ha:a=work.getD k default) (hs:Ay (work.take k) a=true):RInv l ts at_ es (k+1) work ins bad:=by
 have hm:=Fb.1 hs
 have he:∀ b,b∈work.take (k+1)↔b∈work.take k:=fun b=>by
  rw [po hk ha]
  exact ⟨fun q=>q.elim id (fun e=>e ▸ hm),.inl⟩
 obtain ⟨ks,k1,k2,k3⟩:=h.isI
 exact ⟨hk,h.rest,h.start,fun b hb=>h.close b ((he b).1 hb),⟨ks,k1,fun b=>by rw [k2,he],k3⟩,⟨h.isB.1,fun b=>by rw [h.isB.2,he]⟩,h.lWork,by have:=h.lBad; omega⟩
theorem RInv.isBad (h:RInv l ts at_ es k work ins bad) (hk:k<work.length) (ha:a=work.getD k default) (hf:(atP l a).2=false):RInv l ts at_ es (k+1) work ins (kC ltU bad a):=by
 have he:=po hk ha
 obtain ⟨ks,k1,k2,k3⟩:=h.isI
 refine ⟨hk,h.rest,h.start,fun b hb hb2=>?_,⟨ks,k1,fun b=>?_,k3⟩,⟨oL vK h.isB.1,fun b=>?_⟩,h.lWork,?_⟩
 ·rcases (he b).1 hb with q|q
  ·exact h.close b q hb2
  ·rw [q,hf] at hb2; cases hb2
 ·rw [k2,he]
  constructor
  ·rintro ⟨h1,h2⟩; exact ⟨.inl h1,h2⟩
  ·rintro ⟨h1|h1,h2⟩
   ·exact ⟨h1,h2⟩
   ·rw [h1,hf] at h2; cases h2
 ·rw [uN,h.isB.2,he]
  constructor
  ·rintro (⟨h1,h2⟩|rfl)
   ·exact ⟨.inl h1,h2⟩
   ·exact ⟨.inr rfl,hf⟩
  ·rintro ⟨h1|h1,h2⟩
   ·exact .inl ⟨h1,h2⟩
   ·exact .inr h1
 ·have:=rV ltU bad a
  have:=h.lBad
  omega
theorem RInv.found (hT:nf ts) (h:RInv l ts at_ es k work ins bad) (hk:k<work.length) (ha:a=work.getD k default) (hs:Ay (work.take k) a=false) (hf:(atP l a).2=true) :
  RInv l ts at_ es (k+1) (work ++ iJ ts at_ (atP l a).1) (Ct ins (atP l a).1) bad:=by
 have he:∀ b,b∈(work ++ iJ ts at_ (atP l a).1).take (k+1)↔b∈work.take k∨b=a:=fun b=>by
  rw [List.take_append_of_le_length (by omega)]; exact po hk ha b
 have hn:a ∉ work.take k:=fun q=>by rw [Fb.2 q] at hs; cases hs
 have hra:Reach l ts at_ es a:=h.rest a (by rw [ha]; exact ba hk)
 obtain ⟨ks,k1,k2,k3⟩:=h.isI
 obtain ⟨ks',q1,q2,q3⟩:=L6 (f:=fun a=>(atP l a).1) k1 (fun b hb=>(oW ((k2 b).1 hb).2).1) (oW hf).1 (fun q=>hn ((k2 a).1 q).1)
 have hll:=rS hT at_ (atP l a).1
 refine ⟨by rw [List.length_append]; omega,fun b hb=>?_,fun b hb=>List.mem_append_left _ (h.start b hb),fun b hb hb2 c hc=>?_,⟨ks',q1,fun b=>?_,by rw [k3]; exact q3⟩,⟨h.isB.1,fun b=>?_⟩,?_,by have:=h.lBad; omega⟩
 ·rcases List.mem_append.1 hb with q|q
  ·exact h.rest b q
  ·exact .step a b hra hf q
 ·rcases (he b).1 hb with q|q
  ·exact List.mem_append_left _ (h.close b q hb2 c hc)
  ·rw [q] at hc; exact List.mem_append_right _ hc
 ·rw [q2,k2,he]
  constructor
  ·rintro (⟨h1,h2⟩|rfl)
   ·exact ⟨.inl h1,h2⟩
   ·exact ⟨.inr rfl,hf⟩
  ·rintro ⟨h1|h1,h2⟩
   ·exact .inl ⟨h1,h2⟩
   ·exact .inr h1
 ·rw [h.isB.2,he]
  constructor
  ·rintro ⟨h1,h2⟩; exact ⟨.inl h1,h2⟩
  ·rintro ⟨h1|h1,h2⟩
   ·exact ⟨h1,h2⟩
   ·rw [h1,hf] at h2; cases h2
 ·have:=h.lWork
  rw [List.length_append,L8]; omega
theorem RInv.count (h:RInv l ts at_ es k work ins bad):ins.length≤totD l:=by
 obtain ⟨ks,k1,k2,k3⟩:=h.isI
 have:=nG (l:=ks) (l':=yn l) (rQ k1) fun b hb=>xU ((k2 b).1 hb).2
 rw [k3,List.length_map,← um]
 exact this
theorem RInv.all (h:RInv l ts at_ es k work ins bad) (hk:k=work.length) (b:UInt32):b∈work↔Reach l ts at_ es b:=by
 have hc:=h.close
 rw [hk,List.take_length] at hc
 refine ⟨h.rest b,fun q=>?_⟩
 induction q with
 | ent a q=>exact h.start a q
 | step b a _ q1 q2 ih=>exact hc b ih q1 a q2
def gi (ins:List Ins) (xs e:List UInt32):List UInt32:=xs.foldl (fun e a=>if inK ins a=true then kC ltU e a else e) e
def mZ (ts:List TabV) (at_:List UInt32) (ins is:List Ins) (e:List UInt32):List UInt32:=is.foldl (fun e i=>gi ins (eH ts at_ i) e) e
def lZ (ts:List TabV) (at_:List UInt32) (is:List Ins) (u:List UInt32):List UInt32:=is.foldl (fun u i=>if k6 ts at_ i=true then kC ltU u i.addr else u) u
theorem BC (ins:List Ins) (xs e:List UInt32) (x:UInt32):gi ins (xs ++ [x]) e=if inK ins x=true then kC ltU (gi ins xs e) x else gi ins xs e:=by simp [gi]
theorem KC (ins is:List Ins) (e:List UInt32) (i:Ins):mZ ts at_ ins (is ++ [i]) e=gi ins (eH ts at_ i) (mZ ts at_ ins is e):=by simp [mZ]
theorem AP (is:List Ins) (u:List UInt32) (i:Ins):lZ ts at_ (is ++ [i]) u=if k6 ts at_ i=true then kC ltU (lZ ts at_ is u) i.addr else lZ ts at_ is u:=by simp [lZ]
theorem uZ {ins:List Ins} {xs e:List UInt32} {j:Nat} (hj:j<xs.length) (h:inK ins (xs.getD j default)=true):kC ltU (gi ins (xs.take j) e) (xs.getD j default)=gi ins (xs.take (j+1)) e:=by
 rw [bN hj,BC,if_pos h]
theorem xM {ins:List Ins} {xs e:List UInt32} {j:Nat} (hj:j<xs.length) (h:¬ inK ins (xs.getD j default)=true):gi ins (xs.take j) e=gi ins (xs.take (j+1)) e:=by
 rw [bN hj,BC,if_neg h]
theorem BB {ins is:List Ins} {e:List UInt32} {j:Nat} (hj:j<is.length):gi ins (eH ts at_ (is.getD j default)) (mZ ts at_ ins (is.take j) e)=mZ ts at_ ins (is.take (j+1)) e:=by
 rw [bN hj,KC]
theorem Li {is:List Ins} {u:List UInt32} {j:Nat} (hj:j<is.length) (h:k6 ts at_ (is.getD j default)=true):kC ltU (lZ ts at_ (is.take j) u) (is.getD j default).addr=lZ ts at_ (is.take (j+1)) u:=by
 rw [bN hj,AP,if_pos h]
theorem N4 {is:List Ins} {u:List UInt32} {j:Nat} (hj:j<is.length) (h:¬ k6 ts at_ (is.getD j default)=true):lZ ts at_ (is.take j) u=lZ ts at_ (is.take (j+1)) u:=by
 rw [bN hj,AP,if_neg h]
theorem u0 (ins:List Ins):∀ (xs e:List UInt32),e.Pairwise (fun a b=>ltU a b=true) →
  (gi ins xs e).Pairwise (fun a b=>ltU a b=true)∧(∀ b,b∈gi ins xs e↔b∈e∨(b∈xs∧inK ins b=true))
 | [],e,h=>⟨h,fun b=>by simp [gi]⟩
 | x :: xs,e,h=>by
  have hs:gi ins (x :: xs) e=gi ins xs (if inK ins x=true then kC ltU e x else e):=rfl
  rw [hs]
  by_cases c:inK ins x=true
  ·rw [if_pos c]
   obtain ⟨h1,h2⟩:=u0 ins xs (kC ltU e x) (oL vK h)
   refine ⟨h1,fun b=>?_⟩
   rw [h2,uN,List.mem_cons]
   constructor
   ·rintro ((q|q)|q)
    ·exact .inl q
    ·subst q; exact .inr ⟨.inl rfl,c⟩
    ·exact .inr ⟨.inr q.1,q.2⟩
   ·rintro (q|⟨q|q,q2⟩)
    ·exact .inl (.inl q)
    ·exact .inl (.inr q)
    ·exact .inr ⟨q,q2⟩
  ·rw [if_neg c]
   obtain ⟨h1,h2⟩:=u0 ins xs e h
   refine ⟨h1,fun b=>?_⟩
   rw [h2,List.mem_cons]
   constructor
   ·rintro (q|q)
    ·exact .inl q
    ·exact .inr ⟨.inr q.1,q.2⟩
   ·rintro (q|⟨q|q,q2⟩)
    ·exact .inl q
    ·subst q; exact absurd q2 c
    ·exact .inr ⟨q,q2⟩
theorem I0 (ins:List Ins):∀ (is:List Ins) (e:List UInt32),e.Pairwise (fun a b=>ltU a b=true) →
  (mZ ts at_ ins is e).Pairwise (fun a b=>ltU a b=true)∧(∀ b,b∈mZ ts at_ ins is e↔b∈e∨((∃ i∈is,b∈eH ts at_ i)∧inK ins b=true))
 | [],e,h=>⟨h,fun b=>by simp [mZ]⟩
 | x :: xs,e,h=>by
  have hs:mZ ts at_ ins (x :: xs) e=mZ ts at_ ins xs (gi ins (eH ts at_ x) e):=rfl
  rw [hs]
  obtain ⟨g1,g2⟩:=u0 ins (eH ts at_ x) e h
  obtain ⟨h1,h2⟩:=I0 ins xs _ g1
  refine ⟨h1,fun b=>?_⟩
  rw [h2,g2]
  constructor
  ·rintro ((q|q)|⟨⟨i,q1,q2⟩,q3⟩)
   ·exact .inl q
   ·exact .inr ⟨⟨x,.head _,q.1⟩,q.2⟩
   ·exact .inr ⟨⟨i,.tail _ q1,q2⟩,q3⟩
  ·rintro (q|⟨⟨i,q1,q2⟩,q3⟩)
   ·exact .inl (.inl q)
   ·rcases List.mem_cons.1 q1 with rfl|q1
    ·exact .inl (.inr ⟨q2,q3⟩)
    ·exact .inr ⟨⟨i,q1,q2⟩,q3⟩
theorem Cc:∀ (is:List Ins) (u:List UInt32),u.Pairwise (fun a b=>ltU a b=true) →
  (lZ ts at_ is u).Pairwise (fun a b=>ltU a b=true)∧(∀ b,b∈lZ ts at_ is u↔b∈u∨∃ i∈is,k6 ts at_ i=true∧i.addr=b)
 | [],e,h=>⟨h,fun b=>by simp [lZ]⟩
 | x :: xs,e,h=>by
  have hs:lZ ts at_ (x :: xs) e=lZ ts at_ xs (if k6 ts at_ x=true then kC ltU e x.addr else e):=rfl
  rw [hs]
  by_cases c:k6 ts at_ x=true
  ·rw [if_pos c]
   obtain ⟨h1,h2⟩:=Cc xs (kC ltU e x.addr) (oL vK h)
   refine ⟨h1,fun b=>?_⟩
   rw [h2,uN]
   constructor
   ·rintro ((q|q)|⟨i,q1,q2⟩)
    ·exact .inl q
    ·exact .inr ⟨x,.head _,c,q.symm⟩
    ·exact .inr ⟨i,.tail _ q1,q2⟩
   ·rintro (q|⟨i,q1,q2⟩)
    ·exact .inl (.inl q)
    ·rcases List.mem_cons.1 q1 with rfl|q1
     ·exact .inl (.inr q2.2.symm)
     ·exact .inr ⟨i,q1,q2⟩
  ·rw [if_neg c]
   obtain ⟨h1,h2⟩:=Cc xs e h
   refine ⟨h1,fun b=>?_⟩
   rw [h2]
   constructor
   ·rintro (q|⟨i,q1,q2⟩)
    ·exact .inl q
    ·exact .inr ⟨i,.tail _ q1,q2⟩
   ·rintro (q|⟨i,q1,q2⟩)
    ·exact .inl q
    ·rcases List.mem_cons.1 q1 with rfl|q1
     ·exact absurd q2.1 c
     ·exact .inr ⟨i,q1,q2⟩
theorem lQ (ins:List Ins):∀ (xs e:List UInt32),(gi ins xs e).length≤e.length+xs.length
 | [],e=>Nat.le_refl _
 | x :: xs,e=>by
  have hs:gi ins (x :: xs) e=gi ins xs (if inK ins x=true then kC ltU e x else e):=rfl
  rw [hs]
  have h1:=lQ ins xs (if inK ins x=true then kC ltU e x else e)
  have h2:=rV ltU e x
  have:(if inK ins x=true then kC ltU e x else e).length≤e.length+1:=by split<;>omega
  rw [List.length_cons]; omega
theorem FV (hT:nf ts) (i:Ins):(eH ts at_ i).length≤64:=by
 have:=pT hT at_ i.addr
 unfold eH
 split
 ·simp
 ·split
  ·exact this
  ·simp
theorem Fy (hT:nf ts) (ins:List Ins):∀ (is:List Ins) (e:List UInt32),(mZ ts at_ ins is e).length≤e.length+64 * is.length
 | [],e=>Nat.le_refl _
 | x :: xs,e=>by
  have hs:mZ ts at_ ins (x :: xs) e=mZ ts at_ ins xs (gi ins (eH ts at_ x) e):=rfl
  rw [hs]
  have h1:=Fy hT ins xs (gi ins (eH ts at_ x) e)
  have h2:=lQ ins (eH ts at_ x) e
  have h3:=FV (at_:=at_) hT x
  rw [List.length_cons]; omega
theorem DX:∀ (is:List Ins) (u:List UInt32),(lZ ts at_ is u).length≤u.length+is.length
 | [],e=>Nat.le_refl _
 | x :: xs,e=>by
  have hs:lZ ts at_ (x :: xs) e=lZ ts at_ xs (if k6 ts at_ x=true then kC ltU e x.addr else e):=rfl
  rw [hs]
  have h1:=DX xs (if k6 ts at_ x=true then kC ltU e x.addr else e)
  have h2:=rV ltU e x.addr
  have:(if k6 ts at_ x=true then kC ltU e x.addr else e).length≤e.length+1:=by split<;>omega
  rw [List.length_cons]; omega
theorem RInv.code (h:RInv l ts at_ es k work ins bad) (hk:k=work.length):IsCode l ts at_ es ⟨ins,mZ ts at_ ins ins (gi ins es []),lZ ts at_ ins [],bad⟩:=by
 have ha:=h.all hk
 obtain ⟨ks,k1,k2,k3⟩:=h.isI
 have hb:=h.isB.2
 rw [hk,List.take_length] at k2 hb
 have hI:IsCode l ts at_ es ⟨ins,[],[],[]⟩→True:=fun _=>trivial
 have hr:∀ b,inK ins b=true↔Reach l ts at_ es b∧(atP l b).2=true:=fun b=>by
  unfold inK; rw [List.any_eq_true]
  constructor
  ·rintro ⟨i,hi,hb⟩
   have hb:=of_decide_eq_true hb
   rw [k3] at hi
   obtain ⟨c,hc,rfl⟩:=List.mem_map.1 hi
   have h2:=(k2 c).1 hc
   change (atP l c).1.addr=b at hb
   rw [(oW h2.2).1] at hb
   subst hb
   exact ⟨(ha c).1 h2.1,h2.2⟩
  ·rintro ⟨h1,h2⟩
   exact ⟨(atP l b).1,by rw [k3]; exact List.mem_map.2 ⟨b,(k2 b).2 ⟨(ha b).2 h1,h2⟩,rfl⟩,decide_eq_true (oW h2).1⟩
 obtain ⟨e1,e2⟩:=u0 ins es [] List.Pairwise.nil
 obtain ⟨g1,g2⟩:=I0 (ts:=ts) (at_:=at_) ins ins _ e1
 obtain ⟨u1,u2⟩:=Cc (ts:=ts) (at_:=at_) ins [] List.Pairwise.nil
 refine ⟨⟨ks,k1,fun b=>by rw [k2,ha],k3⟩,⟨yT.1 h.isB.1,fun b=>by show b∈bad↔_; rw [hb,ha]⟩,⟨yT.1 g1,fun b=>?_⟩,⟨yT.1 u1,fun b=>?_⟩⟩
 ·show b∈mZ _ _ _ _ _↔_
  rw [g2,e2,hr]
  constructor
  ·rintro ((q|q)|⟨⟨i,q1,q2⟩,q3⟩)
   ·cases q
   ·exact ⟨q.2,.inl q.1⟩
   ·rw [k3] at q1
    obtain ⟨c,hc,rfl⟩:=List.mem_map.1 q1
    have:=(k2 c).1 hc
    exact ⟨q3,.inr ⟨c,⟨(ha c).1 this.1,this.2⟩,q2⟩⟩
  ·rintro ⟨q,q2|⟨c,⟨c1,c2⟩,c3⟩⟩
   ·exact .inl (.inr ⟨q2,q⟩)
   ·exact .inr ⟨⟨(atP l c).1,by rw [k3]; exact List.mem_map.2 ⟨c,(k2 c).2 ⟨(ha c).2 c1,c2⟩,rfl⟩,c3⟩,q⟩
 ·show b∈lZ _ _ _ _↔_
  rw [u2]
  constructor
  ·rintro (q|⟨i,q1,q2,q3⟩)
   ·cases q
   ·rw [k3] at q1
    obtain ⟨c,hc,rfl⟩:=List.mem_map.1 q1
    have h2:=(k2 c).1 hc
    change (atP l c).1.addr=b at q3
    rw [(oW h2.2).1] at q3
    subst q3
    exact ⟨⟨(ha c).1 h2.1,h2.2⟩,q2⟩
  ·rintro ⟨⟨q1,q2⟩,q3⟩
   exact .inr ⟨(atP l b).1,by rw [k3]; exact List.mem_map.2 ⟨b,(k2 b).2 ⟨(ha b).2 q1,q2⟩,rfl⟩,q3,(oW q2).1⟩
end
theorem Pw {ts:List TabV} {at_:List UInt32} {i:Ins} (h:uO i.op=false∨(eY ts at_ i.addr).isSome=true):¬ k6 ts at_ i=true:=by
 unfold k6
 rcases h with h|h
 ·rw [h]; simp
 ·cases hk:eY ts at_ i.addr with
  | none=>rw [hk] at h; cases h
  | some x=>simp
section
variable {P:Program} {ops:Array Oper} {Q:Exit→Act→World→Prop} {N:Nat} {F:Bg} {L:List Ent} {M:Fr} {ty:TypeId} {pos:String} {after:Array Edge} {rest:List Oper} {d:Nat}
theorem Jc {G:Bg} {X:Act→World→Prop} (hF:F.le G) (K:Tr N F L M X):Tr N G L M X:=fun a w ha hw=>K a w ha (hw.weaken hF)
theorem KT {α:Type} {E:Enc α} {l:List α} {T:TypeId} {f:FuncId} {xs:List Operand} {vs:List Value} {ts:Array TypeId} (hx:l3 M xs=some vs)
  (he:∀ (args:Array Value) (w:World),(callFunc f args).run P w=.ok (.enter f args) w)
  (hc:∀ w,HpOK F L w→Calls P f vs.toArray w fun e w'=>∃ V,e=.returned V∧Ext w w'∧(Sl F.blk E l V∨dY w w' T E l V)) (hd:Nat.ble (d+1) N=true)
  (K:∀ V F',F.le F'→Sl F'.blk E l V→Tr N F' L ((d,V) :: M) (wpList P ops Q rest)) :
  Tr N F L M (wpList P ops Q (⟨some d,.call { callee:=.value (.func f),args:=xs.toArray,argTypes:=ts },ty,pos,after,none⟩ :: rest)):=by
 intro a w ha hw
 refine wpList_plain rfl fun K' hK=>?_
 have hr:(execOp a.eval ⟨some d,.call { callee:=.value (.func f),args:=xs.toArray,argTypes:=ts },ty,pos,after,none⟩).run P w=.ok (.enter f vs.toArray) w:=by
  have:=ha.evals hx
  simp [execOp,resolve,Deferred.ofValue,Act.eval,invoke,he,this]
 unfold Oper.wp
 rw [hr]
 refine (hc w hw).mono fun e w' ⟨V,h1,h2,h3⟩=>?_
 subst h1
 rcases h3 with h3|h3
 ·exact hK _ _ (K V F (Bg.le.refl F) h3 _ _ (ha.put (Nat.le_of_ble_eq_true hd)) (hw.grow h2))
 ·exact hK _ _ (kw (.here _) (fun F' e1 e2=>K V F' e1 e2) _ _ (ha.put (Nat.le_of_ble_eq_true hd)) (hw.newRow h2 h3))
end
def pS (ins:List Ins) (ents:List UInt32) (ts:List (List UInt32)):List UInt32:=ts.foldl (fun o t=>gi ins t o) (gi ins ents [])
theorem Ep (ins:List Ins):∀ (ts:List (List UInt32)) (o:List UInt32),o.Pairwise (fun a b=>ltU a b=true) →
  (ts.foldl (fun o t=>gi ins t o) o).Pairwise (fun a b=>ltU a b=true)∧(∀ b,b∈ts.foldl (fun o t=>gi ins t o) o↔b∈o∨b∈k9 ins ts)
 | [],o,h=>⟨h,fun b=>by simp [k9]⟩
 | t :: ts,o,h=>by
  obtain ⟨h1,h2⟩:=u0 ins t o h
  obtain ⟨h3,h4⟩:=Ep ins ts _ h1
  refine ⟨h3,fun b=>?_⟩
  rw [List.foldl_cons,h4,h2]
  unfold k9
  rw [List.flatMap_cons,List.mem_append,List.mem_filter,or_assoc]
theorem LI (ins:List Ins) (ents:List UInt32) (ts:List (List UInt32)):pS ins ents ts=jR ins ents ts:=by
 obtain ⟨h1,h2⟩:=Ep ins (ents :: ts) [] List.Pairwise.nil
 obtain ⟨h3,h4⟩:=HK vK (l:=hZ (k9 ins (ents :: ts))) ((mQ _).imp fun h=>by
  unfold ltU; rw [decide_eq_false_iff_not,UInt32.not_lt]; exact h)
 refine zC (yT.1 h1) (yT.1 h3) fun a=>?_
 show a∈(ents :: ts).foldl (fun o t=>gi ins t o) []↔_
 rw [h2]
 exact ⟨fun q=>(h4 a).2 (mW.2 (q.resolve_left (by simp))),fun q=>.inr (mW.1 ((h4 a).1 q))⟩
theorem G6 {ins:List Ins} {ents:List UInt32} {ts:List (List UInt32)} {k:Nat} (hk:k<ts.length):gi ins (ts.getD k default) (pS ins ents (ts.take k))=pS ins ents (ts.take (k+1)):=by
 unfold pS
 rw [bN hk,List.foldl_append]; rfl
theorem JO (ins:List Ins) (ents:List UInt32):∀ (ts:List (List UInt32)) (n:Nat),(∀ t∈ts,t.length≤n)→(pS ins ents ts).length≤ents.length+ts.length * n:=by
 have key:∀ (ts:List (List UInt32)) (o:List UInt32) (n:Nat),(∀ t∈ts,t.length≤n)→(ts.foldl (fun o t=>gi ins t o) o).length≤o.length+ts.length * n:=by
  intro ts
  induction ts with
  | nil=>intro o n _; simp
  | cons t ts ih =>
   intro o n h
   have h1:=ih (gi ins t o) n (fun x hx=>h x (.tail _ hx))
   have h2:=lQ ins t o
   have h3:=h t (.head _)
   rw [List.foldl_cons,List.length_cons,Nat.add_mul]; omega
 intro ts n h
 have h1:=key ts (gi ins ents []) n h
 have h2:=lQ ins ents []
 rw [List.length_nil] at h2
 unfold pS; omega
def wk (ins:List Ins) (a:UInt32) (ss:List (List StV)):StV:=ss.foldl (fun b s=>gr b (eR ins s a).1 8) (gI 8)
theorem KO {ins:List Ins} {a:UInt32} {ss:List (List StV)} {q:Nat} (hq:q<ss.length):wk ins a (ss.take (q+1))=gr (wk ins a (ss.take q)) (eR ins (ss.getD q default) a).1 8:=pY _ _ _ hq
theorem sH (a b:StV):∀ k:Nat,k≤8→∀ j:Nat,j<k→(gr a b k).get (j:Int)=dK (a.get (j:Int)) (b.get (j:Int))
 | k+1,hk,j,hj=>by
  show ((gr a b k).set (k:Int) _).get _=_
  rw [C4 (by omega) _ _ (by omega)]
  by_cases e:j=k
  ·subst e; rw [if_pos rfl]
  ·rw [if_neg (by omega)]; exact sH a b k (by omega) j (by omega)
theorem MG (x:VSet):dK emptyS x=ae x:=by
 unfold dK kB
 rw [show ae emptyS=emptyS from rfl]
 by_cases h:(ae x).top=true
 ·rw [if_pos (.inr h)]
  rcases NZ (gZ x) (.inl h) with e|e
  ·exact e.symm
  ·rw [e] at h; cases h
 ·rw [if_neg (by rintro (q|q); cases q; exact h q),if_pos (show emptyS.em=true from rfl)]
theorem FB {j:Nat} (hj:j<8):(gI 8).get (j:Int)=emptyS:=eight (X:=fun j=>(gI 8).get (j:Int)=emptyS) rfl rfl rfl rfl rfl rfl rfl rfl hj
theorem FY {ins:List Ins} {a:UInt32}:∀ (ss:List (List StV)) (b c:StV),(∀ s∈ss,(eR ins s a).2=true)→(∀ j:Nat,j<8→ae (b.get (j:Int))=ae (c.get (j:Int))) →
  (ss.foldl (AG ins a) (b,true)).2=true∧∀ j:Nat,j<8→ae ((ss.foldl (AG ins a) (b,true)).1.get (j:Int))=ae ((ss.foldl (fun b s=>gr b (eR ins s a).1 8) c).get (j:Int))
 | [],b,c,_,h=>⟨rfl,h⟩
 | s :: ss,b,c,hk,h=>by
  have e:AG ins a (b,true) s=(gr b (eR ins s a).1 8,true):=by unfold AG; rw [if_pos (hk s (.head _)),if_pos rfl]
  rw [List.foldl_cons,List.foldl_cons,e]
  refine FY ss _ _ (fun x hx=>hk x (.tail _ hx)) fun j hj=>?_
  rw [sH _ _ 8 (by omega) j hj,sH _ _ 8 (by omega) j hj]
  unfold dK
  rw [h j hj]
theorem O2 {ins:List Ins} {a:UInt32} {ss:List (List StV)} (hk:∀ s∈ss,(eR ins s a).2=true):(ss=[]∧sg ins a ss=(gx,false))∨((sg ins a ss).2=true∧∀ j:Nat,j<8→ae ((sg ins a ss).1.get (j:Int))=ae ((wk ins a ss).get (j:Int))):=by
 cases ss with
 | nil=>exact .inl ⟨rfl,rfl⟩
 | cons s t =>
  right
  have e:AG ins a (gx,false) s=((eR ins s a).1,true):=by unfold AG; rw [if_pos (hk s (.head _)),if_neg (by simp)]
  unfold sg wk
  rw [List.foldl_cons,List.foldl_cons,e]
  refine FY t _ _ (fun x hx=>hk x (.tail _ hx)) fun j hj=>?_
  rw [sH _ _ 8 (by omega) j hj,FB hj,MG,gg]
theorem Ah {l:List SecV} {i:Ins} {x y:VSet} (h:ae x=ae y):aQ l i x=aQ l i y:=by
 have key:∀ x:VSet,aQ l i x=aQ l i (ae x):=fun x=>by
  by_cases v:eD x=true
  ·rw [show ae x=x from if_pos v]
  ·rw [show ae x=iL from if_neg v]
   unfold aQ
   rw [if_pos (show (eD x=false∨x.em=true)∨x.top=true from .inl (.inl (by simpa using v))),if_pos (show (eD iL=false∨iL.em=true)∨iL.top=true from .inr rfl)]
 rw [key x,key y,h]
theorem D7 {l:List SecV} {i:Ins}:(aQ l i emptyS).2≠0:=by
 unfold aQ
 split
 ·simp
 split
 ·assumption
 ·rw [if_pos (.inl (.inr rfl))]; simp
def C7 (l:List SecV) (ins:List Ins) (ss:List (List StV)) (f:FndV) (i:Ins):FndV :=
 if ow i=true∧(aQ l i ((wk ins i.addr ss).get i.a)).2=0 then ⟨f.ts ++ [(aQ l i ((wk ins i.addr ss).get i.a)).1],f.at_ ++ [i.addr]⟩ else f
theorem nH {l:List SecV} {ins:List Ins} {ss:List (List StV)} {f:FndV} {i:Ins} (hk:∀ s∈ss,(eR ins s i.addr).2=true):C7 l ins ss f i=kM l ins ss f i:=by
 unfold C7 kM
 by_cases hi:ow i=true
 case neg=>rw [if_neg (fun q=>hi q.1),if_neg (fun q=>hi q.1)]
 have hr:0≤i.a∧i.a<8:=by
  have:eN i=0:=by unfold ow at hi; simp at hi; exact hi.1
  exact (ly this).2.1
 obtain ⟨n,hn⟩:∃ n:Nat,i.a=(n:Int):=⟨i.a.toNat,by omega⟩
 rw [hn]
 rcases O2 hk with ⟨h1,h2⟩|⟨h1,h2⟩
 ·rw [h2]
  subst h1
  have e:(wk ins i.addr []).get (n:Int)=emptyS:=FB (by omega)
  rw [e,if_neg (fun q=>D7 q.2),if_neg (fun q=>by cases q.2.1)]
 ·have e:aQ l i ((sg ins i.addr ss).1.get (n:Int))=aQ l i ((wk ins i.addr ss).get (n:Int)):=Ah (h2 n (by omega))
  rw [e]
  by_cases h3:(aQ l i ((wk ins i.addr ss).get (n:Int))).2=0
  ·rw [if_pos ⟨hi,h3⟩,if_pos ⟨hi,h1,h3⟩]
  ·rw [if_neg (fun q=>h3 q.2),if_neg (fun q=>h3 q.2.2)]
theorem tL {l:List SecV} {ins:List Ins} {ss:List (List StV)} {f:FndV} {i:Ins} {b:StV} (h1:ow i=true) (hb:b=wk ins i.addr ss) (h2:(aQ l i (b.get i.a)).2=0):C7 l ins ss f i=⟨f.ts ++ [(aQ l i (b.get i.a)).1],f.at_ ++ [i.addr]⟩:=by
 subst hb; exact if_pos ⟨h1,h2⟩
theorem vV {l:List SecV} {ins:List Ins} {ss:List (List StV)} {f:FndV} {i:Ins} {b:StV} (hb:b=wk ins i.addr ss) (h2:¬ (aQ l i (b.get i.a)).2=0):C7 l ins ss f i=f:=by
 subst hb; exact if_neg (fun q=>h2 q.2)
theorem Gg {l:List Ins} {entry:UInt32} {n:Nat} (h:(cg l entry n).2=0):(cg l entry n).1.length=l.length:=by
 have key:∀ (gd:List Int) (es:List (List (Int × Bool))) (n:Nat) (s:VSt),(fP l gd es n s).2=0→(fP l gd es n s).1.length=s.st.length:=by
  intro gd es n
  induction n with
  | zero=>intro s hs; unfold fP at hs ⊢; split at hs<;>simp_all
  | succ n ih =>
   intro s hs
   unfold fP at hs ⊢
   split at hs
   ·rename_i q; rw [if_pos q]
   ·rename_i q
    rw [if_neg q,ih _ hs]
    exact (tq _ _ _ _ _).1
 unfold cg at h ⊢
 split at h
 ·simp at h
 split at h
 ·simp at h
 rename_i q1 q2
 rw [if_neg q1,if_neg q2,key _ _ _ _ h]
 simp [lH]
theorem Fw {ins:List Ins}:∀ {rts:List UInt32},me ins rts=0→∀ r∈rts,(cg ins r 4096).2=0
 | [],_,_,h=>by cases h
 | r :: t,h,x,hx=>by
  simp only [me] at h
  split at h
  ·rename_i q; exact absurd h q
  ·rename_i q
   rcases List.mem_cons.1 hx with rfl|hx
   ·simpa using q
   ·exact Fw h x hx
theorem KN {ins:List Ins} {rts:List UInt32} (h:me ins rts=0) {i:Nat} (hi:i<ins.length):∀ s∈kh ins rts,(eR ins s (ins.getD i default).addr).2=true:=by
 intro s hs
 unfold kh at hs
 obtain ⟨r,hr,rfl⟩:=List.mem_map.1 hs
 have hl:=Gg (Fw h r hr)
 have hf:=zg (l:=ins) (k:=i) hi
 unfold bD at hf
 unfold eR
 rw [if_neg (by rw [hl]; omega)]
theorem RoundIs.uniq {l:List SecV} {es:List UInt32} {ts ts':List TabV} {at_:List UInt32} {o o':CodeP × FndV × Int} (h:RoundIs l es ts at_ o) (h':RoundIs l es ts' at_ o') (ht:ts.map (·.data)=ts'.map (·.data)):o=o':=by
 obtain ⟨c,e,h1,h2⟩:=h
 obtain ⟨c',e',h1',h2'⟩:=h'
 obtain ⟨rfl,rfl⟩:=(yi ht h1).uniq h1'
 rw [← ht] at h2'
 split at h2
 ·rename_i q
  rw [if_pos q] at h2'
  exact h2.trans h2'.symm
 ·rename_i q
  rw [if_neg q] at h2'
  exact h2.trans h2'.symm
theorem Rnds.uniq {l:List SecV} {es:List UInt32}:∀ {n:Nat} {f f':FndV},Rnds l es n f→Rnds l es n f'→f=f':=by
 intro n
 induction n with
 | zero=>intro f f' h h'; cases h; cases h'; rfl
 | succ n ih =>
  intro f f' h h'
  cases h with
  | step _ g ts o k ht hr h0 hn=>cases h' with
   | step _ g' ts' o' k' ht' hr' h0' hn' =>
    obtain rfl:=ih k k'
    rw [hr.uniq hr' (ht.trans ht'.symm)]
theorem Rnds.go {l:List SecV} {es:List UInt32} {f:FndV} {n m:Nat} (h:Rnds l es n f) (hm:m<n):∃ g ts o,Rnds l es m g∧ts.map (·.data)=g.ts∧RoundIs l es ts g.at_ o∧o.2.2=0∧¬ (o.2.1.at_=g.at_∧o.2.1.ts=g.ts):=by
 induction h with
 | zero=>omega
 | step n g ts o k ht hr h0 hn ih =>
  by_cases e:m=n
  ·subst e; exact ⟨g,ts,o,k,ht,hr,h0,hn⟩
  ·exact ih (by omega)
structure LastR (l:List SecV) (es:List UInt32) (n:Nat) (f:FndV) (o:CodeP × FndV × Int):Prop where
 rn:Rnds l es n f
 rd:∃ ts:List TabV,ts.map (·.data)=f.ts∧RoundIs l es ts f.at_ o
 ends:o.2.2≠0∨(o.2.1.at_=f.at_∧o.2.1.ts=f.ts)
theorem LastR.uniq {l:List SecV} {es:List UInt32} {n m:Nat} {f g:FndV} {o o':CodeP × FndV × Int} (h:LastR l es n f o) (h':LastR l es m g o'):n=m∧o=o':=by
 have key:∀ {n m:Nat} {f g:FndV} {o o':CodeP × FndV × Int},LastR l es n f o→LastR l es m g o'→n<m→False:=by
  intro n m f g o o' h h' hlt
  obtain ⟨f2,ts2,o2,k1,k2,k3,k4,k5⟩:=h'.rn.go hlt
  obtain rfl:=k1.uniq h.rn
  obtain ⟨ts,q1,q2⟩:=h.rd
  obtain rfl:=k3.uniq q2 (k2.trans q1.symm)
  rcases h.ends with q|q
  ·exact q k4
  ·exact k5 q
 have hnm:n=m:=by
  rcases Nat.lt_trichotomy n m with q|q|q
  ·exact (key h h' q).elim
  ·exact q
  ·exact (key h' h q).elim
 subst hnm
 obtain rfl:=h.rn.uniq h'.rn
 obtain ⟨ts,q1,q2⟩:=h.rd
 obtain ⟨ts',q1',q2'⟩:=h'.rd
 exact ⟨rfl,q2.uniq q2' (q1.trans q1'.symm)⟩
theorem LastR.out {l:List SecV} {es:List UInt32} {n m:Nat} {f g:FndV} {o:CodeP × FndV × Int} (h:LastR l es n f o) (hn:n<m) (hg:Rnds l es m g):False:=by
 obtain ⟨f2,ts2,o2,k1,k2,k3,k4,k5⟩:=hg.go hn
 obtain rfl:=k1.uniq h.rn
 obtain ⟨ts,q1,q2⟩:=h.rd
 obtain rfl:=k3.uniq q2 (k2.trans q1.symm)
 rcases h.ends with q|q
 ·exact q k4
 ·exact k5 q
theorem ResIs.uniq {l:List SecV} {es:List UInt32} {o o':CodeP × FndV × Int} (h:ResIs l es o) (h':ResIs l es o'):o=o':=by
 cases h with
 | err n f ts p h hn ht hr h0 ho =>
  have L1:LastR l es n f p:=⟨h,⟨ts,ht,hr⟩,.inl h0⟩
  cases h' with
  | err m g ts' p' h' hm ht' hr' h0' ho' =>
   obtain ⟨_,rfl⟩:=L1.uniq ⟨h',⟨ts',ht',hr'⟩,.inl h0'⟩
   exact ho.trans ho'.symm
  | ok m g ts' p' h' hm ht' hr' h0' hs' ho' =>
   obtain ⟨_,rfl⟩:=L1.uniq ⟨h',⟨ts',ht',hr'⟩,.inr hs'⟩
   exact absurd h0' h0
  | out g hg ho'=>exact (L1.out hn hg).elim
 | ok n f ts p h hn ht hr h0 hs ho =>
  have L1:LastR l es n f p:=⟨h,⟨ts,ht,hr⟩,.inr hs⟩
  cases h' with
  | err m g ts' p' h' hm ht' hr' h0' ho' =>
   obtain ⟨_,rfl⟩:=L1.uniq ⟨h',⟨ts',ht',hr'⟩,.inl h0'⟩
   exact absurd h0 h0'
  | ok m g ts' p' h' hm ht' hr' h0' hs' ho' =>
   obtain ⟨_,rfl⟩:=L1.uniq ⟨h',⟨ts',ht',hr'⟩,.inr hs'⟩
   exact ho.trans ho'.symm
  | out g hg ho'=>exact (L1.out hn hg).elim
 | out f hf ho =>
  cases h' with
  | err m g ts' p' h' hm ht' hr' h0' ho'=>exact (LastR.out ⟨h',⟨ts',ht',hr'⟩,.inl h0'⟩ hm hf).elim
  | ok m g ts' p' h' hm ht' hr' h0' hs' ho'=>exact (LastR.out ⟨h',⟨ts',ht',hr'⟩,.inr hs'⟩ hm hf).elim
  | out g hg ho'=>exact ho.trans ho'.symm
theorem Pick.right:∀ (A B:List Ent),Pick (A ++ B) B
 | [],B=>.refl B
 | a :: A,B=>.skip (Pick.right A B)
section
variable {P:Program} {N:Nat} {F:Bg} {L:List Ent} {M:Fr}
theorem wn {fn:Func} {R:Ending→World→Prop} {t t' T T':TypeId} {u s r:Tmp} {v:Value} {b b' k k':Nat} {cs cs':List Value} (hr:fn.results=#[.cell u t,.cell s t',.tmp r]) (hv:look M u=some (.pointer (some ⟨b,0,none⟩))) (hs:look M s=some (.pointer (some ⟨b',0,none⟩))) (hx:look M r=some v) (hm:cellE b cs T∈L) (hm':cellE b' cs' T'∈L)
  (hagg:∀ w,(isAgg t).run P w=.ok true w) (hz:∀ w,(sizeOf t).run P w=.ok k w) (hl:cs.length=k) (hagg':∀ w,(isAgg t').run P w=.ok true w) (hz':∀ w,(sizeOf t').run P w=.ok k' w) (hl':cs'.length=k') (h:∀ w,HpOK F L w→R (.returned (.tuple #[.agg cs.toArray,.agg cs'.toArray,v])) w) (hD:look M mk0=some undef:=by rfl) :
  Tr N F L M (bodyPost P fn R .ret):=fun a w ha hw=>⟨ha.defers0 hD,_,by
   have h1:=ha.val u _ hv
   have h2:=ha.val s _ hs
   have h3:=ha.val r _ hx
   rw [Array.getD_eq_getD_getElem?] at h1 h2 h3
   simp [results,hr,h1,h2,h3,asAddr,mT (hw.ent _ hm) hagg hz hl,mT (hw.ent _ hm') hagg' hz' hl'],h w hw⟩
end
end Go.HL
namespace Go.HL
open Go Go.Deep Go.ChangeShapes Go.WideShapes
section
variable {H:Type} {enc:TypeId × Value→H} {P:Program} {w:World} {base:Nat} {spare:Nat→Bool} {held:Bool}
theorem G0 {α:Type} [Inhabited α] {E:Enc α} {R:α→Prop} {t e:TypeId} {fuel:Nat} {V:Value} {x:DataW H × List MemPlace} (ht:P.underlying t=some (.slice e)) (hc:P.cellsOf e=E.k) (hk:0<E.k)
  (hf:∀ n cs y,cs.length=E.k→DataW.trod enc P w base spare held n e cs=some y→∃ a:α,cs=E.enc a∧R a)
  (h:DataW.trod enc P w base spare held fuel t [V]=some x):∃ l:List α,Sl (hp w) E l V∧∀ a∈l,R a:=by
 rcases open_slice ht h with ⟨h0,_⟩|⟨a,len,cap,m,n,D,Pl,hv,hb,hl,hm,hmm,_,hx⟩
 ·simp only [List.cons.injEq,and_true] at h0
  subst h0
  exact ⟨[],Sl.nil _ _,by simp⟩
 ·simp only [List.cons.injEq,and_true] at hv
  subst hv
  have hlm:len≤m:=by rw [hmm]; split<;>omega
  have each:∀ i,i<len→∃ q:α,w.cells? base (a.add (i * E.k)) E.k=some (E.enc q)∧R q:=fun i hi=>by
   obtain ⟨cs',h1,h2⟩:=hx i (by omega)
   rw [hc] at h1
   obtain ⟨q,rfl,hq⟩:=hf n cs' _ (World.cells?_some h1).2.1 h2
   exact ⟨q,h1,hq⟩
  obtain ⟨f,hfn⟩:=choose_lt each
  have hsp:0<len→a=⟨a.block,a.off,none⟩:=fun hl0=>by
   have h1:=(World.cells?_some (hfn 0 hl0).1).2.2 0 hk
   have hlen:0<(E.enc (f 0)).length:=by rw [E.len]; exact hk
   rw [List.getElem?_eq_getElem hlen] at h1
   have hsp:=World.cell?_spot h1
   obtain ⟨b,o,sp⟩:=a
   have:sp=none:=by simpa [Addr.add] using hsp
   subst this
   rfl
  refine ⟨(List.range len).map f,⟨⟨some a,cap,by simp,by simpa using hl,hm,fun hne=>?_⟩,fun i q hq=>?_⟩,fun q hq=>?_⟩
  ·have hl0:0<len:=by
    rcases Nat.eq_zero_or_pos len with h|h
    ·subst h; simp at hne
    ·exact h
   rw [hsp hl0]; rfl
  ·have hi:i<len:=by
    have:=(List.getElem?_eq_some_iff.1 hq).1
    simpa using this
   have hq':f i=q:=by simpa [hi] using hq
   subst hq'
   have ha:=hsp (by omega)
   obtain ⟨b,o,sp⟩:=a
   obtain rfl:sp=none:=by simpa using ha
   have hc':=(World.cells?_some (hfn i hi).1).2.2
   have hlen:(E.enc (f i)).length=E.k:=E.len _
   have eA:∀ j,(((⟨b,o,none⟩:Addr).add (i * E.k)).add j)=⟨b,o+i * E.k+j,none⟩:=fun j=>by
    rw [Go.Deep.add_add]; simp only [Addr.add]
    by_cases h0:i * E.k+j=0
    ·rw [if_pos h0]
     have:i * E.k=0:=by omega
     have:j=0:=by omega
     simp_all
    ·rw [if_neg h0,Nat.add_assoc]
   have h1:=hc' 0 hk
   rw [List.getElem?_eq_getElem (by omega),eA] at h1
   have hb1:∃ cs T fz,w.heap[b]?=some (.cells cs T fz):=by
    unfold World.cell? at h1
    split at h1
    ·rename_i cs T fz hh; exact ⟨cs,T,fz,hh⟩
    ·simp at h1
   obtain ⟨cs,T,fz,hh⟩:=hb1
   refine ⟨cs,T,fz,hh,fun j v hj=>?_⟩
   have hjk:j<E.k:=by have:=(List.getElem?_eq_some_iff.1 hj).1; omega
   have h2:=hc' j hjk
   rw [hj,eA] at h2
   unfold World.cell? at h2
   simp only [hh] at h2
   simp only [ofs]
   simpa using h2
  ·obtain ⟨i,hi,rfl⟩:=List.mem_map.1 hq
   exact (hfn i (List.mem_range.1 hi)).2
theorem Lj {n:Int} (h:(Lit.int .u8 n).wf=true):∃ x:UInt8,n=(x.toNat:Int):=by
 have:=bounds_u8 h
 refine ⟨UInt8.ofNat n.toNat,?_⟩
 rw [UInt8.toNat_ofNat']; omega
theorem AQ {n:Int} (h:(Lit.int .u32 n).wf=true):∃ x:UInt32,n=(x.toNat:Int):=by
 have:=bounds_u32 h
 refine ⟨UInt32.ofNat n.toNat,?_⟩
 rw [UInt32.toNat_ofNat']; omega
theorem OJ {e:TypeId} (he:P.underlying e=some (.int .u8)) {n:Nat} {cs:List Value} {y:DataW H × List MemPlace} (h:DataW.trod enc P w base spare held n e cs=some y):∃ a,cs=cd.enc a∧True:=by
 obtain ⟨z,rfl,_,hw⟩:=DataW.trod_int he h
 obtain ⟨x,rfl⟩:=Lj hw
 exact ⟨x,rfl,trivial⟩
end
section
variable {H:Type} {enc:TypeId × Value→H} {P:Program} {w:World} {base:Nat} {spare:Nat→Bool} {held:Bool}
def GH (P:Program) (t:TypeId) (d:DataW H):Prop:=∀ n∈d.weights P t,n≤reachBytes
theorem weightsAll_mem {P:Program} {e:TypeId}:∀ {l:List (DataW H)} {d:DataW H},d∈l→∀ n∈d.weights P e,n∈DataW.weightsAll P e l
 | x :: l,d,h,n,hn=>by
  simp only [DataW.weightsAll,List.mem_append]
  rcases List.mem_cons.1 h with rfl|h
  ·exact .inl hn
  ·exact .inr (weightsAll_mem h n hn)
theorem wE {α:Type} [Inhabited α] {E:Enc α} {R:α→Prop} {t e:TypeId} {fuel:Nat} {V:Value} {x:DataW H × List MemPlace} (ht:P.underlying t=some (.slice e)) (hc:P.cellsOf e=E.k) (hk:0<E.k) (hL:GH P t x.1)
  (hf:∀ n cs y,cs.length=E.k→DataW.trod enc P w base spare held n e cs=some y→GH P e y.1→∃ a:α,cs=E.enc a∧R a)
  (h:DataW.trod enc P w base spare held fuel t [V]=some x):∃ l:List α,Sl (hp w) E l V∧(∀ a∈l,R a)∧l.length * P.bytesOf e≤reachBytes:=by
 rcases open_slice ht h with ⟨h0,_⟩|⟨a,len,cap,m,n,D,Pl,hv,hb,hl,hm,hmm,hxx,hx⟩
 ·simp only [List.cons.injEq,and_true] at h0
  subst h0
  exact ⟨[],Sl.nil _ _,by simp,by simp⟩
 ·simp only [List.cons.injEq,and_true] at hv
  subst hv
  subst hxx
  have hlm:len≤m:=by rw [hmm]; split<;>omega
  have hw:DataW.weights P t (.slice ((List.range len).map D) ((List.range (m - len)).map fun j=>D (len+j)))=(((List.range len).map D).length+((List.range (m - len)).map fun j=>D (len+j)).length) * P.bytesOf e :: (DataW.weightsAll P e ((List.range len).map D) ++ DataW.weightsAll P e ((List.range (m - len)).map fun j=>D (len+j))):=by
   simp only [DataW.weights,ht]
  have each:∀ i,i<len→∃ q:α,w.cells? base (a.add (i * E.k)) E.k=some (E.enc q)∧R q:=fun i hi=>by
   obtain ⟨cs',h1,h2⟩:=hx i (by omega)
   rw [hc] at h1
   obtain ⟨q,rfl,hq⟩:=hf n cs' _ (World.cells?_some h1).2.1 h2 (fun z hz=>hL z (by
    rw [hw]
    exact .tail _ (List.mem_append.2 (.inl (weightsAll_mem (List.mem_map.2 ⟨i,List.mem_range.2 hi,rfl⟩) z hz)))))
   exact ⟨q,h1,hq⟩
  obtain ⟨f,hfn⟩:=choose_lt each
  have hsp:0<len→a=⟨a.block,a.off,none⟩:=fun hl0=>by
   have h1:=(World.cells?_some (hfn 0 hl0).1).2.2 0 hk
   have hlen:0<(E.enc (f 0)).length:=by rw [E.len]; exact hk
   rw [List.getElem?_eq_getElem hlen] at h1
   have hsp:=World.cell?_spot h1
   obtain ⟨b,o,sp⟩:=a
   have:sp=none:=by simpa [Addr.add] using hsp
   subst this
   rfl
  refine ⟨(List.range len).map f,⟨⟨some a,cap,by simp,by simpa using hl,hm,fun hne=>?_⟩,fun i q hq=>?_⟩,fun q hq=>?_,?_⟩
  ·have hl0:0<len:=by
    rcases Nat.eq_zero_or_pos len with h|h
    ·subst h; simp at hne
    ·exact h
   rw [hsp hl0]; rfl
  ·have hi:i<len:=by
    have:=(List.getElem?_eq_some_iff.1 hq).1
    simpa using this
   have hq':f i=q:=by simpa [hi] using hq
   subst hq'
   have ha:=hsp (by omega)
   obtain ⟨b,o,sp⟩:=a
   obtain rfl:sp=none:=by simpa using ha
   have hc':=(World.cells?_some (hfn i hi).1).2.2
   have hlen:(E.enc (f i)).length=E.k:=E.len _
   have eA:∀ j,(((⟨b,o,none⟩:Addr).add (i * E.k)).add j)=⟨b,o+i * E.k+j,none⟩:=fun j=>by
    rw [Go.Deep.add_add]; simp only [Addr.add]
    by_cases h0:i * E.k+j=0
    ·rw [if_pos h0]
     have:i * E.k=0:=by omega
     have:j=0:=by omega
     simp_all
    ·rw [if_neg h0,Nat.add_assoc]
   have h1:=hc' 0 hk
   rw [List.getElem?_eq_getElem (by omega),eA] at h1
   have hb1:∃ cs T fz,w.heap[b]?=some (.cells cs T fz):=by
    unfold World.cell? at h1
    split at h1
    ·rename_i cs T fz hh; exact ⟨cs,T,fz,hh⟩
    ·simp at h1
   obtain ⟨cs,T,fz,hh⟩:=hb1
   refine ⟨cs,T,fz,hh,fun j v hj=>?_⟩
   have hjk:j<E.k:=by have:=(List.getElem?_eq_some_iff.1 hj).1; omega
   have h2:=hc' j hjk
   rw [hj,eA] at h2
   unfold World.cell? at h2
   simp only [hh] at h2
   simp only [ofs]
   simpa using h2
  ·obtain ⟨i,hi,rfl⟩:=List.mem_map.1 hq
   exact (hfn i (List.mem_range.1 hi)).2
  ·have:=hL _ (by rw [hw]; exact .head _)
   simp only [List.length_map,List.length_range] at this ⊢
   exact Nat.le_trans (Nat.mul_le_mul_right _ (by omega)) this
theorem MP {e ts tu tb tB eu:TypeId} {f0 f1 f2 f3 f4:Field} (he:P.underlying e=some (.struct #[f0,f1,f2,f3,f4]))
  (ho:[f0.offset,f1.offset,f2.offset,f3.offset,f4.offset]=[0,1,2,3,4]) (ht:[f0.type,f1.type,f2.type,f3.type,f4.type]=[ts,tu,tb,tB,tB])
  (c0:P.cellsOf ts=1) (c1:P.cellsOf tu=1) (c2:P.cellsOf tb=1) (c3:P.cellsOf tB=1) (us:P.underlying ts=some .string) (uu:P.underlying tu=some (.int .u32))
  (ub:P.underlying tb=some (.slice eu)) (ue:P.underlying eu=some (.int .u8)) (ce:P.cellsOf eu=1) (be:P.bytesOf eu=1) (uB:P.underlying tB=some .bool)
  {n:Nat} {cs:List Value} {y:DataW H × List MemPlace} (hl:cs.length=5) (h:DataW.trod enc P w base spare held n e cs=some y) (hL:GH P e y.1) :
  ∃ s:SecV,cs=bP.enc s∧Sl (hp w) cd s.data (.slice s.dp s.data.length s.dc)∧s.data.length≤reachBytes∧s.name.size≤reachBytes:=by
 simp only [List.cons.injEq,and_true] at ho ht
 obtain ⟨o0,o1,o2,o3,o4⟩:=ho
 obtain ⟨t0,t1,t2,t3,t4⟩:=ht
 obtain ⟨xs,k,hk,hxy,_,hxl,hf⟩:=DataW.trod_struct he h
 match xs,hxl,cs,hl with
 | [y0,y1,y2,y3,y4],_,[v0,v1,v2,v3,v4],_ =>
  have g0:=hf 0 f0 rfl
  have g1:=hf 1 f1 rfl
  have g2:=hf 2 f2 rfl
  have g3:=hf 3 f3 rfl
  have g4:=hf 4 f4 rfl
  simp [o0,o1,o2,o3,o4,t0,t1,t2,t3,t4,c0,c1,c2,c3] at g0 g1 g2 g3 g4
  subst hxy
  have hw:∀ j t d,[ts,tu,tb,tB,tB][j]?=some t→[y0.1,y1.1,y2.1,y3.1,y4.1][j]?=some d→GH P t d:=fun j t d q1 q2 z hz=>hL z (by
   simp only [DataW.weights,he,List.map_cons,List.map_nil,t0,t1,t2,t3,t4]
   exact DataW.weights_mem_each (j:=j) q1 q2 z hz)
  have w0':=hw 0 ts y0.1 rfl rfl
  have w2':=hw 2 tb y2.1 rfl rfl
  obtain ⟨z0,e0,q0,w0⟩:=DataW.trod_string us g0
  obtain ⟨z1,e1,_,w1⟩:=DataW.trod_int uu g1
  obtain ⟨l,s2,_,hbl⟩:=wE (E:=cd) (R:=fun _=>True) ub ce (by decide) w2' (fun n cs y _ hh _=>OJ ue hh) g2
  obtain ⟨z3,e3,_⟩:=DataW.trod_bool uB g3
  obtain ⟨z4,e4,_⟩:=DataW.trod_bool uB g4
  obtain ⟨x1,rfl⟩:=AQ w1
  simp only [List.cons.injEq,and_true] at e0 e1 e3 e4
  subst e0; subst e1; subst e3; subst e4
  obtain ⟨a,c,hv,_⟩:=s2.shape
  subst hv
  refine ⟨⟨z0,x1,l,a,c,z3,z4⟩,rfl,s2,by rw [be,Nat.mul_one] at hbl; exact hbl,?_⟩
  have:=w0' z0.data.toList.length (by rw [q0]; simp [DataW.weights])
  rw [Array.length_toList] at this
  exact this
end
section
variable {H:Type} {enc:TypeId × Value→H} {P:Program} {w:World} {base:Nat} {spare:Nat→Bool} {held:Bool}
theorem MO {e:TypeId} (he:P.underlying e=some (.int .u32)) {n:Nat} {cs:List Value} {y:DataW H × List MemPlace} (h:DataW.trod enc P w base spare held n e cs=some y):∃ a,cs=aa.enc a∧True:=by
 obtain ⟨z,rfl,_,hw⟩:=DataW.trod_int he h
 obtain ⟨x,rfl⟩:=AQ hw
 exact ⟨x,rfl,trivial⟩
end
end Go.HL
namespace Go.HL
open Go Go.RowKit
class FieldF (P:Program) (s f:Nat) (off ft:outParam Nat):Prop where
  h:∃ (fs:Array Field) (k:Nat),P.underlying s=some (.struct fs)∧(fs[f]?).map (·.offset)=some off∧(fs[f]?).map (·.type)=some ft∧(∀ w,(sizeOf ft).run P w=.ok k w)∧k≠0
section
variable {P:Program} {ops:Array Oper} {Q:Exit→Act→World→Prop} {N:Nat} {F:Bg} {L:List Ent} {M:Fr} {dst:Option Tmp} {ty:TypeId} {pos:String} {after:Array Edge} {g:Option (Nat × Bool)}
theorem bE {x:Operand} {s f off ft b o:Nat} [h:FieldF P s f off ft] (hx:opv M x=some (.pointer (some ⟨b,o,none⟩))):QS P N F L M ⟨dst,.fieldAddr s x f,ty,pos,after,g⟩ (.pointer (some ⟨b,o+off,none⟩)):=by
  obtain ⟨fs,k,h1,h2,h3,h4,h5⟩:=h.h
  exact vj hx h1 h2 h3 h4 h5
theorem cK {α:Type} (E:Enc α) {rest:List Oper} {x y:Operand} {t T:TypeId} {b k:Nat} {cs cs':List Value} {v:Value} {L':List Ent} (hx:opv M x=some (.pointer (some ⟨b,0,none⟩))) (hy:opv M y=some v)
    (hz:∀ w,(sizeOf t).run P w=.ok k w) (K:Tr N F L' M (wpList P ops Q rest)) (hput:Put (cellE b cs T) (cellE b cs' T) L L':=by repeat constructor) (hcs:v.cells.toList=cs':=by rfl) (hk:(cs.length == k && cs'.length == k)=true:=by rfl)
    (h1:∀ u∈cs',u.oneCell'=true:=by first|exact List.all_eq_true.1 rfl|exact Enc.one _ _|exact Enc.one E _) (hdst:dst=none:=by rfl):Tr N F L M (wpList P ops Q (⟨dst,.store t x y,ty,pos,after,none⟩ :: rest)) :=
  jF hx hy hz hput hcs hk h1 hdst K
theorem Qb {α κ:Type} (E:κ→Enc α) {rest:List Oper} {x y:Operand} {t T:TypeId} {b k:Nat} {cs cs':List Value} {v:Value} {L':List Ent} (hx:opv M x=some (.pointer (some ⟨b,0,none⟩))) (hy:opv M y=some v)
    (hz:∀ w,(sizeOf t).run P w=.ok k w) (K:Tr N F L' M (wpList P ops Q rest)) (hput:Put (cellE b cs T) (cellE b cs' T) L L':=by repeat constructor) (hcs:v.cells.toList=cs':=by rfl) (hk:(cs.length == k && cs'.length == k)=true:=by rfl)
    (h1:∀ u∈cs',u.oneCell'=true:=by first|exact List.all_eq_true.1 rfl|exact Enc.one _ _|exact Enc.one (E _) _) (hdst:dst=none:=by rfl):Tr N F L M (wpList P ops Q (⟨dst,.store t x y,ty,pos,after,none⟩ :: rest)) :=
  jF hx hy hz hput hcs hk h1 hdst K
theorem Gr {K:Act→World→Prop} (h:Tr N F L M K):Tr N F L M (wpList P ops (Exit.then K Q) []):=h
theorem j8 {K:Act→World→Prop} (h:Tr N F L M K):Tr N F L M (Code.skip.wp P (Exit.then K Q)):=sQ (aS h)
theorem dx {id:Nat} {l:List Oper} {y:Code} (h:Tr N F L M (wpList P l.toArray (Exit.then (y.wp P Q) Q) l)):Tr N F L M ((Code.seq (Code.region id l.toArray false) y).wp P Q):=bB (cC h)
theorem Ds {Q':Exit→Act→World→Prop} {id:Nat} {l:List Oper} {y:Code} (h:Tr N F L M (wpList P l.toArray (Exit.then (y.wp P Q') Q') l)):Tr N F L M (wpList P ops (Exit.then ((Code.seq (Code.region id l.toArray false) y).wp P Q') Q) []):=Gr (dx h)
theorem nz {Q':Exit→Act→World→Prop} {id:Nat} {l:List Oper} {y:Code} (h:Tr N F L M (wpList P l.toArray (Exit.then (y.wp P Q') Q') l)):Tr N F L M (Code.skip.wp P (Exit.then ((Code.seq (Code.region id l.toArray false) y).wp P Q') Q)):=j8 (dx h)
theorem Front.c {d:Nat} {v:Value} {f:Fr} (k:Front M f) (h:look M d=some v:=by first|rfl|exact az rfl (by omega)|exact az rfl (by simp)|exact bU rfl (by simp)):Front M ((d,v) :: f):=⟨h,k⟩
theorem xc {ι:Type} {ok:ι→Prop} {front:ι→Fr} {M0:Fr} {F':ι→Bg} {L':ι→List Ent} (j:ι) (hf:Front M (front j)) (hM:SubX ((front j).map (·.1)) M M0) (hF:F' j=F:=by rfl) (hL:Pick L (L' j):=by repeat' constructor) (o:ok j) :
    Tr N F L M (fun a w=>∃ i,ok i∧FrOK N (front i ++ M0) a∧HpOK (F' i) (L' i) w):=bO j hF hf hM hL o
theorem QO {ι:Type} {ok:ι→Prop} {front:ι→Fr} {M0:Fr} {F':ι→Bg} {L':ι→List Ent} (j:ι) (hf:Front M (front j)) (hM:SubX ((front j).map (·.1)) M M0) (hF:F' j=F:=by rfl) (hL:Pick L (L' j):=by repeat' (first|exact Pick.refl _|exact Del.here _|apply Pick.cons|apply Del.there|apply Pick.skip|exact Pick.nil _)) (o:ok j) :
    Tr N F L M (fun a w=>∃ i,ok i∧FrOK N (front i ++ M0) a∧HpOK (F' i) (L' i) w):=bO j hF hf hM hL o
theorem Jf {ι:Type} {ok:ι→Prop} {μ:ι→Nat} {front:ι→Fr} {F':ι→Bg} {L':ι→List Ent} {M0:Fr} {m:Nat} (j:ι) (hf:Front M (front j))
    (hM:SubX ((front j).map (·.1)) M M0) (hF:F' j=F:=by rfl) (hL:Pick L (L' j):=by repeat' constructor) (o:ok j) (hlt:μ j<m:=by (try dsimp only); omega):Tr N F L M (fun a w=>∃ j,ok j∧μ j<m∧FrOK N (front j ++ M0) a∧HpOK (F' j) (L' j) w):=dn j hF hf hM hL o hlt
theorem QP {ι:Type} {ok:ι→Prop} {μ:ι→Nat} {front:ι→Fr} {F':ι→Bg} {L':ι→List Ent} {M0:Fr} {m:Nat} (j:ι) (hf:Front M (front j))
    (hM:SubX ((front j).map (·.1)) M M0) (hF:F' j=F:=by rfl) (hL:Pick L (L' j):=by repeat' (first|exact Pick.refl _|exact Del.here _|apply Pick.cons|apply Del.there|apply Pick.skip|exact Pick.nil _)) (o:ok j) (hlt:μ j<m:=by (try dsimp only); omega):Tr N F L M (fun a w=>∃ j,ok j∧μ j<m∧FrOK N (front j ++ M0) a∧HpOK (F' j) (L' j) w):=dn j hF hf hM hL o hlt
theorem lX {op:Op} {d j t:Nat} {b b':Bool} {v:Value} {rest:List Oper} (h:QS P N F L M ⟨some d,op,ty,pos,after,some (j,b)⟩ v) (k:Tr N F L ((d,v) :: M) (wpList P ops Q rest)) (hj:(ops[j]?).bind (·.dst)=some t:=by rfl) (ht:look M t=some (.bool b'):=by rfl) (hb:b'=b:=by with_reducible assumption) (hd:Nat.ble (d+1) N=true:=by rfl):Tr N F L M (wpList P ops Q (⟨some d,op,ty,pos,after,some (j,b)⟩ :: rest)):=BX hj ht hb h hd k
theorem Qc {op:Op} {d j t:Nat} {b':Bool} {rest:List Oper} (k:Tr N F L ((d,undef) :: M) (wpList P ops Q rest)) (hj:(ops[j]?).bind (·.dst)=some t:=by rfl) (ht:look M t=some (.bool b'):=by rfl) (hb:b'=false:=by with_reducible assumption) (hd:Nat.ble (d+1) N=true:=by rfl):Tr N F L M (wpList P ops Q (⟨some d,op,ty,pos,after,some (j,true)⟩ :: rest)):=ol hj ht hb hd k
theorem Qd {op:Op} {d j t:Nat} {b':Bool} {rest:List Oper} (k:Tr N F L ((d,undef) :: M) (wpList P ops Q rest)) (hj:(ops[j]?).bind (·.dst)=some t:=by rfl) (ht:look M t=some (.bool b'):=by rfl) (hb:b'=true:=by with_reducible assumption) (hd:Nat.ble (d+1) N=true:=by rfl):Tr N F L M (wpList P ops Q (⟨some d,op,ty,pos,after,some (j,false)⟩ :: rest)):=ol hj ht hb hd k
theorem mh {Y:Act→Prop} {op:Op} {d j t:Nat} {b b':Bool} {v:Value} {rest:List Oper} (h:QS P N F L M ⟨some d,op,ty,pos,after,some (j,b)⟩ v) (k:TrQ N ((d,v) :: M) (wpQuiet P ops (HpOK F L) Y rest)) (hj:(ops[j]?).bind (·.dst)=some t:=by rfl) (ht:look M t=some (.bool b'):=by rfl) (hb:b'=b:=by with_reducible assumption) (hd:Nat.ble (d+1) N=true:=by rfl):TrQ N M (wpQuiet P ops (HpOK F L) Y (⟨some d,op,ty,pos,after,some (j,b)⟩ :: rest)):=Dn hj ht hb h hd k
theorem O4 {Y:Act→Prop} {op:Op} {d j t:Nat} {b':Bool} {rest:List Oper} (k:TrQ N ((d,undef) :: M) (wpQuiet P ops (HpOK F L) Y rest)) (hj:(ops[j]?).bind (·.dst)=some t:=by rfl) (ht:look M t=some (.bool b'):=by rfl) (hb:b'=false:=by with_reducible assumption) (hd:Nat.ble (d+1) N=true:=by rfl):TrQ N M (wpQuiet P ops (HpOK F L) Y (⟨some d,op,ty,pos,after,some (j,true)⟩ :: rest)):=qi hj ht hb hd k
theorem O5 {Y:Act→Prop} {op:Op} {d j t:Nat} {b':Bool} {rest:List Oper} (k:TrQ N ((d,undef) :: M) (wpQuiet P ops (HpOK F L) Y rest)) (hj:(ops[j]?).bind (·.dst)=some t:=by rfl) (ht:look M t=some (.bool b'):=by rfl) (hb:b'=true:=by with_reducible assumption) (hd:Nat.ble (d+1) N=true:=by rfl):TrQ N M (wpQuiet P ops (HpOK F L) Y (⟨some d,op,ty,pos,after,some (j,false)⟩ :: rest)):=qi hj ht hb hd k
class NAg (P:Program) (t:Nat):Prop where
  h:∀ w,(isAgg t).run P w=.ok false w
class YAg (P:Program) (t:Nat) (k:outParam Nat):Prop where
  h:∀ w,(isAgg t).run P w=.ok true w
  z:∀ w,(sizeOf t).run P w=.ok k w
class SlT (P:Program) (t:Nat) (e k:outParam Nat):Prop where
  h:P.underlying t=some (.slice e)
  z:∀ w,(sizeOf e).run P w=.ok k w
theorem iF {x:Operand} {t T:TypeId} {b o:Nat} {v:Value} {cs:List Value} [h:NAg P t] (hx:opv M x=some (.pointer (some ⟨b,o,none⟩))) (hm:cellE b cs T∈L:=by repeat (first|exact List.Mem.head _|apply List.Mem.tail)) (hv:cs[o]?=some v:=by rfl):QS P N F L M ⟨dst,.load t x,ty,pos,after,g⟩ v:=ou hx hm h.h hv
theorem sx {x:Operand} {t T:TypeId} {b o:Nat} {v:Value} {cs:List Value} [h:NAg P t] (hx:opv M x=some (.pointer (some ⟨b,o,none⟩))) (hm:cellE b cs T∈L:=by repeat constructor) (hv:cs[o]?=some v:=by rfl):QS P N F L M ⟨dst,.load t x,ty,pos,after,g⟩ v:=ou hx hm h.h hv
theorem cF {x:Operand} {t T:TypeId} {b k:Nat} {cs:List Value} [h:YAg P t k] (hx:opv M x=some (.pointer (some ⟨b,0,none⟩))) (hm:cellE b cs T∈L:=by repeat (first|exact List.Mem.head _|apply List.Mem.tail)) (hl:cs.length=k:=by rfl):QS P N F L M ⟨dst,.load t x,ty,pos,after,g⟩ (.agg cs.toArray):=B2 hx hm h.h h.z hl
section
variable {α:Type} [Inhabited α] {E:Enc α} {l:List α} {V:Value} {x y:Operand} {t T e:TypeId} {i k:Nat} {v:Value} {kk:IntKind}
theorem re [h:NAg P t] (hx:opv M x=some (.pointer (some ⟨bk V,ofs V+i * E.k,none⟩))) (hs:Sl F.blk E l V:=by assumption) (hi:i<l.length:=by omega) (hv:(E.enc (l.getD i default))[0]?=some v:=by rfl):QS P N F L M ⟨dst,.load t x,ty,pos,after,g⟩ v:=NU hx hs h.h hi hv
theorem mm [h:NAg P t] (hx:opv M x=some (.pointer (some ⟨bk V,ofs V+i * E.k,none⟩))) (hs:rowE V T E l∈L:=by repeat constructor) (hi:i<l.length:=by omega) (hv:(E.enc (l.getD i default))[0]?=some v:=by rfl):QS P N F L M ⟨dst,.load t x,ty,pos,after,g⟩ v:=DF hx hs h.h hi hv
theorem wz [h:YAg P t k] (hx:opv M x=some (.pointer (some ⟨bk V,ofs V+i * E.k,none⟩))) (hs:Sl F.blk E l V:=by assumption) (hk:k=E.k:=by rfl) (hi:i<l.length:=by omega):QS P N F L M ⟨dst,.load t x,ty,pos,after,g⟩ (.agg (E.enc (l.getD i default)).toArray):=NT hx hs h.h h.z hk hi
theorem wy [h:YAg P t k] (hx:opv M x=some (.pointer (some ⟨bk V,ofs V+i * E.k,none⟩))) (hs:rowE V T E l∈L:=by repeat constructor) (hk:k=E.k:=by rfl) (hi:i<l.length:=by omega):QS P N F L M ⟨dst,.load t x,ty,pos,after,g⟩ (.agg (E.enc (l.getD i default)).toArray):=Jm hx hs h.h h.z hk hi
end
section
variable {α:Type} {E:Enc α} {l:List α} {V:Value} {x y:Operand} {t T e:TypeId} {i k:Nat} {kk:IntKind}
theorem Ac [h:SlT P t e k] (hx:opv M x=some V) (hy:opv M y=some (.int kk i)) (hs:Sl F.blk E l V:=by assumption) (hk:k=E.k:=by rfl) (hi:i<l.length:=by omega):QS P N F L M ⟨dst,.indexAddr t x y,ty,pos,after,g⟩ (.pointer (some ⟨bk V,ofs V+i * E.k,none⟩)):=xY hx hy hs h.h h.z hk hi
theorem iG [h:SlT P t e k] (hx:opv M x=some V) (hy:opv M y=some (.int kk i)) (hs:rowE V T E l∈L:=by repeat constructor) (hk:k=E.k:=by rfl) (hi:i<l.length:=by omega):QS P N F L M ⟨dst,.indexAddr t x y,ty,pos,after,g⟩ (.pointer (some ⟨bk V,ofs V+i * E.k,none⟩)):=t6 hx hy hs h.h h.z hk hi
theorem ww {i:Int} [h:SlT P t e k] (hx:opv M x=some V) (hy:opv M y=some (.int kk i)) (hs:Sl F.blk E l V:=by assumption) (hk:k=E.k:=by rfl) (hi:0≤i∧i<l.length:=by omega):QS P N F L M ⟨dst,.indexAddr t x y,ty,pos,after,g⟩ (.pointer (some ⟨bk V,ofs V+i.toNat * E.k,none⟩)):=Ir hx hy hs h.h h.z hk hi
theorem ml {i:Int} [h:SlT P t e k] (hx:opv M x=some V) (hy:opv M y=some (.int kk i)) (hs:rowE V T E l∈L:=by repeat constructor) (hk:k=E.k:=by rfl) (hi:0≤i∧i<l.length:=by omega):QS P N F L M ⟨dst,.indexAddr t x y,ty,pos,after,g⟩ (.pointer (some ⟨bk V,ofs V+i.toNat * E.k,none⟩)):=wv hx hy hs h.h h.z hk hi
theorem Aa [h:SlT P t e k] (hx:opv M x=some V) (hs:Sl F.blk E l V:=by assumption):QS P N F L M ⟨dst,.call { callee:=.builtin .len,args:=#[x],argTypes:=#[t] },ty,pos,after,g⟩ (.int .i64 (l.length:Nat)):=NS hx hs h.h
theorem rc [h:SlT P t e k] (hx:opv M x=some V) (hs:rowE V T E l∈L:=by repeat constructor):QS P N F L M ⟨dst,.call { callee:=.builtin .len,args:=#[x],argTypes:=#[t] },ty,pos,after,g⟩ (.int .i64 (l.length:Nat)):=B5 hx hs h.h
end
theorem Sub.skip1 {M M':Fr} {d:Nat} {v:Value} (h:(HL.look M' d).isNone=true) (s:Sub M M'):Sub ((d,v) :: M) M':=fun t u hu=>by
  rw [cL]
  by_cases e:d=t
  · subst e; rw [hu] at h; cases h
  · rw [if_neg e]; exact s t u hu
theorem Gw {d:Nat} {v:Value} {M':Fr} {L':List Ent} {K:Act→World→Prop} (hK:K=(fun a w=>FrOK N ((d,v) :: M') a∧HpOK F L' w):=by rfl) (hl:look M d=some v:=by rfl) (hM:Sub M M':=by repeat (first|exact Sub.refl _|refine Sub.skip1 (by kernel_rfl) ?_)) (hL:Pick L L':=by repeat' (first|exact Pick.nil _|exact Del.here _|apply Pick.cons|apply Del.there)):Tr N F L M K:=o6 (Sub.cons hl hM) hK hL
theorem ab {c:Operand} {x y:Code} {b:Bool} {p q:Prop} (hc:opv M c=some (.bool b)) (ht:p→Tr N F L M (x.wp P Q)) (hf:q→Tr N F L M (y.wp P Q)) (hp:b=true→p:=by intro h; (try simp only [bs] at h); exact h) (hq:b=false→q:=by intro h; (try simp only [bs] at h); exact h):Tr N F L M ((Code.cond c x y).wp P Q):=fk hc (fun h=>ht (hp h)) (fun h=>hf (hq h))
theorem gJ {l:List Oper} {x y:Bool} {q:Prop} (k t d:Nat) (hF:x=false→q→Tr N F L M (wpList P ops (Exit.then (fun a w=>FrOK N ((d,.bool y) :: M) a∧HpOK F L w) Q) (l.take k))) (h2:Tr N F L ((d,.bool (x || y)) :: M) (wpList P ops Q (l.drop k))) (hx:look M t=some (.bool x):=by rfl) (hq:x=false→q:=by intro h; (try simp only [bs] at h); exact h)
    (hT:x=true→Tr N F L M (wpList P ops (Exit.then (fun a w=>FrOK N ((d,.bool true) :: M) a∧HpOK F L w) Q) (l.take k)):=by intro h; (repeat first|refine ol rfl rfl h rfl ?_|refine qk rfl rfl rfl ?_|refine Ih (kc rfl h rfl) rfl ?_|refine BX rfl rfl (by with_reducible assumption) (kc rfl h rfl) rfl ?_); refine mj (aS ?_); exact Gw):Tr N F L M (wpList P ops Q l):=BW k hx (fun h=>hF h (hq h)) hT h2
theorem dV {l:List Oper} {x y:Bool} {q:Prop} (k t d:Nat) (hT:x=true→q→Tr N F L M (wpList P ops (Exit.then (fun a w=>FrOK N ((d,.bool y) :: M) a∧HpOK F L w) Q) (l.take k))) (h2:Tr N F L ((d,.bool (x && y)) :: M) (wpList P ops Q (l.drop k))) (hx:look M t=some (.bool x):=by rfl) (hq:x=true→q:=by intro h; (try simp only [bs] at h); exact h)
    (hF:x=false→Tr N F L M (wpList P ops (Exit.then (fun a w=>FrOK N ((d,.bool false) :: M) a∧HpOK F L w) Q) (l.take k)):=by intro h; (repeat first|refine ol rfl rfl h rfl ?_|refine qk rfl rfl rfl ?_|refine Ih (kd rfl h rfl) rfl ?_|refine BX rfl rfl (by with_reducible assumption) (kd rfl h rfl) rfl ?_); refine mj (aS ?_); exact Gw):Tr N F L M (wpList P ops Q l):=Il k hx (fun h=>hT h (hq h)) hF h2
inductive LS {ι:Type} (ok:ι→Prop) (F':ι→Bg) (L':ι→List Ent) (front:ι→Fr) (μ:ι→Nat):Prop where
  | mk
theorem LS.of {ι:Type} (ok:ι→Prop) (F':ι→Bg) (L':ι→List Ent) (front:ι→Fr) (μ:ι→Nat):LS ok F' L' front μ:=.mk
inductive LJ {ι:Type} (ok:ι→Prop) (F':ι→Bg) (L':ι→List Ent) (front:ι→Fr):Prop where
  | mk
theorem LJ.of {ι:Type} (ok:ι→Prop) (F':ι→Bg) (L':ι→List Ent) (front:ι→Fr):LJ ok F' L' front:=.mk
theorem cP {c:Code} {ι:Type} {ok:ι→Prop} {F':ι→Bg} {L':ι→List Ent} {front:ι→Fr} {μ:ι→Nat} (_e:LS ok F' L' front μ) (i0:ι) (h0:ok i0) (hf:Front M (front i0))
    (round:∀ i,ok i→∀ m,m=μ i→Tr N (F' i) (L' i) (front i ++ M) (c.wp P (Exit.then (fun a w=>∃ j,ok j∧μ j<m∧FrOK N (front j ++ M) a∧HpOK (F' j) (L' j) w) Q))) (hL:Pick L (L' i0):=by repeat' constructor) (hF:F' i0=F:=by rfl):Tr N F L M ((Code.loop c).wp P Q):=Je ok F' L' front μ i0 h0 hf hL hF round
theorem cT {c:Code} {ι:Type} (ok:ι→Prop) (F':ι→Bg) (L':ι→List Ent) (front:ι→Fr) (μ:ι→Nat) (i0:ι) (h0:ok i0) (hf:Front M (front i0))
    (round:∀ i,ok i→∀ m,m=μ i→Tr N (F' i) (L' i) (front i ++ M) (c.wp P (Exit.then (fun a w=>∃ j,ok j∧μ j<m∧FrOK N (front j ++ M) a∧HpOK (F' j) (L' j) w) Q))) (hL:Pick L (L' i0):=by repeat' constructor) (hF:F' i0=F:=by rfl):Tr N F L M ((Code.loop c).wp P Q):=Je ok F' L' front μ i0 h0 hf hL hF round
theorem dZ {ι:Type} {x y:Code} {ok:ι→Prop} {F':ι→Bg} {L':ι→List Ent} {front:ι→Fr} (_e:LJ ok F' L' front) (hx:Tr N F L M (x.wp P (Exit.then (fun a w=>∃ i,ok i∧FrOK N (front i ++ M) a∧HpOK (F' i) (L' i) w) Q)))
    (hy:∀ i,ok i→Tr N (F' i) (L' i) (front i ++ M) (y.wp P Q)):Tr N F L M ((Code.seq x y).wp P Q):=gX ok F' L' front hx hy
abbrev Cr (P:Program) (f:FuncId) (vs:Array Value) (w:World) (v:Value):Prop:=Calls P f vs w fun e w'=>e=.returned v∧Ext w w'
theorem HpOK.b0 {w w':World} {L:List Ent} (h:HpOK (Bg.of w) L w'):Ext w w':=h.below (Bg.le.refl _)
theorem aD {w:World} {fn:Func} {t:Tmp} {v v0:Value} (hr:fn.results=#[.tmp t]:=by rfl) (hv:look M t=some v:=by rfl) (e:Ending.returned v=.returned v0) (hD:look M mk0=some undef:=by rfl):Tr N (Bg.of w) L M (bodyPost P fn (fun e w'=>e=.returned v0∧Ext w w') .ret):=aM hr hv (fun _ hw=>⟨e,hw.below (Bg.le.refl _)⟩) hD
theorem dR {w:World} {fn:Func} {t u:Tmp} {v v' v0:Value} (hr:fn.results=#[.tmp t,.tmp u]:=by rfl) (hv:look M t=some v:=by rfl) (hv':look M u=some v':=by rfl) (e:Ending.returned (.tuple #[v,v'])=.returned v0) (hD:look M mk0=some undef:=by rfl):Tr N (Bg.of w) L M (bodyPost P fn (fun e w'=>e=.returned v0∧Ext w w') .ret):=cG hr hv hv' (fun _ hw=>⟨e,hw.below (Bg.le.refl _)⟩) hD
theorem aL {w:World} {fn:Func} {u:Tmp} {t T:TypeId} {b:Nat} {cs:List Value} {v0:Value} (hr:fn.results=#[.cell u t]:=by rfl) (hv:look M u=some (.pointer (some ⟨b,0,none⟩)):=by rfl) (hm:cellE b cs T∈L:=by repeat constructor) (hagg:∀ w,(isAgg t).run P w=.ok true w:=by intro _; kernel_rfl) (hz:∀ w,(sizeOf t).run P w=.ok cs.length w:=by intro _; kernel_rfl) (e:Ending.returned (.agg cs.toArray)=.returned v0) (hD:look M mk0=some undef:=by rfl):Tr N (Bg.of w) L M (bodyPost P fn (fun e w'=>e=.returned v0∧Ext w w') .ret):=Gp hr hv hm hagg hz rfl (fun _ hw=>⟨e,hw.below (Bg.le.refl _)⟩) hD
theorem fL {w:World} {fn:Func} {u s:Tmp} {t T:TypeId} {b:Nat} {cs:List Value} {v v0:Value} (hr:fn.results=#[.cell u t,.tmp s]:=by rfl) (hv:look M u=some (.pointer (some ⟨b,0,none⟩)):=by rfl) (hs:look M s=some v:=by rfl) (hm:cellE b cs T∈L:=by repeat constructor) (hagg:∀ w,(isAgg t).run P w=.ok true w:=by intro _; kernel_rfl) (hz:∀ w,(sizeOf t).run P w=.ok cs.length w:=by intro _; kernel_rfl) (e:Ending.returned (.tuple #[.agg cs.toArray,v])=.returned v0) (hD:look M mk0=some undef:=by rfl):Tr N (Bg.of w) L M (bodyPost P fn (fun e w'=>e=.returned v0∧Ext w w') .ret):=Gn hr hv hs hm hagg hz rfl (fun _ hw=>⟨e,hw.below (Bg.le.refl _)⟩) hD
theorem En {f:FuncId} {c:Code} {args:List Value} {w:World} {R:Ending→World→Prop} (fn:Func) (h2:fn.body=some c) (h3:fn.ntmps=N) (K:Tr N (Bg.of w) [] (lN 0 args) (c.wp P (bodyPost P fn R))) (h1:P.funcs[f]?=some fn:=by kernel_rfl) (h4:args.length.ble N=true:=by rfl) (h5:N.ble mk0=true:=by rfl):Calls P f args.toArray w R:=enter h1 h2 h3 h4 K h5
theorem aK {f:FuncId} {xs:List Operand} {vs:List Value} {ts:Array TypeId} {v:Value} (hx:l3 M xs=some vs) (hc:∀ w,HpOK F L w→Calls P f vs.toArray w fun e w'=>e=.returned v∧Ext w w') (he:∀ (args:Array Value) (w:World),(callFunc f args).run P w=.ok (.enter f args) w:=by intro _ _; kernel_rfl):QS P N F L M ⟨dst,.call { callee:=.value (.func f),args:=xs.toArray,argTypes:=ts },ty,pos,after,g⟩ v:=Jn hx he hc
theorem ak {f:FuncId} {xs:List Operand} {vs:List Value} {ts:Array TypeId} {v:Value} (hx:l3 M xs=some vs) (hc:∀ w,Calls P f vs.toArray w fun e w'=>e=.returned v∧Ext w w') (he:∀ (args:Array Value) (w:World),(callFunc f args).run P w=.ok (.enter f args) w:=by intro _ _; kernel_rfl):QS P N F L M ⟨dst,.call { callee:=.value (.func f),args:=xs.toArray,argTypes:=ts },ty,pos,after,g⟩ v:=Jn hx he fun w _=>hc w
theorem Jd {α:Type} (E:Enc α) {rest:List Oper} {x y:Operand} {t T:TypeId} {b:Nat} {cs cs':List Value} {v:Value} {L':List Ent} (K:Tr N F L' M (wpList P ops Q rest)) (hx:opv M x=some (.pointer (some ⟨b,0,none⟩)):=by rfl) (hy:opv M y=some v:=by rfl)
    (hput:Put (cellE b cs T) (cellE b cs' T) L L':=by repeat constructor) (hcs:v.cells.toList=cs':=by rfl) (hz:∀ w,(sizeOf t).run P w=.ok cs.length w:=by intro _; kernel_rfl) (hk:(cs.length == cs.length && cs'.length == cs.length)=true:=by rfl)
    (h1:∀ u∈cs',u.oneCell'=true:=by first|exact List.all_eq_true.1 rfl|exact Enc.one _ _|exact Enc.one E _):Tr N F L M (wpList P ops Q (⟨none,.store t x y,ty,pos,after,none⟩ :: rest)) :=
  jF hx hy hz hput hcs hk h1 rfl K
structure HT (is:List Nat) (X:Prop):Prop where
  h:X
theorem HT.nil {X:Prop} (h:X):HT [] X:=⟨h⟩
theorem HT.cons {is:List Nat} {i d fuel:Nat} {op:Op} {L0:List Ent} {listed:Array Bool} {v:Value} (hi:ops[i]?=some ⟨some d,op,ty,pos,after,none⟩) (h:QS P N F L0 M ⟨some d,op,ty,pos,after,none⟩ v) (k:HT is (Tr N F L ((d,v) :: M) (wpAnyH P .any ops Q (HpOK F L0) fuel (listed.setIfInBounds i true)))) (hB:takeB ops listed i=true:=by kernel_rfl) (hQ:∀ c a d v w,Q (.panic c) (a.put d v) w→Q (.panic c) a w:=by intro c a d v w h; first|(cases d<;>exact h)|cases h.1) (hp:mB op=true:=by rfl) (hd:Nat.ble (d+1) N=true:=by rfl) (hL:Pick L L0:=by repeat' constructor):HT (i :: is) (Tr N F L M (wpAnyH P .any ops Q (HpOK F L0) (fuel+1) listed)):=⟨jx i hi hB hQ h k.h hp hd hL⟩
theorem Ia {d:Nat} {v:Value} {M':Fr} {Y:Act→Prop} (hY:Y=FrOK N ((d,v) :: M'):=by rfl) (hl:look M d=some v:=by rfl) (hM:Sub M M':=by repeat (first|exact Sub.refl _|refine Sub.skip1 (by kernel_rfl) ?_)):TrQ N M (wpQuiet P ops (HpOK F L) Y []):=by subst hY; exact vd (Sub.cons hl hM)
theorem zD {Y:Act→Prop} {l:List Oper} {x y:Bool} {q:Prop} (k t d:Nat) (hF:x=false→q→TrQ N M (wpQuiet P ops (HpOK F L) (FrOK N ((d,.bool y) :: M)) (l.take k))) (h2:TrQ N ((d,.bool (x || y)) :: M) (wpQuiet P ops (HpOK F L) Y (l.drop k))) (hx:look M t=some (.bool x):=by rfl) (hq:x=false→q:=by intro h; (try simp only [bs] at h); exact h)
    (hT:x=true→TrQ N M (wpQuiet P ops (HpOK F L) (FrOK N ((d,.bool true) :: M)) (l.take k)):=by intro h; (repeat first|refine qi rfl rfl h rfl ?_|refine dX rfl rfl rfl ?_|refine Ny (kc rfl h rfl) rfl ?_|refine Dn rfl rfl (by with_reducible assumption) (kc rfl h rfl) rfl ?_); exact Ia):TrQ N M (wpQuiet P ops (HpOK F L) Y l):=Nz k hx (fun h=>hF h (hq h)) hT h2
theorem fD {Y:Act→Prop} {l:List Oper} {x y:Bool} {q:Prop} (k t d:Nat) (hT:x=true→q→TrQ N M (wpQuiet P ops (HpOK F L) (FrOK N ((d,.bool y) :: M)) (l.take k))) (h2:TrQ N ((d,.bool (x && y)) :: M) (wpQuiet P ops (HpOK F L) Y (l.drop k))) (hx:look M t=some (.bool x):=by rfl) (hq:x=true→q:=by intro h; (try simp only [bs] at h); exact h)
    (hF:x=false→TrQ N M (wpQuiet P ops (HpOK F L) (FrOK N ((d,.bool false) :: M)) (l.take k)):=by intro h; (repeat first|refine qi rfl rfl h rfl ?_|refine dX rfl rfl rfl ?_|refine Ny (kd rfl h rfl) rfl ?_|refine Dn rfl rfl (by with_reducible assumption) (kd rfl h rfl) rfl ?_); exact Ia):TrQ N M (wpQuiet P ops (HpOK F L) Y l):=Jb k hx (fun h=>hT h (hq h)) hF h2
theorem yI {t k:Nat} (h:∀ w,(isAgg t).run P w=.ok true w:=by intro _; kernel_rfl) (h2:∀ w,(sizeOf t).run P w=.ok k w:=by intro _; kernel_rfl):YAg P t k:=⟨h,h2⟩
theorem HpOK.rM {α:Type} {V:Value} {T:TypeId} {E:Enc α} {l:List α} {w:World} (h:HpOK F L w) (hm:rowE V T E l∈L:=by repeat constructor):Sl (HL.hp w) E l V:=h.row hm
theorem SubX.refl (K:List Nat) (M:Fr):SubX K M M:=fun _ _ _ h=>h
theorem SubX.skip1 {K:List Nat} {M M':Fr} {d:Nat} {v:Value} (h:(K.contains d || (HL.look M' d).isNone)=true) (s:SubX K M M'):SubX K ((d,v) :: M) M':=fun t u hk hu=>by
  rw [cL]
  by_cases e:d=t
  · subst e; rw [hk,hu] at h; cases h
  · rw [if_neg e]; exact s t u hk hu
theorem aT {ι:Type} {ok:ι→Prop} {front:ι→Fr} {M0:Fr} {F':ι→Bg} {L':ι→List Ent} (j:ι) (hf:Front M (front j):=by repeat' (first|exact Front.nil|refine Front.c ?_)) (hM:SubX ((front j).map (·.1)) M M0:=by repeat (first|exact SubX.refl _ _|refine SubX.skip1 (by kernel_rfl) ?_)) (hF:F' j=F:=by rfl) (hL:Pick L (L' j):=by repeat' constructor) (o:ok j) :
    Tr N F L M (fun a w=>∃ i,ok i∧FrOK N (front i ++ M0) a∧HpOK (F' i) (L' i) w):=bO j hF hf hM hL o
theorem aP {ι:Type} {ok:ι→Prop} {μ:ι→Nat} {front:ι→Fr} {F':ι→Bg} {L':ι→List Ent} {M0:Fr} {m:Nat} (j:ι) (hf:Front M (front j):=by repeat' (first|exact Front.nil|refine Front.c ?_))
    (hM:SubX ((front j).map (·.1)) M M0:=by repeat (first|exact SubX.refl _ _|refine SubX.skip1 (by kernel_rfl) ?_)) (hF:F' j=F:=by rfl) (hL:Pick L (L' j):=by repeat' constructor) (o:ok j) (hlt:μ j<m:=by (try dsimp only); omega):Tr N F L M (fun a w=>∃ j,ok j∧μ j<m∧FrOK N (front j ++ M0) a∧HpOK (F' j) (L' j) w):=dn j hF hf hM hL o hlt
theorem fI {s f off ft:Nat} (k:Nat) (h:(match P.underlying s with|some (.struct fs)=>decide ((fs[f]?).map (·.offset)=some off) && decide ((fs[f]?).map (·.type)=some ft)|_=>false)=true:=by kernel_rfl) (h2:∀ w,(sizeOf ft).run P w=.ok k w:=by intro _; kernel_rfl) (h3:k≠0:=by decide):FieldF P s f off ft:=by
  cases e:P.underlying s with
  | none=>rw [e] at h; cases h
  | some d =>
    rw [e] at h
    cases d<;>try (cases h; done)
    simp only [Bool.and_eq_true,decide_eq_true_eq] at h
    exact ⟨_,k,e,h.1,h.2,h2,h3⟩
theorem au {S:World→Prop} {fuel:Nat} {listed:Array Bool} (i:Nat) {o:Oper} (hi:ops[i]?=some o) (h:Tr N F L M (wpList P ops (Exit.then (fun a' w'=>S w'∧wpAnyH P .any ops Q S fuel (listed.setIfInBounds i true) a' w') Q) [o])) (hr:Region.ready .any ops listed=[i]:=by kernel_rfl):Tr N F L M (wpAnyH P .any ops Q S (fuel+1) listed) :=
  Dt [i] hr (by simp) fun j hj=>by
    obtain rfl:=List.mem_singleton.1 hj
    exact cU hi h
end
end Go.HL
namespace Go.Proofs.YtiajjbhcpeadfaaGreat
open Go Go.HL Go.RowKit Tryz
theorem zF {P:Prop} (h:P:=by repeat' (first|rfl|(exfalso; first|(simp_all; done)|grind)|split)):P:=h
theorem zG {P:Prop} (h:P:=by (repeat (first|rw [if_pos (by omega)]|rw [if_neg (by omega)]))<;>rfl):P:=h
theorem zH {P:Prop} (h:P:=by (repeat (first|rw [if_pos (by first|assumption|omega|grind)]|rw [if_neg (by first|assumption|omega|grind)]))<;>rfl):P:=h
theorem zI {P Q:Prop} (q:Q) (h:Q→P:=by intro h; (repeat (first|rw [if_pos (by first|assumption|omega|grind)]|rw [if_neg (by first|assumption|omega|grind)])); exact h):P:=h q
abbrev nS:Value:=.slice none 0 0
instance:NAg prog 5:=⟨isAgg5⟩
instance:SlT prog 47 5 1:=⟨underlying47,sizeOf5⟩
instance:FieldF prog 36 2 2 3:=fI 1
instance:FieldF prog 36 4 4 3:=fI 1
instance:NAg prog 3:=⟨isAgg3⟩
instance:FieldF prog 36 5 5 3:=fI 1
instance:FieldF prog 36 3 3 3:=fI 1
instance:FieldF prog 36 6 6 3:=fI 1
instance:YAg prog 36 9:=yI
instance:FieldF prog 36 0 0 23:=fI 1
instance:FieldF prog 36 8 8 3:=fI 1
instance:FieldF prog 36 7 7 3:=fI 1
instance:FieldF prog 36 1 1 23:=fI 1
instance:NAg prog 23:=⟨isAgg23⟩
instance:YAg prog 283 135:=yI
instance:FieldF prog 49 1 1 23:=fI 1
instance:FieldF prog 49 2 2 47:=fI 1
instance:NAg prog 47:=⟨isAgg47⟩
instance:FieldF prog 165 0 0 23:=fI 1
instance:FieldF prog 165 1 1 23:=fI 1
instance:YAg prog 49 5:=yI
instance:FieldF prog 49 0 0 9:=fI 1
instance:NAg prog 9:=⟨isAgg9⟩
instance:SlT prog 22 49 5:=⟨underlying22,sizeOf49⟩
instance:FieldF prog 25 1 1 4:=fI 1
instance:FieldF prog 25 0 0 4:=fI 1
instance:FieldF prog 25 4 4 23:=fI 1
instance:FieldF prog 25 2 2 23:=fI 1
instance:FieldF prog 25 3 3 23:=fI 1
instance:NAg prog 4:=⟨isAgg4⟩
instance:YAg prog 25 5:=yI
instance:SlT prog 31 23 1:=⟨underlying31,sizeOf23⟩
instance:FieldF prog 37 0 0 26:=fI 40
instance:YAg prog 37 40:=yI
instance:NAg prog 292:=⟨isAgg292⟩
instance:NAg prog 31:=⟨isAgg31⟩
instance:SlT prog 50 36 9:=⟨underlying50,sizeOf36⟩
instance:SlT prog 177 37 40:=⟨underlying177,sizeOf37⟩
instance:FieldF prog 228 0 0 50:=fI 1
instance:FieldF prog 228 4 4 177:=fI 1
instance:FieldF prog 228 3 3 224:=fI 1
instance:FieldF prog 274 1 1 4:=fI 1
instance:SlT prog 224 3 1:=⟨underlying224,sizeOf3⟩
instance:FieldF prog 228 6 6 225:=fI 1
instance:FieldF prog 228 5 5 224:=fI 1
instance:FieldF prog 228 2 2 226:=fI 1
instance:FieldF prog 274 0 0 3:=fI 1
instance:YAg prog 274 2:=yI
instance:NAg prog 272:=⟨isAgg272⟩
instance:SlT prog 226 272 1:=⟨underlying226,sizeOf272⟩
instance:SlT prog 272 274 2:=⟨underlying272,sizeOf274⟩
instance:SlT prog 225 4 1:=⟨underlying225,sizeOf4⟩
instance:FieldF prog 228 1 1 223:=fI 1
instance:NAg prog 224:=⟨isAgg224⟩
instance:NAg prog 50:=⟨isAgg50⟩
instance:NAg prog 223:=⟨isAgg223⟩
instance:NAg prog 226:=⟨isAgg226⟩
instance:SlT prog 271 224 1:=⟨underlying271,sizeOf224⟩
instance:NAg prog 177:=⟨isAgg177⟩
instance:FieldF prog 92 0 0 22:=fI 1
instance:FieldF prog 49 3 3 4:=fI 1
instance:NAg prog 22:=⟨isAgg22⟩
instance:FieldF prog 49 4 4 4:=fI 1
instance:YAg prog 92 1:=yI
instance:FieldF prog 52 1 1 31:=fI 1
instance:FieldF prog 52 0 0 50:=fI 1
instance:FieldF prog 52 3 3 31:=fI 1
instance:FieldF prog 52 2 2 31:=fI 1
instance:YAg prog 52 4:=yI
instance:FieldF prog 143 5 5 31:=fI 1
instance:FieldF prog 143 4 4 53:=fI 1
instance:SlT prog 53 31 1:=⟨underlying53,sizeOf31⟩
instance:FieldF prog 143 2 2 141:=fI 1
instance:FieldF prog 143 3 3 141:=fI 1
instance:FieldF prog 143 0 0 140:=fI 1
instance:FieldF prog 143 1 1 141:=fI 1
instance:FieldF prog 114 2 5 31:=fI 1
instance:FieldF prog 114 1 4 53:=fI 1
instance:NAg prog 53:=⟨isAgg53⟩
instance:FieldF prog 114 0 0 52:=fI 4
instance:YAg prog 114 6:=yI
instance:SlT prog 175 177 1:=⟨underlying175,sizeOf177⟩
instance:FieldF prog 28 0 0 26:=fI 40
instance:YAg prog 28 40:=yI
instance:SlT prog 198 28 40:=⟨underlying198,sizeOf28⟩
instance:FieldF prog 69 0 0 50:=fI 1
instance:FieldF prog 69 1 1 31:=fI 1
instance:FieldF prog 69 2 2 31:=fI 1
instance:YAg prog 69 4:=yI
instance:FieldF prog 69 3 3 31:=fI 1
instance:FieldF prog 136 0 0 53:=fI 1
instance:FieldF prog 136 1 1 31:=fI 1
instance:YAg prog 136 2:=yI
instance:NAg prog 198:=⟨isAgg198⟩
instance:SlT prog 197 198 1:=⟨underlying197,sizeOf198⟩
abbrev an:=@underlying47
abbrev bA:=@sizeOf5
abbrev ao:=@underlying5
abbrev ac:=@underlying23
abbrev fx:=@underlying313
abbrev ad:=@underlying3
abbrev aH:=@sizeOf3
abbrev iW:=@isAgg3
abbrev kQ:=@results252
abbrev dj:=@results191
abbrev aF:=@zeroValue36
abbrev ar:=@sizeOf23
abbrev kX:=@underlying36
abbrev pK:=@results154
abbrev ff:=@underlying9
abbrev bV:=@sizeOf36
abbrev kU:=@zeroValue165
abbrev bF:=@underlying43
abbrev co:=@isAgg23
abbrev j4:=@sizeOf49
abbrev pF:=@results223
abbrev mH:=@results157
abbrev j6:=@isAgg47
abbrev lT:=@zeroValue49
abbrev nc:=@underlying22
abbrev io:=@underlying21
abbrev aJ:=@zeroValue25
abbrev dM:=@underlying25
abbrev mG:=@results166
abbrev aV:=@isAgg25
abbrev aj:=@sizeOf25
abbrev am:=@underlying31
abbrev bj:=@zeroValue23
abbrev ei:=@results303
abbrev kP:=@results300
abbrev cm:=@zeroValue37
abbrev aA:=@underlying26
abbrev pC:=@results259
abbrev dD:=@underlying191
abbrev nw:=@sizeOf292
abbrev jE:=@zeroValue3
abbrev pD:=@results257
abbrev pG:=@results198
abbrev gk:=@isAgg141
abbrev dP:=@underlying141
abbrev j7:=@isAgg140
abbrev fX:=@underlying140
abbrev eS:=@sizeOf31
abbrev aR:=@underlying50
abbrev m4:=@isAgg177
abbrev gj:=@sizeOf37
abbrev o5:=@isAgg224
abbrev oY:=@isAgg225
abbrev mg:=@sizeOf4
abbrev na:=@zeroValue274
abbrev kt:=@underlying226
abbrev dC:=@underlying224
abbrev iV:=@underlying223
abbrev lU:=@sizeOf272
abbrev kr:=@underlying272
abbrev mL:=@results107
abbrev fW:=@underlying225
abbrev ia:=@underlying177
abbrev ny:=@sizeOf177
abbrev nJ:=@isAgg4
abbrev ix:=@results12
abbrev mF:=@results200
abbrev qZ:=@call200
abbrev pB:=@zeroValue4
abbrev ed:=@zeroValue52
abbrev m3:=@sizeOf50
abbrev cR:=@sizeOf52
abbrev j5:=@isAgg52
abbrev nK:=@call70
abbrev pH:=@results159
abbrev gz:=@underlying53
abbrev oh:=@zeroValue31
abbrev kW:=@zeroValue114
abbrev gW:=@sizeOf114
abbrev qh:=@call12
abbrev bT:=@zeroValue5
abbrev mJ:=@results127
abbrev mK:=@results118
abbrev g8:=@results330
abbrev jq:=@results21
abbrev mE:=@results316
abbrev cN:=@zeroValue28
abbrev g7:=@sizeOf28
abbrev eh:=@results313
abbrev lm:=@call328
abbrev mI:=@results131
abbrev pE:=@results238
abbrev fc:=@zeroValue69
abbrev ln:=@call174
abbrev cB:=@sizeOf69
abbrev ii:=@isAgg69
abbrev pL:=@results128
abbrev kV:=@zeroValue136
abbrev iw:=@sizeOf136
abbrev ZQ {P:Program} {ops:Array Oper} {N:Nat} {F:Bg} {L:List Ent} {M:Fr} {d:Option Tmp} {ty:TypeId} {pos:String} {after:Array Edge} {rest:List Oper} {Q:Exit→Act→World→Prop} (o:Op) (g:Option (Nat × Bool)):Prop:=Tr N F L M (wpList P ops Q (⟨d,o,ty,pos,after,g⟩ :: rest))
abbrev ZV {P:Program} {ops:Array Oper} {N:Nat} {F:Bg} {L:List Ent} {M:Fr} {d:Option Tmp} {ty:TypeId} {pos:String} {after:Array Edge} {rest:List Oper} {Y:Act→Prop} (o:Op) (g:Option (Nat × Bool)):Prop:=TrQ N M (wpQuiet P ops (HpOK F L) Y (⟨d,o,ty,pos,after,g⟩ :: rest))
structure Wr (P:Prop):Prop where
  h:P
theorem zS {P Q:Prop} (q:Q) (h:Wr Q→P:=by intro h; first|with_reducible exact aS h.1|with_reducible exact bB h.1|with_reducible exact mj h.1|(show Tr _ _ _ _ (wpList _ _ _ []); exact mj h.1)|with_reducible exact cC h.1|with_reducible exact Dp h.1|with_reducible exact sQ h.1|with_reducible exact zJ h.1|with_reducible exact sk h.1|with_reducible exact qj h.1|with_reducible exact NG h.1|with_reducible exact zN h.1|with_reducible exact q8 h.1|with_reducible exact NH h.1|with_reducible exact KR h.1|with_reducible exact NF h.1|with_reducible exact NA h.1|(show ZQ (.move _) none; exact zz0 (af rfl) h.1)|(show ZQ (.assign _) none; exact zz0 (cD rfl) h.1)|(show ZQ (.fieldAddr _ _ _) none; exact zz0 (bE rfl) h.1)|(show ZQ (.load _ _) none; first|exact zz0 (iF rfl) h.1|exact zz0 (cF rfl) h.1|exact zz0 (re rfl) h.1|exact zz0 (wz rfl) h.1|exact zz0 (mm rfl) h.1|exact zz0 (sx rfl) h.1|exact zz0 (wy rfl) h.1)|(show ZQ (.binOp .eql _ _ _ _) none; first|exact zz0 (dq rfl rfl) h.1|exact zz0 (kG rfl rfl) h.1)|(show ZQ (.binOp .add _ _ _ _) none; first|exact zz0 (gl rfl rfl) h.1|exact zz0 (tn rfl rfl) h.1)|(show ZQ (.move _) (some _); exact lX (af rfl) h.1)|(show ZQ (.store _ _ _) none; first|exact Jd er h.1|exact Jd al h.1|exact Jd bY h.1|exact Jd P3 h.1)|(show ZQ (.fieldAddr _ _ _) (some _); exact lX (bE rfl) h.1)|(show ZQ (.load _ _) (some _); first|exact lX (iF rfl) h.1|exact lX (cF rfl) h.1)|(show ZQ (.binOp .lss _ _ _ _) none; first|exact zz0 (ql rfl rfl) h.1|exact zz0 (su rfl rfl) h.1)|(show ZQ (.binOp .sub _ _ _ _) none; first|exact zz0 (gK rfl rfl) h.1|exact zz0 (yc rfl rfl) h.1)|(show ZQ (.binOp .gtr _ _ _ _) none; first|exact zz0 (m6 rfl rfl) h.1|exact zz0 (t8 rfl rfl) h.1)|(show ZQ (.binOp .sub _ _ _ _) (some _); exact lX (gK rfl rfl) h.1)|(show ZQ (.binOp .mul _ _ _ _) none; exact zz0 (oq rfl rfl) h.1)|(show ZQ (.binOp .lss _ _ _ _) (some _); first|exact lX (ql rfl rfl) h.1|exact lX (su rfl rfl) h.1)|(show ZQ (.binOp .neq _ _ _ _) (some _); first|exact lX (jz rfl rfl) h.1|exact lX (wu rfl rfl) h.1)|(show ZQ (.binOp .and _ _ _ _) none; exact zz0 (qp rfl rfl) h.1)|(show ZQ (.extract _ _) none; exact zz0 (fJ rfl rfl) h.1)|(show ZQ (.pick _ _ _) none; first|exact zz0 (kc rfl (by with_reducible assumption) rfl) h.1|exact zz0 (kd rfl (by with_reducible assumption) rfl) h.1|exact zz0 (Pf rfl rfl rfl) h.1)|(show ZQ (.call _) none; first|exact zz0 (Aa rfl) h.1|exact zz0 (rc rfl) h.1|exact zz0 (sV rfl rfl) h.1)|(show ZQ (.unOp .not _ _) none; exact zz0 (tZ rfl) h.1)|(show ZQ (.binOp .eql _ _ _ _) (some _); exact lX (kG rfl rfl) h.1)|(show ZQ (.binOp .geq _ _ _ _) none; exact zz0 (wx rfl rfl) h.1)|(show ZQ (.indexAddr _ _ _) none; first|exact zz0 (Ac rfl rfl) h.1|exact zz0 (iG rfl rfl) h.1|exact zz0 (ww rfl rfl) h.1|exact zz0 (ml rfl rfl) h.1)|(show ZQ (.binOp .leq _ _ _ _) (some _); exact lX (Ab rfl rfl) h.1)|(show ZQ (.unOp .not _ _) (some _); exact lX (tZ rfl) h.1)|(show ZQ (.nilCheck _) none; exact zz0 (ke rfl) h.1)|(show ZQ (.binOp .neq _ _ _ _) none; exact zz0 (wu rfl rfl) h.1)|(show ZQ (.pick _ _ _) (some _); first|exact lX (kd rfl (by with_reducible assumption) rfl) h.1|exact lX (kc rfl (by with_reducible assumption) rfl) h.1)|(show ZQ (.binOp .leq _ _ _ _) none; exact zz0 (Ab rfl rfl) h.1)|(show ZQ (.binOp .gtr _ _ _ _) (some _); exact lX (t8 rfl rfl) h.1)|(show ZQ (.binOp .geq _ _ _ _) (some _); exact lX (wx rfl rfl) h.1)|(show ZQ (.indexAddr _ _ _) (some _); first|exact lX (Ac rfl rfl) h.1|exact lX (ww rfl rfl) h.1)|(show ZQ (.call _) (some _); exact lX (Aa rfl) h.1)|(show ZQ _ (some (_,true)); exact Qc h.1)|(show ZQ _ (some (_,false)); exact Qd h.1)|(show ZQ _ (some (_,_)); exact QD h.1)):P:=h ⟨q⟩
theorem zU {P Q:Prop} (q:Q) (h:Wr Q→P:=by intro h; first|with_reducible exact im h.1|(show TrQ _ _ (wpQuiet _ _ _ _ []); exact im h.1)|(show ZV (.move _) none; exact aw (af rfl) h.1)|(show ZV (.fieldAddr _ _ _) none; exact aw (bE rfl) h.1)|(show ZV (.binOp .add _ _ _ _) none; first|exact aw (gl rfl rfl) h.1|exact aw (tn rfl rfl) h.1)|(show ZV (.binOp .sub _ _ _ _) none; first|exact aw (gK rfl rfl) h.1|exact aw (yc rfl rfl) h.1)|(show ZV (.binOp .neq _ _ _ _) none; exact aw (jz rfl rfl) h.1)|(show ZV (.binOp .eql _ _ _ _) none; exact aw (dq rfl rfl) h.1)|(show ZV (.load _ _) none; first|exact aw (iF rfl) h.1|exact aw (cF rfl) h.1|exact aw (mm rfl) h.1|exact aw (re rfl) h.1|exact aw (wy rfl) h.1|exact aw (sx rfl) h.1|exact aw (wz rfl) h.1)|(show ZV (.move _) (some _); exact mh (af rfl) h.1)|(show ZV (.indexAddr _ _ _) none; first|exact aw (Ac rfl rfl) h.1|exact aw (iG rfl rfl) h.1|exact aw (ww rfl rfl) h.1|exact aw (ml rfl rfl) h.1)|(show ZV (.pick _ _ _) none; first|exact aw (kc rfl (by with_reducible assumption) rfl) h.1|exact aw (kd rfl (by with_reducible assumption) rfl) h.1)|(show ZV (.assign _) none; exact aw (cD rfl) h.1)|(show ZV (.nilCheck _) none; exact aw (ke rfl) h.1)|(show ZV (.fieldAddr _ _ _) (some _); exact mh (bE rfl) h.1)|(show ZV (.load _ _) (some _); first|exact mh (mm rfl) h.1|exact mh (cF rfl) h.1|exact mh (iF rfl) h.1|exact mh (wz rfl) h.1)|(show ZV (.indexAddr _ _ _) (some _); first|exact mh (Ac rfl rfl) h.1|exact mh (iG rfl rfl) h.1|exact mh (ml rfl rfl) h.1)|(show ZV (.unOp .not _ _) (some _); exact mh (tZ rfl) h.1)|(show ZV (.unOp .not _ _) none; exact aw (tZ rfl) h.1)|(show ZV (.binOp .lss _ _ _ _) (some _); exact mh (su rfl rfl) h.1)|(show ZV (.binOp .leq _ _ _ _) none; exact aw (Ab rfl rfl) h.1)|(show ZV (.binOp .lss _ _ _ _) none; exact aw (su rfl rfl) h.1)|(show ZV (.binOp .gtr _ _ _ _) (some _); exact mh (t8 rfl rfl) h.1)|(show ZV (.binOp .sub _ _ _ _) (some _); exact mh (yc rfl rfl) h.1)|(show ZV (.binOp .gtr _ _ _ _) none; exact aw (t8 rfl rfl) h.1)|(show ZV _ (some (_,true)); exact O4 h.1)|(show ZV _ (some (_,false)); exact O5 h.1)|exact zS h.1):P:=h ⟨q⟩
theorem zR2 {P Q:Prop} (q:Q) (h:Wr Q→P:=by intro h; (iterate 2 refine zS ?_); exact h.1):P:=h ⟨q⟩
theorem zR3 {P Q:Prop} (q:Q) (h:Wr Q→P:=by intro h; (iterate 3 refine zS ?_); exact h.1):P:=h ⟨q⟩
theorem zR4 {P Q:Prop} (q:Q) (h:Wr Q→P:=by intro h; (iterate 4 refine zS ?_); exact h.1):P:=h ⟨q⟩
theorem zR5 {P Q:Prop} (q:Q) (h:Wr Q→P:=by intro h; (iterate 5 refine zS ?_); exact h.1):P:=h ⟨q⟩
theorem zR6 {P Q:Prop} (q:Q) (h:Wr Q→P:=by intro h; (iterate 6 refine zS ?_); exact h.1):P:=h ⟨q⟩
theorem zR7 {P Q:Prop} (q:Q) (h:Wr Q→P:=by intro h; (iterate 7 refine zS ?_); exact h.1):P:=h ⟨q⟩
theorem zR8 {P Q:Prop} (q:Q) (h:Wr Q→P:=by intro h; (iterate 8 refine zS ?_); exact h.1):P:=h ⟨q⟩
theorem zR9 {P Q:Prop} (q:Q) (h:Wr Q→P:=by intro h; (iterate 9 refine zS ?_); exact h.1):P:=h ⟨q⟩
theorem bR {P Q:Prop} (q:Q) (h:Wr Q→P:=by intro h; (iterate 10 refine zS ?_); exact h.1):P:=h ⟨q⟩
theorem cj {P Q:Prop} (q:Q) (h:Wr Q→P:=by intro h; (iterate 11 refine zS ?_); exact h.1):P:=h ⟨q⟩
theorem df {P Q:Prop} (q:Q) (h:Wr Q→P:=by intro h; (iterate 12 refine zS ?_); exact h.1):P:=h ⟨q⟩
theorem gB {P Q:Prop} (q:Q) (h:Wr Q→P:=by intro h; (iterate 13 refine zS ?_); exact h.1):P:=h ⟨q⟩
theorem jk {P Q:Prop} (q:Q) (h:Wr Q→P:=by intro h; (iterate 14 refine zS ?_); exact h.1):P:=h ⟨q⟩
theorem mN {P Q:Prop} (q:Q) (h:Wr Q→P:=by intro h; (iterate 15 refine zS ?_); exact h.1):P:=h ⟨q⟩
theorem pf {P Q:Prop} (q:Q) (h:Wr Q→P:=by intro h; (iterate 16 refine zS ?_); exact h.1):P:=h ⟨q⟩
theorem ug {P Q:Prop} (q:Q) (h:Wr Q→P:=by intro h; (iterate 17 refine zS ?_); exact h.1):P:=h ⟨q⟩
theorem GP {P Q:Prop} (q:Q) (h:Wr Q→P:=by intro h; (iterate 18 refine zS ?_); exact h.1):P:=h ⟨q⟩
theorem K8 {P Q:Prop} (q:Q) (h:Wr Q→P:=by intro h; (iterate 19 refine zS ?_); exact h.1):P:=h ⟨q⟩
theorem Pu {P Q:Prop} (q:Q) (h:Wr Q→P:=by intro h; (iterate 20 refine zS ?_); exact h.1):P:=h ⟨q⟩
theorem QI {P Q:Prop} (q:Q) (h:Wr Q→P:=by intro h; (iterate 21 refine zS ?_); exact h.1):P:=h ⟨q⟩
theorem QH {P Q:Prop} (q:Q) (h:Wr Q→P:=by intro h; (iterate 22 refine zS ?_); exact h.1):P:=h ⟨q⟩
theorem QG {P Q:Prop} (q:Q) (h:Wr Q→P:=by intro h; (iterate 27 refine zS ?_); exact h.1):P:=h ⟨q⟩
theorem QF {P Q:Prop} (q:Q) (h:Wr Q→P:=by intro h; (iterate 28 refine zS ?_); exact h.1):P:=h ⟨q⟩
theorem zT2 {P Q:Prop} (q:Q) (h:Wr Q→P:=by intro h; (iterate 2 refine zU ?_); exact h.1):P:=h ⟨q⟩
theorem zT3 {P Q:Prop} (q:Q) (h:Wr Q→P:=by intro h; (iterate 3 refine zU ?_); exact h.1):P:=h ⟨q⟩
theorem zT4 {P Q:Prop} (q:Q) (h:Wr Q→P:=by intro h; (iterate 4 refine zU ?_); exact h.1):P:=h ⟨q⟩
theorem zT5 {P Q:Prop} (q:Q) (h:Wr Q→P:=by intro h; (iterate 5 refine zU ?_); exact h.1):P:=h ⟨q⟩
theorem zT6 {P Q:Prop} (q:Q) (h:Wr Q→P:=by intro h; (iterate 6 refine zU ?_); exact h.1):P:=h ⟨q⟩
theorem zT7 {P Q:Prop} (q:Q) (h:Wr Q→P:=by intro h; (iterate 7 refine zU ?_); exact h.1):P:=h ⟨q⟩
theorem zT8 {P Q:Prop} (q:Q) (h:Wr Q→P:=by intro h; (iterate 8 refine zU ?_); exact h.1):P:=h ⟨q⟩
theorem zT9 {P Q:Prop} (q:Q) (h:Wr Q→P:=by intro h; (iterate 9 refine zU ?_); exact h.1):P:=h ⟨q⟩
theorem Af {P Q:Prop} (q:Q) (h:Wr Q→P:=by intro h; (iterate 10 refine zU ?_); exact h.1):P:=h ⟨q⟩
theorem vp {P Q:Prop} (q:Q) (h:Wr Q→P:=by intro h; (iterate 11 refine zU ?_); exact h.1):P:=h ⟨q⟩
theorem Jq {P Q:Prop} (q:Q) (h:Wr Q→P:=by intro h; (iterate 12 refine zU ?_); exact h.1):P:=h ⟨q⟩
theorem K7 {P Q:Prop} (q:Q) (h:Wr Q→P:=by intro h; (iterate 14 refine zU ?_); exact h.1):P:=h ⟨q⟩
theorem QE {P Q:Prop} (q:Q) (h:Wr Q→P:=by intro h; (iterate 17 refine zU ?_); exact h.1):P:=h ⟨q⟩
theorem zE {P:Prop} (h:P:=by (repeat refine zS ?_); exact Gw):P:=h
theorem zK {P Q:Prop} (is:List Nat) (q:Q) (h:Wr Q→HT is P:=by intro h; (repeat first|refine HT.cons rfl (cD rfl) ?_|refine HT.cons rfl (fJ rfl rfl) ?_|refine HT.cons rfl (bE rfl) ?_|refine HT.cons rfl (iF rfl) ?_|refine HT.cons rfl (cF rfl) ?_|refine HT.cons rfl (af rfl) ?_|refine HT.cons rfl (Ad rfl rfl) ?_|refine HT.cons rfl (re rfl) ?_|refine HT.cons rfl (wz rfl) ?_|refine HT.cons rfl (wy rfl) ?_|refine HT.cons rfl (kG rfl rfl) ?_|refine HT.cons rfl (Ac rfl rfl) ?_|refine HT.cons rfl (iG rfl rfl) ?_|refine HT.cons rfl (ww rfl rfl) ?_|refine HT.cons rfl (ml rfl rfl) ?_|refine HT.cons rfl (sx rfl) ?_|refine HT.cons rfl (ke rfl) ?_|refine HT.cons rfl (BZ rfl rfl) ?_|refine HT.cons rfl (gK rfl rfl) ?_|refine HT.cons rfl (tn rfl rfl) ?_|refine HT.cons rfl (yc rfl rfl) ?_); exact HT.nil h.1):P:=(h ⟨q⟩).h
theorem zQ {P:Prop} (h:P:=by (repeat refine zU ?_); exact Ia):P:=h
theorem cZ {P:Program} {ops:Array Oper} {N:Nat} {F:Bg} {L:List Ent} {M:Fr} {Q:Exit→Act→World→Prop} {l:List Oper} {x y:Bool} (k t d:Nat) (hx:HL.look M t=some (.bool x):=by rfl) (hF:x=false→Tr N F L M (wpList P ops (Exit.then (fun a w=>FrOK N ((d,.bool y) :: M) a∧HpOK F L w) Q) (l.take k)):=by intro h; have h':=h; (try simp only [bs] at h'); exact zE) (h2:Tr N F L ((d,.bool (x || y)) :: M) (wpList P ops Q (l.drop k))) (hT:x=true→Tr N F L M (wpList P ops (Exit.then (fun a w=>FrOK N ((d,.bool true) :: M) a∧HpOK F L w) Q) (l.take k)):=by intro h; (repeat first|refine ol rfl rfl h rfl ?_|refine qk rfl rfl rfl ?_|refine Ih (kc rfl h rfl) rfl ?_|refine BX rfl rfl (by with_reducible assumption) (kc rfl h rfl) rfl ?_); refine mj (aS ?_); exact Gw):Tr N F L M (wpList P ops Q l):=BW k hx hF hT h2
theorem dT {P:Program} {ops:Array Oper} {N:Nat} {F:Bg} {L:List Ent} {M:Fr} {Q:Exit→Act→World→Prop} {l:List Oper} {x y:Bool} (k t d:Nat) (hx:HL.look M t=some (.bool x):=by rfl) (hT:x=true→Tr N F L M (wpList P ops (Exit.then (fun a w=>FrOK N ((d,.bool y) :: M) a∧HpOK F L w) Q) (l.take k)):=by intro h; have h':=h; (try simp only [bs] at h'); exact zE) (h2:Tr N F L ((d,.bool (x && y)) :: M) (wpList P ops Q (l.drop k))) (hF:x=false→Tr N F L M (wpList P ops (Exit.then (fun a w=>FrOK N ((d,.bool false) :: M) a∧HpOK F L w) Q) (l.take k)):=by intro h; (repeat first|refine ol rfl rfl h rfl ?_|refine qk rfl rfl rfl ?_|refine Ih (kd rfl h rfl) rfl ?_|refine BX rfl rfl (by with_reducible assumption) (kd rfl h rfl) rfl ?_); refine mj (aS ?_); exact Gw):Tr N F L M (wpList P ops Q l):=Il k hx hT hF h2
end Go.Proofs.YtiajjbhcpeadfaaGreat
attribute [local irreducible] Go.wpList Go.Code.wp Go.HL.QS Go.HL.Tr Go.HL.TrQ Go.wpQuiet
namespace Go.Proofs.YtiajjbhcpeadfaaGreat
open Go Go.HL Go.RowKit Tryz
theorem Jw (width:Int) (w:World) :
  Cr prog 253 #[.int .i64 width] w (.bool (oC width)):=by
 refine En f253 rfl rfl (bR ?_)
 apply BW (t:=5) (d:=8) 3
 ·exact rfl
 ·intro hF1; have hF1':=hF1
  try simp only [Bool.and_eq_true,Bool.or_eq_true,Bool.not_eq_true',Bool.not_eq_false',decide_eq_true_eq,decide_eq_false_iff_not,Bool.and_eq_false_iff,Bool.or_eq_false_iff,ne_eq,Decidable.not_not] at hF1'
  refine zR5 ?_
  first|exact wo (Sub.cons rfl (zz7 3 rfl)) rfl rfl|exact o6 (Sub.cons rfl (zz7 3 rfl)) rfl (by repeat' constructor)
 ·intro hT1
  refine zR5 ?_
  first|exact wo (Sub.cons rfl (zz7 3 rfl)) rfl rfl|exact o6 (Sub.cons rfl (zz7 3 rfl)) rfl (by repeat' constructor)
 refine zz0 (af rfl) ?_
 apply BW (t:=9) (d:=12) 3
 ·exact rfl
 ·intro hF2; have hF2':=hF2
  try simp only [Bool.and_eq_true,Bool.or_eq_true,Bool.not_eq_true',Bool.not_eq_false',decide_eq_true_eq,decide_eq_false_iff_not,Bool.and_eq_false_iff,Bool.or_eq_false_iff,ne_eq,Decidable.not_not] at hF2'
  refine zR5 ?_
  first|exact wo (Sub.cons rfl (zz7 3 rfl)) rfl rfl|exact o6 (Sub.cons rfl (zz7 3 rfl)) rfl (by repeat' constructor)
 ·intro hT2
  refine zR5 ?_
  first|exact wo (Sub.cons rfl (zz7 3 rfl)) rfl rfl|exact o6 (Sub.cons rfl (zz7 3 rfl)) rfl (by repeat' constructor)
 refine zR4 ?_
 exact aD (e:=rfl)
theorem Nn (l:List UInt8) (V:Value) (w:World) (hV:Sl (hp w) cd l V) (hb:l.length≤140737488355328) :
  Calls prog 46 #[V] w (fun e w'=>∃ V',e=.returned V'∧Ext w w'∧dY w w' 5 cd l V'):=by
 have hV':Sl (Bg.of w).blk cd l V:=hV
 refine En f46 rfl rfl (zR9 ?_)
 refine zz0 (uc rfl (by assumption) an) (zR2 ?_)
 refine fk rfl (fun h1=>?_) (fun h1=>?_)
 ·try simp only [Bool.and_eq_true,Bool.or_eq_true,Bool.not_eq_true',Bool.not_eq_false',decide_eq_true_eq,decide_eq_false_iff_not,Bool.and_eq_false_iff,Bool.or_eq_false_iff,ne_eq,Decidable.not_not] at h1
  refine zR7 ?_
  exact aM results46 rfl fun w' hw=>⟨_,rfl,hw.b0,cH (hV.isNil h1)⟩
 try simp only [Bool.and_eq_true,Bool.or_eq_true,Bool.not_eq_true',Bool.not_eq_false',decide_eq_true_eq,decide_eq_false_iff_not,Bool.and_eq_false_iff,Bool.or_eq_false_iff,ne_eq,Decidable.not_not] at h1
 refine nz (sS cd an bA rfl (fun V2=>zz0 (af rfl) ?_))
 refine B8 rfl rfl (by repeat constructor) (fun w hw=>hw.slF (by assumption)) an ip (fun V3=>?_)
 refine zR4 ?_
 exact aM results46 rfl fun w' hw=>⟨_,rfl,hw.b0,hw.new (.head _)⟩
theorem get_any (b:List UInt8) (V:Value) (at_ width:Int) (w:World) (hV:Sl (hp w) cd b V) (ha:-9223372036854775808≤at_∧at_≤9223372036854775807) :
  Cr prog 193 #[V,.int .i64 at_,.int .i64 width] w (.tuple #[.int .u32 (xr b at_ width).1.toNat,.int .i64 (xr b at_ width).2]):=by
 have hV':Sl (Bg.of w).blk cd b V:=hV
 have hlen:=hV.len_le
 refine En f193 rfl rfl (bR ?_)
 refine zz0 (ak rfl (Jw width)) (zR3 ?_)
 refine fk rfl (fun h1=>?_) (fun h1=>?_)
 ·try simp only [Bool.and_eq_true,Bool.or_eq_true,Bool.not_eq_true',Bool.not_eq_false',decide_eq_true_eq,decide_eq_false_iff_not,Bool.and_eq_false_iff,Bool.or_eq_false_iff,ne_eq,Decidable.not_not] at h1
  refine zR8 ?_
  exact dR (e:=by rw [MM h1]; rfl)
 try simp only [Bool.and_eq_true,Bool.or_eq_true,Bool.not_eq_true',Bool.not_eq_false',decide_eq_true_eq,decide_eq_false_iff_not,Bool.and_eq_false_iff,Bool.or_eq_false_iff,ne_eq,Decidable.not_not] at h1
 refine zR4 ?_
 have hwd:=(DN width).1 h1
 refine zR4 ?_
 apply BW (t:=15) (d:=22) 7
 ·exact rfl
 ·intro hF2; have hF2':=hF2
  try simp only [Bool.and_eq_true,Bool.or_eq_true,Bool.not_eq_true',Bool.not_eq_false',decide_eq_true_eq,decide_eq_false_iff_not,Bool.and_eq_false_iff,Bool.or_eq_false_iff,ne_eq,Decidable.not_not] at hF2'
  refine zR4 ?_
  refine zz5 hF2 (yc rfl rfl) (zR4 ?_)
  first|exact wo (Sub.cons rfl (zz7 7 rfl)) rfl rfl|exact o6 (Sub.cons rfl (zz7 7 rfl)) rfl (by repeat' constructor)
 ·intro hT2
  refine zR9 ?_
  first|exact wo (Sub.cons rfl (zz7 7 rfl)) rfl rfl|exact o6 (Sub.cons rfl (zz7 7 rfl)) rfl (by repeat' constructor)
 refine zR2 ?_
 refine fk rfl (fun h3=>?_) (fun h3=>?_)
 ·try simp only [Bool.and_eq_true,Bool.or_eq_true,Bool.not_eq_true',Bool.not_eq_false',decide_eq_true_eq,decide_eq_false_iff_not,Bool.and_eq_false_iff,Bool.or_eq_false_iff,ne_eq,Decidable.not_not] at h3
  refine zR8 ?_
  exact dR (e:=by rw [HA h1 h3]; rfl)
 try simp only [Bool.and_eq_true,Bool.or_eq_true,Bool.not_eq_true',Bool.not_eq_false',decide_eq_true_eq,decide_eq_false_iff_not,Bool.and_eq_false_iff,Bool.or_eq_false_iff,ne_eq,Decidable.not_not] at h3
 refine pf ?_
 refine cT (ι:=Nat × UInt32) (fun ⟨k,acc⟩=>(k:Int)≤width∧HB b at_ acc k=(xr b at_ width).1) (fun _=>_) (fun ⟨k,acc⟩=>[]) (fun ⟨k,acc⟩=>[(9,.int .i64 ((k:Int) - 1)),(8,.int .u32 acc.toNat)]) (fun ⟨k,acc⟩=>k) (width.toNat,0) ⟨by omega,by rw [C5 h1 (by omega)]⟩ (Front.c (Front.c Front.nil)) (fun i hi m hm=>?_)
 obtain ⟨k,acc⟩:=i
 dsimp only at hi hm
 change Tr _ _ [] ([(9,.int .i64 ((k:Int) - 1)),(8,.int .u32 acc.toNat)] ++ _) _
 obtain ⟨hk1,hk3⟩:=hi
 refine zR7 ?_
 refine fk rfl (fun h4=>?_) (fun h4=>?_)
 ·try simp only [Bool.and_eq_true,Bool.or_eq_true,Bool.not_eq_true',Bool.not_eq_false',decide_eq_true_eq,decide_eq_false_iff_not,Bool.and_eq_false_iff,Bool.or_eq_false_iff,ne_eq,Decidable.not_not] at h4
  refine zR6 ?_
  refine zz0 (lY rfl rfl (by omega)) (zR6 ?_)
  refine zz0 (dW rfl ao ac) (zz0 (sU rfl rfl) (bR ?_))
  refine aP (k - 1,_) (o:=⟨by omega,by rw [← hk3]; obtain ⟨q,rfl⟩:∃ q,k=q+1:=⟨k - 1,by omega⟩; simp only [HB,Nat.add_sub_cancel]; congr 4; omega⟩)
 try simp only [Bool.and_eq_true,Bool.or_eq_true,Bool.not_eq_true',Bool.not_eq_false',decide_eq_true_eq,decide_eq_false_iff_not,Bool.and_eq_false_iff,Bool.or_eq_false_iff,ne_eq,Decidable.not_not] at h4
 refine gB ?_
 exact dR (e:=by rw [← hk3,C5 h1 (by omega)]; obtain rfl:k=0:=(by omega); rfl)
theorem nm (r:Int) (w:World) :
  Cr prog 194 #[.int .i64 r] w (.bool (mU r)):=by
 refine En f194 rfl rfl (bR ?_)
 refine dT 3 5 8 (h2:=zR4 ?_)
 exact aD (e:=rfl)
theorem yJ (n:UInt32) (w:World) :
  Cr prog 222 #[.int .u32 n.toNat] w (.bool (iu n)):=by
 refine En f222 rfl rfl (zR8 ?_)
 refine zz0 (qn (n:=127) rfl rfl) (zz0 (af rfl) ?_)
 apply gJ 3 5 8 (fun hF1 hF1'=>?_) ?_; rotate_right
 ·refine zz5 hF1 (af rfl) (zz5 hF1 (jA (n:=4294967168) rfl rfl) ?_)
  exact zE
 refine zR4 ?_
 exact aD (e:=rfl)
theorem H9 (i:Ins) (w:World) :
  Cr prog 251 #[.agg (al.enc i).toArray] w ((.tuple #[.int .u8 (fj i).toNat,.int .i64 5,.bool (decide (fj i≠0))])):=by
 refine En f251 rfl rfl (zR2 ?_)
 refine bJ rfl rfl (fun b1=>bR ?_)
 refine dZ (.of (ι:=UInt8) (fun c=>c=fj i) (fun _=>Bg.of w) (fun c=>[cellE b1 (al.enc i) 36]) (fun c=>[(5,.int .u8 c.toNat)])) ?_ (fun c hi=>?_)
 ·skip
  refine zR6 ?_
  refine zz0 (aI (vs:=[(0,_),(1,_)]) rfl rfl (eM _ _)) (zR5 ?_)
  refine zz0 (aI (vs:=[(0,_),(1,_)]) rfl rfl (eM _ _)) ?_
  refine zz0 (m7 rfl rfl fx ad aH iW kf) (zR3 ?_)
  refine ab rfl ?_ ?_<;>intro h2
  ·refine zR5 ?_
   refine aT (80:UInt8) (o:=(by unfold fj; repeat (first|rw [if_pos (by omega)]|rw [if_neg (by omega)])))
  refine dx (zz0 (aI (vs:=[(0,_),(1,_)]) rfl rfl (eM _ _)) ?_)
  refine zz0 (m7 rfl rfl fx ad aH iW kf) (zR3 ?_)
  refine ab rfl ?_ ?_<;>intro h3
  ·refine zR5 ?_
   refine aT (81:UInt8) (o:=(by unfold fj; repeat (first|rw [if_pos (by omega)]|rw [if_neg (by omega)])))
  refine dx (zz0 (aI (vs:=[(0,_),(1,_)]) rfl rfl (eM _ _)) ?_)
  refine zz0 (m7 rfl rfl fx ad aH iW kf) (zR3 ?_)
  refine ab rfl ?_ ?_<;>intro h4
  ·refine zR5 ?_
   refine aT (82:UInt8) (o:=(by unfold fj; repeat (first|rw [if_pos (by omega)]|rw [if_neg (by omega)])))
  refine dx (zz0 (aI (vs:=[(0,_),(1,_)]) rfl rfl (eM _ _)) ?_)
  refine zz0 (m7 rfl rfl fx ad aH iW kf) (zR3 ?_)
  refine ab rfl ?_ ?_<;>intro h5
  ·refine zR5 ?_
   refine aT (83:UInt8) (o:=(by unfold fj; repeat (first|rw [if_pos (by omega)]|rw [if_neg (by omega)])))
  refine dx (zz0 (aI (vs:=[(0,_),(1,_)]) rfl rfl (eM _ _)) ?_)
  refine zz0 (m7 rfl rfl fx ad aH iW kf) (zR3 ?_)
  refine ab rfl ?_ ?_<;>intro h6
  ·refine zR5 ?_
   refine aT (84:UInt8) (o:=(by unfold fj; repeat (first|rw [if_pos (by omega)]|rw [if_neg (by omega)])))
  refine dx (zz0 (aI (vs:=[(0,_),(1,_)]) rfl rfl (eM _ _)) ?_)
  refine zz0 (m7 rfl rfl fx ad aH iW kf) (zR3 ?_)
  refine ab rfl ?_ ?_<;>intro h7
  ·refine zR5 ?_
   refine aT (85:UInt8) (o:=(by unfold fj; repeat (first|rw [if_pos (by omega)]|rw [if_neg (by omega)])))
  refine dx (zz0 (aI (vs:=[(0,_),(1,_)]) rfl rfl (eM _ _)) ?_)
  refine zz0 (m7 rfl rfl fx ad aH iW kf) (zR3 ?_)
  refine ab rfl ?_ ?_<;>intro h8
  ·refine zR5 ?_
   refine aT (86:UInt8) (o:=(by unfold fj; repeat (first|rw [if_pos (by omega)]|rw [if_neg (by omega)])))
  refine dx (zz0 (aI (vs:=[(0,_),(1,_)]) rfl rfl (eM _ _)) ?_)
  refine zz0 (m7 rfl rfl fx ad aH iW kf) (zR3 ?_)
  refine ab rfl ?_ ?_<;>intro h9
  ·refine zR5 ?_
   refine aT (87:UInt8) (o:=(by unfold fj; repeat (first|rw [if_pos (by omega)]|rw [if_neg (by omega)])))
  refine zR3 ?_
  refine aT (0:UInt8) (o:=(by unfold fj; repeat (first|rw [if_pos (by omega)]|rw [if_neg (by omega)])))
 skip
 refine zR4 ?_
 refine zz0 (vg (n:=0) rfl rfl) (zR6 ?_)
 exact eC results251 rfl rfl rfl fun w' hw=>⟨by subst hi; rfl,hw.b0⟩
theorem xw (i:Ins) (w:World) :
  Cr prog 252 #[.agg (al.enc i).toArray] w ((.tuple #[.int .u8 (og i).1.toNat,.int .i64 (og i).2.1,.bool (og i).2.2])):=by
 refine En f252 rfl rfl (zR2 ?_)
 refine bJ rfl rfl (fun b1=>df ?_)
 refine cZ 4 8 12 (h2:=zR2 ?_)
 refine ab rfl ?_ ?_<;>intro h3
 ·refine zR9 ?_
  exact eC kQ rfl rfl rfl fun w' hw=>⟨by unfold og; exact zG,hw.b0⟩
 refine df ?_
 refine ab rfl ?_ ?_<;>intro h4
 ·refine zR4 ?_
  refine zz0 (dS rfl ad ao) (zz0 (mM (m:=144) rfl rfl) (zR8 ?_))
  exact eC kQ rfl rfl rfl fun w' hw=>⟨by unfold og; exact zG,hw.b0⟩
 refine zR8 ?_
 refine ab rfl ?_ ?_<;>intro h5
 ·refine zR4 ?_
  refine zz0 (dS rfl ad ao) (zz0 (mM (m:=96) rfl rfl) (zR8 ?_))
  exact eC kQ rfl rfl rfl fun w' hw=>⟨by unfold og; exact zG,hw.b0⟩
 refine zR8 ?_
 refine ab rfl ?_ ?_<;>intro h6
 ·refine zR4 ?_
  refine zz0 (dS rfl ad ao) (zz0 (mM (m:=112) rfl rfl) (zR8 ?_))
  exact eC kQ rfl rfl rfl fun w' hw=>⟨by unfold og; exact zG,hw.b0⟩
 refine cj ?_
 exact eC kQ rfl rfl rfl fun w' hw=>⟨by unfold og; exact zG,hw.b0⟩
theorem tG (i:Ins) (w:World) (hI:InsOK i) :
  Cr prog 191 #[.agg (al.enc i).toArray] w ((.tuple #[.int .u8 (aB i).1.toNat,.int .i64 (aB i).2.1,.bool (aB i).2.2])):=by
 have hop:=hI.op; unfold I64 at hop
 refine En f191 rfl rfl (zR2 ?_)
 refine bJ rfl rfl (fun b1=>pf ?_)
 apply cM
 ·exact rfl
 ·intro hO2
  try simp only [bs] at hO2
  refine zR8 ?_
  apply cM
  ·exact rfl
  ·intro hO3
   try simp only [bs] at hO3
   refine zR7 ?_
   exact dl rfl (zz9 4 rfl)
  refine aS ?_
  exact dl rfl (zz9 5 rfl)
 refine aS ?_
 refine ab rfl ?_ ?_<;>intro h4
 ·refine zR4 ?_
  refine zz0 (dS rfl ad ao) (zR8 ?_)
  exact eC dj rfl rfl rfl fun w' hw=>⟨by unfold aB; exact zG,hw.b0⟩
 refine zR8 ?_
 refine ab rfl ?_ ?_<;>intro h5
 ·refine zR4 ?_
  refine zz0 (Jo rfl rfl) ?_
  refine zz0 (dS rfl ad ao) (zz0 (mM (m:=8) rfl rfl) (zR8 ?_))
  exact eC dj rfl rfl rfl fun w' hw=>⟨by unfold aB; exact zG,hw.b0⟩
 refine zR8 ?_
 refine ab rfl ?_ ?_<;>intro h6
 ·refine zR4 ?_
  refine zz0 (Jo rfl rfl) ?_
  refine zz0 (dS rfl ad ao) (zz0 (mM (m:=16) rfl rfl) (zR8 ?_))
  exact eC dj rfl rfl rfl fun w' hw=>⟨by unfold aB; exact zG,hw.b0⟩
 refine zR6 ?_
 refine dT 4 41 45 (h2:=zR3 ?_)
 refine ab rfl ?_ ?_<;>intro h8
 ·refine zR5 ?_
  refine zz0 (dS rfl ad ao) (pf ?_)
  refine ab rfl ?_ ?_<;>intro h9
  ·refine zR3 ?_
   refine zz0 (mM (m:=32) rfl rfl) (zR9 ?_)
   exact eC dj rfl rfl rfl fun w' hw=>⟨by unfold aB; exact zG,hw.b0⟩
  refine zR6 ?_
  refine ab rfl ?_ ?_<;>intro h10
  ·refine zR3 ?_
   refine zz0 (mM (m:=48) rfl rfl) (zR9 ?_)
   exact eC dj rfl rfl rfl fun w' hw=>⟨by unfold aB; exact zG,hw.b0⟩
  refine zR6 ?_
  refine ab rfl ?_ ?_<;>intro h11
  ·refine zR3 ?_
   refine zz0 (mM (m:=64) rfl rfl) (zR9 ?_)
   exact eC dj rfl rfl rfl fun w' hw=>⟨by unfold aB; exact zG,hw.b0⟩
  refine df ?_
  exact eC dj rfl rfl rfl fun w' hw=>⟨by unfold aB; exact zG,hw.b0⟩
 refine zR9 ?_
 apply cM
 ·exact rfl
 ·intro hO12
  try simp only [bs] at hO12
  refine zR8 ?_
  apply cM
  ·exact rfl
  ·intro hO13
   try simp only [bs] at hO13
   refine zR7 ?_
   exact dl rfl (zz9 4 rfl)
  refine aS ?_
  exact dl rfl (zz9 5 rfl)
 refine aS ?_
 refine ab rfl ?_ ?_<;>intro h14
 ·refine zR3 ?_
  refine zz0 (ak rfl (H9 i)) (cj ?_)
  exact eC dj rfl rfl rfl fun w' hw=>⟨by unfold aB; exact zG,hw.b0⟩
 refine zR8 ?_
 refine ab rfl ?_ ?_<;>intro h15
 ·refine bR ?_
  exact eC dj rfl rfl rfl fun w' hw=>⟨by unfold aB; exact zG,hw.b0⟩
 refine zR6 ?_
 refine cZ 4 87 91 (h2:=zR3 ?_)
 refine ab rfl ?_ ?_<;>intro h17
 ·refine zR3 ?_
  refine zz0 (ak rfl (xw i)) (cj ?_)
  exact eC dj rfl rfl rfl fun w' hw=>⟨by unfold aB; exact zG,hw.b0⟩
 refine zR8 ?_
 refine ab rfl ?_ ?_<;>intro h18
 ·refine bR ?_
  exact eC dj rfl rfl rfl fun w' hw=>⟨by unfold aB; exact zG,hw.b0⟩
 refine zR8 ?_
 refine ab rfl ?_ ?_<;>intro h19
 ·refine bR ?_
  exact eC dj rfl rfl rfl fun w' hw=>⟨by unfold aB; exact zG,hw.b0⟩
 refine zR8 ?_
 refine ab rfl ?_ ?_<;>intro h20
 ·refine bR ?_
  exact eC dj rfl rfl rfl fun w' hw=>⟨by unfold aB; exact zG,hw.b0⟩
 refine zR8 ?_
 refine ab rfl ?_ ?_<;>intro h21
 ·refine bR ?_
  exact eC dj rfl rfl rfl fun w' hw=>⟨by unfold aB; exact zG,hw.b0⟩
 refine zR8 ?_
 refine ab rfl ?_ ?_<;>intro h22
 ·refine bR ?_
  exact eC dj rfl rfl rfl fun w' hw=>⟨by unfold aB; exact zG,hw.b0⟩
 refine zR8 ?_
 refine ab rfl ?_ ?_<;>intro h23
 ·refine bR ?_
  exact eC dj rfl rfl rfl fun w' hw=>⟨by unfold aB; exact zG,hw.b0⟩
 refine cj ?_
 exact eC dj rfl rfl rfl fun w' hw=>⟨by unfold aB; exact zG,hw.b0⟩
theorem MF (i:Ins) (s:Int) (w:World) :
  Cr prog 221 #[.agg (al.enc i).toArray,.int .i64 s] w (.agg (al.enc (oJ i s)).toArray):=by
 refine En f221 rfl rfl (zR2 ?_)
 refine bJ rfl rfl (fun b1=>?_)
 refine bH aF rfl (fun b2=>bR ?_)
 refine zz0 (aI (vs:=[(0,_),(2,_),(8,_)]) rfl rfl (vk _ _ _)) ?_
 refine bH aF rfl (fun b3=>zR3 ?_)
 refine dZ (.of (ι:=Ins) (fun k1=>k1=wQ i s) (fun _=>Bg.of w) (fun k1=>[cellE b3 (al.enc k1) 36,cellE b2 (al.enc bh) 36,cellE b1 (al.enc i) 36]) (fun k1=>[])) ?_ (fun k1 hi=>?_)
 ·skip
  refine gB ?_
  apply cM
  ·exact rfl
  ·intro hO4
   try simp only [bs] at hO4
   refine zR5 ?_
   exact dl rfl (zz9 2 rfl)
  refine aS ?_
  refine ab rfl ?_ ?_<;>intro h5
  ·refine zR4 ?_
   refine zz1 (cs':=[_,_,_,_,_,_,_,_,_]) rfl rfl aH rfl ?_
   refine zR3 ?_
   apply bO ⟨i.addr,0,i.op,0,0,0,i.a,0,i.size⟩
   ·exact rfl
   ·exact Front.nil
   ·exact zz9 7 rfl
   ·exact (by repeat' constructor)
   exact (by simp only [wQ]; congr 1<;>first|rfl|(rw [if_pos (by omega)])|(rw [if_neg (by omega)]))
  refine zR6 ?_
  refine ab rfl ?_ ?_<;>intro h6
  ·refine bC ([cellE b1 (al.enc i) 36]) 8 rfl ah ?_
   refine zK [0,1,2,3,4] ?_
   refine au 5 rfl ?_
   refine zz1 (cs':=[_,_,_,_,_,_,_,_,_]) rfl rfl aH rfl ?_
   refine aC ?_
   refine zz4 6 rfl (bE rfl) ?_
   refine au 7 rfl ?_
   refine zz1 (cs':=[_,_,_,_,_,_,_,_,_]) rfl rfl aH rfl ?_
   refine aC ?_
   refine fg (zR2 ?_)
   apply bO ⟨i.addr,0,i.op,0,0,0,i.a,i.b,i.size⟩
   ·exact rfl
   ·exact Front.nil
   ·exact zz9 12 rfl
   ·exact (by repeat' constructor)
   exact (by simp only [wQ]; congr 1<;>first|rfl|(rw [if_pos (by omega)])|(rw [if_neg (by omega)]))
  refine zR7 ?_
  apply cM
  ·exact rfl
  ·intro hO7
   try simp only [bs] at hO7
   refine zR5 ?_
   exact dl rfl (zz9 2 rfl)
  refine aS ?_
  refine ab rfl ?_ ?_<;>intro h8
  ·refine bC ([cellE b1 (al.enc i) 36]) 8 rfl ah ?_
   refine zK [0,1,2,3,4] ?_
   refine au 5 rfl ?_
   refine zz1 (cs':=[_,_,_,_,_,_,_,_,_]) rfl rfl aH rfl ?_
   refine aC ?_
   refine zz4 6 rfl (bE rfl) ?_
   refine au 7 rfl ?_
   refine zz1 (cs':=[_,_,_,_,_,_,_,_,_]) rfl rfl ar rfl ?_
   refine aC ?_
   refine fg (zR2 ?_)
   apply bO ⟨i.addr,i.imm,i.op,0,0,0,i.a,0,i.size⟩
   ·exact rfl
   ·exact Front.nil
   ·exact zz9 15 rfl
   ·exact (by repeat' constructor)
   exact (by simp only [wQ]; congr 1<;>first|rfl|(rw [if_pos (by omega)])|(rw [if_neg (by omega)]))
  refine zR6 ?_
  refine ab rfl ?_ ?_<;>intro h9
  ·refine bC ([cellE b1 (al.enc i) 36]) 12 rfl ah ?_
   refine zK [0,1,2,3,4,5,6] ?_
   refine au 7 rfl ?_
   refine zz1 (cs':=[_,_,_,_,_,_,_,_,_]) rfl rfl aH rfl ?_
   refine aC ?_
   refine zz4 8 rfl (bE rfl) ?_
   refine au 9 rfl ?_
   refine zz1 (cs':=[_,_,_,_,_,_,_,_,_]) rfl rfl aH rfl ?_
   refine aC ?_
   refine zz4 10 rfl (bE rfl) ?_
   refine au 11 rfl ?_
   refine zz1 (cs':=[_,_,_,_,_,_,_,_,_]) rfl rfl ar rfl ?_
   refine aC ?_
   refine fg (zR2 ?_)
   apply bO ⟨i.addr,i.imm,i.op,0,0,0,i.a,i.b,i.size⟩
   ·exact rfl
   ·exact Front.nil
   ·exact zz9 20 rfl
   ·exact (by repeat' constructor)
   exact (by simp only [wQ]; congr 1<;>first|rfl|(rw [if_pos (by omega)])|(rw [if_neg (by omega)]))
  refine zR7 ?_
  apply cM
  ·exact rfl
  ·intro hO10
   try simp only [bs] at hO10
   refine zR5 ?_
   exact dl rfl (zz9 2 rfl)
  refine aS ?_
  refine ab rfl ?_ ?_<;>intro h11
  ·refine zR4 ?_
   refine zz1 (cs':=[_,_,_,_,_,_,_,_,_]) rfl rfl ar rfl ?_
   refine zR3 ?_
   apply bO ⟨i.addr,i.imm,i.op,0,0,0,0,0,i.size⟩
   ·exact rfl
   ·exact Front.nil
   ·exact zz9 17 rfl
   ·exact (by repeat' constructor)
   exact (by simp only [wQ]; congr 1<;>first|rfl|(rw [if_pos (by omega)])|(rw [if_neg (by omega)]))
  refine zR3 ?_
  apply bO ⟨i.addr,0,i.op,0,0,0,0,0,i.size⟩
  ·exact rfl
  ·exact Front.nil
  ·exact zz9 14 rfl
  ·exact (by repeat' constructor)
  exact (by simp only [wQ]; congr 1<;>first|rfl|(rw [if_pos (by omega)])|(rw [if_neg (by omega)]))
 skip
 refine dZ (.of (ι:=Ins) (fun k2=>k2=oJ i s) (fun _=>Bg.of w) (fun k2=>[cellE b3 (al.enc k2) 36,cellE b2 (al.enc bh) 36,cellE b1 (al.enc i) 36]) (fun k2=>[])) ?_ (fun k2 hi=>?_)
 ·skip
  refine zR7 ?_
  refine dT 4 58 62 (h2:=zR3 ?_)
  refine ab rfl ?_ ?_<;>intro h13
  ·refine zR4 ?_
   refine zz1 (cs':=[_,_,_,_,_,_,_,_,_]) rfl rfl aH rfl ?_
   refine zR3 ?_
   apply bO { k1 with form:=i.form }
   ·exact rfl
   ·exact Front.nil
   ·exact zz9 9 rfl
   ·exact (by repeat' constructor)
   exact (by subst hi; rw [rU]; congr 1<;>first|rfl|(rw [if_pos (by omega)])|(rw [if_neg (by omega)]; rfl))
  refine zR9 ?_
  apply cM
  ·exact rfl
  ·intro hO14
   try simp only [bs] at hO14
   refine zR8 ?_
   apply cM
   ·exact rfl
   ·intro hO15
    try simp only [bs] at hO15
    refine zR7 ?_
    exact dl rfl (zz9 4 rfl)
   refine aS ?_
   exact dl rfl (zz9 5 rfl)
  refine aS ?_
  refine ab rfl ?_ ?_<;>intro h16
  ·refine zR4 ?_
   refine zz1 (cs':=[_,_,_,_,_,_,_,_,_]) rfl rfl aH rfl ?_
   refine zR3 ?_
   apply bO { k1 with width:=i.width }
   ·exact rfl
   ·exact Front.nil
   ·exact zz9 14 rfl
   ·exact (by repeat' constructor)
   exact (by subst hi; rw [rU]; congr 1<;>first|rfl|(rw [if_pos (by omega)])|(rw [if_neg (by omega)]; rfl))
  refine zR8 ?_
  refine ab rfl ?_ ?_<;>intro h17
  ·refine bC ([cellE b1 (al.enc i) 36]) 8 rfl ah ?_
   refine zK [0,1,2,3,4] ?_
   refine au 5 rfl ?_
   refine zz1 (cs':=[_,_,_,_,_,_,_,_,_]) rfl rfl aH rfl ?_
   refine aC ?_
   refine zz4 6 rfl (bE rfl) ?_
   refine au 7 rfl ?_
   refine zz1 (cs':=[_,_,_,_,_,_,_,_,_]) rfl rfl aH rfl ?_
   refine aC ?_
   refine fg (zR2 ?_)
   apply bO { k1 with form:=i.form,cc:=i.cc }
   ·exact rfl
   ·exact Front.nil
   ·exact zz9 21 rfl
   ·exact (by repeat' constructor)
   exact (by subst hi; rw [rU]; congr 1<;>first|rfl|(rw [if_pos (by omega)])|(rw [if_neg (by omega)]; rfl))
  refine zR8 ?_
  refine ab rfl ?_ ?_<;>intro h18
  ·refine zR4 ?_
   refine zz1 (cs':=[_,_,_,_,_,_,_,_,_]) rfl rfl aH rfl ?_
   refine zR3 ?_
   apply bO { k1 with cc:=i.cc }
   ·exact rfl
   ·exact Front.nil
   ·exact zz9 22 rfl
   ·exact (by repeat' constructor)
   exact (by subst hi; rw [rU]; congr 1<;>first|rfl|(rw [if_pos (by omega)])|(rw [if_neg (by omega)]; rfl))
  refine zR3 ?_
  refine aT k1 (o:=(by subst hi; rw [rU,if_neg (by omega),if_neg (by omega),if_neg (by omega)]; rfl))
 skip
 refine zR7 ?_
 exact aL (e:=by subst hi; rfl)
theorem check_any (i:Ins) (w:World) (hI:InsOK i) :
  Cr prog 154 #[.agg (al.enc i).toArray] w ((.tuple #[.int .u8 (lj i).1.toNat,.int .i64 (lj i).2.1,.int .i64 (lj i).2.2])):=by
 refine En f154 rfl rfl (zR2 ?_)
 refine bJ rfl rfl (fun b1=>zR8 ?_)
 refine zz0 (aK rfl (fun w hw=>tG i w hI)) (cj ?_)
 refine eU ah (zT3 ?_)
 apply zD 5 16 21 (fun hF2 hF2'=>?_) ?_; rotate_right
 ·refine zT2 ?_
  refine db hF2 (ak rfl (nm i.a)) ?_
  exact zQ
 refine aw (af rfl) ?_
 apply zD 5 22 27 (fun hF3 hF3'=>?_) ?_; rotate_right
 ·refine zT2 ?_
  refine db hF3 (ak rfl (nm i.b)) ?_
  exact zQ
 refine aw (af rfl) ?_
 apply zD 6 28 34 (fun hF4 hF4'=>?_) ?_; rotate_right
 ·refine zT2 ?_
  refine db hF4 (ak rfl (MF i (aB i).2.1)) (db hF4 (cF rfl) ?_)
  refine db hF4 (Jk rfl rfl E8 kX (xe _ kX) rfl Ae B7) ?_
  exact zQ
 refine zT2 ?_
 refine ab rfl ?_ ?_<;>intro h5
 ·refine zR9 ?_
  exact eC pK rfl rfl rfl fun w' hw=>⟨by rw [Np (by simp_all [or_assoc])]; rfl,hw.b0⟩
 refine zR8 ?_
 refine cZ 3 37 40 (h2:=?_)
 refine zz0 (af rfl) ?_
 apply dV 5 41 46 (fun hT7 hT7'=>?_) ?_; rotate_right
 ·refine zR2 ?_
  refine zz5 hT7 (ak rfl (yJ i.imm)) ?_
  exact zE
 refine zz0 (af rfl) ?_
 apply gA
 ·exact (rfl:_=(13,47,60))
 ·exact rfl
 ·intro hF8; have hF8':=hF8
  try simp only [bs] at hF8'
  refine zR3 ?_
  apply fC
  ·exact (rfl:_=(9,50,59))
  ·exact rfl
  ·intro hT9; have hT9':=hT9
   try simp only [bs] at hT9'
   refine zR5 ?_
   refine zz5 hT9 (gK (n:=2) rfl rfl) ?_
   refine zz5 hT9 (ak rfl (yJ (i.imm - i.addr - 2))) (zR4 ?_)
   exact aN (Sub.cons rfl (zz7 9 rfl))
  ·intro hF9
   refine cj ?_
   exact aN (Sub.cons rfl (zz7 9 rfl))
  refine zR3 ?_
  exact aN (Sub.cons rfl (zz7 5 rfl))
 ·intro hT8
  refine mN ?_
  exact aN (Sub.cons rfl (zz7 13 rfl))
 refine zR2 ?_
 refine ab rfl ?_ ?_<;>intro h10
 ·refine zR9 ?_
  exact eC pK rfl rfl rfl fun w' hw=>⟨by rw [No (by simp_all) (by simp_all)]; rfl,hw.b0⟩
 refine df ?_
 exact eC pK rfl rfl rfl fun w' hw=>⟨by rw [BK (PZ (by simp_all) (by intro hc; rcases hc with ⟨h1|h1,h2⟩|⟨h1,h2⟩<;>simp_all))]; rfl,hw.b0⟩
theorem size_any (s:Int) (w:World) (hs:0≤s∧s≤8) :
  Cr prog 170 #[.int .i64 s] w (.int .i64 (eK s)):=by
 refine En f170 rfl rfl (zR8 ?_)
 refine zz0 (sT rfl rfl ff (by refine ⟨by omega,?_⟩; show s<9; omega)) ?_
 refine zz0 (Ji (n:=48) rfl rfl) ?_
 refine zz0 (dh rfl ao ad) (zR4 ?_)
 exact aD (e:=by obtain rfl|rfl|rfl|rfl|rfl|rfl|rfl|rfl|rfl:s=0∨s=1∨s=2∨s=3∨s=4∨s=5∨s=6∨s=7∨s=8:=(by omega)<;>rfl)
theorem l5 (i:Ins) (w:World) (hI:InsOK i) :
  Cr prog 92 #[.agg (al.enc i).toArray] w (.bool (decide (eN i=0))):=by
 refine En f92 rfl rfl (zR2 ?_)
 refine bJ rfl rfl (fun b1=>zR6 ?_)
 refine zz0 (aK rfl (fun w hw=>check_any i w hI)) (ug ?_)
 exact aD (e:=by rw [tR])
theorem qO (i:Ins) (w:World) (hI:InsOK i) :
  Cr prog 117 #[.agg (al.enc i).toArray] w (.int .i64 (gG i)):=by
 refine En f117 rfl rfl (zR2 ?_)
 refine bJ rfl rfl (fun b1=>zR6 ?_)
 refine zz0 (aK rfl (fun w hw=>check_any i w hI)) (pf ?_)
 refine ab rfl ?_ ?_<;>intro h2
 ·refine zR7 ?_
  exact aD (e:=by unfold gG; rw [if_neg (by rw [← tR]; assumption)])
 refine zR5 ?_
 refine zz0 (aK rfl (fun w hw=>size_any (lj i).2.1 w (Dg i))) (zR4 ?_)
 exact aD (e:=by have he:eN i=0:=(by rw [← tR]; assumption); unfold gG; rw [if_pos he,BK he])
theorem EL (i:Ins) (w:World) (hI:InsOK i) :
  Cr prog 60 #[.agg (al.enc i).toArray] w (.int .u32 (jT i).toNat):=by
 refine En f60 rfl rfl (zR2 ?_)
 refine bJ rfl rfl (fun b1=>zR4 ?_)
 refine eU ah (zT3 ?_)
 refine aw (aK rfl (fun w hw=>qO i w hI)) ?_
 refine aw (eJ rfl ad ac) (zT5 ?_)
 exact aD (e:=rfl)
theorem Fz (i:Ins) (w:World) :
  Cr prog 195 #[.agg (al.enc i).toArray] w (.bool (jf i)):=by
 refine En f195 rfl rfl (zR2 ?_)
 refine bJ rfl rfl (fun b1=>GP ?_)
 apply cM
 ·exact rfl
 ·intro hO2
  try simp only [bs] at hO2
  refine zR6 ?_
  apply cM
  ·exact rfl
  ·intro hO3
   try simp only [bs] at hO3
   refine zR6 ?_
   apply cM
   ·exact rfl
   ·intro hO4
    try simp only [bs] at hO4
    refine zR5 ?_
    exact dl rfl (zz9 2 rfl)
   refine aS ?_
   exact dl rfl (zz9 3 rfl)
  refine aS ?_
  exact dl rfl (zz9 3 rfl)
 refine aS ?_
 refine ab rfl ?_ ?_<;>intro h5
 ·refine zR8 ?_
  exact aD (e:=by unfold jf; rw [decide_eq_true (by omega)]; rfl)
 refine zR9 ?_
 refine dT 4 13 17 (h2:=zR4 ?_)
 exact aD (e:=by unfold jf; rw [decide_eq_false (p:=i.op=1∨i.op=2∨i.op=21∨i.op=22) (by omega)]; rfl)
theorem tt (i:Ins) (w:World) :
  Cr prog 144 #[.agg (al.enc i).toArray] w (.tuple #[.int .u32 (bG i).1.toNat,.bool (bG i).2]):=by
 refine En f144 rfl rfl (zR2 ?_)
 refine bJ rfl rfl (fun b1=>cj ?_)
 refine cZ 4 7 11 (h2:=zR2 ?_)
 refine ab rfl ?_ ?_<;>intro h3
 ·refine bR ?_
  exact dR (e:=by unfold bG; exact zG)
 refine zR9 ?_
 exact dR (e:=by unfold bG; exact zG)
theorem zk (a:UInt32) (k:Int) (w:World) :
  Cr prog 192 #[.int .u32 a.toNat,.int .i64 k] w (.int .u32 (MY a k).toNat):=by
 refine En f192 rfl rfl (GP ?_)
 refine ab rfl ?_ ?_<;>intro h1
 ·refine zR3 ?_
  refine zz0 (mn rfl ac underlying284) (zz0 (eJ rfl underlying284 ac) (zR6 ?_))
  exact aD (e:=by unfold MY; exact zG)
 refine zR6 ?_
 refine ab rfl ?_ ?_<;>intro h2
 ·refine zR3 ?_
  refine zz0 (mn rfl ac underlying285) (zz0 (eJ rfl underlying285 ac) (zR6 ?_))
  exact aD (e:=by unfold MY; exact zG)
 refine bR ?_
 exact aD (e:=by unfold MY; exact zG)
theorem Oe (c:UInt8) (w:World) :
  Cr prog 190 #[.int .u8 c.toNat] w (.tuple #[.agg (al.enc (rowP c).1).toArray,.bool (rowP c).2]):=by
 have hc1:=c.toNat_lt
 have hc2:(c % 16).toNat=c.toNat % 16:=by rw [UInt8.toNat_mod]; rfl
 have hc3:(c / 16).toNat=c.toNat / 16:=by rw [UInt8.toNat_div]; rfl
 refine En f190 rfl rfl (zR2 ?_)
 refine bH aF rfl (fun b1=>zR7 ?_)
 refine zz0 (BZ rfl rfl) ?_
 refine zz0 (dh rfl ao ad) (zz0 (af rfl) (zz0 (Ad rfl rfl) ?_))
 refine zz0 (dh rfl ao ad) (zR9 ?_)
 refine zz0 (DC (n:=2) rfl rfl) (zR3 ?_)
 refine ab rfl ?_ ?_<;>intro h2
 ·refine zR3 ?_
  refine zz0 (dh rfl ao ad) (zz0 (aI (vs:=[(2,_)]) rfl rfl (g9 _)) (zR8 ?_))
  exact fL (e:=by unfold rowP; (repeat (first|rw [if_pos (by first|assumption|omega)]|rw [if_neg (by first|assumption|omega|(intro hq; simp_all))]))<;>rfl)
 refine zR3 ?_
 refine zz0 (ya (n:=8) rfl rfl) (zz0 (af rfl) ?_)
 apply dV 3 29 32 (fun hT3 hT3'=>?_) ?_; rotate_right
 ·refine zz5 hT3 (af rfl) (zz5 hT3 (rb (n:=16) rfl rfl) ?_)
  exact zE
 refine zR3 ?_
 refine ab rfl ?_ ?_<;>intro h4
 ·refine zR4 ?_
  refine zz0 (aI (vs:=[(2,_),(6,_)]) rfl rfl (kZ _ _)) (zR8 ?_)
  exact fL (e:=by unfold rowP; (repeat (first|rw [if_pos (by first|assumption|omega)]|rw [if_neg (by first|assumption|omega|(intro hq; simp_all))]))<;>rfl)
 refine zR3 ?_
 refine zz0 (ya (n:=16) rfl rfl) (zz0 (af rfl) ?_)
 apply dV 3 39 42 (fun hT5 hT5'=>?_) ?_; rotate_right
 ·refine zz5 hT5 (af rfl) (zz5 hT5 (rb (n:=24) rfl rfl) ?_)
  exact zE
 refine zR3 ?_
 refine ab rfl ?_ ?_<;>intro h6
 ·refine zR3 ?_
  refine zz0 (aI (vs:=[(2,_),(6,_)]) rfl rfl (kZ _ _)) (zR8 ?_)
  exact fL (e:=by unfold rowP; (repeat (first|rw [if_pos (by first|assumption|omega)]|rw [if_neg (by first|assumption|omega|(intro hq; simp_all))]))<;>rfl)
 refine zR5 ?_
 refine dT 3 48 51 (h2:=?_)
 refine zz0 (af rfl) ?_
 refine dT 3 52 55 (h2:=zR3 ?_)
 refine ab rfl ?_ ?_<;>intro h9
 ·refine zR6 ?_
  refine zz0 (aI (vs:=[(2,_),(3,_)]) rfl rfl (xz _ _)) (zR8 ?_)
  exact fL (e:=by unfold rowP; (repeat (first|rw [if_pos (by first|assumption|omega)]|rw [if_neg (by first|assumption|omega|(intro hq; simp_all))]))<;>rfl)
 refine zR5 ?_
 refine dT 3 64 67 (h2:=zR3 ?_)
 refine ab rfl ?_ ?_<;>intro h11
 ·refine zR3 ?_
  refine zz0 (aI (vs:=[(2,_),(3,_),(5,_)]) rfl rfl (o8 _ _ _)) (zR8 ?_)
  exact fL (e:=by unfold rowP; (repeat (first|rw [if_pos (by first|assumption|omega)]|rw [if_neg (by first|assumption|omega|(intro hq; simp_all))]))<;>rfl)
 refine zR5 ?_
 refine dT 3 73 76 (h2:=zR3 ?_)
 refine ab rfl ?_ ?_<;>intro h13
 ·refine zR3 ?_
  refine zz0 (aI (vs:=[(2,_),(3,_),(5,_)]) rfl rfl (o8 _ _ _)) (zR8 ?_)
  exact fL (e:=by unfold rowP; (repeat (first|rw [if_pos (by first|assumption|omega)]|rw [if_neg (by first|assumption|omega|(intro hq; simp_all))]))<;>rfl)
 refine zR5 ?_
 refine dT 3 82 85 (h2:=zR3 ?_)
 refine ab rfl ?_ ?_<;>intro h15
 ·refine zR3 ?_
  refine zz0 (aI (vs:=[(2,_),(5,_)]) rfl rfl (xy _ _)) (zR8 ?_)
  exact fL (e:=by unfold rowP; (repeat (first|rw [if_pos (by first|assumption|omega)]|rw [if_neg (by first|assumption|omega|(intro hq; simp_all))]))<;>rfl)
 refine zR5 ?_
 refine zz0 (aI (vs:=[(2,_),(4,_)]) rfl rfl (fK _ _)) ?_
 refine zz0 (aI (vs:=[(2,_),(4,_)]) rfl rfl (fK _ _)) ?_
 refine zz0 (aI (vs:=[(2,_),(4,_)]) rfl rfl (fK _ _)) ?_
 refine zz0 (aI (vs:=[(2,_),(4,_)]) rfl rfl (fK _ _)) ?_
 refine zz0 (aI (vs:=[(2,_),(4,_)]) rfl rfl (fK _ _)) ?_
 refine zz0 (aI (vs:=[(2,_),(4,_)]) rfl rfl (fK _ _)) ?_
 refine zz0 (aI (vs:=[(2,_),(4,_)]) rfl rfl (fK _ _)) ?_
 refine zz0 (aI (vs:=[(2,_),(4,_)]) rfl rfl (fK _ _)) ?_
 refine zz0 (aI (vs:=[(2,_)]) rfl rfl (g9 _)) ?_
 refine zz0 (aI (vs:=[(2,_)]) rfl rfl (g9 _)) ?_
 refine zz0 (aI (vs:=[(2,_)]) rfl rfl (g9 _)) ?_
 refine zz0 (aI (vs:=[(2,_)]) rfl rfl (g9 _)) ?_
 refine zz0 (aI (vs:=[(2,_)]) rfl rfl (g9 _)) ?_
 refine zz0 (aI (vs:=[(2,_)]) rfl rfl (g9 _)) ?_
 refine zz0 (aI (vs:=[(2,_)]) rfl rfl (g9 _)) ?_
 refine zz0 (aI (vs:=[(0,_),(1,_),(2,_),(3,_),(4,_),(5,_),(6,_),(7,_),(8,_),(9,_),(10,_),(11,_),(12,_),(13,_),(14,_)]) rfl rfl (iD _ _ _ _ _ _ _ _ _ _ _ _ _ _ _ _ _ _ _ _ _ _ _ _ _ _ _ _ _ _ _ _ _ _ _ _ _ _ _ _ _ _ _ _ _ _ _ _ _ _ _ _ _ _ _ _ _ _ _ _ _ _ _ _ _ _ _ _ _ _ _ _ _ _ _ _ _ _ _ _ _ _ _ _ _ _ _ _ _ _ _ _ _ _ _ _ _ _ _ _ _ _ _ _ _ _ _ _ _ _ _ _ _ _ _ _ _ _ _ _ _ _ _ _ _ _ _ _ _ _ _ _ _ _ _)) ?_
 refine bH zeroValue283 rfl (fun b16=>?_)
 refine zz8 rfl rfl sizeOf283 ?_
 refine Ds (bH aF rfl (fun b17=>GP ?_))
 refine cP (.of (ι:=Nat) (fun k=>k≤15∧vW c (Em.drop k)=vW c Em) (fun _=>_) (fun k=>[cellE b17 (al.enc bh) 36,cellE b1 (al.enc bh) 36]) (fun k=>[(105,.int .i64 (k:Nat))]) (fun k=>15 - k)) 0 ⟨by omega,rfl⟩ (Front.c Front.nil) (fun k hi m hm=>?_)
 obtain ⟨hk1,hk2⟩:=hi
 refine zR6 ?_
 refine ab rfl ?_ ?_<;>intro h18
 ·refine zR6 ?_
  refine zz0 (K3 (E:=al) Em rfl rfl underlying283 bV isAgg36 rfl rfl (by omega)) ?_
  refine bH aF rfl (fun b19=>zR6 ?_)
  refine zz0 (aK rfl (fun w hw=>tG (Em.getD k default) w (rows_ok k (by omega)))) (gB ?_)
  apply dV 4 115 119 (fun hT20 hT20'=>?_) ?_; rotate_right
  ·refine zR2 ?_
   refine zz5 hT20 (Pi rfl rfl) ?_
   exact zE
  refine zR2 ?_
  refine ab rfl ?_ ?_<;>intro h21
  ·refine zR8 ?_
   refine ku rfl (jk ?_)
   exact fL (e:=by unfold rowP; (repeat (rw [if_neg (by first|assumption|omega|(intro hq; simp_all))])); rw [← hk2,drop_cons (k:=k) (by show k<15; omega),vW,if_pos (by assumption)]; rfl)
  refine zR8 ?_
  refine aP (k+1) (o:=⟨by omega,by rw [← hk2,drop_cons (k:=k) (by show k<15; omega),vW,if_neg (by intro hq; simp_all)]⟩)
 refine mN ?_
 exact fL (e:=by unfold rowP; (repeat (rw [if_neg (by first|assumption|omega|(intro hq; simp_all))])); obtain rfl:k=15:=(by omega); rw [← hk2]; rfl)
theorem HI (b:List UInt8) (V:Value) (addr:UInt32) (w:World) (hV:Sl (hp w) cd b V) :
  Cr prog 135 #[V,.int .u32 addr.toNat] w (.tuple #[.agg (al.enc (oy b addr).1).toArray,.int .i64 (oy b addr).2]):=by
 have hV':Sl (Bg.of w).blk cd b V:=hV
 have hlen:=hV.len_le
 refine En f135 rfl rfl (zR2 ?_)
 refine bH aF rfl (fun b1=>cj ?_)
 refine ab rfl ?_ ?_<;>intro h2
 ·refine dx (zz0 (aI (vs:=[]) rfl rfl (gm)) (zR6 ?_))
  exact fL (e:=by rw [P8 (by omega)]; rfl)
 refine zR7 ?_
 refine zz0 (ak rfl (Oe (b.getD 0 default))) (zR3 ?_)
 refine bH aF rfl (fun b3=>cj ?_)
 refine ab rfl ?_ ?_<;>intro h4
 ·refine dx (zz0 (aI (vs:=[]) rfl rfl (gm)) (zR6 ?_))
  exact fL (e:=by rw [P7 (by omega) (by assumption)]; rfl)
 refine zR5 ?_
 refine zz0 (aK rfl (fun w hw=>tG (rowP (b.getD 0 default)).1 w (LD _))) (df ?_)
 refine zz0 (aK rfl (fun w hw=>size_any (aB (rowP (b.getD 0 default)).1).2.1 w (pn _))) (df ?_)
 refine ab rfl ?_ ?_<;>intro h5
 ·refine dx (zz0 (aI (vs:=[]) rfl rfl (gm)) (zR6 ?_))
  exact fL (e:=by rw [P6 (by omega) (by assumption) (by assumption)]; rfl)
 refine zR3 ?_
 have hsz:=G1 (aB (rowP (b.getD 0 default)).1).2.1
 refine zR4 ?_
 refine zz1 (cs':=[_,_,_,_,_,_,_,_,_]) rfl rfl ar rfl ?_
 refine zz0 (bE rfl) (zz1 (cs':=[_,_,_,_,_,_,_,_,_]) rfl rfl aH rfl ?_)
 refine zR6 ?_
 refine zz0 (eJ rfl ad ac) (zR4 ?_)
 refine dZ (.of (ι:=Ins) (fun k1=>k1=wG (aB (rowP (b.getD 0 default)).1).2.1 { (rowP (b.getD 0 default)).1 with addr:=addr,size:=eK (aB (rowP (b.getD 0 default)).1).2.1 } b) (fun _=>Bg.of w) (fun k1=>[cellE b3 (al.enc k1) 36,cellE b1 (al.enc bh) 36]) (fun k1=>[])) ?_ (fun k1 hi=>?_)
 ·skip
  refine gB ?_
  apply cM
  ·exact rfl
  ·intro hO6
   try simp only [bs] at hO6
   refine zR6 ?_
   apply cM
   ·exact rfl
   ·intro hO7
    try simp only [bs] at hO7
    refine zR5 ?_
    exact dl rfl (zz9 2 rfl)
   refine aS ?_
   exact dl rfl (zz9 3 rfl)
  refine aS ?_
  refine ab rfl ?_ ?_<;>intro h8
  ·refine zR4 ?_
   refine zz0 (dh rfl ao ad) (zz0 (bE rfl) (zz1 (cs':=[_,_,_,_,_,_,_,_,_]) rfl rfl aH rfl ?_))
   refine zR3 ?_
   apply bO { { (rowP (b.getD 0 default)).1 with addr:=addr,size:=eK (aB (rowP (b.getD 0 default)).1).2.1 } with a:=(b.getD 1 default).toNat }
   ·exact rfl
   ·exact Front.nil
   ·exact zz9 9 rfl
   ·exact (by repeat' constructor)
   exact (by unfold wG; exact zG)
  refine zR7 ?_
  apply cM
  ·exact rfl
  ·intro hO9
   try simp only [bs] at hO9
   refine zR5 ?_
   exact dl rfl (zz9 2 rfl)
  refine aS ?_
  refine ab rfl ?_ ?_<;>intro h10
  ·refine bC ([cellE b1 (al.enc bh) 36]) 14 rfl ah ?_
   refine zK [0,1,2,3] ?_
   refine zz4 4 rfl (dh rfl ao ad) ?_
   refine zK [5,6,7,8] ?_
   refine zz4 9 rfl (dh rfl ao ad) ?_
   refine zz4 10 rfl (bE rfl) ?_
   refine au 11 rfl ?_
   refine zz1 (cs':=[_,_,_,_,_,_,_,_,_]) rfl rfl aH rfl ?_
   refine aC ?_
   refine zz4 12 rfl (bE rfl) ?_
   refine au 13 rfl ?_
   refine zz1 (cs':=[_,_,_,_,_,_,_,_,_]) rfl rfl aH rfl ?_
   refine aC ?_
   refine fg (zR2 ?_)
   apply bO { { (rowP (b.getD 0 default)).1 with addr:=addr,size:=eK (aB (rowP (b.getD 0 default)).1).2.1 } with a:=(b.getD 1 default / 16).toNat,b:=(b.getD 1 default % 16).toNat }
   ·exact rfl
   ·exact Front.nil
   ·exact zz9 19 rfl
   ·exact (by repeat' constructor)
   exact (by unfold wG; exact zG)
  refine zR3 ?_
  apply bO { (rowP (b.getD 0 default)).1 with addr:=addr,size:=eK (aB (rowP (b.getD 0 default)).1).2.1 }
  ·exact rfl
  ·exact Front.nil
  ·exact zz9 7 rfl
  ·exact (by repeat' constructor)
  exact (by unfold wG; exact zG)
 skip
 refine dZ (.of (ι:=Ins) (fun k2=>k2=qF (aB (rowP (b.getD 0 default)).1).2.1 (wG (aB (rowP (b.getD 0 default)).1).2.1 { (rowP (b.getD 0 default)).1 with addr:=addr,size:=eK (aB (rowP (b.getD 0 default)).1).2.1 } b) b (addr+u32 (eK (aB (rowP (b.getD 0 default)).1).2.1))) (fun _=>Bg.of w) (fun k2=>[cellE b3 (al.enc k2) 36,cellE b1 (al.enc bh) 36]) (fun k2=>[])) ?_ (fun k2 hi=>?_)
 ·skip
  refine gB ?_
  apply cM
  ·exact rfl
  ·intro hO11
   try simp only [bs] at hO11
   refine zR5 ?_
   exact dl rfl (zz9 2 rfl)
  refine aS ?_
  refine ab rfl ?_ ?_<;>intro h12
  ·refine zR4 ?_
   refine zz0 (dW rfl ao ac) (zz0 (ak rfl (zk (b.getD 2 default).toUInt32 1)) (zz0 (bE rfl) ?_))
   refine zz1 (cs':=[_,_,_,_,_,_,_,_,_]) rfl rfl ar rfl ?_
   refine zR3 ?_
   rw [Fu]
   apply bO { k1 with imm:=nR (b.getD 2 default) }
   ·exact rfl
   ·exact Front.nil
   ·exact zz9 10 rfl
   ·exact (by repeat' constructor)
   exact (by subst hi; unfold qF; exact zG)
  refine zR6 ?_
  refine ab rfl ?_ ?_<;>intro h13
  ·refine cC (zz0 (af rfl) (zz0 (aK rfl (fun w hw=>get_any b V 2 4 w (hw.slF hV) (by omega))) (zR4 ?_)))
   refine zz1 (cs':=[_,_,_,_,_,_,_,_,_]) rfl rfl ar rfl ?_
   refine zR3 ?_
   rw [show (xr b 2 4).1=iO b 2 from Fi (k:=2) (by omega)]
   apply bO { k1 with imm:=iO b 2 }
   ·exact rfl
   ·exact Front.nil
   ·exact zz9 12 rfl
   ·exact (by repeat' constructor)
   exact (by subst hi; unfold qF; exact zG)
  refine zR6 ?_
  refine ab rfl ?_ ?_<;>intro h14
  ·refine zR5 ?_
   refine zz0 (dW rfl ao ac) (zz0 (ak rfl (zk (b.getD 1 default).toUInt32 1)) (zR2 ?_))
   refine zz1 (cs':=[_,_,_,_,_,_,_,_,_]) rfl rfl ar rfl ?_
   refine zR3 ?_
   rw [Fu]
   apply bO { k1 with imm:=(addr+u32 (eK (aB (rowP (b.getD 0 default)).1).2.1))+nR (b.getD 1 default) }
   ·exact rfl
   ·exact Front.nil
   ·exact zz9 16 rfl
   ·exact (by repeat' constructor)
   exact (by subst hi; unfold qF; exact zG)
  refine zR6 ?_
  refine ab rfl ?_ ?_<;>intro h15
  ·refine zR3 ?_
   refine zz0 (aK rfl (fun w hw=>get_any b V 1 4 w (hw.slF hV) (by omega))) (df ?_)
   refine zz1 (cs':=[_,_,_,_,_,_,_,_,_]) rfl rfl ar rfl ?_
   refine zR3 ?_
   rw [show (xr b 1 4).1=iO b 1 from Fi (k:=1) (by omega)]
   apply bO { k1 with imm:=(addr+u32 (eK (aB (rowP (b.getD 0 default)).1).2.1))+iO b 1 }
   ·exact rfl
   ·exact Front.nil
   ·exact zz9 21 rfl
   ·exact (by repeat' constructor)
   exact (by subst hi; unfold qF; exact zG)
  refine zR3 ?_
  refine aT k1 (o:=(by subst hi; unfold qF; exact zG))
 skip
 refine zR5 ?_
 refine zz0 (ak rfl (nm k2.a)) (zR2 ?_)
 apply gJ 5 118 123 (fun hF16 hF16'=>?_) ?_; rotate_right
 ·refine zR2 ?_
  refine zz5 hF16 (ak rfl (nm k2.b)) ?_
  exact zE
 refine zR2 ?_
 refine ab rfl ?_ ?_<;>intro h17
 ·refine dx (zz0 (aI (vs:=[]) rfl rfl (gm)) (zR6 ?_))
  exact fL (e:=by rw [Nf (by omega) (by assumption) (by assumption) hi,if_pos (by assumption)]; rfl)
 refine bR ?_
 exact fL (e:=by rw [Nf (by omega) (by assumption) (by assumption) hi,if_neg (by simp_all)]; rfl)
theorem name_any (s:ByteArray) (w:World) (hs:s.size≤9223372036854775807) :
  Cr prog 95 #[.string s] w (.bool (yK s)):=by
 have hbl:=u7 s
 refine En f95 rfl rfl (zR9 ?_)
 refine Gl rfl ff an ao (by unfold maxLen; omega) rfl (fun V1 F1 hF1 hV1=>zR5 ?_)
 refine cP (.of (ι:=Nat) (fun k=>k≤s.size∧((bts s).take k).any va=false) (fun _=>_) (fun k=>[]) (fun k=>[(8,.int .i64 (k:Nat))]) (fun k=>s.size - k)) 0 ⟨Nat.zero_le _,rfl⟩ (Front.c Front.nil) (fun k hi m hm=>?_)
 obtain ⟨hk1,hk2⟩:=hi
 refine zR6 ?_
 refine ab rfl ?_ ?_<;>intro h2
 ·refine jk ?_
  refine zz0 (rb (n:=97) rfl rfl) (zz0 (af rfl) ?_)
  apply gJ 3 14 17 (fun hF3 hF3'=>?_) ?_; rotate_right
  ·refine zz5 hF3 (af rfl) (zz5 hF3 (xZ (n:=122) rfl rfl) ?_)
   exact zE
  refine zz0 (af rfl) ?_
  apply fC
  ·exact (rfl:_=(7,18,25))
  ·exact rfl
  ·intro hT4; have hT4':=hT4
   try simp only [bs] at hT4'
   refine zz5 hT4 (af rfl) (zz5 hT4 (rb (n:=65) rfl rfl) (zz5 hT4 (af rfl) ?_))
   apply gA
   ·exact (rfl:_=(3,21,24))
   ·exact rfl
   ·intro hF5; have hF5':=hF5
    try simp only [bs] at hF5'
    refine zz5 hF5 (af rfl) (zz5 hF5 (xZ (n:=90) rfl rfl) (zR3 ?_))
    exact aN (Sub.cons rfl (zz7 3 rfl))
   ·intro hT5
    refine zR5 ?_
    exact aN (Sub.cons rfl (zz7 3 rfl))
   refine zR3 ?_
   exact aN (Sub.cons rfl (zz7 5 rfl))
  ·intro hF4
   refine zR9 ?_
   exact aN (Sub.cons rfl (zz7 7 rfl))
  refine zz0 (af rfl) ?_
  apply fC
  ·exact (rfl:_=(7,26,33))
  ·exact rfl
  ·intro hT6; have hT6':=hT6
   try simp only [bs] at hT6'
   refine zz5 hT6 (af rfl) (zz5 hT6 (rb (n:=48) rfl rfl) (zz5 hT6 (af rfl) ?_))
   apply gA
   ·exact (rfl:_=(3,29,32))
   ·exact rfl
   ·intro hF7; have hF7':=hF7
    try simp only [bs] at hF7'
    refine zz5 hF7 (af rfl) (zz5 hF7 (xZ (n:=57) rfl rfl) (zR3 ?_))
    exact aN (Sub.cons rfl (zz7 3 rfl))
   ·intro hT7
    refine zR5 ?_
    exact aN (Sub.cons rfl (zz7 3 rfl))
   refine zR3 ?_
   exact aN (Sub.cons rfl (zz7 5 rfl))
  ·intro hF6
   refine zR9 ?_
   exact aN (Sub.cons rfl (zz7 7 rfl))
  refine zz0 (af rfl) ?_
  apply dV 3 34 37 (fun hT8 hT8'=>?_) ?_; rotate_right
  ·refine zz5 hT8 (af rfl) (zz5 hT8 (vg (n:=95) rfl rfl) ?_)
   exact zE
  refine zz0 (af rfl) ?_
  apply dV 3 38 41 (fun hT9 hT9'=>?_) ?_; rotate_right
  ·refine zz5 hT9 (af rfl) (zz5 hT9 (vg (n:=46) rfl rfl) ?_)
   exact zE
  refine zR2 ?_
  refine ab rfl ?_ ?_<;>intro h10
  ·refine cj ?_
   refine aM results95 rfl (fun w' hw=>?_)
   have hbad:va ((bts s).getD k default)=true:=by simp only [va,OC,N1,OW,bs]; assumption
   exact ⟨by rw [Bc (by omega) hbad],hw.below hF1⟩
  refine zR8 ?_
  have hbad:va ((bts s).getD k default)=false:=by simp only [va,OC,N1,OW,bs]; assumption
  refine aP (k+1) (o:=⟨by omega,by rw [any_take_succ (by omega),hk2,hbad]; rfl⟩)
 refine zR8 ?_
 refine zz0 (qo rfl ff) (zR2 ?_)
 apply dV 4 46 50 (fun hT11 hT11'=>?_) ?_; rotate_right
 ·refine zz5 hT11 (af rfl) (zz5 hT11 (qo rfl ff) ?_)
  exact zE
 refine zR4 ?_
 exact aM results95 rfl fun w' hw=>⟨by rw [Bb (by omega) hk2],hw.below hF1⟩
theorem pP (s:SecV) (w:World) (hs:s.data.length≤200000) :
  Cr prog 97 #[.agg (bP.enc s).toArray] w (.agg (P3.enc (gy s)).toArray):=by
 have hadr:=s.addr.toNat_lt
 refine En f97 rfl rfl (zR2 ?_)
 refine bJ rfl rfl (fun b1=>?_)
 refine bH kU rfl (fun b2=>zR6 ?_)
 refine zz0 (dL rfl ac bF) (zR2 ?_)
 refine zz0 (iZ rfl an) ?_
 refine zz0 (eO rfl ad bF (IntWalk.u64_in _ (by omega))) ?_
 refine zz0 (rf rfl rfl (by omega)) (zR9 ?_)
 refine zz0 (eJ rfl bF ac) (zz0 (aI (vs:=[(0,_),(1,_)]) rfl rfl (qq _ _)) (zR4 ?_))
 exact aL (e:=rfl)
theorem JC (w:World) :
  Cr prog 98 #[] w (.agg (P3.enc Ci).toArray):=by
 refine En f98 rfl rfl (zR2 ?_)
 refine bH kU rfl (fun b1=>zR4 ?_)
 refine zz0 (aI (vs:=[(0,_),(1,_)]) rfl rfl (qq _ _)) (zR4 ?_)
 exact aL (e:=rfl)
theorem ES (a b:Rng) (w:World) :
  Cr prog 96 #[.agg (P3.enc a).toArray,.agg (P3.enc b).toArray] w (.bool (rO a b)):=by
 refine En f96 rfl rfl (zR2 ?_)
 refine bJ rfl rfl (fun b1=>?_)
 refine bJ rfl rfl (fun b2=>zR9 ?_)
 refine zz0 (sq rfl rfl) (zR4 ?_)
 refine zz0 (sn rfl rfl) (zR5 ?_)
 exact aD (e:=rfl)
theorem KB (s:SecV) (a:UInt32) (b:Nat) (w:World) (hc:Cell (hp w) b 0 (.int .u32 a.toNat)) (hs:s.data.length≤200000) :
  Cr prog 156 #[.agg (bP.enc s).toArray,.pointer (some ⟨b,0,none⟩)] w (.bool (inS a s)):=by
 have hc':Cell (Bg.of w).blk b 0 (.int .u32 a.toNat):=hc
 refine En f156 rfl rfl (zR2 ?_)
 refine bJ rfl rfl (fun b1=>zR6 ?_)
 refine zz0 (aK rfl (fun w hw=>pP s w hs)) ?_
 refine bH kU rfl (fun b2=>zR7 ?_)
 refine zz0 (qm rfl (by assumption) co) ?_
 refine zz0 (qn rfl rfl) (zz0 (af rfl) ?_)
 apply dV 5 11 16 (fun hT3 hT3'=>?_) ?_; rotate_right
 ·refine zz5 hT3 (qm rfl (by assumption) co) ?_
  exact zE
 refine zR4 ?_
 exact aD (e:=rfl)
theorem HO (x s:SecV) (b:Nat) (w:World) (hc:CellsIn (hp w) b (bP.enc s)) :
  Cr prog 94 #[.agg (bP.enc x).toArray,.pointer (some ⟨b,0,none⟩)] w (.bool (decide (x.name=s.name))):=by
 have hc':CellsIn (Bg.of w).blk b (bP.enc s):=hc
 refine En f94 rfl rfl (zR2 ?_)
 refine bJ rfl rfl (fun b1=>zR8 ?_)
 refine zz0 (nL rfl isAgg9) ?_
 refine zz0 (zV rfl rfl) (zR4 ?_)
 exact aD (e:=rfl)
theorem HN (x s:SecV) (b:Nat) (w:World) (hc:CellsIn (hp w) b (bP.enc s)) (hx:x.data.length≤200000) (hs:s.data.length≤200000) :
  Cr prog 99 #[.agg (bP.enc x).toArray,.pointer (some ⟨b,0,none⟩)] w (.bool (rO (gy x) (gy s))):=by
 have hc':CellsIn (Bg.of w).blk b (bP.enc s):=hc
 refine En f99 rfl rfl (zR2 ?_)
 refine bJ rfl rfl (fun b1=>zR4 ?_)
 refine eU ah (aw (cF rfl) ?_)
 refine aw (aK rfl (fun w hw=>pP x w hx)) ?_
 refine aw (KX rfl (by assumption) isAgg49 j4 (by rfl)) ?_
 refine aw (aK rfl (fun w hw=>pP s w hs)) ?_
 refine aw (ak rfl (ES (gy x) (gy s))) (zT4 ?_)
 exact aD (e:=rfl)
theorem s9 (l:List SecV) (V:Value) (g:FuncId) (cb:List Value) (w:World) (hV:Sl (hp w) bP l V) (eg:∀ args w,(callFunc g args).run prog w=.ok (.enter g args) w) (p:SecV→Bool) (hp:∀ x,x∈l→∀ w',Ext w w'→Calls prog g ([Value.agg (bP.enc x).toArray] ++ cb).toArray w' fun e w''=>e=.returned (.bool (p x))∧Ext w' w'') :
  Cr prog 155 #[V,.func (.func g) #[] cb.toArray] w (.int .i64 (dA p 0 l)):=by
 have hV':Sl (Bg.of w).blk bP l V:=hV
 have hlen:=hV.len_le
 refine En f155 rfl rfl (jk ?_)
 refine cP (.of (ι:=Nat) (fun k=>k≤l.length∧dA p k (l.drop k)=dA p 0 l) (fun _=>_) (fun k=>[]) (fun k=>[(8,.int .i64 (k:Nat))]) (fun k=>l.length - k)) 0 ⟨Nat.zero_le _,rfl⟩ (Front.c Front.nil) (fun k hi m hm=>?_)
 obtain ⟨hk1,hk2⟩:=hi
 refine zR6 ?_
 refine ab rfl ?_ ?_<;>intro h1
 ·refine ug ?_
  refine zz0 (i6 rfl rfl eg (fun w hw=>hp _ (ba (by omega)) w (hw.b0))) (zR2 ?_)
  refine ab rfl ?_ ?_<;>intro h2
  ·refine df ?_
   exact aD (e:=by rw [← hk2,drop_cons (k:=k) (by omega),dA,if_pos (by assumption)])
  refine zR8 ?_
  refine aP (k+1) (o:=⟨by omega,by rw [← hk2,drop_cons (k:=k) (by omega),dA,if_neg (by simp_all)]⟩)
 refine cj ?_
 exact aD (e:=by rw [← hk2,List.drop_of_length_le (by omega)]; rfl)
theorem qd (l:List SecV) (V:Value) (g:FuncId) (cb:List Value) (w:World) (hV:Sl (hp w) bP l V) (eg:∀ args w,(callFunc g args).run prog w=.ok (.enter g args) w) (p:SecV→Bool) (hp:∀ x,x∈l→∀ w',Ext w w'→Calls prog g ([Value.agg (bP.enc x).toArray] ++ cb).toArray w' fun e w''=>e=.returned (.bool (p x))∧Ext w' w'') :
  Cr prog 93 #[V,.func (.func g) #[] cb.toArray] w (.bool (l.any p)):=by
 refine En f93 rfl rfl (zR9 ?_)
 refine zz0 (aK rfl (fun w hw=>s9 l V g cb w (hw.slF hV) eg p (fun x hx w'' h=>hp x hx w'' ((hw.b0).trans h)))) (zR5 ?_)
 exact aD (e:=by rw [uQ])
theorem uX (l:List SecV) (V:Value) (a:UInt32) (w:World) (hV:Sl (hp w) bP l V) (hB:SecB l) :
  Cr prog 103 #[V,.int .u32 a.toNat] w (.int .i64 (bL l a)):=by
 have hV':Sl (Bg.of w).blk bP l V:=hV
 have hlen:=hB.1
 refine En f103 rfl rfl (zR2 ?_)
 refine bJ rfl rfl (fun b1=>zR6 ?_)
 refine zz0 (fB rfl rfl) ?_
 refine zz0 (aK rfl (fun w hw=>s9 l V _ _ w (hw.slF hV) call156 (inS a) (fun x hx w'' h=>KB x a _ w'' (cellE.cell (hw.ent _ (.head _)) h rfl) (hB.2 x hx)))) (zR4 ?_)
 exact aD (e:=rfl)
theorem J1 (l:List SecV) (V:Value) (a:UInt32) (n:Int) (w:World) (hV:Sl (hp w) bP l V) (hB:SecB l) (hn:0≤n∧n≤9223372036854775807) :
  Cr prog 223 #[V,.int .u32 a.toNat,.int .i64 n] w (.tuple #[.int .i64 (eE l a n).1,.int .i64 (eE l a n).2.1,.int .i64 (eE l a n).2.2]):=by
 have hV':Sl (Bg.of w).blk bP l V:=hV
 have hlen:=hB.1
 have hf:=j1 (l:=l) (a:=a)
 refine En f223 rfl rfl (cj ?_)
 refine zz0 (aK rfl (fun w hw=>uX l V a w (hw.slF hV) hB)) (bR ?_)
 refine ab rfl ?_ ?_<;>intro h1
 ·refine zR9 ?_
  exact eC pF rfl rfl rfl fun w' hw=>⟨by rw [yC (by assumption)],hw.b0⟩
 refine zR8 ?_
 refine zz0 (aK rfl (fun w hw=>pP (l.getD (bL l a).toNat default) w (hB.at (by omega)))) ?_
 refine bH kU rfl (fun b2=>zR7 ?_)
 refine zz0 (eO rfl ad bF (IntWalk.u64_in _ (by omega))) (zR4 ?_)
 refine zz0 (dL rfl ac bF) (zR3 ?_)
 refine ab rfl ?_ ?_<;>intro h3
 ·refine zR9 ?_
  refine eC pF rfl rfl rfl (fun w' hw=>?_)
  have hpl:=yB (l:=l) (a:=a) (by assumption)
  exact ⟨by rw [EE (by assumption) (by rw [← hpl]; assumption)],hw.b0⟩
 refine j8 (bB (eU ah (zT5 ?_)))
 refine aw (aO rfl ac ad) (zT6 ?_)
 refine eC pF rfl rfl rfl (fun w' hw=>?_)
 have hpl:=yB (l:=l) (a:=a) (by assumption)
 have hpa:=Me (l:=l) (a:=a) (by assumption)
 exact ⟨by rw [ED (by assumption) (by rw [← hpl]; assumption),← hpa]; rfl,hw.b0⟩
theorem LV (l:List SecV) (V:Value) (a:UInt32) (n:Int) (w:World) (hV:Sl (hp w) bP l V) (hB:SecB l) (hD:DataIn (hp w) l) (hn:n≤9223372036854775807) :
  Calls prog 157 #[V,.int .u32 a.toNat,.int .i64 n] w (fun e w'=>∃ V',e=.returned (.tuple #[V',.int .i64 (fF l a n).2])∧Ext w w'∧dY w w' 5 cd (fF l a n).1 V'):=by
 have hV':Sl (Bg.of w).blk bP l V:=hV
 have hlen:=hB.1
 refine En f157 rfl rfl (gB ?_)
 refine ab rfl ?_ ?_<;>intro h1
 ·refine zR8 ?_
  exact cG mH rfl rfl fun w' hw=>⟨_,by rw [fF,if_pos (by assumption)],hw.b0,cH (by rw [fF,if_pos (by assumption)])⟩
 refine zR9 ?_
 refine ab rfl ?_ ?_<;>intro h2
 ·refine zR8 ?_
  exact cG mH rfl rfl fun w' hw=>⟨_,by rw [fF,if_neg (by assumption),if_pos (by assumption)],hw.b0,cH (by rw [fF,if_neg (by assumption),if_pos (by assumption)])⟩
 refine zR7 ?_
 refine zz0 (aK rfl (fun w hw=>J1 l V a n w (hw.slF hV) hB (by omega))) (pf ?_)
 refine ab rfl ?_ ?_<;>intro h3
 ·refine zR9 ?_
  exact cG mH rfl rfl fun w' hw=>⟨_,by rw [fF,if_neg (by assumption),if_neg (by assumption),if_pos (by assumption)]; rfl,hw.b0,cH (by rw [fF,if_neg (by assumption),if_neg (by assumption),if_pos (by assumption)])⟩
 refine zR3 ?_
 obtain ⟨p1,p2,p3,p4,p5⟩:=A8 (l:=l) (a:=a) (n:=n) (by simp_all)
 have p6:(eE l a n).2.1≤(eE l a n).2.1+n:=by omega
 have hdl:=hB.at (k:=(eE l a n).1.toNat) (by omega)
 have hDk:Sl (Bg.of w).blk cd (l.getD (eE l a n).1.toNat default).data (.slice (l.getD (eE l a n).1.toNat default).dp (l.getD (eE l a n).1.toNat default).data.length (l.getD (eE l a n).1.toNat default).dc):=hD _ (ba (by omega))
 refine zR5 ?_
 refine zz0 (jO rfl j6) (zR4 ?_)
 refine zz0 (rr (lv:=some (_,_)) (hv:=some (_,_)) rfl rfl rfl an bA) ?_
 refine cE rfl call46 (fun w hw=>Nn (((l.getD (eE l a n).1.toNat default).data.take ((eE l a n).2.1+n).toNat).drop (eE l a n).2.1.toNat) _ w (Sl.resl (l:=(eE l a n).2.1.toNat) (h:=((eE l a n).2.1+n).toNat) (hw.slF hDk) (by omega) (by omega)) (by simp only [List.length_drop,List.length_take]; omega)) rfl (fun V4=>zR8 ?_)
 refine AK rfl (by repeat constructor) rfl rfl (by simp only [List.length_drop,List.length_take]; omega) an bA rfl (fun V90=>zR5 ?_)
 exact cG mH rfl rfl fun w' hw=>⟨_,by rw [fF,if_neg (by assumption),if_neg (by assumption),if_neg (by simp_all)],hw.b0,by rw [fF,if_neg (by assumption),if_neg (by assumption),if_neg (by simp_all)]; exact hw.new (.head _)⟩
theorem wd (l:List SecV) (V:Value) (w:World) (hV:Sl (hp w) bP l V) (hB:SecB l) (hN:∀ s∈l,s.name.size≤9223372036854775807) :
  Cr prog 39 #[V] w (.int .i64 (fV l)):=by
 have hV':Sl (Bg.of w).blk bP l V:=hV
 have hlen:=hB.1
 refine En f39 rfl rfl (gB ?_)
 refine ab rfl ?_ ?_<;>intro h1
 ·refine zR7 ?_
  exact aD (e:=by rw [I7 (by assumption)])
 refine cj ?_
 refine cP (.of (ι:=Nat) (fun k=>k≤l.length∧fU (l8 l) k (l.length - k)=fU (l8 l) 0 l.length) (fun _=>_) (fun k=>[]) (fun k=>[(13,.int .i64 (k:Nat))]) (fun k=>l.length - k)) 0 ⟨Nat.zero_le _,rfl⟩ (Front.c Front.nil) (fun k hi m hm=>?_)
 obtain ⟨hk1,hk2⟩:=hi
 have hadr:=(l.getD k default).addr.toNat_lt
 have hdk:k<l.length→(l.getD k default).data.length≤200000:=fun q=>hB.at q
 refine zR6 ?_
 refine ab rfl ?_ ?_<;>intro h2
 ·refine zR9 ?_
  refine bH lT rfl (fun b3=>zz0 (cD rfl) ?_)
  refine cK bP rfl rfl j4 ?_
  refine zR6 ?_
  refine zz0 (rr (lv:=none) (hv:=some (_,_)) rfl rfl rfl nc j4) ?_
  refine zz0 (fB rfl rfl) ?_
  refine zz0 (aK rfl (fun w hw=>qd (l.take k) _ _ _ w (Sl.resl (l:=0) (h:=k) (hw.slF hV) (by omega) (by omega)) call94 (fun x=>decide (x.name=(l.getD k default).name)) (fun x hx w'' h=>HO x (l.getD k default) _ w'' (cellE.cellsIn (hw.ent _ (.head _)) h)))) (zR8 ?_)
  refine zz0 (iZ rfl an) (zR4 ?_)
  refine ab rfl ?_ ?_<;>intro h4
  ·refine df ?_
   exact aD (e:=by rw [u6 (v:=6) (by assumption) (by omega) hk2 (by unfold l8; dsimp only; rw [if_pos (by assumption)]) (by decide)])
  refine zR4 ?_
  refine zz0 (aK rfl (fun w hw=>name_any (l.getD k default).name w (hN _ (ba (by omega))))) (zR4 ?_)
  refine ab rfl ?_ ?_<;>intro h5
  ·refine df ?_
   exact aD (e:=by rw [u6 (v:=3) (by assumption) (by omega) hk2 (by unfold l8; dsimp only; rw [if_neg (by assumption),if_pos (by assumption)]) (by decide)])
  refine zR6 ?_
  refine ab rfl ?_ ?_<;>intro h6
  ·refine df ?_
   exact aD (e:=by rw [u6 (v:=8) (by assumption) (by omega) hk2 (by unfold l8; dsimp only; rw [if_neg (by assumption),if_neg (by simp_all),if_pos (by assumption)]) (by decide)])
  refine zR4 ?_
  refine zz0 (dL rfl ac bF) (zR2 ?_)
  refine zz0 (iZ rfl an) ?_
  refine zz0 (eO rfl ad bF (IntWalk.u64_in _ (by omega))) ?_
  refine zz0 (rf rfl rfl (by omega)) (zR2 ?_)
  apply gJ 5 45 50 (fun hF7 hF7'=>?_) ?_; rotate_right
  ·refine zz5 hF7 (cF rfl) (zz5 hF7 (aK rfl (fun w hw=>pP (l.getD k default) w (hB.at (by omega)))) ?_)
   refine zz5 hF7 (ak rfl JC) ?_
   refine zz5 hF7 (ak rfl (ES (gy (l.getD k default)) Ci)) ?_
   exact zE
  refine zR3 ?_
  refine ab rfl ?_ ?_<;>intro h8
  ·refine df ?_
   exact aD (e:=by rw [u6 (v:=7) (by assumption) (by omega) hk2 (by unfold l8; dsimp only; rw [if_neg (by assumption),if_neg (by simp_all),if_neg (by simp_all),if_pos (by assumption)]) (by decide)])
  refine zR9 ?_
  have hz:l8 l k=0:=by unfold l8; dsimp only; rw [if_neg (by assumption),if_neg (by simp_all),if_neg (by simp_all),if_neg (by simp_all)]
  refine aP (k+1) (o:=⟨by omega,by rw [oQ (by omega) hz,hk2]⟩)
 refine jk ?_
 have hz1:fU (l8 l) 0 l.length=0:=by rw [← hk2]; exact oP (by omega)
 clear hk2 hk1 hm hadr hdk
 refine cP (.of (ι:=Nat) (fun k=>k≤l.length∧fU (fun i=>if rj l i=true then 10 else 0) k (l.length - k)=fU (fun i=>if rj l i=true then 10 else 0) 0 l.length) (fun _=>_) (fun k=>[]) (fun k=>[(54,.int .i64 (k:Nat))]) (fun k=>l.length - k)) 0 ⟨Nat.zero_le _,rfl⟩ (Front.c Front.nil) (fun k hi m hm=>?_)
 obtain ⟨hk1,hk2⟩:=hi
 refine zR6 ?_
 refine ab rfl ?_ ?_<;>intro h9
 ·refine zR9 ?_
  refine bH lT rfl (fun b10=>zz0 (cD rfl) ?_)
  refine cK bP rfl rfl j4 ?_
  refine zR6 ?_
  refine zz0 (rr (lv:=none) (hv:=some (_,_)) rfl rfl rfl nc j4) ?_
  refine zz0 (fB rfl rfl) ?_
  refine zz0 (aK rfl (fun w hw=>qd (l.take k) _ _ _ w (Sl.resl (l:=0) (h:=k) (hw.slF hV) (by omega) (by omega)) call99 (fun x=>rO (gy x) (gy (l.getD k default))) (fun x hx w'' h=>HN x (l.getD k default) _ w'' (cellE.cellsIn (hw.ent _ (.head _)) h) (hB.2 x (List.mem_of_mem_take hx)) (hB.at (by omega))))) (zR2 ?_)
  refine ab rfl ?_ ?_<;>intro h11
  ·refine cj ?_
   exact aD (e:=by rw [I6 (k:=k) (by assumption) hz1 (by omega) hk2 (by assumption)])
  refine zR8 ?_
  have hz:rj l k=false:=by assumption
  refine aP (k+1) (o:=⟨by omega,by rw [oQ (by omega) (by rw [if_neg (by rw [hz]; decide)]),hk2]⟩)
 refine cj ?_
 exact aD (e:=by rw [I5 (by assumption) hz1 (by rw [← hk2]; exact oP (by omega))])
theorem Ei (a b:UInt32) (w:World) :
  Cr prog 306 #[.int .u32 a.toNat,.int .u32 b.toNat] w (.int .u32 (jt a (d6 b)).toNat):=by
 refine En f306 rfl rfl (zR9 ?_)
 refine zz0 (qp (n:=31) rfl rfl) ?_
 refine zz0 (lY rfl rfl (by omega)) (zR4 ?_)
 exact aD (e:=by rw [← xQ]; rfl)
theorem yt (a b:UInt32) (w:World) :
  Cr prog 307 #[.int .u32 a.toNat,.int .u32 b.toNat] w (.int .u32 (jQ a (d6 b)).toNat):=by
 refine En f307 rfl rfl (zR9 ?_)
 refine zz0 (qp (n:=31) rfl rfl) ?_
 refine zz0 (NQ rfl rfl (by omega)) (zR4 ?_)
 exact aD (e:=by rw [← xQ]; rfl)
theorem Lv (a b:UInt32) (w:World) :
  Cr prog 308 #[.int .u32 a.toNat,.int .u32 b.toNat] w (.int .u32 (xl a (d6 b)).toNat):=by
 refine En f308 rfl rfl (zR8 ?_)
 refine zz0 (mn rfl ac io) (zz0 (af rfl) (zz0 (qp (n:=31) rfl rfl) ?_))
 refine zz0 (wq rfl rfl (Int.natCast_nonneg _)) ?_
 refine zz0 (eJ rfl io ac) (zR4 ?_)
 exact aD (e:=by unfold xl; rw [← xQ,Int.toNat_natCast,Nat.min_eq_left (by rw [xQ]; exact Nat.le_of_lt (cnt_lt b))])
theorem qx (x:Bool) (w:World) :
  Cr prog 309 #[.bool x] w (.int .u32 (s7 x).toNat):=by
 refine En f309 rfl rfl (cj ?_)
 refine ab rfl ?_ ?_<;>intro h1
 ·refine zR7 ?_
  exact aD (e:=by rw [show x=true by assumption]; rfl)
 refine zR8 ?_
 exact aD (e:=by rw [show x=false by simp_all]; rfl)
theorem H3 (op:Int) (a b:UInt32) (w:World) :
  Cr prog 277 #[.int .i64 op,.int .u32 a.toNat,.int .u32 b.toNat] w (.tuple #[.int .u32 (oz op a b).1.toNat,.int .i64 (oz op a b).2]):=by
 refine En f277 rfl rfl (df ?_)
 refine cZ 3 11 14 (h2:=zR2 ?_)
 refine ab rfl ?_ ?_<;>intro h2
 ·refine zR8 ?_
  exact dR (e:=by unfold oz; rw [if_pos (by assumption)]; rfl)
 refine GP ?_
 refine zz0 (sU rfl rfl) (zR2 ?_)
 refine zz0 (Gx rfl rfl) (zR2 ?_)
 refine zz0 (ak rfl (Ei a b)) (zR2 ?_)
 refine zz0 (ak rfl (yt a b)) (zR2 ?_)
 refine zz0 (ak rfl (Lv a b)) (zR3 ?_)
 refine zz0 (ak rfl (qx (decide (a=b)))) (zR2 ?_)
 refine zz0 (jz rfl rfl) ?_
 refine zz0 (ak rfl (qx (decide (a≠b)))) (zz0 (af rfl) ?_)
 refine zz0 (mn rfl ac io) (zz0 (af rfl) (zz0 (mn rfl ac io) (zz0 (su rfl rfl) (zz0 (ak rfl (qx (CO a b))) (zR3 ?_)))))
 refine zz0 (ak rfl (qx (decide (a<b)))) ?_
 refine zz0 (aI (vs:=[(0,_),(1,_),(2,_),(3,_),(4,_),(5,_),(6,_),(7,_),(8,_),(9,_),(10,_),(11,_),(12,_)]) rfl rfl (jB _ _ _ _ _ _ _ _ _ _ _ _ _)) ?_
 refine bH zeroValue324 rfl (fun b3=>?_)
 refine zz8 rfl rfl sizeOf324 ?_
 refine zR3 ?_
 have hop:¬ (op<3∨15<op):=by omega
 refine zR3 ?_
 refine zz0 (gn rfl rfl underlying324 ar) ?_
 refine zz0 (ou (v:=.int .u32 (sf op a b).toNat) rfl (by repeat constructor) co (O1 (by assumption) (by simp))) (zR5 ?_)
 exact dR (e:=by unfold oz; rw [if_neg hop])
theorem kN (n:UInt32) (w:World) :
  Cr prog 36 #[.int .u32 n.toNat] w (.agg (er.enc (fH n)).toArray):=by
 refine En f36 rfl rfl (zR2 ?_)
 refine bH aJ rfl (fun b1=>zR6 ?_)
 refine zz0 (aI (vs:=[(2,_),(3,_)]) rfl rfl (rl _ _)) (zR4 ?_)
 exact aL (e:=rfl)
theorem lG (w:World) :
  Cr prog 37 #[] w (.agg (er.enc iL).toArray):=by
 refine En f37 rfl rfl (zR2 ?_)
 refine bH aJ rfl (fun b1=>zR4 ?_)
 refine zz0 (aI (vs:=[(1,_)]) rfl rfl (tj _)) (zR4 ?_)
 exact aL (e:=rfl)
theorem lR (w:World) :
  Cr prog 91 #[] w (.agg (er.enc emptyS).toArray):=by
 refine En f91 rfl rfl (zR2 ?_)
 refine bH aJ rfl (fun b1=>zR4 ?_)
 refine zz0 (aI (vs:=[(0,_)]) rfl rfl (tl _)) (zR4 ?_)
 exact aL (e:=rfl)
theorem dy (lo hi st:UInt32) (w:World) :
  Cr prog 35 #[.int .u32 lo.toNat,.int .u32 hi.toNat,.int .u32 st.toNat] w (.agg (er.enc (bS lo hi st)).toArray):=by
 refine En f35 rfl rfl (zR2 ?_)
 refine bH aJ rfl (fun b1=>df ?_)
 refine ab rfl ?_ ?_<;>intro h2
 ·refine dx (zz0 (ak rfl lR) (zR6 ?_))
  refine aL (e:=?_)
  unfold bS
  exact zF
 refine zR3 ?_
 refine zz0 (dq (n:=0) rfl rfl) (zz0 (af rfl) ?_)
 refine cZ 6 15 21 (h2:=zR3 ?_)
 refine ab rfl ?_ ?_<;>intro h4
 ·refine zR3 ?_
  refine zz0 (ak rfl (kN lo)) (zR6 ?_)
  refine aL (e:=?_)
  unfold bS
  exact zF
 refine zR3 ?_
 refine zz0 (dq (n:=0) rfl rfl) (zz0 (af rfl) ?_)
 apply dV 3 27 30 (fun hT5 hT5'=>?_) ?_; rotate_right
 ·refine zz5 hT5 (af rfl) (zz5 hT5 (dq (n:=4294967295) rfl rfl) ?_)
  exact zE
 refine zz0 (af rfl) ?_
 apply dV 3 31 34 (fun hT6 hT6'=>?_) ?_; rotate_right
 ·refine zz5 hT6 (af rfl) (zz5 hT6 (dq (n:=1) rfl rfl) ?_)
  exact zE
 refine zR3 ?_
 refine ab rfl ?_ ?_<;>intro h7
 ·refine dx (zz0 (ak rfl lG) (zR6 ?_))
  refine aL (e:=?_)
  unfold bS
  exact zF
 refine zR4 ?_
 have hst0:st≠0:=(by assumption:¬st=0∧¬hi - lo<st).1
 refine zR7 ?_
 refine zz0 (pd rfl rfl) (zR2 ?_)
 refine zz0 (aI (vs:=[(2,_),(3,_),(4,_)]) rfl rfl (o9 _ _ _)) (zR4 ?_)
 refine aL (e:=?_)
 unfold bS
 exact zF
theorem yk (a:VSet) (w:World) :
  Cr prog 40 #[.agg (er.enc a).toArray] w (.bool (eD a)):=by
 refine En f40 rfl rfl (zR2 ?_)
 refine bJ rfl rfl (fun b1=>gB ?_)
 apply cM
 ·exact rfl
 ·intro hO2
  try simp only [bs] at hO2
  refine zR6 ?_
  exact dl rfl (zz9 3 rfl)
 refine aS ?_
 refine ab rfl ?_ ?_<;>intro h3
 ·refine bB (eU ah (aw (cF rfl) ?_))
  refine aw (ak rfl lG) ?_
  refine aw (yb rfl rfl rE dM (lB _ dM) rfl mq sX) (aw (af rfl) ?_)
  apply zD 4 11 15 (fun hF4 hF4'=>?_) ?_; rotate_right
  ·refine db hF4 (cF rfl) (db hF4 (ak rfl lR) ?_)
   refine db hF4 (yb rfl rfl rE dM (lB _ dM) rfl mq sX) ?_
   exact zQ
  refine zT6 ?_
  refine aD (e:=?_)
  unfold eD
  exact zF
 refine zR4 ?_
 refine zz0 (dq (n:=0) rfl rfl) (zR3 ?_)
 refine ab rfl ?_ ?_<;>intro h5
 ·refine gB ?_
  refine aD (e:=?_)
  unfold eD
  exact zF
 refine cj ?_
 apply dV 10 30 40 (fun hT6 hT6'=>?_) ?_; rotate_right
 ·refine zR7 ?_
  refine zz5 hT6 (pd rfl rfl) ?_
  refine zz5 hT6 (dq (n:=0) rfl rfl) ?_
  exact zE
 refine zz0 (af rfl) ?_
 apply fC
 ·exact (rfl:_=(14,41,55))
 ·exact rfl
 ·intro hT7; have hT7':=hT7
  try simp only [bs] at hT7'
  refine zR2 ?_
  refine zz5 hT7 (m6 (n:=0) rfl rfl) (zz5 hT7 (af rfl) ?_)
  apply gA
  ·exact (rfl:_=(4,45,49))
  ·exact rfl
  ·intro hF8; have hF8':=hF8
   try simp only [bs] at hF8'
   refine zR2 ?_
   refine zz5 hF8 (ql (n:=4294967295) rfl rfl) (zR3 ?_)
   exact aN (Sub.cons rfl (zz7 4 rfl))
  ·intro hT8
   refine zR6 ?_
   exact aN (Sub.cons rfl (zz7 4 rfl))
  refine zz5 hT7 (af rfl) ?_
  apply gA
  ·exact (rfl:_=(4,50,54))
  ·exact rfl
  ·intro hF9; have hF9':=hF9
   try simp only [bs] at hF9'
   refine zR2 ?_
   refine zz5 hF9 (m6 (n:=1) rfl rfl) (zR3 ?_)
   exact aN (Sub.cons rfl (zz7 4 rfl))
  ·intro hT9
   refine zR6 ?_
   exact aN (Sub.cons rfl (zz7 4 rfl))
  refine zR3 ?_
  exact aN (Sub.cons rfl (zz7 8 rfl))
 ·intro hF7
  refine pf ?_
  exact aN (Sub.cons rfl (zz7 14 rfl))
 refine zR4 ?_
 refine aD (e:=?_)
 unfold eD
 exact zF
theorem iP (a:VSet) (w:World) :
  Cr prog 47 #[.agg (er.enc a).toArray] w (.agg (er.enc (ae a)).toArray):=by
 refine En f47 rfl rfl (zR2 ?_)
 refine bJ rfl rfl (fun b1=>?_)
 refine bH aJ rfl (fun b2=>zR6 ?_)
 refine zz0 (ak rfl (yk a)) (zR3 ?_)
 refine ab rfl ?_ ?_<;>intro h3
 ·refine dx (zz0 (ak rfl lG) (zR5 ?_))
  refine aL (e:=?_)
  unfold ae
  exact zF
 refine zR9 ?_
 refine aL (e:=?_)
 unfold ae
 exact zF
theorem vx (a:VSet) (w:World) :
  Cr prog 324 #[.agg (er.enc a).toArray] w (.bool (nk a)):=by
 refine En f324 rfl rfl (zR2 ?_)
 refine bJ rfl rfl (fun b1=>zR9 ?_)
 refine dT 4 6 10 (h2:=?_)
 refine zz0 (af rfl) ?_
 apply dV 4 11 15 (fun hT3 hT3'=>?_) ?_; rotate_right
 ·refine zR2 ?_
  refine zz5 hT3 (dq (n:=0) rfl rfl) ?_
  exact zE
 refine zR4 ?_
 refine aD (e:=?_)
 unfold nk
 exact zF
theorem oU (a:VSet) (n:UInt32) (w:World) :
  Cr prog 15 #[.agg (er.enc a).toArray,.int .u32 n.toNat] w (.bool (qS a n)):=by
 refine En f15 rfl rfl (zR2 ?_)
 refine bJ rfl rfl (fun b1=>zR6 ?_)
 refine zz0 (ak rfl (iP a)) (gB ?_)
 apply cM
 ·exact rfl
 ·intro hO2
  try simp only [bs] at hO2
  refine zR6 ?_
  exact dl rfl (zz9 3 rfl)
 refine aS ?_
 refine ab rfl ?_ ?_<;>intro h3
 ·refine bR ?_
  refine aD (e:=?_)
  unfold qS zc
  exact zF
 refine zR4 ?_
 refine zz0 (dq (n:=0) rfl rfl) (zR3 ?_)
 refine ab rfl ?_ ?_<;>intro h4
 ·refine df ?_
  refine aD (e:=?_)
  unfold qS zc
  exact zF
 refine zR8 ?_
 refine zz0 (jA rfl rfl) (zz0 (af rfl) ?_)
 apply dV 5 26 31 (fun hT5 hT5'=>?_) ?_; rotate_right
 ·refine zR3 ?_
  refine zz5 hT5 (qn rfl rfl) ?_
  exact zE
 refine zz0 (af rfl) ?_
 apply dV 9 32 41 (fun hT6 hT6'=>?_) ?_; rotate_right
 ·refine zR6 ?_
  refine zz5 hT6 (pd rfl rfl) ?_
  refine zz5 hT6 (dq (n:=0) rfl rfl) ?_
  exact zE
 refine zR4 ?_
 refine aD (e:=?_)
 unfold qS zc
 exact zF
theorem FG (a:VSet) (w:World) :
  Cr prog 100 #[.agg (er.enc a).toArray] w (.int .i64 (cQ a)):=by
 have hd:=((ae a).hi - (ae a).lo).toNat_lt
 have hq:(((ae a).hi - (ae a).lo) / (ae a).st).toNat≤((ae a).hi - (ae a).lo).toNat:=by rw [UInt32.toNat_div]; exact Nat.div_le_self _ _
 refine En f100 rfl rfl (zR2 ?_)
 refine bJ rfl rfl (fun b1=>zR6 ?_)
 refine zz0 (ak rfl (iP a)) (df ?_)
 refine ab rfl ?_ ?_<;>intro h2
 ·refine zR8 ?_
  refine aD (e:=?_)
  unfold cQ kl
  exact zF
 refine zR7 ?_
 refine ab rfl ?_ ?_<;>intro h3
 ·refine zR8 ?_
  refine aD (e:=?_)
  unfold cQ kl
  exact zF
 refine zR4 ?_
 refine zz0 (dq (n:=0) rfl rfl) (zR3 ?_)
 refine ab rfl ?_ ?_<;>intro h4
 ·refine zR8 ?_
  refine aD (e:=?_)
  unfold cQ kl
  exact zF
 refine df ?_
 refine zz0 (m5 rfl rfl (by first|decide|assumption)) ?_
 refine zz0 (aO rfl ac ad) (zR5 ?_)
 refine aD (e:=?_)
 unfold cQ kl
 exact zF
theorem C6 (a b:UInt32) (w:World) :
  Cr prog 228 #[.int .u32 a.toNat,.int .u32 b.toNat] w (.int .u32 (iE a b).toNat):=by
 refine En f228 rfl rfl (zR7 ?_)
 refine cT (ι:=UInt32 × UInt32) (fun ⟨x,y⟩=>iE x y=iE a b) (fun _=>_) (fun ⟨x,y⟩=>[]) (fun ⟨x,y⟩=>[(0,.int .u32 x.toNat),(1,.int .u32 y.toNat)]) (fun ⟨x,y⟩=>y.toNat) (a,b) rfl (Front.c (Front.c Front.nil)) (fun i hi m hm=>?_)
 obtain ⟨x,y⟩:=i
 dsimp only at hi hm
 change Tr _ _ [] ([(0,.int .u32 x.toNat),(1,.int .u32 y.toNat)] ++ _) _
 refine zR4 ?_
 refine zz0 (jz (n:=0) rfl rfl) (zR2 ?_)
 refine ab rfl ?_ ?_<;>intro h1
 ·refine zR3 ?_
  refine eU ah (zT3 ?_)
  refine aw (pd rfl rfl) (zT5 ?_)
  have hlt:=EP x (by assumption:y≠0)
  refine aP (y,x % y) (o:=(by show iE y (x % y)=_; rw [Fl (by assumption)]; exact hi))
 refine df ?_
 exact aD (e:=by rw [← hi,show y=0 by simp_all,uU])
theorem CV (a b:VSet) (w:World) :
  Cr prog 166 #[.agg (er.enc a).toArray,.agg (er.enc b).toArray] w (.agg (er.enc (dK a b)).toArray):=by
 refine En f166 rfl rfl (zR2 ?_)
 refine bJ rfl rfl (fun b1=>?_)
 refine bJ rfl rfl (fun b2=>?_)
 refine bH aJ rfl (fun b3=>zR3 ?_)
 refine dO 0 4 ah ?_
 refine ax (aw (cF rfl) ?_)
 refine aw (ak rfl (iP a)) (aw (cF rfl) ?_)
 refine aw (ak rfl (iP b)) (Jq ?_)
 refine cZ 3 13 16 (h2:=zR3 ?_)
 refine ab rfl ?_ ?_<;>intro h5
 ·refine dx (zz0 (ak rfl lG) (zR6 ?_))
  refine lC mG rfl aV aj (fun w' hw=>?_)
  try simp only [rL,rP]
  refine ⟨?_,hw.b0⟩
  unfold dK kB
  exact zF
 refine zR7 ?_
 refine ab rfl ?_ ?_<;>intro h6
 ·refine zR9 ?_
  refine lC mG rfl aV aj (fun w' hw=>?_)
  try simp only [rL,rP]
  refine ⟨?_,hw.b0⟩
  unfold dK kB
  exact zF
 refine zR7 ?_
 refine ab rfl ?_ ?_<;>intro h7
 ·refine zR9 ?_
  refine lC mG rfl aV aj (fun w' hw=>?_)
  try simp only [rL,rP]
  refine ⟨?_,hw.b0⟩
  unfold dK kB
  exact zF
 refine sQ (NG (aS (bB (eU ah (zT4 ?_)))))
 refine aw (ak rfl (C6 _ _)) (zT4 ?_)
 refine aw (sq rfl rfl) (zT4 ?_)
 refine aw (sn rfl rfl) (aw (gK rfl rfl) ?_)
 refine aw (ak rfl (C6 _ _)) (zT9 ?_)
 refine zz0 (sn rfl rfl) (zR4 ?_)
 refine zz0 (sq rfl rfl) (zz0 (af rfl) ?_)
 refine zz0 (ak rfl (dy _ _ _)) (zR4 ?_)
 refine lC mG rfl aV aj (fun w' hw=>?_)
 try simp only [rL,rP]
 refine ⟨?_,hw.b0⟩
 unfold dK kB
 exact zF
theorem wU (a:VSet) (w:World) :
  Calls prog 41 #[.agg (er.enc a).toArray] w (fun e w'=>∃ V',e=.returned (.tuple #[V',.int .i64 (dm a).2])∧Ext w w'∧dY w w' 23 aa ((dm a).1) V'):=by
 refine En f41 rfl rfl (zR2 ?_)
 refine bJ rfl rfl (fun b1=>zR7 ?_)
 refine zz0 (ak rfl (iP a)) (zR6 ?_)
 refine zz0 (ak rfl (FG (ae a))) (zR5 ?_)
 have hcc:cQ (ae a)=cQ a:=by unfold cQ; rw [gg]
 rw [hcc]
 have hc0:=Ng a
 have hc1:=count_le a
 refine zR5 ?_
 refine ab rfl ?_ ?_<;>intro h2
 ·refine zR8 ?_
  exact cG results41 rfl rfl fun w' hw=>⟨_,by unfold dm; rw [if_pos (by assumption)],hw.b0,by unfold dm; rw [if_pos (by assumption)]; exact cH rfl⟩
 refine mN ?_
 refine ay 23 aa ?_
 refine cT (ι:=Nat × Value) (fun ⟨k,V⟩=>k≤(cQ a).toNat) (fun _=>_) (fun ⟨k,V⟩=>[rowE V 23 aa (elK (ae a) k),cellE b1 (er.enc (ae a)) 25]) (fun ⟨k,V⟩=>[(5,V),(14,.int .i64 (k:Nat))]) (fun ⟨k,V⟩=>(cQ a).toNat - k) (0,_) (Nat.zero_le _) (Front.c (Front.c Front.nil)) (fun i hi m hm=>?_)
 obtain ⟨k,V⟩:=i
 dsimp only at hi hm
 conv=>enter [3]; dsimp only
 conv=>enter [4,1]; dsimp only
 have hel:=xO (ae a) k
 refine zR6 ?_
 refine ab rfl ?_ ?_<;>intro h3
 ·refine mN ?_
  refine zz0 (eJ rfl ad ac) (zR4 ?_)
  refine fM (E:=aa) _ rfl rfl am ar bj (fun V4=>?_)
  refine zz3 rfl rfl am cp (fun V5=>?_)
  refine zR9 ?_
  rw [← FC]
  refine aP (k+1,_) (o:=(by show k+1≤_; omega))
 refine zR6 ?_
 obtain rfl:k=(cQ a).toNat:=by omega
 refine zR7 ?_
 exact cG results41 rfl rfl fun w' hw=>⟨_,by unfold dm; rw [if_neg (by omega)],hw.b0,by unfold dm il; rw [if_neg (by omega),hcc]; exact hw.new (.head _)⟩
theorem Js (a b:VSet) (w:World) :
  Cr prog 271 #[.agg (er.enc a).toArray,.agg (er.enc b).toArray] w (.bool (kR a b)):=by
 refine En f271 rfl rfl (zR2 ?_)
 refine bJ rfl rfl (fun b1=>?_)
 refine bJ rfl rfl (fun b2=>zR4 ?_)
 refine dO 0 4 ah ?_
 refine ax (aw (cF rfl) ?_)
 refine aw (ak rfl (iP a)) (aw (cF rfl) ?_)
 refine aw (ak rfl (iP b)) (Jq ?_)
 refine cZ 3 12 15 (h2:=zR3 ?_)
 refine ab rfl ?_ ?_<;>intro h4
 ·refine zR8 ?_
  refine aD (e:=?_)
  unfold kR lE
  exact zF
 refine zR5 ?_
 refine cZ 3 19 22 (h2:=zR3 ?_)
 refine ab rfl ?_ ?_<;>intro h6
 ·refine zR8 ?_
  refine aD (e:=?_)
  unfold kR lE
  exact zF
 refine zR8 ?_
 refine zz0 (ak rfl (oU _ _)) (zz0 (af rfl) ?_)
 apply dV 5 27 32 (fun hT7 hT7'=>?_) ?_; rotate_right
 ·refine zR3 ?_
  refine zz5 hT7 (ak rfl (oU _ _)) ?_
  exact zE
 refine zz0 (af rfl) ?_
 apply fC
 ·exact (rfl:_=(17,33,50))
 ·exact rfl
 ·intro hT8; have hT8':=hT8
  try simp only [bs] at hT8'
  refine zR2 ?_
  refine zz5 hT8 (dq (n:=0) rfl rfl) (zz5 hT8 (af rfl) ?_)
  apply gA
  ·exact (rfl:_=(12,37,49))
  ·exact rfl
  ·intro hF9; have hF9':=hF9
   try simp only [bs] at hF9'
   refine zR2 ?_
   refine zz5 hF9 (m6 (n:=0) rfl rfl) (zz5 hF9 (af rfl) ?_)
   apply fC
   ·exact (rfl:_=(7,41,48))
   ·exact rfl
   ·intro hT10; have hT10':=hT10
    try simp only [bs] at hT10'
    have hb0:=Md (by assumption:0<(ae b).st)
    refine zR4 ?_
    refine zz5 hT10 (pd rfl rfl) ?_
    refine zz5 hT10 (dq (n:=0) rfl rfl) (zR3 ?_)
    exact aN (Sub.cons rfl (zz7 7 rfl))
   ·intro hF10
    refine zR9 ?_
    exact aN (Sub.cons rfl (zz7 7 rfl))
   refine zR3 ?_
   exact aN (Sub.cons rfl (zz7 6 rfl))
  ·intro hT9
   refine jk ?_
   exact aN (Sub.cons rfl (zz7 12 rfl))
  refine zR3 ?_
  exact aN (Sub.cons rfl (zz7 6 rfl))
 ·intro hF8
  refine K8 ?_
  exact aN (Sub.cons rfl (zz7 17 rfl))
 refine zR4 ?_
 refine aD (e:=?_)
 unfold kR lE
 exact zF
theorem AZ (a:VSet) (k:UInt32) (w:World) :
  Cr prog 325 #[.agg (er.enc a).toArray,.int .u32 k.toNat] w (.agg (er.enc (mw a k)).toArray):=by
 have hmul:=Qq a.hi k
 refine En f325 rfl rfl (zR2 ?_)
 refine bJ rfl rfl (fun b1=>?_)
 refine bH aJ rfl (fun b2=>zR8 ?_)
 apply gJ 8 7 15 (fun hF3 hF3'=>?_) ?_; rotate_right
 ·refine zR2 ?_
  refine zz5 hF3 (dL rfl ac bF) (zz5 hF3 (af rfl) (zz5 hF3 (dL rfl ac bF) (zz5 hF3 (Jl rfl rfl (by omega)) ?_)))
  exact zE
 refine zR2 ?_
 refine ab rfl ?_ ?_<;>intro h4
 ·refine dx (zz0 (ak rfl lG) (zR5 ?_))
  refine aL (e:=?_)
  unfold mw
  exact zF
 refine pf ?_
 refine zz0 (ak rfl (dy _ _ _)) (zR4 ?_)
 refine aL (e:=?_)
 unfold mw
 exact zF
theorem J9 (a:VSet) (n:UInt32) (w:World) :
  Cr prog 326 #[.agg (er.enc a).toArray,.int .u32 n.toNat] w (.agg (er.enc (mC a n)).toArray):=by
 refine En f326 rfl rfl (zR2 ?_)
 refine bJ rfl rfl (fun b1=>?_)
 refine bH aJ rfl (fun b2=>pf ?_)
 refine ab rfl ?_ ?_<;>intro h3
 ·refine zR4 ?_
  refine zz0 (sn rfl rfl) (zR8 ?_)
  refine zz0 (zW rfl) (zz0 (qp rfl rfl) ?_)
  refine zz0 (ak rfl (dy 0 _ (n &&& (0 - n)))) (zR4 ?_)
  refine aL (e:=?_)
  unfold mC
  rw [if_pos (show a.top=false by simp_all)]
  rfl
 refine zR7 ?_
 refine zz0 (zW rfl) (zz0 (qp rfl rfl) ?_)
 refine zz0 (ak rfl (dy 0 _ (n &&& (0 - n)))) (zR4 ?_)
 refine aL (e:=?_)
 unfold mC
 rw [if_neg (show ¬a.top=false by simp_all)]
 rfl
theorem sh (op:Int) (a b:VSet) (w:World) :
  Cr prog 303 #[.int .i64 op,.agg (er.enc a).toArray,.agg (er.enc b).toArray] w (.agg (er.enc (fb op a b)).toArray):=by
 have hb1:=(ae a).hi.toNat_lt
 have hb2:=(ae b).hi.toNat_lt
 refine En f303 rfl rfl (zR2 ?_)
 refine bJ rfl rfl (fun b1=>?_)
 refine bJ rfl rfl (fun b2=>?_)
 refine bH aJ rfl (fun b3=>zR3 ?_)
 refine dO 0 4 ah ?_
 refine ax (aw (cF rfl) ?_)
 refine aw (ak rfl (iP a)) (aw (cF rfl) ?_)
 refine aw (ak rfl (iP b)) (zT5 ?_)
 refine dZ (.of (ι:=Unit) (fun u=>fb op a b=iU op (ae a) (ae b)) (fun _=>Bg.of w) (fun u=>[cellE b3 (er.enc zeroS) 25,cellE b2 (er.enc (ae b)) 25,cellE b1 (er.enc (ae a)) 25]) (fun u=>[])) ?_ (fun u hi=>?_)
 ·skip
  refine zR6 ?_
  refine cZ 3 16 19 (h2:=zR3 ?_)
  refine ab rfl ?_ ?_<;>intro h5
  ·refine dx (zz0 (ak rfl lG) (zR6 ?_))
   refine lC ei rfl aV aj (fun w' hw=>?_)
   try rw [hi]
   refine ⟨?_,hw.b0⟩
   (first|unfold kE|unfold iU|unfold fb gV)
   exact zF
  refine zR5 ?_
  refine cZ 3 24 27 (h2:=zR3 ?_)
  refine ab rfl ?_ ?_<;>intro h7
  ·refine dx (zz0 (ak rfl lR) (zR6 ?_))
   refine lC ei rfl aV aj (fun w' hw=>?_)
   try rw [hi]
   refine ⟨?_,hw.b0⟩
   (first|unfold kE|unfold iU|unfold fb gV)
   exact zF
  refine zR3 ?_
  refine zz0 (ak rfl (vx _)) (zz0 (af rfl) ?_)
  apply dV 3 32 35 (fun hT8 hT8'=>?_) ?_; rotate_right
  ·refine zz5 hT8 (cF rfl) (zz5 hT8 (ak rfl (vx _)) ?_)
   exact zE
  refine zR3 ?_
  refine ab rfl ?_ ?_<;>intro h9
  ·refine zR7 ?_
   refine zz0 (ak rfl (H3 op (ae a).lo (ae b).lo)) (bR ?_)
   refine zz0 (ak rfl (kN _)) (zR6 ?_)
   refine lC ei rfl aV aj (fun w' hw=>?_)
   try rw [hi]
   refine ⟨?_,hw.b0⟩
   (first|unfold kE|unfold iU|unfold fb gV)
   exact zF
  refine zR3 ?_
  refine aT () (o:=(by show _=_; unfold fb gV; exact zF))
 skip
 refine dZ (.of (ι:=Unit) (fun u=>fb op a b=kE op (ae a) (ae b)) (fun _=>Bg.of w) (fun u=>[cellE b3 (er.enc zeroS) 25,cellE b2 (er.enc (ae b)) 25,cellE b1 (er.enc (ae a)) 25]) (fun u=>[])) ?_ (fun u hi=>?_)
 ·skip
  refine gB ?_
  apply cM
  ·exact rfl
  ·intro hO10
   try simp only [bs] at hO10
   refine zR6 ?_
   apply cM
   ·exact rfl
   ·intro hO11
    try simp only [bs] at hO11
    refine zR6 ?_
    apply cM
    ·exact rfl
    ·intro hO12
     try simp only [bs] at hO12
     refine zR5 ?_
     exact dl rfl (zz9 2 rfl)
    refine aS ?_
    exact dl rfl (zz9 3 rfl)
   refine aS ?_
   exact dl rfl (zz9 3 rfl)
  refine aS ?_
  refine ab rfl ?_ ?_<;>intro h13
  ·refine dx (zz0 (ak rfl (dy 0 1 1)) (zR6 ?_))
   refine lC ei rfl aV aj (fun w' hw=>?_)
   try rw [hi]
   refine ⟨?_,hw.b0⟩
   (first|unfold kE|unfold iU|unfold fb gV)
   exact zF
  refine zR6 ?_
  refine ab rfl ?_ ?_<;>intro h14
  ·refine zR6 ?_
   refine dT 4 59 63 (h2:=?_)
   refine zz0 (af rfl) ?_
   apply dV 9 64 73 (fun hT16 hT16'=>?_) ?_; rotate_right
   ·refine zR2 ?_
    refine zz5 hT16 (dL rfl ac bF) (zR2 ?_)
    refine zz5 hT16 (dL rfl ac bF) (zz5 hT16 (rf rfl rfl (by omega)) ?_)
    exact zE
   refine zR2 ?_
   refine ab rfl ?_ ?_<;>intro h17
   ·refine bB (dO 0 16 ah ?_)
    refine ax (K7 ?_)
    refine aw (ak rfl (C6 _ _)) ?_
    refine aw (ak rfl (dy _ _ _)) (zT7 ?_)
    refine lC ei rfl aV aj (fun w' hw=>?_)
    try rw [hi]
    refine ⟨?_,hw.b0⟩
    (first|unfold kE|unfold iU|unfold fb gV)
    exact zF
   refine zR3 ?_
   refine aT () (o:=(by show _=_; rw [hi]; unfold iU; exact zF))
  refine zR6 ?_
  refine ab rfl ?_ ?_<;>intro h18
  ·refine zR6 ?_
   refine dT 4 95 99 (h2:=?_)
   refine zz0 (af rfl) ?_
   apply dV 6 100 106 (fun hT20 hT20'=>?_) ?_; rotate_right
   ·refine zR4 ?_
    refine zz5 hT20 (jA rfl rfl) ?_
    exact zE
   refine zR2 ?_
   refine ab rfl ?_ ?_<;>intro h21
   ·refine bB (dO 0 16 ah ?_)
    refine ax (K7 ?_)
    refine aw (ak rfl (C6 _ _)) ?_
    refine aw (ak rfl (dy _ _ _)) (zT7 ?_)
    refine lC ei rfl aV aj (fun w' hw=>?_)
    try rw [hi]
    refine ⟨?_,hw.b0⟩
    (first|unfold kE|unfold iU|unfold fb gV)
    exact zF
   refine zR3 ?_
   refine aT () (o:=(by show _=_; rw [hi]; unfold iU; exact zF))
  refine zR3 ?_
  refine aT () (o:=(by show _=_; rw [hi]; unfold iU; exact zF))
 skip
 refine zR4 ?_
 refine zz0 (ak rfl (vx _)) (zR3 ?_)
 refine ab rfl ?_ ?_<;>intro h22
 ·refine dx (zz0 (ak rfl lG) (zR5 ?_))
  refine lC ei rfl aV aj (fun w' hw=>?_)
  try rw [hi]
  refine ⟨?_,hw.b0⟩
  (first|unfold kE|unfold iU|unfold fb gV)
  exact zF
 refine mN ?_
 refine ab rfl ?_ ?_<;>intro h23
 ·refine zR5 ?_
  refine zz0 (ak rfl (AZ _ _)) (zR6 ?_)
  refine lC ei rfl aV aj (fun w' hw=>?_)
  try rw [hi]
  refine ⟨?_,hw.b0⟩
  (first|unfold kE|unfold iU|unfold fb gV)
  exact zF
 refine zR6 ?_
 refine ab rfl ?_ ?_<;>intro h24
 ·refine bB (dO 0 5 ah ?_)
  refine ax (zT3 ?_)
  refine aw (ak rfl (Ei 1 _)) ?_
  refine aw (ak rfl (AZ _ _)) (zT7 ?_)
  refine lC ei rfl aV aj (fun w' hw=>?_)
  try rw [hi]
  refine ⟨?_,hw.b0⟩
  (first|unfold kE|unfold iU|unfold fb gV)
  exact zF
 refine zR6 ?_
 refine ab rfl ?_ ?_<;>intro h25
 ·refine zR5 ?_
  refine zz0 (ak rfl (J9 _ _)) (zR6 ?_)
  refine lC ei rfl aV aj (fun w' hw=>?_)
  try rw [hi]
  refine ⟨?_,hw.b0⟩
  (first|unfold kE|unfold iU|unfold fb gV)
  exact zF
 refine zR6 ?_
 refine ab rfl ?_ ?_<;>intro h26
 ·refine zR7 ?_
  refine ab rfl ?_ ?_<;>intro h27
  ·refine bB (dO 0 11 ah ?_)
   refine ax (zT4 ?_)
   refine aw (ak rfl (yt _ _)) (zT4 ?_)
   refine aw (ak rfl (yt _ _)) ?_
   refine aw (ak rfl (dy (jQ (ae a).lo (d6 (ae b).lo)) (jQ (ae a).hi (d6 (ae b).lo)) 1)) (zT7 ?_)
   refine lC ei rfl aV aj (fun w' hw=>?_)
   try rw [hi]
   refine ⟨?_,hw.b0⟩
   (first|unfold kE|unfold iU|unfold fb gV)
   exact zF
  refine zR5 ?_
  refine zz0 (ak rfl lG) (zR4 ?_)
  refine lC ei rfl aV aj (fun w' hw=>?_)
  try rw [hi]
  refine ⟨?_,hw.b0⟩
  (first|unfold kE|unfold iU|unfold fb gV)
  exact zF
 refine zR5 ?_
 refine zz0 (ak rfl lG) (zR4 ?_)
 refine lC ei rfl aV aj (fun w' hw=>?_)
 try rw [hi]
 refine ⟨?_,hw.b0⟩
 (first|unfold kE|unfold iU|unfold fb gV)
 exact zF
theorem uJ (a b:VSet) (w:World) :
  Cr prog 300 #[.agg (er.enc a).toArray,.agg (er.enc b).toArray] w (.agg (er.enc (jM a b)).toArray):=by
 refine En f300 rfl rfl (zR2 ?_)
 refine bJ rfl rfl (fun b1=>?_)
 refine bJ rfl rfl (fun b2=>?_)
 refine bH aJ rfl (fun b3=>zR3 ?_)
 refine dO 0 4 ah ?_
 refine ax (aw (cF rfl) ?_)
 refine aw (ak rfl (iP a)) (aw (cF rfl) ?_)
 refine aw (ak rfl (iP b)) (K7 ?_)
 refine ab rfl ?_ ?_<;>intro h4
 ·refine zR9 ?_
  refine lC kP rfl aV aj (fun w' hw=>?_)
  try rw [hme]
  refine ⟨?_,hw.b0⟩
  (first|unfold rk uK|unfold jM l9)
  exact zF
 refine zR7 ?_
 refine ab rfl ?_ ?_<;>intro h5
 ·refine zR9 ?_
  refine lC kP rfl aV aj (fun w' hw=>?_)
  try rw [hme]
  refine ⟨?_,hw.b0⟩
  (first|unfold rk uK|unfold jM l9)
  exact zF
 refine zR3 ?_
 refine gX (ι:=Nat × Nat) (fun ⟨p,q⟩=>True) (fun _=>Bg.of w) (fun ⟨p,q⟩=>[cellE q (er.enc (ae b)) 25,cellE p (er.enc (ae a)) 25,cellE b3 (er.enc zeroS) 25,cellE b2 (er.enc (ae b)) 25,cellE b1 (er.enc (ae a)) 25]) (fun ⟨p,q⟩=>[(6,.pointer (some ⟨q,0,none⟩)),(5,.pointer (some ⟨p,0,none⟩))]) ?_ (fun i hi=>?_)
 ·skip
  refine bC ([cellE b3 (er.enc zeroS) 25,cellE b2 (er.enc (ae b)) 25,cellE b1 (er.enc (ae a)) 25]) 6 rfl ah ?_
  refine zK [0,1] ?_
  refine m8 [2,3] (fun iq hq=>?_)
  rcases List.mem_cons.1 hq with rfl|hq
  ·skip
   refine cU rfl ?_
   refine bH aJ rfl (fun b6=>?_)
   refine aC ?_
   refine au 3 rfl ?_
   refine bH aJ rfl (fun b7=>?_)
   refine aC ?_
   refine au 4 rfl (cK er rfl rfl aj ?_)
   refine aC ?_
   refine au 5 rfl (cK er rfl rfl aj ?_)
   refine aC ?_
   refine fg (aS ?_)
   refine aT (_,_) (o:=trivial)
  obtain rfl:=List.mem_singleton.1 hq
  refine cU rfl ?_
  refine bH aJ rfl (fun b8=>?_)
  refine aC ?_
  refine au 2 rfl ?_
  refine bH aJ rfl (fun b9=>?_)
  refine aC ?_
  refine au 4 rfl (cK er rfl rfl aj ?_)
  refine aC ?_
  refine au 5 rfl (cK er rfl rfl aj ?_)
  refine aC ?_
  refine fg (aS ?_)
  refine aT (_,_) (o:=trivial)
 obtain ⟨p,q⟩:=i
 replace hi:True:=hi
 change Tr _ _ [cellE q (er.enc (ae b)) 25,cellE p (er.enc (ae a)) 25,cellE b3 (er.enc zeroS) 25,cellE b2 (er.enc (ae b)) 25,cellE b1 (er.enc (ae a)) 25] ([(6,.pointer (some ⟨q,0,none⟩)),(5,.pointer (some ⟨p,0,none⟩))] ++ _) _
 refine gX (ι:=VSet × VSet) (fun ⟨fe,ot⟩=>(ae a).top=false∧jM a b=rk (ae a) (ae b) fe ot∧(64<cQ (ae a)∨fe=ae a)) (fun _=>Bg.of w) (fun ⟨fe,ot⟩=>[cellE q (er.enc ot) 25,cellE p (er.enc fe) 25,cellE b3 (er.enc zeroS) 25,cellE b2 (er.enc (ae b)) 25,cellE b1 (er.enc (ae a)) 25]) (fun ⟨fe,ot⟩=>[]) ?_ (fun i hi=>?_)
 ·skip
  refine zR3 ?_
  refine zz0 (ak rfl (FG _)) (zR3 ?_)
  refine ab rfl ?_ ?_<;>intro h10
  ·refine bC ([cellE b3 (er.enc zeroS) 25,cellE b2 (er.enc (ae b)) 25,cellE b1 (er.enc (ae a)) 25]) 4 rfl ah ?_
   refine zK [0,1] ?_
   refine au 2 rfl (cK er rfl rfl aj ?_)
   refine aC ?_
   refine au 3 rfl (cK er rfl rfl aj ?_)
   refine aC ?_
   refine fg (aS ?_)
   refine aT (ae b,ae a) (o:=⟨by simp_all,by unfold jM l9; (exact zF),.inl (by assumption)⟩)
  refine zR2 ?_
  refine aT (ae a,ae b) (o:=⟨by simp_all,by unfold jM l9; (exact zF),.inr rfl⟩)
 obtain ⟨fe,ot⟩:=i
 replace hi:(ae a).top=false∧jM a b=rk (ae a) (ae b) fe ot∧(64<cQ (ae a)∨fe=ae a):=hi
 change Tr _ _ [cellE q (er.enc ot) 25,cellE p (er.enc fe) 25,cellE b3 (er.enc zeroS) 25,cellE b2 (er.enc (ae b)) 25,cellE b1 (er.enc (ae a)) 25] ([] ++ _) _
 obtain ⟨hat,hme,hfe⟩:=hi
 refine zR4 ?_
 refine eT (fun V=>.tuple #[V,.int .i64 (dm fe).2]) rfl call41 (fun w hw=>wU fe w) rfl (fun VE=>zR8 ?_)
 have hel:(dm fe).2=0→(dm fe).1.length≤64:=v6
 refine zR5 ?_
 refine ab rfl ?_ ?_<;>intro h11
 ·refine dx (zz0 (ak rfl lR) ?_)
  refine bH aJ rfl (fun b12=>zR5 ?_)
  have hel2:=hel (by assumption)
  refine zR7 ?_
  refine cP (.of (ι:=Nat) (fun k=>k≤(dm fe).1.length) (fun _=>_) (fun k=>[cellE b12 (er.enc (mX ot ((dm fe).1.take k) emptyS)) 25,rowE VE 23 aa (dm fe).1,cellE q (er.enc ot) 25,cellE p (er.enc fe) 25,cellE b3 (er.enc zeroS) 25,cellE b2 (er.enc (ae b)) 25,cellE b1 (er.enc (ae a)) 25]) (fun k=>[(44,.int .i64 (k:Nat))]) (fun k=>(dm fe).1.length - k)) 0 (Nat.zero_le _) (Front.c Front.nil) (fun k hi m hm=>zR6 ?_)
  refine ab rfl ?_ ?_<;>intro h13
  ·refine mN ?_
   refine zz0 (ak rfl (oU ot _)) (zR2 ?_)
   refine ab rfl ?_ ?_<;>intro h14
   ·refine dO 0 4 ah ?_
    refine ax (zT2 ?_)
    refine aw (ak rfl (kN _)) ?_
    refine aw (ak rfl (CV _ _)) (Af ?_)
    rw [ER (by omega) (by assumption)]
    refine aP (k+1) (o:=(by show k+1≤_; omega))
   refine zR8 ?_
   rw [IO (o:=ot) (k:=k) (by omega) (by assumption)]
   refine aP (k+1) (o:=(by show k+1≤_; omega))
  refine zR6 ?_
  obtain rfl:k=(dm fe).1.length:=by omega
  rw [List.take_length]
  refine zR7 ?_
  refine lC kP rfl aV aj (fun w' hw=>?_)
  try rw [hme]
  refine ⟨?_,hw.b0⟩
  (first|unfold rk uK|unfold jM l9)
  exact zF
 refine zR3 ?_
 have hst0:(ae a).st≠0:=MX (gg a) (hfe.elim id (fun e=>e ▸ M8 (by assumption))) hat
 have hfb:=IV (ae a) (jV (ae a).lo (ae b).lo) hst0
 have hz1:=rJ hst0
 have hz2:=(ae a).st.toNat_lt
 have hz3:=(jV (ae a).lo (ae b).lo - (ae a).lo).toNat_lt
 have hz4:=(ae a).lo.toNat_lt
 refine eU ah (zT4 ?_)
 refine aw (sq rfl rfl) (zT4 ?_)
 refine aw (sn rfl rfl) (zT5 ?_)
 simp only [rL,rP]
 refine eU ah (zT2 ?_)
 refine aw (dL rfl ac bF) (zT4 ?_)
 refine aw (dL rfl ac bF) (zT2 ?_)
 refine aw (dL rfl ac bF) (aw (rf rfl rfl (by omega)) ?_)
 refine aw (Jh rfl rfl (by omega)) (zT2 ?_)
 refine aw (dL rfl ac bF) (aw (Pe rfl rfl (by omega)) (zT2 ?_))
 refine aw (dL rfl ac bF) (aw (Jl rfl rfl (by omega)) ?_)
 refine aw (rf rfl rfl (by omega)) (zT5 ?_)
 have hfe1:(ae a).lo.toNat+(((jV (ae a).lo (ae b).lo - (ae a).lo).toNat:Int)+(ae a).st.toNat - 1) / ((ae a).st.toNat:Int) * (ae a).st.toNat=lO (ae a) (jV (ae a).lo (ae b).lo):=rfl
 rw [hfe1]
 refine zR3 ?_
 refine zz0 (dL rfl ac bF) (zR3 ?_)
 refine ab rfl ?_ ?_<;>intro h15
 ·refine dx (zz0 (ak rfl lR) (zR5 ?_))
  refine lC kP rfl aV aj (fun w' hw=>?_)
  try rw [hme]
  refine ⟨?_,hw.b0⟩
  (first|unfold rk uK|unfold jM l9)
  exact zF
 refine zR5 ?_
 refine zz0 (eJ rfl bF ac) (zR3 ?_)
 refine zz0 (ak rfl (dy _ _ _)) (zR4 ?_)
 refine lC kP rfl aV aj (fun w' hw=>?_)
 try rw [hme]
 refine ⟨?_,hw.b0⟩
 (first|unfold rk uK|unfold jM l9)
 exact zF
theorem Le (a b:VSet) (w:World) :
  Cr prog 227 #[.agg (er.enc a).toArray,.agg (er.enc b).toArray] w (.agg (er.enc (jH a b)).toArray):=by
 refine En f227 rfl rfl (zR2 ?_)
 refine bJ rfl rfl (fun b1=>?_)
 refine bJ rfl rfl (fun b2=>?_)
 refine bH aJ rfl (fun b3=>zR3 ?_)
 refine dO 0 4 ah ?_
 refine ax (aw (cF rfl) ?_)
 refine aw (ak rfl (iP a)) (aw (cF rfl) ?_)
 refine aw (ak rfl (iP b)) (vp ?_)
 refine zz0 (ak rfl (Js _ _)) (zR3 ?_)
 refine ab rfl ?_ ?_<;>intro h4
 ·refine zR9 ?_
  refine aL (e:=?_)
  unfold jH jK lF
  exact zF
 refine zR7 ?_
 refine ab rfl ?_ ?_<;>intro h5
 ·refine zR9 ?_
  refine aL (e:=?_)
  unfold jH jK lF
  exact zF
 refine zR5 ?_
 refine cZ 3 24 27 (h2:=zR3 ?_)
 refine ab rfl ?_ ?_<;>intro h7
 ·refine dx (zz0 (ak rfl lG) (zR6 ?_))
  refine aL (e:=?_)
  unfold jH jK lF
  exact zF
 refine zR7 ?_
 refine zz0 (ak rfl (CV _ _)) ?_
 refine bH aJ rfl (fun b8=>bR ?_)
 refine ab rfl ?_ ?_<;>intro h9
 ·refine zR8 ?_
  refine aL (e:=?_)
  unfold jH jK lF
  exact zF
 refine j8 (bB (eU ah (QE ?_)))
 refine ab rfl ?_ ?_<;>intro h10
 ·have hst0:=DR (by assumption) (by assumption) (by simp_all) (by simp_all) (by assumption) (by assumption)
  refine zR4 ?_
  refine zz0 (pd rfl rfl) (df ?_)
  refine ab rfl ?_ ?_<;>intro h11
  ·refine bR ?_
   refine zz0 (ak rfl (dy ((dK (ae a) (ae b)).lo % (dK (ae a) (ae b)).st) 4294967295 (dK (ae a) (ae b)).st)) (zR4 ?_)
   refine aL (e:=?_)
   unfold jH jK lF
   exact zF
  refine zR8 ?_
  refine zz0 (ak rfl (dy ((dK (ae a) (ae b)).lo % (dK (ae a) (ae b)).st) (dK (ae a) (ae b)).hi (dK (ae a) (ae b)).st)) (zR4 ?_)
  refine aL (e:=?_)
  unfold jH jK lF
  exact zF
 refine cj ?_
 refine ab rfl ?_ ?_<;>intro h12
 ·refine bR ?_
  refine zz0 (ak rfl (dy (dK (ae a) (ae b)).lo 4294967295 (dK (ae a) (ae b)).st)) (zR4 ?_)
  refine aL (e:=?_)
  unfold jH jK lF
  exact zF
 refine zR8 ?_
 refine zz0 (ak rfl (dy (dK (ae a) (ae b)).lo (dK (ae a) (ae b)).hi (dK (ae a) (ae b)).st)) (zR4 ?_)
 refine aL (e:=?_)
 unfold jH jK lF
 exact zF
theorem rx (w:World) :
  Cr prog 162 #[] w (.agg (bY.enc (vr 8)).toArray):=by
 refine En f162 rfl rfl (zR2 ?_)
 refine bH cm rfl (fun b1=>zR4 ?_)
 refine bH cm rfl (fun b2=>zR9 ?_)
 refine cP (.of (ι:=Nat) (fun k=>k≤8) (fun _=>_) (fun k=>[cellE b2 (bY.enc (vr k)) 37,cellE b1 (bY.enc gx) 37]) (fun k=>[(3,.int .i64 (k:Nat))]) (fun k=>8 - k)) 0 (Nat.zero_le _) (Front.c Front.nil) (fun k hi m hm=>zR6 ?_)
 refine ab rfl ?_ ?_<;>intro h3
 ·refine df ?_
  refine zz0 (ak rfl lG) (zz0 (bE rfl) ?_)
  refine zz0 (gn rfl rfl aA aj) ?_
  refine cY rfl rfl aj (by repeat constructor) ((fQ (k:=(k:Int)) ⟨by omega,by omega⟩ (by simp) _).trans (congrArg bY.enc (DW (by omega)))) (by rfl) (fR (k:=(k:Int)) ⟨by omega,by omega⟩ (by simp)) (by first|exact Enc.one er _|exact List.all_eq_true.1 rfl) rfl (zR8 ?_)
  refine aP (k+1) (o:=(by show k+1≤_; omega))
 refine zR6 ?_
 obtain rfl:k=8:=by omega
 refine zR6 ?_
 exact aL (e:=rfl)
theorem BE (w:World) :
  Cr prog 160 #[] w (.agg (bY.enc (gI 8)).toArray):=by
 refine En f160 rfl rfl (zR2 ?_)
 refine bH cm rfl (fun b1=>zR4 ?_)
 refine bH cm rfl (fun b2=>zR9 ?_)
 refine cP (.of (ι:=Nat) (fun k=>k≤8) (fun _=>_) (fun k=>[cellE b2 (bY.enc (gI k)) 37,cellE b1 (bY.enc gx) 37]) (fun k=>[(3,.int .i64 (k:Nat))]) (fun k=>8 - k)) 0 (Nat.zero_le _) (Front.c Front.nil) (fun k hi m hm=>zR6 ?_)
 refine ab rfl ?_ ?_<;>intro h3
 ·refine df ?_
  refine zz0 (ak rfl lR) (zz0 (bE rfl) ?_)
  refine zz0 (gn rfl rfl aA aj) ?_
  refine cY rfl rfl aj (by repeat constructor) ((fQ (k:=(k:Int)) ⟨by omega,by omega⟩ (by simp) _).trans (congrArg bY.enc (zo (by omega)))) (by rfl) (fR (k:=(k:Int)) ⟨by omega,by omega⟩ (by simp)) (by first|exact Enc.one er _|exact List.all_eq_true.1 rfl) rfl (zR8 ?_)
  refine aP (k+1) (o:=(by show k+1≤_; omega))
 refine zR6 ?_
 obtain rfl:k=8:=by omega
 refine zR6 ?_
 exact aL (e:=rfl)
theorem yo (s:StV) (i:Ins) (w:World) (hB:0≤i.b∧i.b<8) :
  Cr prog 302 #[.agg (bY.enc s).toArray,.agg (al.enc i).toArray] w (.agg (er.enc (xk s i)).toArray):=by
 refine En f302 rfl rfl (zR2 ?_)
 refine bJ rfl rfl (fun b1=>?_)
 refine bJ rfl rfl (fun b2=>?_)
 refine bH aJ rfl (fun b3=>bR ?_)
 refine ab rfl ?_ ?_<;>intro h4
 ·refine zR5 ?_
  refine zz0 (gn rfl rfl aA aj) ?_
  refine zz0 (dI (vs:=er.enc (s.get i.b)) rfl (by repeat constructor) aV aj (ie hB (by simp)) rfl) (zR5 ?_)
  refine aL (e:=?_)
  unfold xk
  exact zF
 refine zR6 ?_
 refine zz0 (ak rfl (kN _)) (zR4 ?_)
 refine aL (e:=?_)
 unfold xk
 exact zF
theorem J5 (a:VSet) (n:UInt32) (w:World) :
  Cr prog 304 #[.agg (er.enc a).toArray,.int .u32 n.toNat] w (.agg (er.enc (rK a n)).toArray):=by
 refine En f304 rfl rfl (zR2 ?_)
 refine bJ rfl rfl (fun b1=>?_)
 refine bH aJ rfl (fun b2=>zR6 ?_)
 refine zz0 (ql (n:=2147483648) rfl rfl) (zR2 ?_)
 refine ab rfl ?_ ?_<;>intro h3
 ·refine bB (dO 0 4 ah ?_)
  refine ax (zT2 ?_)
  refine aw (ak rfl (kN _)) ?_
  refine aw (ak rfl (sh 3 _ _)) (zT6 ?_)
  refine aL (e:=?_)
  unfold rK
  exact zF
 refine zR3 ?_
 refine dO 0 5 ah ?_
 refine ax (zT2 ?_)
 refine aw (zW rfl) ?_
 refine aw (ak rfl (kN _)) ?_
 refine aw (ak rfl (sh 4 _ _)) (zT5 ?_)
 refine aL (e:=?_)
 unfold rK
 exact zF
theorem wY (a:VSet) (w:World) :
  Cr prog 299 #[.agg (er.enc a).toArray] w (.bool (kD a)):=by
 refine En f299 rfl rfl (zR2 ?_)
 refine bJ rfl rfl (fun b1=>zR6 ?_)
 refine zz0 (ak rfl (yk _)) (zz0 (af rfl) ?_)
 refine dT 4 5 9 (h2:=?_)
 refine zz0 (af rfl) ?_
 refine dT 4 10 14 (h2:=zR4 ?_)
 refine aD (e:=?_)
 unfold kD
 exact zF
theorem DK (a:VSet) (n:UInt32) (w:World) :
  Cr prog 301 #[.agg (er.enc a).toArray,.int .u32 n.toNat] w (.agg (er.enc (jP a n)).toArray):=by
 refine En f301 rfl rfl (zR2 ?_)
 refine bJ rfl rfl (fun b1=>?_)
 refine bH aJ rfl (fun b2=>zR7 ?_)
 refine zz0 (ak rfl (wY _)) (zR2 ?_)
 apply gA
 ·exact (rfl:_=(11,9,20))
 ·exact rfl
 ·intro hF3; have hF3':=hF3
  try simp only [bs] at hF3'
  refine zR5 ?_
  apply fC
  ·exact (rfl:_=(5,14,19))
  ·exact rfl
  ·intro hT4; have hT4':=hT4
   try simp only [bs] at hT4'
   refine zR7 ?_
   exact aN (Sub.cons rfl (zz7 5 rfl))
  ·intro hF4
   refine zR7 ?_
   exact aN (Sub.cons rfl (zz7 5 rfl))
  refine zR3 ?_
  exact aN (Sub.cons rfl (zz7 7 rfl))
 ·intro hT3
  refine gB ?_
  exact aN (Sub.cons rfl (zz7 11 rfl))
 refine zR3 ?_
 refine ab rfl ?_ ?_<;>intro h5
 ·refine zR9 ?_
  refine aL (e:=?_)
  unfold jP
  exact zF
 refine zR4 ?_
 refine zz0 (dq (n:=0) rfl rfl) (zR3 ?_)
 refine ab rfl ?_ ?_<;>intro h6
 ·refine dx (zz0 (ak rfl lR) (zR6 ?_))
  refine aL (e:=?_)
  unfold jP
  exact zF
 refine zR9 ?_
 refine ab rfl ?_ ?_<;>intro h7
 ·refine cj ?_
  refine zz0 (ak rfl (dy _ _ _)) (zR6 ?_)
  refine aL (e:=?_)
  unfold jP
  exact zF
 refine jk ?_
 refine zz0 (ak rfl (dy _ _ _)) (zR4 ?_)
 refine aL (e:=?_)
 unfold jP
 exact zF
theorem wX (i:Ins) (w:World) (hI:InsOK i) :
  Cr prog 225 #[.agg (al.enc i).toArray] w (.bool (tQ i)):=by
 refine En f225 rfl rfl (zR2 ?_)
 refine bJ rfl rfl (fun b1=>zR9 ?_)
 refine dT 4 6 10 (h2:=?_)
 refine zz0 (af rfl) ?_
 apply dV 3 11 14 (fun hT3 hT3'=>?_) ?_; rotate_right
 ·refine zz5 hT3 (cF rfl) (zz5 hT3 (aK rfl (fun w hw=>l5 i w hI)) ?_)
  exact zE
 refine zR4 ?_
 refine aD (e:=?_)
 unfold tQ
 exact zF
theorem CC (cc:Int) (w:World) :
  Cr prog 298 #[.int .i64 cc] w (.int .i64 (vF cc)):=by
 refine En f298 rfl rfl (cj ?_)
 refine cZ 3 5 8 (h2:=zR2 ?_)
 refine ab rfl ?_ ?_<;>intro h2
 ·refine zR7 ?_
  exact aD (e:=by unfold vF; rw [if_pos (by omega)])
 refine zR3 ?_
 have hsz:({ data:=#[45,99,98,101,100,103,102,105,104,107,106,109,108,111,110] }:ByteArray).size=15:=rfl
 refine zR2 ?_
 refine zz0 (sT rfl rfl ff (by omega)) ?_
 refine zz0 (Ji (n:=97) rfl rfl) ?_
 refine zz0 (dh rfl ao ad) (zR4 ?_)
 exact aD (e:=by rw [Hl (by omega),← Ou (by omega)])
theorem qP (a b:StV) (w:World) :
  Cr prog 110 #[.agg (bY.enc a).toArray,.agg (bY.enc b).toArray] w (.agg (bY.enc (gr a b 8)).toArray):=by
 refine En f110 rfl rfl (zR2 ?_)
 refine bJ rfl rfl (fun b1=>?_)
 refine bJ rfl rfl (fun b2=>?_)
 refine bH cm rfl (fun b3=>zR9 ?_)
 refine cP (.of (ι:=Nat) (fun k=>k≤8) (fun _=>_) (fun k=>[cellE b3 (bY.enc gx) 37,cellE b2 (bY.enc b) 37,cellE b1 (bY.enc (gr a b k)) 37]) (fun k=>[(6,.int .i64 (k:Nat))]) (fun k=>8 - k)) 0 (Nat.zero_le _) (Front.c Front.nil) (fun k hi m hm=>?_)
 have hgk:=vP a b k hi k (Nat.le_refl k)
 refine zR6 ?_
 refine ab rfl ?_ ?_<;>intro h4
 ·refine bR ?_
  replace hgk:=hgk (by omega)
  refine dO 0 12 ah ?_
  refine ax (zT3 ?_)
  refine aw (gn rfl rfl aA aj) ?_
  refine aw (dI (vs:=er.enc ((gr a b k).get (k:Int))) rfl (by repeat constructor) aV aj (ie ⟨by omega,by omega⟩ (by simp)) rfl) (zT2 ?_)
  refine aw (gn rfl rfl aA aj) ?_
  refine aw (dI (vs:=er.enc (b.get (k:Int))) rfl (by repeat constructor) aV aj (ie ⟨by omega,by omega⟩ (by simp)) rfl) ?_
  refine aw (ak rfl (CV _ _)) (aw (bE rfl) ?_)
  refine aw (gn rfl rfl aA aj) (im ?_)
  refine cY rfl rfl aj (by repeat constructor) ((fQ (s:=gr a b k) (k:=(k:Int)) ⟨by omega,by omega⟩ (by simp) (dK ((gr a b k).get (k:Int)) (b.get (k:Int)))).trans (congrArg bY.enc (show _=gr a b (k+1) by rw [hgk]; rfl))) (by rfl) (fR (k:=(k:Int)) ⟨by omega,by omega⟩ (by simp)) (by first|exact Enc.one er _|exact List.all_eq_true.1 rfl) rfl (zR8 ?_)
  refine aP (k+1) (o:=(by show k+1≤_; omega))
 refine zR6 ?_
 obtain rfl:k=8:=by omega
 refine zR6 ?_
 exact aL (e:=rfl)
theorem Cd (i:Ins) (s:StV) (w:World) (hI:InsOK i) :
  Cr prog 270 #[.agg (al.enc i).toArray,.agg (bY.enc s).toArray] w (.agg (bY.enc (fm i s)).toArray):=by
 refine En f270 rfl rfl (zR2 ?_)
 refine bJ rfl rfl (fun b1=>?_)
 refine bJ rfl rfl (fun b2=>?_)
 refine bH cm rfl (fun b3=>zR6 ?_)
 refine zz0 (aK rfl (fun w hw=>l5 i w hI)) (zR3 ?_)
 refine ab rfl ?_ ?_<;>intro h4
 ·refine zR8 ?_
  refine aL (e:=?_)
  first|(rw [hi]; rfl)|(unfold fm; (repeat' split)<;>first|(exfalso; first|(simp_all; done)|grind)|rfl)
 refine zR3 ?_
 have he:eN i=0:=by simp_all
 obtain ⟨_,hA,hB,_⟩:=ly he
 refine zR4 ?_
 refine zz0 (gn rfl rfl aA aj) ?_
 refine zz0 (dI (vs:=er.enc (s.get i.a)) rfl (by repeat constructor) aV aj (ie hA (by simp)) rfl) ?_
 refine bH aJ rfl (fun b5=>zR3 ?_)
 refine dZ (.of (ι:=VSet) (fun a1=>fm i s=s.set i.a a1) (fun _=>Bg.of w) (fun a1=>[cellE b5 (er.enc a1) 25,cellE b3 (bY.enc gx) 37,cellE b2 (bY.enc s) 37,cellE b1 (al.enc i) 36]) (fun a1=>[])) ?_ (fun a1 hi=>?_)
 ·skip
  refine zR9 ?_
  refine ab rfl ?_ ?_<;>intro h6
  ·refine zR3 ?_
   refine zz0 (aK rfl (fun w hw=>yo s i w hB)) (zR4 ?_)
   refine aT _ (o:=(by show _=_; unfold fm; rw [if_pos he]; (repeat' split)<;>first|(exfalso; first|(simp_all; done)|grind)|rfl))
  refine zR6 ?_
  refine dT 4 28 32 (h2:=zR3 ?_)
  refine ab rfl ?_ ?_<;>intro h8
  ·refine dx (zz0 (aI (vs:=[(0,_),(1,_),(2,_),(3,_),(4,_),(5,_),(6,_),(7,_),(8,_)]) rfl rfl (mr _ _ _ _ _ _ _ _ _)) ?_)
   refine bH zeroValue321 rfl (fun b9=>?_)
   refine zz8 rfl rfl sizeOf321 ?_
   refine Gr (dO 0 10 ah ?_)
   refine ax (zT3 ?_)
   refine aw (gn rfl rfl underlying321 aH) ?_
   refine aw (ou (v:=.int .i64 (wM i.op)) rfl (by repeat constructor) iW (Mk (by assumption) (by simp))) (zT3 ?_)
   refine aw (aK rfl (fun w hw=>yo s i w hB)) ?_
   refine aw (ak rfl (sh (wM i.op) (s.get i.a) (xk s i))) (zT5 ?_)
   refine aT _ (o:=(by show _=_; unfold fm; rw [if_pos he]; (repeat' split)<;>first|(exfalso; first|(simp_all; done)|grind)|rfl))
  refine zR6 ?_
  refine dT 4 48 52 (h2:=zR3 ?_)
  refine ab rfl ?_ ?_<;>intro h11
  ·have hwd:=Mx he (by omega)
   refine zR3 ?_
   refine zz0 (gw rfl rfl (by omega)) ?_
   refine zz0 (lY (m:=1) rfl rfl (by omega)) ?_
   refine zz0 (gK (n:=1) rfl rfl) ?_
   refine zz0 (ak rfl (dy 0 (jt 1 (8 * i.width).toNat - 1) 1)) (zR4 ?_)
   refine aT _ (o:=(by show _=_; unfold fm; rw [if_pos he]; (repeat' split)<;>first|(exfalso; first|(simp_all; done)|grind)|rfl))
  refine zR9 ?_
  apply cM
  ·exact rfl
  ·intro hO12
   try simp only [bs] at hO12
   refine zR8 ?_
   apply cM
   ·exact rfl
   ·intro hO13
    try simp only [bs] at hO13
    refine zR7 ?_
    exact dl rfl (zz9 4 rfl)
   refine aS ?_
   exact dl rfl (zz9 5 rfl)
  refine aS ?_
  refine ab rfl ?_ ?_<;>intro h14
  ·refine cC (zz0 (ak rfl lG) (zR4 ?_))
   refine aT _ (o:=(by show _=_; unfold fm; rw [if_pos he]; (repeat' split)<;>first|(exfalso; first|(simp_all; done)|grind)|rfl))
  refine zR8 ?_
  refine ab rfl ?_ ?_<;>intro h15
  ·refine dO 0 8 ah ?_
   refine ax (zT3 ?_)
   refine aw (gn rfl rfl aA aj) ?_
   refine aw (dI (vs:=er.enc (s.get i.b)) rfl (by repeat constructor) aV aj (ie hB (by simp)) rfl) (zT2 ?_)
   refine aw (ak rfl (J5 (s.get i.b) i.imm)) (zT5 ?_)
   refine aT _ (o:=(by show _=_; unfold fm; rw [if_pos he]; (repeat' split)<;>first|(exfalso; first|(simp_all; done)|grind)|rfl))
  refine zR8 ?_
  refine ab rfl ?_ ?_<;>intro h16
  ·refine cC (zz0 (ak rfl (dy 0 1 1)) (zR4 ?_))
   refine aT _ (o:=(by show _=_; unfold fm; rw [if_pos he]; (repeat' split)<;>first|(exfalso; first|(simp_all; done)|grind)|rfl))
  refine zR8 ?_
  refine ab rfl ?_ ?_<;>intro h17
  ·refine bB (dO 0 7 ah ?_)
   refine ax (aw (bE rfl) ?_)
   refine aw (gn rfl rfl aA aj) ?_
   refine aw (dI (vs:=er.enc (s.get (7:Int))) rfl (by repeat constructor) aV aj (ie ⟨by omega,by omega⟩ (by simp)) rfl) ?_
   refine aw (ak rfl (kN 4)) ?_
   refine aw (ak rfl (sh 4 (s.get 7) (fH 4))) (aw (bE rfl) ?_)
   refine aw (gn rfl rfl aA aj) (im ?_)
   refine cY rfl rfl aj (by repeat constructor) (fQ (k:=7) ⟨by omega,by omega⟩ (by simp) _) (by rfl) (fR (k:=7) ⟨by omega,by omega⟩ (by simp)) (by first|exact Enc.one er _|exact List.all_eq_true.1 rfl) rfl (cj ?_)
   refine aL (e:=?_)
   first|(rw [hi]; rfl)|(unfold fm; (repeat' split)<;>first|(exfalso; first|(simp_all; done)|grind)|rfl)
  refine zR9 ?_
  apply cM
  ·exact rfl
  ·intro hO18
   try simp only [bs] at hO18
   refine zR7 ?_
   exact dl rfl (zz9 4 rfl)
  refine aS ?_
  refine ab rfl ?_ ?_<;>intro h19
  ·refine bB (dO 0 7 ah ?_)
   refine ax (aw (bE rfl) ?_)
   refine aw (gn rfl rfl aA aj) ?_
   refine aw (dI (vs:=er.enc (s.get (7:Int))) rfl (by repeat constructor) aV aj (ie ⟨by omega,by omega⟩ (by simp)) rfl) ?_
   refine aw (ak rfl (kN 4)) ?_
   refine aw (ak rfl (sh 3 (s.get 7) (fH 4))) (aw (bE rfl) ?_)
   refine aw (gn rfl rfl aA aj) (im ?_)
   refine cY rfl rfl aj (by repeat constructor) (fQ (k:=7) ⟨by omega,by omega⟩ (by simp) _) (by rfl) (fR (k:=7) ⟨by omega,by omega⟩ (by simp)) (by first|exact Enc.one er _|exact List.all_eq_true.1 rfl) rfl (bR ?_)
   refine ab rfl ?_ ?_<;>intro h20
   ·refine dO 0 5 ah ?_
    refine ax (zT2 ?_)
    refine aw (ak rfl lG) (aw (bE rfl) ?_)
    refine aw (gn rfl rfl aA aj) (im ?_)
    refine cY rfl rfl aj (by repeat constructor) (fQ hA (by simp) _) (by rfl) (fR hA (by simp)) (by first|exact Enc.one er _|exact List.all_eq_true.1 rfl) rfl (cj ?_)
    refine aL (e:=?_)
    first|(rw [hi]; rfl)|(unfold fm; (repeat' split)<;>first|(exfalso; first|(simp_all; done)|grind)|rfl)
   refine cj ?_
   refine aL (e:=?_)
   first|(rw [hi]; rfl)|(unfold fm; (repeat' split)<;>first|(exfalso; first|(simp_all; done)|grind)|rfl)
  refine zR9 ?_
  apply cM
  ·exact rfl
  ·intro hO21
   try simp only [bs] at hO21
   refine zR7 ?_
   exact dl rfl (zz9 4 rfl)
  refine aS ?_
  refine ab rfl ?_ ?_<;>intro h22
  ·refine dx (zz0 (ak rfl rx) (zR6 ?_))
   refine aL (e:=?_)
   first|(rw [hi]; rfl)|(unfold fm; (repeat' split)<;>first|(exfalso; first|(simp_all; done)|grind)|rfl)
  refine zR9 ?_
  refine aL (e:=?_)
  first|(rw [hi]; rfl)|(unfold fm; (repeat' split)<;>first|(exfalso; first|(simp_all; done)|grind)|rfl)
 skip
 refine zR6 ?_
 refine zz0 (gn rfl rfl aA aj) ?_
 refine cY rfl rfl aj (by repeat constructor) (fQ hA (by simp) _) (by rfl) (fR hA (by simp)) (by first|exact Enc.one er _|exact List.all_eq_true.1 rfl) rfl (zR9 ?_)
 refine aL (e:=?_)
 first|(rw [hi]; rfl)|(unfold fm; (repeat' split)<;>first|(exfalso; first|(simp_all; done)|grind)|rfl)
theorem G8 (cc:Int) (i:Ins) (s:StV) (tk:Bool) (w:World) (hI:InsOK i) :
  Cr prog 269 #[.int .i64 cc,.agg (al.enc i).toArray,.agg (bY.enc s).toArray,.bool tk] w (.agg (bY.enc (my cc i s tk)).toArray):=by
 refine En f269 rfl rfl (zR2 ?_)
 refine bJ rfl rfl (fun b1=>?_)
 refine bJ rfl rfl (fun b2=>?_)
 refine bH cm rfl (fun b3=>zR6 ?_)
 refine zz0 (aK rfl (fun w hw=>wX i w hI)) (zR3 ?_)
 refine ab rfl ?_ ?_<;>intro h4
 ·refine zR8 ?_
  refine aL (e:=?_)
  unfold my
  rw [if_pos (by simp_all)]
  rfl
 refine zR3 ?_
 have hcm:tQ i=true:=by simp_all
 obtain ⟨_,hA,hB,_⟩:=ly (I4 hcm)
 refine bC ([cellE b3 (bY.enc gx) 37,cellE b2 (bY.enc s) 37,cellE b1 (al.enc i) 36]) 10 rfl ah ?_
 refine zK [0,1,2] ?_
 refine zz4 3 rfl (gn rfl rfl aA aj) ?_
 refine jx 4 rfl (by kernel_rfl) (aY cX) (dI (vs:=er.enc (s.get i.a)) rfl (by repeat constructor) aV aj (ie hA (by simp)) rfl) ?_
 refine zK [5,6] ?_
 refine au 7 rfl ?_
 refine bH aJ rfl (fun b5=>?_)
 refine aC ?_
 refine au 8 rfl (cK er rfl rfl aj ?_)
 refine aC ?_
 refine zz4 9 rfl (cD rfl) ?_
 refine fg (aS ?_)
 refine dZ (.of (ι:=Int) (fun c1=>c1=(if tk=true then cc else vF cc)) (fun _=>Bg.of w) (fun c1=>[cellE b5 (er.enc (s.get i.a)) 25,cellE b3 (bY.enc gx) 37,cellE b2 (bY.enc s) 37,cellE b1 (al.enc i) 36]) (fun c1=>[(0,.int .i64 c1)])) ?_ (fun c1 hi=>?_)
 ·skip
  refine zR6 ?_
  refine ab rfl ?_ ?_<;>intro h6
  ·refine cC (zz0 (af rfl) (zz0 (ak rfl (CC cc)) (zR3 ?_)))
   refine aT _ (o:=(by show _=_; rw [if_neg (by simp_all)]))
  refine zR2 ?_
  refine aT _ (o:=(by show _=_; rw [if_pos (by simp_all)]))
 skip
 have hrf:my cc i s tk=nn c1 i s:=by unfold my; rw [if_neg (by rw [hcm]; simp),hi]
 refine dZ (.of (ι:=Int) (fun c2=>nn c1 i s=s.set i.a (dz c2 (s.get i.a) i.imm)) (fun _=>Bg.of w) (fun c2=>[cellE b5 (er.enc (s.get i.a)) 25,cellE b3 (bY.enc gx) 37,cellE b2 (bY.enc s) 37,cellE b1 (al.enc i) 36]) (fun c2=>[(0,.int .i64 c2)])) ?_ (fun c2 hi=>?_)
 ·skip
  refine zR5 ?_
  refine dT 3 29 32 (h2:=zR2 ?_)
  refine ab rfl ?_ ?_<;>intro h8
  ·refine zR4 ?_
   refine zz0 (ak rfl (wY _)) (zR2 ?_)
   apply gJ 4 36 40 (fun hF9 hF9'=>?_) ?_; rotate_right
   ·refine zR2 ?_
    refine zz5 hF9 (jA (n:=2147483648) rfl rfl) ?_
    exact zE
   refine zz0 (af rfl) ?_
   apply gJ 3 41 44 (fun hF10 hF10'=>?_) ?_; rotate_right
   ·refine zz5 hF10 (af rfl) (zz5 hF10 (jA (n:=2147483648) rfl rfl) ?_)
    exact zE
   refine zR2 ?_
   refine ab rfl ?_ ?_<;>intro h11
   ·refine zR9 ?_
    refine aL (e:=?_)
    rw [hrf]
    unfold nn
    (repeat' split)<;>first|(exfalso; first|(simp_all; done)|grind)|rfl
   refine nz (zz0 (aI (vs:=[(0,_),(1,_),(2,_),(3,_)]) rfl rfl (sA _ _ _ _)) ?_)
   refine bH zeroValue319 rfl (fun b12=>?_)
   refine zz8 rfl rfl sizeOf319 ?_
   refine zR5 ?_
   refine zz0 (gn rfl rfl underlying319 aH) ?_
   refine zz0 (ou (v:=.int .i64 (c1+4)) rfl (by repeat constructor) iW (N2 (by assumption) (by simp))) (zR3 ?_)
   refine aT _ (o:=(by show _=_; unfold nn; (repeat' split)<;>first|(exfalso; first|(simp_all; done)|grind)|rfl))
  refine zR2 ?_
  refine aT _ (o:=(by show _=_; unfold nn; (repeat' split)<;>first|(exfalso; first|(simp_all; done)|grind)|rfl))
 skip
 have hi2:=hi
 refine dZ (.of (ι:=VSet) (fun a1=>dz c2 (s.get i.a) i.imm=a1) (fun _=>Bg.of w) (fun a1=>[cellE b5 (er.enc a1) 25,cellE b3 (bY.enc gx) 37,cellE b2 (bY.enc s) 37,cellE b1 (al.enc i) 36]) (fun a1=>[])) ?_ (fun a1 hi=>?_)
 ·skip
  refine df ?_
  refine ab rfl ?_ ?_<;>intro h13
  ·refine dO 0 4 ah ?_
   refine ax (zT2 ?_)
   refine aw (ak rfl (kN i.imm)) ?_
   refine aw (ak rfl (uJ (s.get i.a) _)) (zT5 ?_)
   refine aT _ (o:=(by show _=_; unfold dz; (repeat' split)<;>first|(exfalso; first|(simp_all; done)|grind)|rfl))
  refine zR6 ?_
  refine ab rfl ?_ ?_<;>intro h14
  ·refine zR3 ?_
   refine zz0 (ak rfl (DK (s.get i.a) i.imm)) (zR4 ?_)
   refine aT _ (o:=(by show _=_; unfold dz; (repeat' split)<;>first|(exfalso; first|(simp_all; done)|grind)|rfl))
  refine zR6 ?_
  refine ab rfl ?_ ?_<;>intro h15
  ·refine bB (dO 0 5 ah ?_)
   refine ax (zT2 ?_)
   refine aw (gK (n:=1) rfl rfl) ?_
   refine aw (ak rfl (dy 0 (i.imm - 1) 1)) ?_
   refine aw (ak rfl (uJ (s.get i.a) _)) (zT7 ?_)
   refine zz0 (dq (n:=0) rfl rfl) (zR2 ?_)
   refine ab rfl ?_ ?_<;>intro h16
   ·refine cC (zz0 (ak rfl lR) (zR4 ?_))
    refine aT _ (o:=(by show _=_; unfold dz; (repeat' split)<;>first|(exfalso; first|(simp_all; done)|grind)|rfl))
   refine zR3 ?_
   refine aT _ (o:=(by show _=_; unfold dz; (repeat' split)<;>first|(exfalso; first|(simp_all; done)|grind)|rfl))
  refine zR6 ?_
  refine ab rfl ?_ ?_<;>intro h17
  ·refine dO 0 4 ah ?_
   refine ax (zT2 ?_)
   refine aw (ak rfl (dy 0 i.imm 1)) ?_
   refine aw (ak rfl (uJ (s.get i.a) _)) (zT5 ?_)
   refine aT _ (o:=(by show _=_; unfold dz; (repeat' split)<;>first|(exfalso; first|(simp_all; done)|grind)|rfl))
  refine zR6 ?_
  refine ab rfl ?_ ?_<;>intro h18
  ·refine dO 0 4 ah ?_
   refine ax (zT2 ?_)
   refine aw (ak rfl (dy i.imm 4294967295 1)) ?_
   refine aw (ak rfl (uJ (s.get i.a) _)) (zT5 ?_)
   refine aT _ (o:=(by show _=_; unfold dz; (repeat' split)<;>first|(exfalso; first|(simp_all; done)|grind)|rfl))
  refine zR6 ?_
  refine ab rfl ?_ ?_<;>intro h19
  ·refine bB (dO 0 5 ah ?_)
   refine ax (zT2 ?_)
   refine aw (gl (n:=1) rfl rfl) ?_
   refine aw (ak rfl (dy (i.imm+1) 4294967295 1)) ?_
   refine aw (ak rfl (uJ (s.get i.a) _)) (zT7 ?_)
   refine zz0 (dq (n:=4294967295) rfl rfl) (zR2 ?_)
   refine ab rfl ?_ ?_<;>intro h20
   ·refine cC (zz0 (ak rfl lR) (zR4 ?_))
    refine aT _ (o:=(by show _=_; unfold dz; (repeat' split)<;>first|(exfalso; first|(simp_all; done)|grind)|rfl))
   refine zR3 ?_
   refine aT _ (o:=(by show _=_; unfold dz; (repeat' split)<;>first|(exfalso; first|(simp_all; done)|grind)|rfl))
  refine zR3 ?_
  refine aT _ (o:=(by show _=_; unfold dz; (repeat' split)<;>first|(exfalso; first|(simp_all; done)|grind)|rfl))
 skip
 have hi3:=hi
 refine zR6 ?_
 refine zz0 (gn rfl rfl aA aj) ?_
 refine cY rfl rfl aj (by repeat constructor) (fQ hA (by simp) _) (by rfl) (fR hA (by simp)) (by first|exact Enc.one er _|exact List.all_eq_true.1 rfl) rfl (zR9 ?_)
 refine aL (e:=?_)
 rw [hrf,hi2,hi3]
 rfl
end Go.Proofs.YtiajjbhcpeadfaaGreat
