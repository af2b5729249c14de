/- Own rules and walks, part 2. -/
import Derived.Test.YtiajjbhcpeadfaaGreatB1
set_option linter.unusedSimpArgs false
set_option linter.unusedVariables false
set_option linter.unusedSectionVars false
set_option maxRecDepth 100000
set_option maxHeartbeats 16000000
namespace Go.HL
open Go Go.RowKit
section
variable {P:Program} {ops:Array Oper} {Q:Exit→Act→World→Prop} {N:Nat} {F:Bg} {L:List Ent} {M:Fr} {ty:TypeId} {pos:String} {after:Array Edge} {rest:List Oper} {d:Nat} {op:Op}
theorem te {α:Type} (E:Enc α) (x':α):∀ (l:List α) (i:Nat),i<l.length→(l.set i x').flatMap E.enc=splice (l.flatMap E.enc) (i * E.k) (E.enc x')
 | [],i,h=>by simp at h
 | y :: l,0,_=>by
  simp only [List.set_cons_zero,List.flatMap_cons,Nat.zero_mul,splice,List.take_zero,List.nil_append,Nat.zero_add,E.len]
  rw [List.drop_append_of_le_length (by rw [E.len]; exact Nat.le_refl _),List.drop_of_length_le (by rw [E.len]; exact Nat.le_refl _)]; rfl
 | y :: l,i+1,h=>by
  have ih:=te E x' l i (by simpa using h)
  simp only [List.set_cons_succ,List.flatMap_cons,ih,splice]
  have hl:(E.enc y).length=E.k:=E.len y
  rw [show (i+1) * E.k=(E.enc y).length+i * E.k by rw [hl,Nat.add_mul]; omega,List.take_length_add_append,show (E.enc y).length+i * E.k+(E.enc x').length=(E.enc y).length+(i * E.k+(E.enc x').length) by omega,List.drop_length_add_append]
  simp only [List.append_assoc]
theorem D9 {cs v:List Value} {o n:Nat} (h:o+v.length≤n) (hn:n≤cs.length):(splice cs o v).take n=splice (cs.take n) o v:=by
 apply List.ext_getElem?
 intro q
 simp only [splice,List.getElem?_take,List.getElem?_append,List.length_take,List.getElem?_drop,List.length_append]
 grind
theorem Ib {α:Type} {E:Enc α} {l:List α} (x':α) {x y:Operand} {t T:TypeId} {V v:Value} {i:Nat} {L':List Ent} {dst:Option Tmp} (hx:opv M x=some (.pointer (some ⟨bk V,ofs V+i * E.k,none⟩))) (hy:opv M y=some v)
  (hz:∀ w,(sizeOf t).run P w=.ok E.k w) (hput:Put (rowE V T E l) (rowE V T E (l.set i x')) L L') (hi:i<l.length) (hc:v.cells.toList=E.enc x') (hdst:dst=none)
  (K:Tr N F L' M (wpList P ops Q rest)):Tr N F L M (wpList P ops Q (⟨dst,.store t x y,ty,pos,after,none⟩ :: rest)):=by
 subst hdst
 intro a w ha hw
 refine wpList_plain rfl fun K' hK=>?_
 have hr:RowOK V T E l (V.ownBlock.bind (w.heap[·]?)):=hw.ent _ hput.mem
 rcases hr with ⟨_,rfl⟩|⟨gb,cap,cur,rfl,ho,hc1,hc2,hc3,hc4⟩
 ·simp at hi
 ·have ho':w.heap[gb]?=some (.cells cur T (0,0)):=ho
  have hlt:i * E.k+E.k≤l.length * E.k:=by rw [← Nat.succ_mul]; exact Nat.mul_le_mul_right _ hi
  have hle:l.length * E.k≤cur.size:=Nat.le_trans (Nat.mul_le_mul_right _ hc1) hc3
  have hs:v.cells.size=E.k:=by have:=congrArg List.length hc; rw [E.len] at this; simpa using this
  have hst:=yu (P:=P) (w:=w) (b:=gb) (o:=i * E.k) (cs:=cur.toList) (T:=T) (t:=t) (v:=v) (by simpa using ho') hz hs (by simp; omega) (by rw [hc]; intro u hu; exact E.one _ _ hu)
  simp only [bk,ofs,Nat.zero_add] at hx
  unfold Oper.wp
  simp only [execOp,ha.eval hx,ha.eval hy,Sem.run_bind,hst,Result.andThen_ok,Sem.run_pure,Oper.upon,Act.put]
  refine hK _ _ (K _ _ ha ?_)
  have e1:rowE (.slice (some ⟨gb,0,none⟩) l.length cap) T E l=⟨some gb,RowOK (.slice (some ⟨gb,0,none⟩) l.length cap) T E l⟩:=rfl
  have e2:rowE (.slice (some ⟨gb,0,none⟩) l.length cap) T E (l.set i x')=⟨some gb,RowOK (.slice (some ⟨gb,0,none⟩) l.length cap) T E (l.set i x')⟩:=rfl
  rw [e1,e2] at hput
  refine HpOK.set hw hput rfl rfl rfl (by simp) (Nat.le_refl _) (fun k _ hkb=>setRow_other w gb k _ hkb) ?_
  rw [setRow_heap w gb _ _ T (0,0) ho']
  have hll:(l.set i x').length=l.length:=by simp
  refine .inr ⟨gb,cap,_,by rw [hll],rfl,by rw [hll]; exact hc1,hc2,?_,?_⟩
  ·rw [List.size_toArray]
   simp only [splice,hc,List.length_append,List.length_take,List.length_drop,Array.length_toList,E.len]
   omega
  ·rw [hll,te E x' l i hi,← hc4,hc,List.toList_toArray]
   refine D9 ?_ ?_
   ·rw [E.len]; omega
   ·rw [Array.length_toList]; exact hle
theorem fN {α:Type} {E:Enc α} {l:List α} (x':α) {x y:Operand} {t T:TypeId} {V v:Value} {i:Nat} {L':List Ent} {dst:Option Tmp} (hx:opv M x=some (.pointer (some ⟨bk V,ofs V+i * E.k,none⟩))) (hy:opv M y=some v) (hz:∀ w,(sizeOf t).run P w=.ok E.k w) (K:Tr N F L' M (wpList P ops Q rest)) (hput:Put (rowE V T E l) (rowE V T E (l.set i x')) L L':=by repeat constructor) (hi:i<l.length:=by (try simp only [List.length_set]); omega) (hc:v.cells.toList=E.enc x':=by rfl) (hdst:dst=none:=by rfl):Tr N F L M (wpList P ops Q (⟨dst,.store t x y,ty,pos,after,none⟩ :: rest)):=Ib x' hx hy hz hput hi hc hdst K
theorem iC {α:Type} {E:Enc α} {l:List α} (R:List α→Prop) {V:Value} {T:TypeId} {f:FuncId} {xs:List Operand} {vs:List Value} {ts:Array TypeId} {v:Value} {L0:List Ent} (hx:l3 M xs=some vs)
  (he:∀ (args:Array Value) (w:World),(callFunc f args).run P w=.ok (.enter f args) w)
  (hc:∀ w,HpOK F (rowE V T E l :: L0) w→Calls P f vs.toArray w fun e w'=>e=.returned v∧∃ l',R l'∧Mut w w' V∧(rowE V T E l').holds w') (hd:Nat.ble (d+1) N=true)
  (K:∀ l',R l'→Tr N F (rowE V T E l' :: L0) ((d,v) :: M) (wpList P ops Q rest)) :
  Tr N F (rowE V T E l :: L0) M (wpList P ops Q (⟨some d,.call { callee:=.value (.func f),args:=xs.toArray,argTypes:=ts },ty,pos,after,none⟩ :: rest)):=by
 intro a w ha hw
 refine wpList_plain rfl fun K' hK=>?_
 have hr:(execOp a.eval ⟨some d,.call { callee:=.value (.func f),args:=xs.toArray,argTypes:=ts },ty,pos,after,none⟩).run P w=.ok (.enter f vs.toArray) w:=by
  have:=ha.evals hx
  simp [execOp,resolve,Deferred.ofValue,Act.eval,invoke,he,this]
 unfold Oper.wp
 rw [hr]
 refine (hc w hw).mono fun e w' ⟨h1,l',h0,h2,h3⟩=>?_
 subst h1
 exact hK _ _ (K l' h0 _ _ (ha.put (Nat.le_of_ble_eq_true hd)) (hw.mut (.here _) h2 h3))
theorem dQ {α:Type} {E:Enc α} {l l':List α} {V:Value} {T:TypeId} {L0:List Ent} {X:Act→World→Prop} (h:l=l') (K:Tr N F (rowE V T E l' :: L0) M X):Tr N F (rowE V T E l :: L0) M X:=h ▸ K
theorem xX {m:Int} {x y:Operand} {t u:TypeId} {g:Option (Nat × Bool)} {dst:Option Tmp} (hx:opv M x=some (.int .u64 m)) (hy:opv M y=some (.int .u64 1)) (hm:0≤m) :
  QS P N F L M ⟨dst,.binOp .shr t x y u,ty,pos,after,g⟩ (.int .u64 (m / 2)):=by
 have h:=wq (P:=P) (N:=N) (F:=F) (L:=L) (dst:=dst) (t:=t) (u:=u) (ty:=ty) (pos:=pos) (after:=after) (g:=g) hx hy (by decide)
 rw [show m.fdiv (2 ^ min (1:Int).toNat IntKind.u64.bits)=m / 2 from Int.fdiv_eq_ediv_of_nonneg _ (by decide)] at h
 exact h
theorem ic {X:Act→Prop} {v:Value} (h:∀ F,QS P N F [] M ⟨some d,op,ty,pos,after,none⟩ v) (hp:mB op=true) (hd:Nat.ble (d+1) N=true) (k:TrQ N ((d,v) :: M) (m9 P ops X rest)) :
  TrQ N M (m9 P ops X (⟨some d,op,ty,pos,after,none⟩ :: rest)):=fun a ha =>
 ⟨v,.inl ⟨by simp [Region.wanted],fun w=>wt (h (Bg.of w)) hp ha (HpOK.start w)⟩,k _ (ha.put (Nat.le_of_ble_eq_true hd))⟩
end
inductive Split:List Ent→List Ent→List Ent→Prop
 | nil (L:List Ent):Split L [] L
 | cons {e:Ent} {L L1 Lo R:List Ent} (h:Del e L L1) (k:Split L1 Lo R):Split L (e :: Lo) R
theorem Split.perm {L Lo R:List Ent} (h:Split L Lo R):L.Perm (Lo ++ R):=by
 induction h with
 | nil L=>exact .refl _
 | cons h _ ih=>exact h.perm.trans (ih.cons _)
structure OwnAt (w:World) (L:List Ent):Prop where
 ent:∀ e∈L,e.holds w
 nodup:(cx L).Nodup
 lt:∀ b∈cx L,b<w.heap.size
theorem HpOK.ownAt {F:Bg} {L:List Ent} {w:World} (h:HpOK F L w):OwnAt w L:=⟨h.ent,h.nodup,h.lt⟩
theorem OwnAt.left {w:World} {A B:List Ent} (h:OwnAt w (A ++ B)):OwnAt w A:=by
 have hb:cx (A ++ B)=cx A ++ cx B:=List.filterMap_append
 exact ⟨fun e he=>h.ent e (List.mem_append_left _ he),(List.nodup_append.1 (hb ▸ h.nodup)).1,fun b m=>h.lt b (by rw [hb]; exact List.mem_append_left _ m)⟩
def Bg.lessB (w:World) (bs:List Nat) (d:Nat):Bg:=⟨fun b=>if b∈bs then none else w.heap[b]?,w.heap.size,d,w.os,w.tape,w.output,0,Nat.zero_le _⟩
theorem OwnAt.start {w:World} {L:List Ent} {d:Nat} (h:OwnAt w L) (hd:d≤w.drawn):HpOK (Bg.lessB w (cx L) d) L w:=by
 refine ⟨rfl,rfl,rfl,Nat.le_refl _,hd,fun b o e=>?_,h.ent,h.nodup,h.lt,fun b m=>⟨?_,Nat.zero_le _⟩⟩
 ·have e':(if b∈cx L then none else w.heap[b]?)=some o:=e
  split at e'
  ·cases e'
  ·exact e'
 ·show (if b∈cx L then none else w.heap[b]?)=none
  rw [if_pos m]
theorem HpOK.lessB {F:Bg} {L Lo R:List Ent} {w:World} {d:Nat} (h:HpOK F L w) (hs:Split L Lo R):Hp.le F.blk (Bg.lessB w (cx Lo) d).blk:=fun b o e=>by
 show (if b∈cx Lo then none else w.heap[b]?)=some o
 rw [if_neg,h.bg b o e]
 intro m
 have hb:cx (Lo ++ R)=cx Lo ++ cx R:=List.filterMap_append
 have:=(h.perm hs.perm.symm).sep b (by rw [hb]; exact List.mem_append_left _ m)
 rw [this.1] at e; cases e
structure Upd (d:Nat) (w w':World) (bs:List Nat) (Ls:List Ent):Prop where
 os:w'.os=w.os
 tape:w'.tape=w.tape
 output:w'.output=w.output
 size:w.heap.size≤w'.heap.size
 dr:d≤w'.drawn
 block:∀ k,k<w.heap.size→k ∉ bs→w'.heap[k]?=w.heap[k]?
 ent:∀ e∈Ls,e.holds w'
 nodup:(cx Ls).Nodup
 lt:∀ b∈cx Ls,b<w'.heap.size
 own:∀ b∈cx Ls,b∈bs∨w.heap.size≤b
theorem HpOK.upd {F:Bg} {L Ls:List Ent} {w w':World} {bs:List Nat} {d:Nat} (h:HpOK F L w') (hF:(Bg.lessB w bs d).le F) (hs:Pick L Ls):Upd d w w' bs Ls:=by
 have h':=hs.heap h
 refine ⟨h.os.trans hF.os,h.tape.trans hF.tape,h.out.trans hF.out,Nat.le_trans hF.n h.n,by have:=h.dr; rw [hF.dr] at this; exact this,fun k hk hn=>?_,h'.ent,h'.nodup,h'.lt,fun b hb=>?_⟩
 ·have e:(Bg.lessB w bs d).blk k=some w.heap[k]:=by
   show (if k∈bs then none else w.heap[k]?)=_
   rw [if_neg hn]; simp [hk]
  rw [h.bg k _ (hF.blk k _ e)]; simp [hk]
 ·by_cases hm:b∈bs
  ·exact .inl hm
  ·right
   rcases Nat.lt_or_ge b w.heap.size with hlt|hge
   ·have e:(Bg.lessB w bs d).blk b=some w.heap[b]:=by
     show (if b∈bs then none else w.heap[b]?)=_
     rw [if_neg hm]; simp [hlt]
    have:=(h'.sep b hb).1
    rw [hF.blk b _ e] at this; cases this
   ·exact hge
theorem HpOK.updated {F:Bg} {Lo R Ls:List Ent} {w w':World} {d:Nat} (h:HpOK F (Lo ++ R) w) (hd:F.dr≤d) (u:Upd d w w' (cx Lo) Ls):HpOK F (Ls ++ R) w':=by
 have hb:cx (Lo ++ R)=cx Lo ++ cx R:=List.filterMap_append
 have hb':cx (Ls ++ R)=cx Ls ++ cx R:=List.filterMap_append
 have hnd:=List.nodup_append.1 (hb ▸ h.nodup)
 have notR:∀ b∈cx R,b ∉ cx Lo:=fun b hr hl=>hnd.2.2 b hl b hr rfl
 have ltR:∀ b∈cx R,b<w.heap.size:=fun b hr=>h.lt b (by rw [hb]; exact List.mem_append_right _ hr)
 refine ⟨u.os.trans h.os,u.tape.trans h.tape,u.output.trans h.out,Nat.le_trans h.n u.size,Nat.le_trans hd u.dr,fun b o e=>?_,fun e he=>?_,?_,fun b m=>?_,fun b m=>?_⟩
 ·have h1:=h.bg b o e
  rw [u.block b (Array.getElem?_eq_some_iff.1 h1).1 (fun m=>by
   have:=(h.sep b (by rw [hb]; exact List.mem_append_left _ m)).1
   rw [this] at e; cases e)]
  exact h1
 ·rcases List.mem_append.1 he with he|he
  ·exact u.ent e he
  ·have hh:=h.ent e (List.mem_append_right _ he)
   unfold Ent.holds at *
   cases hk:e.blk with
   | none=>rw [hk] at hh; exact hh
   | some b =>
    rw [hk] at hh
    simp only [Option.bind_some] at *
    have hm:b∈cx R:=List.mem_filterMap.2 ⟨e,he,hk⟩
    rw [u.block b (ltR b hm) (notR b hm)]; exact hh
 ·rw [hb',List.nodup_append]
  refine ⟨u.nodup,hnd.2.1,fun a ha b hr e=>?_⟩
  subst e
  rcases u.own a ha with m|m
  ·exact notR a hr m
  ·have:=ltR a hr; omega
 ·rw [hb'] at m
  rcases List.mem_append.1 m with m|m
  ·exact u.lt b m
  ·exact Nat.lt_of_lt_of_le (ltR b m) u.size
 ·rw [hb'] at m
  rcases List.mem_append.1 m with m|m
  ·rcases u.own b m with q|q
   ·exact h.sep b (by rw [hb]; exact List.mem_append_left _ q)
   ·refine ⟨?_,Nat.le_trans (Nat.le_trans F.lo_le h.n) q⟩
    cases hF:F.blk b with
    | none=>rfl
    | some o =>
     have:=h.bg _ _ hF
     have:=(Array.getElem?_eq_some_iff.1 this).1
     omega
  ·exact h.sep b (by rw [hb]; exact List.mem_append_right _ m)
section
variable {P:Program} {ops:Array Oper} {Q:Exit→Act→World→Prop} {N:Nat} {F:Bg} {L:List Ent} {M:Fr} {ty:TypeId} {pos:String} {after:Array Edge} {rest:List Oper} {d:Nat}
theorem tN {L:List Ent} {bs:List Nat} {f:FuncId} {fn:Func} {c:Code} {args:List Value} {w:World} {R:Ending→World→Prop} {dd:Nat} (ho:OwnAt w L) (hbs:cx L=bs) (hdd:dd≤w.drawn) (hf:P.funcs[f]?=some fn) (hb:fn.body=some c) (hN:fn.ntmps=N) (hle:Nat.ble args.length N=true)
  (h:Tr N (Bg.lessB w bs dd) L (lN 0 args) (c.wp P (bodyPost P fn R))) (hN0:Nat.ble N mk0=true:=by rfl):Calls P f args.toArray w R:=by
 subst hbs
 exact calls_of_wp hf hb (h _ w (ob (by rw [hN]; simp) hle hN0) (ho.start hdd))
theorem Ij {ι:Type} (φ:ι→Value) (Lo:List Ent) (Ls:ι→List Ent) {ok:ι→Prop} {f:FuncId} {xs:List Operand} {vs:List Value} {ts:Array TypeId} {R:List Ent} {dd:World→Nat} {dst:Option Tmp} (hx:l3 M xs=some vs)
  (he:∀ (args:Array Value) (w:World),(callFunc f args).run P w=.ok (.enter f args) w) (hs:Split L Lo R) (hdd:∀ w,HpOK F L w→F.dr≤dd w)
  (hc:∀ w,HpOK F L w→Calls P f vs.toArray w fun e w'=>∃ i,e=.returned (φ i)∧Upd (dd w) w w' (cx Lo) (Ls i)∧ok i)
  (K:∀ i,ok i→∀ a w,FrOK N M a→HpOK F (Ls i ++ R) w→wpList P ops Q rest (a.put dst (φ i)) w) :
  Tr N F L M (wpList P ops Q (⟨dst,.call { callee:=.value (.func f),args:=xs.toArray,argTypes:=ts },ty,pos,after,none⟩ :: rest)):=by
 intro a w ha hw
 refine wpList_plain rfl fun K' hK=>?_
 have hr:(execOp a.eval ⟨dst,.call { callee:=.value (.func f),args:=xs.toArray,argTypes:=ts },ty,pos,after,none⟩).run P w=.ok (.enter f vs.toArray) w:=by
  have:=ha.evals hx
  simp [execOp,resolve,Deferred.ofValue,Act.eval,invoke,he,this]
 unfold Oper.wp
 rw [hr]
 refine (hc w hw).mono fun e w' ⟨i,h1,h2,h3⟩=>?_
 subst h1
 exact hK _ _ (K i h3 _ _ ha ((hw.perm hs.perm.symm).updated (hdd w hw) h2))
theorem jy {ι:Type} (φ:ι→Value) (Lo:List Ent) (Ls:ι→List Ent) {ok:ι→Prop} {f:FuncId} {xs:List Operand} {vs:List Value} {ts:Array TypeId} {R:List Ent} {dd:World→Nat} (hx:l3 M xs=some vs)
  (he:∀ (args:Array Value) (w:World),(callFunc f args).run P w=.ok (.enter f args) w) (hs:Split L Lo R) (hdd:∀ w,HpOK F L w→F.dr≤dd w)
  (hc:∀ w,HpOK F L w→Calls P f vs.toArray w fun e w'=>∃ i,e=.returned (φ i)∧Upd (dd w) w w' (cx Lo) (Ls i)∧ok i) (hd:Nat.ble (d+1) N=true)
  (K:∀ i,ok i→Tr N F (Ls i ++ R) ((d,φ i) :: M) (wpList P ops Q rest)) :
  Tr N F L M (wpList P ops Q (⟨some d,.call { callee:=.value (.func f),args:=xs.toArray,argTypes:=ts },ty,pos,after,none⟩ :: rest)) :=
 Ij φ Lo Ls hx he hs hdd hc fun i hi a w ha hw=>K i hi _ _ (ha.put (Nat.le_of_ble_eq_true hd)) hw
end
def Bg.of0 (w:World):Bg:={ Bg.of w with dr:=0 }
theorem HpOK.start0 (w:World):HpOK (Bg.of0 w) [] w :=
 ⟨rfl,rfl,rfl,Nat.le_refl _,Nat.zero_le _,fun _ _ h=>h,fun _ h=>(by cases h),(by simp [cx]),fun _ h=>(by simp [cx] at h),fun _ h=>(by simp [cx] at h)⟩
theorem HpOK.below0 {w0 w:World} {F:Bg} {L:List Ent} (h:HpOK F L w) (hF:(Bg.of0 w0).le F):Below w0.heap.size w0 w :=
 ⟨h.os.trans hF.os,h.tape.trans hF.tape,h.out.trans hF.out,Nat.le_trans hF.n h.n,fun k hk=>by
  have e:(Bg.of0 w0).blk k=some w0.heap[k]:=by simp [Bg.of0,Bg.of,hk]
  rw [h.bg k _ (hF.blk k _ e)]; simp [hk]⟩
def CellsOnly (L:List Ent):Prop:=∀ e∈L,∀ b,e.blk=some b→∀ o,e.ok (some o)→o.isCells=true
theorem CellsOnly.nil:CellsOnly []:=fun _ h=>by cases h
theorem CellsOnly.cell {b:Nat} {cs:List Value} {T:TypeId} {L:List Ent} (h:CellsOnly L):CellsOnly (cellE b cs T :: L):=fun e he=>by
 rcases List.mem_cons.1 he with rfl|he
 ·intro _ _ o ho; cases ho; rfl
 ·exact h e he
theorem CellsOnly.row {α:Type} {V:Value} {T:TypeId} {E:Enc α} {l:List α} {L:List Ent} (h:CellsOnly L):CellsOnly (rowE V T E l :: L):=fun e he=>by
 rcases List.mem_cons.1 he with rfl|he
 ·intro b hb o ho
  rcases ho with ⟨rfl,_⟩|⟨g,cap,cur,_,ho,_⟩
  ·cases hb
  ·cases ho; rfl
 ·exact h e he
theorem xK {F:Bg} {L:List Ent} {w:World} (h:HpOK F L w) (hc:CellsOnly L) {b:Nat} (hb:b∈cx L):∃ o,w.heap[b]?=some o∧o.isCells=true:=by
 obtain ⟨e,he,hk⟩:=List.mem_filterMap.1 hb
 have hlt:=h.lt b hb
 have hh:=h.ent e he
 unfold Ent.holds at hh
 rw [hk,Option.bind_some,Array.getElem?_eq_getElem hlt] at hh
 exact ⟨_,Array.getElem?_eq_getElem hlt,hc e he b hk _ hh⟩
theorem HpOK.turned {F:Bg} {L:List Ent} {w w':World} {row:Option Nat} {B:Nat} (h:HpOK F L w) (hc:CellsOnly L) (h0:F.dr=0) (hB:∀ b o,F.blk b=some o→b<B) (hg:w.grownBy w' row)
  (hr:∀ r,row=some r→B≤r∧∃ o:Obj,w.heap[r]?=some o∧o.isCells=false):HpOK F L w':=by
 refine ⟨hg.os.trans h.os,hg.tape.trans h.tape,hg.output.trans h.out,Nat.le_trans h.n hg.size,by rw [h0]; exact Nat.zero_le _,fun b o e=>?_,fun e he=>?_,h.nodup,fun b hm=>Nat.lt_of_lt_of_le (h.lt b hm) hg.size,h.sep⟩
 ·have:=h.bg b o e
  rw [hg.block b (Array.getElem?_eq_some_iff.1 this).1 (fun e2=>by have:=(hr b e2.symm).1; have:=hB b o e; omega)]; exact this
 ·have hh:=h.ent e he
  unfold Ent.holds at *
  cases hk:e.blk with
  | none=>rw [hk] at hh; exact hh
  | some b =>
   rw [hk] at hh
   simp only [Option.bind_some] at *
   have hb:b∈cx L:=List.mem_filterMap.2 ⟨e,he,hk⟩
   obtain ⟨o,ho,hoc⟩:=xK h hc hb
   rw [hg.block b (h.lt b hb) (fun e2=>by
    obtain ⟨_,o2,ho2,hn⟩:=hr b e2.symm
    rw [ho] at ho2; cases ho2; rw [hoc] at hn; cases hn)]
   exact hh
theorem HpOK.weaken {F G:Bg} {L:List Ent} {w:World} (h:HpOK G L w) (hF:F.le G):HpOK F L w :=
 ⟨h.os.trans hF.os,h.tape.trans hF.tape,h.out.trans hF.out,Nat.le_trans hF.n h.n,by rw [← hF.dr]; exact h.dr,fun b o e=>h.bg b o (hF.blk b o e),h.ent,h.nodup,h.lt,fun b hb=>by
  refine ⟨?_,by rw [← hF.lo]; exact (h.sep b hb).2⟩
  cases e:F.blk b with
  | none=>rfl
  | some o =>
   have h2:=hF.blk b o e
   rw [(h.sep b hb).1] at h2
   cases h2⟩
theorem HpOK.freezeN {F:Bg} {L:List Ent} {w:World} (h:HpOK F L w):∃ F',F.le F'∧HpOK F' L w∧F'.n=w.heap.size∧∀ b o,b ∉ cx L→w.heap[b]?=some o→F'.blk b=some o:=by
 refine ⟨{ F with blk:=fun b=>if b∈cx L then none else w.heap[b]?,n:=w.heap.size,lo_le:=Nat.le_trans F.lo_le h.n },⟨fun b o e=>?_,h.n,rfl,rfl,rfl,rfl,rfl⟩,⟨h.os,h.tape,h.out,Nat.le_refl _,h.dr,fun b o e=>?_,h.ent,h.nodup,h.lt,fun b hb=>⟨?_,(h.sep b hb).2⟩⟩,rfl,fun b o hb e=>?_⟩
 ·have hn:b ∉ cx L:=fun hb=>by rw [(h.sep b hb).1] at e; cases e
  show (if b∈cx L then none else w.heap[b]?)=some o
  rw [if_neg hn]; exact h.bg b o e
 ·have e':(if b∈cx L then none else w.heap[b]?)=some o:=e
  split at e'
  ·cases e'
  ·exact e'
 ·show (if b∈cx L then none else w.heap[b]?)=none
  rw [if_pos hb]
 ·show (if b∈cx L then none else w.heap[b]?)=some o
  rw [if_neg hb]; exact e
section
variable {P:Program} {ops:Array Oper} {Q:Exit→Act→World→Prop} {N:Nat} {F:Bg} {L:List Ent} {M:Fr} {l0 n:Nat}
def xF (l:List Oper):Bool:=l.all fun o=>match o.op with|.defer _=>false|_=>true
theorem Oper.wp_in {o:Oper} {a:Act} {w:World} {K K':Act→World→Prop} (hd:∀ c,o.op≠.defer c) (hK:∀ a w,K a w→K' a w) (h:o.wp P a w K Q):o.wpIn (Fence.wide.inRound l0) n P a w K' Q:=by
 have h:=Oper.wp_mono hK h
 refine ⟨fun _ _=>trivial,?_⟩
 rw [Oper.semAt_eq _ _ _ hd]
 unfold Oper.wp at h
 cases hr:(execOp a.eval o).run P w with
 | ok nx w' =>
  rw [hr] at h
  cases nx with
  | value v=>exact h
  | skip=>exact h
  | defer d=>exact h
  | enter f args =>
   refine ⟨fun h=>?_,CallsIn.inRound l0 (callsIn_wide.2 h)⟩
   cases h
  | row r args =>
   refine ⟨fun h=>?_,fun c cs _=>?_⟩
   ·cases h
   ·obtain ⟨v,w',r,s⟩:=h c cs
    exact ⟨v,w',r,(stepsIn_wide.2 s:StepsIn (Machine.fenced P Fence.wide) P _ _)⟩
  | _=>exact h.elim
 | halt e w' =>
  rw [hr] at h
  cases e<;>first|exact h|exact h.elim
theorem ru (hno:¬ LetsOut Q):∀ (l:List Oper) (a:Act) (w:World),xF l=true→wpList P ops Q l a w→wpListIn (Fence.wide.inRound l0) n P ops Q l a w
 | [],_,_,_,h=>h
 | o :: rest,a,w,hd,h=>by
  have hd1:(∀ c,o.op≠.defer c)∧xF rest=true:=by
   simp only [xF,List.all_cons,Bool.and_eq_true] at hd ⊢
   refine ⟨fun c e=>?_,hd.2⟩
   rw [e] at hd; simp at hd
  unfold wpList at h
  unfold wpListIn
  split
  ·rename_i hw
   rw [if_pos hw] at h
   rcases h with h|h
   ·exact Oper.wp_in hd1.1 (fun a w k=>ru hno rest a w hd1.2 k) h
   ·exact absurd h.2 hno
  ·rename_i hw
   rw [if_neg hw] at h
   exact ⟨fun _ _=>trivial,ru hno rest _ w hd1.2 h⟩
theorem QM {id:Nat} (h:¬ LetsOut Q):¬ LetsOut (Exit.inBlock id Q):=h
theorem Mm {K:Act→World→Prop}:¬ LetsOut (fun e a w=>e=Exit.normal∧K a w):=fun ⟨_,_,h,_⟩=>by cases h
theorem If {id:Nat} {l:List Oper} (hno:¬ LetsOut Q) (hd:xF l=true) (h:Tr N F L M (wpList P l.toArray Q l)):Tr N F L M ((Code.region id l.toArray false).wpIn (Fence.wide.inRound l0) n P Q) :=
 fun a w ha hw=>wpIn_region_lit (ru hno l a w hd (h a w ha hw))
theorem Ik {id:Nat} {c:Code} (h:Tr N F L M (c.wpIn (Fence.wide.inRound l0) n P (Exit.inBlock id Q))):Tr N F L M ((Code.block id c).wpIn (Fence.wide.inRound l0) n P Q):=fun a w ha hw=>wpIn_block (h a w ha hw)
end
def tO (M:Fr):Fr:=M.filter fun e=>Nat.blt e.1 mk0
theorem jW:∀ (M:Fr) (t:Nat),look (tO M) t=if t<mk0 then look M t else none
 | [],t=>by simp [tO,look]
 | (d,v) :: M,t=>by
  have ih:=jW M t
  unfold tO at *
  rw [List.filter_cons]
  by_cases h:d<mk0
  ·rw [if_pos (by simp only [Nat.blt,Nat.ble_eq]; omega),cL,cL,ih]
   by_cases e:d=t
   ·subst e; simp [h]
   ·simp [e]
  ·rw [if_neg (by simp only [Nat.blt,Nat.ble_eq]; omega),ih,cL]
   by_cases e:d=t
   ·subst e; simp [h]
   ·simp [e]
def Mt (D:Nat):Ent:=⟨some D,fun o=>o=some (.deferred (some []))⟩
theorem FrOK.marked {N D:Nat} {M:Fr} {a:Act} (h:FrOK N M a) (h0:a.defers=[]):FrOK N ((mk0+1+D,undef) :: tO M) { a with defers:={ target:=.collected D,args:=#[] } :: a.defers }:=by
 refine ⟨fun e=>?_,fun D' e=>?_,h.size,h.lt,fun t v e=>?_⟩
 ·rw [cL,if_neg (by omega),jW,if_neg (by omega)] at e; cases e
 ·rw [cL,jW,if_neg (c:=mk0+1+D'<mk0) (by omega)] at e
  split at e
  ·obtain rfl:D=D':=by omega
   show _ :: a.defers=_
   rw [h0]
  ·cases e
 ·rw [cL,jW] at e
  split at e
  ·rename_i e2
   cases e
   rw [← e2,Array.getD_eq_getD_getElem?,Array.getElem?_eq_none (by have h1:a.tmps.size=N:=h.size; have:=h.lt; show a.tmps.size≤_; omega)]; rfl
  ·split at e
   ·exact h.val t v e
   ·cases e
theorem rR:∀ (A B:Fr) (t:Nat),look (A ++ B) t=match look A t with|some v=>some v|none=>look B t
 | [],B,t=>by simp [look]
 | (d,v) :: A,B,t=>by
  rw [List.cons_append,cL,cL]
  split
  ·rfl
  ·exact rR A B t
theorem Kd {M:Fr} {D:Nat}:look (tO M ++ [(mk0+1+D,undef)]) (mk0+1+D)=some undef:=by
 rw [rR,jW,if_neg (by omega)]
 show look [(mk0+1+D,undef)] (mk0+1+D)=_
 rw [cL,if_pos rfl]
theorem FrOK.marked' {N D:Nat} {M:Fr} {a:Act} (h:FrOK N M a) (h0:a.defers=[]):FrOK N (tO M ++ [(mk0+1+D,undef)]) { a with defers:={ target:=.collected D,args:=#[] } :: a.defers } :=
 (h.marked h0).sub fun t v e=>by
  rw [rR,jW] at e
  rw [cL,jW]
  by_cases ht:t<mk0
  ·rw [if_pos ht] at e ⊢
   rw [if_neg (by omega)]
   cases hl:look M t with
   | some u=>rw [hl] at e; exact e
   | none =>
    rw [hl] at e
    have e':look [(mk0+1+D,undef)] t=some v:=e
    rw [cL,if_neg (by omega)] at e'
    cases e'
  ·rw [if_neg ht] at e
   have e':look [(mk0+1+D,undef)] t=some v:=e
   rw [cL] at e'
   split at e'
   ·rename_i q
    rw [if_pos q]; exact e'
   ·cases e'
section
variable {P:Program} {Q:Exit→Act→World→Prop} {N:Nat} {F:Bg} {L:List Ent} {M:Fr}
end
section
variable {P:Program} {N:Nat} {F:Bg} {L:List Ent} {M:Fr}
end
section
variable {P:Program} {Q:Exit→Act→World→Prop} {N:Nat} {F:Bg} {L:List Ent} {M:Fr}
def IG (Q:Exit→Act→World→Prop):Exit→Act→World→Prop:=fun e a w=>e=.ret∧Q .ret a w
theorem P1 {f:FuncId} {fn:Func} {c:Code} {args:List Value} {w:World} {R:Ending→World→Prop} (hf:P.funcs[f]?=some fn) (hb:fn.body=some c) (hN:fn.ntmps=N) (hle:Nat.ble args.length N=true)
  (h:Tr N (Bg.of0 w) [] (lN 0 args) (c.wp P (IG (bodyPostM Fence.wide 3 P fn R)))) (hN0:Nat.ble N mk0=true:=by rfl):Calls P f args.toArray w R :=
 (callsIn_wide (n:=3)).1 (callsIn_of_wp_marks hf hb trivial (wpIn_wide.2 (Code.wp_mono (fun e a w q=>by obtain ⟨rfl,q⟩:=q; exact q) (h _ w (ob (by rw [hN]; simp) hle hN0) (HpOK.start0 w)))))
theorem lP {f:FuncId} {fn:Func} {c:Code} {args:List Value} {w:World} {R:Ending→World→Prop} (hf:P.funcs[f]?=some fn) (hb:fn.body=some c) (hN:fn.ntmps=N) (hle:Nat.ble args.length N=true)
  (h:Tr N (Bg.of0 w) [] (lN 0 args) (c.wp P (bodyPost P fn R))) (hN0:Nat.ble N mk0=true:=by rfl):Calls P f args.toArray w R :=
 calls_of_wp hf hb (h _ w (ob (by rw [hN]; simp) hle hN0) (HpOK.start0 w))
theorem HpOK.cellNew {F:Bg} {L:List Ent} {w w':World} {b:Nat} {cs:List Value} {T:TypeId} (h:HpOK F L w') (hl:F.lo=w.heap.size) (hm:cellE b cs T∈L):CellsIn (Ba w w') b cs:=by
 have he:w'.heap[b]?=some (.cells cs.toArray T (0,0)):=h.ent _ hm
 have hb:=(h.sep b (List.mem_filterMap.2 ⟨_,hm,rfl⟩)).2
 refine ⟨cs.toArray,T,(0,0),?_,fun j v hv=>by simpa using hv⟩
 show (if b<w.heap.size then none else w'.heap[b]?)=_
 rw [if_neg (by omega)]; exact he
theorem HpOK.grown {Ws w:World} (h:HpOK (Bg.of0 Ws) [] w):Ws.grownBy w none :=
 have b:=h.below0 (Bg.le.refl _)
 ⟨b.os,b.tape,b.output,b.size,fun k hk _=>b.block k hk⟩
theorem lD {n:Nat} {ops:Array Oper} {o:Oper} {rest:List Oper} {a:Act} {w:World} {v:Value} (hg:o.guard=none) (hr:(execOp a.eval o).run P w=.ok (.value v) w) (h:wpListIn Fence.wide n P ops Q rest (a.put o.dst v) w):wpListIn Fence.wide n P ops Q (o :: rest) a w :=
 wpListIn_plain hg fun K hK=>by
  refine ⟨fun _ _=>trivial,?_⟩
  show o.uponIn _ _ _ _ _ _ ((execOp a.eval o).run P w)
  rw [hr]; exact hK _ _ h
theorem Gk {α:Type} (enc:α→Value) {J Jx:List α→World→Prop} {Kp:World→World→Prop} {l B:Nat} {Ws:World} {pre:List α} {x:α} {id f y d0 d1 d2 d3:Nat} {t0 t1 t2 t3:TypeId} {p0 p1 p2 p3:String} {a0 a1 a2 a3:Array Edge} {ts:Array TypeId}
  (hf:look M f=some (.func (.yield l) #[] #[])) (hy:look M y=some (enc x)) (hne:Nat.beq d0 y=false) (h01:Nat.beq d1 d0=false) (hJ:J pre Ws) (hA:AbidesFrom B J)
  (hY:∀ W1,J pre W1→YieldAt Fence.wide 1 P l #[enc x] W1 fun e W'=>(e=.returned (.bool true)∧J (pre ++ [x]) W'∧Kp W1 W')∨(e=.returned (.bool false)∧Jx (pre ++ [x]) W'))
  (hd0:Nat.ble (d0+1) N=true) (hd1:Nat.ble (d1+1) N=true) (hd2:Nat.ble (d2+1) N=true) (hd3:Nat.ble (d3+1) N=true)
  (K1:∀ W1 W',HpOK (Bg.of0 Ws) [] W1→Kp W1 W'→J (pre ++ [x]) W'→Tr N (Bg.of0 W') [] ((d3,.bool false) :: (d2,.bool true) :: (d1,enc x) :: (d0,.func (.yield l) #[] #[]) :: M) (Q .normal))
  (K2:∀ W',Jx (pre ++ [x]) W'→Tr N (Bg.of0 W') [] ((d3,.bool true) :: (d2,.bool false) :: (d1,enc x) :: (d0,.func (.yield l) #[] #[]) :: M) (Q .normal)) :
  Tr N (Bg.of0 Ws) [] M ((Code.region id #[⟨some d0,.move (.tmp f),t0,p0,a0,none⟩,⟨some d1,.move (.tmp y),t1,p1,a1,none⟩,⟨some d2,.call { callee:=.value (.tmp d0),args:=#[.tmp d1],argTypes:=ts },t2,p2,a2,none⟩,⟨some d3,.unOp .not 4 (.tmp d2),t3,p3,a3,none⟩] false).wp P Q):=by
 intro a w ha hw
 have hj:J pre w:=hA pre Ws w none hJ hw.grown (fun r e=>by cases e)
 obtain ⟨fn,tmps,assign,body,hy1,hR⟩:=hY w hj
 have ne1:d0≠y:=Nat.ne_of_beq_eq_false hne
 have ne2:d1≠d0:=Nat.ne_of_beq_eq_false h01
 have b0:=Nat.le_of_ble_eq_true hd0
 have b1:=Nat.le_of_ble_eq_true hd1
 have b2:=Nat.le_of_ble_eq_true hd2
 have b3:=Nat.le_of_ble_eq_true hd3
 have ha1:=ha.put (v:=.func (.yield l) #[] #[]) b0
 have ha2:=ha1.put (v:=enc x) b1
 refine (wpIn_wide (n:=2)).1 (wpIn_region_lit (l:=[_,_,_,_]) ?_)
 refine lD rfl (wt (af (N:=N) (F:=Bg.of0 w) (L:=[]) (M:=M) (x:=.tmp f) (v:=.func (.yield l) #[] #[]) (by show look _ f=_; exact hf)) rfl ha (HpOK.start0 w)) ?_
 refine lD rfl (wt (af (N:=N) (F:=Bg.of0 w) (L:=[]) (M:=(d0,.func (.yield l) #[] #[]) :: M) (x:=.tmp y) (v:=enc x) (by show look _ y=_; rw [cL,if_neg ne1]; exact hy)) rfl ha1 (HpOK.start0 w)) ?_
 have hv0:((a.put (some d0) (.func (.yield l) #[] #[])).put (some d1) (enc x)).eval (.tmp d0)=.func (.yield l) #[] #[]:=ha2.eval (x:=.tmp d0) (by show look _ d0=_; rw [cL,if_neg ne2,cL,if_pos rfl])
 have hv1:((a.put (some d0) (.func (.yield l) #[] #[])).put (some d1) (enc x)).eval (.tmp d1)=enc x:=ha2.eval (x:=.tmp d1) (by show look _ d1=_; rw [cL,if_pos rfl])
 refine wpListIn_plain rfl fun K hK=>?_
 refine ⟨fun _ _=>trivial,?_⟩
 have hcall:(execOp ((a.put (some d0) (.func (.yield l) #[] #[])).put (some d1) (enc x)).eval ⟨some d2,.call { callee:=.value (.tmp d0),args:=#[.tmp d1],argTypes:=ts },t2,p2,a2,none⟩).run P w=.ok (.round l fn tmps assign body) w:=by
  simp [execOp,resolve,Deferred.ofValue,hv0,hv1,invoke,hy1]
 rw [show ∀ ρ o,Oper.semAt Fence.wide.round ρ o=execOp ρ o from fun _ _=>rfl,hcall]
 refine ⟨fun h=>?_,hR.mono ?_⟩
 ·cases h
 ·rintro e W' (⟨rfl,hJ',hk⟩|⟨rfl,hJx⟩)
  ·have ha3:=ha2.put (v:=.bool true) b2
   refine hK _ _ (lD (v:=.bool false) rfl ?_ ?_)
   ·exact wt (tZ (N:=N) (F:=Bg.of0 W') (L:=[]) (M:=(d2,.bool true) :: (d1,enc x) :: (d0,.func (.yield l) #[] #[]) :: M) (x:=.tmp d2) (b:=true) (by show look _ d2=_; rw [cL,if_pos rfl])) rfl ha3 (HpOK.start0 W')
   ·exact K1 w W' hw hk hJ' _ W' (ha3.put b3) (HpOK.start0 W')
  ·have ha3:=ha2.put (v:=.bool false) b2
   refine hK _ _ (lD (v:=.bool true) rfl ?_ ?_)
   ·exact wt (tZ (N:=N) (F:=Bg.of0 W') (L:=[]) (M:=(d2,.bool false) :: (d1,enc x) :: (d0,.func (.yield l) #[] #[]) :: M) (x:=.tmp d2) (b:=false) (by show look _ d2=_; rw [cL,if_pos rfl])) rfl ha3 (HpOK.start0 W')
   ·exact K2 W' hJx _ W' (ha3.put b3) (HpOK.start0 W')
end
section
open Classical
end
section
variable {P:Program} {N:Nat} {F:Bg} {L:List Ent} {M:Fr}
theorem zP {b:Nat} {cs:List Value} {T:TypeId} {L1:List Ent} {X:Act→World→Prop} (hm:Del (cellE b cs T) L L1) (K:∀ F',F.le F'→CellsIn F'.blk b cs→Tr N F' L1 M X):Tr N F L M X:=by
 intro a w ha hw
 have hf:=hw.front hm
 have h1:HpOK F L1 w:=hf.mem (List.sublist_cons_self _ _)
 obtain ⟨F',e1,e2,e3⟩:=h1.freeze
 refine K F' e1 ?_ a w ha e2
 have he:w.heap[b]?=some (.cells cs.toArray T (0,0)):=hf.ent _ (.head _)
 refine ⟨cs.toArray,T,(0,0),e3 b _ ?_ he,fun j v hv=>by simpa using hv⟩
 have:=hf.nodup
 rw [sP (b:=b) rfl,List.nodup_cons] at this
 exact this.1
end
theorem HpOK.ents0 {F:Bg} {L:List Ent} {w w':World} {Ls:List Ent} (h:HpOK F L w') (hl:F.lo=w.heap.size) (hs:Pick L Ls):NewEnts w w' Ls:=by
 have h':=hs.heap h
 refine ⟨h'.ent,h'.nodup,h'.lt,fun b hb=>?_⟩
 rw [← hl]; exact (h'.sep b hb).2
section
variable {P:Program} {ops:Array Oper} {Q:Exit→Act→World→Prop} {N:Nat} {F:Bg} {L:List Ent} {M:Fr} {ty:TypeId} {pos:String} {after:Array Edge} {rest:List Oper} {d:Nat} {dst:Option Tmp} {g:Option (Nat × Bool)}
def LU (w w':World):World:={ w' with drawn:=max w.drawn w'.drawn }
theorem zl {w w':World} (h:Below w.heap.size w w'):Ext w (LU w w'):=⟨⟨h.os,h.tape,h.output,h.size,h.block⟩,Nat.le_max_left _ _⟩
theorem HpOK.redrew {w w':World} (h:HpOK F L (HL.LU w w')) (h0:F.dr=0):HpOK F L w':=⟨h.os,h.tape,h.out,h.n,by rw [h0]; exact Nat.zero_le _,h.bg,h.ent,h.nodup,h.lt,h.sep⟩
theorem HpOK.grow0 {w w':World} (h:HpOK F L w) (hb:Below w.heap.size w w') (h0:F.dr=0):HpOK F L w':=(h.grow (zl hb)).redrew h0
theorem GF {f:FuncId} {xs:List Operand} {vs:List Value} {ts:Array TypeId} {v:Value} (h0:F.dr=0) (hx:l3 M xs=some vs)
  (he:∀ (args:Array Value) (w:World),(callFunc f args).run P w=.ok (.enter f args) w)
  (hc:∀ w,HpOK F L w→Calls P f vs.toArray w fun e w'=>e=.returned v∧Below w.heap.size w w') :
  QS P N F L M ⟨dst,.call { callee:=.value (.func f),args:=xs.toArray,argTypes:=ts },ty,pos,after,g⟩ v:=by
 intro a w ha hw
 have hr:(execOp a.eval ⟨dst,.call { callee:=.value (.func f),args:=xs.toArray,argTypes:=ts },ty,pos,after,g⟩).run P w=.ok (.enter f vs.toArray) w:=by
  have:=ha.evals hx
  simp [execOp,resolve,Deferred.ofValue,Act.eval,invoke,he,this]
 unfold Oper.quietAt
 rw [hr]
 exact ⟨rfl,(hc w hw).mono fun e w' ⟨h1,h2⟩=>⟨h1,hw.grow0 h2 h0⟩⟩
theorem dE {ι:Type} (φ:ι→Value) (Ls:ι→List Ent) {ok:ι→Prop} {f:FuncId} {xs:List Operand} {vs:List Value} {ts:Array TypeId} (h0:F.dr=0) (hx:l3 M xs=some vs)
  (he:∀ (args:Array Value) (w:World),(callFunc f args).run P w=.ok (.enter f args) w)
  (hc:∀ w,HpOK F L w→Calls P f vs.toArray w fun e w'=>∃ i,e=.returned (φ i)∧Below w.heap.size w w'∧NewEnts w w' (Ls i)∧ok i) (hd:Nat.ble (d+1) N=true)
  (K:∀ i,ok i→Tr N F (Ls i ++ L) ((d,φ i) :: M) (wpList P ops Q rest)) :
  Tr N F L M (wpList P ops Q (⟨some d,.call { callee:=.value (.func f),args:=xs.toArray,argTypes:=ts },ty,pos,after,none⟩ :: rest)):=by
 intro a w ha hw
 refine wpList_plain rfl fun K' hK=>?_
 have hr:(execOp a.eval ⟨some d,.call { callee:=.value (.func f),args:=xs.toArray,argTypes:=ts },ty,pos,after,none⟩).run P w=.ok (.enter f vs.toArray) w:=by
  have:=ha.evals hx
  simp [execOp,resolve,Deferred.ofValue,Act.eval,invoke,he,this]
 unfold Oper.wp
 rw [hr]
 refine (hc w hw).mono fun e w' ⟨i,h1,h2,h3,h4⟩=>?_
 subst h1
 have hn:NewEnts w (LU w w') (Ls i):=⟨h3.ent,h3.nodup,h3.lt,h3.ge⟩
 exact hK _ _ (K i h4 _ _ (ha.put (Nat.le_of_ble_eq_true hd)) ((hw.newEnts (zl h2) hn).redrew h0))
end
section
variable {P:Program} {ops:Array Oper} {Q:Exit→Act→World→Prop} {N:Nat} {F:Bg} {L:List Ent} {M:Fr} {dst:Option Tmp} {ty:TypeId} {pos:String} {after:Array Edge} {g:Option (Nat × Bool)} {rest:List Oper} {d:Nat}
theorem Ii {Ls R:List Ent} {X:Act→World→Prop} (hs:Split L Ls R) (K:∀ F',F.le F'→(∀ e∈Ls,e.ok (e.blk.bind F'.blk))→Tr N F' R M X):Tr N F L M X:=by
 intro a w ha hw
 have hp:=hw.perm hs.perm.symm
 have h1:HpOK F R w:=hp.mem (List.sublist_append_right _ _)
 obtain ⟨F',e1,e2,e3⟩:=h1.freeze
 refine K F' e1 (fun e he=>?_) a w ha e2
 have hh:=hp.ent e (List.mem_append_left _ he)
 unfold Ent.holds at hh
 cases hk:e.blk with
 | none=>rw [hk] at hh; exact hh
 | some b =>
  rw [hk] at hh
  simp only [Option.bind_some] at hh ⊢
  have hbl:cx (Ls ++ R)=cx Ls ++ cx R:=List.filterMap_append
  have hnd:=List.nodup_append.1 (hbl ▸ hp.nodup)
  have hb:b∈cx Ls:=List.mem_filterMap.2 ⟨e,he,hk⟩
  have hnot:b ∉ cx R:=fun hr=>hnd.2.2 b hb b hr rfl
  have hlt:=hp.lt b (by rw [hbl]; exact List.mem_append_left _ hb)
  have hsome:w.heap[b]?=some w.heap[b]:=by simp [hlt]
  rw [e3 b _ hnot hsome,← hsome]; exact hh
end
end Go.HL
namespace Go.HL
open Go
abbrev WL:=List (UInt32 × UInt8)
def ovr (wl:WL) (a:UInt32):List UInt8→List UInt8
 | []=>[]
 | b :: t=>(du wl a).getD b :: ovr wl (a+1) t
section
variable {l:List SecV} {a:UInt32} {wl:WL}
def leN:List UInt8→Nat
 | []=>0
 | b :: t=>b.toNat+256 * leN t
theorem Hq:∀ l:List UInt8,leN l<256 ^ l.length
 | []=>by simp [leN]
 | b :: t=>by
  have:=Hq t
  have hb:=b.toNat_lt
  simp only [leN,List.length_cons,Nat.pow_succ]
  omega
theorem CS:∀ l:List UInt8,l.length≤4→(leP l).toNat=leN l
 | [],_=>rfl
 | b :: t,h=>by
  have hl:t.length≤3:=by simpa using h
  have ih:=CS t (by omega)
  have h1:=Hq t
  have h2:256 ^ t.length≤256 ^ 3:=Nat.pow_le_pow_right (by decide) hl
  have hb:=b.toNat_lt
  simp only [leP,leN,UInt32.toNat_add,UInt32.toNat_mul,UInt8.toNat_toUInt32,ih]
  have:(256:UInt32).toNat=256:=rfl
  rw [this]
  have h3:(256:Nat) ^ 3=16777216:=by decide
  omega
theorem EW (b:UInt8):∀ l:List UInt8,leN (l ++ [b])=leN l+256 ^ l.length * b.toNat
 | []=>by simp [leN]
 | c :: t=>by
  simp only [List.cons_append,leN,EW b t,List.length_cons,Nat.pow_succ]
  rw [Nat.mul_add,← Nat.mul_assoc,Nat.mul_comm 256 (256 ^ t.length)]
  omega
theorem xH {l:List UInt8} {k:Nat} (hk:k<l.length) (hl:l.length≤4) {c:Int} (hc:c=8 * (k:Int)):leP (l.take k) ||| jt (l.getD k default).toUInt32 c.toNat=leP (l.take (k+1)):=by
 have h1:(l.take k).length=k:=by rw [List.length_take]; omega
 have e1:l.take (k+1)=l.take k ++ [l.getD k default]:=bN hk
 have hb:=(l.getD k default).toNat_lt
 have hlt:=Hq (l.take k)
 rw [h1] at hlt
 have hp:(256:Nat) ^ k=2 ^ (8 * k):=by rw [Nat.pow_mul]
 have hk8:2 ^ (8 * k) * 256≤2 ^ 32:=by
  have:2 ^ (8 * k) * 2 ^ 8=2 ^ (8 * k+8):=by rw [Nat.pow_add]
  have h2:2 ^ (8 * k+8)≤2 ^ 32:=Nat.pow_le_pow_right (by decide) (by omega)
  omega
 rw [← UInt32.toNat_inj,UInt32.toNat_or,jc,CS _ (by omega),CS _ (by rw [List.length_take]; omega),e1,EW,h1,UInt8.toNat_toUInt32,show c.toNat=8 * k by omega]
 have hm:(l.getD k default).toNat * 2 ^ (8 * k)<2 ^ 32:=by
  have:(l.getD k default).toNat * 2 ^ (8 * k)≤255 * 2 ^ (8 * k):=Nat.mul_le_mul_right _ (by omega)
  have hpos:0<2 ^ (8 * k):=Nat.pow_pos (by decide)
  omega
 rw [show (4294967296:Nat)=2 ^ 32 from rfl,Nat.mod_eq_of_lt hm,← Nat.shiftLeft_eq,Nat.or_comm,← Nat.shiftLeft_add_eq_or_of_lt (by omega),Nat.shiftLeft_eq,hp]
 rw [Nat.mul_comm (2 ^ (8 * k))]
 omega
end
end Go.HL
namespace Go.HL
open Go Go.RowKit
section
variable {P:Program} {ops:Array Oper} {Q:Exit→Act→World→Prop} {N:Nat} {F:Bg} {L:List Ent} {M:Fr} {dst:Option Tmp} {ty:TypeId} {pos:String} {after:Array Edge} {g:Option (Nat × Bool)} {rest:List Oper} {d:Nat}
theorem K4 {x y:Operand} {t e:TypeId} {b o n k:Nat} {kk:IntKind} {i:Int} (hx:opv M x=some (.pointer (some ⟨b,o,none⟩))) (hy:opv M y=some (.int kk i)) (ht:P.underlying t=some (.array n e)) (hz:∀ w,(sizeOf e).run P w=.ok k w)
  (hi:0≤i∧i<n):QS P N F L M ⟨dst,.indexAddr t x y,ty,pos,after,g⟩ (.pointer (some ⟨b,o+i.toNat * k,none⟩)) :=
 bQ fun A w ha hw=>by
  simp [execOp,ha.eval hx,ha.eval hy,Instr.indexAt,asIntOf,run_underlying ht,Instr.sureAddr,hz,hi.1,hi.2,Addr.add_lit]
theorem gn {x y:Operand} {t e:TypeId} {b o n k:Nat} {kk:IntKind} {i:Int} (hx:opv M x=some (.pointer (some ⟨b,o,none⟩))) (hy:opv M y=some (.int kk i)) (ht:P.underlying t=some (.array n e)) (hz:∀ w,(sizeOf e).run P w=.ok k w) (hi:0≤i∧i<n:=by omega):QS P N F L M ⟨dst,.indexAddr t x y,ty,pos,after,g⟩ (.pointer (some ⟨b,o+i.toNat * k,none⟩)):=K4 hx hy ht hz hi
theorem Eu {α:Type} {E:Enc α} {xs:List α} {V:Value} {T:TypeId} {w:World} (h:(rowE V T E xs).holds w) {l m:Nat} (hl:l<m) (hm:m≤xs.length) :
  ∃ gb cap,V=.slice (some ⟨gb,0,none⟩) xs.length cap∧HL.Q4 V l m E.k=.slice (some ⟨gb,l * E.k,none⟩) (m - l) (cap - l):=by
 have hV':RowOK V T E xs (V.ownBlock.bind (w.heap[·]?)):=h
 rcases hV' with ⟨rfl,rfl⟩|⟨gb,cap,cur,rfl,ho,k1,k2,k3,k4⟩
 ·simp at hm; omega
 ·refine ⟨gb,cap,rfl,?_⟩
  have:cap≠l:=by omega
  simp only [HL.Q4,this,if_false,Option.map_some,Addr.add_lit,Nat.zero_add]
theorem t7 {α:Type} {E:Enc α} {xs:List α} {x y:Operand} {t e T:TypeId} {V:Value} {k l m:Nat} {kk:IntKind} {i:Int} (hx:opv M x=some (HL.Q4 V l m E.k)) (hy:opv M y=some (.int kk i)) (hs:rowE V T E xs∈L)
  (ht:P.underlying t=some (.slice e)) (hz:∀ w,(sizeOf e).run P w=.ok k w) (hk:k=E.k) (hi:0≤i∧(l:Int)+i<m) (hm:m≤xs.length) :
  QS P N F L M ⟨dst,.indexAddr t x y,ty,pos,after,g⟩ (.pointer (some ⟨bk V,ofs V+(l+i.toNat) * E.k,none⟩)) :=
 bQ fun A w ha hw=>by
  obtain ⟨gb,cap,hV,hr⟩:=Eu (hw.ent _ hs) (l:=l) (m:=m) (by omega) hm
  have h:=oM (P:=P) (V:=V) (c:=cap - l) (n:=m - l) (kk:=kk) (i:=i) ht hz w (by omega) gb (l * E.k) rfl
  subst hk
  rw [hr] at hx
  have e1:bk V=gb:=by rw [hV]; rfl
  have e2:ofs V=0:=by rw [hV]; rfl
  rw [e1,e2]
  simp [execOp,ha.eval hx,ha.eval hy,h,Nat.add_mul]
theorem Iq {α:Type} {E:Enc α} {xs:List α} {x:Operand} {t e T:TypeId} {V:Value} {l m k:Nat} (hx:opv M x=some (HL.Q4 V l m k)) (hs:rowE V T E xs∈L) (ht:P.underlying t=some (.slice e)) :
  QS P N F L M ⟨dst,.call { callee:=.builtin .len,args:=#[x],argTypes:=#[t] },ty,pos,after,g⟩ (.int .i64 ((m - l:Nat):Int)) :=
 vh (a:=none) (c:=0) hx (fun w hw=>by
  have hV':RowOK V T E xs (V.ownBlock.bind (w.heap[·]?)):=hw.ent _ hs
  rcases hV' with ⟨rfl,rfl⟩|⟨gb,cap,cur,rfl,_⟩
  ·exact ⟨_,_,rfl⟩
  ·exact ⟨_,_,rfl⟩) ht
theorem ra {α:Type} {E:Enc α} {xs:List α} {x y:Operand} {t e T:TypeId} {V:Value} {k n:Nat} (hx:opv M x=some V) (hs:rowE V T E xs∈L) (hy:opv M y=some (.int .i64 (n:Nat)))
  (ht:P.underlying t=some (.slice e)) (hz:∀ w,(sizeOf e).run P w=.ok k w) (hk:k=E.k) (hn:n≤xs.length):QS P N F L M ⟨dst,.slice t x (some y) none none,ty,pos,after,g⟩ (HL.Q4 V n xs.length E.k) :=
 xd (lv:=some (.i64,(n:Int))) (hv:=none) hx hs (by simp [hy]) rfl ht hz hk (by simp [mY]) (by simp [mY,l4]; omega) (by simp [l4])
theorem tY {α:Type} {E:Enc α} {xs:List α} {x y:Operand} {t e T:TypeId} {V:Value} {k n:Nat} (hx:opv M x=some V) (hs:rowE V T E xs∈L) (hy:opv M y=some (.int .i64 (n:Nat)))
  (ht:P.underlying t=some (.slice e)) (hz:∀ w,(sizeOf e).run P w=.ok k w) (hk:k=E.k) (hn:n≤xs.length):QS P N F L M ⟨dst,.slice t x none (some y) none,ty,pos,after,g⟩ (HL.Q4 V 0 n E.k) :=
 xd (lv:=none) (hv:=some (.i64,(n:Int))) hx hs rfl (by simp [hy]) ht hz hk (by simp [mY]) (by simp [mY,l4]) (by simp [l4]; omega)
theorem rowE.resl0 {α:Type} {E:Enc α} {xs:List α} {V:Value} {T:TypeId} {w:World} (h:(rowE V T E xs).holds w) {k:Nat} (hk:k≤xs.length):(rowE (HL.Q4 V 0 k E.k) T E (xs.take k)).holds w∧(HL.Q4 V 0 k E.k).ownBlock=V.ownBlock:=by
 have hV':RowOK V T E xs (V.ownBlock.bind (w.heap[·]?)):=h
 rcases hV' with ⟨rfl,rfl⟩|⟨gb,cap,cur,rfl,ho,k1,k2,k3,k4⟩
 ·have:k=0:=by simpa using hk
  subst this
  exact ⟨.inl ⟨rfl,rfl⟩,rfl⟩
 ·have e:HL.Q4 (.slice (some ⟨gb,0,none⟩) xs.length cap) 0 k E.k=.slice (some ⟨gb,0,none⟩) k cap:=by
   simp only [HL.Q4,Nat.zero_mul,Nat.sub_zero]
   split
   ·rfl
   ·simp [Addr.add_lit]
  rw [e]
  refine ⟨.inr ⟨gb,cap,cur,?_,ho,?_,k2,k3,?_⟩,rfl⟩
  ·rw [List.length_take,Nat.min_eq_left hk]
  ·rw [List.length_take]; omega
  ·rw [List.length_take,Nat.min_eq_left hk]
   have e2:k * E.k≤xs.length * E.k:=Nat.mul_le_mul_right _ hk
   have:cur.toList.take (k * E.k)=(cur.toList.take (xs.length * E.k)).take (k * E.k):=by rw [List.take_take,Nat.min_eq_left e2]
   rw [this,k4]
   have h3:xs.flatMap E.enc=(xs.take k).flatMap E.enc ++ (xs.drop k).flatMap E.enc:=by rw [← List.flatMap_append,List.take_append_drop]
   have h4:((xs.take k).flatMap E.enc).length=k * E.k:=by rw [de,List.length_take,Nat.min_eq_left hk]
   rw [h3,← h4,List.take_left]
theorem jr {α:Type} {E:Enc α} {l l':List α} {V:Value} {T:TypeId} {f:FuncId} {xs:List Operand} {vs:List Value} {ts:Array TypeId} {L1:List Ent} (hx:l3 M xs=some vs)
  (he:∀ (args:Array Value) (w:World),(callFunc f args).run P w=.ok (.enter f args) w) (hV:Del (rowE V T E l) L L1)
  (hc:∀ w,HpOK F L w→Calls P f vs.toArray w fun e w'=>∃ V',e=.returned V'∧Ext w w'∧((V'=V∧l'=l)∨dY w w' T E l' V')) (hd:Nat.ble (d+1) N=true)
  (K:∀ V',Tr N F (rowE V' T E l' :: L1) ((d,V') :: M) (wpList P ops Q rest)) :
  Tr N F L M (wpList P ops Q (⟨some d,.call { callee:=.value (.func f),args:=xs.toArray,argTypes:=ts },ty,pos,after,none⟩ :: rest)):=by
 intro a w ha hw
 refine wpList_plain rfl fun K' hK=>?_
 have hr:(execOp a.eval ⟨some d,.call { callee:=.value (.func f),args:=xs.toArray,argTypes:=ts },ty,pos,after,none⟩).run P w=.ok (.enter f vs.toArray) w:=by
  have:=ha.evals hx
  simp [execOp,resolve,Deferred.ofValue,Act.eval,invoke,he,this]
 unfold Oper.wp
 rw [hr]
 refine (hc w hw).mono fun e w' ⟨V',h1,h2,h3⟩=>?_
 subst h1
 refine hK _ _ (K V' _ _ (ha.put (Nat.le_of_ble_eq_true hd)) ?_)
 have hf:=hw.front hV
 rcases h3 with ⟨rfl,rfl⟩|h3
 ·exact hf.grow h2
 ·exact (hf.newRow h2 h3).mem (List.Sublist.cons_cons _ (List.sublist_cons_self _ _))
theorem pM (z:Array Value):∀ n,(Builtin.zeroCells z n).toList=(List.replicate n z.toList).flatten
 | 0=>by simp [Builtin.zeroCells]
 | n+1=>by
  have ih:=pM z n
  rw [List.replicate_succ',List.flatten_append,← ih]
  simp only [Builtin.zeroCells,Array.toList_map,Array.toList_range,Nat.add_mul,Nat.one_mul,List.range_add,List.map_append,List.map_map,List.flatten_cons,List.flatten_nil,List.append_nil]
  congr 1
  apply List.ext_getElem (by simp)
  intro i h1 h2
  simp only [List.length_map,List.length_range] at h1
  simp [Nat.mul_add_mod_self_right,Nat.mod_eq_of_lt h1,h1]
theorem rY {α:Type} (E:Enc α) (z:α):∀ n,(List.replicate n z).flatMap E.enc=(List.replicate n (E.enc z)).flatten
 | 0=>rfl
 | n+1=>by rw [List.replicate_succ,List.replicate_succ,List.flatMap_cons,List.flatten_cons,rY E z n]
theorem Dv {α:Type} {E:Enc α} {xs:List α} (z:α) {x:Operand} {V zv:Value} {t e:TypeId} {k kk:Nat} {L':List Ent} {dst:Option Tmp} (hx:opv M x=some (HL.Q4 V k xs.length E.k)) (hput:Put (rowE V e E xs) (rowE V e E (xs.take k ++ List.replicate (xs.length - k) z)) L L')
  (hk:k<xs.length) (ht:P.underlying t=some (.slice e)) (hz:∀ w,(zeroValue e).run P w=.ok zv w) (hzc:zv.cells.toList=E.enc z) (hk0:kk=E.k) (hdst:dst=none)
  (K:Tr N F L' M (wpList P ops Q rest)):Tr N F L M (wpList P ops Q (⟨dst,.call { callee:=.builtin .clear,args:=#[x],argTypes:=#[t] },ty,pos,after,none⟩ :: rest)):=by
 subst hdst
 intro a w ha hw
 refine wpList_plain rfl fun K' hK=>?_
 have hV:=hw.ent _ hput.mem
 obtain ⟨gb,cap,hVe,hr⟩:=Eu hV hk (Nat.le_refl _)
 have hV':RowOK V e E xs (V.ownBlock.bind (w.heap[·]?)):=hV
 rcases hV' with ⟨rfl,rfl⟩|⟨gb',cap',cur,hVe',ho,k1,k2,k3,k4⟩
 ·simp at hk
 ·rw [hVe] at hVe'
  injection hVe' with q1 q2 q3
  injection q1 with q1
  injection q1 with q1
  subst q1 q3
  have ho':w.heap[gb]?=some (.cells cur e (0,0)):=by rw [hVe] at ho; exact ho
  obtain ⟨m,hm⟩:∃ m,xs.length - k=m+1:=⟨xs.length - k - 1,by omega⟩
  have hvs:(Builtin.zeroCells zv.cells (m+1)).toList=(List.replicate (m+1) z).flatMap E.enc:=by rw [pM,hzc,rY]
  have hlen:((List.replicate (m+1) z).flatMap E.enc).length=(m+1) * E.k:=by rw [de,List.length_replicate]
  have hkm:k * E.k+(m+1) * E.k=xs.length * E.k:=by rw [← Nat.add_mul,← hm]; congr 1; omega
  have hxc:xs.length * E.k≤cap * E.k:=Nat.mul_le_mul_right _ k1
  have hst:=run_storeCells_at P gb (k * E.k) e ((List.replicate (m+1) z).flatMap E.enc) 0 cur w ho' (by rw [hlen]; omega) (fun v hv=>by
   obtain ⟨y,_,hy⟩:=List.mem_flatMap.1 hv
   exact E.one y v hy)
  rw [Nat.add_zero] at hst
  have hrun:(Builtin.clear_ #[t] ty #[HL.Q4 V k xs.length E.k]).run P w=.ok (.tuple #[]) (w.setRow gb (cur.toList.take (k * E.k) ++ (List.replicate (m+1) z).flatMap E.enc ++ cur.toList.drop (k * E.k+((List.replicate (m+1) z).flatMap E.enc).length)).toArray):=by
   rw [hr,hm]
   simp only [Builtin.clear_]
   simp [run_underlying ht,hz,hvs,hst,Result.andThen]
  unfold Oper.wp execOp
  simp only [resolve,invoke,builtin,Sem.run_bind,Sem.run_pure,Result.andThen_ok,List.map_toArray,List.map_cons,List.map_nil,ha.eval hx,hrun]
  refine hK _ _ (K _ _ ha (hw.mut hput ⟨rfl,rfl,rfl,by simp,Nat.le_refl _,fun j hj hne=>setRow_other w gb j _ (fun q=>hne (by rw [hVe,q]; rfl))⟩ ?_))
  refine .inr ⟨gb,cap,(cur.toList.take (k * E.k) ++ (List.replicate (m+1) z).flatMap E.enc ++ cur.toList.drop (k * E.k+((List.replicate (m+1) z).flatMap E.enc).length)).toArray,?_,?_,?_,k2,?_,?_⟩
  ·rw [hVe,List.length_append,List.length_take,List.length_replicate]; congr 1; omega
  ·rw [hVe]; exact setRow_heap w gb _ _ e (0,0) ho'
  ·rw [List.length_append,List.length_take,List.length_replicate]; omega
  ·rw [List.size_toArray,List.length_append,List.length_append,List.length_take,List.length_drop,hlen,Array.length_toList]; omega
  ·rw [hm,List.length_append,List.length_take,List.length_replicate,Nat.min_eq_left (by omega),Nat.add_mul,List.flatMap_append]
   have e1:cur.toList.take (k * E.k)=(xs.take k).flatMap E.enc:=by
    have e2:k * E.k≤xs.length * E.k:=Nat.mul_le_mul_right _ (by omega)
    have:cur.toList.take (k * E.k)=(cur.toList.take (xs.length * E.k)).take (k * E.k):=by rw [List.take_take,Nat.min_eq_left e2]
    rw [this,k4]
    have h3:xs.flatMap E.enc=(xs.take k).flatMap E.enc ++ (xs.drop k).flatMap E.enc:=by rw [← List.flatMap_append,List.take_append_drop]
    have h4:((xs.take k).flatMap E.enc).length=k * E.k:=by rw [de,List.length_take,Nat.min_eq_left (by omega)]
    rw [h3,← h4,List.take_left]
   have e5:(cur.toList.take (k * E.k)).length=k * E.k:=by rw [e1,de,List.length_take,Nat.min_eq_left (by omega)]
   rw [← hlen,List.append_assoc]
   show ((cur.toList.take (k * E.k) ++ _).take _)=_
   rw [show k * E.k+((List.replicate (m+1) z).flatMap E.enc).length=(cur.toList.take (k * E.k) ++ (List.replicate (m+1) z).flatMap E.enc).length by rw [List.length_append,e5],← List.append_assoc,List.take_left,e1]
end
end Go.HL
namespace Go.HL
open Go Go.RowKit Go.ChangeMaps Go.MapKept
section
variable {P:Program} {ops:Array Oper} {Q:Exit→Act→World→Prop} {N:Nat} {F:Bg} {L:List Ent} {M:Fr} {rest:List Oper} {d:Nat}
structure IterOK (b:Nat) (es:Array MapEntry) (ck:Nat) (done:List UInt32) (o:Option Obj):Prop where
 it:∃ since seen c0,o=some (.mapIter (some b) since seen c0)∧(∀ x∈es.toList,x.born<since)∧since≤c0∧since≤ck∧(∀ x∈es.toList,seen.contains x.born=true↔∃ k∈done,x.key=jJ k) ∧
  (∀ k,done.getLast?=some k→c0=ck∧∃ (seen0:Array Nat) (e:MapEntry),seen=seen0.push e.born∧e∈es.toList∧e.key=jJ k)
theorem IP {α:Type} {f:α→Value} {l:List (UInt32 × α)} {es:Array MapEntry} {ck:Nat} (h:MapIs f l es ck):(∀ x∈es.toList,x.born<ck)∧(es.toList.map (·.born)).Nodup∧es.toList.Pairwise (fun x y=>x.key≠y.key):=(stamped_iff es ck).1 h.st
theorem IN {α:Type} {f:α→Value} {l:List (UInt32 × α)} {es:Array MapEntry} {ck:Nat} (h:MapIs f l es ck) {e:MapEntry} (he:e∈es.toList):∃ k x,du l k=some x∧e.key=jJ k∧e.val=f x∧k∈l.map (·.1):=by
 obtain ⟨j,hj⟩:=List.getElem?_of_mem he
 obtain ⟨p,hp,h1,h2⟩:=h.at_ hj
 exact ⟨p.1,p.2,EQ h.nodup (List.mem_of_getElem? hp),h1,h2,List.mem_map.2 ⟨p,List.mem_of_getElem? hp,rfl⟩⟩
theorem P2 {α:Type} {f:α→Value} {l:List (UInt32 × α)} {es:Array MapEntry} {ck:Nat} (h:MapIs f l es ck) {k:UInt32} (hk:k∈l.map (·.1)):∃ e∈es.toList,e.key=jJ k:=by
 have:jJ k∈es.toList.map (·.key):=by rw [h.keys]; obtain ⟨p,hp,rfl⟩:=List.mem_map.1 hk; exact List.mem_map.2 ⟨p,hp,rfl⟩
 obtain ⟨e,he,h1⟩:=List.mem_map.1 this
 exact ⟨e,he,h1⟩
theorem IterOK.start {α:Type} {f:α→Value} {l:List (UInt32 × α)} {b:Nat} {es:Array MapEntry} {ck:Nat} (h:MapIs f l es ck):IterOK b es ck [] (some (.mapIter (some b) ck #[] ck)) :=
 ⟨ck,#[],ck,rfl,(IP h).1,Nat.le_refl _,Nat.le_refl _,fun x _=>by simp,fun k hk=>by simp at hk⟩
theorem J3 {α:Type} {f:α→Value} {l:List (UInt32 × α)} {b r:Nat} {es:Array MapEntry} {ck:Nat} {done:List UInt32} {w:World} (hm:MapIs f l es ck) (hb:w.heap[b]?=some (.map es ck)) (hI:IterOK b es ck done (w.heap[r]?)) (ty:TypeId) :
  ((∀ k∈l.map (·.1),k∈done)∧(Instr.next (.pointer (some ⟨r,0,none⟩)) false ty).run P w=.ok (.tuple #[.bool false]) w) ∨
  ∃ k x w1 o,(w1=w∨w1=w.drew)∧du l k=some x∧k∈l.map (·.1)∧k ∉ done∧IterOK b es ck (done ++ [k]) (some o) ∧
   (Instr.next (.pointer (some ⟨r,0,none⟩)) false ty).run P w=.ok (.tuple #[.bool true,jJ k,f x]) (setBlock w1 r o):=by
 obtain ⟨since,seen,c0,hr,hold,hsc,hsk,hl,hlast⟩:=hI.it
 rcases run_next_at (P:=P) w ty r b since c0 seen es ck hr hb hold hsc with ⟨h0,hrun⟩|⟨e,he,w1,hal,hrun⟩
 ·refine .inl ⟨fun k hk=>?_,hrun⟩
  obtain ⟨e,he,hek⟩:=P2 hm hk
  obtain ⟨k',hk',e2⟩:=(hl e he).1 (all_seen es seen h0 e he)
  rw [hek] at e2
  rw [uL e2]; exact hk'
 ·obtain ⟨hem,hes⟩:=mem_left he
  obtain ⟨k,x,hx,h1,h2,h3⟩:=IN hm hem
  have hnd:k ∉ done:=fun hk=>by
   have:=(hl e hem).2 ⟨k,hk,h1⟩
   rw [hes] at this; cases this
  refine .inr ⟨k,x,w1,_,hal,hx,h3,hnd,⟨since,seen.push e.born,ck,rfl,hold,hsk,hsk,fun y hy=>?_,fun k' hk'=>?_⟩,by rw [← h1,← h2]; exact hrun⟩
  ·rw [contains_push,Bool.or_eq_true,hl y hy,beq_iff_eq]
   constructor
   ·rintro (⟨k',q1,q2⟩|q)
    ·exact ⟨k',List.mem_append_left _ q1,q2⟩
    ·obtain rfl:=born_inj (IP hm).2.1 hy hem q
     exact ⟨k,by simp,h1⟩
   ·rintro ⟨k',q1,q2⟩
    rcases List.mem_append.1 q1 with q1|q1
    ·exact .inl ⟨k',q1,q2⟩
    ·right
     obtain rfl:=List.mem_singleton.1 q1
     rw [entry_eq_of_key (IP hm).2.2 hy hem (by rw [q2,h1])]
  ·simp only [List.getLast?_append,List.getLast?_singleton,Option.some_or,Option.some.injEq] at hk'
   subst hk'
   exact ⟨rfl,seen,e,rfl,hem,h1⟩
theorem HF {α:Type} {f:α→Value} {l:List (UInt32 × α)} {b r:Nat} {es:Array MapEntry} {ck:Nat} {done:List UInt32} {w:World} {k:UInt32} {x:α} (hm:MapIs f l es ck) (hb:w.heap[b]?=some (.map es ck)) (hI:IterOK b es ck done (w.heap[r]?)) (hl:done.getLast?=some k) (hx:du l k=some x) :
  (Instr.entry (.pointer (some ⟨r,0,none⟩))).run P w=.ok (.tuple #[jJ k,f x]) w:=by
 obtain ⟨since,seen,c0,hr,hold,hsc,hsk,_,hlast⟩:=hI.it
 obtain ⟨rfl,seen0,e,rfl,he,hek⟩:=hlast k hl
 obtain ⟨k',x',h0,h1,h2,h3⟩:=IN hm he
 obtain rfl:=uL (hek.symm.trans h1)
 rw [hx] at h0; cases h0
 rw [run_entry_at w r b since seen0 es c0 e hr hb he (IP hm).2.1,hek,h2]
theorem rF {w:World} {r k:Nat} {o:Obj} (h:k≠r):(setBlock w r o).heap[k]?=w.heap[k]?:=by
 simp [setBlock,Array.getElem?_setIfInBounds,Ne.symm h]
theorem Aj {w:World} {r:Nat} {o:Obj} (h:r<w.heap.size):(setBlock w r o).heap[r]?=some o:=by
 simp [setBlock,h]
structure IterAt (w:World) (b r:Nat) (es:Array MapEntry) (ck:Nat) (done:List UInt32):Prop where
 map:w.heap[b]?=some (.map es ck)
 it:IterOK b es ck done (w.heap[r]?)
theorem IterAt.walk {w:World} {b r:Nat} {es:Array MapEntry} {ck:Nat} {done:List UInt32} (h:IterAt w b r es ck done):∃ o,w.heap[r]?=some o∧o.isWalk=true:=by
 obtain ⟨_,_,_,hr,_⟩:=h.it.it
 exact ⟨_,hr,rfl⟩
theorem IterAt.keeps {w w':World} {b r:Nat} {es:Array MapEntry} {ck:Nat} {done:List UInt32} (h:IterAt w b r es ck done) (k:KeepsWalks w w'):IterAt w' b r es ck done:=by
 obtain ⟨o,ho,hw⟩:=h.walk
 refine ⟨k.same _ _ h.map rfl,?_⟩
 rw [k.same _ _ ho hw,← ho]; exact h.it
theorem IterAt.grown {w w':World} {b r:Nat} {es:Array MapEntry} {ck:Nat} {done:List UInt32} (h:IterAt w b r es ck done) (g:w.grownBy w' none):IterAt w' b r es ck done:=by
 obtain ⟨o,ho,hw⟩:=h.walk
 refine ⟨(g.block b (Array.getElem?_eq_some_iff.1 h.map).1 (by simp)).trans h.map,?_⟩
 rw [g.block r (Array.getElem?_eq_some_iff.1 ho).1 (by simp)]; exact h.it
theorem BV {α:Type} {f:α→Value} {l:List (UInt32 × α)} {x:Operand} {t K e ty:TypeId} {pos:String} {after:Array Edge} {b:Nat} {es:Array MapEntry} {ck:Nat} {Ws:World} (hx:opv M x=some (.map (some b))) (hm:MapIs f l es ck) (hb:Ws.heap[b]?=some (.map es ck)) (ht:P.underlying t=some (.map K e)) (hd:Nat.ble (d+1) N=true)
  (Kk:∀ W1 r,Ws.grownBy W1 none→Ws.heap.size≤r→IterAt W1 b r es ck []→Tr N (Bg.of0 W1) [] ((d,.pointer (some ⟨r,0,none⟩)) :: M) (wpList P ops Q rest)) :
  Tr N (Bg.of0 Ws) [] M (wpList P ops Q (⟨some d,.range t x,ty,pos,after,none⟩ :: rest)):=by
 intro a w ha hw
 refine wpList_plain rfl fun K' hK=>?_
 have hg:=hw.grown
 have hb':w.heap[b]?=some (.map es ck):=(hg.block b (Array.getElem?_eq_some_iff.1 hb).1 (by simp)).trans hb
 have hrun:=run_range_map (P:=P) w t K e b es ck ht hb'
 unfold Oper.wp
 simp only [execOp,ha.eval hx,Sem.run_bind,hrun,Result.andThen_ok,Sem.run_pure,Oper.upon]
 have hlt:b<w.heap.size:=(Array.getElem?_eq_some_iff.1 hb').1
 refine hK _ _ (Kk (w.alloc (.mapIter (some b) ck #[] ck)) w.heap.size ⟨hg.os,hg.tape,hg.output,?_,fun k hk _=>?_⟩ hg.size ⟨?_,?_⟩ _ _ (ha.put (Nat.le_of_ble_eq_true hd)) (HpOK.start0 _))
 ·have:=hg.size; simp; omega
 ·exact (Below.heap_alloc w _ k (Nat.lt_of_lt_of_le hk hg.size)).trans (hg.block k hk (by simp))
 ·exact (Below.heap_alloc w _ b hlt).trans hb'
 ·rw [World.alloc_heap_new]; exact IterOK.start hm
theorem Gs {α:Type} {f:α→Value} {l:List (UInt32 × α)} {it id d1 d2:Nat} {t1 t2:TypeId} {p1 p2:String} {a1 a2:Array Edge} {b r:Nat} {es:Array MapEntry} {ck:Nat} {done:List UInt32} {Ws:World} (hx:look M it=some (.pointer (some ⟨r,0,none⟩))) (hm:MapIs f l es ck) (hI:IterAt Ws b r es ck done)
  (hd1:Nat.ble (d1+1) N=true) (hd2:Nat.ble (d2+1) N=true)
  (K1:∀ k x W1 W2,du l k=some x→k∈l.map (·.1)→k ∉ done→Ws.grownBy W1 none→W1.grownBy W2 (some r)→IterAt W1 b r es ck done→IterAt W2 b r es ck (done ++ [k]) →
   Tr N (Bg.of0 W2) [] ((d2,.bool true) :: (d1,.tuple #[.bool true,jJ k,f x]) :: M) (Q .normal))
  (K0:(∀ k∈l.map (·.1),k∈done)→Tr N (Bg.of0 Ws) [] ((d2,.bool false) :: (d1,.tuple #[.bool false]) :: M) (Q .normal)) :
  Tr N (Bg.of0 Ws) [] M ((Code.region id #[⟨some d1,.next (.tmp it) false,t1,p1,a1,none⟩,⟨some d2,.extract (.tmp d1) 0,t2,p2,a2,none⟩] false).wp P Q):=by
 intro a w ha hw
 have hI':=hI.grown hw.grown
 have hit:=ha.eval (x:=.tmp it) (v:=.pointer (some ⟨r,0,none⟩)) hx
 refine wp_region_lit (l:=[_,_]) (wpList_plain rfl fun K' hK=>?_)
 rcases J3 (P:=P) hm hI'.map hI'.it t1 with ⟨h0,hrun⟩|⟨k,x,w1,o,hal,hx2,hkl,hkd,hI2,hrun⟩
 ·unfold Oper.wp
  simp only [execOp,hit,Sem.run_bind,hrun,Result.andThen_ok,Sem.run_pure,Oper.upon]
  refine hK _ _ ?_
  exact Ih (fJ (x:=.tmp d1) (vs:=#[.bool false]) (by show look _ d1=_; rw [cL,if_pos rfl]) rfl) hd2 (mj (K0 h0)) _ _ (ha.put (Nat.le_of_ble_eq_true hd1)) hw
 ·unfold Oper.wp
  simp only [execOp,hit,Sem.run_bind,hrun,Result.andThen_ok,Sem.run_pure,Oper.upon]
  refine hK _ _ ?_
  obtain ⟨o0,ho0,_⟩:=hI'.walk
  have hrl:r<w.heap.size:=(Array.getElem?_eq_some_iff.1 ho0).1
  have hw1:w1.heap=w.heap:=by rcases hal with rfl|rfl<;>rfl
  have hg1:w.grownBy (setBlock w1 r o) (some r):=by
   rcases hal with rfl|rfl<;>exact ⟨rfl,rfl,rfl,by simp [setBlock],fun i _ hi=>rF (fun e1=>hi (by rw [e1]))⟩
  have hne:b≠r:=fun e=>by
   obtain ⟨_,_,_,hr,_⟩:=hI'.it.it
   rw [← e,hI'.map] at hr; cases hr
  have hI3:IterAt (setBlock w1 r o) b r es ck (done ++ [k]):=by
   refine ⟨?_,?_⟩
   ·rw [rF hne,hw1]; exact hI'.map
   ·rw [Aj (by rw [hw1]; exact hrl)]; exact hI2
  exact Ih (fJ (x:=.tmp d1) (vs:=#[.bool true,jJ k,f x]) (by show look _ d1=_; rw [cL,if_pos rfl]) rfl) hd2 (mj (K1 k x w (setBlock w1 r o) hx2 hkl hkd hw.grown hg1 hI' hI3)) _ _ (ha.put (Nat.le_of_ble_eq_true hd1)) (HpOK.start0 _)
theorem B6 {α:Type} {f:α→Value} {l:List (UInt32 × α)} {x:Operand} {dst:Option Tmp} {ty:TypeId} {pos:String} {after:Array Edge} {g:Option (Nat × Bool)} {b r:Nat} {es:Array MapEntry} {ck:Nat} {done:List UInt32} {Ws:World} {k:UInt32} {y:α} (hx:opv M x=some (.pointer (some ⟨r,0,none⟩))) (hm:MapIs f l es ck) (hI:IterAt Ws b r es ck done) (hl:done.getLast?=some k) (hy:du l k=some y) :
  QS P N (Bg.of0 Ws) [] M ⟨dst,.entry x,ty,pos,after,g⟩ (.tuple #[jJ k,f y]) :=
 bQ fun A w ha hw=>by
  have hI':=hI.grown hw.grown
  simp [execOp,ha.eval hx,HF (P:=P) hm hI'.map hI'.it hl hy]
end
theorem SeqStopsK.later {α:Type} {Fe:Fence} {n:Nat} {P:Program} {g:Nat} {lb:Array Value} {encs:α→Array Value} {Kp:World→World→Prop} {S Sp:List α→Prop} {Nm:Nat} {w w':World} (h:SeqStopsK Fe n P g lb encs Kp S Sp Nm w) (hb:Below w.heap.size w w'):SeqStopsK Fe n P g lb encs Kp S Sp Nm w' :=
 fun l J Jx W hW h1 h2 h3 h4=>h l J Jx W (hb.trans (hW.mono hb.size)) h1 h2 h3 h4
section
variable {P:Program} {Q:Exit→Act→World→Prop} {N:Nat} {F:Bg} {L:List Ent} {M:Fr}
theorem Ig {α ι:Type} {gO:Operand} {p d rid:Nat} {ty:TypeId} {pos:String} {after:Array Edge} {body:Code} {gf:Nat} {lb:List Value} (enc:α→Value) (S:List α→Prop) (okI:List α→ι→Prop) (L':ι→List Ent) (Nm:Nat) (j0:ι)
  (hF0:F.dr=0) (hM:look M mk0=some undef) (hg:opv M gO=some (.func (.func gf) #[] lb.toArray)) (eg:∀ (args:Array Value) (w:World),(callFunc gf args).run P w=.ok (.enter gf args) w)
  (hp:Nat.ble (p+1) N=true) (hd:Nat.ble (d+1) N=true) (hL:Pick L (L' j0)) (h0:okI [] j0) (hc:∀ j,CellsOnly (L' j))
  (hseq:∀ w F1,F.le F1→HpOK F1 (L' j0) w→SeqStopsK Fence.wide 2 P gf lb.toArray (fun x=>#[enc x]) KeepsWalks S (fun _=>True) Nm w)
  (hbody:∀ pre x j l0 F1,F.le F1→okI pre j→pre.length<Nm→Tr N F1 (L' j) ((d,enc x) :: (p,enc x) :: M) (body.wpIn (Fence.wide.inRound l0) 1 P (fun e a W'=>e=.normal∧∃ j',okI (pre ++ [x]) j'∧HpOK F1 (L' j') W')))
  (hdone:∀ xs j D F1,F.le F1→S xs→okI xs j→Tr N F1 (Mt D :: L' j) (tO M ++ [(mk0+1+D,undef)]) (Q .normal)) :
  Tr N F L M ((Code.rangeFunc gO #[p] (Code.region rid #[⟨some d,.assign (.tmp p),ty,pos,after,none⟩] false) body).wp P Q):=by
 intro a w ha hw
 have ha0:=ha.defers0 hM
 obtain ⟨F1,e1,h1,full1⟩:=(hL.heap hw).freeze
 have hF1:F1.dr=0:=e1.dr.trans hF0
 have hB:∀ b o,F1.blk b=some o→b<w.heap.size:=fun b o e=>(Array.getElem?_eq_some_iff.1 (h1.bg b o e)).1
 refine (wpIn_wide (n:=3)).1 ?_
 refine wpIn_rangeFunc_ownF (n:=3) rfl (by omega) (ha.eval hg) trivial eg (hseq w F1 e1 h1) KeepsWalks.trans (fun W l o o' hl ho hc hw=>KeepsWalks.putObj o' ho hw) (Below.refl _ _) (fun _=>rfl)
  (fun pre W=>∃ j,okI pre j∧HpOK F1 (L' j) W) (fun _ _ _=>False) (fun pre W W' row ⟨j,k1,k2⟩ hgr hr=>⟨j,k1,k2.turned (hc j) hF1 hB hgr hr⟩) (fun _ _ _ _ _ h _ _=>h) ⟨j0,h0,h1⟩
  (fun x=>{ tmps:=(a.tmps.setIfInBounds p (enc x)).setIfInBounds d (enc x),defers:=[] }) ?_ ?_ ?_ (fun _ _ _ _ _ _ h _=>h.elim)
 ·intro l x W K hK
  refine wpIn_region_lit (l:=[⟨some d,.assign (.tmp p),ty,pos,after,none⟩]) (wpListIn_plain rfl fun K' hK'=>?_)
  refine ⟨fun _ _=>trivial,?_⟩
  rw [Oper.semAt_eq _ _ _ (fun c h=>by cases h)]
  have hpN:p<a.tmps.size:=by rw [ha.size]; exact Nat.le_of_ble_eq_true hp
  simp only [execOp,Sem.run_pure,Oper.uponIn,Act.put,Act.eval]
  refine hK' _ _ ?_
  show wpListIn _ _ _ _ _ [] _ W
  unfold wpListIn
  show K _ W
  have e:((#[p].zip #[enc x]).foldl (fun t (pv:Nat × Value)=>t.setIfInBounds pv.1 pv.2) a.tmps)=a.tmps.setIfInBounds p (enc x):=by simp
  have e2:(a.tmps.setIfInBounds p (enc x)).getD p undef=enc x:=by simp [Array.getD_eq_getD_getElem?,hpN]
  have e3:((#[p].zip #[enc x]).foldl (fun t (pv:Nat × Value)=>t.setIfInBounds pv.1 pv.2) a.tmps).getD p undef=enc x:=by rw [e]; exact e2
  simp only [e] at e3 ⊢
  first
   | (rw [e3]; exact hK)
   | (simp only [e2]; exact hK)
   | (simpa [e2] using hK)
 ·rintro l pre x W ⟨j,k1,k2⟩ hlen
  obtain ⟨F2,e2,h2,hn2,full2⟩:=k2.freezeN
  have ht:=hbody pre x j l F2 (e1.trans e2) k1 hlen
  have hfr:FrOK N ((d,enc x) :: (p,enc x) :: M) { tmps:=(a.tmps.setIfInBounds p (enc x)).setIfInBounds d (enc x),defers:=[] }:=by
   have hz:=(ha.put (v:=enc x) (Nat.le_of_ble_eq_true hp)).put (v:=enc x) (Nat.le_of_ble_eq_true hd)
   have hz':((a.put (some p) (enc x)).put (some d) (enc x))={ tmps:=(a.tmps.setIfInBounds p (enc x)).setIfInBounds d (enc x),defers:=a.defers }:=rfl
   rw [hz',ha0] at hz
   exact hz
  refine wpIn_mono (ht _ W hfr h2) fun e a' W' hq=>?_
  obtain ⟨rfl,j',k3,k4⟩:=hq
  have keep:∀ k o,W.heap[k]?=some o→k ∉ cx (L' j)→W'.heap[k]?=some o:=fun k o hk hn=>k4.bg k o (full2 k o hn hk)
  have hsz:W.heap.size≤W'.heap.size:=by rw [← hn2]; exact k4.n
  refine ⟨⟨hsz,fun k o hk ho=>keep k o hk fun hm=>?_⟩,⟨hsz,fun k o hk ho=>keep k o hk fun hm=>?_⟩,⟨j',k3,k4.weaken e2⟩⟩
  ·obtain ⟨o2,ho2,hc2⟩:=xK h2 (hc j) hm
   rw [hk] at ho2; cases ho2; rw [ho] at hc2; cases hc2
  ·obtain ⟨o2,ho2,hc2⟩:=xK h2 (hc j) hm
   rw [hk] at ho2; cases ho2
   cases o<;>simp_all [Obj.isCells,Obj.isWalk]
 ·rintro D xs W hD hS ⟨j,k1,k2⟩ hK
  have hDl:D<W.heap.size:=(Array.getElem?_eq_some_iff.1 hK).1
  have hDn:D ∉ cx (L' j):=fun hm=>by
   obtain ⟨o,ho,hcc⟩:=xK k2 (hc j) hm
   rw [hK] at ho; cases ho; cases hcc
  refine hdone xs j D F1 e1 hS k1 _ W (ha.marked' ha0) ⟨k2.os,k2.tape,k2.out,k2.n,k2.dr,k2.bg,fun e he=>?_,?_,?_,?_⟩
  ·rcases List.mem_cons.1 he with rfl|he
   ·exact hK
   ·exact k2.ent e he
  ·exact List.nodup_cons.2 ⟨hDn,k2.nodup⟩
  ·intro b hb
   rcases List.mem_cons.1 hb with rfl|hb
   ·exact hDl
   ·exact k2.lt b hb
  ·intro b hb
   rcases List.mem_cons.1 hb with rfl|hb
   ·refine ⟨?_,Nat.le_trans (Nat.le_trans F1.lo_le h1.n) hD⟩
    cases e:F1.blk b with
    | none=>rfl
    | some o=>have:=hB b o e; omega
   ·exact k2.sep b hb
theorem NB {D:Nat} {fn:Func} {R:Ending→World→Prop} {t:Tmp} {v:Value} {L1:List Ent} (hr:fn.results=#[.tmp t]) (hv:look M t=some v) (hD:look M (mk0+1+D)=some undef) (hm:Del (Mt D) L L1)
  (h:∀ w,HpOK F L1 w→R (.returned v) w):Tr N F L M (IG (bodyPostM Fence.wide 3 P fn R) .ret):=by
 intro a w ha hw
 refine ⟨rfl,?_⟩
 have hf:=hw.front hm
 have hK:w.heap[D]?=some (.deferred (some [])):=hf.ent _ (.head _)
 show LeavesInM Fence.wide 3 P fn a.tmps R a.defers .returning w
 rw [ha.defersD D hD]
 refine ⟨by simp,.inl ⟨_,_,rfl,run_takeDeferred hK,?_⟩⟩
 have h2:HpOK F (⟨some D,fun _=>True⟩ :: L1) (w.putObj D (.deferred none)) :=
  HpOK.set (p:=fun o=>o=some (.deferred (some []))) (p':=fun _=>True) hf (.here _) rfl rfl rfl (grownBy_putObj' w D _).size (Nat.le_refl _) (fun k hk hkb=>(grownBy_putObj' w D _).block k hk (fun e=>hkb (Option.some.inj e))) trivial
 have h3:HpOK F L1 (w.putObj D (.deferred none)):=h2.mem (List.sublist_cons_self _ _)
 exact ⟨_,results_tmp hr a.tmps P _,by rw [ha.val t v hv]; exact h _ h3⟩
end
theorem EY {α:Type} {l:List (UInt32 × α)} {done:List UInt32} (hn:(l.map (·.1)).Nodup) (h1:done.Nodup) (h2:∀ k∈done,k∈l.map (·.1)) (h3:∀ k∈l.map (·.1),k∈done):done.Perm (l.map (·.1)) :=
 (List.perm_ext_iff_of_nodup h1 hn).2 fun a=>⟨h2 a,h3 a⟩
theorem nG:∀ {l l':List UInt32},l.Nodup→(∀ x∈l,x∈l')→l.length≤l'.length
 | [],_,_,_=>Nat.zero_le _
 | x :: l,l',hn,hs=>by
  have hx:x∈l':=hs x (.head _)
  have h1:=List.nodup_cons.1 hn
  have h2:=nG (l':=l'.erase x) h1.2 fun y hy=>(List.mem_erase_of_ne (fun (e:y=x)=>h1.1 (by rw [← e]; exact hy))).2 (hs y (.tail _ hy))
  rw [List.length_erase_of_mem hx] at h2
  have:=List.length_pos_of_mem hx
  simp only [List.length_cons]
  omega
theorem IQ {α:Type} {l:List (UInt32 × α)} {done:List UInt32} {k:UInt32} (h1:done.Nodup) (h2:∀ k∈done,k∈l.map (·.1)) (hk:k∈l.map (·.1)) (hd:k ∉ done):done.length<l.length:=by
 have h3:(k :: done).Nodup:=List.nodup_cons.2 ⟨hd,h1⟩
 have:=nG (l:=k :: done) (l':=l.map (·.1)) h3 fun x hx=>by
  rcases List.mem_cons.1 hx with rfl|hx
  ·exact hk
  ·exact h2 x hx
 simp at this
 omega
theorem yH {done:List UInt32} {k:UInt32} (h1:done.Nodup) (hd:k ∉ done):(done ++ [k]).Nodup:=by
 rw [List.nodup_append]
 exact ⟨h1,by simp,fun a ha b hb=>by rw [List.mem_singleton.1 hb]; rintro rfl; exact hd ha⟩
section
open Go.Sort
def hZ (l:List UInt32):List UInt32:=l.mergeSort fun x y=>decide (x≤y)
theorem nD (l:List UInt32):(hZ l).Perm l:=List.mergeSort_perm _ _
theorem uk (l:List UInt32):(hZ l).length=l.length:=(nD l).length_eq
theorem Qv (a b c:UInt32):decide (a≤b)=true→decide (b≤c)=true→decide (a≤c)=true:=by
 simp only [decide_eq_true_eq,UInt32.le_iff_toNat_le]; omega
theorem mQ (l:List UInt32):(hZ l).Pairwise (fun x y=>x≤y):=by
 have:=List.pairwise_mergeSort (le:=fun x y:UInt32=>decide (x≤y)) Qv (fun a b=>by simp only [Bool.or_eq_true,decide_eq_true_eq,UInt32.le_iff_toNat_le]; omega) l
 exact this.imp (fun h=>of_decide_eq_true h)
theorem vw {l l':List UInt32} (hp:l.Perm l') (h:l.Pairwise (fun x y=>x≤y)) (h':l'.Pairwise (fun x y=>x≤y)):l=l' :=
 hp.eq_of_pairwise (fun a b _ _ h1 h2=>by rw [UInt32.le_iff_toNat_le] at h1 h2; exact UInt32.toNat_inj.1 (by omega)) h h'
theorem Cj {l l':List UInt32} (h:l.Perm l'):hZ l=hZ l' :=
 vw ((nD l).trans (h.trans (nD l').symm)) (mQ l) (mQ l')
end
section
variable {P:Program} {ops:Array Oper} {Q:Exit→Act→World→Prop} {N:Nat} {F:Bg} {L:List Ent} {M:Fr} {dst:Option Tmp} {ty:TypeId} {pos:String} {after:Array Edge} {g:Option (Nat × Bool)} {rest:List Oper} {d:Nat}
end
section
variable {P:Program} {ops:Array Oper} {Q:Exit→Act→World→Prop} {N:Nat} {F:Bg} {L:List Ent} {M:Fr} {rest:List Oper} {d:Nat}
end
theorem Pick.skip {e:Ent} {L L':List Ent} (h:Pick L L'):Pick (e :: L) L':=by
 induction h with
 | nil=>exact .nil _
 | cons hd _ ih=>exact .cons (.there _ hd) ih
section
variable {l:List SecV} {a:UInt32} {n:Int}
end
end Go.HL
namespace Go.HL
open Go Go.RowKit
theorem xQ (n:UInt32):(n &&& 31).toNat=d6 n:=by
 unfold d6
 rw [UInt32.toNat_and,UInt32.toNat_mod]
 exact Nat.and_two_pow_sub_one_eq_mod n.toNat 5
theorem cnt_lt (n:UInt32):d6 n<32:=by
 unfold d6
 rw [UInt32.toNat_mod]
 exact Nat.mod_lt _ (by decide)
theorem O1 {a b:UInt32} {op:Int} (h:¬ (op<3∨15<op)) {o:Nat} (ho:o=(op - 3).toNat) :
  ([.int .u32 (a+b).toNat,.int .u32 (a - b).toNat,.int .u32 (a * b).toNat,.int .u32 (a &&& b).toNat,.int .u32 (a ||| b).toNat,.int .u32 (a ^^^ b).toNat,.int .u32 (jt a (d6 b)).toNat,.int .u32 (jQ a (d6 b)).toNat,.int .u32 (xl a (d6 b)).toNat,
   .int .u32 (s7 (decide (a=b))).toNat,.int .u32 (s7 (decide (a≠b))).toNat,.int .u32 (s7 (CO a b)).toNat,.int .u32 (s7 (decide (a<b))).toNat]:List Value)[o]?=some (.int .u32 (sf op a b).toNat):=by
 subst ho
 have hk:op=3∨op=4∨op=5∨op=6∨op=7∨op=8∨op=9∨op=10∨op=11∨op=12∨op=13∨op=14∨op=15:=by omega
 rcases hk with rfl|rfl|rfl|rfl|rfl|rfl|rfl|rfl|rfl|rfl|rfl|rfl|rfl<;>rfl
section
variable {P:Program} {N:Nat} {F:Bg} {L:List Ent} {M:Fr}
end
section
variable {bM:Nat} {vi vo eff:Value}
end
end Go.HL
namespace Go.HL
open Go
structure VSet where
 em:Bool
 top:Bool
 lo:UInt32
 hi:UInt32
 st:UInt32
 deriving DecidableEq,Inhabited
def er:Enc VSet:=⟨5,fun s=>[.bool s.em,.bool s.top,.int .u32 s.lo.toNat,.int .u32 s.hi.toNat,.int .u32 s.st.toNat],fun _=>rfl,fun x v h=>by simp at h; rcases h with h|h|h|h|h<;>subst h<;>rfl⟩
theorem rE:GO er [.bool,.bool,.int .u32,.int .u32,.int .u32] [0,1,2,3,4]:=by
 intro x y
 refine ⟨fun j o e ho he=>?_,?_⟩
 ·rcases j with _|_|_|_|_|j<;>simp at ho he<;>subst ho<;>subst he<;>trivial
 ·obtain ⟨a0,a1,a2,a3,a4⟩:=x
  obtain ⟨c0,c1,c2,c3,c4⟩:=y
  rw [Bool.eq_iff_iff]
  simp [AD,er]
  simp only [← UInt32.toNat_inj]
  try omega
section
variable {P:Program} {N:Nat} {F:Bg} {L:List Ent} {M:Fr} {dst:Option Tmp} {ty:TypeId} {pos:String} {after:Array Edge} {g:Option (Nat × Bool)}
theorem zW {x:Operand} {t:TypeId} {n:UInt32} (h:opv M x=some (.int .u32 n.toNat)):QS P N F L M ⟨dst,.unOp .neg t x,ty,pos,after,g⟩ (.int .u32 (0 - n).toNat):=by
 have:=Qf (P:=P) (N:=N) (F:=F) (L:=L) (dst:=dst) (ty:=ty) (pos:=pos) (after:=after) (g:=g) (t:=t) h
 have e:IntKind.u32.wrap (-(n.toNat:Int))=((0 - n).toNat:Int):=by
  rw [IntKind.wrap_u32,UInt32.toNat_sub,UInt32.toNat_zero]
  have:=n.toNat_lt
  omega
 rwa [e] at this
end
theorem Md {a:UInt32} (h:0<a):a≠0:=by intro e; subst e; exact absurd h (by decide)
theorem rJ {a:UInt32} (h:a≠0):0<a.toNat:=by
 have:a.toNat≠0:=fun e=>h (UInt32.toNat_inj.1 e)
 omega
def zeroS:VSet:=⟨false,false,0,0,0⟩
def iL:VSet:=⟨false,true,0,0,0⟩
def emptyS:VSet:=⟨true,false,0,0,0⟩
def fH (n:UInt32):VSet:=⟨false,false,n,n,0⟩
def bS (lo hi st:UInt32):VSet :=
 if hi<lo then emptyS else if st=0∨hi - lo<st then fH lo else if lo=0∧hi=4294967295∧st=1 then iL
 else ⟨false,false,lo,hi - (hi - lo) % st,st⟩
def eD (s:VSet):Bool :=
 if s.top=true∨s.em=true then decide (s=iL) || decide (s=emptyS) else if s.st=0 then decide (s.lo=s.hi)
 else decide (s.lo<s.hi) && decide ((s.hi - s.lo) % s.st=0) && (decide (0<s.lo) || decide (s.hi<4294967295) || decide (1<s.st))
def ae (s:VSet):VSet:=if eD s=true then s else iL
def nk (s:VSet):Bool:=!s.top && !s.em && decide (s.st=0)
def zc (s:VSet) (n:UInt32):Bool :=
 if s.top=true∨s.em=true then s.top else if s.st=0 then decide (n=s.lo)
 else decide (s.lo≤n) && decide (n≤s.hi) && decide ((n - s.lo) % s.st=0)
def qS (s:VSet) (n:UInt32):Bool:=zc (ae s) n
def kl (s:VSet):Int :=
 if s.top=true then 4294967296 else if s.em=true then 0 else if s.st=0 then 1 else (((s.hi - s.lo) / s.st).toNat:Int)+1
def cQ (s:VSet):Int:=kl (ae s)
def iE (a b:UInt32):UInt32:=UInt32.ofNat (Nat.gcd a.toNat b.toNat)
def jv (a b:UInt32):UInt32:=if b<a then b else a
def jV (a b:UInt32):UInt32:=if a<b then b else a
def kB (a b:VSet):VSet :=
 if a.top=true∨b.top=true then iL else if a.em=true then b else if b.em=true then a
 else bS (jv a.lo b.lo) (jV a.hi b.hi) (iE (iE a.st b.st) (jV a.lo b.lo - jv a.lo b.lo))
def dK (a b:VSet):VSet:=kB (ae a) (ae b)
def elK (s:VSet) (k:Nat):List UInt32:=(List.range k).map fun (j:Nat)=>s.lo+u32 (j:Int) * s.st
theorem FC (s:VSet) (k:Nat):elK s (k+1)=elK s k ++ [s.lo+u32 (k:Int) * s.st]:=by
 unfold elK; rw [List.range_succ,List.map_append]; rfl
theorem xO (s:VSet) (k:Nat):(elK s k).length=k:=by unfold elK; simp
def il (s:VSet):List UInt32:=elK s (cQ s).toNat
def dm (s:VSet):List UInt32 × Int:=if 64<cQ s then ([],6) else (il (ae s),0)
theorem gZ (s:VSet):eD (ae s)=true:=by
 unfold ae
 split
 ·assumption
 ·rfl
theorem gg (s:VSet):ae (ae s)=ae s:=by
 exact if_pos (gZ s)
theorem rL (m n:UInt32):(if n<m then n else m)=jv m n:=rfl
theorem rP (m n:UInt32):(if m<n then n else m)=jV m n:=rfl
theorem EP (x:UInt32) {y:UInt32} (h:y≠0):(x % y).toNat<y.toNat:=by
 have:y.toNat≠0:=fun e=>h (UInt32.toNat_inj.1 e)
 rw [UInt32.toNat_mod]; exact Nat.mod_lt _ (by omega)
theorem Fl {a b:UInt32} (h:b≠0):iE b (a % b)=iE a b:=by
 unfold iE
 rw [UInt32.toNat_mod,Nat.gcd_comm b.toNat,← Nat.gcd_rec,Nat.gcd_comm]
theorem uU (a:UInt32):iE a 0=a:=by
 unfold iE
 rw [UInt32.toNat_zero,Nat.gcd_zero_right]
 exact UInt32.ofNat_toNat
theorem NZ {s:VSet} (h:eD s=true) (ht:s.top=true∨s.em=true):s=iL∨s=emptyS:=by
 unfold eD at h
 rw [if_pos ht] at h
 simpa using h
theorem GU {s:VSet} (h:eD s=true) (ht:s.top=false) (he:s.em=false):s.st≠0∧s.lo<s.hi∧(s.hi - s.lo) % s.st=0∨s.st=0∧s.lo=s.hi:=by
 unfold eD at h
 rw [if_neg (by rw [ht,he]; simp)] at h
 by_cases h0:s.st=0
 ·rw [if_pos h0] at h; exact .inr ⟨h0,by simpa using h⟩
 ·rw [if_neg h0] at h
  simp only [Bool.and_eq_true,decide_eq_true_eq] at h
  exact .inl ⟨h0,h.1.1,h.1.2⟩
def lE (a b:VSet):Bool :=
 if a.em=true∨b.top=true then true else if a.top=true∨b.em=true then false
 else qS b a.lo && qS b a.hi && (decide (a.st=0) || decide (0<b.st) && decide (a.st % b.st=0))
def kR (a b:VSet):Bool:=lE (ae a) (ae b)
def mw (a:VSet) (k:UInt32):VSet :=
 if a.top=true∨4294967295<(a.hi.toNat:Int) * k.toNat then iL else bS (a.lo * k) (a.hi * k) (a.st * k)
def mC (a:VSet) (n:UInt32):VSet:=bS 0 (if a.top=false then jv n a.hi else n) (n &&& (0 - n))
def kE (op:Int) (a b:VSet):VSet :=
 if nk b=false then iL else if op=5 then mw a b.lo else if op=9 then mw a (jt 1 (d6 b.lo))
 else if op=6 then mC a b.lo else if op=10∧a.top=false then bS (jQ a.lo (d6 b.lo)) (jQ a.hi (d6 b.lo)) 1 else iL
def iU (op:Int) (a b:VSet):VSet :=
 if op=12∨op=13∨op=14∨op=15 then bS 0 1 1
 else if op=3∧(a.top=false∧b.top=false)∧(a.hi.toNat:Int)+b.hi.toNat≤4294967295 then bS (a.lo+b.lo) (a.hi+b.hi) (iE a.st b.st)
 else if op=4∧(a.top=false∧b.top=false)∧b.hi≤a.lo then bS (a.lo - b.hi) (a.hi - b.lo) (iE a.st b.st)
 else kE op a b
def gV (op:Int) (a b:VSet):VSet :=
 if op<3∨15<op then iL else if a.em=true∨b.em=true then emptyS else if nk a=true∧nk b=true then fH (oz op a.lo b.lo).1
 else iU op a b
def fb (op:Int) (a b:VSet):VSet:=gV op (ae a) (ae b)
def lO (a:VSet) (lo:UInt32):Int:=(a.lo.toNat:Int)+(((lo - a.lo).toNat:Int)+a.st.toNat - 1) / (a.st.toNat:Int) * a.st.toNat
def mX (o:VSet):List UInt32→VSet→VSet
 | [],out=>out
 | n :: t,out=>mX o t (if qS o n=true then dK out (fH n) else out)
def uK (a b:VSet):VSet :=
 if ((jv a.hi b.hi).toNat:Int)<lO a (jV a.lo b.lo) then emptyS else bS (u32 (lO a (jV a.lo b.lo))) (jv a.hi b.hi) a.st
def rk (a b few other:VSet):VSet:=if (dm few).2=0 then mX other (dm few).1 emptyS else uK a b
def l9 (a b:VSet):VSet :=
 if b.top=true then a else if a.top=true then b else if 64<cQ a then rk a b b a else rk a b a b
def jM (a b:VSet):VSet:=l9 (ae a) (ae b)
def lF (a c:VSet):VSet:=if c.top=true then c else bS (if c.lo<a.lo then c.lo % c.st else c.lo) (if a.hi<c.hi then 4294967295 else c.hi) c.st
def jK (a b:VSet):VSet :=
 if kR b a=true then a else if a.em=true then b else if a.top=true∨b.top=true then iL else lF a (dK a b)
def jH (a b:VSet):VSet:=jK (ae a) (ae b)
theorem Hn (o:VSet) (l:List UInt32) (n:UInt32) (out:VSet):mX o (l ++ [n]) out=if qS o n=true then dK (mX o l out) (fH n) else mX o l out:=by
 induction l generalizing out with
 | nil=>rfl
 | cons x t ih=>exact ih _
theorem Bh {o:VSet} {l:List UInt32} {k:Nat} (h:k<l.length) (out:VSet) :
  mX o (l.take (k+1)) out=if qS o (l.getD k default)=true then dK (mX o (l.take k) out) (fH (l.getD k default)) else mX o (l.take k) out:=by
 rw [bN h,Hn]
theorem ER {o:VSet} {l:List UInt32} {k:Nat} (h:k<l.length) {out:VSet} (hy:qS o (l.getD k default)=true):dK (mX o (l.take k) out) (fH (l.getD k default))=mX o (l.take (k+1)) out:=by
 rw [Bh h,if_pos hy]
theorem IO {o:VSet} {l:List UInt32} {k:Nat} (h:k<l.length) {out:VSet} (hy:qS o (l.getD k default)=false):mX o (l.take k) out=mX o (l.take (k+1)) out:=by
 rw [Bh h,if_neg (by rw [hy]; simp)]
theorem count_le (s:VSet):cQ s≤4294967296:=by
 unfold cQ kl
 have h:=((ae s).hi - (ae s).lo).toNat_lt
 repeat' split
 all_goals try omega
 have:(((ae s).hi - (ae s).lo) / (ae s).st).toNat≤((ae s).hi - (ae s).lo).toNat:=by rw [UInt32.toNat_div]; exact Nat.div_le_self _ _
 omega
theorem Ng (s:VSet):0≤cQ s:=by
 unfold cQ kl
 repeat' split
 all_goals omega
theorem v6 {s:VSet} (h:(dm s).2=0):(dm s).1.length≤64:=by
 unfold dm at h ⊢
 by_cases hc:64<cQ s
 ·rw [if_pos hc] at h; simp at h
 ·rw [if_neg hc]
  unfold il
  rw [xO]
  rw [show cQ (ae s)=cQ s by unfold cQ; rw [gg]]
  omega
theorem MX {s:VSet} (h:ae s=s) (h1:64<cQ s) (h2:s.top=false):s.st≠0:=by
 intro e
 unfold cQ kl at h1
 rw [h,if_neg (by rw [h2]; simp),if_pos e] at h1
 split at h1<;>omega
theorem Qq (a k:UInt32):0≤(a.toNat:Int) * k.toNat∧(a.toNat:Int) * k.toNat≤18446744065119617025:=by
 have h:=Nat.mul_le_mul (show a.toNat≤4294967295 by have:=a.toNat_lt; omega) (show k.toNat≤4294967295 by have:=k.toNat_lt; omega)
 have e:(a.toNat:Int) * k.toNat=((a.toNat * k.toNat:Nat):Int):=by push_cast; rfl
 omega
theorem IV (a:VSet) (lo:UInt32) (h:a.st≠0):0≤lO a lo∧lO a lo≤18446744073709551615 ∧
  0≤(((lo - a.lo).toNat:Int)+a.st.toNat - 1) / (a.st.toNat:Int) * a.st.toNat∧(((lo - a.lo).toNat:Int)+a.st.toNat - 1) / (a.st.toNat:Int) * a.st.toNat≤8589934590:=by
 have hp:=rJ h
 have h1:=a.lo.toNat_lt; have h2:=a.st.toNat_lt; have h3:=(lo - a.lo).toNat_lt
 have h4:=Int.ediv_mul_le (((lo - a.lo).toNat:Int)+a.st.toNat - 1) (b:=(a.st.toNat:Int)) (by omega)
 have h5:0≤(((lo - a.lo).toNat:Int)+a.st.toNat - 1) / (a.st.toNat:Int):=Int.ediv_nonneg (by omega) (by omega)
 have h6:=Int.mul_nonneg h5 (show (0:Int)≤a.st.toNat by omega)
 unfold lO
 omega
theorem MN (x y:UInt32) (h:y≠0):(iE x y).toNat=Nat.gcd x.toNat y.toNat:=by
 unfold iE
 rw [UInt32.toNat_ofNat']
 have h1:=rJ h
 have h2:=Nat.gcd_le_right x.toNat h1
 have h3:=y.toNat_lt
 exact Nat.mod_eq_of_lt (by omega)
theorem OH {a b:VSet} (ha:eD a=true) (hb:eD b=true) (hat:a.top=false) (hae:a.em=false) (hbt:b.top=false) (hbe:b.em=false)
  (h:(kB a b).lo<a.lo):(kB a b).st≠0∨(kB a b).top=true:=by
 have hal:a.lo.toNat≤a.hi.toNat:=by
  rcases GU ha hat hae with h|h
  ·have:=h.2.1; rw [UInt32.lt_iff_toNat_lt] at this; omega
  ·rw [h.2]; omega
 have e:kB a b=bS (jv a.lo b.lo) (jV a.hi b.hi) (iE (iE a.st b.st) (jV a.lo b.lo - jv a.lo b.lo)):=by
  unfold kB; rw [if_neg (by rw [hat,hbt]; simp),if_neg (by rw [hae]; simp),if_neg (by rw [hbe]; simp)]
 have hmx:a.hi.toNat≤(jV a.hi b.hi).toNat:=by
  unfold jV; split<;>rename_i q<;>rw [UInt32.lt_iff_toNat_lt] at q<;>omega
 have hmn:(jv a.lo b.lo).toNat≤a.lo.toNat:=by
  unfold jv; split<;>rename_i q<;>rw [UInt32.lt_iff_toNat_lt] at q<;>omega
 rw [e] at h ⊢
 unfold bS at h ⊢
 rw [if_neg (by rw [UInt32.lt_iff_toNat_lt]; omega)] at h ⊢
 by_cases hc:iE (iE a.st b.st) (jV a.lo b.lo - jv a.lo b.lo)=0∨jV a.hi b.hi - jv a.lo b.lo<iE (iE a.st b.st) (jV a.lo b.lo - jv a.lo b.lo)
 ·exfalso
  rw [if_pos hc] at h
  have hlt:(jv a.lo b.lo).toNat<a.lo.toNat:=by simpa only [fH,UInt32.lt_iff_toNat_lt] using h
  have hm2:a.lo.toNat=(jV a.lo b.lo).toNat:=by
   unfold jv at hlt; unfold jV
   split at hlt<;>rename_i q<;>rw [UInt32.lt_iff_toNat_lt] at q
   ·rw [if_neg (by rw [UInt32.lt_iff_toNat_lt]; omega)]
   ·omega
  have hd:(jV a.lo b.lo - jv a.lo b.lo).toNat=(jV a.lo b.lo).toNat - (jv a.lo b.lo).toNat:=UInt32.toNat_sub_of_le _ _ (by rw [UInt32.le_iff_toNat_le]; omega)
  have hd2:(jV a.hi b.hi - jv a.lo b.lo).toNat=(jV a.hi b.hi).toNat - (jv a.lo b.lo).toNat:=UInt32.toNat_sub_of_le _ _ (by rw [UInt32.le_iff_toNat_le]; omega)
  have hne:jV a.lo b.lo - jv a.lo b.lo≠0:=by
   intro q; rw [q,UInt32.toNat_zero] at hd; omega
  have hg:=MN (iE a.st b.st) _ hne
  have hg1:=Nat.gcd_le_right (iE a.st b.st).toNat (rJ hne)
  have hg2:0<Nat.gcd (iE a.st b.st).toNat (jV a.lo b.lo - jv a.lo b.lo).toNat:=Nat.gcd_pos_of_pos_right _ (rJ hne)
  rcases hc with q|q
  ·rw [q,UInt32.toNat_zero] at hg; omega
  ·rw [UInt32.lt_iff_toNat_lt] at q; omega
 ·rw [if_neg hc] at h ⊢
  split
  ·exact .inr rfl
  ·exact .inl (fun q=>hc (.inl q))
theorem E2 (a b:VSet):dK (ae a) (ae b)=kB (ae a) (ae b):=by
 unfold dK; rw [gg,gg]
theorem DR {a b:VSet} (hw:kR (ae b) (ae a)=false) (hae:(ae a).em=false) (hat:(ae a).top=false) (hbt:(ae b).top=false)
  (ht:(dK (ae a) (ae b)).top=false) (h:(dK (ae a) (ae b)).lo<(ae a).lo):(dK (ae a) (ae b)).st≠0:=by
 have hbe:(ae b).em=false:=by
  cases q:(ae b).em
  ·rfl
  ·unfold kR lE at hw
   rw [gg,if_pos (.inl q)] at hw
   exact absurd hw (by simp)
 rw [E2] at ht h ⊢
 exact (OH (gZ a) (gZ b) hat hae hbt hbe h).resolve_right (by rw [ht]; simp)
theorem M8 {s:VSet} (h:(dm s).2≠0):64<cQ s:=by
 unfold dm at h
 by_cases hc:64<cQ s
 ·exact hc
 ·rw [if_neg hc] at h; exact absurd rfl h
structure StV where
 r0:VSet
 r1:VSet
 r2:VSet
 r3:VSet
 r4:VSet
 r5:VSet
 r6:VSet
 r7:VSet
 deriving DecidableEq,Inhabited
def StV.l (s:StV):List VSet:=[s.r0,s.r1,s.r2,s.r3,s.r4,s.r5,s.r6,s.r7]
def gx:StV:=⟨zeroS,zeroS,zeroS,zeroS,zeroS,zeroS,zeroS,zeroS⟩
def bY:Enc StV:=⟨40,fun s=>s.l.flatMap er.enc,fun s=>rfl,fun s v h=>by
 obtain ⟨x,_,hx⟩:=List.mem_flatMap.1 h
 exact er.one x v hx⟩
def StV.getN (s:StV):Nat→VSet
 | 0=>s.r0
 | 1=>s.r1
 | 2=>s.r2
 | 3=>s.r3
 | 4=>s.r4
 | 5=>s.r5
 | 6=>s.r6
 | 7=>s.r7
 | _=>zeroS
def StV.setN (s:StV) (v:VSet):Nat→StV
 | 0=>{ s with r0:=v }
 | 1=>{ s with r1:=v }
 | 2=>{ s with r2:=v }
 | 3=>{ s with r3:=v }
 | 4=>{ s with r4:=v }
 | 5=>{ s with r5:=v }
 | 6=>{ s with r6:=v }
 | 7=>{ s with r7:=v }
 | _=>s
def StV.get (s:StV) (k:Int):VSet:=s.getN k.toNat
def StV.set (s:StV) (k:Int) (v:VSet):StV:=s.setN v k.toNat
theorem eight {X:Nat→Prop} (h0:X 0) (h1:X 1) (h2:X 2) (h3:X 3) (h4:X 4) (h5:X 5) (h6:X 6) (h7:X 7):∀ {n:Nat},n<8→X n
 | 0,_=>h0
 | 1,_=>h1
 | 2,_=>h2
 | 3,_=>h3
 | 4,_=>h4
 | 5,_=>h5
 | 6,_=>h6
 | 7,_=>h7
 | n+8,h=>absurd h (by omega)
theorem ie {s:StV} {k:Int} (hk:0≤k∧k<8) {o:Nat} (ho:o=k.toNat * 5):((bY.enc s).drop o).take 5=er.enc (s.get k):=by
 subst ho
 exact eight (X:=fun n=>((bY.enc s).drop (n * 5)).take 5=er.enc (s.getN n)) rfl rfl rfl rfl rfl rfl rfl rfl (show k.toNat<8 by omega)
theorem fQ {s:StV} {k:Int} (hk:0≤k∧k<8) {o:Nat} (ho:o=k.toNat * 5) (v:VSet):splice (bY.enc s) o (er.enc v)=bY.enc (s.set k v):=by
 subst ho
 exact eight (X:=fun n=>splice (bY.enc s) (n * 5) (er.enc v)=bY.enc (s.setN v n)) rfl rfl rfl rfl rfl rfl rfl rfl (show k.toNat<8 by omega)
theorem fR {s:StV} {k:Int} (hk:0≤k∧k<8) {o:Nat} (ho:o=k.toNat * 5):o+5≤(bY.enc s).length:=by
 rw [bY.len]; show o+5≤40; omega
theorem ML (s:StV) (v:VSet) {k:Nat} (hk:k<8) {j:Nat} (hj:j<8):(s.setN v k).getN j=if j=k then v else s.getN j:=by
 revert hk
 refine eight (X:=fun j=>k<8→(s.setN v k).getN j=if j=k then v else s.getN j) ?_ ?_ ?_ ?_ ?_ ?_ ?_ ?_ hj
 all_goals intro hk
 all_goals exact eight (X:=fun k=>(s.setN v k).getN _=if _=k then v else s.getN _) rfl rfl rfl rfl rfl rfl rfl rfl hk
theorem C4 {s:StV} {k:Int} (hk:0≤k∧k<8) (v:VSet) (j:Int) (hj:0≤j∧j<8):(s.set k v).get j=if j=k then v else s.get j:=by
 have h:=ML s v (k:=k.toNat) (by omega) (j:=j.toNat) (by omega)
 by_cases e:j=k
 ·rw [if_pos e]; rw [if_pos (by omega)] at h; exact h
 ·rw [if_neg e]; rw [if_neg (by omega)] at h; exact h
def Bz (v:VSet) (k:Nat):StV :=
 ⟨if 0<k then v else zeroS,if 1<k then v else zeroS,if 2<k then v else zeroS,if 3<k then v else zeroS,if 4<k then v else zeroS,if 5<k then v else zeroS,if 6<k then v else zeroS,if 7<k then v else zeroS⟩
theorem By {v:VSet} {k:Nat} (hk:k<8):(Bz v k).set (k:Int) v=Bz v (k+1) :=
 eight (X:=fun k=>(Bz v k).set (k:Int) v=Bz v (k+1)) rfl rfl rfl rfl rfl rfl rfl rfl hk
def vr (k:Nat):StV:=Bz iL k
def DV:StV:=vr 8
def gI (k:Nat):StV:=Bz emptyS k
theorem DW {k:Nat} (hk:k<8):(vr k).set (k:Int) iL=vr (k+1):=By hk
theorem zo {k:Nat} (hk:k<8):(gI k).set (k:Int) emptyS=gI (k+1):=By hk
def gr (a b:StV):Nat→StV
 | 0=>a
 | k+1=>(gr a b k).set (k:Int) (dK (a.get k) (b.get k))
def tp (a b:StV):Nat→StV
 | 0=>b
 | k+1=>(tp a b k).set (k:Int) (jH (a.get k) (b.get k))
theorem vP (a b:StV):∀ k:Nat,k≤8→∀ j:Nat,k≤j→j<8→(gr a b k).get (j:Int)=a.get j
 | 0,_,_,_,_=>rfl
 | k+1,hk,j,h,hj=>by
  show ((gr a b k).set (k:Int) _).get _=_
  rw [C4 (by omega) _ _ (by omega),if_neg (by omega)]
  exact vP a b k (by omega) j (by omega) hj
theorem yh (a b:StV):∀ k:Nat,k≤8→∀ j:Nat,k≤j→j<8→(tp a b k).get (j:Int)=b.get j
 | 0,_,_,_,_=>rfl
 | k+1,hk,j,h,hj=>by
  show ((tp a b k).set (k:Int) _).get _=_
  rw [C4 (by omega) _ _ (by omega),if_neg (by omega)]
  exact yh a b k (by omega) j (by omega) hj
def xk (s:StV) (i:Ins):VSet:=if i.form=0 then s.get i.b else fH i.imm
def rK (a:VSet) (n:UInt32):VSet:=if n<2147483648 then fb 3 a (fH n) else fb 4 a (fH (0 - n))
def wM (op:Int):Int:=[3,4,6,7,8,5,9,10,11].getD (op - 6).toNat 0
theorem Mk {op:Int} (h:6≤op∧op≤14) {o:Nat} (ho:o=(op - 6).toNat):([.int .i64 3,.int .i64 4,.int .i64 6,.int .i64 7,.int .i64 8,.int .i64 5,.int .i64 9,.int .i64 10,.int .i64 11]:List Value)[o]?=some (.int .i64 (wM op)):=by
 subst ho
 unfold wM
 have hk:(op - 6).toNat<9:=by omega
 generalize (op - 6).toNat=n at hk
 rcases n with _|_|_|_|_|_|_|_|_|n
 all_goals first|rfl|omega
theorem Mx {i:Ins} (he:eN i=0) (h:i.op=16):i.width=1∨i.width=2∨i.width=4:=by
 have h1:=(ly he).1
 by_cases a:i.width=1
 ·exact .inl a
 by_cases b:i.width=2
 ·exact .inr (.inl b)
 by_cases c:i.width=4
 ·exact .inr (.inr c)
 unfold aB fj at h1
 simp [h,a,b,c] at h1
def fm (i:Ins) (s:StV):StV :=
 if eN i=0 then
  if i.op=5 then s.set i.a (xk s i)
  else if 6≤i.op∧i.op≤14 then s.set i.a (fb (wM i.op) (s.get i.a) (xk s i))
  else if i.op=16∧i.width<4 then s.set i.a (bS 0 (jt 1 (8 * i.width).toNat - 1) 1)
  else if i.op=16∨i.op=17∨i.op=26 then s.set i.a iL
  else if i.op=19 then s.set i.a (rK (s.get i.b) i.imm)
  else if i.op=25 then s.set i.a (bS 0 1 1)
  else if i.op=3 then s.set 7 (fb 4 (s.get 7) (fH 4))
  else if i.op=4 then (s.set 7 (fb 3 (s.get 7) (fH 4))).set i.a iL
  else if i.op=2 then s.set 7 (fb 3 (s.get 7) (fH 4))
  else if i.op=23∨i.op=24 then DV
  else s
 else s
def tQ (i:Ins):Bool:=decide (i.op=15) && decide (i.form≠0) && decide (eN i=0)
def kD (a:VSet):Bool:=eD a && !a.top && !a.em
def jP (a:VSet) (n:UInt32):VSet :=
 if kD a=false∨n≠a.lo∧n≠a.hi then a else if a.st=0 then emptyS else if n=a.lo then bS (a.lo+a.st) a.hi a.st else bS a.lo (a.hi - a.st) a.st
def vF (cc:Int):Int:=if cc<1∨15≤cc then -1 else [(-52:Int),2,1,4,3,6,5,8,7,10,9,12,11,14,13].getD cc.toNat 0
theorem Hl {cc:Int} (h:1≤cc∧cc<15):vF cc=[(-52:Int),2,1,4,3,6,5,8,7,10,9,12,11,14,13].getD cc.toNat 0:=by
 unfold vF; rw [if_neg (by omega)]
theorem Ou {cc:Int} (h:1≤cc∧cc<15):(((({ data:=#[45,99,98,101,100,103,102,105,104,107,106,109,108,111,110] }:ByteArray).data.toList.getD cc.toNat 0 - 97:UInt8).toNat:Nat):Int)=[(-52:Int),2,1,4,3,6,5,8,7,10,9,12,11,14,13].getD cc.toNat 0:=by
 have hk:cc.toNat - 1<14:=by omega
 have e:cc.toNat=(cc.toNat - 1)+1:=by omega
 rw [e]
 generalize cc.toNat - 1=n at hk
 rcases n with _|_|_|_|_|_|_|_|_|_|_|_|_|_|n
 all_goals first|rfl|omega
theorem I4 {i:Ins} (h:tQ i=true):eN i=0:=by unfold tQ at h; simp at h; exact h.2
theorem N2 {cc:Int} (h:3≤cc∧cc≤6) {o:Nat} (ho:o=(cc - 3).toNat):([.int .i64 7,.int .i64 8,.int .i64 9,.int .i64 10]:List Value)[o]?=some (.int .i64 (cc+4)):=by
 subst ho
 obtain ⟨h1,h2⟩:=h
 rcases (show cc=3∨cc=4∨cc=5∨cc=6 by omega) with rfl|rfl|rfl|rfl<;>rfl
def dz (cc:Int) (a:VSet) (n:UInt32):VSet :=
 if cc=1 then jM a (fH n) else if cc=2 then jP a n
 else if cc=7 then (if n=0 then emptyS else jM a (bS 0 (n - 1) 1))
 else if cc=9 then jM a (bS 0 n 1)
 else if cc=8 then jM a (bS n 4294967295 1)
 else if cc=10 then (if n=4294967295 then emptyS else jM a (bS (n+1) 4294967295 1))
 else a
def nn (cc:Int) (i:Ins) (s:StV):StV :=
 if 3≤cc∧cc≤6 then (if (kD (s.get i.a)=false∨2147483648≤(s.get i.a).hi)∨2147483648≤i.imm then s else s.set i.a (dz (cc+4) (s.get i.a) i.imm))
 else s.set i.a (dz cc (s.get i.a) i.imm)
def my (cc:Int) (i:Ins) (s:StV) (taken:Bool):StV :=
 if tQ i=false then s else nn (if taken=true then cc else vF cc) i s
end Go.HL
namespace Go.HL
open Go Go.Sort
def ltW (x y:UInt32):Bool:=decide (x<y)
theorem Cg:SWO ltW where
 irrefl x:=by simp [ltW]
 trans x y z h1 h2:=by simp only [ltW,decide_eq_true_eq,UInt32.lt_iff_toNat_lt] at *; omega
 ntrans x y z h1 h2:=by simp only [ltW,decide_eq_false_iff_not,UInt32.lt_iff_toNat_lt] at *; omega
theorem dB {d:Array UInt32} {i:Nat}:d.toList.getD i default=d[i]! := by
 rw [List.getD_eq_getElem?_getD,Array.getElem?_toList,Array.getElem!_eq_getD,Array.getD_eq_getD_getElem?]
theorem jl {d:Array UInt32} {i j:Nat}:(d.toList.set i d[j]!).set j d[i]! = (swp d i j).toList:=by
 simp [swp,Array.toList_setIfInBounds]
theorem qA {d:Array UInt32} {i j:Nat}:(swp d i j).size=d.size:=by simp [swp]
theorem E7 {a b i:Nat} {d:Array UInt32} (h:b≤i):insOuter ltW a b i d=d:=by rw [insOuter,if_neg (by omega)]
theorem E6 {a b i:Nat} {d:Array UInt32} (h:i<b):insOuter ltW a b i d=insOuter ltW a b (i+1) (insInner ltW a i d):=by rw [insOuter,if_pos h]
theorem xo {a j:Nat} {d:Array UInt32} (h:a<j) (h2:ltW d[j]! d[j - 1]! = true):insInner ltW a j d=insInner ltW a (j - 1) (swp d j (j - 1)):=by
 cases j with
 | zero=>omega
 | succ j=>rw [insInner,if_pos (by simp only [Bool.and_eq_true,decide_eq_true_eq]; exact ⟨h,h2⟩)]; rfl
theorem uE {a j:Nat} {d:Array UInt32} (h:j≤a∨ltW d[j]! d[j - 1]! = false):insInner ltW a j d=d:=by
 cases j with
 | zero=>rfl
 | succ j =>
  rw [insInner,if_neg]
  simp only [Bool.and_eq_true,decide_eq_true_eq]
  rintro ⟨h1,h2⟩
  rcases h with h|h
  ·omega
  ·rw [show j+1 - 1=j from rfl,h2] at h; cases h
theorem Eh {hi f r:Nat} {d:Array UInt32} (h:hi≤2 * r+1):siftDown ltW hi f r d=d:=by rw [siftDown,dif_pos h]
theorem Lt {hi f r:Nat} {d:Array UInt32} (h:2 * r+2<hi) (hl:ltW d[f+(2 * r+1)]! d[f+(2 * r+1)+1]! = true) :
  siftDown ltW hi f r d=if ltW d[f+r]! d[f+(2 * r+2)]! = true then siftDown ltW hi f (2 * r+2) (swp d (f+r) (f+(2 * r+2))) else d:=by
 rw [siftDown,dif_neg (by omega),if_pos (by simp only [Bool.and_eq_true,decide_eq_true_eq]; exact ⟨by omega,hl⟩),dif_pos h]
 cases ltW d[f+r]! d[f+(2 * r+2)]! <;> rfl
theorem Lu {hi f r:Nat} {d:Array UInt32} (h:2 * r+1<hi) (hl:hi≤2 * r+2∨ltW d[f+(2 * r+1)]! d[f+(2 * r+1)+1]! = false) :
  siftDown ltW hi f r d=if ltW d[f+r]! d[f+(2 * r+1)]! = true then siftDown ltW hi f (2 * r+1) (swp d (f+r) (f+(2 * r+1))) else d:=by
 rw [siftDown,dif_neg (by omega),if_neg]
 ·cases ltW d[f+r]! d[f+(2 * r+1)]! <;> rfl
 ·simp only [Bool.and_eq_true,decide_eq_true_eq]
  rintro ⟨q1,q2⟩
  rcases hl with hl|hl
  ·omega
  ·rw [q2] at hl; cases hl
theorem sift_size {hi f:Nat}:∀ (n r:Nat) (d:Array UInt32),hi - r≤n→(siftDown ltW hi f r d).size=d.size
 | n,r,d,h=>by
  by_cases c1:hi≤2 * r+1
  ·rw [Eh c1]
  ·cases n with
   | zero=>omega
   | succ n =>
    by_cases c2:2 * r+2<hi∧ltW d[f+(2 * r+1)]! d[f+(2 * r+1)+1]! = true
    ·rw [Lt c2.1 c2.2]
     split
     ·rw [sift_size n (2 * r+2) _ (by omega),qA]
     ·rfl
    ·rw [Lu (by omega) (by
      by_cases q:2 * r+2<hi
      ·refine .inr ?_
       cases e:ltW d[f+(2 * r+1)]! d[f+(2 * r+1)+1]!
       ·rfl
       ·exact absurd ⟨q,e⟩ c2
      ·exact .inl (by omega))]
     split
     ·rw [sift_size n (2 * r+1) _ (by omega),qA]
     ·rfl
theorem Pn {hi f r:Nat} {d:Array UInt32}:(siftDown ltW hi f r d).size=d.size:=sift_size _ _ _ (Nat.le_refl _)
theorem LM {i j:Nat} {d:Array UInt32} (h:¬ i<j):reverseLoop i j d=d:=by rw [reverseLoop,if_neg h]
theorem PG {i j:Nat} {d:Array UInt32} (h:i<j):reverseLoop i j d=reverseLoop (i+1) (j - 1) (swp d i j):=by rw [reverseLoop,if_pos h]
theorem Lh {p:UInt32→Bool} {d:Array UInt32} {i j:Nat} (h:i≤j) (hp:p d[i]! = true):scanUp p d j i=scanUp p d j (i+1):=by
 rw [scanUp,if_pos (by simp only [Bool.and_eq_true,decide_eq_true_eq]; exact ⟨h,hp⟩)]
theorem Cb {p:UInt32→Bool} {d:Array UInt32} {i j:Nat} (h:j<i∨p d[i]! = false):scanUp p d j i=i:=by
 rw [scanUp,if_neg]
 simp only [Bool.and_eq_true,decide_eq_true_eq]
 rintro ⟨q1,q2⟩
 rcases h with h|h
 ·omega
 ·rw [q2] at h; cases h
theorem Da {p:UInt32→Bool} {d:Array UInt32} {i j:Nat} (h:i≤j) (h0:0<j) (hp:p d[j]! = true):scanDown p d i j=scanDown p d i (j - 1):=by
 obtain ⟨k,rfl⟩:∃ k,j=k+1:=⟨j - 1,by omega⟩
 rw [scanDown,if_pos (by simp only [Bool.and_eq_true,decide_eq_true_eq]; exact ⟨h,hp⟩)]; rfl
theorem v7 {p:UInt32→Bool} {d:Array UInt32} {i j:Nat} (h:j<i∨p d[j]! = false):scanDown p d i j=j:=by
 cases j with
 | zero=>rfl
 | succ k =>
  rw [scanDown,if_neg]
  simp only [Bool.and_eq_true,decide_eq_true_eq]
  rintro ⟨q1,q2⟩
  rcases h with h|h
  ·omega
  ·rw [q2] at h; cases h
theorem Mi {a i j I J:Nat} {d:Array UInt32} (hI:scanUp (fun x=>ltW x d[a]!) d j i=I) (hJ:scanDown (fun x=>!ltW x d[a]!) d I j=J) (h:J<I):partLoop ltW a i j d=(J,d):=by
 rw [partLoop]; simp only [hI,hJ]; rw [if_pos h]
theorem EH {a i j I J:Nat} {d:Array UInt32} (hI:scanUp (fun x=>ltW x d[a]!) d j i=I) (hJ:scanDown (fun x=>!ltW x d[a]!) d I j=J) (h:I<J) (h1:i≤I) (h2:J≤j) :
  partLoop ltW a i j d=partLoop ltW a (I+1) (J - 1) (swp d I J):=by
 rw [partLoop]; simp only [hI,hJ]; rw [if_neg (by omega),dif_pos (by omega)]
theorem Hi {a i j I J:Nat} {d:Array UInt32} (hI:scanUp (fun x=>!ltW d[a]! x) d j i=I) (hJ:scanDown (fun x=>ltW d[a]! x) d I j=J) (h:J<I):partEqLoop ltW a i j d=(I,d):=by
 rw [partEqLoop]; simp only [hI,hJ]; rw [if_pos h]
theorem J2 {a i j I J:Nat} {d:Array UInt32} (hI:scanUp (fun x=>!ltW d[a]! x) d j i=I) (hJ:scanDown (fun x=>ltW d[a]! x) d I j=J) (h:I<J) (h1:i≤I) (h2:J≤j) :
  partEqLoop ltW a i j d=partEqLoop ltW a (I+1) (J - 1) (swp d I J):=by
 rw [partEqLoop]; simp only [hI,hJ]; rw [if_neg (by omega),dif_pos (by omega)]
theorem Ql {b i:Nat} {d:Array UInt32} (h:i<b) (hl:ltW d[i]! d[i - 1]! = false):scanSorted ltW d b i=scanSorted ltW d b (i+1):=by
 rw [scanSorted,if_pos (by simp only [Bool.and_eq_true,decide_eq_true_eq,Bool.not_eq_true']; exact ⟨h,hl⟩)]
theorem N9 {b i:Nat} {d:Array UInt32} (h:b≤i∨ltW d[i]! d[i - 1]! = true):scanSorted ltW d b i=i:=by
 rw [scanSorted,if_neg]
 simp only [Bool.and_eq_true,decide_eq_true_eq,Bool.not_eq_true']
 rintro ⟨q1,q2⟩
 rcases h with h|h
 ·omega
 ·rw [q2] at h; cases h
theorem Qm {j:Nat} {d:Array UInt32} (h:0<j) (hl:ltW d[j]! d[j - 1]! = true):shiftDown ltW j d=shiftDown ltW (j - 1) (swp d j (j - 1)):=by
 obtain ⟨k,rfl⟩:∃ k,j=k+1:=⟨j - 1,by omega⟩
 rw [shiftDown,if_neg (by rw [show k+1 - 1=k from rfl] at hl; simp [hl])]; rfl
theorem ID {j:Nat} {d:Array UInt32} (h:j=0∨ltW d[j]! d[j - 1]! = false):shiftDown ltW j d=d:=by
 cases j with
 | zero=>rfl
 | succ k =>
  rcases h with h|h
  ·omega
  ·rw [shiftDown,if_pos (by rw [show k+1 - 1=k from rfl] at h; simp [h])]
theorem Qj {b j:Nat} {d:Array UInt32} (h:j<b) (hl:ltW d[j]! d[j - 1]! = true):shiftUp ltW b j d=shiftUp ltW b (j+1) (swp d j (j - 1)):=by
 rw [shiftUp,if_pos h,if_neg (by simp [hl])]
theorem Iy {b j:Nat} {d:Array UInt32} (h:b≤j∨ltW d[j]! d[j - 1]! = false):shiftUp ltW b j d=d:=by
 rw [shiftUp]
 rcases h with h|h
 ·rw [if_neg (by omega)]
 ·split
  ·rw [if_pos (by simp [h])]
  ·rfl
theorem Hk {a b k i x:Nat} {d:Array UInt32} (hX:scanSorted ltW d b i=x) (h:x=b):partialIns ltW a b (k+1) i d=(d,true):=by
 rw [partialIns]; simp only [hX]; rw [if_pos h]
theorem PL {a b k i x:Nat} {d:Array UInt32} (hX:scanSorted ltW d b i=x) (h:x≠b) (h2:b - a<50):partialIns ltW a b (k+1) i d=(d,false):=by
 rw [partialIns]; simp only [hX]; rw [if_neg h,if_pos h2]
theorem vD {a b k i x:Nat} {d d3 d4:Array UInt32} (hX:scanSorted ltW d b i=x) (h:x≠b) (h2:¬ b - a<50) (h3:d3=if x - a ≥ 2 then shiftDown ltW (x - 1) (swp d x (x - 1)) else swp d x (x - 1)) (h4:d4=if b - x ≥ 2 then shiftUp ltW b (x+1) d3 else d3) :
  partialIns ltW a b (k+1) i d=partialIns ltW a b k x d4:=by
 rw [partialIns]; simp only [hX]; rw [if_neg h,if_neg h2,← h3,← h4]
end Go.HL
namespace Go.HL
open Go Go.RowKit Go.Sort
section
variable {P:Program} {N:Nat} {F:Bg} {L:List Ent} {M:Fr} {dst:Option Tmp} {ty:TypeId} {pos:String} {after:Array Edge} {g:Option (Nat × Bool)}
theorem ke {x:Operand} {a:Addr} (hx:opv M x=some (.pointer (some a))):QS P N F L M ⟨dst,.nilCheck x,ty,pos,after,g⟩ (.pointer (some a)) :=
 bQ fun A w ha _=>by simp [execOp,ha.eval hx]
theorem zT {m n:UInt64} {x y:Operand} {t u:TypeId} (hx:opv M x=some (.int .u64 m.toNat)) (hy:opv M y=some (.int .u64 n.toNat)):QS P N F L M ⟨dst,.binOp .xor t x y u,ty,pos,after,g⟩ (.int .u64 (m ^^^ n).toNat):=by
 have:=NK (P:=P) (N:=N) (F:=F) (L:=L) (dst:=dst) (ty:=ty) (pos:=pos) (after:=after) (g:=g) (t:=t) (u:=u) hx hy
 have e:IntKind.u64.wrap ((BitVec.ofInt IntKind.u64.bits m.toNat ^^^ BitVec.ofInt IntKind.u64.bits n.toNat).toNat:Int)=((m ^^^ n).toNat:Int):=by
  have h1:BitVec.ofInt 64 (m.toNat:Int)=m.toBitVec:=by simp
  have h2:BitVec.ofInt 64 (n.toNat:Int)=n.toBitVec:=by simp
  show IntKind.u64.wrap ((BitVec.ofInt 64 m.toNat ^^^ BitVec.ofInt 64 n.toNat).toNat:Int)=_
  rw [h1,h2,IntWalk.u64_in]
  ·rfl
  ·have:=(m ^^^ n).toNat_lt
   show 0≤((m ^^^ n).toNat:Int)∧((m ^^^ n).toNat:Int)≤_
   omega
 rwa [e] at this
theorem Gy {m:UInt64} {x y:Operand} {t u:TypeId} {k':IntKind} (c:UInt64) (hx:opv M x=some (.int .u64 m.toNat)) (hy:opv M y=some (.int k' (c.toNat:Int))) (hc:c.toNat<64):QS P N F L M ⟨dst,.binOp .shl t x y u,ty,pos,after,g⟩ (.int .u64 (m <<< c).toNat):=by
 have:=Im (P:=P) (N:=N) (F:=F) (L:=L) (dst:=dst) (ty:=ty) (pos:=pos) (after:=after) (g:=g) (t:=t) (u:=u) hx hy (by omega)
 have e:IntKind.u64.wrap ((m.toNat:Int) * 2 ^ (min (c.toNat:Int).toNat IntKind.u64.bits))=((m <<< c).toNat:Int):=by
  rw [IntKind.wrap_u64,UInt64.toNat_shiftLeft,Int.toNat_natCast,Nat.min_eq_left (by show c.toNat≤64; omega),Nat.mod_eq_of_lt hc,Nat.shiftLeft_eq,Int.natCast_emod,Int.natCast_mul,Int.natCast_pow]
  rfl
 rwa [e] at this
theorem NP {m:UInt64} {x y:Operand} {t u:TypeId} {k':IntKind} (c:UInt64) (hx:opv M x=some (.int .u64 m.toNat)) (hy:opv M y=some (.int k' (c.toNat:Int))) (hc:c.toNat<64):QS P N F L M ⟨dst,.binOp .shr t x y u,ty,pos,after,g⟩ (.int .u64 (m >>> c).toNat):=by
 have:=wq (P:=P) (N:=N) (F:=F) (L:=L) (dst:=dst) (ty:=ty) (pos:=pos) (after:=after) (g:=g) (t:=t) (u:=u) hx hy (by omega)
 have e:(m.toNat:Int).fdiv (2 ^ (min (c.toNat:Int).toNat IntKind.u64.bits))=((m >>> c).toNat:Int):=by
  rw [UInt64.toNat_shiftRight,Int.toNat_natCast,Nat.min_eq_left (by show c.toNat≤64; omega),Nat.mod_eq_of_lt hc,Nat.shiftRight_eq_div_pow,Int.fdiv_eq_ediv_of_nonneg _ (by
   have:(0:Int)<2 ^ c.toNat:=Int.pow_pos (by decide)
   omega)]
  rw [Int.natCast_ediv,Int.natCast_pow]; rfl
 rwa [e] at this
theorem Jj {m:Nat} {x y:Operand} {t u:TypeId} {k':IntKind} (c:Nat) (hx:opv M x=some (.int .u64 (m:Int))) (hy:opv M y=some (.int k' (c:Int))) (hc:c≤64):QS P N F L M ⟨dst,.binOp .shr t x y u,ty,pos,after,g⟩ (.int .u64 ((m / 2 ^ c:Nat):Int)):=by
 have:=wq (P:=P) (N:=N) (F:=F) (L:=L) (dst:=dst) (ty:=ty) (pos:=pos) (after:=after) (g:=g) (t:=t) (u:=u) hx hy (by omega)
 have e:(m:Int).fdiv (2 ^ (min (c:Int).toNat IntKind.u64.bits))=((m / 2 ^ c:Nat):Int):=by
  rw [Int.toNat_natCast,Nat.min_eq_left (show c≤IntKind.u64.bits from hc),Int.fdiv_eq_ediv_of_nonneg _ (by
   have:(0:Int)<2 ^ c:=Int.pow_pos (by decide)
   omega),Int.natCast_ediv,Int.natCast_pow]; rfl
 rwa [e] at this
theorem KU {x y:Operand} {t u:TypeId} {k':IntKind} {c:Nat} (hx:opv M x=some (.int .u64 1)) (hy:opv M y=some (.int k' (c:Int))) (hc:c<64):QS P N F L M ⟨dst,.binOp .shl t x y u,ty,pos,after,g⟩ (.int .u64 ((1 <<< c:Nat):Int)):=by
 have:=Im (P:=P) (N:=N) (F:=F) (L:=L) (dst:=dst) (ty:=ty) (pos:=pos) (after:=after) (g:=g) (t:=t) (u:=u) hx hy (by omega)
 have e:IntKind.u64.wrap ((1:Int) * 2 ^ (min (c:Int).toNat IntKind.u64.bits))=((1 <<< c:Nat):Int):=by
  have h1:2 ^ c<2 ^ 64:=Nat.pow_lt_pow_right (by decide) hc
  rw [Int.toNat_natCast,Nat.min_eq_left (by show c≤64; omega),Int.one_mul,Nat.one_shiftLeft,IntWalk.u64_in]
  ·rw [Int.natCast_pow]; rfl
  ·have h2:((2:Int) ^ c)=((2 ^ c:Nat):Int):=by rw [Int.natCast_pow]; rfl
   rw [h2]
   generalize 2 ^ c=z at h1
   have h1':z<18446744073709551616:=h1
   omega
 rwa [e] at this
theorem NV {m n:Nat} {x y:Operand} {t u:TypeId} (hx:opv M x=some (.int .u64 (m:Int))) (hy:opv M y=some (.int .u64 (n:Int))) (hm:m<18446744073709551616) (hn:n<18446744073709551616):QS P N F L M ⟨dst,.binOp .and t x y u,ty,pos,after,g⟩ (.int .u64 ((m &&& n:Nat):Int)):=by
 have:=DG (P:=P) (N:=N) (F:=F) (L:=L) (dst:=dst) (ty:=ty) (pos:=pos) (after:=after) (g:=g) (t:=t) (u:=u) hx hy
 have e:IntKind.u64.wrap ((BitVec.ofInt IntKind.u64.bits (m:Int) &&& BitVec.ofInt IntKind.u64.bits (n:Int)).toNat:Int)=((m &&& n:Nat):Int):=by
  have h1:(BitVec.ofInt 64 (m:Int)).toNat=m:=by rw [BitVec.toNat_ofInt]; omega
  have h2:(BitVec.ofInt 64 (n:Int)).toNat=n:=by rw [BitVec.toNat_ofInt]; omega
  show IntKind.u64.wrap ((BitVec.ofInt 64 (m:Int) &&& BitVec.ofInt 64 (n:Int)).toNat:Int)=_
  rw [BitVec.toNat_and,h1,h2,IntWalk.u64_in]
  have:m &&& n≤n:=Nat.and_le_right
  omega
 rwa [e] at this
theorem Is {x:Operand} {s d:TypeId} {ds:TypeDesc} {k:IntKind} {m:Int} (n:Nat) (hx:opv M x=some (.int k m)) (hs:P.underlying s=some ds) (hd:P.underlying d=some (.int .u64)) (hm:m=(n:Int)) (hn:n<18446744073709551616) :
  QS P N F L M ⟨dst,.convert s d x,ty,pos,after,g⟩ (.int .u64 ((UInt64.ofNat n).toNat:Int)):=by
 have h:=mn (N:=N) (F:=F) (L:=L) (dst:=dst) (ty:=ty) (pos:=pos) (after:=after) (g:=g) hx hs hd
 rw [hm,IntWalk.u64_in _ (by omega)] at h
 rwa [UInt64.toNat_ofNat',Nat.mod_eq_of_lt hn]
theorem NL {m n:Nat} {x y:Operand} {t u:TypeId} (hx:opv M x=some (.int .u64 (m:Int))) (hy:opv M y=some (.int .u64 (n:Int))) (h:n≤m) (hm:m<18446744073709551616):QS P N F L M ⟨dst,.binOp .sub t x y u,ty,pos,after,g⟩ (.int .u64 ((m - n:Nat):Int)):=by
 have:=Jh (P:=P) (N:=N) (F:=F) (L:=L) (dst:=dst) (ty:=ty) (pos:=pos) (after:=after) (g:=g) (t:=t) (u:=u) hx hy (by omega)
 rwa [show (m:Int) - (n:Int)=((m - n:Nat):Int) by omega] at this
def Px:List UInt8:=(List.range 256).map fun i=>UInt8.ofNat (bitsLen i)
theorem BM {i:Nat} (h:i<256):bitsLen i≤8:=(bitsLen_le_iff i 8).2 h
theorem KY {x y:Operand} {t:TypeId} {s:ByteArray} {i:Nat} (hx:opv M x=some (.string s)) (hy:opv M y=some (.int .u8 (i:Int))) (ht:P.underlying t=some .string) (hs:s.data.toList=Px) (hi:i<256) :
  QS P N F L M ⟨dst,.index t x y,ty,pos,after,g⟩ (.int .u8 ((bitsLen i:Nat):Int)):=by
 have hz:s.size=256:=by
  have:s.data.toList.length=256:=by rw [hs]; simp [Px]
  rw [← this,Array.length_toList]; rfl
 have:=sT (P:=P) (N:=N) (F:=F) (L:=L) (dst:=dst) (ty:=ty) (pos:=pos) (after:=after) (g:=g) hx hy ht (by omega)
 have e:(s.data.toList.getD (i:Int).toNat 0).toNat=bitsLen i:=by
  rw [hs,Int.toNat_natCast,List.getD_eq_getElem?_getD]
  have h8:=BM hi
  simp [Px,hi]
  omega
 rwa [e] at this
end
theorem rowE.len {α β:Type} {V:Value} {T T':TypeId} {E:Enc α} {G:Enc β} {l:List α} {l':List β} {w w':World} (h:(rowE V T E l).holds w) (h':(rowE V T' G l').holds w'):l'.length=l.length:=by
 obtain ⟨a,c,e,_⟩:=(rowE.sl h).shape
 obtain ⟨a',c',e',_⟩:=(rowE.sl h').shape
 rw [e] at e'
 injection e' with _ e2
 exact e2.symm
theorem mi {α β:Type} {N:Nat} {F:Bg} {L:List Ent} {M:Fr} {V:Value} {T T':TypeId} {E:Enc α} {G:Enc β} {l0:List α} {l:List β} {w:World} {X:Act→World→Prop} (h:(rowE V T E l0).holds w) (hm:rowE V T' G l∈L) (K:l.length=l0.length→Tr N F L M X):Tr N F L M X :=
 fun a w' ha hw=>K (rowE.len h (hw.ent _ hm)) a w' ha hw
theorem HpOK.own {F:Bg} {L Lo R:List Ent} {w:World} (h:HpOK F L w) (hs:Split L Lo R):OwnAt w Lo:=(h.perm hs.perm.symm).ownAt.left
theorem w8 {x c:Nat} (h:2 ^ c≤x):bitsLen x=c+bitsLen (x / 2 ^ c):=by
 have key:∀ k,bitsLen x≤k↔c+bitsLen (x / 2 ^ c)≤k:=fun k=>by
  rw [bitsLen_le_iff]
  rcases Nat.lt_or_ge k c with hk|hk
  ·have:2 ^ k<2 ^ c:=Nat.pow_lt_pow_right (by decide) hk
   constructor<;>intro h'<;>omega
  ·obtain ⟨j,rfl⟩:∃ j,k=c+j:=⟨k - c,by omega⟩
   rw [show (c+bitsLen (x / 2 ^ c)≤c+j)↔bitsLen (x / 2 ^ c)≤j by omega,bitsLen_le_iff,Nat.div_lt_iff_lt_mul (Nat.two_pow_pos _),Nat.pow_add,Nat.mul_comm]
 exact Nat.le_antisymm ((key _).2 (Nat.le_refl _)) ((key _).1 (Nat.le_refl _))
theorem Qu {x:Nat} (h:65536≤x):bitsLen x=16+bitsLen (x / 2 ^ 16):=w8 h
theorem len8 {x:Nat} (h:256≤x):bitsLen x=8+bitsLen (x / 2 ^ 8):=w8 h
theorem vE {d:Array UInt32} {a b s:Nat} {i:Nat × Nat × Nat} (hi:i=order2 ltW d a b s) {n:Nat} (ha:a<n) (hb:b<n):i.1<n∧i.2.1<n∧i.2.2≤s+1:=by
 subst hi
 refine ⟨?_,?_,order2_count ltW d a b s⟩<;>unfold order2<;>split<;>assumption
theorem Bi {d:Array UInt32} {a b c s:Nat} {i:Nat × Nat} (hi:i=median ltW d a b c s) {n:Nat} (ha:a<n) (hb:b<n) (hc:c<n):i.1<n∧i.2≤s+3:=by
 subst hi
 refine ⟨?_,median_count ltW d a b c s⟩
 rcases median_mem ltW d a b c s with h|h|h<;>rw [h]<;>assumption
theorem H8 {d:Array UInt32} {a s:Nat} {i:Nat × Nat} (hi:i=medianAdjacent ltW d a s) {n:Nat} (ha:a+1<n):i.1<n∧i.2≤s+3:=Bi hi (by omega) (by omega) ha
theorem Om {d:Array UInt32} {a b:Nat} {i1 i2 i3 i4:Nat × Nat} (h:50≤b - a) (e1:i1=medianAdjacent ltW d (a+(b - a) / 4 * 1) 0) (e2:i2=medianAdjacent ltW d (a+(b - a) / 4 * 2) i1.2) (e3:i3=medianAdjacent ltW d (a+(b - a) / 4 * 3) i2.2)
  (e4:i4=median ltW d i1.1 i2.1 i3.1 i3.2):i4=rawPivot ltW d a b:=by
 subst e1 e2 e3 e4
 unfold rawPivot
 rw [if_pos (by omega),if_pos (by omega)]
theorem Ol {d:Array UInt32} {a b:Nat} {i4:Nat × Nat} (h8:8≤b - a) (h:b - a<50) (e4:i4=median ltW d (a+(b - a) / 4 * 1) (a+(b - a) / 4 * 2) (a+(b - a) / 4 * 3) 0):i4=rawPivot ltW d a b:=by
 subst e4
 unfold rawPivot
 rw [if_pos (by omega),if_neg (by omega)]
theorem LY {d:Array UInt32} {a b:Nat} (h8:b - a<8):((a+(b - a) / 4 * 2,0):Nat × Nat)=rawPivot ltW d a b:=by
 unfold rawPivot
 rw [if_neg (by omega)]
def wh (a len m i0:Nat):Nat→UInt64 × Array UInt32→UInt64 × Array UInt32
 | 0,st=>st
 | t+1,st=>breakStep a len m (wh a len m i0 t st) (i0+t)
theorem Nt {d:Array UInt32} {a b:Nat} (h:8≤b - a):breakPatterns d a b=(wh a (b - a) (1 <<< bitsLen (b - a)) (a+(b - a) / 4 * 2 - 1) 3 (UInt64.ofNat (b - a),d)).2:=by
 unfold breakPatterns
 simp only []
 rw [if_pos h]; rfl
theorem Ns {d:Array UInt32} {a b:Nat} (h:b - a<8):breakPatterns d a b=d:=by
 unfold breakPatterns
 simp only []
 rw [if_neg (by omega)]
theorem Nr {a len m i0 t:Nat} {st:UInt64 × Array UInt32} {r:UInt64} {cur:Array UInt32} {o:Nat} (h:wh a len m i0 t st=(r,cur)) (ho:o=if len≤((xorNext r).toNat &&& (m - 1)) then ((xorNext r).toNat &&& (m - 1)) - len else ((xorNext r).toNat &&& (m - 1))) :
  wh a len m i0 (t+1) st=(xorNext r,swp cur (i0+t) (a+o)):=by
 subst ho
 show breakStep a len m (wh a len m i0 t st) (i0+t)=_
 rw [h]; rfl
theorem PQ {n:Nat} (h:0<n):1≤1 <<< bitsLen n∧1 <<< bitsLen n≤2 * n:=by
 rw [Nat.one_shiftLeft]
 exact ⟨Nat.two_pow_pos _,two_pow_bitsLen_le h⟩
section
variable {d:Array UInt32} {a b limit:Nat} {wb wp:Bool}
theorem Ar (h:b - a≤12):pdq ltW d a b limit wb wp=insertionSort ltW d a b:=by rw [pdq,if_pos h]
theorem Cw (h:¬ b - a≤12) (h0:limit=0):pdq ltW d a b limit wb wp=heapSort ltW d a b:=by rw [pdq,if_neg h,if_pos h0]
structure Rnd (d:Array UInt32) (a b limit:Nat) (wb wp:Bool) (l1 pv:Nat) (d3:Array UInt32):Prop where
 done:∃ (d1 d2:Array UInt32) (c:Nat × Hint) (hint:Hint),d1=(if !wb then breakPatterns d a b else d)∧l1=(if !wb then limit - 1 else limit)∧c=choosePivot ltW d1 a b ∧
  d2=(if c.2=.decreasing then reverseRange d1 a b else d1)∧pv=(if c.2=.decreasing then (b - 1) - (c.1 - a) else c.1)∧hint=(if c.2=.decreasing then Hint.increasing else c.2) ∧
  (if wb && wp && hint=.increasing then partialInsertionSort ltW d2 a b else (d2,false))=(d3,false)
theorem Cx {d1 d2 d3:Array UInt32} {c:Nat × Hint} {hint:Hint} (h:¬ b - a≤12) (h0:¬ limit=0) (e1:d1=(if !wb then breakPatterns d a b else d)) (ec:c=choosePivot ltW d1 a b)
  (e3:d2=(if c.2=.decreasing then reverseRange d1 a b else d1)) (e5:hint=(if c.2=.decreasing then Hint.increasing else c.2)) (e6:(if wb && wp && hint=.increasing then partialInsertionSort ltW d2 a b else (d2,false))=(d3,true)) :
  pdq ltW d a b limit wb wp=d3:=by
 subst e1 ec e3 e5
 rw [pdq,if_neg h,if_neg h0]
 simp only [e6,if_true]
theorem yD {l1 pv:Nat} {d3:Array UInt32} (h:¬ b - a≤12) (h0:¬ limit=0) (r:Rnd d a b limit wb wp l1 pv d3) :
  pdq ltW d a b limit wb wp=if a > 0 && !ltW d3[a - 1]! d3[pv]! then
   (match partitionEqual ltW d3 a b pv with|(mid,d4)=>if _h:a<mid∧mid≤b then pdq ltW d4 mid b l1 wb wp else d4)
  else
   (match partition ltW d3 a b pv with
   | (mid,ap,d4) =>
    if _h:a≤mid∧mid<b then
     if mid - a<b - mid then pdq ltW (pdq ltW d4 a mid l1 true true) (mid+1) b l1 (decide (mid - a ≥ (b - a) / 8)) ap
     else pdq ltW (pdq ltW d4 (mid+1) b l1 true true) a mid l1 (decide (b - mid ≥ (b - a) / 8)) ap
    else d4):=by
 obtain ⟨d1,d2,c,hint,e1,e2,ec,e3,e4,e5,e6⟩:=r.done
 subst e1 ec e3 e5 e2 e4
 rw [pdq,if_neg h,if_neg h0]
 simp only [e6,Bool.false_eq_true,if_false]
theorem Ot {l1 pv mid:Nat} {d3 d4:Array UInt32} (h:¬ b - a≤12) (h0:¬ limit=0) (r:Rnd d a b limit wb wp l1 pv d3) (ha:0<a) (hl:ltW d3[a - 1]! d3[pv]! = false) (he:partitionEqual ltW d3 a b pv=(mid,d4)) (hm:a<mid∧mid≤b) :
  pdq ltW d a b limit wb wp=pdq ltW d4 mid b l1 wb wp:=by
 rw [yD h h0 r,if_pos (by simp [ha,hl]),he]
 simp only []
 rw [dif_pos hm]
theorem Cv {l1 pv mid:Nat} {d3 d4:Array UInt32} {ap:Bool} (h:¬ b - a≤12) (h0:¬ limit=0) (r:Rnd d a b limit wb wp l1 pv d3) (hl:a=0∨ltW d3[a - 1]! d3[pv]! = true) (he:partition ltW d3 a b pv=(mid,ap,d4)) (hm:a≤mid∧mid<b) (hs:mid - a<b - mid) :
  pdq ltW d a b limit wb wp=pdq ltW (pdq ltW d4 a mid l1 true true) (mid+1) b l1 (decide (mid - a ≥ (b - a) / 8)) ap:=by
 rw [yD h h0 r,if_neg (by simp only [Bool.and_eq_true,decide_eq_true_eq,Bool.not_eq_true']; rintro ⟨q1,q2⟩; rcases hl with q|q; omega; rw [q] at q2; cases q2),he]
 simp only []
 rw [dif_pos hm,if_pos hs]
theorem As {l1 pv mid:Nat} {d3 d4:Array UInt32} {ap:Bool} (h:¬ b - a≤12) (h0:¬ limit=0) (r:Rnd d a b limit wb wp l1 pv d3) (hl:a=0∨ltW d3[a - 1]! d3[pv]! = true) (he:partition ltW d3 a b pv=(mid,ap,d4)) (hm:a≤mid∧mid<b) (hs:¬ mid - a<b - mid) :
  pdq ltW d a b limit wb wp=pdq ltW (pdq ltW d4 (mid+1) b l1 true true) a mid l1 (decide (b - mid ≥ (b - a) / 8)) ap:=by
 rw [yD h h0 r,if_neg (by simp only [Bool.and_eq_true,decide_eq_true_eq,Bool.not_eq_true']; rintro ⟨q1,q2⟩; rcases hl with q|q; omega; rw [q] at q2; cases q2),he]
 simp only []
 rw [dif_pos hm,if_neg hs]
end
theorem Hj {d:Array UInt32} {a b pv:Nat} (h:a+1<b) (hb:b≤d.size):a<(partitionEqual ltW d a b pv).1∧(partitionEqual ltW d a b pv).1≤b:=by
 have:=partEqLoop_spec (lt:=ltW) a b _ (a+1) (b - 1) (swp d a pv) (Nat.le_refl _) (by omega) (by omega) (by omega) (by rw [qA]; exact hb) (fun t _ _=>by omega) (fun t _ _=>by omega)
 exact ⟨this.1,this.2.1⟩
theorem Mh {d:Array UInt32} {a b pv:Nat} (h1:a≤pv) (h2:pv<b) (hb:b≤d.size):a≤(partition ltW d a b pv).1∧(partition ltW d a b pv).1<b:=by
 have:=partition_holds (lt:=ltW) Cg d a b pv h1 h2 hb
 exact ⟨this.1,this.2.1⟩
theorem uS (h:Hint):hintCode h=2↔h=.decreasing:=by cases h<;>simp [hintCode]
theorem uR (h:Hint):hintCode h=1↔h=.increasing:=by cases h<;>simp [hintCode]
theorem Mf {wb wp:Bool} {hint:Hint} (h:(wb=true∧wp=true)∧hintCode hint=1):(wb && wp && decide (hint=.increasing))=true:=by
 rw [h.1.1,h.1.2,(uR hint).1 h.2]; rfl
theorem Qo {wb wp:Bool} {hint:Hint} (h:(wb=false∨wp=false)∨¬ hintCode hint=1):¬ (wb && wp && decide (hint=.increasing))=true:=by
 simp only [Bool.and_eq_true,decide_eq_true_eq]
 rintro ⟨⟨q1,q2⟩,q3⟩
 rcases h with (q|q)|q
 ·rw [q1] at q; cases q
 ·rw [q2] at q; cases q
 ·exact q ((uR hint).2 q3)
theorem Lq (d:Array UInt32):(sort ltW d).toList=d.toList.mergeSort (fun x y=>!ltW y x):=by
 have h:=sort_sorts ltW Cg d
 exact sorted_unique_holds (lt:=ltW) Cg (fun x y h1 h2=>by
  simp only [ltW,decide_eq_false_iff_not,UInt32.lt_iff_toNat_lt] at h1 h2
  exact UInt32.toNat_inj.1 (by omega)) d _ h.1 h.2
end Go.HL
namespace Go.HL
open Go
theorem HS (k:Ins) (s:Int) (b:List UInt8) (addr:UInt32):(wZ k s b addr).size=eK s∧(wZ k s b addr).addr=addr:=by
 unfold wZ ll
 repeat' split
 all_goals exact ⟨rfl,rfl⟩
theorem JF (s:Int):1≤eK s∧eK s≤6:=by unfold eK; repeat' split<;>omega
theorem Nc {b:List UInt8} {addr:UInt32} (h:(oy b addr).2=0):1≤(oy b addr).1.size∧(oy b addr).1.size≤b.length∧(oy b addr).1.addr=addr:=by
 unfold oy at h ⊢
 split at h
 ·simp at h
 ·rename_i h1
  rw [if_neg h1]
  split at h
  ·simp at h
  ·rename_i h2
   rw [if_neg h2]
   split at h
   ·simp at h
   ·rename_i h3
    rw [if_neg h3]
    dsimp only at h ⊢
    split at h
    ·simp at h
    ·rename_i h4
     rw [if_neg h4]
     obtain ⟨q1,q2⟩:=HS (rowP (b.getD 0 default)).1 (aB (rowP (b.getD 0 default)).1).2.1 b addr
     have:=JF (aB (rowP (b.getD 0 default)).1).2.1
     refine ⟨?_,?_,q2⟩
     ·rw [q1]; omega
     ·rw [q1]; omega
end Go.HL
namespace Go.HL
open Go Go.RowKit
def zb (i:Ins):Value:=.agg (al.enc i).toArray
theorem yM {z:Value} (hz:z=zb bh) (o:Option Ins):yN zb z o=.agg (al.enc (o.getD bh)).toArray:=by
 subst hz
 cases o<;>rfl
section
variable {P:Program} {ops:Array Oper} {Q:Exit→Act→World→Prop} {N:Nat} {F:Bg} {L:List Ent} {M:Fr} {dst:Option Tmp} {ty:TypeId} {pos:String} {after:Array Edge} {g:Option (Nat × Bool)} {rest:List Oper} {d:Nat}
theorem B1 {l:List (UInt32 × Ins)} {x y:Operand} {t K e:TypeId} {z:Value} {b:Nat} {k:UInt32} (hx:opv M x=some (.map (some b))) (hy:opv M y=some (.int .u32 k.toNat)) (hm:MapIn F.blk b zb l)
  (ht:P.underlying t=some (.map K e)) (hK:P.underlying K=some (.int .u32)) (hz:∀ w,(zeroValue e).run P w=.ok z w) (hzz:z=zb bh):QS P N F L M ⟨dst,.lookup t x y false,ty,pos,after,g⟩ (.agg (al.enc ((du l k).getD bh)).toArray):=by
 have h:=zZ (P:=P) (N:=N) (F:=F) (L:=L) (M:=M) (dst:=dst) (ty:=ty) (pos:=pos) (after:=after) (g:=g) hx hy hm ht hK hz
 rw [yM hzz] at h; exact h
theorem Ip {l:List (UInt32 × Ins)} {x y:Operand} {t K e:TypeId} {z:Value} {b:Nat} {k:UInt32} (hx:opv M x=some (.map (some b))) (hy:opv M y=some (.int .u32 k.toNat)) (hm:mapE b zb l∈L)
  (ht:P.underlying t=some (.map K e)) (hK:P.underlying K=some (.int .u32)) (hz:∀ w,(zeroValue e).run P w=.ok z w) (hzz:z=zb bh):QS P N F L M ⟨dst,.lookup t x y true,ty,pos,after,g⟩ (.tuple #[.agg (al.enc ((du l k).getD bh)).toArray,.bool (du l k).isSome]):=by
 have h:=B0 (P:=P) (N:=N) (F:=F) (L:=L) (M:=M) (dst:=dst) (ty:=ty) (pos:=pos) (after:=after) (g:=g) hx hy hm ht hK hz
 rw [yM hzz] at h; exact h
theorem GE {l:List (UInt32 × Ins)} {x y:Operand} {t K e:TypeId} {z:Value} {b:Nat} {k:UInt32} (hx:opv M x=some (.map (some b))) (hy:opv M y=some (.int .u32 k.toNat)) (hm:MapIn F.blk b zb l)
  (ht:P.underlying t=some (.map K e)) (hK:P.underlying K=some (.int .u32)) (hz:∀ w,(zeroValue e).run P w=.ok z w) (hzz:z=zb bh):QS P N F L M ⟨dst,.lookup t x y true,ty,pos,after,g⟩ (.tuple #[.agg (al.enc ((du l k).getD bh)).toArray,.bool (du l k).isSome]):=by
 have h:=zY (P:=P) (N:=N) (F:=F) (L:=L) (M:=M) (dst:=dst) (ty:=ty) (pos:=pos) (after:=after) (g:=g) hx hy hm ht hK hz
 rw [yM hzz] at h; exact h
theorem KQ {α:Type} {E:Enc α} {xs:List α} {x hi:Operand} {t e T:TypeId} {V:Value} {k:Nat} {kk:IntKind} {n:Int} {L1:List Ent} (hx:opv M x=some V) (hV:Del (rowE V T E xs) L L1) (hhi:opv M hi=some (.int kk n))
  (ht:P.underlying t=some (.slice e)) (hz:∀ w,(sizeOf e).run P w=.ok k w) (hn:0≤n∧n≤xs.length) (hd:Nat.ble (d+1) N=true)
  (K:∀ V',Tr N F (rowE V' T E (xs.take n.toNat) :: L1) ((d,V') :: M) (wpList P ops Q rest)):Tr N F L M (wpList P ops Q (⟨some d,.slice t x none (some hi) none,ty,pos,after,none⟩ :: rest)):=by
 intro a w ha hw
 refine wpList_plain rfl fun K' hK=>?_
 have hf:=hw.front hV
 have hrow:RowOK V T E xs (V.ownBlock.bind (w.heap[·]?)):=hf.ent _ (.head _)
 obtain ⟨m,rfl⟩:∃ m:Nat,n=(m:Int):=⟨n.toNat,by omega⟩
 have hm:m≤xs.length:=by omega
 obtain ⟨av,cv,hV',hle⟩:∃ av cv,V=.slice av xs.length cv∧xs.length≤cv:=by
  rcases hrow with ⟨rfl,rfl⟩|⟨gb,cap,cur,rfl,_,h1,_⟩
  ·exact ⟨none,0,rfl,Nat.le_refl _⟩
  ·exact ⟨_,_,rfl,h1⟩
 have hb:∀ w,(Instr.sliceBounds true xs.length cv none (some (.int kk (m:Int))) none).run P w=.ok (0,m,cv) w:=by
  intro w
  have:=wj (P:=P) (n:=xs.length) (c:=cv) (lo:=none) (hi:=some (kk,(m:Int))) w (by simp [mY]) (by simp [mY,l4]) (by simp only [l4]; omega) hle
  simpa [mY,l4] using this
 have hr:=ut (P:=P) ht hz w (a:=av) hb
 have hv:(if cv=0 then av else av.map (·.add (0 * k)))=av:=by
  split
  ·rfl
  ·cases av with
   | none=>rfl
   | some a0=>simp [Addr.add]
 rw [hv] at hr
 simp only [Nat.sub_zero] at hr
 unfold Oper.wp
 simp only [execOp,ha.eval hx,ha.eval hhi,Option.map_none,Option.map_some,Sem.run_bind,hV',hr,Result.andThen_ok,Sem.run_pure,Oper.upon]
 refine hK _ _ (K _ _ _ (ha.put (Nat.le_of_ble_eq_true hd)) ?_)
 subst hV'
 have hL1:HpOK F (rowE (.slice av xs.length cv) T E xs :: L1) w:=hf
 have htk:(xs.take ((m:Int)).toNat).length=m:=by rw [List.length_take,Int.toNat_natCast]; omega
 rcases hrow with ⟨h1,h2⟩|⟨gb,cap,cur,h1,ho,hc1,hc2,hc3,hc4⟩
 ·subst h2
  simp only [Value.slice.injEq] at h1
  obtain ⟨rfl,_,rfl⟩:=h1
  have hm0:m=0:=by simpa using hm
  subst hm0
  exact hL1
 ·simp only [Value.slice.injEq] at h1
  obtain ⟨rfl,_,rfl⟩:=h1
  have e1:rowE (.slice (some ⟨gb,0,none⟩) xs.length cv) T E xs=⟨some gb,RowOK (.slice (some ⟨gb,0,none⟩) xs.length cv) T E xs⟩:=rfl
  have e2:rowE (.slice (some ⟨gb,0,none⟩) m cv) T E (xs.take ((m:Int)).toNat)=⟨some gb,RowOK (.slice (some ⟨gb,0,none⟩) m cv) T E (xs.take ((m:Int)).toNat)⟩:=rfl
  rw [e1] at hL1
  rw [e2]
  refine HpOK.set hL1 (.here _) rfl rfl rfl (Nat.le_refl _) (Nat.le_refl _) (fun _ _ _=>rfl) ?_
  refine .inr ⟨gb,cv,cur,by rw [htk],ho,by rw [htk]; omega,hc2,hc3,?_⟩
  rw [htk,Int.toNat_natCast]
  have hle2:m * E.k≤xs.length * E.k:=Nat.mul_le_mul_right _ hm
  have h3:cur.toList.take (m * E.k)=(cur.toList.take (xs.length * E.k)).take (m * E.k):=by rw [List.take_take,Nat.min_eq_left hle2]
  rw [h3,hc4]
  have h4:xs.flatMap E.enc=(xs.take m).flatMap E.enc ++ (xs.drop m).flatMap E.enc:=by rw [← List.flatMap_append,List.take_append_drop]
  have h5:((xs.take m).flatMap E.enc).length=m * E.k:=by rw [de,List.length_take,Nat.min_eq_left hm]
  rw [h4,← h5,List.take_left]
end
end Go.HL
namespace Go.HL
open Go
structure TabV where
 data:List UInt32
 dp:Option Addr
 dc:Nat
 deriving Inhabited
def dU:Enc TabV:=⟨1,fun t=>[.slice t.dp t.data.length t.dc],fun _=>rfl,fun x v h=>by simp at h; subst h; rfl⟩
def TabIn (h:Hp) (l:List TabV):Prop:=∀ t∈l,Sl h aa t.data (.slice t.dp t.data.length t.dc)
theorem TabIn.mono {h h':Hp} {l:List TabV} (d:TabIn h l) (hh:Hp.le h h'):TabIn h' l:=fun s hs=>(d s hs).mono hh
def nf (ts:List TabV):Prop:=ts.length≤700∧∀ t∈ts,t.data.length≤64
def xh (l:List SecV) (a:UInt32):List UInt8:=((l.getD (bL l a).toNat default).data.drop (a - (l.getD (bL l a).toNat default).addr).toNat).take 6
def CG (l:List SecV) (a:UInt32):Bool:=decide (bL l a<0) || !(l.getD (bL l a).toNat default).ex
def atP (l:List SecV) (a:UInt32):Ins × Bool:=if CG l a=true then (bh,false) else ((oy (xh l a) a).1,decide ((oy (xh l a) a).2=0))
def uO (op:Int):Bool:=decide (op=21∨op=22∨op=24)
def eY (ts:List TabV) (at_:List UInt32) (a:UInt32):Option (List UInt32) :=
 if dA (fun x=>decide (a=x)) 0 at_<0 then none else some (ts.getD (dA (fun x=>decide (a=x)) 0 at_).toNat default).data
def bW (i:Ins):List UInt32:=if eN i=0 then (if (bG i).2=true then [(bG i).1] else []) ++ (if jf i=true then [] else [jT i]) else []
def iJ (ts:List TabV) (at_:List UInt32) (i:Ins):List UInt32:=bW i ++ (if uO i.op=true then (eY ts at_ i.addr).getD [] else [])
def eH (ts:List TabV) (at_:List UInt32) (i:Ins):List UInt32:=if i.op=23 then [i.imm] else if i.op=24 then (eY ts at_ i.addr).getD [] else []
def k6 (ts:List TabV) (at_:List UInt32) (i:Ins):Bool:=uO i.op && (eY ts at_ i.addr).isNone
def pw (ts:List TabV) (at_:List UInt32) (a:UInt32):Value :=
 if dA (fun x=>decide (a=x)) 0 at_<0 then .slice none 0 0 else
  .slice (ts.getD (dA (fun x=>decide (a=x)) 0 at_).toNat default).dp (ts.getD (dA (fun x=>decide (a=x)) 0 at_).toNat default).data.length (ts.getD (dA (fun x=>decide (a=x)) 0 at_).toNat default).dc
section
variable {ts:List TabV} {at_:List UInt32} {a:UInt32}
theorem vL (h:dA (fun x=>decide (a=x)) 0 at_<0):pw ts at_ a=.slice none 0 0:=by unfold pw; rw [if_pos h]
theorem vM (h:dA (fun x=>decide (a=x)) 0 at_<0):eY ts at_ a=none:=by unfold eY; rw [if_pos h]
theorem tJ (h:¬ dA (fun x=>decide (a=x)) 0 at_<0):pw ts at_ a=.slice (ts.getD (dA (fun x=>decide (a=x)) 0 at_).toNat default).dp (ts.getD (dA (fun x=>decide (a=x)) 0 at_).toNat default).data.length (ts.getD (dA (fun x=>decide (a=x)) 0 at_).toNat default).dc:=by unfold pw; rw [if_neg h]
theorem tK (h:¬ dA (fun x=>decide (a=x)) 0 at_<0):eY ts at_ a=some (ts.getD (dA (fun x=>decide (a=x)) 0 at_).toNat default).data:=by unfold eY; rw [if_neg h]
theorem yX {H:Hp} (hTI:TabIn H ts) (hTB:nf ts) (hl:ts.length=at_.length):Sl H aa ((eY ts at_ a).getD []) (pw ts at_ a):=by
 by_cases h:dA (fun x=>decide (a=x)) 0 at_<0
 ·rw [vM h,vL h]; exact Sl.nil _ _
 ·rw [tK h,tJ h]
  have:=jY (fun x=>decide (a=x)) at_ 0
  exact hTI _ (ba (by omega))
end
theorem ir (i:Ins):(bW i).length≤2:=by
 unfold bW
 repeat' split
 all_goals simp
theorem pT {ts:List TabV} (hT:nf ts) (at_:List UInt32) (a:UInt32):((eY ts at_ a).getD []).length≤64:=by
 unfold eY
 split
 ·simp
 ·simp only [Option.getD_some]
  by_cases h:(dA (fun x=>decide (a=x)) 0 at_).toNat<ts.length
  ·exact hT.2 _ (ba h)
  ·rw [List.getD_eq_getElem?_getD,List.getElem?_eq_none (by omega)]; exact Nat.zero_le _
theorem rS {ts:List TabV} (hT:nf ts) (at_:List UInt32) (i:Ins):(iJ ts at_ i).length≤66:=by
 have h1:=ir i
 have h2:=pT hT at_ i.addr
 unfold iJ
 rw [List.length_append]
 split
 ·omega
 ·simp; omega
theorem oW {l:List SecV} {a:UInt32} (h:(atP l a).2=true):(atP l a).1.addr=a∧CG l a=false∧(oy (xh l a) a).2=0:=by
 unfold atP at h ⊢
 split at h
 ·cases h
 ·rename_i hn
  rw [if_neg hn]
  have h':=of_decide_eq_true h
  exact ⟨(Nc h').2.2,by simpa using hn,h'⟩
inductive Reach (l:List SecV) (ts:List TabV) (at_ es:List UInt32):UInt32→Prop
 | ent (a:UInt32) (h:a∈es):Reach l ts at_ es a
 | step (b a:UInt32) (h:Reach l ts at_ es b) (hf:(atP l b).2=true) (ha:a∈iJ ts at_ (atP l b).1):Reach l ts at_ es a
structure CodeP where
 ins:List Ins
 ents:List UInt32
 unk:List UInt32
 bad:List UInt32
structure IsCode (l:List SecV) (ts:List TabV) (at_ es:List UInt32) (c:CodeP):Prop where
 ins:∃ ks:List UInt32,ks.Pairwise (·<·)∧(∀ a,a∈ks↔Reach l ts at_ es a∧(atP l a).2=true)∧c.ins=ks.map fun a=>(atP l a).1
 bad:c.bad.Pairwise (·<·)∧∀ a,a∈c.bad↔Reach l ts at_ es a∧(atP l a).2=false
 ents:c.ents.Pairwise (·<·)∧∀ a,a∈c.ents↔(Reach l ts at_ es a∧(atP l a).2=true)∧(a∈es∨∃ b,(Reach l ts at_ es b∧(atP l b).2=true)∧a∈eH ts at_ (atP l b).1)
 unk:c.unk.Pairwise (·<·)∧∀ a,a∈c.unk↔(Reach l ts at_ es a∧(atP l a).2=true)∧k6 ts at_ (atP l a).1=true
inductive WalkIs (l:List SecV) (ts:List TabV) (at_ es:List UInt32) (c:CodeP) (e:Int):Prop
 | arg (h:ts.length≠at_.length) (he:e=2) (hc:c=⟨[],[],[],[]⟩):WalkIs l ts at_ es c e
 | chk (h:ts.length=at_.length) (h1:fV l≠0) (he:e=fV l) (hc:c=⟨[],[],[],[]⟩):WalkIs l ts at_ es c e
 | ok (h:ts.length=at_.length) (h1:fV l=0) (he:e=0) (hc:IsCode l ts at_ es c):WalkIs l ts at_ es c e
theorem Pp {l:List UInt32} (h:l.Pairwise (·<·)):l.Pairwise (fun x y=>x≤y):=h.imp fun h=>by rw [UInt32.lt_iff_toNat_lt] at h; rw [UInt32.le_iff_toNat_le]; omega
theorem rQ {l:List UInt32} (h:l.Pairwise (·<·)):l.Nodup:=h.imp fun h e=>by subst e; simp at h
theorem zC {l l':List UInt32} (h:l.Pairwise (·<·)) (h':l'.Pairwise (·<·)) (hm:∀ a,a∈l↔a∈l'):l=l' :=
 vw ((List.perm_ext_iff_of_nodup (rQ h) (rQ h')).2 hm) (Pp h) (Pp h')
theorem ul {l:List UInt32} (h:l.Nodup):(hZ l).Pairwise (·<·):=by
 have h1:=mQ l
 have h2:(hZ l).Nodup:=(nD l).nodup_iff.2 h
 exact (List.pairwise_and_iff.2 ⟨h1,h2⟩).imp fun ⟨a,b⟩=>by
  rw [UInt32.le_iff_toNat_le] at a
  rw [UInt32.lt_iff_toNat_lt]
  have:¬ (_:UInt32).toNat=(_:UInt32).toNat:=fun e=>b (UInt32.toNat_inj.1 e)
  omega
theorem mW {l:List UInt32} {a:UInt32}:a∈hZ l↔a∈l:=(nD l).mem_iff
theorem IsCode.eq {l:List SecV} {ts:List TabV} {at_ es es':List UInt32} {c c':CodeP} (h:IsCode l ts at_ es c) (h':IsCode l ts at_ es' c') (hr:∀ a,Reach l ts at_ es a↔Reach l ts at_ es' a) (he:∀ a,a∈es↔a∈es'):c=c':=by
 obtain ⟨ks,k1,k2,k3⟩:=h.ins
 obtain ⟨ks',k1',k2',k3'⟩:=h'.ins
 have e1:ks=ks':=zC k1 k1' fun a=>by rw [k2,k2',hr]
 have e2:c.bad=c'.bad:=zC h.bad.1 h'.bad.1 fun a=>by rw [h.bad.2,h'.bad.2,hr]
 have e3:c.unk=c'.unk:=zC h.unk.1 h'.unk.1 fun a=>by rw [h.unk.2,h'.unk.2,hr]
 have e4:c.ents=c'.ents:=zC h.ents.1 h'.ents.1 fun a=>by rw [h.ents.2,h'.ents.2,hr,he]; simp only [hr]
 cases c; cases c'
 simp only at *
 rw [k3,k3',e1,e2,e3,e4]
theorem jU {α:Type} {m:List (UInt32 × α)} {k j:UInt32} {x:α}:j∈(fG m k x).map (·.1)↔j=k∨j∈m.map (·.1):=by
 rw [vH]
 split
 ·rename_i h
  constructor
  ·exact .inr
  ·rintro (rfl|h')
   ·exact mV.1 h
   ·exact h'
 ·simp only [List.mem_append,List.mem_singleton]
  exact ⟨fun h=>h.symm,fun h=>h.symm⟩
def iI (m:List (UInt32 × Bool)) (ks:List UInt32):List (UInt32 × Bool):=ks.foldl (fun m k=>fG m k true) m
theorem vI:∀ (ks:List UInt32) (m:List (UInt32 × Bool)) {j:UInt32},j∈(iI m ks).map (·.1)↔j∈ks∨j∈m.map (·.1)
 | [],m,j=>by simp [iI]
 | k :: ks,m,j=>by
  have ih:=vI ks (fG m k true) (j:=j)
  show j∈(iI (fG m k true) ks).map (·.1)↔_
  rw [ih,jU,List.mem_cons]
  constructor
  ·rintro (h|h|h)
   ·exact .inl (.inr h)
   ·exact .inl (.inl h)
   ·exact .inr h
  ·rintro ((h|h)|h)
   ·exact .inr (.inl h)
   ·exact .inl h
   ·exact .inr (.inr h)
theorem yO (m:List (UInt32 × Bool)) (ks:List UInt32) (k:UInt32):iI m (ks ++ [k])=fG (iI m ks) k true:=by simp [iI]
theorem HQ {ts:List TabV} {at_:List UInt32} {i:Ins} {ents m1:List (UInt32 × Bool)} (h:m1=if i.op=23 then fG ents i.imm true else ents) (hn:uO i.op=false):iI ents (eH ts at_ i)=m1:=by
 have hq:¬ i.op=24:=fun e=>by unfold uO at hn; rw [e] at hn; exact absurd hn (by decide)
 subst h
 unfold eH
 rw [if_neg hq]
 split<;>rfl
theorem Nq {ts:List TabV} {at_:List UInt32} {i:Ins} {ents m1 m2:List (UInt32 × Bool)} (h:m1=if i.op=23 then fG ents i.imm true else ents) (h2:m2=if i.op=24 then iI m1 ((eY ts at_ i.addr).getD []) else m1) (hn:uO i.op=true):iI ents (eH ts at_ i)=m2:=by
 have hq:¬ i.op=23:=fun e=>by unfold uO at hn; rw [e] at hn; exact absurd hn (by decide)
 rw [if_neg hq] at h
 subst h
 subst h2
 unfold eH
 rw [if_neg hq]
 split<;>rfl
theorem N3 {ts:List TabV} {at_:List UInt32} {i:Ins} {unk u1:List (UInt32 × Bool)} (h:u1=if (eY ts at_ i.addr).isSome=true then unk else fG unk i.addr true) (hn:uO i.op=true):(if k6 ts at_ i=true then fG unk i.addr true else unk)=u1:=by
 subst h
 unfold k6
 rw [hn,Bool.true_and]
 cases eY ts at_ i.addr<;>rfl
theorem vG:∀ (ks:List UInt32) (m:List (UInt32 × Bool)),(iI m ks).length≤m.length+ks.length
 | [],m=>by simp [iI]
 | k :: ks,m=>by
  have ih:=vG ks (fG m k true)
  have:=yP m k true
  show (iI (fG m k true) ks).length≤_
  rw [List.length_cons]; omega
structure DSt where
 ins:List (UInt32 × Ins)
 bad:List (UInt32 × Bool)
 ents:List (UInt32 × Bool)
 unk:List (UInt32 × Bool)
 rest:List UInt32
def stepD (l:List SecV) (ts:List TabV) (at_:List UInt32) (a:UInt32) (s:DSt) (r:List UInt32):DSt :=
 ⟨fG s.ins a (atP l a).1,s.bad,iI s.ents (eH ts at_ (atP l a).1),if k6 ts at_ (atP l a).1=true then fG s.unk (atP l a).1.addr true else s.unk,r ++ iJ ts at_ (atP l a).1⟩
structure DInv (l:List SecV) (ts:List TabV) (at_ es:List UInt32) (s:DSt):Prop where
 nIns:(s.ins.map (·.1)).Nodup
 nBad:(s.bad.map (·.1)).Nodup
 nEnts:(s.ents.map (·.1)).Nodup
 nUnk:(s.unk.map (·.1)).Nodup
 ins:∀ k x,du s.ins k=some x→Reach l ts at_ es k∧(atP l k).2=true∧x=(atP l k).1
 bad:∀ k x,du s.bad k=some x→Reach l ts at_ es k∧(atP l k).2=false∧x=true
 rest:∀ a∈s.rest,Reach l ts at_ es a
 start:∀ a∈es,a∈s.ins.map (·.1)∨a∈s.bad.map (·.1)∨a∈s.rest
 close:∀ k∈s.ins.map (·.1),∀ a∈iJ ts at_ (atP l k).1,a∈s.ins.map (·.1)∨a∈s.bad.map (·.1)∨a∈s.rest
 ents:∀ a,a∈s.ents.map (·.1)↔a∈es∨∃ k∈s.ins.map (·.1),a∈eH ts at_ (atP l k).1
 unk:∀ a,a∈s.unk.map (·.1)↔a∈s.ins.map (·.1)∧k6 ts at_ (atP l a).1=true
 lRest:s.rest.length+s.bad.length≤es.length+66 * s.ins.length
 lEnts:s.ents.length≤es.length+66 * s.ins.length
 lUnk:s.unk.length≤s.ins.length
section
variable {l:List SecV} {ts:List TabV} {at_ es:List UInt32} {s:DSt} {r:List UInt32} {a:UInt32}
theorem qL {α:Type} {m:List (UInt32 × α)} {k:UInt32} (h:k∈m.map (·.1)):∃ x,du m k=some x:=Option.isSome_iff_exists.1 (mV.2 h)
theorem CU {α:Type} {m:List (UInt32 × α)} {k:UInt32} {x:α} (h:du m k=some x):k∈m.map (·.1):=mV.1 (by rw [h]; rfl)
theorem DInv.begin:DInv l ts at_ es ⟨[],[],iI [] es,[],es⟩:=by
 refine ⟨List.nodup_nil,List.nodup_nil,?_,List.nodup_nil,fun k x h=>by simp [du] at h,fun k x h=>by simp [du] at h,fun a h=>.ent a h,fun a h=>.inr (.inr h),fun k h=>by simp at h,fun a=>?_,fun a=>by simp,by simp,?_,by simp⟩
 ·have:∀ (ks:List UInt32) (m:List (UInt32 × Bool)),(m.map (·.1)).Nodup→((iI m ks).map (·.1)).Nodup:=by
   intro ks
   induction ks with
   | nil=>intro m h; exact h
   | cons k ks ih=>intro m h; exact ih _ (nX k true h)
  exact this es [] List.nodup_nil
 ·show a∈(iI [] es).map (·.1)↔_
  rw [vI]; simp
 ·have:=vG es []
  simpa using this
theorem DInv.skip (h:DInv l ts at_ es s) (hr:s.rest=r ++ [a]) (hk:a∈s.ins.map (·.1)∨a∈s.bad.map (·.1)):DInv l ts at_ es { s with rest:=r }:=by
 have mv:∀ b,b∈s.ins.map (·.1)∨b∈s.bad.map (·.1)∨b∈s.rest→b∈s.ins.map (·.1)∨b∈s.bad.map (·.1)∨b∈r:=by
  rintro b (h1|h1|h1)
  ·exact .inl h1
  ·exact .inr (.inl h1)
  ·rw [hr] at h1
   rcases List.mem_append.1 h1 with h2|h2
   ·exact .inr (.inr h2)
   ·rw [List.mem_singleton.1 h2]
    rcases hk with hk|hk
    ·exact .inl hk
    ·exact .inr (.inl hk)
 refine ⟨h.nIns,h.nBad,h.nEnts,h.nUnk,h.ins,h.bad,fun b hb=>h.rest b (by rw [hr]; exact List.mem_append_left _ hb),fun b hb=>mv b (h.start b hb),fun k hk b hb=>mv b (h.close k hk b hb),h.ents,h.unk,?_,h.lEnts,h.lUnk⟩
 have:=h.lRest
 rw [hr,List.length_append,List.length_singleton] at this
 show r.length+s.bad.length≤es.length+66 * s.ins.length
 omega
theorem DInv.isBad (h:DInv l ts at_ es s) (hr:s.rest=r ++ [a]) (hf:(atP l a).2=false):DInv l ts at_ es { s with rest:=r,bad:=fG s.bad a true }:=by
 have mv:∀ b,b∈s.ins.map (·.1)∨b∈s.bad.map (·.1)∨b∈s.rest→b∈s.ins.map (·.1)∨b∈(fG s.bad a true).map (·.1)∨b∈r:=by
  rintro b (h1|h1|h1)
  ·exact .inl h1
  ·exact .inr (.inl (jU.2 (.inr h1)))
  ·rw [hr] at h1
   rcases List.mem_append.1 h1 with h2|h2
   ·exact .inr (.inr h2)
   ·exact .inr (.inl (jU.2 (.inl (List.mem_singleton.1 h2))))
 refine ⟨h.nIns,nX a true h.nBad,h.nEnts,h.nUnk,h.ins,fun k x hx=>?_,fun b hb=>h.rest b (by rw [hr]; exact List.mem_append_left _ hb),fun b hb=>mv b (h.start b hb),fun k hk b hb=>mv b (h.close k hk b hb),h.ents,h.unk,?_,h.lEnts,h.lUnk⟩
 ·have hx':du (fG s.bad a true) k=some x:=hx
  rw [uI] at hx'
  split at hx'
  ·rename_i e
   subst e
   cases hx'
   exact ⟨h.rest k (by rw [hr]; simp),hf,rfl⟩
  ·exact h.bad k x hx'
 ·have:=h.lRest
  have h2:=yP s.bad a true
  rw [hr,List.length_append,List.length_singleton] at this
  show r.length+(fG s.bad a true).length≤es.length+66 * s.ins.length
  omega
theorem DInv.found (hT:nf ts) (h:DInv l ts at_ es s) (hr:s.rest=r ++ [a]) (hf:(atP l a).2=true) (hn:a ∉ s.ins.map (·.1)):DInv l ts at_ es (stepD l ts at_ a s r):=by
 have ha:=(oW hf).1
 have hra:Reach l ts at_ es a:=h.rest a (by rw [hr]; simp)
 have mv:∀ b,b∈s.ins.map (·.1)∨b∈s.bad.map (·.1)∨b∈s.rest→b∈(fG s.ins a (atP l a).1).map (·.1)∨b∈s.bad.map (·.1)∨b∈r ++ iJ ts at_ (atP l a).1:=by
  rintro b (h1|h1|h1)
  ·exact .inl (jU.2 (.inr h1))
  ·exact .inr (.inl h1)
  ·rw [hr] at h1
   rcases List.mem_append.1 h1 with h2|h2
   ·exact .inr (.inr (List.mem_append_left _ h2))
   ·exact .inl (jU.2 (.inl (List.mem_singleton.1 h2)))
 have hlen:(fG s.ins a (atP l a).1).length=s.ins.length+1:=by
  rw [uH]
  ·simp
  ·cases hq:du s.ins a with
   | none=>rfl
   | some x=>exact absurd (CU hq) hn
 have hl:=rS hT at_ (atP l a).1
 have hcl:(eH ts at_ (atP l a).1).length≤66:=by
  have:=pT hT at_ (atP l a).1.addr
  unfold eH
  repeat' split
  all_goals simp<;>omega
 refine ⟨nX a _ h.nIns,h.nBad,?_,?_,fun k x hx=>?_,h.bad,fun b hb=>?_,fun b hb=>mv b (h.start b hb),fun k hk b hb=>?_,fun b=>?_,fun b=>?_,?_,?_,?_⟩
 ·have:∀ (ks:List UInt32) (m:List (UInt32 × Bool)),(m.map (·.1)).Nodup→((iI m ks).map (·.1)).Nodup:=by
   intro ks
   induction ks with
   | nil=>intro m h; exact h
   | cons k ks ih=>intro m h; exact ih _ (nX k true h)
  exact this _ _ h.nEnts
 ·show ((if k6 ts at_ (atP l a).1=true then fG s.unk (atP l a).1.addr true else s.unk).map (·.1)).Nodup
  split
  ·exact nX _ _ h.nUnk
  ·exact h.nUnk
 ·have hx':du (fG s.ins a (atP l a).1) k=some x:=hx
  rw [uI] at hx'
  split at hx'
  ·rename_i e
   subst e
   cases hx'
   exact ⟨hra,hf,rfl⟩
  ·exact h.ins k x hx'
 ·rcases List.mem_append.1 (show b∈r ++ iJ ts at_ (atP l a).1 from hb) with h1|h1
  ·exact h.rest b (by rw [hr]; exact List.mem_append_left _ h1)
  ·exact .step a b hra hf h1
 ·rcases jU.1 (show k∈(fG s.ins a (atP l a).1).map (·.1) from hk) with rfl|hk
  ·exact .inr (.inr (List.mem_append_right _ hb))
  ·exact mv b (h.close k hk b hb)
 ·show b∈(iI s.ents (eH ts at_ (atP l a).1)).map (·.1)↔b∈es∨∃ k∈(fG s.ins a (atP l a).1).map (·.1),_
  rw [vI,h.ents]
  constructor
  ·rintro (h1|h1|⟨k,h1,h2⟩)
   ·exact .inr ⟨a,jU.2 (.inl rfl),h1⟩
   ·exact .inl h1
   ·exact .inr ⟨k,jU.2 (.inr h1),h2⟩
  ·rintro (h1|⟨k,h1,h2⟩)
   ·exact .inr (.inl h1)
   ·rcases jU.1 h1 with rfl|h1
    ·exact .inl h2
    ·exact .inr (.inr ⟨k,h1,h2⟩)
 ·show b∈(if k6 ts at_ (atP l a).1=true then fG s.unk (atP l a).1.addr true else s.unk).map (·.1)↔b∈(fG s.ins a (atP l a).1).map (·.1)∧_
  rw [jU]
  split
  ·rename_i hu
   rw [jU,h.unk,ha]
   constructor
   ·rintro (rfl|⟨h1,h2⟩)
    ·exact ⟨.inl rfl,hu⟩
    ·exact ⟨.inr h1,h2⟩
   ·rintro ⟨h1|h1,h2⟩
    ·exact .inl h1
    ·exact .inr ⟨h1,h2⟩
  ·rename_i hu
   rw [h.unk]
   constructor
   ·rintro ⟨h1,h2⟩
    exact ⟨.inr h1,h2⟩
   ·rintro ⟨h1|h1,h2⟩
    ·subst h1; exact absurd h2 hu
    ·exact ⟨h1,h2⟩
 ·have:=h.lRest
  rw [hr,List.length_append,List.length_singleton] at this
  show (r ++ iJ ts at_ (atP l a).1).length+s.bad.length≤es.length+66 * (fG s.ins a (atP l a).1).length
  rw [hlen,List.length_append]
  omega
 ·have:=h.lEnts
  have h2:=vG (eH ts at_ (atP l a).1) s.ents
  show (iI s.ents (eH ts at_ (atP l a).1)).length≤es.length+66 * (fG s.ins a (atP l a).1).length
  rw [hlen]; omega
 ·have:=h.lUnk
  show (if k6 ts at_ (atP l a).1=true then fG s.unk (atP l a).1.addr true else s.unk).length≤(fG s.ins a (atP l a).1).length
  rw [hlen]
  split
  ·have:=yP s.unk (atP l a).1.addr true; omega
  ·omega
theorem DInv.all (h:DInv l ts at_ es s) (hr:s.rest=[]):∀ b,Reach l ts at_ es b→b∈s.ins.map (·.1)∨b∈s.bad.map (·.1):=by
 intro b hb
 have cut:∀ c,c∈s.ins.map (·.1)∨c∈s.bad.map (·.1)∨c∈s.rest→c∈s.ins.map (·.1)∨c∈s.bad.map (·.1):=by
  rintro c (h1|h1|h1)
  ·exact .inl h1
  ·exact .inr h1
  ·rw [hr] at h1; cases h1
 induction hb with
 | ent a ha=>exact cut a (h.start a ha)
 | step b a hb hf ha ih =>
  rcases ih with h1|h1
  ·exact cut a (h.close b h1 a ha)
  ·obtain ⟨x,hx⟩:=qL h1
   have:=(h.bad b x hx).2.1
   rw [hf] at this; cases this
theorem DInv.insKeys (h:DInv l ts at_ es s) (hr:s.rest=[]) (b:UInt32):b∈s.ins.map (·.1)↔Reach l ts at_ es b∧(atP l b).2=true:=by
 constructor
 ·intro h1
  obtain ⟨x,hx⟩:=qL h1
  exact ⟨(h.ins b x hx).1,(h.ins b x hx).2.1⟩
 ·rintro ⟨h1,h2⟩
  rcases h.all hr b h1 with h3|h3
  ·exact h3
  ·obtain ⟨x,hx⟩:=qL h3
   have:=(h.bad b x hx).2.1
   rw [h2] at this; cases this
theorem DInv.code (h:DInv l ts at_ es s) (hr:s.rest=[]):IsCode l ts at_ es ⟨(hZ (s.ins.map (·.1))).map fun a=>(atP l a).1,(hZ (s.ents.map (·.1))).filter fun a=>(du s.ins a).isSome,hZ (s.unk.map (·.1)),hZ (s.bad.map (·.1))⟩:=by
 refine ⟨⟨_,ul h.nIns,fun a=>by rw [mW]; exact h.insKeys hr a,rfl⟩,⟨ul h.nBad,fun a=>?_⟩,⟨(ul h.nEnts).filter _,fun a=>?_⟩,⟨ul h.nUnk,fun a=>?_⟩⟩
 ·show a∈hZ _↔_
  rw [mW]
  constructor
  ·intro h1
   obtain ⟨x,hx⟩:=qL h1
   exact ⟨(h.bad a x hx).1,(h.bad a x hx).2.1⟩
  ·rintro ⟨h1,h2⟩
   rcases h.all hr a h1 with h3|h3
   ·have:=((h.insKeys hr a).1 h3).2
    rw [h2] at this; cases this
   ·exact h3
 ·show a∈(hZ _).filter _↔_
  rw [List.mem_filter,mW,h.ents,mV,h.insKeys hr]
  constructor
  ·rintro ⟨h1|⟨k,h1,h2⟩,h3⟩
   ·exact ⟨h3,.inl h1⟩
   ·exact ⟨h3,.inr ⟨k,(h.insKeys hr k).1 h1,h2⟩⟩
  ·rintro ⟨h3,h1|⟨k,h1,h2⟩⟩
   ·exact ⟨.inl h1,h3⟩
   ·exact ⟨.inr ⟨k,(h.insKeys hr k).2 h1,h2⟩,h3⟩
 ·show a∈hZ _↔_
  rw [mW,h.unk,h.insKeys hr]
end
theorem Hr {α:Type} [Inhabited α] {xs:List α} (h:0<xs.length):xs=xs.take ((xs.length:Int) - 1).toNat ++ [xs.getD ((xs.length:Int) - 1).toNat default]:=by
 obtain ⟨n,hn⟩:∃ n,((xs.length:Int) - 1).toNat=n:=⟨_,rfl⟩
 rw [hn]
 have h1:n+1=xs.length:=by omega
 have:=bN (l:=xs) (k:=n) (by omega)
 rw [← this,h1,List.take_length]
theorem Ef {ins:List (UInt32 × Ins)} {bad:List (UInt32 × Bool)} {a:UInt32} (h:(du ins a).isSome=true∨(du bad a).getD false=true):a∈ins.map (·.1)∨a∈bad.map (·.1):=by
 rcases h with h|h
 ·exact .inl (mV.1 h)
 ·right
  cases hq:du bad a with
  | none=>rw [hq] at h; cases h
  | some x=>exact CU hq
theorem IA {ins:List (UInt32 × Ins)} {bad:List (UInt32 × Bool)} {a:UInt32} (h:(du ins a).isSome=false∧(du bad a).getD false=false):a ∉ ins.map (·.1):=fun hq=>by
 have:=mV.2 hq
 rw [h.1] at this; cases this
theorem PS {l:List SecV} {ts:List TabV} {at_ es:List UInt32} {s:DSt} (h:DInv l ts at_ es s) {k:UInt32} (hk:k∈s.ins.map (·.1)):(du s.ins k).getD bh=(atP l k).1:=by
 obtain ⟨x,hx⟩:=qL hk
 rw [hx]; exact (h.ins k x hx).2.2
theorem pp {α β:Type} [Inhabited α] (f:α→β) {l:List α} {k:Nat} (h:k<l.length):(l.take k).map f ++ [f (l.getD k default)]=(l.take (k+1)).map f:=by
 rw [bN h,List.map_append]; rfl
theorem xt {α:Type} [Inhabited α] {p:α→Bool} {l:List α} {k:Nat} (h:k<l.length) (hp:p (l.getD k default)=true):(l.take k).filter p ++ [l.getD k default]=(l.take (k+1)).filter p:=by
 rw [bN h,List.filter_append,List.filter_cons_of_pos hp]; rfl
theorem zj {α:Type} [Inhabited α] {p:α→Bool} {l:List α} {k:Nat} (h:k<l.length) (hp:p (l.getD k default)=false):(l.take k).filter p=(l.take (k+1)).filter p:=by
 rw [bN h,List.filter_append,List.filter_cons_of_neg (by rw [hp]; simp)]; simp
theorem Nv (l:List SecV) (a:UInt32):InsOK (atP l a).1:=by
 unfold atP
 split
 ·constructor<;>exact ⟨by decide,by decide⟩
 ·exact P5
def yn (l:List SecV):List UInt32:=l.flatMap fun s=>(List.range s.data.length).map fun i=>s.addr+UInt32.ofNat i
def totD (l:List SecV):Nat:=(l.map fun s=>s.data.length).sum
theorem um (l:List SecV):(yn l).length=totD l:=by
 induction l with
 | nil=>rfl
 | cons s l ih =>
  show (((List.range s.data.length).map fun i=>s.addr+UInt32.ofNat i) ++ yn l).length=_
  rw [List.length_append,List.length_map,List.length_range,ih]
  simp [totD]
theorem xU {l:List SecV} {a:UInt32} (h:(atP l a).2=true):a∈yn l:=by
 obtain ⟨_,h1,_⟩:=oW h
 unfold CG at h1
 simp only [Bool.or_eq_false_iff,decide_eq_false_iff_not] at h1
 have hf:0≤bL l a:=by omega
 have hlt:=j1 (l:=l) (a:=a)
 have hin:=oN.1 (qb (l:=l) (a:=a) hf)
 refine List.mem_flatMap.2 ⟨l.getD (bL l a).toNat default,ba (by omega),?_⟩
 obtain ⟨s,hs⟩:∃ s,s=l.getD (bL l a).toNat default:=⟨_,rfl⟩
 rw [← hs] at hin ⊢
 have hen:m0 s≤(s.addr.toNat:Int)+s.data.length:=by unfold m0; omega
 have ha:=a.toNat_lt
 refine List.mem_map.2 ⟨a.toNat - s.addr.toNat,List.mem_range.2 (by omega),?_⟩
 rw [← UInt32.toNat_inj,UInt32.toNat_add,UInt32.toNat_ofNat']
 omega
theorem DInv.count {l:List SecV} {ts:List TabV} {at_ es:List UInt32} {s:DSt} (h:DInv l ts at_ es s):s.ins.length≤totD l:=by
 have:=nG (l:=s.ins.map (·.1)) (l':=yn l) h.nIns fun k hk=>by
  obtain ⟨x,hx⟩:=qL hk
  exact xU (h.ins k x hx).2.1
 rw [List.length_map,um] at this
 exact this
end Go.HL
namespace Go.HL
section
variable {α:Type} [Inhabited α]
structure WO (lt:α→α→Bool):Prop where
 irr:∀ x,lt x x=false
 tr:∀ x y z,lt x y=true→lt y z=true→lt x z=true
 ntr:∀ x y z,lt x y=false→lt y z=false→lt x z=false
theorem WO.asym {lt:α→α→Bool} (h:WO lt) {x y:α} (e:lt x y=true):lt y x=false:=by
 cases e2:lt y x
 ·rfl
 ·have:=h.tr _ _ _ e e2; rw [h.irr] at this; cases this
theorem WO.lt_le {lt:α→α→Bool} (h:WO lt) {x y z:α} (e:lt x y=true) (e2:lt z y=false):lt x z=true:=by
 cases e3:lt x z
 ·rw [h.ntr _ _ _ e3 e2] at e; cases e
 ·rfl
theorem WO.le_lt {lt:α→α→Bool} (h:WO lt) {x y z:α} (e:lt y x=false) (e2:lt y z=true):lt x z=true:=by
 cases e3:lt x z
 ·rw [h.ntr _ _ _ e e3] at e2; cases e2
 ·rfl
def eqv (lt:α→α→Bool) (z x:α):Bool:=!lt z x && !lt x z
def Stab (lt:α→α→Bool) (l l':List α):Prop:=l.Perm l'∧∀ z,l.filter (eqv lt z)=l'.filter (eqv lt z)
theorem Stab.refl (lt:α→α→Bool) (l:List α):Stab lt l l:=⟨.refl _,fun _=>rfl⟩
theorem Stab.trans {lt:α→α→Bool} {a b c:List α} (h:Stab lt a b) (k:Stab lt b c):Stab lt a c:=⟨h.1.trans k.1,fun z=>(h.2 z).trans (k.2 z)⟩
theorem Stab.len {lt:α→α→Bool} {a b:List α} (h:Stab lt a b):b.length=a.length:=h.1.length_eq.symm
theorem Stab.symm {lt:α→α→Bool} {a b:List α} (h:Stab lt a b):Stab lt b a:=⟨h.1.symm,fun z=>(h.2 z).symm⟩
theorem AA {lt:α→α→Bool} (h:WO lt) {X Y:List α} (hc:∀ x∈X,∀ y∈Y,lt y x=true) (z:α):X.filter (eqv lt z)=[]∨Y.filter (eqv lt z)=[]:=by
 cases hX:X.filter (eqv lt z) with
 | nil=>exact .inl rfl
 | cons x t =>
  refine .inr ?_
  rw [List.filter_eq_nil_iff]
  intro y hy he
  have hx:x∈X.filter (eqv lt z):=by rw [hX]; exact .head _
  obtain ⟨hx1,hx2⟩:=List.mem_filter.1 hx
  simp only [eqv,Bool.and_eq_true,Bool.not_eq_true'] at he hx2
  have:=hc x hx1 y hy
  rw [h.ntr _ _ _ he.2 hx2.1] at this
  cases this
theorem Stab.swap {lt:α→α→Bool} (h:WO lt) (P X Y S:List α) (hc:∀ x∈X,∀ y∈Y,lt y x=true):Stab lt (P ++ (X ++ (Y ++ S))) (P ++ (Y ++ (X ++ S))):=by
 refine ⟨List.Perm.append_left _ (by rw [← List.append_assoc,← List.append_assoc]; exact List.perm_append_comm.append_right _),fun z=>?_⟩
 simp only [List.filter_append]
 rcases AA h hc z with e|e<;>rw [e]<;>simp
theorem vv {lt:α→α→Bool} (h:WO lt):∀ (l l':List α),Stab lt l l'→l.Pairwise (fun x y=>lt y x=false)→l'.Pairwise (fun x y=>lt y x=false)→l=l'
 | [],l',s,_,_=>by have:=s.len; simp at this; exact this.symm
 | x :: t,[],s,_,_=>by have:=s.len; simp at this
 | x :: t,y :: t',s,h1,h2=>by
  rw [List.pairwise_cons] at h1 h2
  have hxy:lt x y=false:=by
   have:x∈y :: t':=s.1.subset (.head _)
   rcases List.mem_cons.1 this with rfl|hm
   ·exact h.irr _
   ·exact h2.1 _ hm
  have hyx:lt y x=false:=by
   have:y∈x :: t:=s.1.symm.subset (.head _)
   rcases List.mem_cons.1 this with rfl|hm
   ·exact h.irr _
   ·exact h1.1 _ hm
  have ex:x=y:=by
   have:=s.2 x
   rw [List.filter_cons_of_pos (by simp [eqv,h.irr]),List.filter_cons_of_pos (by simp [eqv,hxy,hyx])] at this
   exact (List.cons.inj this).1
  subst ex
  have st:Stab lt t t':=⟨(List.perm_cons x).1 s.1,fun z=>by
   have:=s.2 z
   simp only [List.filter_cons] at this
   split at this
   ·exact (List.cons.inj this).2
   ·exact this⟩
  rw [vv h t t' st h1.2 h2.2]
def mp (f:Nat→Nat) (l:List α):List α:=(List.range l.length).map fun k=>l.getD (f k) default
theorem iN (f:Nat→Nat) (l:List α):(mp f l).length=l.length:=by simp [mp]
theorem ju {f:Nat→Nat} {l:List α} {k:Nat} (h:k<l.length):(mp f l).getD k default=l.getD (f k) default:=by
 simp [mp,List.getD_eq_getElem?_getD,h]
theorem rZ {l l':List α} (h:l.length=l'.length) (e:∀ k,k<l.length→l.getD k default=l'.getD k default):l=l':=by
 refine List.ext_getElem h fun k h1 h2=>?_
 have:=e k h1
 simpa [List.getD_eq_getElem?_getD,h1,h2] using this
theorem Po {f:Nat→Nat} {l:List α} (h:∀ k,k<l.length→f k=k):mp f l=l :=
 rZ (iN _ _) fun k hk=>by rw [iN] at hk; rw [ju hk,h k hk]
theorem EO {f g k:Nat→Nat} {l:List α} (h:∀ x,x<l.length→f x<l.length) (e:∀ x,x<l.length→g (f x)=k x):mp f (mp g l)=mp k l :=
 rZ (by simp [iN]) fun x hx=>by
  rw [iN,iN] at hx
  rw [ju (by rw [iN]; exact hx),ju (h x hx),ju hx,e x hx]
theorem Mo {f g:Nat→Nat} {l:List α} (e:∀ x,x<l.length→f x=g x):mp f l=mp g l :=
 rZ (by simp [iN]) fun x hx=>by rw [iN] at hx; rw [ju hx,ju hx,e x hx]
def swF (p q k:Nat):Nat:=if k=p then q else if k=q then p else k
def swR (a b n k:Nat):Nat:=if a≤k∧k<a+n then k - a+b else if b≤k∧k<b+n then k - b+a else k
def dF (lo m hi k:Nat):Nat:=if lo≤k∧k<lo+(hi - m) then k+(m - lo) else if lo+(hi - m)≤k∧k<hi then k - (hi - m) else k
theorem vu (p q k:Nat):(k=p∧swF p q k=q)∨(k≠p∧k=q∧swF p q k=p)∨(k≠p∧k≠q∧swF p q k=k):=by simp only [swF]; grind
theorem pO (a b n k:Nat):(a≤k∧k<a+n∧swR a b n k=k - a+b)∨(¬ (a≤k∧k<a+n)∧b≤k∧k<b+n∧swR a b n k=k - b+a)∨(¬ (a≤k∧k<a+n)∧¬ (b≤k∧k<b+n)∧swR a b n k=k):=by simp only [swR]; grind
theorem fS (lo m hi k:Nat):(lo≤k∧k<lo+(hi - m)∧dF lo m hi k=k+(m - lo))∨(¬ (lo≤k∧k<lo+(hi - m))∧lo+(hi - m)≤k∧k<hi∧dF lo m hi k=k - (hi - m))∨(¬ (lo≤k∧k<lo+(hi - m))∧¬ (lo+(hi - m)≤k∧k<hi)∧dF lo m hi k=k):=by simp only [dF]; grind
theorem IM {l:List α} {p q:Nat} (hp:p<l.length) (hq:q<l.length):(l.set p (l.getD q default)).set q (l.getD p default)=mp (swF p q) l :=
 rZ (by simp [iN]) fun k hk=>by
  have hk':k<l.length:=by simpa using hk
  rw [ju hk']
  simp only [List.getD_eq_getElem?_getD,List.getElem?_set,List.length_set,swF]
  grind
theorem Qi {a b:Nat} {l:List α}:mp (swR a b 0) l=l:=Po fun k _=>by simp only [swR]; split<;>(try split)<;>omega
theorem Ll {a b n i:Nat} {l:List α} (h1:a+n≤b) (h2:b+n≤l.length) (hi:i<n):mp (swF (a+i) (b+i)) (mp (swR a b i) l)=mp (swR a b (i+1)) l :=
 EO (fun x hx=>by simp only [swF]; split<;>(try split)<;>omega) fun x hx=>by
  have h3:=vu (a+i) (b+i) x
  have h4:=pO a b i (swF (a+i) (b+i) x)
  have h5:=pO a b (i+1) x
  omega
theorem IE {lo m hi k n:Nat} (h1:lo≤m) (h2:m≤hi) (h3:hi≤n) (h:k<n):dF lo m hi k<n:=by simp only [dF]; split<;>(try split)<;>omega
theorem PD {m i j:Nat} {l:List α} (h1:i≤m) (h2:m+j≤l.length) (h:j<i):mp (dF (m - (i - j)) m (m+j)) (mp (swR (m - i) m j) l)=mp (dF (m - i) m (m+j)) l :=
 EO (fun x hx=>IE (by omega) (by omega) h2 hx) fun x hx=>by
  have h3:=fS (m - (i - j)) m (m+j) x
  have h4:=pO (m - i) m j (dF (m - (i - j)) m (m+j) x)
  have h5:=fS (m - i) m (m+j) x
  omega
theorem PC {m i j:Nat} {l:List α} (h1:i≤m) (h2:m+j≤l.length) (h:i<j):mp (dF (m - i) m (m+(j - i))) (mp (swR (m - i) (m+j - i) i) l)=mp (dF (m - i) m (m+j)) l :=
 EO (fun x hx=>IE (by omega) (by omega) (by omega) hx) fun x hx=>by
  have h3:=fS (m - i) m (m+(j - i)) x
  have h4:=pO (m - i) (m+j - i) i (dF (m - i) m (m+(j - i)) x)
  have h5:=fS (m - i) m (m+j) x
  omega
theorem PE {m i:Nat} {l:List α} (h1:i≤m):mp (swR (m - i) m i) l=mp (dF (m - i) m (m+i)) l :=
 Mo fun x hx=>by
  have h4:=pO (m - i) m i x
  have h5:=fS (m - i) m (m+i) x
  omega
theorem Eo {l:List α} {i j:Nat} (h:0<j) (hj:j≤i) (hi:i<l.length):mp (swF j (j - 1)) (mp (dF j i (i+1)) l)=mp (dF (j - 1) i (i+1)) l :=
 EO (fun x hx=>by simp only [swF]; split<;>(try split)<;>omega) fun x hx=>by
  have h3:=vu j (j - 1) x
  have h4:=fS j i (i+1) (swF j (j - 1) x)
  have h5:=fS (j - 1) i (i+1) x
  omega
theorem Pz {l:List α} {a k:Nat} (h:a≤k) (hk:k+1<l.length):mp (swF k (k+1)) (mp (dF a (a+1) (k+1)) l)=mp (dF a (a+1) (k+2)) l :=
 EO (fun x hx=>by simp only [swF]; split<;>(try split)<;>omega) fun x hx=>by
  have h3:=vu k (k+1) x
  have h4:=fS a (a+1) (k+1) (swF k (k+1) x)
  have h5:=fS a (a+1) (k+2) x
  omega
theorem uv {l:List α} {a m b:Nat} (h:a=m∨m=b) (h1:a≤m) (h2:m≤b):mp (dF a m b) l=l:=Po fun k _=>by have:=fS a m b k; omega
theorem LG {l:List α} {a m b:Nat} (h1:a≤m) (h2:m≤b) (h3:b≤l.length) :
  mp (dF a m b) l=l.take a ++ ((l.take b).drop m ++ ((l.take m).drop a ++ l.drop b)):=by
 refine rZ (by simp [iN]; omega) fun k hk=>?_
 rw [iN] at hk
 rw [ju hk]
 simp only [List.getD_eq_getElem?_getD,List.getElem?_append,List.length_take,List.length_drop,List.getElem?_take,List.getElem?_drop,dF]
 congr 1
 grind
theorem tH {l:List α} {a m b:Nat} (h1:a≤m) (h2:m≤b) (h3:b≤l.length) :
  l=l.take a ++ ((l.take m).drop a ++ ((l.take b).drop m ++ l.drop b)):=by
 refine rZ (by simp; omega) fun k hk=>?_
 simp only [List.getD_eq_getElem?_getD,List.getElem?_append,List.length_take,List.length_drop,List.getElem?_take,List.getElem?_drop]
 congr 1
 grind
theorem CM {l:List α} {a b:Nat} {x:α} (h:x∈(l.take b).drop a):∃ k,a≤k∧k<b∧k<l.length∧x=l.getD k default:=by
 obtain ⟨i,hi⟩:=List.mem_iff_getElem?.1 h
 rw [List.getElem?_drop,List.getElem?_take] at hi
 split at hi
 ·refine ⟨a+i,by omega,by omega,(List.getElem?_eq_some_iff.1 hi).1,by simp [List.getD_eq_getElem?_getD,hi]⟩
 ·cases hi
theorem NY {l:List α} {a b k:Nat} (h1:a≤k) (h2:k<b) (h3:k<l.length):l.getD k default∈(l.take b).drop a:=by
 refine List.mem_iff_getElem?.2 ⟨k - a,?_⟩
 rw [List.getElem?_drop,List.getElem?_take,if_pos (by omega),show a+(k - a)=k by omega]
 simp [List.getD_eq_getElem?_getD,h3]
theorem Stab.rot {lt:α→α→Bool} (h:WO lt) {l:List α} {a m b:Nat} (h1:a≤m) (h2:m≤b) (h3:b≤l.length)
  (hc:∀ x y,a≤x→x<m→m≤y→y<b→lt (l.getD y default) (l.getD x default)=true):Stab lt l (mp (dF a m b) l):=by
 rw [LG h1 h2 h3]
 conv=>lhs; rw [tH h1 h2 h3]
 refine Stab.swap h _ _ _ _ fun x hx y hy=>?_
 obtain ⟨i,a1,a2,a3,rfl⟩:=CM hx
 obtain ⟨j,b1,b2,b3,rfl⟩:=CM hy
 exact hc i j a1 a2 b1 b2
def Fram (a b:Nat) (l l':List α):Prop:=l'.length=l.length∧∀ k,k<a∨b≤k→l'.getD k default=l.getD k default
theorem Fram.refl (a b:Nat) (l:List α):Fram a b l l:=⟨rfl,fun _ _=>rfl⟩
theorem Fram.trans {a b:Nat} {l m n:List α} (h:Fram a b l m) (k:Fram a b m n):Fram a b l n:=⟨k.1.trans h.1,fun x hx=>(k.2 x hx).trans (h.2 x hx)⟩
theorem Fram.mono {a b c d:Nat} {l m:List α} (h:Fram a b l m) (h1:c≤a) (h2:b≤d):Fram c d l m:=⟨h.1,fun x hx=>h.2 x (by omega)⟩
theorem Fram.rot {a b s m e:Nat} {l:List α} (h1:a≤s) (h2:e≤b) (h3:s≤m) (h4:m≤e):Fram a b l (mp (dF s m e) l) :=
 ⟨iN _ _,fun k hk=>by
  by_cases h:k<l.length
  ·rw [ju h,show dF s m e k=k by have:=fS s m e k; omega]
  ·have e1:=List.getElem?_eq_none (l:=mp (dF s m e) l) (i:=k) (by rw [iN]; omega)
   have e2:=List.getElem?_eq_none (l:=l) (i:=k) (by omega)
   rw [List.getD_eq_getElem?_getD,List.getD_eq_getElem?_getD,e1,e2]⟩
theorem Ld {lt:α→α→Bool} {l l':List α} {a b k:Nat} (s:Stab lt l l') (f:Fram a b l l') (hb:b≤l.length) (h1:a≤k) (h2:k<b):∃ j,a≤j∧j<b∧l'.getD k default=l.getD j default:=by
 have hl:=f.1
 have e1:l'.take a=l.take a:=rZ (by simp [hl]) fun x hx=>by
  have hx':x<a:=by simp at hx; omega
  have:=f.2 x (.inl hx')
  simpa [List.getD_eq_getElem?_getD,List.getElem?_take,hx'] using this
 have e2:l'.drop b=l.drop b:=rZ (by simp [hl]) fun x hx=>by
  have:=f.2 (b+x) (.inr (by omega))
  simpa [List.getD_eq_getElem?_getD,List.getElem?_drop] using this
 have p1:=s.1
 rw [tH (l:=l) (a:=a) (m:=b) (b:=b) (by omega) (Nat.le_refl _) hb,tH (l:=l') (a:=a) (m:=b) (b:=b) (by omega) (Nat.le_refl _) (by omega),e1,e2] at p1
 have p2:=(List.perm_append_left_iff _).1 p1
 have e3:∀ x:List α,(x.take b).drop b=[]:=fun x=>by simp
 rw [e3,e3,List.nil_append] at p2
 have p3:=(List.perm_append_right_iff _).1 p2
 obtain ⟨j,a1,a2,a3,a4⟩:=CM (p3.symm.subset (NY (l:=l') h1 h2 (by omega)))
 exact ⟨j,a1,a2,a4⟩
def Srt (lt:α→α→Bool) (l:List α) (a b:Nat):Prop:=∀ p q,a≤p→p<q→q<b→lt (l.getD q default) (l.getD p default)=false
theorem Srt.sub {lt:α→α→Bool} {l:List α} {a b c d:Nat} (h:Srt lt l a b) (h1:a≤c) (h2:d≤b):Srt lt l c d:=fun p q x y z=>h p q (by omega) y (by omega)
theorem Srt.one {lt:α→α→Bool} {l:List α} {a b:Nat} (h:b≤a+1):Srt lt l a b:=fun p q x y z=>by omega
theorem Srt.fram {lt:α→α→Bool} {l l':List α} {a b c d:Nat} (h:Srt lt l a b) (f:Fram c d l l') (hd:b≤c∨d≤a):Srt lt l' a b:=fun p q x y z=>by
 rw [f.2 p (by omega),f.2 q (by omega)]; exact h p q x y z
theorem Srt.all {lt:α→α→Bool} {l:List α} (h:Srt lt l 0 l.length):l.Pairwise fun x y=>lt y x=false:=by
 rw [List.pairwise_iff_getElem]
 intro i j hi hj hij
 have:=h i j (Nat.zero_le _) hij hj
 simpa [List.getD_eq_getElem?_getD,hi,hj] using this
theorem Srt.le {lt:α→α→Bool} (h:WO lt) {l:List α} {a b p q:Nat} (s:Srt lt l a b) (h1:a≤p) (h2:p≤q) (h3:q<b):lt (l.getD q default) (l.getD p default)=false:=by
 rcases Nat.eq_or_lt_of_le h2 with rfl|h2
 ·exact h.irr _
 ·exact s p q h1 h2 h3
theorem Srt.glue {lt:α→α→Bool} {l:List α} {a m b:Nat} (h1:Srt lt l a m) (h2:Srt lt l m b) (hc:∀ p q,a≤p→p<m→m≤q→q<b→lt (l.getD q default) (l.getD p default)=false):Srt lt l a b:=fun p q x y z=>by
 by_cases hq:q<m
 ·exact h1 p q x y hq
 ·by_cases hp:p<m
  ·exact hc p q x hp (by omega) z
  ·exact h2 p q (by omega) y z
theorem Iz {lt:α→α→Bool} (h:WO lt) {l:List α} {a i j:Nat} (hs:Srt lt l a i) (hi:i<l.length) (h1:a≤j) (h2:j≤i) (hA:∀ q,j≤q→q<i→lt (l.getD i default) (l.getD q default)=true)
  (hB:j=a∨lt (l.getD i default) (l.getD (j - 1) default)=false):Stab lt l (mp (dF j i (i+1)) l)∧Srt lt (mp (dF j i (i+1)) l) a (i+1):=by
 refine ⟨Stab.rot h h2 (by omega) (by omega) fun x y a1 a2 a3 a4=>by rw [show y=i by omega]; exact hA x a1 a2,fun p q a1 a2 a3=>?_⟩
 rw [ju (by omega),ju (by omega)]
 have hlow:∀ p,a≤p→p<j→lt (l.getD i default) (l.getD p default)=false:=fun p b1 b2=>by
  rcases hB with rfl|hB
  ·omega
  ·exact h.ntr _ _ _ hB (hs.le h b1 (by omega) (by omega))
 have fp:∀ k,k≤i→dF j i (i+1) k=if k<j then k else if k=j then i else k - 1:=fun k hk=>by simp only [dF]; grind
 rw [fp p (by omega),fp q (by omega)]
 by_cases c1:q<j
 ·rw [if_pos c1,if_pos (by omega)]; exact hs _ _ a1 a2 (by omega)
 ·rw [if_neg c1]
  by_cases c2:q=j
  ·rw [if_pos c2,if_pos (by omega)]; exact hlow p a1 (by omega)
  ·rw [if_neg c2]
   by_cases c3:p<j
   ·rw [if_pos c3]; exact hs _ _ a1 (by omega) (by omega)
   ·rw [if_neg c3]
    by_cases c4:p=j
    ·rw [if_pos c4]; exact h.asym (hA _ (by omega) (by omega))
    ·rw [if_neg c4]; exact hs _ _ (by omega) (by omega) (by omega)
theorem Lp {lt:α→α→Bool} (h:WO lt) {l:List α} {a i b:Nat} (hs:Srt lt l (a+1) b) (hb:b≤l.length) (h1:a+1≤i) (h2:i≤b) (hA:∀ q,a+1≤q→q<i→lt (l.getD q default) (l.getD a default)=true)
  (hB:∀ q,i≤q→q<b→lt (l.getD q default) (l.getD a default)=false):Stab lt l (mp (dF a (a+1) i) l)∧Srt lt (mp (dF a (a+1) i) l) a b:=by
 refine ⟨Stab.rot h (by omega) h1 (by omega) fun x y a1 a2 a3 a4=>by rw [show x=a by omega]; exact hA y a3 a4,fun p q a1 a2 a3=>?_⟩
 rw [ju (by omega),ju (by omega)]
 have fp:∀ k,a≤k→dF a (a+1) i k=if k+1<i then k+1 else if k+1=i then a else k:=fun k hk=>by simp only [dF]; grind
 rw [fp p (by omega),fp q (by omega)]
 by_cases c1:q+1<i
 ·rw [if_pos c1,if_pos (by omega)]; exact hs _ _ (by omega) (by omega) (by omega)
 ·rw [if_neg c1]
  by_cases c2:q+1=i
  ·rw [if_pos c2,if_pos (by omega)]; exact h.asym (hA _ (by omega) (by omega))
  ·rw [if_neg c2]
   by_cases c3:p+1<i
   ·rw [if_pos c3]; exact hs _ _ (by omega) (by omega) (by omega)
   ·rw [if_neg c3]
    by_cases c4:p+1=i
    ·rw [if_pos c4]; exact hB _ (by omega) (by omega)
    ·rw [if_neg c4]; exact hs _ _ (by omega) (by omega) (by omega)
structure Half (lt:α→α→Bool) (l cur:List α) (a s mid e b:Nat):Prop where
 st:Stab lt l cur
 fr:Fram a b l cur
 cr:∀ p q,a≤p→p<mid→mid≤q→q<b→lt (cur.getD q default) (cur.getD p default)=false
 s1:Srt lt cur a s
 s2:Srt lt cur s mid
 s3:Srt lt cur mid e
 s4:Srt lt cur e b
theorem MK {lt:α→α→Bool} (h:WO lt) {l:List α} {a m b s mid e:Nat} (h1:Srt lt l a m) (h2:Srt lt l m b) (hb:b≤l.length) (ha:a≤s) (hs:s≤m) (he:m≤e) (hbb:e≤b) (hm:mid=s+(e - m))
  (hd:s=m∨m=e∨lt (l.getD (e - 1) default) (l.getD s default)=true) (hg:s=a∨e=b∨lt (l.getD e default) (l.getD (s - 1) default)=false):Half lt l (mp (dF s m e) l) a s mid e b:=by
 have c1:∀ x y,s≤x→x<m→m≤y→y<e→lt (l.getD y default) (l.getD x default)=true:=fun x y a1 a2 a3 a4=>by
  rcases hd with hd|hd|hd
  ·omega
  ·omega
  ·exact h.le_lt (h2.le h (by omega) (show y≤e - 1 by omega) (by omega)) (h.lt_le hd (h1.le h (by omega) a1 (by omega)))
 have c2:∀ x y,a≤x→x<s→e≤y→y<b→lt (l.getD y default) (l.getD x default)=false:=fun x y a1 a2 a3 a4=>by
  rcases hg with hg|hg|hg
  ·omega
  ·omega
  ·exact h.ntr _ _ _ (h2.le h (by omega) a3 (by omega)) (h.ntr _ _ _ hg (h1.le h a1 (by omega) (by omega)))
 have fp:∀ k,dF s m e k=if s≤k∧k<mid then k+(m - s) else if mid≤k∧k<e then k - (e - m) else k:=fun k=>by subst hm; rfl
 have fl:∀ k,k<b→k<l.length:=fun k hk=>by omega
 refine ⟨Stab.rot h hs he (by omega) c1,Fram.rot ha hbb hs he,fun p q a1 a2 a3 a4=>?_,fun p q a1 a2 a3=>?_,fun p q a1 a2 a3=>?_,fun p q a1 a2 a3=>?_,fun p q a1 a2 a3=>?_⟩
 ·rw [ju (by omega),ju (by omega),fp,fp,if_neg (c:=s≤q∧q<mid) (by omega)]
  by_cases d1:q<e
  ·rw [if_pos (c:=mid≤q∧q<e) ⟨a3,d1⟩]
   by_cases d2:p<s
   ·rw [if_neg (by omega),if_neg (by omega)]; exact h1 _ _ a1 (by omega) (by omega)
   ·rw [if_pos (by omega)]; exact h.asym (c1 _ _ (by omega) (by omega) (by omega) (by omega))
  ·rw [if_neg (c:=mid≤q∧q<e) (by omega)]
   by_cases d2:p<s
   ·rw [if_neg (by omega),if_neg (by omega)]; exact c2 _ _ a1 d2 (by omega) a4
   ·rw [if_pos (by omega)]; exact h2 _ _ (by omega) (by omega) a4
 ·rw [ju (by omega),ju (by omega),fp,fp,if_neg (by omega),if_neg (by omega),if_neg (by omega),if_neg (by omega)]; exact h1 _ _ a1 a2 (by omega)
 ·rw [ju (by omega),ju (by omega),fp,fp,if_pos (by omega),if_pos (by omega)]; exact h2 _ _ (by omega) (by omega) (by omega)
 ·rw [ju (by omega),ju (by omega),fp,fp,if_neg (by omega),if_pos (by omega),if_neg (by omega),if_pos (by omega)]; exact h1 _ _ (by omega) (by omega) (by omega)
 ·rw [ju (by omega),ju (by omega),fp,fp,if_neg (by omega),if_neg (by omega),if_neg (by omega),if_neg (by omega)]; exact h2 _ _ (by omega) a2 a3
theorem Half.left {lt:α→α→Bool} {l c1 c2:List α} {a s mid e b:Nat} (h:Half lt l c1 a s mid e b) (hb:b≤l.length) (hm:mid≤e) (hmb:e≤b) (st:Stab lt c1 c2) (fr:Fram a mid c1 c2) (so:Srt lt c2 a mid):Half lt l c2 a mid mid e b:=by
 have hl:=h.fr.1
 refine ⟨h.st.trans st,h.fr.trans (fr.mono (Nat.le_refl _) (by omega)),fun p q a1 a2 a3 a4=>?_,so,.one (by omega),h.s3.fram fr (.inr (Nat.le_refl _)),h.s4.fram fr (.inr hm)⟩
 obtain ⟨j,b1,b2,b3⟩:=Ld st fr (by omega) a1 a2
 rw [b3,fr.2 q (.inr a3)]
 exact h.cr _ _ b1 b2 a3 a4
theorem Half.left0 {lt:α→α→Bool} {l c1:List α} {a s mid e b:Nat} (h:Half lt l c1 a s mid e b) (hn:¬ (a<s∧s<mid)) (ha:a≤s) (hs:s≤mid):Half lt l c1 a mid mid e b:=by
 refine ⟨h.st,h.fr,h.cr,?_,.one (by omega),h.s3,h.s4⟩
 by_cases c:a=s
 ·rw [c]; exact h.s2
 ·rw [show mid=s by omega]; exact h.s1
theorem Half.right {lt:α→α→Bool} {l c2 c3:List α} {a mid e b:Nat} (h:Half lt l c2 a mid mid e b) (hb:b≤l.length) (ha:a≤mid) (hm:mid≤b) (st:Stab lt c2 c3) (fr:Fram mid b c2 c3) (so:Srt lt c3 mid b):Stab lt l c3∧Fram a b l c3∧Srt lt c3 a b:=by
 have hl:=h.fr.1
 refine ⟨h.st.trans st,h.fr.trans (fr.mono ha (Nat.le_refl _)),(h.s1.fram fr (.inl (Nat.le_refl _))).glue so fun p q a1 a2 a3 a4=>?_⟩
 obtain ⟨j,b1,b2,b3⟩:=Ld st fr (by omega) a3 a4
 rw [b3,fr.2 p (.inl a2)]
 exact h.cr _ _ a1 a2 b1 b2
theorem Half.right0 {lt:α→α→Bool} {l c2:List α} {a mid e b:Nat} (h:Half lt l c2 a mid mid e b) (hn:¬ (mid<e∧e<b)) (hm:mid≤e) (hb:e≤b):Stab lt l c2∧Fram a b l c2∧Srt lt c2 a b:=by
 refine ⟨h.st,h.fr,h.s1.glue ?_ h.cr⟩
 by_cases c:mid=e
 ·rw [c]; exact h.s4
 ·rw [show b=e by omega]; exact h.s3
def Blk (lt:α→α→Bool) (l:List α) (bs n:Nat):Prop:=∀ t p q,t * bs≤p→p<q→q<(t+1) * bs→q<n→lt (l.getD q default) (l.getD p default)=false
theorem Blk.all {lt:α→α→Bool} {l:List α} {bs n:Nat} (h:Blk lt l bs n) (hn:n≤bs):Srt lt l 0 n:=fun p q a1 a2 a3=>h 0 p q (by omega) a2 (by omega) a3
theorem xT {lt:α→α→Bool} {l l':List α} {bs t0 b:Nat} (h:Blk lt l bs (t0 * bs)) (f:Fram (t0 * bs) b l l') (s:Srt lt l' (t0 * bs) b) (hb:b≤(t0+1) * bs):Blk lt l' bs b:=fun t p q a1 a2 a3 a4=>by
 by_cases c:q<t0 * bs
 ·rw [f.2 p (by omega),f.2 q (by omega)]; exact h t p q a1 a2 a3 c
 ·have e1:t * bs<(t0+1) * bs:=by omega
  have e2:t0 * bs<(t+1) * bs:=by omega
  have e3:=Nat.lt_of_mul_lt_mul_right e1
  have e4:=Nat.lt_of_mul_lt_mul_right e2
  obtain rfl:t=t0:=by omega
  exact s p q a1 a2 a4
def Mix (lt:α→α→Bool) (l:List α) (bs a n:Nat):Prop:=Blk lt l (2 * bs) a∧∀ t p q,t * bs≤p→p<q→q<(t+1) * bs→a≤p→q<n→lt (l.getD q default) (l.getD p default)=false
theorem Qr {lt:α→α→Bool} {l:List α} {bs n:Nat} (h:Blk lt l bs n):Mix lt l bs 0 n:=⟨fun t p q a1 a2 a3 a4=>by omega,fun t p q a1 a2 a3 _ a5=>h t p q a1 a2 a3 a5⟩
theorem yQ {lt:α→α→Bool} {l:List α} {bs n t0 m:Nat} (h:Mix lt l bs (t0 * (2 * bs)) n) (hm:m≤t0 * (2 * bs)+bs) (hn:m≤n):Srt lt l (t0 * (2 * bs)) m:=fun p q a1 a2 a3=>by
 have e:2 * t0 * bs=t0 * (2 * bs):=by rw [Nat.mul_comm 2 t0,Nat.mul_assoc]
 refine h.2 (2 * t0) p q (by omega) a2 (by rw [Nat.add_mul]; omega) a1 (by omega)
theorem Be {lt:α→α→Bool} {l:List α} {bs n t0 b:Nat} (h:Mix lt l bs (t0 * (2 * bs)) n) (hm:b≤t0 * (2 * bs)+2 * bs) (hn:b≤n):Srt lt l (t0 * (2 * bs)+bs) b:=fun p q a1 a2 a3=>by
 have e:2 * t0 * bs=t0 * (2 * bs):=by rw [Nat.mul_comm 2 t0,Nat.mul_assoc]
 refine h.2 (2 * t0+1) p q (by rw [Nat.add_mul]; omega) a2 (by rw [Nat.add_mul,Nat.add_mul]; omega) (by omega) (by omega)
theorem Mp {lt:α→α→Bool} {l l':List α} {bs n t0 b:Nat} (h:Mix lt l bs (t0 * (2 * bs)) n) (f:Fram (t0 * (2 * bs)) b l l') (s:Srt lt l' (t0 * (2 * bs)) b) (hb:b≤t0 * (2 * bs)+2 * bs) (hab:t0 * (2 * bs)≤b):Mix lt l' bs b n :=
 ⟨xT h.1 f s (by rw [Nat.add_mul]; omega),fun t p q a1 a2 a3 a4 a5=>by
  rw [f.2 p (by omega),f.2 q (by omega)]; exact h.2 t p q a1 a2 a3 (by omega) a5⟩
theorem Oz {lt:α→α→Bool} {l:List α} {bs n t0:Nat} (h:Mix lt l bs (t0 * (2 * bs)) n) (hn:n≤t0 * (2 * bs)+bs):Blk lt l (2 * bs) n:=fun t p q a1 a2 a3 a4=>by
 by_cases c:q<t0 * (2 * bs)
 ·exact h.1 t p q a1 a2 a3 c
 ·have e1:t * (2 * bs)<(t0+1) * (2 * bs):=by rw [Nat.add_mul]; omega
  have e2:t0 * (2 * bs)<(t+1) * (2 * bs):=by omega
  have e3:=Nat.lt_of_mul_lt_mul_right e1
  have e4:=Nat.lt_of_mul_lt_mul_right e2
  obtain rfl:t=t0:=by omega
  exact yQ h hn (Nat.le_refl _) p q a1 a2 a4
end
end Go.HL
namespace Go.HL
open Go
def zB (a b:UInt32):Int:=if a<b then -1 else if b<a then 1 else 0
theorem ME (i:Ins) (s:Int):oJ i s=i↔((s=4∨s=5∨s=6∨s=7∨s=8)∨i.imm=0)∧((5≤i.op∧i.op≤15∨i.op=20)∨i.form=0)∧((i.op=16∨i.op=17∨i.op=18)∨i.width=0) ∧
  ((i.op=20∨i.op=25)∨i.cc=0)∧((s=1∨s=2∨s=3∨s=4∨s=5∨s=6)∨i.a=0)∧((s=3∨s=5)∨i.b=0):=by
 obtain ⟨addr,imm,op,form,width,cc,a,b,size⟩:=i
 have key:∀ (p:Prop) [Decidable p] (x:Int),((if p then x else 0)=x)↔(p∨x=0):=fun p _ x=>by
  by_cases h:p
  ·simp [h]
  ·simp [h]; exact eq_comm
 have key2:∀ (p:Prop) [Decidable p] (x:UInt32),((if p then x else 0)=x)↔(p∨x=0):=fun p _ x=>by
  by_cases h:p
  ·simp [h]
  ·simp [h]; exact eq_comm
 simp only [oJ,Ins.mk.injEq,key,key2,true_and,and_true]
theorem M6 {i:Ins} {c:UInt8} {s:Int} (h:aB i=(c,s,true)):eN i=if ¬ (mU i.a=true∧mU i.b=true∧oJ i s=i) then 2 else if (s=4∨s=5)∧iu i.imm=false∨s=7∧iu (i.imm - i.addr - 2)=false then 7 else 0:=by
 unfold eN
 simp only [h]
 by_cases h1:mU i.a=true<;>by_cases h2:mU i.b=true<;>by_cases h3:oJ i s=i<;>simp [h1,h2,h3]
theorem IY {i:Ins} {c:UInt8} {s:Int} (h:aB i=(c,s,false)):eN i=2:=by
 unfold eN
 simp only [h]
 rw [if_pos (.inl trivial)]
inductive okOp (i:Ins):Int→Prop
 | c0 (h:i.op=0∨i.op=1∨i.op=2):okOp i 0
 | c1 (h:i.op=3∨i.op=4):okOp i 1
 | c2 (h:(5≤i.op∧i.op≤15)∧i.form=0):okOp i 3
 | c3 (h:(5≤i.op∧i.op≤15)∧i.form=1):okOp i 4
 | c4 (h:(5≤i.op∧i.op≤15)∧i.form=2):okOp i 6
 | c5 (h:(i.op=16∨i.op=18)∧(i.width=1∨i.width=2∨i.width=4)):okOp i 5
 | c6 (h:i.op=17∧(i.width=1∨i.width=2)):okOp i 5
 | c7 (h:i.op=19):okOp i 5
 | c8 (h:i.op=25∧(0≤i.cc∧i.cc≤14)):okOp i 2
 | c9 (h:i.op=20∧(0≤i.cc∧i.cc≤14)∧i.form=1):okOp i 7
 | c10 (h:i.op=20∧(0≤i.cc∧i.cc≤14)∧i.form=2):okOp i 8
 | c11 (h:i.op=23):okOp i 8
 | c12 (h:i.op=24):okOp i 2
 | c13 (h:i.op=21):okOp i 2
 | c14 (h:i.op=22):okOp i 6
 | c15 (h:i.op=26):okOp i 2
 | c16 (h:i.op=27):okOp i 2
def Good (i:Ins) (x:UInt8 × Int × Bool):Prop:=(x.2.2=true∧okOp i x.2.1)∨(x.2.2=false∧∀ s,¬ okOp i s)
theorem fw {i:Ins} {p:Prop} [Decidable p] {x y:UInt8 × Int × Bool} (hx:p→Good i x) (hy:¬ p→Good i y):Good i (if p then x else y):=by
 by_cases h:p
 ·rw [if_pos h]; exact hx h
 ·rw [if_neg h]; exact hy h
def Jp (i:Ins) (c:UInt8):Prop:=Good i (c,5,decide (c≠0))
theorem lx {i:Ins} {p:Prop} [Decidable p] {x y:UInt8} (hx:p→Jp i x) (hy:¬ p→Jp i y):Jp i (if p then x else y):=by
 by_cases h:p
 ·rw [if_pos h]; exact hx h
 ·rw [if_neg h]; exact hy h
theorem Gh (i:Ins) (h:i.op=16∨i.op=17∨i.op=18):Jp i (fj i):=by
 unfold fj
 refine lx (fun p=>.inl ⟨rfl,.c5 ⟨.inl p.1,.inr (.inr p.2)⟩⟩) fun n1=>?_
 refine lx (fun p=>.inl ⟨rfl,.c5 ⟨.inl p.1,.inl p.2⟩⟩) fun n2=>?_
 refine lx (fun p=>.inl ⟨rfl,.c6 ⟨p.1,.inl p.2⟩⟩) fun n3=>?_
 refine lx (fun p=>.inl ⟨rfl,.c5 ⟨.inl p.1,.inr (.inl p.2)⟩⟩) fun n4=>?_
 refine lx (fun p=>.inl ⟨rfl,.c6 ⟨p.1,.inr p.2⟩⟩) fun n5=>?_
 refine lx (fun p=>.inl ⟨rfl,.c5 ⟨.inr p.1,.inr (.inr p.2)⟩⟩) fun n6=>?_
 refine lx (fun p=>.inl ⟨rfl,.c5 ⟨.inr p.1,.inl p.2⟩⟩) fun n7=>?_
 refine lx (fun p=>.inl ⟨rfl,.c5 ⟨.inr p.1,.inr (.inl p.2)⟩⟩) fun n8=>?_
 refine .inr ⟨rfl,fun s hs=>?_⟩
 cases hs
 case c5 k =>
  obtain ⟨k1|k1,k2|k2|k2⟩:=k
  ·exact n2 ⟨k1,k2⟩
  ·exact n4 ⟨k1,k2⟩
  ·exact n1 ⟨k1,k2⟩
  ·exact n7 ⟨k1,k2⟩
  ·exact n8 ⟨k1,k2⟩
  ·exact n6 ⟨k1,k2⟩
 case c6 k =>
  obtain ⟨k1,k2|k2⟩:=k
  ·exact n3 ⟨k1,k2⟩
  ·exact n5 ⟨k1,k2⟩
 all_goals (clear n1 n2 n3 n4 n5 n6 n7 n8; omega)
theorem KI (i:Ins) (h:i.op=20∨i.op=25):Good i (og i):=by
 unfold og
 refine fw (fun _=>.inr ⟨rfl,fun s h=>by cases h<;>omega⟩) fun _=>?_
 refine fw (fun _=>.inl ⟨rfl,.c8 (by omega)⟩) fun _=>?_
 refine fw (fun _=>.inl ⟨rfl,.c9 (by omega)⟩) fun _=>?_
 refine fw (fun _=>.inl ⟨rfl,.c10 (by omega)⟩) fun _=>?_
 exact .inr ⟨rfl,fun s h=>by cases h<;>omega⟩
theorem EJ (i:Ins):Good i (aB i):=by
 unfold aB
 refine fw (fun _=>.inl ⟨rfl,.c0 (by omega)⟩) fun _=>?_
 refine fw (fun _=>.inl ⟨rfl,.c1 (by omega)⟩) fun _=>?_
 refine fw (fun _=>.inl ⟨rfl,.c1 (by omega)⟩) fun _=>?_
 refine fw (fun _=>?_) fun _=>?_
 ·refine fw (fun _=>.inl ⟨rfl,.c2 (by omega)⟩) fun _=>?_
  refine fw (fun _=>.inl ⟨rfl,.c3 (by omega)⟩) fun _=>?_
  refine fw (fun _=>.inl ⟨rfl,.c4 (by omega)⟩) fun _=>?_
  exact .inr ⟨rfl,fun s h=>by cases h<;>omega⟩
 refine fw (fun h=>Gh i h) fun _=>?_
 refine fw (fun _=>.inl ⟨rfl,.c7 (by omega)⟩) fun _=>?_
 refine fw (fun h=>KI i h) fun _=>?_
 refine fw (fun _=>.inl ⟨rfl,.c11 (by omega)⟩) fun _=>?_
 refine fw (fun _=>.inl ⟨rfl,.c12 (by omega)⟩) fun _=>?_
 refine fw (fun _=>.inl ⟨rfl,.c13 (by omega)⟩) fun _=>?_
 refine fw (fun _=>.inl ⟨rfl,.c14 (by omega)⟩) fun _=>?_
 refine fw (fun _=>.inl ⟨rfl,.c15 (by omega)⟩) fun _=>?_
 refine fw (fun _=>.inl ⟨rfl,.c16 (by omega)⟩) fun _=>?_
 exact .inr ⟨rfl,fun s h=>by cases h<;>omega⟩
theorem A9 (i:Ins):(∃ c s,aB i=(c,s,true)∧okOp i s)∨((∃ c s,aB i=(c,s,false))∧∀ s,¬ okOp i s):=by
 have h:=EJ i
 generalize aB i=x at *
 obtain ⟨c,s,ok⟩:=x
 rcases h with ⟨rfl,h⟩|⟨rfl,h⟩
 ·exact .inl ⟨c,s,rfl,h⟩
 ·exact .inr ⟨⟨c,s,rfl⟩,h⟩
theorem eo {op:Int}:lK op=true↔5≤op∧op≤15:=by simp [lK]
theorem eG {op:Int}:ma op=true↔op=16∨op=17∨op=18:=by simp [ma,or_assoc]
theorem Ko {op:Int}:Bu op=true↔3≤op∧op≤27∧op≠20∧op≠23:=by simp [Bu,and_assoc]
theorem Kn {i:Ins}:Bt i=true↔(5≤i.op∧i.op≤15)∧i.form=0∨(i.op=16∨i.op=17∨i.op=18)∨i.op=19:=by simp [Bt,lK,ma,or_assoc,and_assoc]
theorem Fc {i:Ins}:xJ i=true↔(5≤i.op∧i.op≤15)∧i.form≠0∨(i.op=16∨i.op=17∨i.op=18)∨i.op=19∨i.op=20∨i.op=22∨i.op=23:=by simp [xJ,lK,ma,or_assoc,and_assoc]
theorem zd {op:Int}:vT op=true↔op=20∨op=25:=by simp [vT]
theorem Bq {n:Int}:E4 n=true↔0≤n∧n≤14:=by simp [E4]
theorem rX {i:Ins}:lh i=true↔(5≤i.op∧i.op≤15)∧(0≤i.form∧i.form≤2)∨i.op=20∧(i.form=1∨i.form=2)∨(¬ (5≤i.op∧i.op≤15)∧i.op≠20∧i.form=0):=by
 unfold lh
 simp only [eo]
 split
 ·simp; omega
 split
 ·simp; omega
 ·simp; omega
theorem rh {i:Ins}:ja i=true↔i.op=17∧(i.width=1∨i.width=2)∨(i.op=16∨i.op=18)∧(i.width=1∨i.width=2∨i.width=4)∨(¬ (i.op=16∨i.op=17∨i.op=18)∧i.width=0):=by
 unfold ja
 simp only [eG]
 split
 ·simp; omega
 split
 ·simp; omega
 ·simp; omega
theorem Nu {b:Bool}:b=false↔¬ b=true:=by cases b<;>simp
theorem Lk {x:UInt32}:x=0↔x.toNat=0:=by rw [← UInt32.toNat_inj]; rfl
theorem E5 {n:UInt32}:oK n=true↔n.toNat≤127∨4294967168≤n.toNat:=by
 simp only [oK,Bool.or_eq_true,decide_eq_true_eq,UInt32.le_iff_toNat_le]
 exact Iff.rfl
theorem Qp {op:Int} (h:5≤op∧op≤15):op=5∨op=6∨op=7∨op=8∨op=9∨op=10∨op=11∨op=12∨op=13∨op=14∨op=15:=by omega
theorem PY {i:Ins} {s:Int} (h2:okOp i s):gP i=if ¬ (mU i.a=true∧mU i.b=true∧oJ i s=i) then 2 else if (s=4∨s=5)∧iu i.imm=false∨s=7∧iu (i.imm - i.addr - 2)=false then 7 else 0:=by
 have e7:iu i.imm=oK i.imm:=rfl
 have e8:iu (i.imm - i.addr - 2)=oK (i.imm - i.addr - 2):=rfl
 unfold gP
 simp only [Nu,rX,rh,Ko,Kn,Fc,zd,Bq,eo,eG,lI,ME,e7,e8,E5,Lk,ne_eq]
 clear e7 e8
 have big:∀ p:Prop,(5≤i.op∧i.op≤15)∧p→(i.op=5∨i.op=6∨i.op=7∨i.op=8∨i.op=9∨i.op=10∨i.op=11∨i.op=12∨i.op=13∨i.op=14∨i.op=15)∧p:=fun p h=>⟨Qp h.1,h.2⟩
 cases h2
 case c2 h=>replace h:=big _ h; clear big; generalize (i.imm - i.addr - 2).toNat=m; generalize i.imm.toNat=n; generalize i.op=op at *; generalize i.form=form at *; obtain ⟨rfl|rfl|rfl|rfl|rfl|rfl|rfl|rfl|rfl|rfl|rfl,rfl⟩:=h<;>simp<;>(repeat' split)<;>omega
 case c3 h=>replace h:=big _ h; clear big; generalize (i.imm - i.addr - 2).toNat=m; generalize i.imm.toNat=n; generalize i.op=op at *; generalize i.form=form at *; obtain ⟨rfl|rfl|rfl|rfl|rfl|rfl|rfl|rfl|rfl|rfl|rfl,rfl⟩:=h<;>simp<;>(repeat' split)<;>omega
 case c4 h=>replace h:=big _ h; clear big; generalize (i.imm - i.addr - 2).toNat=m; generalize i.imm.toNat=n; generalize i.op=op at *; generalize i.form=form at *; obtain ⟨rfl|rfl|rfl|rfl|rfl|rfl|rfl|rfl|rfl|rfl|rfl,rfl⟩:=h<;>simp<;>(repeat' split)<;>omega
 all_goals clear big
 all_goals generalize (i.imm - i.addr - 2).toNat=m
 all_goals generalize i.imm.toNat=n
 all_goals rename_i h
 all_goals generalize i.op=op at *
 all_goals generalize i.form=form at *
 case c0=>rcases h with rfl|rfl|rfl<;>simp<;>(repeat' split)<;>omega
 case c1=>rcases h with rfl|rfl<;>simp<;>(repeat' split)<;>omega
 case c5=>rcases h with ⟨rfl|rfl,h⟩<;>simp<;>(repeat' split)<;>omega
 case c9=>obtain ⟨rfl,h,rfl⟩:=h; simp; (repeat' split)<;>omega
 case c10=>obtain ⟨rfl,h,rfl⟩:=h; simp; (repeat' split)<;>omega
 case c6=>obtain ⟨rfl,h⟩:=h; simp; (repeat' split)<;>omega
 case c8=>obtain ⟨rfl,h⟩:=h; simp; (repeat' split)<;>omega
 all_goals (subst h; simp; (repeat' split)<;>omega)
theorem OR {i:Ins} (h:∀ s,¬ okOp i s):gP i=2:=by
 have h0:¬ (i.op=0∨i.op=1∨i.op=2):=fun k=>h _ (.c0 k)
 have h1:¬ (i.op=3∨i.op=4):=fun k=>h _ (.c1 k)
 have h2:¬ ((5≤i.op∧i.op≤15)∧(i.form=0∨i.form=1∨i.form=2)):=fun k=>by
  rcases k with ⟨k,k1|k1|k1⟩
  ·exact h _ (.c2 ⟨k,k1⟩)
  ·exact h _ (.c3 ⟨k,k1⟩)
  ·exact h _ (.c4 ⟨k,k1⟩)
 have h5:¬ ((i.op=16∨i.op=18)∧(i.width=1∨i.width=2∨i.width=4)):=fun k=>h _ (.c5 k)
 have h6:¬ (i.op=17∧(i.width=1∨i.width=2)):=fun k=>h _ (.c6 k)
 have h7:¬ i.op=19:=fun k=>h _ (.c7 k)
 have h8:¬ (i.op=25∧(0≤i.cc∧i.cc≤14)):=fun k=>h _ (.c8 k)
 have h9:¬ (i.op=20∧(0≤i.cc∧i.cc≤14)∧i.form=1):=fun k=>h _ (.c9 k)
 have h10:¬ (i.op=20∧(0≤i.cc∧i.cc≤14)∧i.form=2):=fun k=>h _ (.c10 k)
 have h11:¬ (i.op=23):=fun k=>h _ (.c11 k)
 have h12:¬ (i.op=24):=fun k=>h _ (.c12 k)
 have h13:¬ (i.op=21):=fun k=>h _ (.c13 k)
 have h14:¬ (i.op=22):=fun k=>h _ (.c14 k)
 have h15:¬ (i.op=26):=fun k=>h _ (.c15 k)
 have h16:¬ (i.op=27):=fun k=>h _ (.c16 k)
 clear h
 unfold gP
 simp only [Nu,rX,rh,zd,Bq,ne_eq]
 by_cases k1:i.op<0∨27<i.op∨¬((5≤i.op∧i.op≤15)∧0≤i.form∧i.form≤2∨i.op=20∧(i.form=1∨i.form=2)∨¬(5≤i.op∧i.op≤15)∧¬ i.op=20∧i.form=0) ∨
   ¬(i.op=17∧(i.width=1∨i.width=2)∨(i.op=16∨i.op=18)∧(i.width=1∨i.width=2∨i.width=4)∨¬(i.op=16∨i.op=17∨i.op=18)∧i.width=0)
 ·rw [if_pos k1]
 rw [if_neg k1]
 split
 ·rfl
 rw [if_pos]
 have hop:i.op=20∨i.op=25:=by omega
 refine .inl ⟨hop,fun hc=>?_⟩
 omega
theorem qT (i:Ins):gP i=eN i:=by
 rcases A9 i with ⟨c,s,h1,h2⟩|⟨⟨c,s,h1⟩,h2⟩
 ·rw [M6 h1,PY h2]
 ·rw [IY h1,OR h2]
theorem vt (k:UInt8) (x:Int):u8 ((k.toNat:Int)+x)=k+u8 x:=by
 apply UInt8.toNat_inj.1
 have h1:=DY ((k.toNat:Int)+x)
 have h2:=DY x
 have h3:=k.toNat_lt
 rw [UInt8.toNat_add]
 omega
theorem nC {x:Int} (h:0≤x∧x<4294967296):((u32 x).toNat:Int)=x:=by
 have:=nB x; omega
theorem AV (a b c:UInt32):a - (b+c)=a - b - c:=by
 apply UInt32.toNat_inj.1
 have ha:=a.toNat_lt; have hb:=b.toNat_lt; have hc:=c.toNat_lt
 simp only [UInt32.toNat_sub,UInt32.toNat_add]
 omega
theorem uh (n:UInt32):ky n=On [] n 4:=by
 have e1:On [] n 4=[(jQ n 0).toUInt8,(jQ n 8).toUInt8,(jQ n 16).toUInt8,(jQ n 24).toUInt8]:=rfl
 rw [e1]
 have hn:=n.toNat_lt
 have key:∀ (x y:UInt32),x.toNat % 256=y.toNat % 256→x.toUInt8=y.toUInt8:=fun x y h=>by
  apply UInt8.toNat_inj.1
  simpa [UInt32.toNat_toUInt8] using h
 unfold ky
 have c1:(256:UInt32).toNat=256:=rfl
 have c2:(65536:UInt32).toNat=65536:=rfl
 have c3:(16777216:UInt32).toNat=16777216:=rfl
 congr 1
 ·exact key _ _ (by rw [jb,UInt32.toNat_mod,c1]<;>omega)
 congr 1
 ·exact key _ _ (by rw [jb,UInt32.toNat_mod,UInt32.toNat_div,c1]; omega)
 congr 1
 ·exact key _ _ (by rw [jb,UInt32.toNat_mod,UInt32.toNat_div,c1,c2]; omega)
 congr 1
 exact key _ _ (by rw [jb,UInt32.toNat_div,c3]<;>omega)
theorem EK {i:Ins} (h:eN i=0):∃ c s,aB i=(c,s,true)∧okOp i s:=by
 rcases A9 i with h1|⟨⟨c,s,h1⟩,_⟩
 ·exact h1
 ·rw [IY h1] at h; cases h
theorem Fv {i:Ins} {c:UInt8} {s:Int} (h:eN i=0) (h1:aB i=(c,s,true)):oJ i s=i∧(0≤i.a∧i.a<8)∧(0≤i.b∧i.b<8)∧((s=4∨s=5)→iu i.imm=true)∧(s=7→iu (i.imm - i.addr - 2)=true):=by
 rw [M6 h1] at h
 split at h
 ·cases h
 rename_i k1
 split at h
 ·cases h
 rename_i k2
 simp only [Decidable.not_not] at k1
 refine ⟨k1.2.2,lI.1 k1.1,lI.1 k1.2.1,fun hs=>?_,fun hs=>?_⟩
 ·cases hn:iu i.imm
  ·exact absurd (.inl ⟨hs,hn⟩) k2
  ·rfl
 ·cases hn:iu (i.imm - i.addr - 2)
  ·exact absurd (.inr ⟨hs,hn⟩) k2
  ·rfl
theorem rm {i:Ins} {c d:UInt8} {s r:Int} {b:Bool} (h:aB i=(c,s,true)) (h2:aB i=(d,r,b)):c=d:=by rw [h] at h2; cases h2; rfl
theorem bytes_eq {i:Ins} {c:UInt8} {s:Int} (h1:aB i=(c,s,true)) (hs:okOp i s) (ha:0≤i.a∧i.a<8) (hb:0≤i.b∧i.b<8):eI i=c :: Nx s i (i.addr+u32 (eK s)):=by
 have two:∀ p:Prop,(5≤i.op∧i.op≤15)∧p→lK i.op=true:=fun p h=>eo.2 h.1
 have e5:∀ (x:UInt32),x - i.addr - 5=x - (i.addr+u32 (eK 8)):=fun x=>(AV _ _ _).symm
 have e2:i.imm - i.addr - 2=i.imm - (i.addr+u32 (eK 7)):=(AV _ _ _).symm
 have e16:u8 (16 * i.a+i.b)=u8 (i.a * 16+i.b):=by rw [Int.mul_comm]
 cases hs
 case c0 h =>
  have o:aB i=(u8 i.op,0,true):=by unfold aB; rw [if_pos h]
  rw [rm h1 o]
  unfold eI jI
  simp only [eo,eG]
  repeat rw [if_neg (by omega)]
  rfl
 case c1 h =>
  have e8:i.a % 8=i.a:=by omega
  rcases h with h|h
  ·have o:aB i=(8+u8 (i.a % 8),1,true):=by unfold aB; rw [if_neg (by omega),if_pos h]
   rw [rm h1 o,e8]
   unfold eI jI
   simp only [eo,eG]
   repeat (first|rw [if_pos (by omega)]|rw [if_neg (by omega)])
   rfl
  ·have o:aB i=(16+u8 (i.a % 8),1,true):=by unfold aB; rw [if_neg (by omega),if_neg (by omega),if_pos h]
   rw [rm h1 o,e8]
   unfold eI jI
   simp only [eo,eG]
   repeat (first|rw [if_pos (by omega)]|rw [if_neg (by omega)])
   rfl
 case c2 h =>
  have o:aB i=(32+u8 (i.op - 5),3,true):=by unfold aB; repeat (first|rw [if_pos (by omega)]|rw [if_neg (by omega)])
  rw [rm h1 o,← vt]
  unfold eI
  rw [if_pos (two _ h),if_pos h.2,e16]; rfl
 case c3 h =>
  have o:aB i=(48+u8 (i.op - 5),4,true):=by unfold aB; repeat (first|rw [if_pos (by omega)]|rw [if_neg (by omega)])
  rw [rm h1 o,← vt]
  unfold eI
  rw [if_pos (two _ h),if_neg (by omega),if_pos h.2,W.u32_byteI]; rfl
 case c4 h =>
  have o:aB i=(64+u8 (i.op - 5),6,true):=by unfold aB; repeat (first|rw [if_pos (by omega)]|rw [if_neg (by omega)])
  rw [rm h1 o,← vt]
  unfold eI
  rw [if_pos (two _ h),if_neg (by omega),if_neg (by omega),uh]; rfl
 case c5 h =>
  have acc:ma i.op=true:=eG.2 (by omega)
  have nt:¬ lK i.op=true:=by rw [eo]; omega
  have o:aB i=(fj i,5,decide (fj i≠0)):=by unfold aB; repeat (first|rw [if_pos (by omega)]|rw [if_neg (by omega)])
  rw [rm h1 o]
  have ec:u8 (jw i)=fj i:=by
   unfold jw fj
   obtain ⟨k1|k1,k2|k2|k2⟩:=h<;>simp [k1,k2]<;>rfl
  unfold eI
  rw [if_neg nt,if_pos acc,e16,W.u32_byteI,ec]; rfl
 case c6 h =>
  have acc:ma i.op=true:=eG.2 (by omega)
  have nt:¬ lK i.op=true:=by rw [eo]; omega
  have o:aB i=(fj i,5,decide (fj i≠0)):=by unfold aB; repeat (first|rw [if_pos (by omega)]|rw [if_neg (by omega)])
  rw [rm h1 o]
  have ec:u8 (jw i)=fj i:=by
   unfold jw fj
   obtain ⟨k1,k2|k2⟩:=h<;>simp [k1,k2]<;>rfl
  unfold eI
  rw [if_neg nt,if_pos acc,e16,W.u32_byteI,ec]; rfl
 case c7 h =>
  have o:aB i=(90,5,true):=by unfold aB; repeat (first|rw [if_pos (by omega)]|rw [if_neg (by omega)])
  rw [rm h1 o]
  unfold eI
  simp only [eo,eG]
  repeat (first|rw [if_pos (by omega)]|rw [if_neg (by omega)])
  rw [e16,W.u32_byteI]; rfl
 case c8 h =>
  have o:aB i=(144+u8 i.cc,2,true):=by unfold aB og; repeat (first|rw [if_pos (by omega)]|rw [if_neg (by omega)])
  rw [rm h1 o,← vt]
  unfold eI jI
  simp only [eo,eG]
  repeat (first|rw [if_pos (by omega)]|rw [if_neg (by omega)])
  rfl
 case c9 h =>
  have o:aB i=(96+u8 i.cc,7,true):=by unfold aB og; repeat (first|rw [if_pos (by omega)]|rw [if_neg (by omega)])
  rw [rm h1 o,← vt]
  unfold eI
  simp only [eo,eG]
  repeat (first|rw [if_pos (by omega)]|rw [if_neg (by omega)])
  rw [W.u32_byteI,e2]; rfl
 case c10 h =>
  have o:aB i=(112+u8 i.cc,8,true):=by unfold aB og; repeat (first|rw [if_pos (by omega)]|rw [if_neg (by omega)])
  rw [rm h1 o,← vt]
  unfold eI
  simp only [eo,eG]
  repeat (first|rw [if_pos (by omega)]|rw [if_neg (by omega)])
  rw [uh,e5]; rfl
 case c11 h =>
  have o:aB i=(128,8,true):=by unfold aB; repeat (first|rw [if_pos (by omega)]|rw [if_neg (by omega)])
  rw [rm h1 o]
  unfold eI
  simp only [eo,eG]
  repeat (first|rw [if_pos (by omega)]|rw [if_neg (by omega)])
  rw [uh,e5]; rfl
 case c14 h =>
  have o:aB i=(131,6,true):=by unfold aB; repeat (first|rw [if_pos (by omega)]|rw [if_neg (by omega)])
  rw [rm h1 o]
  unfold eI
  simp only [eo,eG]
  repeat (first|rw [if_pos (by omega)]|rw [if_neg (by omega)])
  rw [uh]; rfl
 case c12 h =>
  have o:aB i=(129,2,true):=by unfold aB; repeat (first|rw [if_pos (by omega)]|rw [if_neg (by omega)])
  rw [rm h1 o]
  unfold eI jI
  simp only [eo,eG]
  repeat (first|rw [if_pos (by omega)]|rw [if_neg (by omega)])
  rfl
 case c13 h =>
  have o:aB i=(130,2,true):=by unfold aB; repeat (first|rw [if_pos (by omega)]|rw [if_neg (by omega)])
  rw [rm h1 o]
  unfold eI jI
  simp only [eo,eG]
  repeat (first|rw [if_pos (by omega)]|rw [if_neg (by omega)])
  rfl
 case c15 h =>
  have o:aB i=(160,2,true):=by unfold aB; repeat (first|rw [if_pos (by omega)]|rw [if_neg (by omega)])
  rw [rm h1 o]
  unfold eI jI
  simp only [eo,eG]
  repeat (first|rw [if_pos (by omega)]|rw [if_neg (by omega)])
  rfl
 case c16 h =>
  have o:aB i=(161,2,true):=by unfold aB; repeat (first|rw [if_pos (by omega)]|rw [if_neg (by omega)])
  rw [rm h1 o]
  unfold eI jI
  simp only [eo,eG]
  repeat (first|rw [if_pos (by omega)]|rw [if_neg (by omega)])
  rfl
theorem OT (i:Ins):Cp i=xN i:=by
 unfold Cp xN
 rw [qT]
 by_cases h:eN i=0
 ·rw [if_pos h,if_pos h]
  obtain ⟨c,s,h1,h2⟩:=EK h
  obtain ⟨_,ha,hb,_⟩:=Fv h h1
  rw [bytes_eq h1 h2 ha hb,h1]
 ·rw [if_neg h,if_neg h]
theorem Nw {s:Int} (h:0≤s∧s≤8) (i:Ins) (nx:UInt32):((Nx s i nx).length:Int)+1=eK s:=by
 obtain rfl|rfl|rfl|rfl|rfl|rfl|rfl|rfl|rfl:s=0∨s=1∨s=2∨s=3∨s=4∨s=5∨s=6∨s=7∨s=8:=by omega
 all_goals rfl
theorem encode_len (i:Ins):((xN i).length:Int)=gG i:=by
 unfold xN gG
 by_cases h:eN i=0
 ·rw [if_pos h,if_pos h,List.length_cons]
  have:=Nw (pn i) i (i.addr+u32 (eK (aB i).2.1))
  omega
 ·rw [if_neg h,if_neg h]; rfl
theorem CP (i:Ins):oH i=gG i:=by
 rw [← encode_len,← OT]
 unfold oH Cp
 by_cases h:gP i=0
 ·rw [if_pos h,if_pos h]
 ·rw [if_neg h,if_neg h]; rfl
end Go.HL
namespace Go.HL
open Go Go.Sort
open Go.Proofs (ltOf)
def HM (a b:Int):Int:=if a<b then -1 else if b<a then 1 else 0
def mf (x y:Ins):Int:=zB x.addr y.addr
theorem xR (a b:UInt32):zB a b<0↔a<b:=by
 unfold zB
 split
 ·rename_i h; simp [h]
 ·rename_i h
  split
  ·simp [h]
  ·simp [h]
theorem sD (x y:Ins):ltOf mf x y=decide (x.addr<y.addr):=by
 unfold ltOf mf
 congr 1
 exact propext (xR _ _)
theorem mP:SWO (ltOf mf) where
 irrefl x:=by simp [sD]
 trans x y z h1 h2:=by
  simp only [sD,decide_eq_true_eq,UInt32.lt_iff_toNat_lt] at *; omega
 ntrans x y z h1 h2:=by
  simp only [sD,decide_eq_false_iff_not,UInt32.lt_iff_toNat_lt] at *; omega
def Qs (x y:Rng):Prop:=x.lo.toNat<y.lo.toNat∨(x.lo.toNat=y.lo.toNat∧x.hi.toNat<y.hi.toNat)
theorem xG (i:Ins):0≤gG i∧gG i≤6:=by
 unfold gG eK
 split
 ·repeat' split
  all_goals omega
 ·omega
def xu (i:Ins):Int:=(i.addr.toNat:Int)+gG i
def mxU (a b:UInt32):UInt32:=if a<b then b else a
theorem Oy (a b:UInt32):(mxU a b).toNat=max a.toNat b.toNat:=by
 unfold mxU
 split
 ·rename_i h; rw [UInt32.lt_iff_toNat_lt] at h; omega
 ·rename_i h; rw [UInt32.lt_iff_toNat_lt] at h; omega
def iT (a b:Ins):Bool:=((decide (a.addr≠b.addr) && decide (0<gG a)) && decide (0<gG b)) && decide (((mxU a.addr b.addr).toNat:Int)<min (xu a) (xu b))
def lS {α:Type} [DecidableEq α]:α→List α→List α
 | _,[]=>[]
 | x,y :: t=>if y=x then lS x t else y :: lS y t
def fa {α:Type} [DecidableEq α]:List α→List α
 | []=>[]
 | x :: t=>x :: lS x t
theorem tP {α:Type} [DecidableEq α]:∀ (x:α) (l:List α) (y:α),lS x (l ++ [y])=if y=(x :: l).getLast (by simp) then lS x l else lS x l ++ [y]
 | x,[],y=>by simp only [List.nil_append,lS,List.getLast_singleton]; by_cases h:y=x<;>simp [h]
 | x,z :: t,y=>by
  have ih1:=tP z t y
  have ih2:=tP x t y
  have e:(x :: z :: t).getLast (by simp)=(z :: t).getLast (by simp):=by simp
  rw [e]
  by_cases h:z=x
  ·subst h
   simp only [List.cons_append,lS,if_true,ih1]
  ·simp only [List.cons_append,lS,h,if_false,ih1]
   split<;>rfl
theorem nr {α:Type} [DecidableEq α] [Inhabited α] {l:List α} {k:Nat} (h0:0<k) (h:k<l.length):fa (l.take (k+1))=if l.getD k default=l.getD (k - 1) default then fa (l.take k) else fa (l.take k) ++ [l.getD k default]:=by
 rw [bN h]
 cases l with
 | nil=>simp at h
 | cons x t =>
  obtain ⟨j,rfl⟩:∃ j,k=j+1:=⟨k - 1,by omega⟩
  simp only [List.take_succ_cons,List.cons_append,fa]
  rw [tP]
  have e:(x :: t.take j).getLast (by simp)=(x :: t).getD (j+1 - 1) default:=by
   rw [List.getLast_eq_getElem]
   simp only [List.length_cons,List.length_take,Nat.add_sub_cancel]
   have hj:j≤t.length:=by simp at h; omega
   simp only [Nat.min_eq_left hj]
   cases j with
   | zero=>simp
   | succ j=>simp [List.getD_eq_getElem?_getD,show j<t.length by omega]
  rw [e]
  split<;>rfl
theorem ns {α:Type} [DecidableEq α] [Inhabited α] {l:List α}:∀ {k:Nat},k≤l.length→(∀ j,0<j→j<k→l.getD j default≠l.getD (j - 1) default)→fa (l.take k)=l.take k
 | 0,_,_=>by simp [fa]
 | k+1,h,hne=>by
  by_cases h0:k=0
  ·subst h0
   cases l with
   | nil=>simp at h
   | cons x t=>simp [fa,lS]
  ·rw [nr (by omega) (by omega),if_neg (hne k (by omega) (by omega)),ns (by omega) (fun j a b=>hne j a (by omega)),bN (by omega)]
def inK (l:List Ins) (a:UInt32):Bool:=l.any fun x=>decide (x.addr=a)
def ga (out:List Ins) (i:Ins):List Ins:=if (!inK out i.addr && decide (eN i=0))=true then out ++ [i] else out
def sd (l:List Ins):List Ins:=l.foldl ga []
def FS (out:List Ins):List (UInt32 × Bool):=out.map fun i=>(i.addr,true)
theorem Nk (out:List Ins) (a:UInt32):(du (FS out) a).getD false=inK out a:=by
 induction out with
 | nil=>rfl
 | cons x t ih =>
  unfold FS at ih ⊢
  simp only [List.map_cons,du,inK,List.any_cons]
  by_cases h:a=x.addr
  ·simp [h]
  ·have h':¬ x.addr=a:=fun q=>h q.symm
   rw [if_neg h,decide_eq_false h',Bool.false_or]; exact ih
theorem Nj {out:List Ins} {i:Ins} (h:inK out i.addr=false):fG (FS out) i.addr true=FS (out ++ [i]):=by
 have:du (FS out) i.addr=none:=by
  cases hg:du (FS out) i.addr with
  | none=>rfl
  | some b =>
   exfalso
   have hm:=wO hg
   obtain ⟨x,hx,e⟩:=List.mem_map.1 hm
   have:inK out i.addr=true:=List.any_eq_true.2 ⟨x,hx,by simp at e; simp [e.1]⟩
   rw [h] at this; cases this
 rw [uH this]
 simp [FS]
theorem zy {l:List Ins} {k:Nat} (h:k<l.length):sd (l.take (k+1))=ga (sd (l.take k)) (l.getD k default):=by
 unfold sd; rw [bN h,List.foldl_append]; rfl
theorem I3:∀ (l out:List Ins),(l.foldl ga out).length≤out.length+l.length
 | [],out=>by simp
 | i :: t,out=>by
  have h1:=I3 t (ga out i)
  have h2:(ga out i).length≤out.length+1:=by unfold ga; split<;>simp
  simp only [List.foldl_cons,List.length_cons]; omega
theorem FT (l:List Ins):(sd l).length≤l.length:=by have:=I3 l []; simpa [sd] using this
def eZ (l:List Ins):List Ins:=mR (ltOf mf) (sd l)
theorem zt (l:List Ins):(eZ l).length≤l.length:=by unfold eZ; rw [nj mP]; exact FT l
def sB (m:List (UInt32 × Bool)) (i:Ins):List (UInt32 × Bool):=if (bG i).2=true then fG m (bG i).1 true else m
def l6 (l:List Ins):List (UInt32 × Bool):=l.foldl sB []
theorem D2 {l:List Ins} {k:Nat} (h:k<l.length):l6 (l.take (k+1))=sB (l6 (l.take k)) (l.getD k default):=by
 unfold l6; rw [bN h,List.foldl_append]; rfl
def Ay (l:List UInt32) (a:UInt32):Bool:=l.any fun x=>decide (a=x)
def fZ (ents:List UInt32) (tm:List (UInt32 × Bool)) (i:Ins):Int:=if Ay ents i.addr=true then 0 else if (du tm i.addr).getD false=true then 1 else 2
def O0 (ents:List UInt32) (tm:List (UInt32 × Bool)) (x y:Ins):Int:=HM (fZ ents tm x) (fZ ents tm y)
def gh (kept:List Ins) (i:Ins):List Ins:=if kept.any (iT i)=true then kept else kept ++ [i]
def kK (order:List Ins):List Ins:=order.foldl gh []
theorem Bl {l:List Ins} {k:Nat} (h:k<l.length):kK (l.take (k+1))=gh (kK (l.take k)) (l.getD k default):=by
 unfold kK; rw [bN h,List.foldl_append]; rfl
theorem E0:∀ (l out:List Ins),(l.foldl gh out).length≤out.length+l.length
 | [],out=>by simp
 | i :: t,out=>by
  have h1:=E0 t (gh out i)
  have h2:(gh out i).length≤out.length+1:=by unfold gh; split<;>simp
  simp only [List.foldl_cons,List.length_cons]; omega
theorem vO (l:List Ins):(kK l).length≤l.length:=by have:=E0 l []; simpa [kK] using this
theorem Bn:∀ (l out:List Ins) (x:Ins),x∈l.foldl gh out→x∈out∨x∈l
 | [],out,x,h=>.inl h
 | i :: t,out,x,h=>by
  rcases Bn t (gh out i) x h with h|h
  ·unfold gh at h
   split at h
   ·exact .inl h
   ·rcases List.mem_append.1 h with h|h
    ·exact .inl h
    ·simp at h; subst h; exact .inr (.head _)
  ·exact .inr (.tail _ h)
theorem yZ {l:List Ins} {x:Ins} (h:x∈kK l):x∈l:=by
 rcases Bn l [] x h with h|h
 ·cases h
 ·exact h
def pm (l kept:List Ins):List UInt32:=(l.filter fun i=>!inK kept i.addr).map (·.addr)
def dJ (g:Ins→Int) (l:List Ins):List Ins:=l.filter (fun i=>decide (g i=0)) ++ (l.filter (fun i=>decide (g i=1)) ++ l.filter (fun i=>decide (g i=2)))
theorem OZ (a b:Int):HM a b<0↔a<b:=by
 unfold HM
 split
 ·rename_i h; simp [h]
 ·split<;>simp_all
def ltG (g:Ins→Int) (x y:Ins):Bool:=decide (g x<g y)
theorem Lb (g:Ins→Int):WO (ltG g) where
 irr x:=by simp [ltG]
 tr x y z h1 h2:=by simp only [ltG,decide_eq_true_eq] at *; omega
 ntr x y z h1 h2:=by simp only [ltG,decide_eq_false_iff_not] at *; omega
theorem OS (g:Ins→Int) (z x:Ins):eqv (ltG g) z x=decide (g x=g z):=by
 unfold eqv ltG
 by_cases h:g x=g z
 ·simp [h]
 ·rw [decide_eq_false h]
  by_cases c:g z<g x
  ·simp [c]
  ·have:g x<g z:=by omega
   simp [c,this]
theorem lw (ents:List UInt32) (tm:List (UInt32 × Bool)) (i:Ins):fZ ents tm i=0∨fZ ents tm i=1∨fZ ents tm i=2:=by
 unfold fZ
 repeat' split
 all_goals simp
theorem rI {g:Ins→Int} (hg:∀ i,g i=0∨g i=1∨g i=2) (l:List Ins):Stab (ltG g) l (dJ g l)∧(dJ g l).Pairwise fun x y=>ltG g y x=false:=by
 refine ⟨⟨?_,fun z=>?_⟩,?_⟩
 ·induction l with
  | nil=>exact List.Perm.refl _
  | cons x t ih =>
   rcases hg x with h|h|h
   ·have e:dJ g (x :: t)=x :: dJ g t:=by simp [dJ,h]
    rw [e]; exact ih.cons x
   ·have e:dJ g (x :: t)=t.filter (fun i=>decide (g i=0)) ++ x :: (t.filter (fun i=>decide (g i=1)) ++ t.filter (fun i=>decide (g i=2))):=by simp [dJ,h]
    rw [e]; exact (ih.cons x).trans List.perm_middle.symm
   ·have e:dJ g (x :: t)=(t.filter (fun i=>decide (g i=0)) ++ t.filter (fun i=>decide (g i=1))) ++ x :: t.filter (fun i=>decide (g i=2)):=by simp [dJ,h]
    rw [e]
    refine (ih.cons x).trans ?_
    refine List.Perm.trans ?_ List.perm_middle.symm
    rw [List.append_assoc]; exact List.Perm.refl _
 ·have e:(fun x=>eqv (ltG g) z x)=fun x=>decide (g x=g z):=by funext x; exact OS g z x
  show l.filter (fun x=>eqv (ltG g) z x)=(dJ g l).filter (fun x=>eqv (ltG g) z x)
  rw [e]
  unfold dJ
  rw [List.filter_append,List.filter_append,List.filter_filter,List.filter_filter,List.filter_filter]
  have hn:∀ c:Int,c≠g z→l.filter (fun x=>decide (g x=g z) && decide (g x=c))=[]:=fun c hc=>by
   rw [List.filter_eq_nil_iff]
   intro x _
   simp only [Bool.and_eq_true,decide_eq_true_eq,not_and]
   intro q1 q2; exact hc (q2.symm.trans q1)
  have hy:∀ c:Int,c=g z→l.filter (fun x=>decide (g x=g z) && decide (g x=c))=l.filter (fun x=>decide (g x=g z)):=fun c hc=>by subst hc; simp
  rcases hg z with h|h|h
  ·rw [hy 0 h.symm,hn 1 (by omega),hn 2 (by omega)]; simp
  ·rw [hn 0 (by omega),hy 1 h.symm,hn 2 (by omega)]; simp
  ·rw [hn 0 (by omega),hn 1 (by omega),hy 2 h.symm]; simp
 ·have hc:∀ c:Int,(l.filter (fun i=>decide (g i=c))).Pairwise fun x y=>ltG g y x=false:=fun c=>by
   rw [List.pairwise_iff_forall_sublist]
   intro a b hab
   have ha:a∈l.filter (fun i=>decide (g i=c)):=hab.subset (by simp)
   have hb:b∈l.filter (fun i=>decide (g i=c)):=hab.subset (by simp)
   have:=of_decide_eq_true (List.mem_filter.1 ha).2
   have:=of_decide_eq_true (List.mem_filter.1 hb).2
   simp only [ltG,decide_eq_false_iff_not]; omega
  have hx:∀ (c d:Int),c≤d→∀ x∈l.filter (fun i=>decide (g i=c)),∀ y∈l.filter (fun i=>decide (g i=d)),ltG g y x=false:=fun c d h x hx y hy=>by
   have:=of_decide_eq_true (List.mem_filter.1 hx).2
   have:=of_decide_eq_true (List.mem_filter.1 hy).2
   simp only [ltG,decide_eq_false_iff_not]; omega
  unfold dJ
  refine List.pairwise_append.2 ⟨hc 0,List.pairwise_append.2 ⟨hc 1,hc 2,hx 1 2 (by omega)⟩,fun x h1 y h2=>?_⟩
  rcases List.mem_append.1 h2 with h2|h2
  ·exact hx 0 1 (by omega) x h1 y h2
  ·exact hx 0 2 (by omega) x h1 y h2
theorem PM {g:Ins→Int} (hg:∀ i,g i=0∨g i=1∨g i=2) {l c:List Ins} (h1:Stab (ltG g) l c) (h2:c.Pairwise fun x y=>ltG g y x=false):c=dJ g l:=by
 obtain ⟨k1,k2⟩:=rI hg l
 exact vv (Lb g) _ _ (h1.symm.trans k1) h2 k2
theorem Df:∀ (l out:List Ins) (x:Ins),x∈l.foldl ga out→x∈out∨x∈l
 | [],out,x,h=>.inl h
 | i :: t,out,x,h=>by
  rcases Df t (ga out i) x h with h|h
  ·unfold ga at h
   split at h
   ·rcases List.mem_append.1 h with h|h
    ·exact .inl h
    ·simp at h; subst h; exact .inr (.head _)
   ·exact .inl h
  ·exact .inr (.tail _ h)
theorem zr {l:List Ins} {x:Ins} (h:x∈eZ l):x∈l:=by
 have h1:=(qB mP (sd l)).subset h
 rcases Df l [] x h1 with h|h
 ·cases h
 ·exact h
theorem CB {g:Ins→Int} (hg:∀ i,g i=0∨g i=1∨g i=2) (l:List Ins):(dJ g l).length=l.length:=(rI hg l).1.len
theorem Cy {g:Ins→Int} {l:List Ins} {x:Ins} (h:x∈dJ g l):x∈l:=by
 unfold dJ at h
 simp only [List.mem_append,List.mem_filter] at h
 rcases h with h|h|h<;>exact h.1
theorem Oh {l kept:List Ins} {k:Nat} (h:k<l.length) (hc:inK kept (l.getD k default).addr=false):pm (l.take (k+1)) kept=pm (l.take k) kept ++ [(l.getD k default).addr]:=by
 unfold pm
 rw [kS h (by rw [hc]; rfl),List.map_append]; rfl
theorem PI {l kept:List Ins} {k:Nat} (h:k<l.length) (hc:inK kept (l.getD k default).addr=true):pm (l.take (k+1)) kept=pm (l.take k) kept:=by
 unfold pm
 rw [kT h (by rw [hc]; rfl)]
theorem Oj (l kept:List Ins):(pm l kept).length≤l.length:=by unfold pm; rw [List.length_map]; exact List.length_filter_le _ _
structure ResV where
 kept:List Ins
 ents:List UInt32
 unk:List UInt32
 bad:List UInt32
 rem:List UInt32
def gC (ins:List Ins) (ents unk bad:List UInt32):ResV :=
 let l:=eZ ins
 let kept:=mR (ltOf mf) (kK (dJ (fZ ents (l6 l)) l))
 ⟨kept,ents.filter (inK kept),unk.filter (inK kept),bad,pm l kept⟩
end Go.HL
namespace Go.HL
open Go Go.Sort
open Go.Proofs (ltOf)
section
variable {α:Type} [DecidableEq α] [Inhabited α]
def lM (p:α→Bool) (l:List α):Nat:=(l.takeWhile p).length
theorem C0 {p:α→Bool}:∀ {l:List α} {k:Nat},k≤l.length→(∀ j,j<k→p (l.getD j default)=true)→(k=l.length∨p (l.getD k default)=false)→lM p l=k
 | [],k,h,_,_=>by simp at h; subst h; rfl
 | x :: t,0,_,_,h=>by
  rcases h with h|h
  ·simp at h
  ·have hx:p x=false:=h
   simp [lM,List.takeWhile_cons,hx]
 | x :: t,k+1,hk,hj,h=>by
  have hx:p x=true:=hj 0 (by omega)
  have ih:=C0 (p:=p) (l:=t) (k:=k) (by simpa using hk) (fun j q=>by simpa [List.getD_eq_getElem?_getD] using hj (j+1) (by omega)) (by simpa [List.getD_eq_getElem?_getD] using h)
  unfold lM at ih ⊢
  rw [List.takeWhile_cons,if_pos hx]; simp [ih]
theorem IR (p:α→Bool) (l:List α):lM p l≤l.length:=by
 unfold lM
 exact List.Sublist.length_le (List.takeWhile_sublist _)
theorem CZ {p:α→Bool}:∀ {l:List α} {j:Nat},j<lM p l→p (l.getD j default)=true
 | [],j,h=>by simp [lM] at h
 | x :: t,j,h=>by
  unfold lM at h
  rw [List.takeWhile_cons] at h
  split at h
  ·rename_i hx
   cases j with
   | zero=>exact hx
   | succ j=>simpa [List.getD_eq_getElem?_getD] using CZ (p:=p) (l:=t) (j:=j) (by unfold lM; simpa using h)
  ·simp at h
theorem vS {p:α→Bool}:∀ {l:List α},lM p l<l.length→p (l.getD (lM p l) default)=false
 | [],h=>by simp at h
 | x :: t,h=>by
  unfold lM at h ⊢
  rw [List.takeWhile_cons] at h ⊢
  split at h
  ·rename_i hx
   rw [if_pos hx]
   have ih:=vS (p:=p) (l:=t) (by unfold lM; simpa using h)
   unfold lM at ih
   simpa [List.getD_eq_getElem?_getD] using ih
  ·rename_i hx; rw [if_neg hx]; simpa using hx
def kC (lt:α→α→Bool) (l:List α) (x:α):List α :=
 if lM (fun y=>lt y x) l<l.length∧l.getD (lM (fun y=>lt y x) l) default=x then l else l.take (lM (fun y=>lt y x) l) ++ [x] ++ l.drop (lM (fun y=>lt y x) l)
theorem rV (lt:α→α→Bool) (l:List α) (x:α):(kC lt l x).length≤l.length+1:=by
 unfold kC
 split
 ·omega
 ·simp; omega
structure LO (lt:α→α→Bool):Prop where
 irr:∀ x,lt x x=false
 tr:∀ x y z,lt x y=true→lt y z=true→lt x z=true
 tri:∀ x y,lt x y=false→lt y x=false→x=y
theorem uN {lt:α→α→Bool} {l:List α} {x y:α}:y∈kC lt l x↔y∈l∨y=x:=by
 unfold kC
 split
 ·rename_i h
  refine ⟨.inl,fun h2=>?_⟩
  rcases h2 with h2|rfl
  ·exact h2
  ·rw [← h.2]; exact ba h.1
 ·rw [List.mem_append,List.mem_append,List.mem_singleton]
  constructor
  ·rintro ((h|h)|h)
   ·exact .inl (List.mem_of_mem_take h)
   ·exact .inr h
   ·exact .inl (List.mem_of_mem_drop h)
  ·rintro (h|h)
   ·rw [← List.take_append_drop (lM (fun y=>lt y x) l) l] at h
    rcases List.mem_append.1 h with h|h
    ·exact .inl (.inl h)
    ·exact .inr h
   ·exact .inl (.inr h)
theorem EG {R:α→α→Prop} {l:List α} (h:l.Pairwise R) {i j:Nat} (hi:i<j) (hj:j<l.length):R (l.getD i default) (l.getD j default):=by
 have:=List.pairwise_iff_getElem.1 h i j (by omega) hj hi
 rw [List.getD_eq_getElem?_getD,List.getD_eq_getElem?_getD,List.getElem?_eq_getElem (by omega),List.getElem?_eq_getElem hj]
 exact this
theorem oL {lt:α→α→Bool} (hO:LO lt) {l:List α} {x:α} (h:l.Pairwise fun a b=>lt a b=true):(kC lt l x).Pairwise fun a b=>lt a b=true:=by
 unfold kC
 split
 ·exact h
 ·rename_i hne
  have hp:=h
  have h1:∀ a∈l.take (lM (fun y=>lt y x) l),lt a x=true:=fun a ha=>by
   obtain ⟨j,hj,rfl⟩:=List.mem_take_iff_getElem.1 ha
   have:=CZ (p:=fun y=>lt y x) (l:=l) (j:=j) (by omega)
   rw [List.getD_eq_getElem?_getD,List.getElem?_eq_getElem (by omega)] at this
   exact this
  have h2:∀ b∈l.drop (lM (fun y=>lt y x) l),lt x b=true:=fun b hb=>by
   obtain ⟨j,hj,rfl⟩:=List.mem_drop_iff_getElem.1 hb
   have hlt:lM (fun y=>lt y x) l<l.length:=by omega
   have hs:=vS (p:=fun y=>lt y x) hlt
   have hx:lt x (l.getD (lM (fun y=>lt y x) l) default)=true:=by
    cases c:lt x (l.getD (lM (fun y=>lt y x) l) default)
    ·exact absurd ⟨hlt,hO.tri _ _ hs c⟩ hne
    ·rfl
   have e:l[lM (fun y=>lt y x) l+j]=l.getD (lM (fun y=>lt y x) l+j) default:=by rw [List.getD_eq_getElem?_getD,List.getElem?_eq_getElem (by omega)]; rfl
   rw [e]
   by_cases c:j=0
   ·subst c; exact hx
   ·exact hO.tr _ _ _ hx (EG hp (by omega) (by omega))
  rw [List.append_assoc]
  refine List.pairwise_append.2 ⟨h.sublist (List.take_sublist _ _),List.pairwise_append.2 ⟨by simp,h.sublist (List.drop_sublist _ _),fun a ha b hb=>?_⟩,fun a ha b hb=>?_⟩
  ·simp at ha; subst ha; exact h2 b hb
  ·rcases List.mem_append.1 hb with hb|hb
   ·simp at hb; subst hb; exact h1 a ha
   ·exact hO.tr _ _ _ (h1 a ha) (h2 b hb)
theorem uq {lt:α→α→Bool} (irr:∀ x,lt x x=false) (tr:∀ x y z,lt x y=true→lt y z=true→lt x z=true):∀ (l m:List α),l.Pairwise (fun a b=>lt a b=true)→m.Pairwise (fun a b=>lt a b=true)→(∀ x,x∈l↔x∈m)→l=m
 | [],[],_,_,_=>rfl
 | [],y :: m,_,_,h=>absurd ((h y).2 (.head _)) (by simp)
 | x :: l,[],_,_,h=>absurd ((h x).1 (.head _)) (by simp)
 | x :: l,y :: m,h1,h2,h=>by
  have p1:=List.pairwise_cons.1 h1
  have p2:=List.pairwise_cons.1 h2
  have e:x=y:=by
   rcases List.mem_cons.1 ((h x).1 (.head _)) with e|hx
   ·exact e
   ·rcases List.mem_cons.1 ((h y).2 (.head _)) with e|hy
    ·exact e.symm
    ·have:=tr _ _ _ (p2.1 x hx) (p1.1 y hy)
     rw [irr] at this; cases this
  subst e
  have:l=m:=uq irr tr l m p1.2 p2.2 fun z=>by
   constructor
   ·intro hz
    rcases List.mem_cons.1 ((h z).1 (.tail _ hz)) with e|hm
    ·subst e; have:=p1.1 z hz; rw [irr] at this; cases this
    ·exact hm
   ·intro hz
    rcases List.mem_cons.1 ((h z).2 (.tail _ hz)) with e|hm
    ·subst e; have:=p2.1 z hz; rw [irr] at this; cases this
    ·exact hm
  rw [this]
theorem OD {lt:α→α→Bool} (hO:LO lt) (l m:List α) (h1:l.Pairwise fun a b=>lt a b=true) (h2:m.Pairwise fun a b=>lt a b=true) (h:∀ x,x∈l↔x∈m):l=m:=uq hO.irr hO.tr l m h1 h2 h
theorem oV {lt:α→α→Bool}:∀ (x:α) (l:List α) (y:α),y∈x :: lS x l↔y∈x :: l
 | x,[],y=>by simp [lS]
 | x,z :: t,y=>by
  unfold lS
  split
  ·rename_i e
   subst e
   rw [oV (lt:=lt) z t y]; simp
  ·rw [List.mem_cons,oV (lt:=lt) z t y]; simp
theorem HK {lt:α→α→Bool} (hO:LO lt) {l:List α} (h:l.Pairwise fun a b=>lt b a=false):(fa l).Pairwise (fun a b=>lt a b=true)∧∀ y,y∈fa l↔y∈l:=by
 have key:∀ (t:List α) (x:α),(x :: t).Pairwise (fun a b=>lt b a=false)→(x :: lS x t).Pairwise (fun a b=>lt a b=true):=by
  intro t
  induction t with
  | nil=>intro x _; simp [lS]
  | cons z t ih =>
   intro x hx
   have hp:=List.pairwise_cons.1 hx
   have hp2:=List.pairwise_cons.1 hp.2
   unfold lS
   split
   ·rename_i e; subst e; exact ih z hp.2
   ·rename_i hne
    refine List.pairwise_cons.2 ⟨fun y hy=>?_,ih z hp.2⟩
    have hxz:lt x z=true:=by
     cases c:lt x z
     ·exact absurd (hO.tri _ _ (hp.1 z (.head _)) c) hne
     ·rfl
    have hy':=(oV (lt:=lt) z t y).1 hy
    rcases List.mem_cons.1 hy' with e|hy'
    ·subst e; exact hxz
    ·cases c:lt z y
     ·have:=hO.tri _ _ c (hp2.1 y hy')
      rw [← this]; exact hxz
     ·exact hO.tr _ _ _ hxz c
 cases l with
 | nil=>exact ⟨by simp [fa],fun y=>by simp [fa]⟩
 | cons x t=>exact ⟨key t x h,fun y=>oV (lt:=lt) x t y⟩
end
def ltB (x y:Rng):Bool:=decide (x.lo<y.lo) || (decide (x.lo=y.lo) && decide (x.hi<y.hi))
theorem QC {x y:Rng}:ltB x y=true↔Qs x y:=by
 unfold ltB Qs
 simp only [Bool.or_eq_true,Bool.and_eq_true,decide_eq_true_eq,UInt32.lt_iff_toNat_lt,← UInt32.toNat_inj]
def ltU (x y:UInt32):Bool:=decide (x<y)
theorem vK:LO ltU where
 irr x:=by simp [ltU]
 tr x y z h1 h2:=by simp only [ltU,decide_eq_true_eq,UInt32.lt_iff_toNat_lt] at *; omega
 tri x y h1 h2:=by
  simp only [ltU,decide_eq_false_iff_not,UInt32.lt_iff_toNat_lt] at *
  exact UInt32.toNat_inj.1 (by omega)
def OI (l:List UInt32) (x:UInt32):List UInt32:=kC ltU l x
def He (a b:Ins):Bool:=(((decide (a.addr≠b.addr) && decide (eN a=0)) && decide (eN b=0)) && decide ((a.addr.toNat:Int)<xu b)) && decide ((b.addr.toNat:Int)<xu a)
def ovP (a b:Ins):Bool:=decide (a.addr<b.addr) && He a b
theorem CQ {i:Ins}:0<gG i↔eN i=0:=by
 unfold gG
 split
 ·rename_i h
  have:=(enc_facts0 i)
  constructor
  ·intro _; exact h
  ·intro _
   unfold eK
   repeat' split
   all_goals omega
 ·rename_i h; constructor
  ·intro q; omega
  ·intro q; exact absurd q h
where enc_facts0 (i:Ins):True:=trivial
theorem zx {a b:Ins}:iT a b=true↔a.addr.toNat≠b.addr.toNat∧eN a=0∧eN b=0∧(a.addr.toNat:Int)<xu b∧(b.addr.toNat:Int)<xu a:=by
 have e:a.addr≠b.addr↔a.addr.toNat≠b.addr.toNat:=by rw [Ne,Ne,UInt32.toNat_inj]
 unfold iT
 simp only [Bool.and_eq_true,decide_eq_true_eq,CQ,Oy,e]
 have h1:=xG a
 have h2:=xG b
 unfold xu
 constructor
 ·rintro ⟨⟨⟨q1,q2⟩,q3⟩,q4⟩; refine ⟨q1,q2,q3,?_,?_⟩<;>omega
 ·rintro ⟨q1,q2,q3,q4,q5⟩
  have p1:=CQ.2 q2
  have p2:=CQ.2 q3
  exact ⟨⟨⟨q1,q2⟩,q3⟩,by omega⟩
theorem LW (a b:Ins):He a b=iT a b:=by
 rw [Bool.eq_iff_iff,zx]
 have e:a.addr≠b.addr↔a.addr.toNat≠b.addr.toNat:=by rw [Ne,Ne,UInt32.toNat_inj]
 unfold He
 simp only [Bool.and_eq_true,decide_eq_true_eq,e]
 exact ⟨fun ⟨⟨⟨⟨q1,q2⟩,q3⟩,q4⟩,q5⟩=>⟨q1,q2,q3,q4,q5⟩,fun ⟨q1,q2,q3,q4,q5⟩=>⟨⟨⟨⟨q1,q2⟩,q3⟩,q4⟩,q5⟩⟩
theorem FM (a b:Ins):iT a b=iT b a:=by
 rw [Bool.eq_iff_iff,zx,zx]
 exact ⟨fun ⟨q1,q2,q3,q4,q5⟩=>⟨Ne.symm q1,q3,q2,q5,q4⟩,fun ⟨q1,q2,q3,q4,q5⟩=>⟨Ne.symm q1,q3,q2,q5,q4⟩⟩
def rin (a:Ins) (out:List Rng) (b:Ins):List Rng:=if ovP a b=true then kC ltB out ⟨a.addr,b.addr⟩ else out
def QL (l:List Ins) (out:List Rng) (a:Ins):List Rng:=l.foldl (rin a) out
end Go.HL
namespace Go.HL
open Go
def fh:Enc (Int × Bool):=⟨2,fun e=>[.int .i64 e.1,.bool e.2],fun _=>rfl,fun x v h=>by simp at h; rcases h with h|h<;>subst h<;>rfl⟩
def kF (l:List Ins) (st:List StV) (gd:List Int) (k:Nat) (e:Int × Bool):StV :=
 if (l.getD k default).op=23∨(l.getD k default).op=24 then DV
 else if (l.getD k default).op=20∧0≤gd.getD k default then my (l.getD k default).cc (l.getD (gd.getD k default).toNat default) (st.getD k default) e.2
 else fm (l.getD k default) (st.getD k default)
def eR (l:List Ins) (st:List StV) (a:UInt32):StV × Bool :=
 if dA (fun i:Ins=>decide (i.addr=a)) 0 l<0∨(st.length:Int)≤dA (fun i:Ins=>decide (i.addr=a)) 0 l then (gx,false)
 else (st.getD (dA (fun i:Ins=>decide (i.addr=a)) 0 l).toNat default,true)
section
variable {P:Program} {N:Nat} {F:Bg} {L L' A:List Ent} {M:Fr} {X:Act→World→Prop}
theorem IJ {α:Type} {f:α→Ent}:∀ (rs:List α) (i:Nat) (h:i<rs.length),(rs.map f).Perm (f rs[i] :: (rs.eraseIdx i).map f)
 | x :: t,0,_=>.refl _
 | x :: t,i+1,h=>((IJ t i (by simpa using h)).cons (f x)).trans (.swap _ _ _)
theorem EF {α:Type} {f:α→Ent} (y:α):∀ (rs:List α) (i:Nat) (h:i<rs.length),(f y :: (rs.eraseIdx i).map f).Perm ((rs.set i y).map f)
 | x :: t,0,_=>.refl _
 | x :: t,i+1,h=>(List.Perm.swap _ _ _).trans ((EF y t i (by simpa using h)).cons (f x))
theorem JX {α:Type} {f:α→Ent} {rs:List α} (i:Nat) (h:i<rs.length):(A ++ (rs.map f ++ L)).Perm (f rs[i] :: (A ++ ((rs.eraseIdx i).map f ++ L))) :=
 (((IJ rs i h).append_right L).append_left A).trans List.perm_middle
theorem JW {α:Type} {f:α→Ent} {rs:List α} (i:Nat) (y:α) (h:i<rs.length):(f y :: (A ++ ((rs.eraseIdx i).map f ++ L))).Perm (A ++ ((rs.set i y).map f ++ L)) :=
 List.perm_middle.symm.trans (((EF y rs i h).append_right L).append_left A)
theorem O7 {α:Type} {f:α→Ent} {rs:List α} (i:Nat) (h:i<rs.length) (K:Tr N F (f rs[i] :: (A ++ ((rs.eraseIdx i).map f ++ L))) M X):Tr N F (A ++ (rs.map f ++ L)) M X :=
 fun a w ha hw=>K a w ha (hw.perm (JX i h).symm)
theorem Dq {α:Type} {f:α→Ent} {rs:List α} (i:Nat) (y:α) (h:i<rs.length) (K:Tr N F (A ++ ((rs.set i y).map f ++ L)) M X):Tr N F (f y :: (A ++ ((rs.eraseIdx i).map f ++ L))) M X :=
 fun a w ha hw=>K a w ha (hw.perm (JW i y h).symm)
theorem ve {α:Type} {T:TypeId} {E:Enc α}:∀ (rs:List (Value × List α)) {F:Bg},(∀ F',F.le F'→(∀ r∈rs,Sl F'.blk E r.2 r.1)→Tr N F' L M X)→Tr N F (rs.map (fun r=>rowE r.1 T E r.2) ++ L) M X
  | [],F,K=>K F (Bg.le.refl _) (fun r hr=>absurd hr (by simp))
  | r :: t,F,K=>kw (V:=r.1) (T:=T) (E:=E) (l:=r.2) (.here _) fun F1 h1 hs=>ve t fun F2 h2 ht=>K F2 (h1.trans h2) (fun x hx=>by
      rcases List.mem_cons.1 hx with rfl|hx
      · exact hs.mono h2.blk
      · exact ht x hx)
end
end Go.HL
namespace Go.HL
open Go Go.RowKit
section
variable {P:Program}
inductive FieldsRS (P:Program) (d:Nat) (xs ys:Array Value):List Field→List Bool→Prop
 | nil:FieldsRS P d xs ys [] []
 | cons {f : Field} {fs : List Field} {u v : Value} {b : Bool} {bs : List Bool} (hn : f.name ≠ "_") (hx : ∀ w, (part f.type xs f.offset).run P w = .ok u w) (hy : ∀ w, (part f.type ys f.offset).run P w = .ok v w)
   (he:∀ w,(Op.equalIn d f.type u v).run P w=.ok b w) (h:FieldsRS P d xs ys fs bs):FieldsRS P d xs ys (f :: fs) (b :: bs)
theorem ri {d:Nat} {xs ys:Array Value} (w:World):∀ {fs:List Field} {bs:List Bool},FieldsRS P d xs ys fs bs→(Op.eqFields d xs ys fs).run P w=.ok (bs.all id) w
 | [],_,.nil=>by simp [Op.eqFields]
 | f :: fs,_,.cons (b:=b) (bs:=bs) hn hx hy he h=>by
  have ih:=ri w h
  simp only [Op.eqFields,hn,ne_eq,not_false_eq_true,if_true,Sem.run_bind,List.all_cons,hx,hy,he,Result.andThen_ok]
  cases b
  ·simp
  ·simpa using ih
theorem yF {t:TypeId} {cs vs:List Value} {o k:Nat} (ha:∀ w,(isAgg t).run P w=.ok true w) (hz:∀ w,(sizeOf t).run P w=.ok k w) (hv:(cs.drop o).take k=vs) (w:World):(part t cs.toArray o).run P w=.ok (.agg vs.toArray) w:=by
 simp [part,ha,hz,hv]
theorem JG {d:Nat} {t:TypeId} {fs:Array Field} (ht:P.underlying t=some (.struct fs)) (hw:WordFields P fs.toList [.bool,.bool,.int .u32,.int .u32,.int .u32]) (ho:fs.toList.map (·.offset)=[0,1,2,3,4])
  (hh:P.stoodInHeld t=false) (x y:VSet) (w:World):(Op.equalIn (d+1+1) t (.agg (er.enc x).toArray) (.agg (er.enc y).toArray)).run P w=.ok (decide (x=y)) w:=by
 have hf:P.fieldsOf t=fs:=by simp [Program.fieldsOf,ht]
 rw [run_equalIn_struct w _ t _ _ (by rw [hf]; exact ht) hh,hf]
 obtain ⟨h1,h2⟩:=rE x y
 rw [k7 _ _ _ w fs.toList _ hw (fun j f e hj he=>h1 j f.offset e (by rw [← ho]; simp [hj]) he),← h2,← ho,List.all_map]
 rfl
theorem JH {d k:Nat} {t e:TypeId} {xs ys:Array Value} (u v:Nat→Value) (b:Nat→Bool) (ht:P.underlying t=some (.array 8 e)) (hz:∀ w,(sizeOf e).run P w=.ok k w)
  (hx:∀ i,i<8→∀ w,(part e xs (i * k)).run P w=.ok (u i) w) (hy:∀ i,i<8→∀ w,(part e ys (i * k)).run P w=.ok (v i) w) (he:∀ i,i<8→∀ w,(Op.equalIn (d+1) e (u i) (v i)).run P w=.ok (b i) w) (w:World) :
  (Op.equalIn (d+1+1) t (.agg xs) (.agg ys)).run P w=.ok (b 0 && b 1 && b 2 && b 3 && b 4 && b 5 && b 6 && b 7) w:=by
 have x0:=hx 0 (by omega); have x1:=hx 1 (by omega); have x2:=hx 2 (by omega); have x3:=hx 3 (by omega); have x4:=hx 4 (by omega); have x5:=hx 5 (by omega); have x6:=hx 6 (by omega); have x7:=hx 7 (by omega)
 have y0:=hy 0 (by omega); have y1:=hy 1 (by omega); have y2:=hy 2 (by omega); have y3:=hy 3 (by omega); have y4:=hy 4 (by omega); have y5:=hy 5 (by omega); have y6:=hy 6 (by omega); have y7:=hy 7 (by omega)
 have e0:=he 0 (by omega); have e1:=he 1 (by omega); have e2:=he 2 (by omega); have e3:=he 3 (by omega); have e4:=he 4 (by omega); have e5:=he 5 (by omega); have e6:=he 6 (by omega); have e7:=he 7 (by omega)
 rw [Nat.zero_mul] at x0 y0; rw [Nat.one_mul] at x1 y1
 rw [Op.equalIn]
 simp only [Sem.run_bind,run_underlying ht,Result.andThen_ok,hz,Std.Legacy.Range.forIn_eq_forIn_range',Std.Legacy.Range.size]
 simp [List.range',x0,x1,x2,x3,x4,x5,x6,x7,y0,y1,y2,y3,y4,y5,y6,y7,e0,e1,e2,e3,e4,e5,e6,e7]
 generalize b 0=c0; generalize b 1=c1; generalize b 2=c2; generalize b 3=c3; generalize b 4=c4; generalize b 5=c5; generalize b 6=c6; generalize b 7=c7
 cases c0<;>simp
 cases c1<;>simp
 cases c2<;>simp
 cases c3<;>simp
 cases c4<;>simp
 cases c5<;>simp
 cases c6<;>simp
 cases c7<;>simp
theorem JD (x y:StV):(decide (x.r0=y.r0) && decide (x.r1=y.r1) && decide (x.r2=y.r2) && decide (x.r3=y.r3) && decide (x.r4=y.r4) && decide (x.r5=y.r5) && decide (x.r6=y.r6) && decide (x.r7=y.r7))=decide (x=y):=by
 rw [Bool.eq_iff_iff]
 cases x; cases y
 simp only [Bool.and_eq_true,decide_eq_true_eq,StV.mk.injEq,and_assoc]
structure StTy (P:Program) (t:TypeId):Prop where
 ex : ∃ (tr ts : TypeId) (f0 : Field) (fs : Array Field), P.underlying t = some (.struct #[f0]) ∧ f0.name ≠ "_" ∧ f0.type = tr ∧ f0.offset = 0 ∧ P.stoodInHeld t = false ∧ P.underlying tr = some (.array 8 ts) ∧ (∀ w, (isAgg tr).run P w = .ok true w) ∧ (∀ w, (sizeOf tr).run P w = .ok 40 w) ∧
  P.underlying ts=some (.struct fs)∧WordFields P fs.toList [.bool,.bool,.int .u32,.int .u32,.int .u32]∧fs.toList.map (·.offset)=[0,1,2,3,4]∧P.stoodInHeld ts=false∧(∀ w,(isAgg ts).run P w=.ok true w)∧(∀ w,(sizeOf ts).run P w=.ok 5 w)
theorem Ej {t:TypeId} (h:StTy P t) (x y:StV) (w:World):(Op.equal t (.agg (bY.enc x).toArray) (.agg (bY.enc y).toArray)).run P w=.ok (decide (x=y)) w:=by
 obtain ⟨tr,ts,f0,fs,ht,n0,y0,o0,hh,htr,hatr,hztr,hts,hwf,hof,hhs,hats,hzts⟩:=h.ex
 have hf:P.fieldsOf t=#[f0]:=by simp [Program.fieldsOf,ht]
 subst y0
 unfold Op.equal
 show (Op.equalIn (9996+1+1+1+1) t _ _).run P w=_
 rw [run_equalIn_struct w _ t _ _ (by rw [hf]; exact ht) hh,hf]
 have hp:∀ (z:StV) (i:Nat),i<8→∀ w,(part ts (bY.enc z).toArray (i * 5)).run P w=.ok (.agg (er.enc (z.getN i)).toArray) w:=fun z i hi w =>
  yF hats hzts (by
   have:=ie (s:=z) (k:=(i:Int)) ⟨by omega,by omega⟩ (o:=i * 5) (by simp)
   rw [this]; rfl) w
 have hr:=ri w (FieldsRS.cons (P:=P) (d:=9996+1+1+1) (xs:=(bY.enc x).toArray) (ys:=(bY.enc y).toArray) (f:=f0) (fs:=[]) n0
  (fun w=>by rw [o0]; exact yF hatr hztr (vs:=bY.enc x) rfl w) (fun w=>by rw [o0]; exact yF hatr hztr (vs:=bY.enc y) rfl w)
  (fun w=>JH (d:=9996+1) (fun i=>.agg (er.enc (x.getN i)).toArray) (fun i=>.agg (er.enc (y.getN i)).toArray) (fun i=>decide (x.getN i=y.getN i)) htr hzts (hp x) (hp y) (fun i hi w=>JG hts hwf hof hhs _ _ w) w) .nil)
 refine hr.trans ?_
 rw [← JD]
 simp only [List.all_cons,List.all_nil,id,Bool.and_true]
 rfl
end
section
variable {P:Program} {N:Nat} {F:Bg} {L:List Ent} {M:Fr} {dst:Option Tmp} {ty:TypeId} {pos:String} {after:Array Edge} {g:Option (Nat × Bool)}
theorem Gz {x y:Operand} {t u:TypeId} {p q:StV} (hx:opv M x=some (.agg (bY.enc p).toArray)) (hy:opv M y=some (.agg (bY.enc q).toArray)) (h:StTy P t) (hg:P.eqGuardType P.depth t=false) :
  QS P N F L M ⟨dst,.binOp .neq t x y u,ty,pos,after,g⟩ (.bool (decide (p≠q))) :=
 bQ fun a w ha _=>by
  simp [execOp,ha.eval hx,ha.eval hy,oS w hg,binOp,Ej h]
end
end Go.HL
namespace Go.HL
open Go
def bK:Enc Bool:=⟨1,fun x=>[.bool x],fun _=>rfl,fun x v h=>by simp at h; subst h; rfl⟩
structure RV (α:Type) where
 data:List α
 dp:Option Addr
 dc:Nat
instance {α:Type}:Inhabited (RV α):=⟨⟨[],none,0⟩⟩
def bX {α:Type}:Enc (RV α):=⟨1,fun t=>[.slice t.dp t.data.length t.dc],fun _=>rfl,fun x v h=>by simp at h; subst h; rfl⟩
abbrev rvE {α:Type} (T:TypeId) (E:Enc α) (r:RV α):Ent:=rowE (.slice r.dp r.data.length r.dc) T E r.data
def RvIn {α:Type} (E:Enc α) (h:Hp) (l:List (RV α)):Prop:=∀ t∈l,Sl h E t.data (.slice t.dp t.data.length t.dc)
theorem RvIn.mono {α:Type} {E:Enc α} {h h':Hp} {l:List (RV α)} (d:RvIn E h l) (hh:Hp.le h h'):RvIn E h' l:=fun s hs=>(d s hs).mono hh
abbrev EdV:=RV (Int × Bool)
abbrev iQ:Enc EdV:=bX
abbrev QQ (h:Hp) (l:List EdV):Prop:=RvIn fh h l
structure VSt where
 st:List StV
 vs:List Int
 mb:List Bool
def nW (l:List Ins) (gd:List Int) (k:Nat) (s:VSt) (e:Int × Bool):StV :=
 if 4≤s.vs.getD e.1.toNat default then tp (s.st.getD e.1.toNat default) (gr (s.st.getD e.1.toNat default) (kF l s.st gd k e) 8) 8
 else gr (s.st.getD e.1.toNat default) (kF l s.st gd k e) 8
def dG (l:List Ins) (gd:List Int) (k:Nat) (s:VSt) (e:Int × Bool):VSt :=
 if nW l gd k s e=s.st.getD e.1.toNat default then s else ⟨s.st.set e.1.toNat (nW l gd k s e),s.vs,s.mb.set e.1.toNat true⟩
def eW (k:Nat) (s:VSt):VSt:=⟨s.st,s.vs.set k (s.vs.getD k default+1),s.mb.set k false⟩
def iK (l:List Ins) (gd:List Int) (es:List (Int × Bool)) (k:Nat) (s:VSt):VSt:=es.foldl (dG l gd k) (eW k s)
theorem GT (l:List Ins) (gd:List Int) (k:Nat) (s:VSt) (e:Int × Bool):(dG l gd k s e).st.length=s.st.length∧(dG l gd k s e).vs=s.vs∧(dG l gd k s e).mb.length=s.mb.length:=by
 unfold dG
 split
 ·exact ⟨rfl,rfl,rfl⟩
 ·exact ⟨List.length_set,rfl,List.length_set⟩
theorem nO (l:List Ins) (gd:List Int) (k:Nat):∀ (es:List (Int × Bool)) (s:VSt),(es.foldl (dG l gd k) s).st.length=s.st.length∧(es.foldl (dG l gd k) s).vs=s.vs∧(es.foldl (dG l gd k) s).mb.length=s.mb.length
 | [],s=>⟨rfl,rfl,rfl⟩
 | e :: t,s=>by
  have h1:=nO l gd k t (dG l gd k s e)
  have h2:=GT l gd k s e
  exact ⟨h1.1.trans h2.1,h1.2.1.trans h2.2.1,h1.2.2.trans h2.2.2⟩
theorem pY {α β:Type} [Inhabited β] (f:α→β→α) (l:List β) (s:α) {k:Nat} (h:k<l.length):(l.take (k+1)).foldl f s=f ((l.take k).foldl f s) (l.getD k default):=by
 rw [bN h,List.foldl_append]; rfl
theorem Fo {l:List Ins} {gd:List Int} {k:Nat} {s:VSt} {es:List (Int × Bool)} {j:Nat} (h:j<es.length) {S:VSt} (hS:S=(es.take j).foldl (dG l gd k) s) (hn:nW l gd k S (es.getD j default)≠S.st.getD (es.getD j default).1.toNat default) :
  (es.take (j+1)).foldl (dG l gd k) s=⟨S.st.set (es.getD j default).1.toNat (nW l gd k S (es.getD j default)),S.vs,S.mb.set (es.getD j default).1.toNat true⟩:=by
 rw [pY _ _ _ h,← hS]; unfold dG; rw [if_neg hn]
theorem IU {l:List Ins} {gd:List Int} {k:Nat} {s:VSt} {es:List (Int × Bool)} {j:Nat} (h:j<es.length) {S:VSt} (hS:S=(es.take j).foldl (dG l gd k) s) (hn:nW l gd k S (es.getD j default)=S.st.getD (es.getD j default).1.toNat default) :
  (es.take (j+1)).foldl (dG l gd k) s=S:=by
 rw [pY _ _ _ h,← hS]; unfold dG; rw [if_pos hn]
theorem kL {α:Type} {l:List α} {k j:Nat} {x d:α}:(l.set k x).getD j d=if k=j∧k<l.length then x else l.getD j d:=by
 simp only [List.getD_eq_getElem?_getD,List.getElem?_set]
 by_cases h:k=j
 ·subst h
  by_cases h2:k<l.length
  ·simp [h2]
  ·simp [h2]
 ·simp [h]
def bD (l:List Ins) (a:UInt32):Int:=dA (fun i:Ins=>decide (i.addr=a)) 0 l
theorem IS {α:Type} [Inhabited α] (p:α→Bool):∀ (l:List α) (k j:Nat),j<l.length→p (l.getD j default)=true→0≤dA p k l∧dA p k l≤(k+j:Nat)
 | [],k,j,h,_=>by simp at h
 | x :: l,k,j,h,hp=>by
  unfold dA
  by_cases hx:p x=true
  ·rw [if_pos hx]; omega
  ·rw [if_neg hx]
   cases j with
   | zero=>exact absurd hp hx
   | succ j =>
    have:=IS p l (k+1) j (by simpa using h) hp
    omega
theorem zg {l:List Ins} {k:Nat} (h:k<l.length):0≤bD l (l.getD k default).addr∧bD l (l.getD k default).addr≤k:=by
 have:=IS (fun i:Ins=>decide (i.addr=(l.getD k default).addr)) l 0 k h (by simp)
 unfold bD; omega
theorem pZ {l:List Ins} {a:UInt32} (h:0≤bD l a):(l.getD (bD l a).toNat default).addr=a:=by
 have:=(xI (fun i:Ins=>decide (i.addr=a)) l 0 h).2
 rw [Int.natCast_zero,Int.sub_zero] at this
 exact of_decide_eq_true this
theorem od (l:List Ins) (a:UInt32):-1≤bD l a∧bD l a<l.length:=by
 have:=jY (fun i:Ins=>decide (i.addr=a)) l 0
 unfold bD; omega
def atK (l:List Ins):Nat→List (UInt32 × Int)
 | 0=>[]
 | k+1=>if (du (atK l k) (l.getD k default).addr).isSome=true then atK l k else fG (atK l k) (l.getD k default).addr (k:Int)
theorem Di (l:List Ins) (a:UInt32):∀ (k:Nat),k≤l.length→du (atK l k) a=if 0≤bD l a∧bD l a<k then some (bD l a) else none
 | 0,_=>by simp only [atK,du]; rw [if_neg (by omega)]
 | k+1,h=>by
  have ih:=Di l a k (by omega)
  have ihb:=Di l (l.getD k default).addr k (by omega)
  have hf:=zg (l:=l) (k:=k) (by omega)
  unfold atK
  by_cases hs:(du (atK l k) (l.getD k default).addr).isSome=true
  ·rw [if_pos hs,ih]
   have hk:bD l (l.getD k default).addr<k:=by
    rw [ihb] at hs; split at hs
    ·omega
    ·simp at hs
   have hne:bD l a≠(k:Int):=by
    intro e
    have h1:=pZ (l:=l) (a:=a) (by omega)
    rw [e,Int.toNat_natCast] at h1
    rw [h1] at hk; omega
   by_cases hc:0≤bD l a∧bD l a<k
   ·rw [if_pos hc,if_pos (by omega)]
   ·rw [if_neg hc,if_neg (by omega)]
  ·rw [if_neg hs,uI,ih]
   have hk:bD l (l.getD k default).addr=k:=by
    rw [ihb] at hs
    by_cases hc:0≤bD l (l.getD k default).addr∧bD l (l.getD k default).addr<k
    ·rw [if_pos hc] at hs; simp at hs
    ·omega
   by_cases ha:a=(l.getD k default).addr
   ·subst ha
    rw [if_pos rfl,hk,if_pos (by omega)]
   ·rw [if_neg ha]
    have hne:bD l a≠(k:Int):=by
     intro e
     have h1:=pZ (l:=l) (a:=a) (by omega)
     rw [e,Int.toNat_natCast] at h1
     exact ha h1.symm
    by_cases hc:0≤bD l a∧bD l a<k
    ·rw [if_pos hc,if_pos (by omega)]
    ·rw [if_neg hc,if_neg (by omega)]
theorem H2 (l:List Ins) (a:UInt32):du (atK l l.length) a=if bD l a<0 then none else some (bD l a):=by
 have h:=od l a
 rw [Di l a l.length (Nat.le_refl _)]
 by_cases hc:bD l a<0
 ·rw [if_pos hc,if_neg (by omega)]
 ·rw [if_neg hc,if_pos (by omega)]
structure CSt where
 es:List (List (Int × Bool))
 into:List (List Int)
def stepJ (l:List Ins) (k:Nat) (s:CSt) (n:Nat):CSt :=
 if bD l ((bW (l.getD k default)).getD n default)<0 then s
 else ⟨s.es.set k (s.es.getD k [] ++ [(bD l ((bW (l.getD k default)).getD n default),decide ((n:Int)=0))]),
  s.into.set (bD l ((bW (l.getD k default)).getD n default)).toNat (s.into.getD (bD l ((bW (l.getD k default)).getD n default)).toNat [] ++ [(k:Int)])⟩
def jg (l:List Ins) (k:Nat) (s:CSt):Nat→CSt
 | 0=>s
 | n+1=>stepJ l k (jg l k s n) n
def ko (l:List Ins):Nat→CSt
 | 0=>⟨List.replicate l.length [],List.replicate l.length []⟩
 | k+1=>if bD l (l.getD k default).addr=k then jg l k (ko l k) (bW (l.getD k default)).length else ko l k
def oa (l:List Ins) (e:Nat) (into:List (List Int)) (k:Nat):Int :=
 if (l.getD k default).op=20∧eN (l.getD k default)=0∧(l.getD k default).addr≠(l.getD e default).addr∧(into.getD k []).length=1∧tQ (l.getD ((into.getD k []).getD 0 default).toNat default)=true
 then (into.getD k []).getD 0 default else -1
def cO (l:List Ins):List (List (Int × Bool)):=(ko l l.length).es
def bZ (l:List Ins) (e:Nat):List Int:=(List.range l.length).map (oa l e (ko l l.length).into)
structure COk (l:List Ins) (s:CSt) (k:Nat):Prop where
 le:s.es.length=l.length
 li:s.into.length=l.length
 e:∀ t∈s.es,∀ x∈t,0≤x.1∧x.1<(l.length:Int)
 i:∀ t∈s.into,∀ x∈t,0≤x∧x<(l.length:Int)
 eb:∀ j,(s.es.getD j []).length≤2
 ib:∀ j,(s.into.getD j []).length≤2 * k
theorem yR {α:Type} {l:List α} {k:Nat} {x y:α} (h:y∈l.set k x):y=x∨y∈l:=by
 rcases List.mem_or_eq_of_mem_set h with h|h
 ·exact .inr h
 ·exact .inl h
theorem getD_mem {α:Type} {l:List (List α)} {k:Nat} {x:α} (h:x∈l.getD k []):l.getD k []∈l:=by
 by_cases hk:k<l.length
 ·have:=ba (l:=l) hk
  have e:(default:List α)=[]:=rfl
  rwa [e] at this
 ·rw [List.getD_eq_getElem?_getD,List.getElem?_eq_none (by omega)] at h; simp at h
theorem qf {l:List Ins} {k:Nat} {s:CSt} (hk:k<l.length) (h:COk l s k) (h0:(s.es.getD k []).length=0):∀ n,n≤2 → 
    (jg l k s n).es.length=l.length∧(jg l k s n).into.length=l.length∧(∀ t∈(jg l k s n).es,∀ x∈t,0≤x.1∧x.1<(l.length:Int))∧(∀ t∈(jg l k s n).into,∀ x∈t,0≤x∧x<(l.length:Int)) ∧
    (∀ j,((jg l k s n).es.getD j []).length≤if j=k then n else 2)∧(∀ j,((jg l k s n).into.getD j []).length≤2 * k+n)∧(∀ j,j≠k→(jg l k s n).es.getD j []=s.es.getD j [])
  | 0,_=>⟨h.le,h.li,h.e,h.i,fun j=>by
      by_cases hj:j=k
      · rw [if_pos hj,hj]; exact Nat.le_of_eq h0
      · rw [if_neg hj]; exact h.eb j,h.ib,fun _ _=>rfl⟩
  | n+1,hn=>by
    obtain ⟨h1,h2,h3,h4,h5,h6,h7⟩:=qf hk h h0 n (by omega)
    simp only [jg]
    have hf:=od l ((bW (l.getD k default)).getD n default)
    unfold stepJ
    by_cases hc:bD l ((bW (l.getD k default)).getD n default)<0
    · rw [if_pos hc]
      refine ⟨h1,h2,h3,h4,fun j=>?_,fun j=>Nat.le_trans (h6 j) (by omega),h7⟩
      have:=h5 j
      split at this<;>rename_i q
      · rw [if_pos q]; omega
      · rw [if_neg q]; omega
    · rw [if_neg hc]
      refine ⟨by rw [List.length_set]; exact h1,by rw [List.length_set]; exact h2,fun t ht x hx=>?_,fun t ht x hx=>?_,fun j=>?_,fun j=>?_,fun j hj=>?_⟩
      · rcases yR ht with rfl|ht
        · rcases List.mem_append.1 hx with hx|hx
          · exact h3 _ (getD_mem hx) x hx
          · rw [List.mem_singleton.1 hx]; exact ⟨by omega,hf.2⟩
        · exact h3 t ht x hx
      · rcases yR ht with rfl|ht
        · rcases List.mem_append.1 hx with hx|hx
          · exact h4 _ (getD_mem hx) x hx
          · rw [List.mem_singleton.1 hx]; omega
        · exact h4 t ht x hx
      · rw [kL]
        have hkk:=h5 k
        rw [if_pos rfl] at hkk
        by_cases hj:j=k
        · subst hj
          rw [if_pos ⟨rfl,by omega⟩,if_pos rfl,List.length_append]
          simp only [List.length_cons,List.length_nil]; omega
        · rw [if_neg (by omega),if_neg hj]
          have:=h5 j; rw [if_neg hj] at this; exact this
      · rw [kL]
        split
        · rename_i q
          rw [List.length_append]
          have:=h6 (bD l ((bW (l.getD k default)).getD n default)).toNat
          simp only [List.length_cons,List.length_nil]; omega
        · exact Nat.le_trans (h6 j) (by omega)
      · rw [kL,if_neg (by omega)]; exact h7 j hj
theorem sc (l:List Ins):∀ k,k≤l.length→COk l (ko l k) k∧∀ j,k≤j→(ko l k).es.getD j []=[]
 | 0,_=>by
  refine ⟨⟨by simp [ko],by simp [ko],fun t ht x hx=>?_,fun t ht x hx=>?_,fun j=>?_,fun j=>?_⟩,fun j _=>?_⟩
  ·rw [(List.mem_replicate.1 ht).2] at hx; simp at hx
  ·rw [(List.mem_replicate.1 ht).2] at hx; simp at hx
  all_goals
   simp only [ko,List.getD_eq_getElem?_getD,List.getElem?_replicate]
   split<;>simp
 | k+1,h=>by
  obtain ⟨ih,ihe⟩:=sc l k (by omega)
  unfold ko
  split
  ·have hsl:(bW (l.getD k default)).length≤2:=ir _
   obtain ⟨h1,h2,h3,h4,h5,h6,h7⟩:=qf (l:=l) (k:=k) (by omega) ih (by rw [ihe k (Nat.le_refl _)]; rfl) _ hsl
   exact ⟨⟨h1,h2,h3,h4,fun j=>Nat.le_trans (h5 j) (by split<;>omega),fun j=>Nat.le_trans (h6 j) (by omega)⟩,fun j hj=>by rw [h7 j (by omega)]; exact ihe j (by omega)⟩
  ·exact ⟨⟨ih.le,ih.li,ih.e,ih.i,ih.eb,fun j=>Nat.le_trans (ih.ib j) (by omega)⟩,fun j hj=>ihe j (by omega)⟩
theorem qV (l:List Ins) {k:Nat} (h:k≤l.length):COk l (ko l k) k:=(sc l k h).1
theorem Kv (l:List Ins) (e k:Nat):oa l e (ko l l.length).into k<(l.length:Int):=by
 unfold oa
 split
 ·rename_i h
  have hm:((ko l l.length).into.getD k []).getD 0 default∈(ko l l.length).into.getD k []:=ba (by omega)
  exact ((qV l (Nat.le_refl _)).i _ (getD_mem hm) _ hm).2
 ·omega
def jZ (mb:List Bool):Int:=dA (fun x:Bool=>decide (true=x)) 0 mb
def fP (l:List Ins) (gd:List Int) (es:List (List (Int × Bool))):Nat→VSt→List StV × Int
 | 0,s=>if jZ s.mb<0 then (s.st,0) else ([],15)
 | n+1,s=>if jZ s.mb<0 then (s.st,0) else fP l gd es n (iK l gd (es.getD (jZ s.mb).toNat []) (jZ s.mb).toNat s)
def lH (l:List Ins) (e:Nat):VSt:=⟨(List.replicate l.length (gI 8)).set e (vr 8),List.replicate l.length 0,(List.replicate l.length false).set e true⟩
def cg (l:List Ins) (entry:UInt32) (rounds:Nat):List StV × Int :=
 if 4096<l.length then ([],6) else if bD l entry<0 then ([],9)
 else fP l (bZ l (bD l entry).toNat) (cO l) rounds (lH l (bD l entry).toNat)
section
variable {P:Program} {N:Nat} {F:Bg} {L A B:List Ent} {M:Fr} {X:Act→World→Prop}
theorem getD_at {α:Type} [Inhabited α] {l:List α} {i:Nat} (h:i<l.length):l[i]=l.getD i default:=by simp [List.getD_eq_getElem?_getD,h]
theorem Gq {α:Type} [Inhabited α] {f:α→Ent} {rs:List α} (i:Nat) (h:i<rs.length) (K:Tr N F (f (rs.getD i default) :: (A ++ ((rs.eraseIdx i).map f ++ L))) M X):Tr N F (A ++ (rs.map f ++ L)) M X :=
 O7 i h (by rw [getD_at h]; exact K)
theorem ND {α:Type} [Inhabited α] {f:α→Ent} {rs:List α} (i:Nat) (h:i<rs.length) (K:Tr N F (f (rs.getD i default) :: (A ++ (B ++ ((rs.eraseIdx i).map f ++ L)))) M X):Tr N F (A ++ (B ++ (rs.map f ++ L))) M X:=by
 rw [← List.append_assoc] at K ⊢
 exact Gq i h K
theorem NC {α:Type} {f:α→Ent} {rs:List α} (i:Nat) (y:α) (h:i<rs.length) (K:Tr N F (A ++ (B ++ ((rs.set i y).map f ++ L))) M X):Tr N F (f y :: (A ++ (B ++ ((rs.eraseIdx i).map f ++ L)))) M X:=by
 rw [← List.append_assoc] at K ⊢
 exact Dq i y h K
theorem yG {α:Type} {w:World} (T:TypeId) (E:Enc α) (h:HpOK F L w):∀ n,HpOK F ((List.replicate n (default:RV α)).map (rvE T E) ++ L) w
 | 0=>h
 | n+1=>IL T E (yG T E h n)
theorem NE {α β:Type} (T T':TypeId) (E:Enc α) (E':Enc β) (n:Nat) (K:Tr N F (L ++ ((List.replicate n (default:RV α)).map (rvE T E) ++ ((List.replicate n (default:RV β)).map (rvE T' E') ++ []))) M X):Tr N F L M X :=
 fun a w ha hw=>K a w ha ((yG T E (yG T' E' hw n) n).perm (by
  rw [List.append_nil]
  refine List.perm_append_comm.trans ?_
  rw [List.append_assoc]))
theorem q7 {α:Type} {T:TypeId} {E:Enc α} (rs:List (RV α)) {F:Bg} (K:∀ F',F.le F'→RvIn E F'.blk rs→Tr N F' A M X):Tr N F (A ++ (rs.map (rvE T E) ++ [])) M X:=by
 refine sR (L':=(rs.map (fun r:RV α=>(Value.slice r.dp r.data.length r.dc,r.data))).map (fun r:Value × List α=>rowE r.1 T E r.2) ++ A) ?_ (ve (rs.map (fun r:RV α=>(Value.slice r.dp r.data.length r.dc,r.data))) fun F' h1 h2=>K F' h1 fun t ht=>?_)
 ·rw [List.append_nil,List.map_map]
  exact List.perm_append_comm
 ·exact h2 _ (List.mem_map.2 ⟨t,ht,rfl⟩)
theorem AL {α:Type} {T:TypeId} {E:Enc α} (rs:List (RV α)) {F:Bg} (K:∀ F',F.le F'→RvIn E F'.blk rs→Tr N F' (A ++ (B ++ [])) M X):Tr N F (A ++ (B ++ (rs.map (rvE T E) ++ []))) M X:=by
 rw [← List.append_assoc]
 refine q7 rs fun F' h1 h2=>?_
 have:=K F' h1 h2
 rwa [List.append_nil] at this
end
def jX (x:Int):Value:=.int .i64 x
theorem yL (o:Option Int):yN jX (.int .i64 0) o=.int .i64 (o.getD 0):=by cases o<;>rfl
section
variable {P:Program} {N:Nat} {F:Bg} {L:List Ent} {M:Fr} {dst:Option Tmp} {ty:TypeId} {pos:String} {after:Array Edge} {g:Option (Nat × Bool)} {l:List (UInt32 × Int)} {x y:Operand} {t K e:TypeId} {b:Nat} {k:UInt32}
theorem DD {x y:Operand} {V:Value} {bb n c kz i:Nat} {kk:IntKind} (hx:opv M x=some V) (hy:opv M y=some (.int kk i)) (hV:V=.slice (some ⟨bb,0,none⟩) n c) (ht:P.underlying t=some (.slice e)) (hz:∀ w,(sizeOf e).run P w=.ok kz w) (hi:i<n) :
  QS P N F L M ⟨dst,.indexAddr t x y,ty,pos,after,g⟩ (.pointer (some ⟨bk V,ofs V+i * kz,none⟩)) :=
 bQ fun A w ha hw=>by
  have:=oM (V:=.nilFunc) (c:=c) (kk:=kk) (n:=n) (i:=(i:Int)) ht hz w ⟨Int.natCast_nonneg _,Int.ofNat_lt.2 hi⟩ bb 0 rfl
  subst hV
  simp [execOp,ha.eval hx,ha.eval hy,this,bk,ofs]
theorem zX (hx:opv M x=some (.map (some b))) (hy:opv M y=some (.int .u32 k.toNat)) (hm:mapE b jX l∈L) (ht:P.underlying t=some (.map K e)) (hK:P.underlying K=some (.int .u32)) (hz:∀ w,(zeroValue e).run P w=.ok (.int .i64 0) w) :
  QS P N F L M ⟨dst,.lookup t x y true,ty,pos,after,g⟩ (.tuple #[.int .i64 ((du l k).getD 0),.bool (du l k).isSome]):=by
 have h:=B0 (P:=P) (N:=N) (F:=F) (L:=L) (M:=M) (dst:=dst) (ty:=ty) (pos:=pos) (after:=after) (g:=g) hx hy hm ht hK hz
 rw [yL] at h; exact h
theorem KV (hx:opv M x=some (.map (some b))) (hy:opv M y=some (.int .u32 k.toNat)) (hm:MapIn F.blk b jX l) (ht:P.underlying t=some (.map K e)) (hK:P.underlying K=some (.int .u32)) (hz:∀ w,(zeroValue e).run P w=.ok (.int .i64 0) w) :
  QS P N F L M ⟨dst,.lookup t x y false,ty,pos,after,g⟩ (.int .i64 ((du l k).getD 0)):=by
 have h:=zZ (P:=P) (N:=N) (F:=F) (L:=L) (M:=M) (dst:=dst) (ty:=ty) (pos:=pos) (after:=after) (g:=g) hx hy hm ht hK hz
 rw [yL] at h; exact h
theorem GB (hx:opv M x=some (.map (some b))) (hy:opv M y=some (.int .u32 k.toNat)) (hm:MapIn F.blk b jX l) (ht:P.underlying t=some (.map K e)) (hK:P.underlying K=some (.int .u32)) (hz:∀ w,(zeroValue e).run P w=.ok (.int .i64 0) w) :
  QS P N F L M ⟨dst,.lookup t x y true,ty,pos,after,g⟩ (.tuple #[.int .i64 ((du l k).getD 0),.bool (du l k).isSome]):=by
 have h:=zY (P:=P) (N:=N) (F:=F) (L:=L) (M:=M) (dst:=dst) (ty:=ty) (pos:=pos) (after:=after) (g:=g) hx hy hm ht hK hz
 rw [yL] at h; exact h
end
section
variable {P:Program} {ops:Array Oper} {Q:Exit→Act→World→Prop} {N:Nat} {F:Bg} {L:List Ent} {M:Fr} {ty:TypeId} {pos:String} {after:Array Edge} {d:Nat} {L0:List Ent} {fuel:Nat} {listed:Array Bool}
theorem xW {x:Operand} {t e:TypeId} {a:Option Addr} {n c:Nat} (i:Nat) (hi:ops[i]?=some ⟨some d,.call { callee:=.builtin .len,args:=#[x],argTypes:=#[t] },ty,pos,after,none⟩) (hB:takeB ops listed i=true) (hQ:∀ c a d v w,Q (.panic c) (a.put d v) w→Q (.panic c) a w)
  (hx:opv M x=some (.slice a n c)) (ht:P.underlying t=some (.slice e)) (k:Tr N F L ((d,.int .i64 (n:Nat)) :: M) (wpAnyH P .any ops Q (HpOK F L0) fuel (listed.setIfInBounds i true)))
  (hd:Nat.ble (d+1) N=true:=by rfl) (hL:Pick L L0:=by repeat' (first|exact Pick.nil _|exact Del.here _|apply Pick.cons|apply Del.there)) :
  Tr N F L M (wpAnyH P .any ops Q (HpOK F L0) (fuel+1) listed):=by
 simp only [takeB,Bool.and_eq_true] at hB
 intro A w ha hw
 exact wpAnyH_take hi hB.1.1 hB.1.2 hB.2 (fun c a w=>hQ c a _ _ w) (.inl ⟨by simp [Region.wanted],fun w' hw'=>by simp [execOp,resolve,invoke,builtin,Builtin.len_,ha.eval hx,run_underlying ht,goInt]⟩) (hL.heap hw) (k _ _ (ha.put (Nat.le_of_ble_eq_true hd)) hw)
end
theorem u4 {l:List Ins} {k:Nat} (h:bD l (l.getD k default).addr≠(k:Int)):ko l (k+1)=ko l k:=if_neg h
theorem sb {l:List Ins} {k:Nat} (h:bD l (l.getD k default).addr=(k:Int)):ko l (k+1)=jg l k (ko l k) (bW (l.getD k default)).length:=if_pos h
theorem u5 {l:List Ins} {k j:Nat} {s:CSt} (h:bD l ((bW (l.getD k default)).getD j default)<0):jg l k s (j+1)=jg l k s j:=if_pos h
theorem sO {l:List Ins} {k j:Nat} {s:CSt} (h:¬ bD l ((bW (l.getD k default)).getD j default)<0):jg l k s (j+1) =
  ⟨(jg l k s j).es.set k ((jg l k s j).es.getD k [] ++ [(bD l ((bW (l.getD k default)).getD j default),decide ((j:Int)=0))]),
  (jg l k s j).into.set (bD l ((bW (l.getD k default)).getD j default)).toNat ((jg l k s j).into.getD (bD l ((bW (l.getD k default)).getD j default)).toNat [] ++ [(k:Int)])⟩:=if_neg h
theorem oD {α:Type} {rs:List (RV α)} {L:List (List α)} (h:rs.map (·.data)=L) (j:Nat):(rs.getD j default).data=L.getD j []:=by
 subst h
 simp only [List.getD_eq_getElem?_getD,List.getElem?_map]
 cases rs[j]?<;>rfl
theorem Ly {α:Type} {rs:List (RV α)} {L:List (List α)} (h:rs.map (·.data)=L) (k:Nat) (x:α) (p:Option Addr) (c:Nat):(rs.set k ⟨(rs.getD k default).data ++ [x],p,c⟩).map (·.data)=L.set k (L.getD k [] ++ [x]):=by
 rw [List.map_set,h,oD h]
theorem PW {gd:List Int} {n k:Nat} {f:Nat→Int} (hl:gd.length=n) (h:∀ j,j<k→gd.getD j default=f j) (hk:k<n):∀ j,j<k+1→(gd.set k (f k)).getD j default=f j:=by
 intro j hj
 rw [kL]
 by_cases e:k=j
 ·subst e; rw [if_pos ⟨rfl,by omega⟩]
 ·rw [if_neg (by omega)]; exact h j (by omega)
theorem Qx {gd:List Int} {n k:Nat} {f:Nat→Int} (hl:gd.length=n) (h:∀ j,j<k→gd.getD j default=f j) (h2:gd.getD k default=f k):∀ j,j<k+1→gd.getD j default=f j:=by
 intro j hj
 by_cases e:j=k
 ·subst e; exact h2
 ·exact h j (by omega)
theorem Qw {gd:List Int} {n k:Nat} {x c:Int} (h:∀ j,k≤j→j<n→gd.getD j default=c):∀ j,k+1≤j→j<n→(gd.set k x).getD j default=c:=by
 intro j h1 h2
 rw [kL,if_neg (by omega)]; exact h j (by omega) h2
theorem Kw {gd:List Int} {l:List Ins} {e:Nat} (hl:gd.length=l.length) (h:∀ j,j<l.length→gd.getD j default=oa l e (ko l l.length).into j):gd=bZ l e:=by
 unfold bZ
 apply List.ext_getElem
 ·simp [hl]
 ·intro i h1 h2
  have:=h i (by omega)
  rw [← getD_at h1] at this
  rw [this]; simp
section
variable {N:Nat} {F:Bg} {L A:List Ent} {M:Fr} {X:Act→World→Prop}
theorem Du {α:Type} {T:TypeId} {E:Enc α} (rs:List (RV α)) (K:∀ F',F.le F'→RvIn E F'.blk rs→Tr N F' (A ++ L) M X):Tr N F (A ++ (rs.map (rvE T E) ++ L)) M X:=by
 refine sR (L':=(A ++ L) ++ (rs.map (rvE T E) ++ [])) ?_ (q7 rs fun F' h1 h2=>K F' h1 h2)
 rw [List.append_nil,List.append_assoc]
 exact (List.perm_append_comm (l₁:=L)).append_left _
end
theorem ze (l:List Ins) (e:Nat):(bZ l e).length=l.length:=by unfold bZ; simp
theorem Kq (l:List Ins) (e:Nat):∀ j,j<(bZ l e).length→(bZ l e).getD j default<(l.length:Int):=by
 intro j h
 rw [ze] at h
 unfold bZ
 rw [← getD_at (by simpa using h)]
 simp only [List.getElem_map]
 exact Kv l e _
theorem KE {l:List Ins} {rs:List EdV} (h:rs.map (·.data)=cO l):rs.length=l.length:=by
 have:=congrArg List.length h
 rw [List.length_map] at this
 exact this.trans (qV l (Nat.le_refl _)).le
theorem OU {l:List Ins} {rs:List EdV} (h:rs.map (·.data)=cO l) (k:Nat):∀ e∈(rs.getD k default).data,0≤e.1∧e.1<(l.length:Int):=by
 intro e he
 rw [oD h] at he
 exact (qV l (Nat.le_refl _)).e _ (getD_mem he) e he
theorem ti {l:List Ins} {gd:List Int} {es:List (List (Int × Bool))} {n:Nat} {s:VSt} (h:jZ s.mb<0):fP l gd es n s=(s.st,0):=by
 cases n<;>exact if_pos h
theorem tg {l:List Ins} {gd:List Int} {es:List (List (Int × Bool))} {n:Nat} {s:VSt} (h:¬ jZ s.mb<0):fP l gd es (n+1) s=fP l gd es n (iK l gd (es.getD (jZ s.mb).toNat []) (jZ s.mb).toNat s):=if_neg h
theorem vc {l:List Ins} {gd:List Int} {es:List (List (Int × Bool))} {s:VSt} (h:¬ jZ s.mb<0):fP l gd es 0 s=([],15):=if_neg h
theorem tq (l:List Ins) (gd:List Int) (es:List (Int × Bool)) (k:Nat) (s:VSt):(iK l gd es k s).st.length=s.st.length∧(iK l gd es k s).vs.length=s.vs.length∧(iK l gd es k s).mb.length=s.mb.length:=by
 have h:=nO l gd k es (eW k s)
 exact ⟨h.1,(congrArg List.length h.2.1).trans List.length_set,h.2.2.trans List.length_set⟩
theorem DT {l:List Ins} {gd:List Int} {es:List (Int × Bool)} {k n:Nat} {s:VSt} (hk:k<s.vs.length) (h:∀ v∈s.vs,0≤v∧v≤(n:Int)):∀ v∈(iK l gd es k s).vs,0≤v∧v≤((n+1:Nat):Int):=by
 intro v hv
 have e:(iK l gd es k s).vs=s.vs.set k (s.vs.getD k default+1):=(nO l gd k es (eW k s)).2.1
 rw [e] at hv
 rcases yR hv with rfl|hv
 ·have:=h _ (ba hk); omega
 ·have:=h v hv; omega
section
variable {P:Program} {N:Nat} {F:Bg} {L:List Ent} {M:Fr} {dst:Option Tmp} {ty:TypeId} {pos:String} {after:Array Edge} {g:Option (Nat × Bool)}
theorem K6 {fo:Operand} {f:FuncId} {us:List Value} {xs:List Operand} {vs:List Value} {ts:Array TypeId} {v:Value} (hf:opv M fo=some (.func (.func f) us.toArray #[])) (hx:l3 M xs=some vs)
  (he:∀ (args:Array Value) (w:World),(callFunc f args).run P w=.ok (.enter f args) w)
  (hc:∀ w,HpOK F L w→Calls P f (us ++ vs).toArray w fun e w'=>e=.returned v∧Ext w w') :
  QS P N F L M ⟨dst,.call { callee:=.value fo,args:=xs.toArray,argTypes:=ts },ty,pos,after,g⟩ v:=by
 intro a w ha hw
 unfold Oper.quietAt
 have h1:=ha.evals hx
 have h2:=ha.eval hf
 have hr:(execOp a.eval ⟨dst,.call { callee:=.value fo,args:=xs.toArray,argTypes:=ts },ty,pos,after,g⟩).run P w=.ok (.enter f (us ++ vs).toArray) w:=by
  simp [execOp,resolve,Deferred.ofValue,invoke,he,h1,h2]
 rw [hr]
 exact ⟨rfl,(hc w hw).mono fun e w' ⟨h1,h2⟩=>⟨h1,hw.grow h2⟩⟩
end
def mO (l:List SecV) (a:UInt32):UInt32 × Bool :=
 if (fF l a 4).2≠0∨(fF l a 4).1.length≠4 then (0,false)
 else if bL l a<0∨(l.getD (bL l a).toNat default).wr=true then (0,false) else (leP (fF l a 4).1,true)
def D3 (l:List SecV) (a:UInt32):Bool:=decide (0≤bL l a) && (l.getD (bL l a).toNat default).ex
def ow (i:Ins):Bool:=decide (eN i=0) && uO i.op
def jp (l:List SecV) (t j:UInt32):UInt32 × Bool:=((mO l (t+4 * j)).1,(mO l (t+4 * j)).2 && D3 l (mO l (t+4 * j)).1)
theorem PR {l:List UInt8} (h:l.length=4) :
  (((l.getD 0 default).toUInt32 ||| jt (l.getD 1 default).toUInt32 8) ||| jt (l.getD 2 default).toUInt32 16) ||| jt (l.getD 3 default).toUInt32 24=leP l:=by
 have h0:leP (l.take 1)=(l.getD 0 default).toUInt32:=by
  rw [← xH (l:=l) (k:=0) (by omega) (by omega) (c:=0) rfl]
  rw [← UInt32.toNat_inj,UInt32.toNat_or,jc]
  simp [leP]
 have h1:=xH (l:=l) (k:=1) (by omega) (by omega) (c:=8) rfl
 have h2:=xH (l:=l) (k:=2) (by omega) (by omega) (c:=16) rfl
 have h3:=xH (l:=l) (k:=3) (by omega) (by omega) (c:=24) rfl
 rw [List.take_of_length_le (l:=l) (i:=3+1) (by omega)] at h3
 rw [← h3,← h2,← h1,← h0]; rfl
def ym (s:VSet) (j:UInt32):UInt32:=if qS s j=true then j else s.lo
def qy (l:List SecV) (t:UInt32) (s:VSet):Nat→Option (List UInt32)
 | 0=>some []
 | n+1=>match qy l t s n with
  | none=>none
  | some out=>if (jp l t (ym s (u32 (n:Int)))).2=true then some (out ++ [(jp l t (ym s (u32 (n:Int)))).1]) else none
theorem ui {l:List SecV} {t:UInt32} {s:VSet}:∀ {n:Nat} {out:List UInt32},qy l t s n=some out→out.length=n
 | 0,out,h=>by simp only [qy,Option.some.injEq] at h; subst h; rfl
 | n+1,out,h=>by
  simp only [qy] at h
  cases hk:qy l t s n with
  | none=>rw [hk] at h; cases h
  | some o =>
   rw [hk] at h
   simp only at h
   split at h
   ·cases h; rw [List.length_append,ui hk]; rfl
   ·cases h
theorem Ea {l:List SecV} {t:UInt32} {s:VSet} {n:Nat} {out:List UInt32} (h:qy l t s n=some out) (h2:(jp l t (ym s (u32 (n:Int)))).2=true):qy l t s (n+1)=some (out ++ [(jp l t (ym s (u32 (n:Int)))).1]):=by
 simp only [qy,h]; rw [if_pos h2]
theorem Iw {l:List SecV} {t:UInt32} {s:VSet} {n:Nat} {out:List UInt32} (h:qy l t s n=some out) (h2:(jp l t (ym s (u32 (n:Int)))).2=false):qy l t s (n+1)=none:=by
 simp only [qy,h]; rw [if_neg (by rw [h2]; simp)]
theorem AU {l:List SecV} {t:UInt32} {s:VSet} {n:Nat} (h:qy l t s n=none):∀ m,n≤m→qy l t s m=none:=by
  intro m hm
  induction m with
  | zero=>obtain rfl:n=0:=by omega
          exact h
  | succ m ih =>
    rcases Nat.lt_or_ge n (m+1) with q|q
    · simp only [qy,ih (by omega)]
    · obtain rfl:n=m+1:=by omega
      exact h
def aQ (l:List SecV) (i:Ins) (x:VSet):List UInt32 × Int :=
 if ow i=false then ([],2) else if fV l≠0 then ([],fV l)
 else if (eD x=false∨x.em=true)∨x.top=true then ([],19)
 else if i.op≠22 then (if (dm x).2≠0∨((dm x).1.any fun a=>!D3 l a)=true then ([],19) else ((dm x).1,0))
 else if 64≤x.hi then ([],19)
 else match qy l i.imm x (x.hi.toNat+1) with
  | none=>([],19)
  | some out=>(out,0)
def qR (l:List SecV) (a:UInt32):Nat→Bool
 | 0=>true
 | n+1=>qR l a n && (jp l a (u32 (n:Int))).2
theorem E3 {l:List SecV} {a:UInt32} {n:Nat} (h:qR l a n=false):∀ m,n≤m→qR l a m=false:=by
  intro m hm
  induction m with
  | zero=>obtain rfl:n=0:=by omega
          exact h
  | succ m ih =>
    rcases Nat.lt_or_ge n (m+1) with q|q
    · simp only [qR,ih (by omega),Bool.false_and]
    · obtain rfl:n=m+1:=by omega
      exact h
def vQ (l:List SecV) (a:UInt32) (n:Int):Bool:=if (n<1∨64<n)∨fV l≠0 then false else qR l a n.toNat
theorem DZ {j:Nat} (h:j<4294967295):u32 (j:Int)+1=u32 ((j+1:Nat):Int):=by
 have h1:=nB (j:Int)
 have h2:=nB ((j+1:Nat):Int)
 rw [← UInt32.toNat_inj,UInt32.toNat_add]
 have e:(1:UInt32).toNat=1:=rfl
 rw [e]; omega
theorem C2 {x:UInt32} (h:x<64):(x+1).toNat=x.toNat+1:=by
 rw [UInt32.lt_iff_toNat_lt] at h
 have e:(64:UInt32).toNat=64:=rfl
 have e1:(1:UInt32).toNat=1:=rfl
 rw [UInt32.toNat_add,e1]; omega
end Go.HL
namespace Go.Proofs
open Go.Shelf
def Tryz.sortIns_ren:Go.Shelf.Ren:=⟨fun|6=>82|15=>150|14=>149|28=>208|29=>209|20=>199|21=>201|22=>202|23=>203|24=>204|25=>205|26=>206|27=>207|46=>264|47=>265|48=>266|49=>267|50=>268|57=>297|n=>n,fun|22=>50|24=>36|25=>156|3=>3|39=>191|0=>0|53=>23|55=>43|4=>4|46=>261|45=>260|50=>229|5=>5|9=>9|66=>292|70=>296|76=>316|77=>317|n=>n,fun|n=>n⟩
theorem Tryz.sortIns:Go.Proofs.SlLaysF0.n6 Tryz.prog Tryz.sortIns_ren:={
 mixed:=by kernel_rfl
 f6:=⟨Tryz.f82.name,by decide,Tryz.func82.trans (congrArg some (by kernel_rfl))⟩
 f14:=⟨Tryz.f149.name,by decide,Tryz.func149.trans (congrArg some (by kernel_rfl))⟩
 f15:=Tryz.func150.trans (congrArg some (by kernel_rfl))
 f20:=⟨Tryz.f199.name,by decide,Tryz.func199.trans (congrArg some (by kernel_rfl))⟩
 f21:=⟨Tryz.f201.name,by decide,Tryz.func201.trans (congrArg some (by kernel_rfl))⟩
 f22:=⟨Tryz.f202.name,by decide,Tryz.func202.trans (congrArg some (by kernel_rfl))⟩
 f23:=⟨Tryz.f203.name,by decide,Tryz.func203.trans (congrArg some (by kernel_rfl))⟩
 f24:=⟨Tryz.f204.name,by decide,Tryz.func204.trans (congrArg some (by kernel_rfl))⟩
 f25:=⟨Tryz.f205.name,by decide,Tryz.func205.trans (congrArg some (by kernel_rfl))⟩
 f26:=⟨Tryz.f206.name,by decide,Tryz.func206.trans (congrArg some (by kernel_rfl))⟩
 f27:=⟨Tryz.f207.name,by decide,Tryz.func207.trans (congrArg some (by kernel_rfl))⟩
 f28:=Tryz.func208.trans (congrArg some (by kernel_rfl))
 f29:=Tryz.func209.trans (congrArg some (by kernel_rfl))
 f46:=⟨Tryz.f264.name,by decide,Tryz.func264.trans (congrArg some (by kernel_rfl))⟩
 f47:=Tryz.func265.trans (congrArg some (by kernel_rfl))
 f48:=Tryz.func266.trans (congrArg some (by kernel_rfl))
 f49:=⟨Tryz.f267.name,by decide,Tryz.func267.trans (congrArg some (by kernel_rfl))⟩
 f50:=⟨Tryz.f268.name,by decide,Tryz.func268.trans (congrArg some (by kernel_rfl))⟩
 f57:=⟨Tryz.f297.name,by decide,Tryz.func297.trans (congrArg some (by kernel_rfl))⟩
 t0:=Tryz.underlying0
 a0:=Tryz.isAgg0
 z0:=Tryz.sizeOf0
 v0:=Tryz.zeroValue0
 t3:=Tryz.underlying3
 a3:=Tryz.isAgg3
 z3:=Tryz.sizeOf3
 v3:=Tryz.zeroValue3
 t4:=Tryz.underlying4
 a4:=Tryz.isAgg4
 z4:=Tryz.sizeOf4
 v4:=Tryz.zeroValue4
 t5:=Tryz.underlying5
 a5:=Tryz.isAgg5
 z5:=Tryz.sizeOf5
 v5:=Tryz.zeroValue5
 t9:=Tryz.underlying9
 a9:=Tryz.isAgg9
 z9:=Tryz.sizeOf9
 v9:=Tryz.zeroValue9
 t22:=Tryz.underlying50
 a22:=Tryz.isAgg50
 z22:=Tryz.sizeOf50
 v22:=Tryz.zeroValue50
 t25:=Tryz.underlying156
 a25:=Tryz.isAgg156
 z25:=Tryz.sizeOf156
 v25:=Tryz.zeroValue156
 t39:=Tryz.underlying191
 a39:=Tryz.isAgg191
 z39:=Tryz.sizeOf191
 v39:=Tryz.zeroValue191
 t45:=Tryz.underlying260
 a45:=Tryz.isAgg260
 z45:=Tryz.sizeOf260
 v45:=Tryz.zeroValue260
 t46:=Tryz.underlying261
 a46:=Tryz.isAgg261
 z46:=Tryz.sizeOf261
 v46:=Tryz.zeroValue261
 t50:=Tryz.underlying229
 a50:=Tryz.isAgg229
 z50:=Tryz.sizeOf229
 v50:=Tryz.zeroValue229
 t53:=Tryz.underlying23
 a53:=Tryz.isAgg23
 z53:=Tryz.sizeOf23
 v53:=Tryz.zeroValue23
 t55:=Tryz.underlying43
 a55:=Tryz.isAgg43
 z55:=Tryz.sizeOf43
 v55:=Tryz.zeroValue43
 t66:=Tryz.underlying292
 a66:=Tryz.isAgg292
 z66:=Tryz.sizeOf292
 v66:=Tryz.zeroValue292
 t70:=Tryz.underlying296
 a70:=Tryz.isAgg296
 z70:=Tryz.sizeOf296
 v70:=Tryz.zeroValue296
 t76:=Tryz.underlying316
 a76:=Tryz.isAgg316
 z76:=Tryz.sizeOf316
 v76:=Tryz.zeroValue316
 t77:=Tryz.underlying317
 a77:=Tryz.isAgg317
 z77:=Tryz.sizeOf317
 v77:=Tryz.zeroValue317 }
end Go.Proofs
namespace Go.HL
open Go Go.Sort
open Go.Proofs (ltOf)
def ltA (x y:Ins):Bool:=decide (x.addr<y.addr)
theorem CN (x:Ins):ltA x x=false:=by simp [ltA]
theorem yU (x y z:Ins) (h1:ltA x y=true) (h2:ltA y z=true):ltA x z=true:=by
 simp only [ltA,decide_eq_true_eq,UInt32.lt_iff_toNat_lt] at *; omega
def kA (x:Ins) (out:List Ins):Nat:=lM (fun y=>ltA y x) out
def Ez (out:List Ins) (x:Ins):List Ins:=out.take (kA x out) ++ ([x] ++ out.drop (kA x out))
def Kx (l:List Ins) (i:Nat):Bool:=!(l.take i).any fun y=>decide (y.addr=(l.getD i default).addr) && decide (eN y=0)
def Nh (out:List Ins) (x:Ins):Bool:=decide (kA x out=out.length) || decide ((out.getD (kA x out) default).addr≠x.addr)
def A5 (l:List Ins) (out:List Ins) (i:Nat):List Ins:=if ((decide (eN (l.getD i default)=0) && Nh out (l.getD i default)) && Kx l i)=true then Ez out (l.getD i default) else out
def fu (l:List Ins) (k:Nat):List Ins:=(List.range k).foldl (A5 l) []
def uD (l:List Ins):List Ins:=fu l l.length
theorem sC (l:List Ins) (k:Nat):fu l (k+1)=A5 l (fu l k) k:=by
 unfold fu; rw [List.range_succ,List.foldl_append]; rfl
theorem Ma (out:List Ins) (x:Ins):(Ez out x).length=out.length+1:=by
 have:=IR (fun y=>ltA y x) out
 unfold Ez kA
 simp only [List.length_append,List.length_take,List.length_drop,List.length_singleton]; omega
theorem L9 {out:List Ins} {x y:Ins}:y∈Ez out x↔y∈out∨y=x:=by
 unfold Ez
 have e:y∈out↔y∈out.take (kA x out)∨y∈out.drop (kA x out):=by rw [← List.mem_append,List.take_append_drop]
 rw [e]; simp only [List.mem_append,List.mem_singleton]
 constructor
 ·rintro (h|h|h)
  ·exact .inl (.inl h)
  ·exact .inr h
  ·exact .inl (.inr h)
 ·rintro ((h|h)|h)
  ·exact .inl h
  ·exact .inr (.inr h)
  ·exact .inr (.inl h)
theorem uC (l:List Ins):∀ k,(fu l k).length≤k
 | 0=>by simp [fu]
 | k+1=>by
  rw [sC]
  have:=uC l k
  unfold A5
  split
  ·rw [Ma]; omega
  ·omega
theorem Ey {out:List Ins} {x:Ins} (h:out.Pairwise fun a b=>ltA a b=true) (hn:∀ y∈out,y.addr≠x.addr):(Ez out x).Pairwise fun a b=>ltA a b=true:=by
 have hp:=h
 have h1:∀ a∈out.take (kA x out),ltA a x=true:=fun a ha=>by
  obtain ⟨j,hj,rfl⟩:=List.mem_take_iff_getElem.1 ha
  have:=CZ (p:=fun y=>ltA y x) (l:=out) (j:=j) (by unfold kA at hj; omega)
  rw [List.getD_eq_getElem?_getD,List.getElem?_eq_getElem (by omega)] at this
  exact this
 have h2:∀ b∈out.drop (kA x out),ltA x b=true:=fun b hb=>by
  obtain ⟨j,hj,rfl⟩:=List.mem_drop_iff_getElem.1 hb
  have hlt:lM (fun y=>ltA y x) out<out.length:=by unfold kA at hj; omega
  have hs:=vS (p:=fun y=>ltA y x) hlt
  have hx:ltA x (out.getD (kA x out) default)=true:=by
   have hne:=hn _ (ba hlt)
   have h3:(out.getD (kA x out) default).addr.toNat≠x.addr.toNat:=fun q=>hne (UInt32.toNat_inj.1 q)
   have h4:¬ (out.getD (kA x out) default).addr.toNat<x.addr.toNat:=by
    have q:=of_decide_eq_false hs
    rw [UInt32.lt_iff_toNat_lt] at q; exact q
   unfold ltA
   rw [decide_eq_true_eq,UInt32.lt_iff_toNat_lt]; omega
  have e:out[kA x out+j]=out.getD (kA x out+j) default:=by rw [List.getD_eq_getElem?_getD,List.getElem?_eq_getElem (by omega)]; rfl
  rw [e]
  by_cases c:j=0
  ·subst c; exact hx
  ·exact yU _ _ _ hx (EG hp (by omega) (by omega))
 unfold Ez
 refine List.pairwise_append.2 ⟨h.sublist (List.take_sublist _ _),List.pairwise_append.2 ⟨by simp,h.sublist (List.drop_sublist _ _),fun a ha b hb=>?_⟩,fun a ha b hb=>?_⟩
 ·simp at ha; subst ha; exact h2 b hb
 ·rcases List.mem_append.1 hb with hb|hb
  ·simp at hb; subst hb; exact h1 a ha
  ·exact yU _ _ _ (h1 a ha) (h2 b hb)
theorem ki {l:List Ins} {a:UInt32}:inK l a=true↔∃ x∈l,x.addr=a:=by
 unfold inK; rw [List.any_eq_true]; simp
theorem uP (l:List Ins) (x:Ins) (a:UInt32):inK (l ++ [x]) a=(inK l a || decide (x.addr=a)):=by
 unfold inK; rw [List.any_append]; simp
theorem FR:∀ (xs out:List Ins) (a:UInt32),inK (xs.foldl ga out) a=(inK out a || xs.any fun y=>decide (y.addr=a) && decide (eN y=0))
 | [],out,a=>by simp
 | x :: t,out,a=>by
  rw [List.foldl_cons,FR t,List.any_cons]
  unfold ga
  split
  ·rename_i h
   simp only [Bool.and_eq_true,Bool.not_eq_true',decide_eq_true_eq] at h
   rw [uP,h.2]; simp [Bool.or_assoc]
  ·rename_i h
   simp only [Bool.and_eq_true,Bool.not_eq_true',decide_eq_true_eq] at h
   by_cases e:x.addr=a
   ·subst e
    by_cases c:eN x=0
    ·have:inK out x.addr=true:=by
      cases q:inK out x.addr
      ·exact absurd ⟨q,c⟩ h
      ·rfl
     rw [this]; simp
    ·simp [c]
   ·simp [e]
theorem Kz {l:List Ins} {k:Nat}:Kx l k=!inK (sd (l.take k)) (l.getD k default).addr:=by
 unfold sd; rw [FR]; simp [Kx,inK]
theorem Cs (l:List Ins):∀ k,k≤l.length→(fu l k).Pairwise (fun a b=>ltA a b=true)∧∀ x,x∈fu l k↔x∈sd (l.take k)
 | 0,_=>by simp [fu,sd]
 | k+1,hk=>by
  obtain ⟨h1,h2⟩:=Cs l k (by omega)
  rw [sC,zy (by omega)]
  unfold A5 ga
  rw [Kz]
  by_cases c1:eN (l.getD k default)=0
  ·by_cases c2:inK (sd (l.take k)) (l.getD k default).addr=true
   ·rw [c2]
    simp only [Bool.not_true,Bool.and_false,Bool.false_and,Bool.false_eq_true,if_false]
    exact ⟨h1,h2⟩
   ·have c2':inK (sd (l.take k)) (l.getD k default).addr=false:=by simpa using c2
    have hn:∀ y∈fu l k,y.addr≠(l.getD k default).addr:=fun y hy q=>c2 (ki.2 ⟨y,(h2 y).1 hy,q⟩)
    have c3:Nh (fu l k) (l.getD k default)=true:=by
     unfold Nh
     by_cases e:kA (l.getD k default) (fu l k)=(fu l k).length
     ·rw [decide_eq_true e,Bool.true_or]
     ·have hle:=IR (fun y=>ltA y (l.getD k default)) (fu l k)
      have:=hn _ (ba (k:=kA (l.getD k default) (fu l k)) (by unfold kA at e ⊢; omega))
      rw [decide_eq_true this,Bool.or_true]
    rw [c2',c1,c3]
    simp only [decide_true,Bool.and_self,Bool.not_false,if_true]
    refine ⟨Ey h1 hn,fun x=>?_⟩
    rw [L9,h2,List.mem_append,List.mem_singleton]
  ·rw [decide_eq_false c1]
   simp only [Bool.false_and,Bool.and_false,Bool.false_eq_true,if_false]
   exact ⟨h1,h2⟩
def rq (l:List Ins):Prop:=l.Pairwise fun a b=>a.addr≠b.addr
theorem FQ:∀ (xs out:List Ins),rq out→rq (xs.foldl ga out)
 | [],out,h=>h
 | x :: t,out,h=>by
  rw [List.foldl_cons]
  apply FQ
  unfold ga
  split
  ·rename_i c
   simp only [Bool.and_eq_true,Bool.not_eq_true',decide_eq_true_eq] at c
   refine List.pairwise_append.2 ⟨h,by simp,fun a ha b hb=>?_⟩
   simp at hb; subst hb
   intro q
   have:=ki.2 ⟨a,ha,q⟩
   rw [c.1] at this; cases this
  ·exact h
theorem BG {l m:List Ins} (h:l.Perm m) (hd:rq l):rq m:=(h.pairwise_iff fun {a b} q=>Ne.symm q).1 hd
theorem uo {l:List Ins} (hd:rq l):(mR (ltOf mf) l).Pairwise (fun a b=>ltA a b=true)∧∀ x,x∈mR (ltOf mf) l↔x∈l:=by
 have hp:=qB mP l
 have hs:=Ck mP l
 have hd':=BG hp.symm hd
 refine ⟨?_,fun x=>hp.mem_iff⟩
 refine (hs.and hd').imp fun {a b} ⟨h1,h2⟩=>?_
 rw [sD] at h1
 simp only [ltA,decide_eq_true_eq,decide_eq_false_iff_not,UInt32.lt_iff_toNat_lt] at *
 have:a.addr.toNat≠b.addr.toNat:=fun q=>h2 (UInt32.toNat_inj.1 q)
 omega
theorem sa (l:List Ins):(eZ l).Pairwise (fun a b=>ltA a b=true)∧∀ x,x∈eZ l↔x∈sd l:=uo (FQ l [] .nil)
theorem I2 (l:List Ins):eZ l=uD l:=by
 obtain ⟨h1,h2⟩:=sa l
 obtain ⟨k1,k2⟩:=Cs l l.length (Nat.le_refl _)
 rw [List.take_length] at k2
 exact uq CN yU _ _ h1 k1 fun x=>by rw [h2]; exact (k2 x).symm
theorem rB {l:List Ins} (h:l.Pairwise fun a b=>ltA a b=true):rq l:=h.imp fun {a b} q e=>by
 simp only [ltA,decide_eq_true_eq,UInt32.lt_iff_toNat_lt] at q; rw [e] at q; omega
theorem zq (l:List Ins):rq (eZ l):=rB (sa l).1
theorem FH {l:List Ins} {x:Ins} (h:x∈eZ l):eN x=0:=by
 have h1:=((sa l).2 x).1 h
 have:∀ (xs out:List Ins),(∀ y∈out,eN y=0)→∀ y∈xs.foldl ga out,eN y=0:=by
  intro xs
  induction xs with
  | nil=>intro out h; exact h
  | cons z t ih =>
   intro out h
   refine ih _ ?_
   unfold ga
   split
   ·rename_i c
    simp only [Bool.and_eq_true,Bool.not_eq_true',decide_eq_true_eq] at c
    intro y hy
    rcases List.mem_append.1 hy with hy|hy
    ·exact h y hy
    ·simp at hy; subst hy; exact c.2
   ·exact h
 exact this l [] (by simp) x h1
theorem FP:∀ (xs out:List Ins),rq (out ++ xs)→(∀ y∈xs,eN y=0)→xs.foldl ga out=out ++ xs
 | [],out,_,_=>by simp
 | x :: t,out,hd,hv=>by
  have hn:inK out x.addr=false:=by
   cases c:inK out x.addr
   ·rfl
   ·obtain ⟨y,hy,e⟩:=ki.1 c
    exact absurd e ((List.pairwise_append.1 hd).2.2 y hy x (.head _))
  have e:ga out x=out ++ [x]:=by unfold ga; rw [hn,hv x (.head _)]; simp
  rw [List.foldl_cons,e,FP t (out ++ [x]) (by rw [List.append_assoc]; exact hd) (fun y hy=>hv y (.tail _ hy)),List.append_assoc]; rfl
theorem zp {l:List Ins} (hd:rq l) (hv:∀ y∈l,eN y=0):eZ l=mR (ltOf mf) l:=by
 unfold eZ sd; rw [FP l [] hd hv]; rfl
def gR (ents:List UInt32) (l:List Ins) (a:UInt32):Int:=if Ay ents a=true then 0 else if (l.any fun x=>(bG x).2 && decide ((bG x).1=a))=true then 1 else 2
theorem Iv:∀ (xs:List Ins) (m:List (UInt32 × Bool)) (a:UInt32),(du (xs.foldl sB m) a).getD false=((du m a).getD false || xs.any fun x=>(bG x).2 && decide ((bG x).1=a))
 | [],m,a=>by simp
 | x :: t,m,a=>by
  rw [List.foldl_cons,Iv t,List.any_cons]
  unfold sB
  split
  ·rename_i h
   rw [uI,h]
   by_cases e:a=(bG x).1
   ·rw [if_pos e]; simp [e]
   ·rw [if_neg e]
    have:¬ (bG x).1=a:=fun q=>e q.symm
    simp [this]
  ·rename_i h
   have h':(bG x).2=false:=by simpa using h
   simp [h']
theorem IT (ents:List UInt32) (l:List Ins) (i:Ins):fZ ents (l6 l) i=gR ents l i.addr:=by
 unfold fZ gR l6
 rw [Iv]; simp [du]
def Bw (kept:List Ins) (i:Ins):Bool:=!kept.any fun x=>iT x i
abbrev RS:=List Ins × List UInt32
def ng (s:RS) (x:Ins):RS:=if Bw s.1 x=true then (s.1 ++ [x],s.2) else (s.1,OI s.2 x.addr)
def rH (ents:List UInt32) (l:List Ins) (g:Int) (s:RS) (x:Ins):RS:=if gR ents l x.addr≠g then s else ng s x
def je (ents:List UInt32) (l:List Ins) (g:Int) (s:RS) (k:Nat):RS:=(l.take k).foldl (rH ents l g) s
theorem nT {ents:List UInt32} {l:List Ins} {g:Int} {s:RS} {k:Nat} (h:k<l.length):je ents l g s (k+1)=rH ents l g (je ents l g s k) (l.getD k default):=by
 unfold je; rw [bN h,List.foldl_append]; rfl
def fq (ents:List UInt32) (l:List Ins):Nat→RS
 | 0=>([],[])
 | g+1=>je ents l (g:Int) (fq ents l g) l.length
theorem nl (ents:List UInt32) (l:List Ins) (g:Int):∀ (xs:List Ins) (s:RS),xs.foldl (rH ents l g) s=(xs.filter fun x=>decide (gR ents l x.addr=g)).foldl ng s
 | [],s=>rfl
 | x :: t,s=>by
  rw [List.foldl_cons,nl ents l g t,List.filter_cons]
  unfold rH
  by_cases h:gR ents l x.addr=g
  ·rw [if_neg (by simpa using h),if_pos (by simpa using h)]; rfl
  ·rw [if_pos h,if_neg (by simpa using h)]
theorem El (ents:List UInt32) (l:List Ins):fq ents l 3=(dJ (fZ ents (l6 l)) l).foldl ng ([],[]):=by
 have e:(fun i=>fZ ents (l6 l) i)=fun i=>gR ents l i.addr:=by funext i; exact IT ents l i
 unfold fq fq fq fq je dJ
 rw [List.take_length,nl,nl,nl,List.foldl_append,List.foldl_append]
 simp only [IT]
 rfl
theorem Ky (kept:List Ins) (x:Ins):Bw kept x=!kept.any (iT x):=by
 unfold Bw
 congr 1
 congr 1
 funext y; exact FM _ _
theorem A0:∀ (xs:List Ins) (s:RS),(xs.foldl ng s).1=xs.foldl gh s.1
 | [],s=>rfl
 | x :: t,s=>by
  rw [List.foldl_cons,List.foldl_cons,A0 t]
  congr 1
  unfold ng gh
  rw [Ky]
  by_cases h:s.1.any (iT x)=true
  ·rw [if_pos h]; simp [h]
  ·rw [if_neg h]; simp only [Bool.not_eq_true] at h; simp [h]
theorem MI {l:List UInt32} {x y:UInt32}:y∈OI l x↔y∈l∨y=x:=uN
theorem Ek:∀ (xs pre:List Ins) (s:RS),rq (pre ++ xs)→(∀ x∈s.1,x∈pre)→s.2.Pairwise (fun a b=>ltU a b=true)→(∀ a,a∈s.2↔inK pre a=true∧inK s.1 a=false) →
  (xs.foldl ng s).2.Pairwise (fun a b=>ltU a b=true)∧∀ a,a∈(xs.foldl ng s).2↔inK (pre ++ xs) a=true∧inK (xs.foldl ng s).1 a=false
 | [],pre,s,_,_,h1,h2=>by simpa using ⟨h1,h2⟩
 | x :: t,pre,s,hd,hs,h1,h2=>by
  have hx:∀ y∈pre,y.addr≠x.addr:=fun y hy=>(List.pairwise_append.1 hd).2.2 y hy x (.head _)
  have hpx:inK pre x.addr=false:=by
   cases c:inK pre x.addr
   ·rfl
   ·obtain ⟨y,hy,e⟩:=ki.1 c; exact absurd e (hx y hy)
  have hsx:inK s.1 x.addr=false:=by
   cases c:inK s.1 x.addr
   ·rfl
   ·obtain ⟨y,hy,e⟩:=ki.1 c; exact absurd e (hx y (hs y hy))
  rw [List.foldl_cons,show pre ++ x :: t=(pre ++ [x]) ++ t by simp]
  refine Ek t (pre ++ [x]) (ng s x) (by rw [List.append_assoc]; exact hd) ?_ ?_ ?_
  ·intro y hy
   unfold ng at hy
   split at hy
   ·rcases List.mem_append.1 hy with hy|hy
    ·exact List.mem_append_left _ (hs y hy)
    ·exact List.mem_append_right _ hy
   ·exact List.mem_append_left _ (hs y hy)
  ·unfold ng
   split
   ·exact h1
   ·exact oL vK h1
  ·intro a
   unfold ng
   split
   ·show a∈s.2↔_
    rw [uP,show (s.1 ++ [x],s.2).1=s.1 ++ [x] from rfl,uP,h2]
    by_cases e:x.addr=a
    ·subst e; rw [hpx]; simp
    ·simp [e]
   ·show a∈OI s.2 x.addr↔_
    rw [MI,uP,h2]
    by_cases e:x.addr=a
    ·subst e; rw [hpx,hsx]; simp
    ·have:¬ a=x.addr:=fun q=>e q.symm
     simp [e,this]
theorem xp {l:List Ins} (h:l.Pairwise fun a b=>ltA a b=true):(l.map (·.addr)).Pairwise fun a b=>ltU a b=true:=by
 rw [List.pairwise_map]; exact h
theorem Oi {l kept:List Ins} (hs:l.Pairwise fun a b=>ltA a b=true) {r:List UInt32} (h1:r.Pairwise fun a b=>ltU a b=true) (h2:∀ a,a∈r↔inK l a=true∧inK kept a=false):pm l kept=r:=by
 refine OD vK _ _ ?_ h1 fun a=>?_
 ·unfold pm
  exact xp (hs.sublist List.filter_sublist)
 ·rw [h2]
  unfold pm
  simp only [List.mem_map,List.mem_filter]
  constructor
  ·rintro ⟨x,⟨hx,hk⟩,rfl⟩; exact ⟨ki.2 ⟨x,hx,rfl⟩,by simpa using hk⟩
  ·rintro ⟨h,hk⟩
   obtain ⟨x,hx,rfl⟩:=ki.1 h
   exact ⟨x,⟨hx,by rw [hk]; rfl⟩,rfl⟩
def atS (kept:List Ins) (a:UInt32):List UInt32:=(kept.filter fun x=>decide (x.addr=a)).map fun _=>a
def atR (l:List UInt32) (kept:List Ins) (k:Nat):List UInt32:=(l.take k).flatMap (atS kept)
theorem I8 {l:List UInt32} {kept:List Ins} {k:Nat} (h:k<l.length):atR l kept (k+1)=atR l kept k ++ atS kept (l.getD k default):=by
 unfold atR; rw [bN h,List.flatMap_append]; simp
theorem Ga {a:UInt32}:∀ {kept:List Ins},rq kept→atS kept a=if inK kept a=true then [a] else []
 | [],_=>rfl
 | x :: t,hd=>by
  have hp:=List.pairwise_cons.1 hd
  have ih:=Ga (a:=a) hp.2
  unfold atS at ih ⊢
  rw [List.filter_cons]
  by_cases e:x.addr=a
  ·subst e
   have h0:inK t x.addr=false:=by
    cases c:inK t x.addr
    ·rfl
    ·obtain ⟨y,hy,q⟩:=ki.1 c; exact absurd q.symm (hp.1 y hy)
   rw [h0,if_neg (by simp)] at ih
   rw [if_pos (by simp),List.map_cons,ih,if_pos (by simp [inK])]
  ·rw [if_neg (by simpa using e),ih]
   have:inK (x :: t) a=inK t a:=by simp [inK,e]
   rw [this]
theorem HY {kept:List Ins} (hd:rq kept):∀ (l:List UInt32),l.flatMap (atS kept)=l.filter (inK kept)
 | []=>rfl
 | a :: t=>by
  rw [List.flatMap_cons,HY hd t,Ga hd,List.filter_cons]
  split<;>rfl
def A1 (ins:List Ins) (ents unk bad:List UInt32):ResV :=
 let l:=uD ins
 let kept:=uD (fq ents l 3).1
 ⟨kept,atR ents kept ents.length,atR unk kept unk.length,bad,(fq ents l 3).2⟩
theorem EI {g:Ins→Int} (hg:∀ i,g i=0∨g i=1∨g i=2) {l:List Ins} (h:rq l):rq (dJ g l):=BG (rI hg l).1.1 h
theorem sG:∀ (xs out:List Ins),rq (out ++ xs)→rq (xs.foldl gh out)
 | [],out,h=>by simpa using h
 | x :: t,out,h=>by
  rw [List.foldl_cons]
  unfold gh
  split
  ·refine sG t out (h.sublist ?_)
   exact (List.Sublist.refl out).append (List.sublist_cons_self x t)
  ·exact sG t (out ++ [x]) (by rw [List.append_assoc]; exact h)
theorem Of (ins:List Ins) (ents unk bad:List UInt32):gC ins ents unk bad=A1 ins ents unk bad:=by
 have hc:=I2 ins
 obtain ⟨l,hl⟩:∃ l,l=eZ ins:=⟨_,rfl⟩
 have hls:=(sa ins).1
 have hdl:=zq ins
 have hvl:∀ x∈eZ ins,eN x=0:=fun x hx=>FH hx
 rw [← hl] at hls hdl hvl hc
 have hod:=EI (lw ents (l6 l)) hdl
 have hkd:rq (kK (dJ (fZ ents (l6 l)) l)):=sG _ [] hod
 have hkv:∀ x∈kK (dJ (fZ ents (l6 l)) l),eN x=0:=fun x hx=>hvl x (Cy (yZ hx))
 have e1:(fq ents l 3).1=kK (dJ (fZ ents (l6 l)) l):=by rw [El,A0]; rfl
 have e2:uD (fq ents l 3).1=mR (ltOf mf) (kK (dJ (fZ ents (l6 l)) l)):=by
  rw [e1,← I2,zp hkd hkv]
 obtain ⟨hks,hkm⟩:=uo hkd
 have hks':=rB hks
 obtain ⟨r1,r2⟩:=Ek (dJ (fZ ents (l6 l)) l) [] ([],[]) (by simpa using hod) (by simp) .nil (by simp [inK])
 rw [← El] at r1 r2
 have hin:∀ a,inK (mR (ltOf mf) (kK (dJ (fZ ents (l6 l)) l))) a=inK (fq ents l 3).1 a:=fun a=>by
  rw [Bool.eq_iff_iff,ki,ki,e1]
  exact ⟨fun ⟨x,hx,q⟩=>⟨x,(hkm x).1 hx,q⟩,fun ⟨x,hx,q⟩=>⟨x,(hkm x).2 hx,q⟩⟩
 have hio:∀ a,inK (dJ (fZ ents (l6 l)) l) a=inK l a:=fun a=>by
  have hp:=(rI (lw ents (l6 l)) l).1.1
  rw [Bool.eq_iff_iff,ki,ki]
  exact ⟨fun ⟨x,hx,q⟩=>⟨x,hp.mem_iff.2 hx,q⟩,fun ⟨x,hx,q⟩=>⟨x,hp.mem_iff.1 hx,q⟩⟩
 have hrem:pm l (mR (ltOf mf) (kK (dJ (fZ ents (l6 l)) l)))=(fq ents l 3).2:=Oi hls r1 fun a=>by
  rw [r2,hin,List.nil_append,hio]
 unfold gC A1
 simp only
 rw [← hl,← hc,e2,hrem]
 unfold atR
 rw [List.take_length,List.take_length,HY hks',HY hks']
end Go.HL
namespace Go.HL
open Go Go.Sort
open Go.Proofs (ltOf)
def PK (a:Ins) (xs:List Ins):List Rng:=(xs.filter (ovP a)).map fun b=>⟨a.addr,b.addr⟩
def Hg (l:List Ins) (k:Nat):List Rng:=(List.range k).flatMap fun i=>PK (l.getD i default) l
theorem JY (l:List Ins) (k:Nat):Hg l (k+1)=Hg l k ++ PK (l.getD k default) l:=by
 unfold Hg
 rw [List.range_succ,List.flatMap_append]; simp
theorem Mb (l:List Ins) (k:Nat):(Hg l (k+1)).length=(Hg l k).length+(l.filter (ovP (l.getD k default))).length:=by
 rw [JY,List.length_append]; simp [PK]
theorem Oo (l:List Ins):∀ k,(Hg l k).length≤k * l.length
 | 0=>by simp [Hg]
 | k+1=>by
  rw [Mb,Nat.add_mul]
  have h1:=Oo l k
  have h2:=List.length_filter_le (ovP (l.getD k default)) l
  omega
end Go.HL
namespace Go.HL
open Go Go.Sort
theorem IF (a:Ins):∀ (xs:List Ins) (out:List Rng),(xs.foldl (rin a) out).length≤out.length+xs.length
 | [],out=>by simp
 | b :: t,out=>by
  have h1:=IF a t (rin a out b)
  have h2:(rin a out b).length≤out.length+1:=by
   unfold rin
   split
   ·exact rV _ _ _
   ·omega
  rw [List.foldl_cons,List.length_cons]; omega
def uA (l:List Ins) (k:Nat):List Rng:=(l.take k).foldl (QL l) []
theorem JU {l:List Ins} {k:Nat} (h:k<l.length):uA l (k+1)=l.foldl (rin (l.getD k default)) (uA l k):=by
 unfold uA; rw [bN h,List.foldl_append]; rfl
theorem Ex (l:List Ins):∀ k,(uA l k).length≤k * l.length
 | 0=>by simp [uA]
 | k+1=>by
  rcases Nat.lt_or_ge k l.length with h|h
  ·rw [JU h,Nat.add_mul]
   have h1:=Ex l k
   have h2:=IF (l.getD k default) l (uA l k)
   omega
  ·have h1:=Ex l k
   have e:uA l (k+1)=uA l k:=by unfold uA; rw [List.take_of_length_le h,List.take_of_length_le (by omega)]
   rw [e,Nat.add_mul]; omega
theorem O3 {kept:List Ins} {a:UInt32} {k:Nat} (h:k<kept.length) (hc:(kept.getD k default).addr=a):atS (kept.take (k+1)) a=atS (kept.take k) a ++ [a]:=by
 unfold atS
 rw [kS h (decide_eq_true hc),List.map_append]; rfl
theorem P9 {kept:List Ins} {a:UInt32} {k:Nat} (h:k<kept.length) (hc:¬ (kept.getD k default).addr=a):atS (kept.take (k+1)) a=atS (kept.take k) a:=by
 unfold atS
 rw [kT h (decide_eq_false hc)]
theorem I9 (kept:List Ins) (a:UInt32):(atS kept a).length≤kept.length:=by unfold atS; rw [List.length_map]; exact List.length_filter_le _ _
theorem HZ (l:List UInt32) (kept:List Ins):∀ k,(atR l kept k).length≤k * kept.length
 | 0=>by simp [atR]
 | k+1=>by
  rcases Nat.lt_or_ge k l.length with h|h
  ·rw [I8 h,List.length_append,Nat.add_mul]
   have h1:=HZ l kept k
   have h2:=I9 kept (l.getD k default)
   omega
  ·have h1:=HZ l kept k
   have e:atR l kept (k+1)=atR l kept k:=by unfold atR; rw [List.take_of_length_le h,List.take_of_length_le (by omega)]
   rw [e,Nat.add_mul]; omega
theorem JI (ents:List UInt32) (l:List Ins) (g:Int) (s:RS) (x:Ins):(rH ents l g s x).1.length≤s.1.length+1∧(rH ents l g s x).2.length≤s.2.length+1:=by
 unfold rH ng
 split
 ·omega
 ·split
  ·simp
  ·have:=rV ltU s.2 x.addr
   unfold OI; simp only; omega
theorem vy (ents:List UInt32) (l:List Ins) (g:Int) (s:RS):∀ k,(je ents l g s k).1.length≤s.1.length+k∧(je ents l g s k).2.length≤s.2.length+k
 | 0=>by simp [je]
 | k+1=>by
  have ih:=vy ents l g s k
  rcases Nat.lt_or_ge k l.length with h|h
  ·rw [nT h]
   have:=JI ents l g (je ents l g s k) (l.getD k default)
   omega
  ·have e:je ents l g s (k+1)=je ents l g s k:=by unfold je; rw [List.take_of_length_le h,List.take_of_length_le (by omega)]
   rw [e]; omega
theorem vA (ents:List UInt32) (l:List Ins):∀ g,(fq ents l g).1.length≤g * l.length∧(fq ents l g).2.length≤g * l.length
 | 0=>by simp [fq]
 | g+1=>by
  have ih:=vA ents l g
  have:=vy ents l (g:Int) (fq ents l g) l.length
  unfold fq
  rw [Nat.add_mul]; omega
theorem nE (ents:List UInt32) (l:List Ins) (g:Int) (s:RS):∀ k x,x∈(je ents l g s k).1→x∈s.1∨x∈l
 | 0,x,h=>.inl h
 | k+1,x,h=>by
  rcases Nat.lt_or_ge k l.length with c|c
  ·rw [nT c] at h
   unfold rH ng at h
   split at h
   ·exact nE ents l g s k x h
   ·split at h
    ·rcases List.mem_append.1 h with h|h
     ·exact nE ents l g s k x h
     ·simp only [List.mem_singleton] at h; subst h; exact .inr (ba c)
    ·exact nE ents l g s k x h
  ·have e:je ents l g s (k+1)=je ents l g s k:=by unfold je; rw [List.take_of_length_le c,List.take_of_length_le (by omega)]
   rw [e] at h; exact nE ents l g s k x h
theorem vz (ents:List UInt32) (l:List Ins):∀ g x,x∈(fq ents l g).1→x∈l
 | 0,x,h=>by simp [fq] at h
 | g+1,x,h=>by
  rcases nE ents l (g:Int) (fq ents l g) l.length x h with h|h
  ·exact vz ents l g x h
  ·exact h
theorem LX (l:List Ins):∀ k x,x∈fu l k→k≤l.length→x∈l:=fun k x h hk=>by
 have:=((Cs l k hk).2 x).1 h
 rcases Df (l.take k) [] x this with h|h
 ·cases h
 ·exact List.mem_of_mem_take h
open Go.Proofs (ltOf)
theorem E1:∀ (xs out:List Ins),(∀ a∈out ++ xs,∀ b∈out ++ xs,iT a b=false)→xs.foldl gh out=out ++ xs
 | [],out,_=>by simp
 | x :: t,out,h=>by
  have c:¬ out.any (iT x)=true:=fun q=>by
   obtain ⟨y,hy,q⟩:=List.any_eq_true.1 q
   rw [h x (by simp) y (by simp [hy])] at q; cases q
  rw [List.foldl_cons,gh,if_neg c,E1 t (out ++ [x]) (by simpa using h)]; simp
theorem uy {ins:List Ins} {ents unk bad:List UInt32} {x:Ins}:x∈(gC ins ents unk bad).kept↔x∈kK (dJ (fZ ents (l6 (eZ ins))) (eZ ins)) :=
 (qB mP _).mem_iff
theorem LP (ins:List Ins) (ents:List UInt32):rq (kK (dJ (fZ ents (l6 (eZ ins))) (eZ ins))) :=
 sG _ [] (by simpa using EI (lw ents (l6 (eZ ins))) (zq ins))
theorem yz (ins:List Ins) (ents unk bad:List UInt32):(gC ins ents unk bad).kept.Pairwise fun a b=>ltA a b=true:=(uo (LP ins ents)).1
theorem PH {ins:List Ins} {ents unk bad:List UInt32} {x:Ins} (h:x∈(gC ins ents unk bad).kept):x∈eZ ins:=Cy (yZ (uy.1 h))
theorem Cz {g:Ins→Int} (hg:∀ i,g i=0∨g i=1∨g i=2) {l:List Ins} {x:Ins}:x∈dJ g l↔x∈l:=(rI hg l).1.1.mem_iff.symm
theorem Og {ins:List Ins} {ents unk bad:List UInt32} (h:∀ a∈eZ ins,∀ b∈eZ ins,iT a b=false):(gC ins ents unk bad).kept=eZ ins∧(gC ins ents unk bad).rem=[]:=by
 have hg:=lw ents (l6 (eZ ins))
 have e1:kK (dJ (fZ ents (l6 (eZ ins))) (eZ ins))=dJ (fZ ents (l6 (eZ ins))) (eZ ins):=by
  unfold kK
  rw [E1 _ [] (fun a ha b hb=>h a ((Cz hg).1 (by simpa using ha)) b ((Cz hg).1 (by simpa using hb)))]; rfl
 have e2:(gC ins ents unk bad).kept=eZ ins:=uq CN yU _ _ (yz ins ents unk bad) (sa ins).1 fun x=>by rw [uy,e1,Cz hg]
 refine ⟨e2,?_⟩
 show pm (eZ ins) (gC ins ents unk bad).kept=[]
 rw [e2]
 unfold pm
 rw [List.map_eq_nil_iff,List.filter_eq_nil_iff]
 intro x hx
 rw [ki.2 ⟨x,hx,rfl⟩]; simp
theorem Fb {l:List UInt32} {a:UInt32}:Ay l a=true↔a∈l:=by
 unfold Ay; rw [List.any_eq_true]; simp
end Go.HL
namespace Go.HL
open Go Go.Sort
end Go.HL
