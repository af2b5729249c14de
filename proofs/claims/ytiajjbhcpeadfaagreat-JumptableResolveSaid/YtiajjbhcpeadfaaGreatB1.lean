/- Own rules and walks, part 1. -/
import Derived.WalkKit
import Derived.Deep.Quiet
import Derived.StillTail
import Derived.Laws.StructEq
import Derived.Lib.SliceRun
import Derived.Lib.Strings
import Derived.Test.YtiajjbhcpeadfaaGreatProg
import Derived.KernelRfl
import Derived.OrdersHeld
import Derived.Scope
import Derived.Lib.SlicesCompact
import Derived.Sort.Row
import Derived.Sort.Grow
import Derived.Laws.BytesArg
import Derived.Lib.AppendStr
import Derived.Laws.CopyRow
import Derived.Laws.MakeOwn
import Derived.Lib.ConvBytes
import Derived.Shelf.SlGeneric
import Derived.Shelf.SlSortCmp.WholeK
import Derived.MapKept
import Derived.RangeFuncNested
import Derived.RangeFuncBound
import Derived.RangeFuncCalls
import Derived.RangeFuncLeaves
import Derived.BigFrame
import Derived.Maps.RangeRun
import Derived.Sort.AssemblyPlain
import Derived.Sort.LotD4
import Derived.Sort.LotD5
import Derived.Ground.SlsfProg
import Derived.Shelf.SlMaps.Clone
import Derived.Ground.SlmcProg
import Derived.ProofKit
import Derived.OpenShut
import Derived.ShutString
import Derived.ChangeOld
import Derived.Deep.Slices
import Derived.SizedLaws
set_option linter.unusedSimpArgs false
set_option linter.unusedVariables false
set_option linter.unusedSectionVars false
set_option maxRecDepth 100000
set_option maxHeartbeats 16000000
namespace Go.HL
open Go Go.RowKit
abbrev Fr:=List (Nat × Value)
def look:Fr→Nat→Option Value
 | [],_=>none
 | (d,v) :: M,t=>bif Nat.beq d t then some v else look M t
theorem cL (d:Nat) (v:Value) (M:Fr) (t:Nat):look ((d,v) :: M) t=if d=t then some v else look M t:=by
 simp only [look]
 by_cases h:d=t
 ·subst h; simp
 ·have:Nat.beq d t=false:=by
   cases hb:Nat.beq d t
   ·rfl
   ·exact absurd (Nat.eq_of_beq_eq_true hb) h
  simp [this,h]
def mk0:Nat:=1000001
structure FrOK (N:Nat) (M:Fr) (a:Act):Prop where
 defers0:look M mk0=some undef→a.defers=[]
 defersD:∀ D,look M (mk0+1+D)=some undef→a.defers=[{ target:=.collected D,args:=#[] }]
 size:a.tmps.size=N
 lt:N≤mk0
 val:∀ t v,look M t=some v→a.tmps.getD t undef=v
theorem FrOK.put {N:Nat} {M:Fr} {a:Act} {d:Nat} {v:Value} (h:FrOK N M a) (hd:d<N):FrOK N ((d,v) :: M) (a.put (some d) v):=by
 refine ⟨fun hu=>h.defers0 ?_,fun D hu=>h.defersD D ?_,by simp [Act.put,h.size],h.lt,fun t u hu=>?_⟩
 ·rw [cL,if_neg (by have:=h.lt; omega)] at hu; exact hu
 ·rw [cL,if_neg (by have:=h.lt; omega)] at hu; exact hu
 rw [cL] at hu
 by_cases e:d=t
 ·subst e
  simp only [if_true] at hu
  cases hu
  have:d<a.tmps.size:=by rw [h.size]; exact hd
  simp [Act.put,Array.getD_eq_getD_getElem?,this]
 ·simp only [e,if_false] at hu
  have:=h.val t u hu
  simp only [Act.put,Array.getD_eq_getD_getElem?] at this ⊢
  rw [Array.getElem?_setIfInBounds_ne e]
  exact this
theorem FrOK.sub {N:Nat} {M M':Fr} {a:Act} (h:FrOK N M a) (hs:∀ t v,look M' t=some v→look M t=some v):FrOK N M' a :=
 ⟨fun e=>h.defers0 (hs _ _ e),fun D e=>h.defersD D (hs _ _ e),h.size,h.lt,fun t v hv=>h.val t v (hs t v hv)⟩
def Sub (M M':Fr):Prop:=∀ t v,look M' t=some v→look M t=some v
theorem Sub.look {M M':Fr} (h:Sub M M'):∀ t v,look M' t=some v→look M t=some v:=h
theorem Sub.refl (M:Fr):Sub M M:=fun _ _ h=>h
theorem Sub.cons {M M':Fr} {d:Nat} {v:Value} (h:HL.look M d=some v) (s:Sub M M'):Sub M ((d,v) :: M'):=by
 intro t u hu
 rw [cL] at hu
 by_cases e:d=t
 ·subst e; simp only [if_true] at hu; cases hu; exact h
 ·simp only [e,if_false] at hu; exact s t u hu
theorem Sub.dropN {M M':Fr} (n:Nat) (h:(M.take n).all (fun e=>(HL.look M' e.1).isNone)=true) (hM:M.drop n=M'):Sub M M':=by
 subst hM
 induction n generalizing M with
 | zero=>exact Sub.refl M
 | succ n ih =>
  cases M with
  | nil=>exact Sub.refl _
  | cons e M =>
   obtain ⟨d,v⟩:=e
   simp only [List.take_succ_cons,List.drop_succ_cons,List.all_cons,Bool.and_eq_true] at h ⊢
   have h1:=ih h.2
   intro t u hu
   rw [cL]
   by_cases e:d=t
   ·subst e; rw [hu] at h; simp at h
   ·simp only [e,if_false]; exact h1 t u hu
theorem zz7 {M M':Fr} (n:Nat) (hM:M.drop n=M') (h:(M.take n).all (fun e=>(HL.look M' e.1).isNone)=true:=by kernel_rfl):Sub M M':=Sub.dropN n h hM
def SubX (K:List Nat) (M M':Fr):Prop:=∀ t v,K.contains t=false→look M' t=some v→look M t=some v
theorem SubX.dropN {K:List Nat} {M M':Fr} (n:Nat) (h:(M.take n).all (fun e=>K.contains e.1 || (HL.look M' e.1).isNone)=true) (hM:M.drop n=M'):SubX K M M':=by
 subst hM
 induction n generalizing M with
 | zero=>exact fun t v _ h=>h
 | succ n ih =>
  cases M with
  | nil=>exact fun t v _ h=>h
  | cons e M =>
   obtain ⟨d,v⟩:=e
   simp only [List.take_succ_cons,List.drop_succ_cons,List.all_cons,Bool.and_eq_true] at h ⊢
   have h1:=ih h.2
   intro t u hk hu
   rw [cL]
   by_cases e:d=t
   ·subst e; rw [hu] at h; rw [hk] at h; simp at h
   ·simp only [e,if_false]; exact h1 t u hk hu
theorem zz9 {K:List Nat} {M M':Fr} (n:Nat) (hM:M.drop n=M') (h:(M.take n).all (fun e=>K.contains e.1 || (HL.look M' e.1).isNone)=true:=by kernel_rfl):SubX K M M':=SubX.dropN n h hM
theorem SubX.front:∀ (front:Fr) {M M':Fr},(∀ e∈front,HL.look M e.1=some e.2)→SubX (front.map (·.1)) M M'→Sub M (front ++ M')
 | front,M,M',hf,hs=>by
  intro t v hv
  have key:∀ (f:Fr),(∀ e∈f,HL.look M e.1=some e.2)→HL.look (f ++ M') t=some v→HL.look M t=some v∨((f.map (·.1)).contains t=false∧HL.look M' t=some v):=by
   intro f
   induction f with
   | nil=>intro _ h; exact .inr ⟨rfl,h⟩
   | cons e f ih =>
    obtain ⟨d,u⟩:=e
    intro he h
    simp only [List.cons_append,cL] at h
    by_cases e:d=t
    ·subst e; simp only [if_true] at h; cases h; exact .inl (he _ (.head _))
    ·simp only [e,if_false] at h
     rcases ih (fun x hx=>he x (.tail _ hx)) h with h|⟨h1,h2⟩
     ·exact .inl h
     ·refine .inr ⟨?_,h2⟩
      simp only [List.map_cons,List.contains_cons,Bool.or_eq_false_iff]
      exact ⟨by simp; exact fun h=>e h.symm,h1⟩
  rcases key front hf hv with h|⟨h1,h2⟩
  ·exact h
  ·exact hs t v h1 h2
def Front (M:Fr):Fr→Prop
 | []=>True
 | e :: f=>look M e.1=some e.2∧Front M f
theorem Front.all {M:Fr}:∀ {f:Fr},Front M f→∀ e∈f,HL.look M e.1=some e.2
 | [],_,e,he=>by cases he
 | x :: f,h,e,he=>by
  rcases List.mem_cons.1 he with rfl|he
  ·exact h.1
  ·exact Front.all h.2 e he
def opv (M:Fr):Operand→Option Value
 | .tmp t=>look M t
 | .const v=>some v
 | .func f=>some (.func (.func f) #[] #[])
 | .global g=>some (.pointer (some ⟨g,0,none⟩))
theorem FrOK.eval {N:Nat} {M:Fr} {a:Act} (h:FrOK N M a) {x:Operand} {v:Value} (hx:opv M x=some v):a.eval x=v:=by
 cases x with
 | tmp t=>exact h.val t v hx
 | const u=>cases hx; rfl
 | func f=>cases hx; rfl
 | global g=>cases hx; rfl
def l3 (M:Fr):List Operand→Option (List Value)
 | []=>some []
 | x :: xs=>match opv M x,l3 M xs with
  | some v,some vs=>some (v :: vs)
  | _,_=>none
theorem FrOK.evals {N:Nat} {M:Fr} {a:Act} (h:FrOK N M a):∀ {xs:List Operand} {vs:List Value},l3 M xs=some vs→xs.map a.eval=vs
 | [],vs,hx=>by cases hx; rfl
 | x :: xs,vs,hx=>by
  simp only [l3] at hx
  cases h1:opv M x with
  | none=>simp [h1] at hx
  | some v =>
   cases h2:l3 M xs with
   | none=>simp [h1,h2] at hx
   | some us =>
    simp only [h1,h2,Option.some.injEq] at hx
    subst hx
    simp [h.eval h1,h.evals h2]
structure Ext (w w':World):Prop where
 below:Below w.heap.size w w'
 dr:w.drawn≤w'.drawn
theorem Ext.refl (w:World):Ext w w:=⟨Below.refl _ _,Nat.le_refl _⟩
theorem Ext.trans {a b c:World} (h:Ext a b) (k:Ext b c):Ext a c:=⟨h.below.trans (k.below.mono h.below.size),Nat.le_trans h.dr k.dr⟩
structure Bg where
 blk:Nat→Option Obj
 n:Nat
 dr:Nat
 os:Os
 tape:Nat→Question→Nat
 out:Array (Nat × ByteArray)
 lo:Nat
 lo_le:lo≤n
def Bg.of (w:World):Bg:=⟨fun b=>w.heap[b]?,w.heap.size,w.drawn,w.os,w.tape,w.output,w.heap.size,Nat.le_refl _⟩
structure Bg.le (F G:Bg):Prop where
 blk:∀ b o,F.blk b=some o→G.blk b=some o
 n:F.n≤G.n
 dr:G.dr=F.dr
 os:G.os=F.os
 tape:G.tape=F.tape
 out:G.out=F.out
 lo:G.lo=F.lo
theorem Bg.le.refl (F:Bg):F.le F:=⟨fun _ _ h=>h,Nat.le_refl _,rfl,rfl,rfl,rfl,rfl⟩
theorem Bg.le.trans {F G H:Bg} (h:F.le G) (k:G.le H):F.le H :=
 ⟨fun b o e=>k.blk b o (h.blk b o e),Nat.le_trans h.n k.n,k.dr.trans h.dr,k.os.trans h.os,k.tape.trans h.tape,k.out.trans h.out,k.lo.trans h.lo⟩
structure Ent where
 blk:Option Nat
 ok:Option Obj→Prop
def Ent.holds (e:Ent) (w:World):Prop:=e.ok (e.blk.bind (w.heap[·]?))
def cx (L:List Ent):List Nat:=L.filterMap (·.blk)
structure HpOK (F:Bg) (L:List Ent) (w:World):Prop where
 os:w.os=F.os
 tape:w.tape=F.tape
 out:w.output=F.out
 n:F.n≤w.heap.size
 dr:F.dr≤w.drawn
 bg:∀ b o,F.blk b=some o→w.heap[b]?=some o
 ent:∀ e∈L,e.holds w
 nodup:(cx L).Nodup
 lt:∀ b∈cx L,b<w.heap.size
 sep:∀ b∈cx L,F.blk b=none∧F.lo≤b
theorem HpOK.start (w:World):HpOK (Bg.of w) [] w :=
 ⟨rfl,rfl,rfl,Nat.le_refl _,Nat.le_refl _,fun _ _ h=>h,fun _ h=>(by cases h),(by simp [cx]),fun _ h=>(by simp [cx] at h),fun _ h=>(by simp [cx] at h)⟩
theorem HpOK.below {w0 w:World} {F:Bg} {L:List Ent} (h:HpOK F L w) (hF:(Bg.of w0).le F):Ext w0 w :=
 ⟨⟨h.os.trans hF.os,h.tape.trans hF.tape,h.out.trans hF.out,Nat.le_trans hF.n h.n,fun k hk=>by
  have e:(Bg.of w0).blk k=some w0.heap[k]:=by simp [Bg.of,hk]
  rw [h.bg k _ (hF.blk k _ e)]; simp [hk]⟩,by have:=h.dr; rw [hF.dr] at this; exact this⟩
theorem HpOK.grow {F:Bg} {L:List Ent} {w w':World} (h:HpOK F L w) (hx:Ext w w'):HpOK F L w':=by
 have hb:=hx.below
 have old:∀ b,b<w.heap.size→w'.heap[b]?=w.heap[b]?:=hb.block
 refine ⟨hb.os.trans h.os,hb.tape.trans h.tape,hb.output.trans h.out,Nat.le_trans h.n hb.size,Nat.le_trans h.dr hx.dr,fun b o e=>?_,fun e he=>?_,h.nodup,fun b hm=>Nat.lt_of_lt_of_le (h.lt b hm) hb.size,h.sep⟩
 ·have:=h.bg b o e
  rw [old b (Array.getElem?_eq_some_iff.1 this).1]; exact this
 ·have hh:=h.ent e he
  unfold Ent.holds at *
  cases hk:e.blk with
  | none=>rw [hk] at hh; exact hh
  | some b =>
   rw [hk] at hh
   simp only [Option.bind_some] at *
   rw [old b (h.lt b (by simp only [cx,List.mem_filterMap]; exact ⟨e,he,hk⟩))]
   exact hh
theorem HpOK.drew {F:Bg} {L:List Ent} {w:World} (h:HpOK F L w):HpOK F L w.drew :=
 h.grow ⟨⟨rfl,rfl,rfl,Nat.le_refl _,fun _ _=>rfl⟩,Nat.le_succ _⟩
theorem HpOK.mem {F:Bg} {L L':List Ent} {w:World} (h:HpOK F L w) (hs:L'.Sublist L):HpOK F L' w:=by
 have hb:(cx L').Sublist (cx L):=hs.filterMap _
 exact ⟨h.os,h.tape,h.out,h.n,h.dr,h.bg,fun e he=>h.ent e (hs.subset he),h.nodup.sublist hb,fun b hm=>h.lt b (hb.subset hm),fun b hm=>h.sep b (hb.subset hm)⟩
theorem HpOK.perm {F:Bg} {L L':List Ent} {w:World} (h:HpOK F L w) (hp:L'.Perm L):HpOK F L' w:=by
 have hb:(cx L').Perm (cx L):=hp.filterMap _
 exact ⟨h.os,h.tape,h.out,h.n,h.dr,h.bg,fun e he=>h.ent e (hp.subset he),hb.nodup_iff.2 h.nodup,fun b hm=>h.lt b (hb.subset hm),fun b hm=>h.sep b (hb.subset hm)⟩
theorem HpOK.alloc {F:Bg} {L:List Ent} {w:World} (h:HpOK F L w) (o:Obj) (p:Option Obj→Prop) (hp:p (some o)) :
  HpOK F (⟨some w.heap.size,p⟩ :: L) (w.alloc o):=by
 have hg:HpOK F L (w.alloc o):=h.grow ⟨(Below.refl _ _).alloc (Nat.le_refl _) _,Nat.le_refl _⟩
 have hbl:cx (⟨some w.heap.size,p⟩ :: L)=w.heap.size :: cx L:=rfl
 refine ⟨hg.os,hg.tape,hg.out,hg.n,hg.dr,hg.bg,fun e he=>?_,?_,fun b hb=>?_,fun b hb=>?_⟩
 ·rcases List.mem_cons.1 he with rfl|he
  ·simp only [Ent.holds,Option.bind_some]
   have:(w.alloc o).heap[w.heap.size]?=some o:=by show (w.heap.push o)[w.heap.size]?=_; simp
   rw [this]; exact hp
  ·exact hg.ent e he
 ·rw [hbl,List.nodup_cons]
  exact ⟨fun hm=>Nat.lt_irrefl _ (h.lt _ hm),h.nodup⟩
 ·rw [hbl] at hb
  rcases List.mem_cons.1 hb with rfl|hb
  ·simp
  ·exact hg.lt b hb
 ·rw [hbl] at hb
  rcases List.mem_cons.1 hb with rfl|hb
  ·refine ⟨?_,Nat.le_trans F.lo_le h.n⟩
   cases hF:F.blk w.heap.size with
   | none=>rfl
   | some o' =>
    have:=h.bg _ _ hF
    have:=(Array.getElem?_eq_some_iff.1 this).1
    omega
  ·exact h.sep b hb
inductive Put (e e':Ent):List Ent→List Ent→Prop
 | here (L:List Ent):Put e e' (e :: L) (e' :: L)
 | there (x:Ent) {L L':List Ent} (h:Put e e' L L'):Put e e' (x :: L) (x :: L')
theorem Put.mem {e e':Ent} {L L':List Ent} (h:Put e e' L L'):e∈L:=by
 induction h with
 | here=>exact .head _
 | there x _ ih=>exact .tail _ ih
theorem Put.mem' {e e':Ent} {L L':List Ent} (h:Put e e' L L'):∀ x∈L',x=e'∨x∈L:=by
 induction h with
 | here L =>
  intro x hx
  rcases List.mem_cons.1 hx with h|h
  ·exact .inl h
  ·exact .inr (.tail _ h)
 | there y _ ih =>
  intro x hx
  rcases List.mem_cons.1 hx with h|h
  ·exact .inr (h ▸ .head _)
  ·exact (ih x h).imp id (.tail _)
theorem Put.blks {e e':Ent} {L L':List Ent} (h:Put e e' L L') (hb:e'.blk=e.blk):cx L'=cx L:=by
 induction h with
 | here L=>simp [HL.cx,List.filterMap_cons,hb]
 | there x _ ih=>simp only [HL.cx] at ih; simp [HL.cx,List.filterMap_cons,ih]
theorem sP {e:Ent} {b:Nat} {L:List Ent} (h:e.blk=some b):cx (e :: L)=b :: cx L:=by simp [cx,h]
theorem Put.other {e e':Ent} {L L':List Ent} (h:Put e e' L L') (hn:(HL.cx L).Nodup) {b:Nat} (hb:e.blk=some b) (hb':e'.blk=some b) :
  ∀ x∈L',x≠e'→x∈L∧x.blk≠some b:=by
 induction h with
 | here L =>
  intro x hx hne
  rcases List.mem_cons.1 hx with h|h
  ·exact absurd h hne
  ·refine ⟨.tail _ h,fun hxb=>?_⟩
   rw [sP hb,List.nodup_cons] at hn
   exact hn.1 (List.mem_filterMap.2 ⟨x,h,hxb⟩)
 | @there y L0 L1 hp ih =>
  intro x hx hne
  have hs:(HL.cx L0).Sublist (HL.cx (y :: L0)):=(List.sublist_cons_self y L0).filterMap _
  have hn':(HL.cx L0).Nodup:=hn.sublist hs
  rcases List.mem_cons.1 hx with h|h
  ·subst h
   refine ⟨.head _,fun hxb=>?_⟩
   have hm:=hp.mem
   rw [sP hxb,List.nodup_cons] at hn
   exact hn.1 (List.mem_filterMap.2 ⟨e,hm,hb⟩)
  ·obtain ⟨h1,h2⟩:=ih hn' x h hne
   exact ⟨.tail _ h1,h2⟩
theorem HpOK.set {F:Bg} {L L':List Ent} {w w':World} {b:Nat} {p p':Option Obj→Prop} (h:HpOK F L w) (hput:Put ⟨some b,p⟩ ⟨some b,p'⟩ L L')
  (hos:w'.os=w.os) (ht:w'.tape=w.tape) (ho:w'.output=w.output) (hs:w.heap.size≤w'.heap.size) (hdr:w.drawn≤w'.drawn)
  (hother:∀ k,k<w.heap.size→k≠b→w'.heap[k]?=w.heap[k]?) (hp:p' (w'.heap[b]?)):HpOK F L' w':=by
 have hb:cx L'=cx L:=hput.blks rfl
 have hbm:b∈cx L:=List.mem_filterMap.2 ⟨_,hput.mem,rfl⟩
 refine ⟨hos.trans h.os,ht.trans h.tape,ho.trans h.out,Nat.le_trans h.n hs,Nat.le_trans h.dr hdr,fun k o e=>?_,fun e he=>?_,by rw [hb]; exact h.nodup,fun k hk=>?_,fun k hk=>?_⟩
 ·have hk:=h.bg k o e
  rw [hother k (Array.getElem?_eq_some_iff.1 hk).1 (fun hkb=>by subst hkb; have:=(h.sep _ hbm).1; rw [this] at e; cases e)]
  exact hk
 ·by_cases hee:e=⟨some b,p'⟩
  ·subst hee; exact hp
  ·obtain ⟨h1,h2⟩:=hput.other h.nodup rfl rfl e he hee
   have hh:=h.ent e h1
   unfold Ent.holds at *
   cases hk:e.blk with
   | none=>rw [hk] at hh; exact hh
   | some c =>
    rw [hk] at hh h2
    simp only [Option.bind_some] at *
    rw [hother c (h.lt c (List.mem_filterMap.2 ⟨e,h1,hk⟩)) (fun e=>h2 (by rw [e]))]
    exact hh
 ·rw [hb] at hk; exact Nat.lt_of_lt_of_le (h.lt k hk) hs
 ·rw [hb] at hk; exact h.sep k hk
inductive Del (e:Ent):List Ent→List Ent→Prop
 | here (L:List Ent):Del e (e :: L) L
 | there (x:Ent) {L L':List Ent} (h:Del e L L'):Del e (x :: L) (x :: L')
theorem Del.perm {e:Ent} {L L':List Ent} (h:Del e L L'):L.Perm (e :: L'):=by
 induction h with
 | here=>exact .refl _
 | there x _ ih=>exact (ih.cons x).trans (.swap _ _ _)
theorem HpOK.front {F:Bg} {e:Ent} {L L':List Ent} {w:World} (h:HpOK F L w) (hd:Del e L L'):HpOK F (e :: L') w:=h.perm hd.perm.symm
inductive Pick:List Ent→List Ent→Prop
 | nil (L:List Ent):Pick L []
 | cons {e:Ent} {L L1 L':List Ent} (h:Del e L L1) (k:Pick L1 L'):Pick L (e :: L')
theorem Pick.sub {L L':List Ent} (h:Pick L L'):∃ L2,L.Perm (L' ++ L2):=by
 induction h with
 | nil L=>exact ⟨L,.refl _⟩
 | cons h _ ih =>
  obtain ⟨L2,h2⟩:=ih
  exact ⟨L2,h.perm.trans (h2.cons _)⟩
theorem Pick.heap {F:Bg} {L L':List Ent} {w:World} (h:Pick L L') (hw:HpOK F L w):HpOK F L' w:=by
 obtain ⟨L2,h2⟩:=h.sub
 exact (hw.perm h2.symm).mem (List.sublist_append_left _ _)
def Tr (N:Nat) (F:Bg) (L:List Ent) (M:Fr) (X:Act→World→Prop):Prop:=∀ a w,FrOK N M a→HpOK F L w→X a w
def TrQ (N:Nat) (M:Fr) (Y:Act→Prop):Prop:=∀ a,FrOK N M a→Y a
def QS (P:Program) (N:Nat) (F:Bg) (L:List Ent) (M:Fr) (o:Oper) (v:Value):Prop :=
 ∀ a w,FrOK N M a→HpOK F L w→o.quietAt P a (HpOK F L) w v
section
variable {P:Program} {ops:Array Oper} {Q:Exit→Act→World→Prop} {N:Nat} {F:Bg} {L:List Ent} {M:Fr} {rest:List Oper} {o:Oper}
theorem mj (h:Tr N F L M (Q .normal)):Tr N F L M (wpList P ops Q []):=h
theorem Oper.wp_quietAt {a:Act} {w:World} {v:Value} {C:World→Prop} {K:Act→World→Prop} (hC:C w) (h:o.quietAt P a C w v) (hK:∀ w',C w'→K (a.put o.dst v) w'):o.wp P a w K Q:=by
 unfold Oper.quietAt at h
 unfold Oper.wp
 generalize (execOp a.eval o).run P w=r at *
 cases r with
 | ok n w' =>
  cases n<;>simp only [Oper.quietUpon] at h<;>simp only [Oper.upon]
  case value u=>obtain ⟨rfl,rfl⟩:=h; exact hK _ hC
  case skip=>obtain ⟨rfl,rfl⟩:=h; exact hK _ hC
  case enter f args =>
   obtain ⟨rfl,hc⟩:=h
   exact hc.mono fun e w'' ⟨he,hw''⟩=>by subst he; exact hK _ hw''
 | halt x w'=>simp only [Oper.quietUpon] at h
theorem Ih {d:Nat} {op:Op} {ty:TypeId} {pos:String} {after:Array Edge} {v:Value} (h:QS P N F L M ⟨some d,op,ty,pos,after,none⟩ v) (hd:Nat.ble (d+1) N=true)
  (k:Tr N F L ((d,v) :: M) (wpList P ops Q rest)):Tr N F L M (wpList P ops Q (⟨some d,op,ty,pos,after,none⟩ :: rest)):=by
 intro a w ha hw
 refine wpList_plain rfl fun K hK=>Oper.wp_quietAt (C:=HpOK F L) hw (h a w ha hw) fun w' hw'=>hK _ _ (k _ _ (ha.put (Nat.le_of_ble_eq_true hd)) hw')
theorem zz0 {d:Nat} {op:Op} {ty:TypeId} {pos:String} {after:Array Edge} {v:Value} (h:QS P N F L M ⟨some d,op,ty,pos,after,none⟩ v) (k:Tr N F L ((d,v) :: M) (wpList P ops Q rest)) (hd:Nat.ble (d+1) N=true:=by rfl):Tr N F L M (wpList P ops Q (⟨some d,op,ty,pos,after,none⟩ :: rest)):=Ih h hd k
theorem nM {a:Act} {j t:Nat} {b:Bool} (ha:FrOK N M a) (hj:(ops[j]?).bind (·.dst)=some t) (ht:look M t=some (.bool b)):yielded ops a.tmps j=some b:=by
 have hv:=ha.val t _ ht
 unfold yielded
 rw [hj]
 simp only [Option.bind_some]
 rw [Array.getD_eq_getD_getElem?] at hv
 cases he:a.tmps[t]? with
 | none=>rw [he] at hv; simp [undef] at hv
 | some u=>rw [he] at hv; simp only [Option.getD_some] at hv; subst hv; rfl
theorem sY {a:Act} {j t:Nat} (ha:FrOK N M a) (hj:(ops[j]?).bind (·.dst)=some t) (ht:look M t=some undef):yielded ops a.tmps j=none:=by
 have hv:=ha.val t _ ht
 unfold yielded
 rw [hj]
 simp only [Option.bind_some]
 rw [Array.getD_eq_getD_getElem?] at hv
 cases he:a.tmps[t]? with
 | none=>rfl
 | some u=>rw [he] at hv; simp only [Option.getD_some] at hv; subst hv; rfl
theorem BX {d:Nat} {op:Op} {ty:TypeId} {pos:String} {after:Array Edge} {v:Value} {j t:Nat} {b b':Bool} (hj:(ops[j]?).bind (·.dst)=some t) (ht:look M t=some (.bool b')) (hb:b'=b)
  (h:QS P N F L M ⟨some d,op,ty,pos,after,some (j,b)⟩ v) (hd:Nat.ble (d+1) N=true)
  (k:Tr N F L ((d,v) :: M) (wpList P ops Q rest)):Tr N F L M (wpList P ops Q (⟨some d,op,ty,pos,after,some (j,b)⟩ :: rest)):=by
 intro a w ha hw
 refine wpList_step fun K hK=>?_
 rw [if_pos (by simp [Region.wanted,nM ha hj ht,hb])]
 exact Oper.wp_quietAt (C:=HpOK F L) hw (h a w ha hw) fun w' hw'=>hK _ _ (k _ _ (ha.put (Nat.le_of_ble_eq_true hd)) hw')
theorem zz5 {d:Nat} {op:Op} {ty:TypeId} {pos:String} {after:Array Edge} {v:Value} {j t:Nat} {b b':Bool} (hb:b'=b) (h:QS P N F L M ⟨some d,op,ty,pos,after,some (j,b)⟩ v) (k:Tr N F L ((d,v) :: M) (wpList P ops Q rest)) (hj:(ops[j]?).bind (·.dst)=some t:=by rfl) (ht:look M t=some (.bool b'):=by rfl) (hd:Nat.ble (d+1) N=true:=by rfl):Tr N F L M (wpList P ops Q (⟨some d,op,ty,pos,after,some (j,b)⟩ :: rest)):=BX hj ht hb h hd k
theorem zO {dst:Option Tmp} {op:Op} {ty:TypeId} {pos:String} {after:Array Edge} {j t:Nat} {b b':Bool} (hj:(ops[j]?).bind (·.dst)=some t) (ht:look M t=some (.bool b')) (hb:b'=b)
  (k:Tr N F L M (wpList P ops Q (⟨dst,op,ty,pos,after,none⟩ :: rest))):Tr N F L M (wpList P ops Q (⟨dst,op,ty,pos,after,some (j,b)⟩ :: rest)):=by
 intro a w ha hw
 have h:=k a w ha hw
 unfold wpList at h ⊢
 rw [if_pos (by simp [Region.wanted])] at h
 rw [if_pos (by simp [Region.wanted,nM ha hj ht,hb])]
 exact h
theorem ol {d:Nat} {op:Op} {ty:TypeId} {pos:String} {after:Array Edge} {j t:Nat} {b b':Bool} (hj:(ops[j]?).bind (·.dst)=some t) (ht:look M t=some (.bool b')) (hb:b'=!b)
  (hd:Nat.ble (d+1) N=true) (k:Tr N F L ((d,undef) :: M) (wpList P ops Q rest)):Tr N F L M (wpList P ops Q (⟨some d,op,ty,pos,after,some (j,b)⟩ :: rest)):=by
 intro a w ha hw
 refine wpList_step fun K hK=>?_
 rw [if_neg (by simp [Region.wanted,nM ha hj ht,hb])]
 exact hK _ _ (k _ _ (ha.put (Nat.le_of_ble_eq_true hd)) hw)
theorem zz6 {d:Nat} {op:Op} {ty:TypeId} {pos:String} {after:Array Edge} {j t:Nat} {b b':Bool} (hb:b'=!b) (k:Tr N F L ((d,undef) :: M) (wpList P ops Q rest)) (hj:(ops[j]?).bind (·.dst)=some t:=by rfl) (ht:look M t=some (.bool b'):=by rfl) (hd:Nat.ble (d+1) N=true:=by rfl):Tr N F L M (wpList P ops Q (⟨some d,op,ty,pos,after,some (j,b)⟩ :: rest)):=ol hj ht hb hd k
theorem qk {d:Nat} {op:Op} {ty:TypeId} {pos:String} {after:Array Edge} {j t:Nat} {b:Bool} (hj:(ops[j]?).bind (·.dst)=some t) (ht:look M t=some undef)
  (hd:Nat.ble (d+1) N=true) (k:Tr N F L ((d,undef) :: M) (wpList P ops Q rest)):Tr N F L M (wpList P ops Q (⟨some d,op,ty,pos,after,some (j,b)⟩ :: rest)):=by
 intro a w ha hw
 refine wpList_step fun K hK=>?_
 rw [if_neg (by simp [Region.wanted,sY ha hj ht])]
 exact hK _ _ (k _ _ (ha.put (Nat.le_of_ble_eq_true hd)) hw)
theorem QD {d:Nat} {op:Op} {ty:TypeId} {pos:String} {after:Array Edge} {j t:Nat} {b:Bool} (k:Tr N F L ((d,undef) :: M) (wpList P ops Q rest)) (hj:(ops[j]?).bind (·.dst)=some t:=by rfl) (ht:look M t=some undef:=by rfl) (hd:Nat.ble (d+1) N=true:=by rfl):Tr N F L M (wpList P ops Q (⟨some d,op,ty,pos,after,some (j,b)⟩ :: rest)):=qk hj ht hd k
theorem Ag (l1 l2:List Oper):∀ (a:Act) (w:World),wpList P ops (Exit.then (wpList P ops Q l2) Q) l1 a w→wpList P ops Q (l1 ++ l2) a w:=by
 induction l1 with
 | nil=>intro a w h; exact h
 | cons o l ih =>
  intro a w h
  simp only [List.cons_append]
  unfold wpList at h ⊢
  split
  ·rename_i hw
   rw [if_pos hw] at h
   rcases h with h|⟨h,a0,w0,h0⟩
   ·left
    unfold Oper.wp at *
    generalize (execOp a.eval o).run P w=r at *
    cases r with
    | ok n w' =>
     cases n<;>simp only [Oper.upon] at h ⊢
     case value=>exact ih _ _ h
     case skip=>exact ih _ _ h
     case defer=>exact ih _ _ h
     case enter=>exact h.mono fun e w'' he=>by cases e<;>first|exact ih _ _ he|exact he
     case row=>exact h.mono fun v w'' he=>ih _ _ he
    | halt x w'=>cases x<;>simp only [Oper.upon] at h ⊢; exact h
   ·exact .inr ⟨h,a0,w0,h0⟩
  ·rename_i hw
   rw [if_neg hw] at h
   exact ih _ _ h
theorem Gm {l:List Oper} (k:Nat) (L':List Ent) (M':Fr) (h1:Tr N F L M (wpList P ops (Exit.then (fun a w=>FrOK N M' a∧HpOK F L' w) Q) (l.take k)))
    (h2:Tr N F L' M' (wpList P ops Q (l.drop k))):Tr N F L M (wpList P ops Q l):=by
  intro a w ha hw
  have h:=h1 a w ha hw
  rw [← List.take_append_drop k l]
  refine Ag _ _ _ _ (wpList_mono (fun e a' w' he=>?_) _ _ _ h)
  cases e<;>first|exact he|exact h2 _ _ he.1 he.2
where
  wpList_mono {P:Program} {ops:Array Oper} {Q Q':Exit→Act→World→Prop} (hq:∀ e a w,Q e a w→Q' e a w):∀ (l:List Oper) (a:Act) (w:World),wpList P ops Q l a w→wpList P ops Q' l a w:=by
    intro l
    induction l with
    | nil=>intro a w h; exact hq _ _ _ h
    | cons o l ih =>
      intro a w h
      unfold wpList at h ⊢
      split
      · rename_i hw
        rw [if_pos hw] at h
        rcases h with h|⟨h,a0,w0,h0⟩
        · left
          unfold Oper.wp at *
          generalize (execOp a.eval o).run P w=r at *
          cases r with
          | ok n w' =>
            cases n<;>simp only [Oper.upon] at h ⊢
            case value=>exact ih _ _ h
            case skip=>exact ih _ _ h
            case defer=>exact ih _ _ h
            case enter=>exact h.mono fun e w'' he=>by
                          cases e
                          · exact ih _ _ he
                          · exact hq _ _ _ he
                          · obtain ⟨a1,w1,h1⟩:=he; exact ⟨a1,w1,hq _ _ _ h1⟩
            case row=>exact h.mono fun v w'' he=>ih _ _ he
          | halt x w'=>cases x<;>simp only [Oper.upon] at h ⊢; exact hq _ _ _ h
        · exact .inr ⟨h,a0,w0,hq _ _ _ h0⟩
      · rename_i hw
        rw [if_neg hw] at h
        exact ih _ _ h
theorem wo {L':List Ent} {M':Fr} {K:Act→World→Prop} (hM:Sub M M') (hL:L'=L) (hK:K=fun a w=>FrOK N M' a∧HpOK F L' w):Tr N F L M K:=by
 subst hL; subst hK
 exact fun a w ha hw=>⟨ha.sub hM.look,hw⟩
theorem o6 {L':List Ent} {M':Fr} {K:Act→World→Prop} (hM:Sub M M') (hK:K=fun a w=>FrOK N M' a∧HpOK F L' w) (hL:Pick L L'):Tr N F L M K:=by
 subst hK
 exact fun a w ha hw=>⟨ha.sub hM.look,hL.heap hw⟩
theorem dn {ι:Type} {ok:ι→Prop} {μ:ι→Nat} {front:ι→Fr} {F':ι→Bg} {L':ι→List Ent} {M0:Fr} {m:Nat} (j:ι) (hF:F' j=F) (hf:Front M (front j))
  (hM:SubX ((front j).map (·.1)) M M0) (hL:Pick L (L' j)) (hok:ok j) (hlt:μ j<m):Tr N F L M (fun a w=>∃ j,ok j∧μ j<m∧FrOK N (front j ++ M0) a∧HpOK (F' j) (L' j) w) :=
 fun a w ha hw=>⟨j,hok,hlt,ha.sub (SubX.front _ hf.all hM),by rw [hF]; exact hL.heap hw⟩
theorem Qa {M':Fr} {X:Act→World→Prop} (hM:Sub M M') (h:Tr N F L M' X):Tr N F L M X:=fun a w ha hw=>h a w (ha.sub hM.look) hw
theorem Pb {L':List Ent} {X:Act→World→Prop} (hL:L'.Sublist L) (h:Tr N F L' M X):Tr N F L M X:=fun a w ha hw=>h a w ha (hw.mem hL)
theorem sR {L':List Ent} {X:Act→World→Prop} (hL:L'.Perm L) (h:Tr N F L' M X):Tr N F L M X:=fun a w ha hw=>h a w ha (hw.perm hL)
end
section
variable {P:Program} {Q:Exit→Act→World→Prop} {N:Nat} {F:Bg} {L:List Ent} {M:Fr}
theorem cC {id:Nat} {l:List Oper} (h:Tr N F L M (wpList P l.toArray Q l)):Tr N F L M ((Code.region id l.toArray false).wp P Q) :=
 fun a w ha hw=>wp_region_lit (h a w ha hw)
theorem bB {x y:Code} (h:Tr N F L M (x.wp P (Exit.then (y.wp P Q) Q))):Tr N F L M ((Code.seq x y).wp P Q):=fun a w ha hw=>wp_seq (h a w ha hw)
theorem sQ (h:Tr N F L M (Q .normal)):Tr N F L M (Code.skip.wp P Q):=fun a w ha hw=>wp_skip (h a w ha hw)
theorem NF {l:Nat} (h:Tr N F L M (Q .normal)):Tr N F L M ((Code.label l).wp P Q):=fun a w ha hw=>wp_label (h a w ha hw)
theorem q8 {id:Nat} (h:Tr N F L M (Q (.exit id))):Tr N F L M ((Code.exit id).wp P Q):=fun a w ha hw=>wp_exit (h a w ha hw)
theorem Dp (h:Tr N F L M (Q .ret)):Tr N F L M (Code.ret.wp P Q):=fun a w ha hw=>wp_ret (h a w ha hw)
theorem sk {id:Nat} {c:Code} (h:Tr N F L M (c.wp P (Exit.inBlock id Q))):Tr N F L M ((Code.block id c).wp P Q):=fun a w ha hw=>wp_block (h a w ha hw)
theorem fk {c:Operand} {x y:Code} {b:Bool} (hc:opv M c=some (.bool b)) (ht:b=true→Tr N F L M (x.wp P Q)) (hf:b=false→Tr N F L M (y.wp P Q)) :
  Tr N F L M ((Code.cond c x y).wp P Q):=fun a w ha hw=>wp_cond_split (ha.eval hc) (fun h=>ht h a w ha hw) (fun h=>hf h a w ha hw)
theorem Je {c:Code} {ι:Type} (ok:ι→Prop) (F':ι→Bg) (L':ι→List Ent) (front:ι→Fr) (μ:ι→Nat) (i0:ι) (h0:ok i0) (hf:Front M (front i0)) (hL:Pick L (L' i0)) (hF:F' i0=F)
  (round:∀ i,ok i→∀ m,m=μ i→Tr N (F' i) (L' i) (front i ++ M) (c.wp P (Exit.then (fun a w=>∃ j,ok j∧μ j<m∧FrOK N (front j ++ M) a∧HpOK (F' j) (L' j) w) Q))) :
  Tr N F L M ((Code.loop c).wp P Q):=by
 subst hF
 intro a w ha hw
 intro b k cs
 have key:∀ n i a w,μ i=n→ok i→FrOK N (front i ++ M) a→HpOK (F' i) (L' i) w →
   ∃ e a' w',Q e a' w'∧Arrives P (lone (b.at a (.code c :: .inLoop c :: k)) cs w) b k cs e a' w':=by
  intro n
  induction n using Nat.strongRecOn with
  | _ n ih =>
   intro i a w hn hi ha hw
   obtain ⟨e,a1,w1,hq,harr⟩:=round i hi _ rfl a w ha hw b (.inLoop c :: k) cs
   cases e with
   | normal =>
    obtain ⟨j,hj,hlt,ha1,hw1⟩:=hq
    obtain ⟨e2,a2,w2,hq2,harr2⟩:=ih (μ j) (hn ▸ hlt) j a1 w1 rfl hj ha1 hw1
    exact ⟨e2,a2,w2,hq2,.of_steps (Steps.trans harr (.one step_inLoop)) harr2⟩
   | exit id=>exact ⟨_,a1,w1,hq,.pass (x:=.inLoop c) rfl (fun _ _=>.inl (by simp)) harr⟩
   | goto l=>exact ⟨_,a1,w1,hq,.pass (x:=.inLoop c) rfl (fun _ _=>.inl (by simp)) harr⟩
   | ret=>exact ⟨_,a1,w1,hq,.pass (x:=.inLoop c) rfl (fun _ _=>.inl (by simp)) harr⟩
   | panic ch=>exact ⟨_,a1,w1,hq,.pass (x:=.inLoop c) rfl (fun _ _=>.inl (by simp)) harr⟩
   | outgrown=>exact ⟨_,a1,w1,hq,.pass (x:=.inLoop c) rfl (fun _ _=>.inl (by simp)) harr⟩
 obtain ⟨e,a',w',hq,harr⟩:=key _ i0 a w rfl h0 (ha.sub (SubX.front _ hf.all fun _ _ _ h=>h)) (hL.heap hw)
 exact ⟨e,a',w',hq,.of_steps (.one step_loop) harr⟩
theorem aS {K:Act→World→Prop} (h:Tr N F L M K):Tr N F L M (Exit.then K Q .normal):=h
theorem qj {K:Act→World→Prop} {id:Nat} (h:Tr N F L M (Q (.exit id))):Tr N F L M (Exit.then K Q (.exit id)):=h
theorem zJ {K:Act→World→Prop} (h:Tr N F L M (Q .ret)):Tr N F L M (Exit.then K Q .ret):=h
theorem NG {id:Nat} (h:Tr N F L M (Q .normal)):Tr N F L M (Exit.inBlock id Q .normal):=h
theorem zN {id:Nat} (h:Tr N F L M (Q .ret)):Tr N F L M (Exit.inBlock id Q .ret):=h
theorem NH {id:Nat} (h:Tr N F L M (Q .normal)):Tr N F L M (Exit.inBlock id Q (.exit id)):=fun a w ha hw=>by
 show (if id=id then Q .normal a w else Q (.exit id) a w)
 rw [if_pos rfl]; exact h a w ha hw
theorem ku {id id':Nat} (hne:Nat.beq id' id=false) (h:Tr N F L M (Q (.exit id'))):Tr N F L M (Exit.inBlock id Q (.exit id')):=fun a w ha hw=>by
 show (if id'=id then Q .normal a w else Q (.exit id') a w)
 rw [if_neg (fun e=>by subst e; simp at hne)]; exact h a w ha hw
theorem O6 {ι:Type} {x y:Code} (ok:ι→Prop) (F':ι→Bg) (L':ι→List Ent) (M':ι→Fr) (hx:Tr N F L M (x.wp P (Exit.then (fun a w=>∃ i,ok i∧FrOK N (M' i) a∧HpOK (F' i) (L' i) w) Q)))
  (hy:∀ i,ok i→Tr N (F' i) (L' i) (M' i) (y.wp P Q)):Tr N F L M ((Code.seq x y).wp P Q):=by
 refine bB (fun a w ha hw=>Code.wp_mono (fun e a w q=>?_) (hx a w ha hw))
 cases e<;>first|exact q|(obtain ⟨i,h1,h2,h3⟩:=q; exact hy i h1 a w h2 h3)
theorem O9 {ι:Type} {ok:ι→Prop} {M':ι→Fr} {F':ι→Bg} {L':ι→List Ent} (j:ι) (hok:ok j) (hF:F' j=F) (hM:Sub M (M' j)) (hL:Pick L (L' j)) :
  Tr N F L M (fun a w=>∃ i,ok i∧FrOK N (M' i) a∧HpOK (F' i) (L' i) w) :=
 fun a w ha hw=>⟨j,hok,ha.sub hM,by rw [hF]; exact hL.heap hw⟩
theorem gX {ι:Type} {x y:Code} (ok:ι→Prop) (F':ι→Bg) (L':ι→List Ent) (front:ι→Fr) (hx:Tr N F L M (x.wp P (Exit.then (fun a w=>∃ i,ok i∧FrOK N (front i ++ M) a∧HpOK (F' i) (L' i) w) Q)))
  (hy:∀ i,ok i→Tr N (F' i) (L' i) (front i ++ M) (y.wp P Q)):Tr N F L M ((Code.seq x y).wp P Q):=O6 ok F' L' (fun i=>front i ++ M) hx hy
theorem bO {ι:Type} {ok:ι→Prop} {front:ι→Fr} {M0:Fr} {F':ι→Bg} {L':ι→List Ent} (j:ι) (hF:F' j=F) (hf:Front M (front j)) (hM:SubX ((front j).map (·.1)) M M0) (hL:Pick L (L' j)) (hok:ok j) :
  Tr N F L M (fun a w=>∃ i,ok i∧FrOK N (front i ++ M0) a∧HpOK (F' i) (L' i) w):=O9 (M':=fun i=>front i ++ M0) j hok hF (SubX.front _ hf.all hM) hL
theorem Front.nil:Front M []:=trivial
theorem Front.cons {d:Nat} {v:Value} {f:Fr} (h:look M d=some v) (k:Front M f):Front M ((d,v) :: f):=⟨h,k⟩
theorem az {t:Nat} {k:IntKind} {x y:Int} (h:look M t=some (.int k x)) (e:x=y):look M t=some (.int k y):=e ▸ h
theorem bU {t:Nat} {x y:Bool} (h:look M t=some (.bool x)) (e:x=y):look M t=some (.bool y):=e ▸ h
end
section
variable {P:Program} {N:Nat} {F:Bg} {L:List Ent} {M:Fr} {dst:Option Tmp} {ty:TypeId} {pos:String} {after:Array Edge} {g:Option (Nat × Bool)}
theorem bQ {op:Op} {v:Value} (h:∀ a w,FrOK N M a→HpOK F L w→(execOp a.eval ⟨dst,op,ty,pos,after,g⟩).run P w=.ok (.value v) w):QS P N F L M ⟨dst,op,ty,pos,after,g⟩ v:=by
 intro a w ha hw
 unfold Oper.quietAt
 rw [h a w ha hw]
 exact ⟨rfl,rfl⟩
theorem af {x:Operand} {v:Value} (h:opv M x=some v):QS P N F L M ⟨dst,.move x,ty,pos,after,g⟩ v :=
 bQ fun a w ha _=>by simp [execOp,ha.eval h]
theorem cD {x:Operand} {v:Value} (h:opv M x=some v):QS P N F L M ⟨dst,.assign x,ty,pos,after,g⟩ v :=
 bQ fun a w ha _=>by simp [execOp,ha.eval h]
theorem Pf {c x y:Operand} {b:Bool} {u v:Value} (hc:opv M c=some (.bool b)) (hx:opv M x=some u) (hy:opv M y=some v) :
  QS P N F L M ⟨dst,.pick c x y,ty,pos,after,g⟩ (if b then u else v) :=
 bQ fun a w ha _=>by simp [execOp,ha.eval hc,ha.eval hx,ha.eval hy,asBool]
theorem kc {c x y:Operand} {b:Bool} {u:Value} (hc:opv M c=some (.bool b)) (hb:b=true) (hx:opv M x=some u) :
  QS P N F L M ⟨dst,.pick c x y,ty,pos,after,g⟩ u :=
 bQ fun a w ha _=>by simp [execOp,ha.eval hc,ha.eval hx,asBool,hb]
theorem kd {c x y:Operand} {b:Bool} {u:Value} (hc:opv M c=some (.bool b)) (hb:b=false) (hy:opv M y=some u) :
  QS P N F L M ⟨dst,.pick c x y,ty,pos,after,g⟩ u :=
 bQ fun a w ha _=>by simp [execOp,ha.eval hc,ha.eval hy,asBool,hb]
theorem tZ {x:Operand} {t:TypeId} {b:Bool} (h:opv M x=some (.bool b)):QS P N F L M ⟨dst,.unOp .not t x,ty,pos,after,g⟩ (.bool (!b)) :=
 bQ fun a w ha _=>by simp [execOp,ha.eval h,Op.unary]
theorem Qf {x:Operand} {t:TypeId} {k:IntKind} {n:Int} (h:opv M x=some (.int k n)):QS P N F L M ⟨dst,.unOp .neg t x,ty,pos,after,g⟩ (.int k (k.wrap (-n))) :=
 bQ fun a w ha _=>by simp [execOp,ha.eval h,Op.unary,Op.intArith]
theorem fJ {x:Operand} {i:Nat} {vs:Array Value} {v:Value} (h:opv M x=some (.tuple vs)) (hi:vs[i]?=some v):QS P N F L M ⟨dst,.extract x i,ty,pos,after,g⟩ v :=
 bQ fun a w ha _=>by simp [execOp,ha.eval h,Instr.extract,hi]
theorem iH {op:BinOp} {t u:TypeId} {x y:Operand} {k:IntKind} {k':IntKind} {m n:Int} {v:Value} (hx:opv M x=some (.int k m)) (hy:opv M y=some (.int k' n))
  (hv:∀ w,(binOp op t (.int k m) (.int k' n)).run P w=.ok v w):QS P N F L M ⟨dst,.binOp op t x y u,ty,pos,after,g⟩ v :=
 bQ fun a w ha _=>by
  have he:(eqGuard op t x y (.int k m) (.int k' n)).run P w=.ok () w:=by
   unfold eqGuard; cases op<;>simp
  simp [execOp,ha.eval hx,ha.eval hy,hv,he]
section
variable {x y:Operand} {t u:TypeId} {k:IntKind} {m n:Int}
theorem su (hx:opv M x=some (.int k m)) (hy:opv M y=some (.int k n)):QS P N F L M ⟨dst,.binOp .lss t x y u,ty,pos,after,g⟩ (.bool (decide (m<n))) :=
 iH hx hy fun w=>by simp [binOp,Op.intCmp]
theorem Ab (hx:opv M x=some (.int k m)) (hy:opv M y=some (.int k n)):QS P N F L M ⟨dst,.binOp .leq t x y u,ty,pos,after,g⟩ (.bool (decide (m≤n))) :=
 iH hx hy fun w=>by simp [binOp,Op.intCmp]
theorem t8 (hx:opv M x=some (.int k m)) (hy:opv M y=some (.int k n)):QS P N F L M ⟨dst,.binOp .gtr t x y u,ty,pos,after,g⟩ (.bool (decide (n<m))) :=
 iH hx hy fun w=>by simp [binOp,Op.intCmp]
theorem wx (hx:opv M x=some (.int k m)) (hy:opv M y=some (.int k n)):QS P N F L M ⟨dst,.binOp .geq t x y u,ty,pos,after,g⟩ (.bool (decide (n≤m))) :=
 iH hx hy fun w=>by simp [binOp,Op.intCmp]
theorem kG (hx:opv M x=some (.int k m)) (hy:opv M y=some (.int k n)):QS P N F L M ⟨dst,.binOp .eql t x y u,ty,pos,after,g⟩ (.bool (decide (m=n))) :=
 iH hx hy fun w=>by simp [binOp,Op.intCmp]; rfl
theorem wu (hx:opv M x=some (.int k m)) (hy:opv M y=some (.int k n)):QS P N F L M ⟨dst,.binOp .neq t x y u,ty,pos,after,g⟩ (.bool (decide (m≠n))) :=
 iH hx hy fun w=>by
  simp [binOp,Op.intCmp,bne]
  cases h:m == n<;>simp_all
theorem DI (hx:opv M x=some (.int k m)) (hy:opv M y=some (.int k n)):QS P N F L M ⟨dst,.binOp .add t x y u,ty,pos,after,g⟩ (.int k (k.wrap (m+n))) :=
 iH hx hy fun w=>by simp [binOp,Op.intArith]
theorem Dx (hx:opv M x=some (.int k m)) (hy:opv M y=some (.int k n)):QS P N F L M ⟨dst,.binOp .sub t x y u,ty,pos,after,g⟩ (.int k (k.wrap (m - n))) :=
 iH hx hy fun w=>by simp [binOp,Op.intArith]
theorem Io (hx:opv M x=some (.int k m)) (hy:opv M y=some (.int k n)):QS P N F L M ⟨dst,.binOp .mul t x y u,ty,pos,after,g⟩ (.int k (k.wrap (m * n))) :=
 iH hx hy fun w=>by simp [binOp,Op.intArith]
theorem Pj (hx:opv M x=some (.int .i64 m)) (hy:opv M y=some (.int .i64 n)) (h:-9223372036854775808≤m+n∧m+n≤9223372036854775807) :
  QS P N F L M ⟨dst,.binOp .add t x y u,ty,pos,after,g⟩ (.int .i64 (m+n)):=by have:=DI (P:=P) (N:=N) (F:=F) (L:=L) (dst:=dst) (ty:=ty) (pos:=pos) (after:=after) (g:=g) (t:=t) (u:=u) hx hy; rwa [IntWalk.i64_in _ h] at this
theorem tn (hx:opv M x=some (.int .i64 m)) (hy:opv M y=some (.int .i64 n)) (h:-9223372036854775808≤m+n∧m+n≤9223372036854775807:=by omega):QS P N F L M ⟨dst,.binOp .add t x y u,ty,pos,after,g⟩ (.int .i64 (m+n)):=Pj hx hy h
theorem Pd (hx:opv M x=some (.int .i64 m)) (hy:opv M y=some (.int .i64 n)) (h:-9223372036854775808≤m - n∧m - n≤9223372036854775807) :
  QS P N F L M ⟨dst,.binOp .sub t x y u,ty,pos,after,g⟩ (.int .i64 (m - n)):=by have:=Dx (P:=P) (N:=N) (F:=F) (L:=L) (dst:=dst) (ty:=ty) (pos:=pos) (after:=after) (g:=g) (t:=t) (u:=u) hx hy; rwa [IntWalk.i64_in _ h] at this
theorem yc (hx:opv M x=some (.int .i64 m)) (hy:opv M y=some (.int .i64 n)) (h:-9223372036854775808≤m - n∧m - n≤9223372036854775807:=by omega):QS P N F L M ⟨dst,.binOp .sub t x y u,ty,pos,after,g⟩ (.int .i64 (m - n)):=Pd hx hy h
theorem gw (hx:opv M x=some (.int .i64 m)) (hy:opv M y=some (.int .i64 n)) (h:-9223372036854775808≤m * n∧m * n≤9223372036854775807) :
  QS P N F L M ⟨dst,.binOp .mul t x y u,ty,pos,after,g⟩ (.int .i64 (m * n)):=by have:=Io (P:=P) (N:=N) (F:=F) (L:=L) (dst:=dst) (ty:=ty) (pos:=pos) (after:=after) (g:=g) (t:=t) (u:=u) hx hy; rwa [IntWalk.i64_in _ h] at this
theorem rf (hx:opv M x=some (.int .u64 m)) (hy:opv M y=some (.int .u64 n)) (h:0≤m+n∧m+n≤18446744073709551615) :
  QS P N F L M ⟨dst,.binOp .add t x y u,ty,pos,after,g⟩ (.int .u64 (m+n)):=by have:=DI (P:=P) (N:=N) (F:=F) (L:=L) (dst:=dst) (ty:=ty) (pos:=pos) (after:=after) (g:=g) (t:=t) (u:=u) hx hy; rwa [IntWalk.u64_in _ h] at this
theorem Jh (hx:opv M x=some (.int .u64 m)) (hy:opv M y=some (.int .u64 n)) (h:0≤m - n∧m - n≤18446744073709551615) :
  QS P N F L M ⟨dst,.binOp .sub t x y u,ty,pos,after,g⟩ (.int .u64 (m - n)):=by have:=Dx (P:=P) (N:=N) (F:=F) (L:=L) (dst:=dst) (ty:=ty) (pos:=pos) (after:=after) (g:=g) (t:=t) (u:=u) hx hy; rwa [IntWalk.u64_in _ h] at this
theorem Jl (hx:opv M x=some (.int .u64 m)) (hy:opv M y=some (.int .u64 n)) (h:0≤m * n∧m * n≤18446744073709551615) :
  QS P N F L M ⟨dst,.binOp .mul t x y u,ty,pos,after,g⟩ (.int .u64 (m * n)):=by have:=Io (P:=P) (N:=N) (F:=F) (L:=L) (dst:=dst) (ty:=ty) (pos:=pos) (after:=after) (g:=g) (t:=t) (u:=u) hx hy; rwa [IntWalk.u64_in _ h] at this
theorem kY (hx:opv M x=some (.int .i64 m)) (hy:opv M y=some (.int .i64 n)) (h:0≤m∧m≤9223372036854775807∧1≤n) :
  QS P N F L M ⟨dst,.binOp .quo t x y u,ty,pos,after,g⟩ (.int .i64 (m / n)) :=
 iH hx hy fun w=>by
  have hn:n≠0:=by omega
  have:=IntWalk.i64_quo m n h
  simp [binOp,Op.intDiv,hn,this]
theorem Pe (hx:opv M x=some (.int .u64 m)) (hy:opv M y=some (.int .u64 n)) (h:0≤m∧m≤18446744073709551615∧1≤n) :
  QS P N F L M ⟨dst,.binOp .quo t x y u,ty,pos,after,g⟩ (.int .u64 (m / n)) :=
 iH hx hy fun w=>by
  have hn:n≠0:=by omega
  have:=IntWalk.u64_quo m n h
  simp [binOp,Op.intDiv,hn,this]
theorem vf (hx:opv M x=some (.int k m)) (hy:opv M y=some (.int k n)) (h:0≤m∧1≤n) :
  QS P N F L M ⟨dst,.binOp .rem t x y u,ty,pos,after,g⟩ (.int k (m % n)) :=
 iH hx hy fun w=>by
  have hn:n≠0:=by omega
  have:=Int.tmod_eq_emod_of_nonneg (a:=m) (b:=n) h.1
  simp [binOp,Op.intDiv,hn,this]
theorem wq {k':IntKind} (hx:opv M x=some (.int k m)) (hy:opv M y=some (.int k' n)) (h:0≤n) :
  QS P N F L M ⟨dst,.binOp .shr t x y u,ty,pos,after,g⟩ (.int k (m.fdiv (2 ^ (min n.toNat k.bits)))) :=
 iH hx hy fun w=>by
  have:¬ n<0:=by omega
  simp [binOp,Op.shift,this]
theorem Im {k':IntKind} (hx:opv M x=some (.int k m)) (hy:opv M y=some (.int k' n)) (h:0≤n) :
  QS P N F L M ⟨dst,.binOp .shl t x y u,ty,pos,after,g⟩ (.int k (k.wrap (m * 2 ^ (min n.toNat k.bits)))) :=
 iH hx hy fun w=>by
  have:¬ n<0:=by omega
  simp [binOp,Op.shift,this]
theorem DG (hx:opv M x=some (.int k m)) (hy:opv M y=some (.int k n)) :
  QS P N F L M ⟨dst,.binOp .and t x y u,ty,pos,after,g⟩ (.int k (k.wrap (BitVec.ofInt k.bits m &&& BitVec.ofInt k.bits n).toNat)) :=
 iH hx hy fun w=>by simp [binOp,Op.intBits]
theorem QB (hx:opv M x=some (.int k m)) (hy:opv M y=some (.int k n)) :
  QS P N F L M ⟨dst,.binOp .or t x y u,ty,pos,after,g⟩ (.int k (k.wrap (BitVec.ofInt k.bits m ||| BitVec.ofInt k.bits n).toNat)) :=
 iH hx hy fun w=>by simp [binOp,Op.intBits]
theorem NK (hx:opv M x=some (.int k m)) (hy:opv M y=some (.int k n)) :
  QS P N F L M ⟨dst,.binOp .xor t x y u,ty,pos,after,g⟩ (.int k (k.wrap (BitVec.ofInt k.bits m ^^^ BitVec.ofInt k.bits n).toNat)) :=
 iH hx hy fun w=>by simp [binOp,Op.intBits]
end
section
variable {x y:Operand} {t u:TypeId} {m n:UInt32}
theorem NW (z:Int):IntKind.u32.wrap z=((UInt32.ofNat (z % 4294967296).toNat).toNat:Int):=by
 rw [IntKind.wrap_u32]
 simp [UInt32.toNat_ofNat']
 omega
theorem Pv (z:Int):IntKind.u8.wrap z=((UInt8.ofNat (z % 256).toNat).toNat:Int):=by
 rw [IntKind.wrap_u8]
 simp [UInt8.toNat_ofNat']
 omega
theorem ql (hx:opv M x=some (.int .u32 m.toNat)) (hy:opv M y=some (.int .u32 n.toNat)):QS P N F L M ⟨dst,.binOp .lss t x y u,ty,pos,after,g⟩ (.bool (decide (m<n))):=by
 have:=su (P:=P) (N:=N) (F:=F) (L:=L) (dst:=dst) (ty:=ty) (pos:=pos) (after:=after) (g:=g) (t:=t) (u:=u) hx hy
 simpa [UInt32.lt_iff_toNat_lt] using this
theorem qn (hx:opv M x=some (.int .u32 m.toNat)) (hy:opv M y=some (.int .u32 n.toNat)):QS P N F L M ⟨dst,.binOp .leq t x y u,ty,pos,after,g⟩ (.bool (decide (m≤n))):=by
 have:=Ab (P:=P) (N:=N) (F:=F) (L:=L) (dst:=dst) (ty:=ty) (pos:=pos) (after:=after) (g:=g) (t:=t) (u:=u) hx hy
 simpa [UInt32.le_iff_toNat_le] using this
theorem m6 (hx:opv M x=some (.int .u32 m.toNat)) (hy:opv M y=some (.int .u32 n.toNat)):QS P N F L M ⟨dst,.binOp .gtr t x y u,ty,pos,after,g⟩ (.bool (decide (n<m))):=by
 have:=t8 (P:=P) (N:=N) (F:=F) (L:=L) (dst:=dst) (ty:=ty) (pos:=pos) (after:=after) (g:=g) (t:=t) (u:=u) hx hy
 simpa [UInt32.lt_iff_toNat_lt] using this
theorem jA (hx:opv M x=some (.int .u32 m.toNat)) (hy:opv M y=some (.int .u32 n.toNat)):QS P N F L M ⟨dst,.binOp .geq t x y u,ty,pos,after,g⟩ (.bool (decide (n≤m))):=by
 have:=wx (P:=P) (N:=N) (F:=F) (L:=L) (dst:=dst) (ty:=ty) (pos:=pos) (after:=after) (g:=g) (t:=t) (u:=u) hx hy
 simpa [UInt32.le_iff_toNat_le] using this
theorem dq (hx:opv M x=some (.int .u32 m.toNat)) (hy:opv M y=some (.int .u32 n.toNat)):QS P N F L M ⟨dst,.binOp .eql t x y u,ty,pos,after,g⟩ (.bool (decide (m=n))):=by
 have:=kG (P:=P) (N:=N) (F:=F) (L:=L) (dst:=dst) (ty:=ty) (pos:=pos) (after:=after) (g:=g) (t:=t) (u:=u) hx hy
 rwa [decide_eq_decide.2 (show ((m.toNat:Int)=n.toNat)↔m=n by rw [Int.natCast_inj,UInt32.toNat_inj])] at this
theorem jz (hx:opv M x=some (.int .u32 m.toNat)) (hy:opv M y=some (.int .u32 n.toNat)):QS P N F L M ⟨dst,.binOp .neq t x y u,ty,pos,after,g⟩ (.bool (decide (m≠n))):=by
 have:=wu (P:=P) (N:=N) (F:=F) (L:=L) (dst:=dst) (ty:=ty) (pos:=pos) (after:=after) (g:=g) (t:=t) (u:=u) hx hy
 rwa [decide_eq_decide.2 (show ((m.toNat:Int)≠n.toNat)↔m≠n by rw [ne_eq,Int.natCast_inj,UInt32.toNat_inj])] at this
theorem gl (hx:opv M x=some (.int .u32 m.toNat)) (hy:opv M y=some (.int .u32 n.toNat)):QS P N F L M ⟨dst,.binOp .add t x y u,ty,pos,after,g⟩ (.int .u32 (m+n).toNat):=by
 have:=DI (P:=P) (N:=N) (F:=F) (L:=L) (dst:=dst) (ty:=ty) (pos:=pos) (after:=after) (g:=g) (t:=t) (u:=u) hx hy
 rw [IntKind.wrap_u32] at this
 rw [UInt32.toNat_add]
 simpa using this
theorem gK (hx:opv M x=some (.int .u32 m.toNat)) (hy:opv M y=some (.int .u32 n.toNat)):QS P N F L M ⟨dst,.binOp .sub t x y u,ty,pos,after,g⟩ (.int .u32 (m - n).toNat):=by
 have:=Dx (P:=P) (N:=N) (F:=F) (L:=L) (dst:=dst) (ty:=ty) (pos:=pos) (after:=after) (g:=g) (t:=t) (u:=u) hx hy
 have e:IntKind.u32.wrap ((m.toNat:Int) - n.toNat)=((m - n).toNat:Int):=by
  rw [IntKind.wrap_u32,UInt32.toNat_sub]
  have:=m.toNat_lt; have:=n.toNat_lt
  omega
 rwa [e] at this
theorem oq (hx:opv M x=some (.int .u32 m.toNat)) (hy:opv M y=some (.int .u32 n.toNat)):QS P N F L M ⟨dst,.binOp .mul t x y u,ty,pos,after,g⟩ (.int .u32 (m * n).toNat):=by
 have:=Io (P:=P) (N:=N) (F:=F) (L:=L) (dst:=dst) (ty:=ty) (pos:=pos) (after:=after) (g:=g) (t:=t) (u:=u) hx hy
 rw [IntKind.wrap_u32] at this
 rw [UInt32.toNat_mul]
 simpa using this
theorem qp (hx:opv M x=some (.int .u32 m.toNat)) (hy:opv M y=some (.int .u32 n.toNat)):QS P N F L M ⟨dst,.binOp .and t x y u,ty,pos,after,g⟩ (.int .u32 (m &&& n).toNat):=by
 have:=DG (P:=P) (N:=N) (F:=F) (L:=L) (dst:=dst) (ty:=ty) (pos:=pos) (after:=after) (g:=g) (t:=t) (u:=u) hx hy
 have e:IntKind.u32.wrap ((BitVec.ofInt IntKind.u32.bits m.toNat &&& BitVec.ofInt IntKind.u32.bits n.toNat).toNat:Int)=((m &&& n).toNat:Int):=by
  have h1:BitVec.ofInt 32 (m.toNat:Int)=m.toBitVec:=by simp
  have h2:BitVec.ofInt 32 (n.toNat:Int)=n.toBitVec:=by simp
  show IntKind.u32.wrap ((BitVec.ofInt 32 m.toNat &&& BitVec.ofInt 32 n.toNat).toNat:Int)=_
  rw [h1,h2,IntKind.wrap_u32]
  have:=(m &&& n).toNat_lt
  show ((m &&& n).toNat:Int) % 4294967296=_
  omega
 rwa [e] at this
theorem sU (hx:opv M x=some (.int .u32 m.toNat)) (hy:opv M y=some (.int .u32 n.toNat)):QS P N F L M ⟨dst,.binOp .or t x y u,ty,pos,after,g⟩ (.int .u32 (m ||| n).toNat):=by
 have:=QB (P:=P) (N:=N) (F:=F) (L:=L) (dst:=dst) (ty:=ty) (pos:=pos) (after:=after) (g:=g) (t:=t) (u:=u) hx hy
 have e:IntKind.u32.wrap ((BitVec.ofInt IntKind.u32.bits m.toNat ||| BitVec.ofInt IntKind.u32.bits n.toNat).toNat:Int)=((m ||| n).toNat:Int):=by
  have h1:BitVec.ofInt 32 (m.toNat:Int)=m.toBitVec:=by simp
  have h2:BitVec.ofInt 32 (n.toNat:Int)=n.toBitVec:=by simp
  show IntKind.u32.wrap ((BitVec.ofInt 32 m.toNat ||| BitVec.ofInt 32 n.toNat).toNat:Int)=_
  rw [h1,h2,IntKind.wrap_u32]
  have:=(m ||| n).toNat_lt
  show ((m ||| n).toNat:Int) % 4294967296=_
  omega
 rwa [e] at this
theorem Gx (hx:opv M x=some (.int .u32 m.toNat)) (hy:opv M y=some (.int .u32 n.toNat)):QS P N F L M ⟨dst,.binOp .xor t x y u,ty,pos,after,g⟩ (.int .u32 (m ^^^ n).toNat):=by
 have:=NK (P:=P) (N:=N) (F:=F) (L:=L) (dst:=dst) (ty:=ty) (pos:=pos) (after:=after) (g:=g) (t:=t) (u:=u) hx hy
 have e:IntKind.u32.wrap ((BitVec.ofInt IntKind.u32.bits m.toNat ^^^ BitVec.ofInt IntKind.u32.bits n.toNat).toNat:Int)=((m ^^^ n).toNat:Int):=by
  have h1:BitVec.ofInt 32 (m.toNat:Int)=m.toBitVec:=by simp
  have h2:BitVec.ofInt 32 (n.toNat:Int)=n.toBitVec:=by simp
  show IntKind.u32.wrap ((BitVec.ofInt 32 m.toNat ^^^ BitVec.ofInt 32 n.toNat).toNat:Int)=_
  rw [h1,h2,IntKind.wrap_u32]
  have:=(m ^^^ n).toNat_lt
  show ((m ^^^ n).toNat:Int) % 4294967296=_
  omega
 rwa [e] at this
def jt (m:UInt32) (n:Nat):UInt32:=⟨m.toBitVec <<< n⟩
def jQ (m:UInt32) (n:Nat):UInt32:=⟨m.toBitVec >>> n⟩
theorem jc (m:UInt32) (n:Nat):(jt m n).toNat=m.toNat * 2 ^ n % 4294967296:=by
 show (m.toBitVec <<< n).toNat=_
 simp [BitVec.toNat_shiftLeft,Nat.shiftLeft_eq]
theorem jb (m:UInt32) (n:Nat):(jQ m n).toNat=m.toNat / 2 ^ n:=by
 show (m.toBitVec >>> n).toNat=_
 simp [BitVec.toNat_ushiftRight,Nat.shiftRight_eq_div_pow]
theorem wL (m c:Nat) (hc:32≤c):m * 2 ^ c % 4294967296=0:=by
 obtain ⟨d,rfl⟩:=Nat.exists_eq_add_of_le hc
 rw [Nat.pow_add,← Nat.mul_assoc,Nat.mul_right_comm]
 exact Nat.mul_mod_left _ _
theorem lY {k':IntKind} {c:Int} (hx:opv M x=some (.int .u32 m.toNat)) (hy:opv M y=some (.int k' c)) (h:0≤c) :
  QS P N F L M ⟨dst,.binOp .shl t x y u,ty,pos,after,g⟩ (.int .u32 (HL.jt m c.toNat).toNat):=by
 have:=Im (P:=P) (N:=N) (F:=F) (L:=L) (dst:=dst) (ty:=ty) (pos:=pos) (after:=after) (g:=g) (t:=t) (u:=u) hx hy h
 have e:IntKind.u32.wrap ((m.toNat:Int) * 2 ^ (min c.toNat IntKind.u32.bits))=((HL.jt m c.toNat).toNat:Int):=by
  rw [IntKind.wrap_u32,jc]
  have h1:((m.toNat:Int) * 2 ^ (min c.toNat IntKind.u32.bits))=((m.toNat * 2 ^ (min c.toNat 32):Nat):Int):=by
   rw [Int.natCast_mul,Int.natCast_pow]; rfl
  rw [h1]
  by_cases hc:c.toNat≤32
  ·rw [Nat.min_eq_left hc]; rfl
  ·rw [Nat.min_eq_right (by omega)]
   have h2:=wL m.toNat 32 (by omega)
   have h3:=wL m.toNat c.toNat (by omega)
   omega
 rwa [e] at this
theorem NQ {k':IntKind} {c:Int} (hx:opv M x=some (.int .u32 m.toNat)) (hy:opv M y=some (.int k' c)) (h:0≤c) :
  QS P N F L M ⟨dst,.binOp .shr t x y u,ty,pos,after,g⟩ (.int .u32 (HL.jQ m c.toNat).toNat):=by
 have:=wq (P:=P) (N:=N) (F:=F) (L:=L) (dst:=dst) (ty:=ty) (pos:=pos) (after:=after) (g:=g) (t:=t) (u:=u) hx hy h
 have e:(m.toNat:Int).fdiv (2 ^ (min c.toNat IntKind.u32.bits))=((HL.jQ m c.toNat).toNat:Int):=by
  rw [jb]
  have h1:((2:Int) ^ (min c.toNat IntKind.u32.bits))=((2 ^ (min c.toNat 32):Nat):Int):=by rw [Int.natCast_pow]; rfl
  rw [h1,Int.fdiv_eq_ediv_of_nonneg _ (Int.natCast_nonneg _)]
  by_cases hc:c.toNat≤32
  ·rw [Nat.min_eq_left hc]; rfl
  ·rw [Nat.min_eq_right (by omega)]
   have h4:=m.toNat_lt
   have h5:m.toNat / 2 ^ 32=0:=Nat.div_eq_of_lt h4
   have h6:m.toNat / 2 ^ c.toNat=0:=Nat.div_eq_of_lt (Nat.lt_of_lt_of_le h4 (Nat.pow_le_pow_right (by omega) (by omega)))
   rw [h6,← Int.natCast_ediv,h5]
 rwa [e] at this
theorem m5 (hx:opv M x=some (.int .u32 m.toNat)) (hy:opv M y=some (.int .u32 n.toNat)) (h:n≠0):QS P N F L M ⟨dst,.binOp .quo t x y u,ty,pos,after,g⟩ (.int .u32 (m / n).toNat) :=
 iH hx hy fun w=>by
  have h0:n.toNat≠0:=fun e=>h (by rw [← UInt32.toNat_inj]; simpa using e)
  have hn:(n.toNat:Int)≠0:=by omega
  have h1:=m.toNat_lt
  have:=IntWalk.u32_quo m.toNat n.toNat ⟨by omega,by omega,by omega⟩
  rw [UInt32.toNat_div,Int.natCast_ediv,← this]
  simp only [binOp,Op.intDiv,hn,if_false]
  rfl
theorem NR (hx:opv M x=some (.int .u32 m.toNat)) (hy:opv M y=some (.int .u32 n.toNat)) (h:n≠0):QS P N F L M ⟨dst,.binOp .rem t x y u,ty,pos,after,g⟩ (.int .u32 (m % n).toNat) :=
 iH hx hy fun w=>by
  have h0:n.toNat≠0:=fun e=>h (by rw [← UInt32.toNat_inj]; simpa using e)
  have hn:(n.toNat:Int)≠0:=by omega
  have:=Int.tmod_eq_emod_of_nonneg (a:=(m.toNat:Int)) (b:=n.toNat) (by omega)
  rw [UInt32.toNat_mod,Int.natCast_emod,← this]
  simp only [binOp,Op.intDiv,hn,if_false]
  rfl
theorem pd (hx:opv M x=some (.int .u32 m.toNat)) (hy:opv M y=some (.int .u32 n.toNat)) (h:n≠0:=by first|decide|assumption):QS P N F L M ⟨dst,.binOp .rem t x y u,ty,pos,after,g⟩ (.int .u32 (m % n).toNat):=NR hx hy h
end
section
variable {x y:Operand} {t u:TypeId} {m n:UInt8}
theorem rb (hx:opv M x=some (.int .u8 m.toNat)) (hy:opv M y=some (.int .u8 n.toNat)):QS P N F L M ⟨dst,.binOp .lss t x y u,ty,pos,after,g⟩ (.bool (decide (m<n))):=by
 have:=su (P:=P) (N:=N) (F:=F) (L:=L) (dst:=dst) (ty:=ty) (pos:=pos) (after:=after) (g:=g) (t:=t) (u:=u) hx hy
 simpa [UInt8.lt_iff_toNat_lt] using this
theorem DC (hx:opv M x=some (.int .u8 m.toNat)) (hy:opv M y=some (.int .u8 n.toNat)):QS P N F L M ⟨dst,.binOp .leq t x y u,ty,pos,after,g⟩ (.bool (decide (m≤n))):=by
 have:=Ab (P:=P) (N:=N) (F:=F) (L:=L) (dst:=dst) (ty:=ty) (pos:=pos) (after:=after) (g:=g) (t:=t) (u:=u) hx hy
 simpa [UInt8.le_iff_toNat_le] using this
theorem xZ (hx:opv M x=some (.int .u8 m.toNat)) (hy:opv M y=some (.int .u8 n.toNat)):QS P N F L M ⟨dst,.binOp .gtr t x y u,ty,pos,after,g⟩ (.bool (decide (n<m))):=by
 have:=t8 (P:=P) (N:=N) (F:=F) (L:=L) (dst:=dst) (ty:=ty) (pos:=pos) (after:=after) (g:=g) (t:=t) (u:=u) hx hy
 simpa [UInt8.lt_iff_toNat_lt] using this
theorem ya (hx:opv M x=some (.int .u8 m.toNat)) (hy:opv M y=some (.int .u8 n.toNat)):QS P N F L M ⟨dst,.binOp .geq t x y u,ty,pos,after,g⟩ (.bool (decide (n≤m))):=by
 have:=wx (P:=P) (N:=N) (F:=F) (L:=L) (dst:=dst) (ty:=ty) (pos:=pos) (after:=after) (g:=g) (t:=t) (u:=u) hx hy
 simpa [UInt8.le_iff_toNat_le] using this
theorem Pi (hx:opv M x=some (.int .u8 m.toNat)) (hy:opv M y=some (.int .u8 n.toNat)):QS P N F L M ⟨dst,.binOp .eql t x y u,ty,pos,after,g⟩ (.bool (decide (m=n))):=by
 have:=kG (P:=P) (N:=N) (F:=F) (L:=L) (dst:=dst) (ty:=ty) (pos:=pos) (after:=after) (g:=g) (t:=t) (u:=u) hx hy
 rwa [decide_eq_decide.2 (show ((m.toNat:Int)=n.toNat)↔m=n by rw [Int.natCast_inj,UInt8.toNat_inj])] at this
theorem vg (hx:opv M x=some (.int .u8 m.toNat)) (hy:opv M y=some (.int .u8 n.toNat)):QS P N F L M ⟨dst,.binOp .neq t x y u,ty,pos,after,g⟩ (.bool (decide (m≠n))):=by
 have:=wu (P:=P) (N:=N) (F:=F) (L:=L) (dst:=dst) (ty:=ty) (pos:=pos) (after:=after) (g:=g) (t:=t) (u:=u) hx hy
 rwa [decide_eq_decide.2 (show ((m.toNat:Int)≠n.toNat)↔m≠n by rw [ne_eq,Int.natCast_inj,UInt8.toNat_inj])] at this
theorem mM (hx:opv M x=some (.int .u8 m.toNat)) (hy:opv M y=some (.int .u8 n.toNat)):QS P N F L M ⟨dst,.binOp .add t x y u,ty,pos,after,g⟩ (.int .u8 (m+n).toNat):=by
 have:=DI (P:=P) (N:=N) (F:=F) (L:=L) (dst:=dst) (ty:=ty) (pos:=pos) (after:=after) (g:=g) (t:=t) (u:=u) hx hy
 rw [IntKind.wrap_u8] at this
 rw [UInt8.toNat_add]
 simpa using this
theorem Ji (hx:opv M x=some (.int .u8 m.toNat)) (hy:opv M y=some (.int .u8 n.toNat)):QS P N F L M ⟨dst,.binOp .sub t x y u,ty,pos,after,g⟩ (.int .u8 (m - n).toNat):=by
 have:=Dx (P:=P) (N:=N) (F:=F) (L:=L) (dst:=dst) (ty:=ty) (pos:=pos) (after:=after) (g:=g) (t:=t) (u:=u) hx hy
 have e:IntKind.u8.wrap ((m.toNat:Int) - n.toNat)=((m - n).toNat:Int):=by
  rw [IntKind.wrap_u8,UInt8.toNat_sub]
  have:=m.toNat_lt; have:=n.toNat_lt
  omega
 rwa [e] at this
end
section
variable {x:Operand} {s d:TypeId} {ds:TypeDesc}
theorem mn {k k':IntKind} {n:Int} (hx:opv M x=some (.int k n)) (hs:P.underlying s=some ds) (hd:P.underlying d=some (.int k')) :
  QS P N F L M ⟨dst,.convert s d x,ty,pos,after,g⟩ (.int k' (k'.wrap n)) :=
 bQ fun a w ha _=>by
  simp [execOp,ha.eval hx,convert,run_underlying hs,run_underlying hd,Conv.intToInt]
theorem eO {k k':IntKind} {n:Int} (hx:opv M x=some (.int k n)) (hs:P.underlying s=some ds) (hd:P.underlying d=some (.int k')) (h:k'.wrap n=n) :
  QS P N F L M ⟨dst,.convert s d x,ty,pos,after,g⟩ (.int k' n):=by
 have:=mn (N:=N) (F:=F) (L:=L) (dst:=dst) (ty:=ty) (pos:=pos) (after:=after) (g:=g) hx hs hd
 rwa [h] at this
theorem dW {n:UInt8} (hx:opv M x=some (.int .u8 n.toNat)) (hs:P.underlying s=some ds) (hd:P.underlying d=some (.int .u32)) :
  QS P N F L M ⟨dst,.convert s d x,ty,pos,after,g⟩ (.int .u32 n.toUInt32.toNat):=by
 have:=mn (N:=N) (F:=F) (L:=L) (dst:=dst) (ty:=ty) (pos:=pos) (after:=after) (g:=g) hx hs hd
 have h:=n.toNat_lt
 rw [IntWalk.u32_in _ (by omega)] at this
 rwa [UInt8.toNat_toUInt32]
theorem jj {n:UInt32} (hx:opv M x=some (.int .u32 n.toNat)) (hs:P.underlying s=some ds) (hd:P.underlying d=some (.int .u8)) :
  QS P N F L M ⟨dst,.convert s d x,ty,pos,after,g⟩ (.int .u8 n.toUInt8.toNat):=by
 have:=mn (N:=N) (F:=F) (L:=L) (dst:=dst) (ty:=ty) (pos:=pos) (after:=after) (g:=g) hx hs hd
 rw [IntKind.wrap_u8] at this
 rw [UInt32.toNat_toUInt8]
 simpa using this
theorem dh {n:UInt8} (hx:opv M x=some (.int .u8 n.toNat)) (hs:P.underlying s=some ds) (hd:P.underlying d=some (.int .i64)) :
  QS P N F L M ⟨dst,.convert s d x,ty,pos,after,g⟩ (.int .i64 n.toNat):=by
 have h:=n.toNat_lt
 exact eO hx hs hd (IntWalk.i64_in _ (by omega))
theorem aO {n:UInt32} (hx:opv M x=some (.int .u32 n.toNat)) (hs:P.underlying s=some ds) (hd:P.underlying d=some (.int .i64)) :
  QS P N F L M ⟨dst,.convert s d x,ty,pos,after,g⟩ (.int .i64 n.toNat):=by
 have h:=n.toNat_lt
 exact eO hx hs hd (IntWalk.i64_in _ (by omega))
theorem dL {n:UInt32} (hx:opv M x=some (.int .u32 n.toNat)) (hs:P.underlying s=some ds) (hd:P.underlying d=some (.int .u64)) :
  QS P N F L M ⟨dst,.convert s d x,ty,pos,after,g⟩ (.int .u64 n.toNat):=by
 have h:=n.toNat_lt
 exact eO hx hs hd (IntWalk.u64_in _ (by omega))
def u32 (n:Int):UInt32:=UInt32.ofNat (n % 4294967296).toNat
def u8 (n:Int):UInt8:=UInt8.ofNat (n % 256).toNat
theorem nB (n:Int):((u32 n).toNat:Int)=n % 4294967296:=by simp [u32,UInt32.toNat_ofNat']; omega
theorem DY (n:Int):((u8 n).toNat:Int)=n % 256:=by simp [u8,UInt8.toNat_ofNat']; omega
theorem eJ {k:IntKind} {n:Int} (hx:opv M x=some (.int k n)) (hs:P.underlying s=some ds) (hd:P.underlying d=some (.int .u32)) :
  QS P N F L M ⟨dst,.convert s d x,ty,pos,after,g⟩ (.int .u32 (u32 n).toNat):=by
 have:=mn (N:=N) (F:=F) (L:=L) (dst:=dst) (ty:=ty) (pos:=pos) (after:=after) (g:=g) hx hs hd
 rwa [NW] at this
theorem dS {k:IntKind} {n:Int} (hx:opv M x=some (.int k n)) (hs:P.underlying s=some ds) (hd:P.underlying d=some (.int .u8)) :
  QS P N F L M ⟨dst,.convert s d x,ty,pos,after,g⟩ (.int .u8 (u8 n).toNat):=by
 have:=mn (N:=N) (F:=F) (L:=L) (dst:=dst) (ty:=ty) (pos:=pos) (after:=after) (g:=g) hx hs hd
 rwa [Pv] at this
end
theorem Jn {f:FuncId} {xs:List Operand} {vs:List Value} {ts:Array TypeId} {v:Value} (hx:l3 M xs=some vs)
  (he:∀ (args:Array Value) (w:World),(callFunc f args).run P w=.ok (.enter f args) w)
  (hc:∀ w,HpOK F L w→Calls P f vs.toArray w fun e w'=>e=.returned v∧Ext w w') :
  QS P N F L M ⟨dst,.call { callee:=.value (.func f),args:=xs.toArray,argTypes:=ts },ty,pos,after,g⟩ v:=by
 intro a w ha hw
 have hr:(execOp a.eval ⟨dst,.call { callee:=.value (.func f),args:=xs.toArray,argTypes:=ts },ty,pos,after,g⟩).run P w=.ok (.enter f vs.toArray) w:=by
  have:=ha.evals hx
  simp [execOp,resolve,Deferred.ofValue,Act.eval,invoke,he,this]
 unfold Oper.quietAt
 rw [hr]
 exact ⟨rfl,(hc w hw).mono fun e w' ⟨h1,h2⟩=>⟨h1,hw.grow h2⟩⟩
end
abbrev Hp:=Nat→Option Obj
def hp (w:World):Hp:=fun b=>w.heap[b]?
def Hp.le (h k:Hp):Prop:=∀ b o,h b=some o→k b=some o
structure Enc (α:Type) where
 k:Nat
 enc:α→List Value
 len:∀ x,(enc x).length=k
 one:∀ x,∀ v∈enc x,v.oneCell'=true
def bk:Value→Nat
 | .slice (some a) _ _=>a.block
 | _=>0
def ofs:Value→Nat
 | .slice (some a) _ _=>a.off
 | _=>0
def Pk (h:Hp) (b o:Nat) (vs:List Value):Prop:=∃ cs T fz,h b=some (.cells cs T fz)∧∀ j v,vs[j]?=some v→cs[o+j]?=some v
structure Sl {α:Type} (h:Hp) (E:Enc α) (l:List α) (V:Value):Prop where
 shape:∃ a c,V=.slice a l.length c∧l.length≤c∧c≤maxLen∧(l≠[]→a=some ⟨bk V,ofs V,none⟩)
 cells:∀ i x,l[i]?=some x→Pk h (bk V) (ofs V+i * E.k) (E.enc x)
theorem Sl.mono {α:Type} {h h':Hp} {E:Enc α} {l:List α} {V:Value} (s:Sl h E l V) (hh:Hp.le h h'):Sl h' E l V :=
 ⟨s.shape,fun i x hx=>let ⟨cs,T,fz,hb,hc⟩:=s.cells i x hx; ⟨cs,T,fz,hh _ _ hb,hc⟩⟩
theorem Sl.nil {α:Type} (h:Hp) (E:Enc α):Sl h E ([]:List α) (.slice none 0 0) :=
 ⟨⟨none,0,rfl,Nat.le_refl _,by simp [maxLen],fun e=>absurd rfl e⟩,fun i x hx=>by simp at hx⟩
theorem Sl.len_le {α:Type} {h:Hp} {E:Enc α} {l:List α} {V:Value} (s:Sl h E l V):l.length≤9223372036854775807:=by
 obtain ⟨a,c,_,h1,h2,_⟩:=s.shape
 unfold maxLen at h2; omega
def cellE (b:Nat) (cs:List Value) (T:TypeId):Ent:=⟨some b,fun o=>o=some (.cells cs.toArray T (0,0))⟩
def RowOK {α:Type} (V:Value) (T:TypeId) (E:Enc α) (l:List α) (o:Option Obj):Prop :=
 (V=.slice none 0 0∧l=[]) ∨
 ∃ g cap cur,V=.slice (some ⟨g,0,none⟩) l.length cap∧o=some (.cells cur T (0,0))∧l.length≤cap∧cap≤maxLen∧cap * E.k≤cur.size ∧
  cur.toList.take (l.length * E.k)=l.flatMap E.enc
def rowE {α:Type} (V:Value) (T:TypeId) (E:Enc α) (l:List α):Ent:=⟨V.ownBlock,RowOK V T E l⟩
theorem de {α:Type} (E:Enc α) (l:List α):(l.flatMap E.enc).length=l.length * E.k:=by
 induction l with
 | nil=>simp
 | cons x l ih=>simp [List.flatMap_cons,E.len,ih,Nat.add_mul,Nat.add_comm]
theorem oO {α:Type} (E:Enc α):∀ (l:List α) (i:Nat) (x:α),l[i]?=some x→∀ j v,(E.enc x)[j]?=some v→(l.flatMap E.enc)[i * E.k+j]?=some v
 | [],i,x,h,_,_,_=>by simp at h
 | y :: l,0,x,h,j,v,hv=>by
  simp only [List.getElem?_cons_zero,Option.some.injEq] at h
  subst h
  have hj:j<(E.enc y).length:=(List.getElem?_eq_some_iff.1 hv).1
  simp only [List.flatMap_cons,Nat.zero_mul,Nat.zero_add]
  rw [List.getElem?_append_left hj]; exact hv
 | y :: l,i+1,x,h,j,v,hv=>by
  simp only [List.getElem?_cons_succ] at h
  have ih:=oO E l i x h j v hv
  simp only [List.flatMap_cons]
  have hl:(E.enc y).length=E.k:=E.len y
  rw [List.getElem?_append_right (by rw [hl,Nat.add_mul]; omega)]
  rw [hl,show (i+1) * E.k+j - E.k=i * E.k+j by rw [Nat.add_mul]; omega]
  exact ih
theorem RowOK.sl {α:Type} {V:Value} {T:TypeId} {E:Enc α} {l:List α} {h:Hp} (r:RowOK V T E l (V.ownBlock.bind h)):Sl h E l V:=by
 rcases r with ⟨rfl,rfl⟩|⟨g,cap,cur,rfl,ho,h1,h2,h3,h4⟩
 ·exact Sl.nil h E
 ·refine ⟨⟨some ⟨g,0,none⟩,cap,rfl,h1,h2,fun _=>rfl⟩,fun i x hx=>?_⟩
  refine ⟨cur,T,(0,0),ho,fun j v hv=>?_⟩
  have:=oO E l i x hx j v hv
  rw [← h4,List.getElem?_take] at this
  simp only [bk,ofs,Nat.zero_add]
  split at this
  ·simpa using this
  ·cases this
theorem rowE.sl {α:Type} {V:Value} {T:TypeId} {E:Enc α} {l:List α} {w:World} (r:(rowE V T E l).holds w):Sl (hp w) E l V:=RowOK.sl r
section
variable {P:Program} {ops:Array Oper} {Q:Exit→Act→World→Prop} {N:Nat} {F:Bg} {L:List Ent} {M:Fr} {dst:Option Tmp} {ty:TypeId} {pos:String} {after:Array Edge} {g:Option (Nat × Bool)} {rest:List Oper} {d:Nat}
theorem HpOK.row {α:Type} {V:Value} {T:TypeId} {E:Enc α} {l:List α} {w:World} (h:HpOK F L w) (hm:rowE V T E l∈L):Sl (HL.hp w) E l V:=rowE.sl (h.ent _ hm)
theorem HpOK.slF {α:Type} {V:Value} {E:Enc α} {l:List α} {w:World} (h:HpOK F L w) (s:Sl F.blk E l V):Sl (HL.hp w) E l V:=s.mono h.bg
theorem vh {x:Operand} {a:Option Addr} {n c:Nat} {t e:TypeId} {V:Value} (hx:opv M x=some V) (hV:∀ w,HpOK F L w→∃ a c,V=.slice a n c) (ht:P.underlying t=some (.slice e)) :
  QS P N F L M ⟨dst,.call { callee:=.builtin .len,args:=#[x],argTypes:=#[t] },ty,pos,after,g⟩ (.int .i64 n) :=
 bQ fun A w ha hw=>by
  obtain ⟨a,c,rfl⟩:=hV w hw
  simp [execOp,resolve,invoke,builtin,Builtin.len_,ha.eval hx,run_underlying ht,goInt]
theorem NS {α:Type} {E:Enc α} {l:List α} {x:Operand} {t e:TypeId} {V:Value} (hx:opv M x=some V) (hs:Sl F.blk E l V) (ht:P.underlying t=some (.slice e)) :
  QS P N F L M ⟨dst,.call { callee:=.builtin .len,args:=#[x],argTypes:=#[t] },ty,pos,after,g⟩ (.int .i64 (l.length:Nat)) :=
 vh (a:=none) (c:=0) hx (fun _ _=>let ⟨a,c,h,_⟩:=hs.shape; ⟨a,c,h⟩) ht
theorem QY {α:Type} {E:Enc α} {l:List α} {x:Operand} {t e:TypeId} {V:Value} (hx:opv M x=some V) (ht:P.underlying t=some (.slice e)) (hs:Sl F.blk E l V:=by assumption):QS P N F L M ⟨dst,.call { callee:=.builtin .len,args:=#[x],argTypes:=#[t] },ty,pos,after,g⟩ (.int .i64 (l.length:Nat)):=NS hx hs ht
theorem B5 {α:Type} {E:Enc α} {l:List α} {x:Operand} {t e T:TypeId} {V:Value} (hx:opv M x=some V) (hs:rowE V T E l∈L) (ht:P.underlying t=some (.slice e)) :
  QS P N F L M ⟨dst,.call { callee:=.builtin .len,args:=#[x],argTypes:=#[t] },ty,pos,after,g⟩ (.int .i64 (l.length:Nat)) :=
 vh (a:=none) (c:=0) hx (fun _ hw=>let ⟨a,c,h,_⟩:=(hw.row hs).shape; ⟨a,c,h⟩) ht
theorem QV {α:Type} {E:Enc α} {l:List α} {x:Operand} {t e T:TypeId} {V:Value} (hx:opv M x=some V) (ht:P.underlying t=some (.slice e)) (hs:rowE V T E l∈L:=by repeat constructor):QS P N F L M ⟨dst,.call { callee:=.builtin .len,args:=#[x],argTypes:=#[t] },ty,pos,after,g⟩ (.int .i64 (l.length:Nat)):=B5 hx hs ht
theorem iZ {x:Operand} {n c:Nat} {a:Option Addr} {t e:TypeId} (hx:opv M x=some (.slice a n c)) (ht:P.underlying t=some (.slice e)) :
  QS P N F L M ⟨dst,.call { callee:=.builtin .len,args:=#[x],argTypes:=#[t] },ty,pos,after,g⟩ (.int .i64 n) :=
 vh (a:=none) (c:=0) hx (fun _ _=>⟨a,c,rfl⟩) ht
theorem qo {x:Operand} {t:TypeId} {s:ByteArray} (hx:opv M x=some (.string s)) (ht:P.underlying t=some .string) :
  QS P N F L M ⟨dst,.call { callee:=.builtin .len,args:=#[x],argTypes:=#[t] },ty,pos,after,g⟩ (.int .i64 (s.size:Nat)) :=
 bQ fun A w ha hw=>by
  simp [execOp,resolve,invoke,builtin,Builtin.len_,ha.eval hx,run_underlying ht,goInt]
theorem sV {x y:Operand} {ts:Array TypeId} {k:IntKind} {m n:Int} (hx:opv M x=some (.int k m)) (hy:opv M y=some (.int k n)) :
  QS P N F L M ⟨dst,.call { callee:=.builtin .min,args:=#[x,y],argTypes:=ts },ty,pos,after,g⟩ (.int k (min m n)) :=
 bQ fun A w ha hw=>by
  have:(if n<m then n else m)=min m n:=by omega
  simp [execOp,resolve,invoke,builtin,ha.eval hx,ha.eval hy,run_min_int2,this]
theorem Pg {x y:Operand} {ts:Array TypeId} {k:IntKind} {m n:Int} (hx:opv M x=some (.int k m)) (hy:opv M y=some (.int k n)) :
  QS P N F L M ⟨dst,.call { callee:=.builtin .max,args:=#[x,y],argTypes:=ts },ty,pos,after,g⟩ (.int k (max m n)) :=
 bQ fun A w ha hw=>by
  have:(if m<n then n else m)=max m n:=by omega
  simp [execOp,resolve,invoke,builtin,ha.eval hx,ha.eval hy,run_max_int2,this]
theorem sn {x y:Operand} {ts:Array TypeId} {m n:UInt32} (hx:opv M x=some (.int .u32 m.toNat)) (hy:opv M y=some (.int .u32 n.toNat)) :
  QS P N F L M ⟨dst,.call { callee:=.builtin .min,args:=#[x,y],argTypes:=ts },ty,pos,after,g⟩ (.int .u32 (if n<m then n else m).toNat):=by
 have:=sV (P:=P) (N:=N) (F:=F) (L:=L) (dst:=dst) (ty:=ty) (pos:=pos) (after:=after) (g:=g) (ts:=ts) hx hy
 have e:min (m.toNat:Int) n.toNat=((if n<m then n else m).toNat:Int):=by
  split<;>rename_i h<;>rw [UInt32.lt_iff_toNat_lt] at h<;>omega
 rwa [e] at this
theorem sq {x y:Operand} {ts:Array TypeId} {m n:UInt32} (hx:opv M x=some (.int .u32 m.toNat)) (hy:opv M y=some (.int .u32 n.toNat)) :
  QS P N F L M ⟨dst,.call { callee:=.builtin .max,args:=#[x,y],argTypes:=ts },ty,pos,after,g⟩ (.int .u32 (if m<n then n else m).toNat):=by
 have:=Pg (P:=P) (N:=N) (F:=F) (L:=L) (dst:=dst) (ty:=ty) (pos:=pos) (after:=after) (g:=g) (ts:=ts) hx hy
 have e:max (m.toNat:Int) n.toNat=((if m<n then n else m).toNat:Int):=by
  split<;>rename_i h<;>rw [UInt32.lt_iff_toNat_lt] at h<;>omega
 rwa [e] at this
theorem vj {x:Operand} {s ft:TypeId} {f b o off k:Nat} {fs:Array Field} (hx:opv M x=some (.pointer (some ⟨b,o,none⟩))) (hs:P.underlying s=some (.struct fs))
  (hf:(fs[f]?).map (·.offset)=some off) (ht:(fs[f]?).map (·.type)=some ft) (hz:∀ w,(sizeOf ft).run P w=.ok k w) (hk:k≠0) :
  QS P N F L M ⟨dst,.fieldAddr s x f,ty,pos,after,g⟩ (.pointer (some ⟨b,o+off,none⟩)) :=
 bQ fun A w ha hw=>by
  cases hfe:fs[f]? with
  | none=>simp [hfe] at hf
  | some fd =>
   simp only [hfe,Option.map_some,Option.some.injEq] at hf ht
   simp [execOp,ha.eval hx,Instr.fieldAt,run_underlying hs,hfe,Instr.sureAddr,fieldPlace,ht,hz,hk,hf,Addr.add_lit]
theorem zz2 {x:Operand} {s ft:TypeId} {f b o off k:Nat} {fs:Array Field} (hx:opv M x=some (.pointer (some ⟨b,o,none⟩))) (hs:P.underlying s=some (.struct fs)) (hf:(fs[f]?).map (·.offset)=some off) (hz:∀ w,(sizeOf ft).run P w=.ok k w) (ht:(fs[f]?).map (·.type)=some ft:=by rfl) (hk:k≠0:=by decide):QS P N F L M ⟨dst,.fieldAddr s x f,ty,pos,after,g⟩ (.pointer (some ⟨b,o+off,none⟩)):=vj hx hs hf ht hz hk
theorem oM {t e:TypeId} {V:Value} {a:Option Addr} {n c k:Nat} {kk:IntKind} {i:Int} (ht:P.underlying t=some (.slice e)) (hz:∀ w,(sizeOf e).run P w=.ok k w) (w:World)
  (hi:0≤i∧i<n) (b o:Nat) (ha:a=some ⟨b,o,none⟩):(Instr.indexAt t (.slice a n c) (.int kk i)).run P w=.ok (.pointer (some ⟨b,o+i.toNat * k,none⟩)) w:=by
 subst ha
 simp [Instr.indexAt,asIntOf,run_underlying ht,hz,hi.1,hi.2,Addr.add_lit]
theorem Ir {α:Type} {E:Enc α} {l:List α} {x y:Operand} {t e:TypeId} {V:Value} {k:Nat} {kk:IntKind} {i:Int} (hx:opv M x=some V) (hy:opv M y=some (.int kk i)) (hs:Sl F.blk E l V)
  (ht:P.underlying t=some (.slice e)) (hz:∀ w,(sizeOf e).run P w=.ok k w) (hk:k=E.k) (hi:0≤i∧i<l.length) :
  QS P N F L M ⟨dst,.indexAddr t x y,ty,pos,after,g⟩ (.pointer (some ⟨bk V,ofs V+i.toNat * E.k,none⟩)) :=
 bQ fun A w ha hw=>by
  obtain ⟨a,c,hV,_,_,hne⟩:=hs.shape
  have h1:=hne (by intro h; subst h; simp at hi; omega)
  have:=oM (V:=V) (c:=c) (kk:=kk) ht hz w hi _ _ h1
  rw [← hV] at this
  subst hk
  simp [execOp,ha.eval hx,ha.eval hy,this]
theorem Q0 {α:Type} {E:Enc α} {l:List α} {x y:Operand} {t e:TypeId} {V:Value} {k:Nat} {kk:IntKind} {i:Int} (hx:opv M x=some V) (hy:opv M y=some (.int kk i)) (ht:P.underlying t=some (.slice e)) (hz:∀ w,(sizeOf e).run P w=.ok k w) (hs:Sl F.blk E l V:=by assumption) (hk:k=E.k:=by rfl) (hi:0≤i∧i<l.length:=by omega):QS P N F L M ⟨dst,.indexAddr t x y,ty,pos,after,g⟩ (.pointer (some ⟨bk V,ofs V+i.toNat * E.k,none⟩)):=Ir hx hy hs ht hz hk hi
theorem xY {α:Type} {E:Enc α} {l:List α} {x y:Operand} {t e:TypeId} {V:Value} {k:Nat} {kk:IntKind} {i:Nat} (hx:opv M x=some V) (hy:opv M y=some (.int kk i)) (hs:Sl F.blk E l V)
  (ht:P.underlying t=some (.slice e)) (hz:∀ w,(sizeOf e).run P w=.ok k w) (hk:k=E.k) (hi:i<l.length) :
  QS P N F L M ⟨dst,.indexAddr t x y,ty,pos,after,g⟩ (.pointer (some ⟨bk V,ofs V+i * E.k,none⟩)) :=
 Ir hx hy hs ht hz hk ⟨Int.natCast_nonneg _,Int.ofNat_lt.2 hi⟩
theorem Q2 {α:Type} {E:Enc α} {l:List α} {x y:Operand} {t e:TypeId} {V:Value} {k:Nat} {kk:IntKind} {i:Nat} (hx:opv M x=some V) (hy:opv M y=some (.int kk i)) (ht:P.underlying t=some (.slice e)) (hz:∀ w,(sizeOf e).run P w=.ok k w) (hs:Sl F.blk E l V:=by assumption) (hk:k=E.k:=by rfl) (hi:i<l.length:=by omega):QS P N F L M ⟨dst,.indexAddr t x y,ty,pos,after,g⟩ (.pointer (some ⟨bk V,ofs V+i * E.k,none⟩)):=xY hx hy hs ht hz hk hi
theorem wv {α:Type} {E:Enc α} {l:List α} {x y:Operand} {t e T:TypeId} {V:Value} {k:Nat} {kk:IntKind} {i:Int} (hx:opv M x=some V) (hy:opv M y=some (.int kk i)) (hs:rowE V T E l∈L)
  (ht:P.underlying t=some (.slice e)) (hz:∀ w,(sizeOf e).run P w=.ok k w) (hk:k=E.k) (hi:0≤i∧i<l.length) :
  QS P N F L M ⟨dst,.indexAddr t x y,ty,pos,after,g⟩ (.pointer (some ⟨bk V,ofs V+i.toNat * E.k,none⟩)) :=
 bQ fun A w ha hw=>by
  obtain ⟨a,c,hV,_,_,hne⟩:=(hw.row hs).shape
  have h1:=hne (by intro h; subst h; simp at hi; omega)
  have:=oM (V:=V) (c:=c) (kk:=kk) ht hz w hi _ _ h1
  rw [← hV] at this
  subst hk
  simp [execOp,ha.eval hx,ha.eval hy,this]
theorem QZ {α:Type} {E:Enc α} {l:List α} {x y:Operand} {t e T:TypeId} {V:Value} {k:Nat} {kk:IntKind} {i:Int} (hx:opv M x=some V) (hy:opv M y=some (.int kk i)) (ht:P.underlying t=some (.slice e)) (hz:∀ w,(sizeOf e).run P w=.ok k w) (hs:rowE V T E l∈L:=by repeat constructor) (hk:k=E.k:=by rfl) (hi:0≤i∧i<l.length:=by omega):QS P N F L M ⟨dst,.indexAddr t x y,ty,pos,after,g⟩ (.pointer (some ⟨bk V,ofs V+i.toNat * E.k,none⟩)):=wv hx hy hs ht hz hk hi
theorem t6 {α:Type} {E:Enc α} {l:List α} {x y:Operand} {t e T:TypeId} {V:Value} {k:Nat} {kk:IntKind} {i:Nat} (hx:opv M x=some V) (hy:opv M y=some (.int kk i)) (hs:rowE V T E l∈L)
  (ht:P.underlying t=some (.slice e)) (hz:∀ w,(sizeOf e).run P w=.ok k w) (hk:k=E.k) (hi:i<l.length) :
  QS P N F L M ⟨dst,.indexAddr t x y,ty,pos,after,g⟩ (.pointer (some ⟨bk V,ofs V+i * E.k,none⟩)) :=
 wv hx hy hs ht hz hk ⟨Int.natCast_nonneg _,Int.ofNat_lt.2 hi⟩
theorem DJ {α:Type} {E:Enc α} {l:List α} {x y:Operand} {t e T:TypeId} {V:Value} {k:Nat} {kk:IntKind} {i:Nat} (hx:opv M x=some V) (hy:opv M y=some (.int kk i)) (ht:P.underlying t=some (.slice e)) (hz:∀ w,(sizeOf e).run P w=.ok k w) (hs:rowE V T E l∈L:=by repeat constructor) (hk:k=E.k:=by rfl) (hi:i<l.length:=by omega):QS P N F L M ⟨dst,.indexAddr t x y,ty,pos,after,g⟩ (.pointer (some ⟨bk V,ofs V+i * E.k,none⟩)):=t6 hx hy hs ht hz hk hi
theorem cell_of {h:World} {b o:Nat} {cs:Array Value} {T:TypeId} {fz:Nat × Nat} (hb:HL.hp h b=some (.cells cs T fz)) (j:Nat):h.cell? ⟨b,o+j,none⟩=cs[o+j]?:=by
 unfold HL.hp at hb
 simp [World.cell?,hb]
theorem ov {x:Operand} {t:TypeId} {b o:Nat} {v:Value} (hx:opv M x=some (.pointer (some ⟨b,o,none⟩))) (hagg:∀ w,(isAgg t).run P w=.ok false w)
  (hc:∀ w,HpOK F L w→w.cell? ⟨b,o,none⟩=some v):QS P N F L M ⟨dst,.load t x,ty,pos,after,g⟩ v :=
 bQ fun A w ha hw=>by
  simp [execOp,ha.eval hx,Instr.loadAt,Instr.sureAddr,loadVar,hagg,hc w hw]
theorem sw {x:Operand} {t:TypeId} {b o k:Nat} {vs:List Value} (hx:opv M x=some (.pointer (some ⟨b,o,none⟩))) (hagg:∀ w,(isAgg t).run P w=.ok true w)
  (hz:∀ w,(sizeOf t).run P w=.ok k w) (hl:vs.length=k)
  (hc:∀ w,HpOK F L w→∀ j v,vs[j]?=some v→w.cell? ⟨b,o+j,none⟩=some v):QS P N F L M ⟨dst,.load t x,ty,pos,after,g⟩ (.agg vs.toArray) :=
 bQ fun A w ha hw=>by
  have:=run_loadCells_list (P:=P) w ⟨b,o,none⟩ vs (fun j v hv=>by rw [Addr.add_lit]; exact hc w hw j v hv)
  subst hl
  simp [execOp,ha.eval hx,Instr.loadAt,Instr.sureAddr,loadVar,hagg,hz,this]
theorem qW {b o:Nat} {cs:List Value} {T:TypeId} {w:World} (h:(cellE b cs T).holds w):w.cell? ⟨b,o,none⟩=cs[o]?:=by
 have:w.heap[b]?=some (.cells cs.toArray T (0,0)):=h
 simp [World.cell?,this]
theorem ou {x:Operand} {t T:TypeId} {b o:Nat} {v:Value} {cs:List Value} (hx:opv M x=some (.pointer (some ⟨b,o,none⟩))) (hm:cellE b cs T∈L) (hagg:∀ w,(isAgg t).run P w=.ok false w)
  (hv:cs[o]?=some v):QS P N F L M ⟨dst,.load t x,ty,pos,after,g⟩ v :=
 ov hx hagg fun w hw=>by rw [qW (hw.ent _ hm)]; exact hv
theorem QU {x:Operand} {t T:TypeId} {b o:Nat} {v:Value} {cs:List Value} (hx:opv M x=some (.pointer (some ⟨b,o,none⟩))) (hagg:∀ w,(isAgg t).run P w=.ok false w) (hm:cellE b cs T∈L:=by repeat constructor) (hv:cs[o]?=some v:=by rfl):QS P N F L M ⟨dst,.load t x,ty,pos,after,g⟩ v:=ou hx hm hagg hv
theorem dI {x:Operand} {t T:TypeId} {b o k:Nat} {vs cs:List Value} (hx:opv M x=some (.pointer (some ⟨b,o,none⟩))) (hm:cellE b cs T∈L) (hagg:∀ w,(isAgg t).run P w=.ok true w)
  (hz:∀ w,(sizeOf t).run P w=.ok k w) (hv:(cs.drop o).take k=vs) (hl:Nat.beq vs.length k=true):QS P N F L M ⟨dst,.load t x,ty,pos,after,g⟩ (.agg vs.toArray) :=
 sw hx hagg hz (Nat.eq_of_beq_eq_true hl) fun w hw j v hj=>by
  rw [qW (hw.ent _ hm)]
  rw [← hv,List.getElem?_take] at hj
  split at hj
  ·simpa [List.getElem?_drop] using hj
  ·cases hj
theorem B2 {x:Operand} {t T:TypeId} {b k:Nat} {cs:List Value} (hx:opv M x=some (.pointer (some ⟨b,0,none⟩))) (hm:cellE b cs T∈L) (hagg:∀ w,(isAgg t).run P w=.ok true w)
  (hz:∀ w,(sizeOf t).run P w=.ok k w) (hl:cs.length=k):QS P N F L M ⟨dst,.load t x,ty,pos,after,g⟩ (.agg cs.toArray) :=
 sw hx hagg hz hl fun w hw j v hj=>by
  rw [qW (hw.ent _ hm),Nat.zero_add]; exact hj
theorem Sl.cell {α:Type} {E:Enc α} {l:List α} {V:Value} {w:World} (s:Sl (HL.hp w) E l V) {i:Nat} {x:α} (hx:l[i]?=some x) {j:Nat} {v:Value} (hv:(E.enc x)[j]?=some v) :
  w.cell? ⟨bk V,ofs V+i * E.k+j,none⟩=some v:=by
 obtain ⟨cs,T,fz,hb,hc⟩:=s.cells i x hx
 rw [cell_of hb,hc j v hv]
theorem pX {α:Type} [Inhabited α] {l:List α} {i:Nat} (h:i<l.length):l[i]?=some (l.getD i default):=by
 simp [List.getD_eq_getElem?_getD,h]
theorem NT {α:Type} [Inhabited α] {E:Enc α} {l:List α} {V:Value} {x:Operand} {t:TypeId} {i k:Nat} (hx:opv M x=some (.pointer (some ⟨bk V,ofs V+i * E.k,none⟩))) (hs:Sl F.blk E l V)
  (hagg:∀ w,(isAgg t).run P w=.ok true w) (hz:∀ w,(sizeOf t).run P w=.ok k w) (hk:k=E.k) (hi:i<l.length):QS P N F L M ⟨dst,.load t x,ty,pos,after,g⟩ (.agg (E.enc (l.getD i default)).toArray) :=
 sw hx hagg hz (by rw [E.len,hk]) fun w hw j v hj=>(hw.slF hs).cell (pX hi) hj
theorem QW {α:Type} [Inhabited α] {E:Enc α} {l:List α} {V:Value} {x:Operand} {t:TypeId} {i k:Nat} (hx:opv M x=some (.pointer (some ⟨bk V,ofs V+i * E.k,none⟩))) (hagg:∀ w,(isAgg t).run P w=.ok true w) (hz:∀ w,(sizeOf t).run P w=.ok k w) (hs:Sl F.blk E l V:=by assumption) (hk:k=E.k:=by rfl) (hi:i<l.length:=by omega):QS P N F L M ⟨dst,.load t x,ty,pos,after,g⟩ (.agg (E.enc (l.getD i default)).toArray):=NT hx hs hagg hz hk hi
theorem NU {α:Type} [Inhabited α] {E:Enc α} {l:List α} {V:Value} {x:Operand} {t:TypeId} {i:Nat} {v:Value} (hx:opv M x=some (.pointer (some ⟨bk V,ofs V+i * E.k,none⟩))) (hs:Sl F.blk E l V)
  (hagg:∀ w,(isAgg t).run P w=.ok false w) (hi:i<l.length) (hv:(E.enc (l.getD i default))[0]?=some v):QS P N F L M ⟨dst,.load t x,ty,pos,after,g⟩ v :=
 ov hx hagg fun w hw=>(hw.slF hs).cell (pX hi) (j:=0) hv
theorem Q1 {α:Type} [Inhabited α] {E:Enc α} {l:List α} {V:Value} {x:Operand} {t:TypeId} {i:Nat} {v:Value} (hx:opv M x=some (.pointer (some ⟨bk V,ofs V+i * E.k,none⟩))) (hagg:∀ w,(isAgg t).run P w=.ok false w) (hs:Sl F.blk E l V:=by assumption) (hi:i<l.length:=by omega) (hv:(E.enc (l.getD i default))[0]?=some v:=by rfl):QS P N F L M ⟨dst,.load t x,ty,pos,after,g⟩ v:=NU hx hs hagg hi hv
theorem Qg {α:Type} [Inhabited α] {E:Enc α} {l:List α} {V:Value} {x:Operand} {t:TypeId} {i j:Nat} {v:Value} (hx:opv M x=some (.pointer (some ⟨bk V,ofs V+i * E.k+j,none⟩))) (hs:Sl F.blk E l V)
  (hagg:∀ w,(isAgg t).run P w=.ok false w) (hi:i<l.length) (hv:(E.enc (l.getD i default))[j]?=some v):QS P N F L M ⟨dst,.load t x,ty,pos,after,g⟩ v :=
 ov hx hagg fun w hw=>(hw.slF hs).cell (pX hi) hv
theorem jO {α:Type} [Inhabited α] {E:Enc α} {l:List α} {V:Value} {x:Operand} {t:TypeId} {i j:Nat} {v:Value} (hx:opv M x=some (.pointer (some ⟨bk V,ofs V+i * E.k+j,none⟩))) (hagg:∀ w,(isAgg t).run P w=.ok false w) (hs:Sl F.blk E l V:=by assumption) (hi:i<l.length:=by omega) (hv:(E.enc (l.getD i default))[j]?=some v:=by rfl):QS P N F L M ⟨dst,.load t x,ty,pos,after,g⟩ v:=Qg hx hs hagg hi hv
theorem Jm {α:Type} [Inhabited α] {E:Enc α} {l:List α} {V:Value} {x:Operand} {t T:TypeId} {i k:Nat} (hx:opv M x=some (.pointer (some ⟨bk V,ofs V+i * E.k,none⟩))) (hs:rowE V T E l∈L)
  (hagg:∀ w,(isAgg t).run P w=.ok true w) (hz:∀ w,(sizeOf t).run P w=.ok k w) (hk:k=E.k) (hi:i<l.length):QS P N F L M ⟨dst,.load t x,ty,pos,after,g⟩ (.agg (E.enc (l.getD i default)).toArray) :=
 sw hx hagg hz (by rw [E.len,hk]) fun w hw j v hj=>(hw.row hs).cell (pX hi) hj
theorem QX {α:Type} [Inhabited α] {E:Enc α} {l:List α} {V:Value} {x:Operand} {t T:TypeId} {i k:Nat} (hx:opv M x=some (.pointer (some ⟨bk V,ofs V+i * E.k,none⟩))) (hagg:∀ w,(isAgg t).run P w=.ok true w) (hz:∀ w,(sizeOf t).run P w=.ok k w) (hs:rowE V T E l∈L:=by repeat constructor) (hk:k=E.k:=by rfl) (hi:i<l.length:=by omega):QS P N F L M ⟨dst,.load t x,ty,pos,after,g⟩ (.agg (E.enc (l.getD i default)).toArray):=Jm hx hs hagg hz hk hi
theorem DF {α:Type} [Inhabited α] {E:Enc α} {l:List α} {V:Value} {x:Operand} {t T:TypeId} {i:Nat} {v:Value} (hx:opv M x=some (.pointer (some ⟨bk V,ofs V+i * E.k,none⟩))) (hs:rowE V T E l∈L)
  (hagg:∀ w,(isAgg t).run P w=.ok false w) (hi:i<l.length) (hv:(E.enc (l.getD i default))[0]?=some v):QS P N F L M ⟨dst,.load t x,ty,pos,after,g⟩ v :=
 ov hx hagg fun w hw=>(hw.row hs).cell (pX hi) (j:=0) hv
theorem Qh {α:Type} [Inhabited α] {E:Enc α} {l:List α} {V:Value} {x:Operand} {t T:TypeId} {i:Nat} {v:Value} (hx:opv M x=some (.pointer (some ⟨bk V,ofs V+i * E.k,none⟩))) (hagg:∀ w,(isAgg t).run P w=.ok false w) (hs:rowE V T E l∈L:=by repeat constructor) (hi:i<l.length:=by omega) (hv:(E.enc (l.getD i default))[0]?=some v:=by rfl):QS P N F L M ⟨dst,.load t x,ty,pos,after,g⟩ v:=DF hx hs hagg hi hv
theorem sW {α:Type} [Inhabited α] {E:Enc α} {l:List α} {V:Value} {x:Operand} {t T:TypeId} {i j:Nat} {v:Value} (hx:opv M x=some (.pointer (some ⟨bk V,ofs V+i * E.k+j,none⟩))) (hs:rowE V T E l∈L)
  (hagg:∀ w,(isAgg t).run P w=.ok false w) (hi:i<l.length) (hv:(E.enc (l.getD i default))[j]?=some v):QS P N F L M ⟨dst,.load t x,ty,pos,after,g⟩ v :=
 ov hx hagg fun w hw=>(hw.row hs).cell (pX hi) hv
theorem aI {t:TypeId} {parts:List (Nat × Operand)} {vs:List (Nat × Value)} {cs:Array Value} (hx:l3 M (parts.map (·.2))=some (vs.map (·.2))) (hi:parts.map (·.1)=vs.map (·.1))
  (hb:P.built t vs=some cs):QS P N F L M ⟨dst,.build t parts.toArray,ty,pos,after,g⟩ (.agg cs) :=
 bQ fun A w ha hw=>by
  have h1:=ha.evals hx
  have h2:parts.map (fun p=>(p.1,A.eval p.2))=vs:=by
   clear hb hx
   induction parts generalizing vs with
   | nil=>cases vs<;>simp_all
   | cons p ps ih =>
    cases vs with
    | nil=>simp at hi
    | cons q qs =>
     simp only [List.map_cons,List.cons.injEq] at h1 hi ⊢
     exact ⟨Prod.ext hi.1 h1.1,ih hi.2 h1.2⟩
  have h3:=run_build (P:=P) w t (parts.map (fun p=>(p.1,A.eval p.2))).toArray cs (by simpa [h2] using hb)
  simp only [execOp,List.map_toArray]
  simp [h3]
theorem w9 {op:Op} {cs:List Value} {T:TypeId} (hr:∀ a w,FrOK N M a→(execOp a.eval ⟨some d,op,ty,pos,after,none⟩).run P w=.ok (.value (.pointer (some ⟨w.heap.size,0,none⟩))) (w.alloc (.cells cs.toArray T)))
  (hd:Nat.ble (d+1) N=true)
  (k:∀ b,Tr N F (cellE b cs T :: L) ((d,.pointer (some ⟨b,0,none⟩)) :: M) (wpList P ops Q rest)):Tr N F L M (wpList P ops Q (⟨some d,op,ty,pos,after,none⟩ :: rest)):=by
 intro a w ha hw
 refine wpList_plain rfl fun K hK=>?_
 unfold Oper.wp
 rw [hr a w ha]
 exact hK _ _ (k w.heap.size _ _ (ha.put (Nat.le_of_ble_eq_true hd)) (hw.alloc _ _ rfl))
theorem NJ {T:TypeId} {z:Value} {cs:List Value} (hz:∀ w,(zeroValue T).run P w=.ok z w) (hc:z.cells.toList=cs) (hd:Nat.ble (d+1) N=true)
  (k:∀ b,Tr N F (cellE b cs T :: L) ((d,.pointer (some ⟨b,0,none⟩)) :: M) (wpList P ops Q rest)):Tr N F L M (wpList P ops Q (⟨some d,.alloc T,ty,pos,after,none⟩ :: rest)):=by
 refine w9 (fun a w ha=>?_) hd k
 subst hc
 simp [execOp,Instr.alloc,hz,newVar,newRow]
theorem bH {T:TypeId} {z:Value} {cs:List Value} (hz:∀ w,(zeroValue T).run P w=.ok z w) (hc:z.cells.toList=cs) (k:∀ b,Tr N F (cellE b cs T :: L) ((d,.pointer (some ⟨b,0,none⟩)) :: M) (wpList P ops Q rest)) (hd:Nat.ble (d+1) N=true:=by rfl):Tr N F L M (wpList P ops Q (⟨some d,.alloc T,ty,pos,after,none⟩ :: rest)):=NJ hz hc hd k
theorem Qe {T:TypeId} {x:Operand} {v:Value} {cs:List Value} (hx:opv M x=some v) (hc:v.cells.toList=cs) (hd:Nat.ble (d+1) N=true)
  (k:∀ b,Tr N F (cellE b cs T :: L) ((d,.pointer (some ⟨b,0,none⟩)) :: M) (wpList P ops Q rest)):Tr N F L M (wpList P ops Q (⟨some d,.box T x,ty,pos,after,none⟩ :: rest)):=by
 refine w9 (fun a w ha=>?_) hd k
 subst hc
 simp [execOp,Instr.box,newVar,newRow,ha.eval hx]
theorem bJ {T:TypeId} {x:Operand} {v:Value} {cs:List Value} (hx:opv M x=some v) (hc:v.cells.toList=cs) (k:∀ b,Tr N F (cellE b cs T :: L) ((d,.pointer (some ⟨b,0,none⟩)) :: M) (wpList P ops Q rest)) (hd:Nat.ble (d+1) N=true:=by rfl):Tr N F L M (wpList P ops Q (⟨some d,.box T x,ty,pos,after,none⟩ :: rest)):=Qe hx hc hd k
def splice (cs:List Value) (o:Nat) (vs:List Value):List Value:=cs.take o ++ vs ++ cs.drop (o+vs.length)
theorem yu {w:World} {b o k:Nat} {cs:List Value} {T t:TypeId} {v:Value} (h:w.heap[b]?=some (.cells cs.toArray T (0,0))) (hz:∀ w,(sizeOf t).run P w=.ok k w)
  (hk:v.cells.size=k) (hfit:o+k≤cs.length) (h1:∀ u∈v.cells.toList,u.oneCell'=true) :
  (Instr.storeAt t (.pointer (some ⟨b,o,none⟩)) v).run P w=.ok () (w.setRow b (splice cs o v.cells.toList).toArray):=by
 have hst:=run_storeCells_at P b o T v.cells.toList 0 cs.toArray w h (by simp; omega) h1
 simp only [Nat.add_zero] at hst
 subst hk
 simp [Instr.storeAt,Instr.sureAddr,storeVar,hz,hst,splice]
theorem cY {x y:Operand} {t T:TypeId} {b o k:Nat} {cs cs':List Value} {v:Value} {L':List Ent} {dst:Option Tmp} (hx:opv M x=some (.pointer (some ⟨b,o,none⟩))) (hy:opv M y=some v)
  (hz:∀ w,(sizeOf t).run P w=.ok k w) (hput:Put (cellE b cs T) (cellE b cs' T) L L') (hcs:splice cs o v.cells.toList=cs') (hk:v.cells.size=k) (hfit:o+k≤cs.length)
  (h1:∀ u∈v.cells.toList,u.oneCell'=true) (hdst:dst=none)
  (K:Tr N F L' M (wpList P ops Q rest)):Tr N F L M (wpList P ops Q (⟨dst,.store t x y,ty,pos,after,none⟩ :: rest)):=by
 subst hdst
 intro a w ha hw
 refine wpList_plain rfl fun K' hK=>?_
 have hb:w.heap[b]?=some (.cells cs.toArray T (0,0)):=hw.ent _ hput.mem
 have hr:=yu (P:=P) hb hz hk hfit h1
 unfold Oper.wp
 simp only [execOp,ha.eval hx,ha.eval hy,Sem.run_bind,hr,Result.andThen_ok,Sem.run_pure,Oper.upon,Act.put]
 refine hK _ _ (K _ _ ha ?_)
 subst hcs
 exact HpOK.set hw hput rfl rfl rfl (by simp) (Nat.le_refl _) (fun k _ hkb=>setRow_other w b k _ hkb) (setRow_heap w b _ _ T (0,0) hb)
theorem zz1 {x y:Operand} {t T:TypeId} {b o k:Nat} {cs cs':List Value} {v:Value} {L':List Ent} {dst:Option Tmp} (hx:opv M x=some (.pointer (some ⟨b,o,none⟩))) (hy:opv M y=some v) (hz:∀ w,(sizeOf t).run P w=.ok k w) (hcs:splice cs o v.cells.toList=cs') (K:Tr N F L' M (wpList P ops Q rest)) (hput:Put (cellE b cs T) (cellE b cs' T) L L':=by repeat constructor) (hk:v.cells.size=k:=by rfl) (hfit:o+k≤cs.length:=by first|exact Nat.le_of_ble_eq_true rfl|simp) (h1:∀ u∈v.cells.toList,u.oneCell'=true:=by first|exact List.all_eq_true.1 rfl|(intro u hu; simp [Value.cells] at hu; simp_all [Value.oneCell'])) (hdst:dst=none:=by rfl):Tr N F L M (wpList P ops Q (⟨dst,.store t x y,ty,pos,after,none⟩ :: rest)):=cY hx hy hz hput hcs hk hfit h1 hdst K
theorem jF {x y:Operand} {t T:TypeId} {b k:Nat} {cs cs':List Value} {v:Value} {L':List Ent} {dst:Option Tmp} (hx:opv M x=some (.pointer (some ⟨b,0,none⟩))) (hy:opv M y=some v)
  (hz:∀ w,(sizeOf t).run P w=.ok k w) (hput:Put (cellE b cs T) (cellE b cs' T) L L') (hcs:v.cells.toList=cs') (hk:(cs.length == k && cs'.length == k)=true)
  (h1:∀ u∈cs',u.oneCell'=true) (hdst:dst=none)
  (K:Tr N F L' M (wpList P ops Q rest)):Tr N F L M (wpList P ops Q (⟨dst,.store t x y,ty,pos,after,none⟩ :: rest)):=by
 simp only [Bool.and_eq_true,beq_iff_eq] at hk
 subst hcs
 refine cY hx hy hz hput ?_ (by simpa using hk.2) (by omega) h1 hdst K
 have hl:v.cells.toList.length=cs.length:=by rw [hk.1,hk.2]
 simp only [splice,List.take_zero,List.nil_append,Nat.zero_add]
 rw [hl,List.drop_length,List.append_nil]
theorem zz8 {x y:Operand} {t T:TypeId} {b k:Nat} {cs cs':List Value} {v:Value} {L':List Ent} {dst:Option Tmp} (hx:opv M x=some (.pointer (some ⟨b,0,none⟩))) (hy:opv M y=some v) (hz:∀ w,(sizeOf t).run P w=.ok k w) (K:Tr N F L' M (wpList P ops Q rest)) (hput:Put (cellE b cs T) (cellE b cs' T) L L':=by repeat constructor) (hcs:v.cells.toList=cs':=by rfl) (hk:(cs.length == k && cs'.length == k)=true:=by rfl) (h1:∀ u∈cs',u.oneCell'=true:=by first|exact List.all_eq_true.1 rfl|exact Enc.one _ _|(intro u hu; simp [Value.cells] at hu; simp_all [Value.oneCell'])) (hdst:dst=none:=by rfl):Tr N F L M (wpList P ops Q (⟨dst,.store t x y,ty,pos,after,none⟩ :: rest)):=jF hx hy hz hput hcs hk h1 hdst K
end
theorem Fp:∀ (l:List Value) (o:Nat) (c:Array Value),o+l.length≤c.size→∀ j,((l.zipIdx o).foldl (fun (cs:Array Value) (x:Value × Nat)=>cs.setIfInBounds (0+x.2) x.1) c)[j]?=if o≤j∧j<o+l.length then l[j - o]? else c[j]?
 | [],o,c,_,j=>by simp; omega
 | x :: l,o,c,h,j=>by
  simp only [List.length_cons] at h
  simp only [List.zipIdx_cons,List.foldl_cons,Nat.zero_add,List.length_cons]
  have ih:=Fp l (o+1) (c.setIfInBounds o x) (by simp; omega) j
  simp only [Nat.zero_add] at ih
  rw [ih]
  by_cases h1:o+1≤j∧j<o+1+l.length
  ·rw [if_pos h1,if_pos (by omega),show j - o=(j - (o+1))+1 by omega,List.getElem?_cons_succ]
  ·rw [if_neg h1]
   by_cases h2:j=o
   ·subst h2
    rw [if_pos (by omega),Nat.sub_self]
    have hj:j<c.size:=by omega
    simp [hj]
   ·rw [if_neg (by omega),Array.getElem?_setIfInBounds_ne (by omega)]
theorem MW (k:Nat) (zero:Array Value) (v:Value) (hz:zero.size=k) (hv:v.cells.size=k):Instr.fill (fun i=>some (i * k,k)) zero [(0,v)]=some v.cells:=by
 have h:=Fp v.cells.toList 0 zero (by simp; omega)
 have h1:¬ (v.cells.size≠k || decide (0 * k+v.cells.size > zero.size))=true:=by simp; omega
 simp only [Instr.fill]
 rw [if_neg h1]
 simp only [Nat.zero_mul,Option.some.injEq]
 apply Array.ext_getElem?
 intro j
 rw [← Array.foldl_toList,Array.toList_zipIdx,h j]
 simp only [Nat.zero_le,true_and,Nat.zero_add,Array.length_toList,Nat.sub_zero,Array.getElem?_toList]
 by_cases hj:j<v.cells.size
 ·rw [if_pos hj]
 ·rw [if_neg hj]
  rw [Array.getElem?_eq_none (by omega),Array.getElem?_eq_none (by omega)]
section
variable {P:Program} {ops:Array Oper} {Q:Exit→Act→World→Prop} {N:Nat} {F:Bg} {L:List Ent} {M:Fr} {dst:Option Tmp} {ty:TypeId} {pos:String} {after:Array Edge} {g:Option (Nat × Bool)} {rest:List Oper} {d:Nat}
theorem pR (w:World) {t e:TypeId} {k n:Nat} {z:Value} {parts:Array (Nat × Value)} {cells:Array Value} (ht:P.underlying t=some (.slice e)) (hz:∀ w,(sizeOf e).run P w=.ok k w) (hzero:∀ w,(zeroValue e).run P w=.ok z w)
  (hn:n * k≠0) (hs:n * k≤16777216) (hfill:Instr.fill (fun i=>some (i * k,k)) ((Array.range (n * k)).map (z.cells[· % z.cells.size]!)) parts.toList=some cells) :
  (Instr.buildSlice t n parts).run P w=.ok (.slice (some ⟨w.heap.size,0,none⟩) n n) (w.alloc (.cells cells e)):=by
 have h1:¬ n * k > 2 ^ 24:=by omega
 simp only [Instr.buildSlice,Sem.run_bind,run_underlying ht,hz,hzero,Result.andThen_ok,Sem.run_ite,if_neg h1,if_neg hn,hfill,newRow,Sem.run_pure]
 rfl
theorem nF {α:Type} {E:Enc α} {l:List α} {T:TypeId} {b cap:Nat} {cells:Array Value} (hl:l.length≤cap) (hc:cap≤maxLen) (hsz:cap * E.k≤cells.size) (hcells:cells.toList.take (l.length * E.k)=l.flatMap E.enc) :
  RowOK (.slice (some ⟨b,0,none⟩) l.length cap) T E l (some (.cells cells T (0,0))) :=
 .inr ⟨b,cap,cells,rfl,rfl,hl,hc,hsz,hcells⟩
theorem O8 {α:Type} {E:Enc α} (x:α) {t e:TypeId} {o:Operand} {v z:Value} {k:Nat} (hx:opv M o=some v) (hv:v.cells.toList=E.enc x) (ht:P.underlying t=some (.slice e)) (hz:∀ w,(sizeOf e).run P w=.ok k w)
  (hzero:∀ w,(zeroValue e).run P w=.ok z w) (hk:k=E.k) (h0:(Nat.ble 1 k && Nat.ble k 16777216)=true) (hd:Nat.ble (d+1) N=true)
  (K:∀ V,Tr N F (rowE V e E [x] :: L) ((d,V) :: M) (wpList P ops Q rest)):Tr N F L M (wpList P ops Q (⟨some d,.buildSlice t 1 #[(0,o)],ty,pos,after,none⟩ :: rest)):=by
 intro a w ha hw
 refine wpList_plain rfl fun K' hK=>?_
 have hsz:v.cells.size=k:=by
  have:=congrArg List.length hv
  rw [E.len] at this
  simpa [hk] using this
 simp only [Bool.and_eq_true] at h0
 have h01:=Nat.le_of_ble_eq_true h0.1
 have h02:=Nat.le_of_ble_eq_true h0.2
 have hr:=pR (P:=P) w (n:=1) (parts:=#[(0,v)]) (cells:=v.cells) ht hz hzero (by omega) (by omega) (by
  have:=MW k ((Array.range (1 * k)).map (z.cells[· % z.cells.size]!)) v (by simp) hsz
  simpa using this)
 unfold Oper.wp
 have he:(execOp a.eval ⟨some d,.buildSlice t 1 #[(0,o)],ty,pos,after,none⟩).run P w=.ok (.value (.slice (some ⟨w.heap.size,0,none⟩) 1 1)) (w.alloc (.cells v.cells e)):=by
  have hx':=ha.eval hx
  simp only [execOp,List.map_toArray,List.map_cons,List.map_nil,hx',Sem.run_bind,hr,Result.andThen_ok,Sem.run_pure]
 rw [he]
 refine hK _ _ (K _ _ _ (ha.put (Nat.le_of_ble_eq_true hd)) ?_)
 refine hw.alloc _ _ ?_
 exact nF (l:=[x]) (Nat.le_refl _) (by simp [maxLen]) (by simp; omega) (by
  rw [List.flatMap_cons,List.flatMap_nil,List.append_nil,← hv]
  refine List.take_of_length_le ?_
  simp only [List.length_cons,List.length_nil,Array.length_toList]; omega)
theorem fM {α:Type} {E:Enc α} (x:α) {t e:TypeId} {o:Operand} {v z:Value} {k:Nat} (hx:opv M o=some v) (hv:v.cells.toList=E.enc x) (ht:P.underlying t=some (.slice e)) (hz:∀ w,(sizeOf e).run P w=.ok k w) (hzero:∀ w,(zeroValue e).run P w=.ok z w) (K:∀ V,Tr N F (rowE V e E [x] :: L) ((d,V) :: M) (wpList P ops Q rest)) (hk:k=E.k:=by rfl) (h0:(Nat.ble 1 k && Nat.ble k 16777216)=true:=by rfl) (hd:Nat.ble (d+1) N=true:=by rfl):Tr N F L M (wpList P ops Q (⟨some d,.buildSlice t 1 #[(0,o)],ty,pos,after,none⟩ :: rest)):=O8 x hx hv ht hz hzero hk h0 hd K
theorem wS {e:TypeId} {z:Value} {k bytes:Nat} (h:(P.info? e).map (fun i=>(i.zero,i.size,i.bytes))=some (some z,k,bytes)):∃ i,P.info? e=some i∧i.zero=some z∧i.size=k∧i.bytes=bytes:=by
 cases hi:P.info? e with
 | none=>simp [hi] at h
 | some i=>simp only [hi,Option.map_some,Option.some.injEq,Prod.mk.injEq] at h; exact ⟨i,rfl,h.1,h.2.1,h.2.2⟩
theorem H5 {α:Type} {E:Enc α} {xs ys:List α} {t ty e:TypeId} {i:TypeInfo} {z:Value} {bytes:Nat} (ht:P.underlying t=some (.slice e)) (hi:P.info? e=some i) (hz:i.zero=some z)
    (hsize:i.size=E.k) (hby:i.bytes=bytes) (hzs:z.cells.size=E.k) {V W:Value} {w:World} (hV:(rowE V e E xs).holds w) (hW:Sl (HL.hp w) E ys W)
    (hbytes:(xs.length+ys.length) * bytes≤140737488355328) (h63:xs.length+ys.length≤maxLen) :
    ∃ V' w',(Builtin.append_ #[t,t] ty #[V,W]).run P w=.ok V' w'∧(rowE V' e E (xs ++ ys)).holds w'∧w'.os=w.os∧w'.tape=w.tape∧w'.output=w.output∧(w.heap.size≤w'.heap.size∧w.drawn≤w'.drawn) ∧
      ((V'.ownBlock=V.ownBlock∧V.ownBlock≠none∧(∀ k,k<w.heap.size→some k≠V.ownBlock→w'.heap[k]?=w.heap[k]?)) ∨
       (V'.ownBlock=some w.heap.size∧w.heap.size<w'.heap.size∧∀ k,k<w.heap.size→w'.heap[k]?=w.heap[k]?) ∨
       (V'=V∧w'=w∧ys=[])):=by
  by_cases hne:0<ys.length
  case neg =>
    obtain rfl:ys=[]:=List.eq_nil_of_length_eq_zero (by omega)
    obtain ⟨aW,cW,rfl,_,_,_⟩:=hW.shape
    refine ⟨V,w,?_,by simpa using hV,rfl,rfl,rfl,⟨Nat.le_refl _,Nat.le_refl _⟩,.inr (.inr ⟨rfl,rfl,rfl⟩)⟩
    have hf:(Builtin.firstCells i.size 0 (.slice aW 0 cW)).run P w=.ok #[] w:=by
      cases aW<;>simp [Builtin.firstCells,loadCells,loadCellsFrom]
    rcases hV with ⟨rfl,rfl⟩|⟨gb,cap,cur,rfl,ho,hc1,hc2,hc3,hc4⟩
    · simp [Builtin.append_,run_underlying ht,sizeOf,typeInfo,hi,Builtin.lenOf,hf]
    · simp [Builtin.append_,run_underlying ht,sizeOf,typeInfo,hi,Builtin.lenOf,hf,hc1,storeCells]
  have hsmall:xs.length+ys.length≤9223372036854775807:=by simp only [maxLen] at h63; omega
  obtain ⟨aW,cW,hWs,_,_,hWa⟩:=hW.shape
  have hWa':=hWa (by intro h; subst h; simp at hne)
  have hnews:∀ j u,(ys.flatMap E.enc)[j]?=some u→w.cell? ((⟨bk W,ofs W,none⟩:Addr).add j)=some u:=by
    intro j u hu
    rw [Addr.add_lit]
    by_cases hk0:E.k=0
    · have:(ys.flatMap E.enc).length=0:=by rw [de,hk0]; simp
      have h0:=List.eq_nil_of_length_eq_zero this
      rw [h0] at hu; simp at hu
    · have hj:j<ys.length * E.k:=by rw [← de]; exact (List.getElem?_eq_some_iff.1 hu).1
      have hq:j / E.k<ys.length:=Nat.div_lt_of_lt_mul (by rw [Nat.mul_comm]; exact hj)
      have hx:ys[j / E.k]?=some ys[j / E.k]:=by simp [hq]
      have hm:j % E.k<(E.enc ys[j / E.k]).length:=by rw [E.len]; exact Nat.mod_lt _ (Nat.pos_of_ne_zero hk0)
      have hv:(E.enc ys[j / E.k])[j % E.k]?=some (E.enc ys[j / E.k])[j % E.k]:=by simp [hm]
      have h1:=oO E ys _ _ hx _ _ hv
      have hdm:j / E.k * E.k+j % E.k=j:=by rw [Nat.mul_comm]; exact Nat.div_add_mod j E.k
      rw [hdm,hu] at h1
      have h2:=hW.cell hx hv
      rw [Nat.add_assoc,hdm] at h2
      rw [h2,← Option.some.inj h1]
  have hl:(ys.flatMap E.enc).length=ys.length * i.size:=by rw [de,hsize]
  have h1:∀ u∈ys.flatMap E.enc,u.oneCell'=true:=by
    intro u hu
    obtain ⟨y,_,hy⟩:=List.mem_flatMap.1 hu
    exact E.one y u hy
  rw [hWs,hWa']
  have newRow:∀ old,old<xs.length+ys.length→∀ w':World,w'.heap[w.heap.size]?=some (.cells ((xs.flatMap E.enc).toArray ++ (ys.flatMap E.enc).toArray ++ Builtin.zeroCells z.cells (grownCap w (xs.length+ys.length) old e - (xs.length+ys.length))) e) →
      (rowE (.slice (some ⟨w.heap.size,0,none⟩) (xs.length+ys.length) (grownCap w (xs.length+ys.length) old e)) e E (xs ++ ys)).holds w':=by
    intro old _ w' hw'
    have hge:=grownCap_ge w (xs.length+ys.length) old e
    have hcm:grownCap w (xs.length+ys.length) old e≤maxLen:=grownCap_le_maxLen w _ old e h63
    unfold rowE Ent.holds
    simp only [Value.ownBlock,Option.bind_some,hw']
    have:=nF (E:=E) (l:=xs ++ ys) (T:=e) (b:=w.heap.size) (cap:=grownCap w (xs.length+ys.length) old e) (cells:=((xs.flatMap E.enc).toArray ++ (ys.flatMap E.enc).toArray ++ Builtin.zeroCells z.cells (grownCap w (xs.length+ys.length) old e - (xs.length+ys.length)))) (by simpa using hge) hcm
      (by
        simp only [Array.size_append,List.size_toArray,size_zeroCells,hzs,de,← Nat.add_mul]
        exact Nat.mul_le_mul_right _ (by omega))
      (by
        have hll:(xs ++ ys).length * E.k=((xs ++ ys).flatMap E.enc).length:=by rw [de]
        rw [hll]
        simp only [Array.toList_append,List.flatMap_append,List.append_assoc]
        rw [← List.append_assoc]
        exact List.take_left)
    simpa using this
  rcases hV with ⟨rfl,rfl⟩|⟨gb,cap,cur,rfl,ho,hc1,hc2,hc3,hc4⟩
  · have hr:=run_append_nil (P:=P) w t ty e i z ht hi hz ⟨bk W,ofs W,none⟩ ys.length cW (ys.flatMap E.enc) hl hnews hne (by simp at hsmall; omega) (by simp at hbytes; rw [hby]; omega)
    refine ⟨_,_,hr,?_,rfl,rfl,rfl,⟨(by simp),(by simp)⟩,.inr (.inl ⟨rfl,(by simp),fun k hk=>heap_alloc_old w.drew _ hk⟩)⟩
    have:=newRow 0 (by simpa using hne) (w.drew.alloc (.cells ((ys.flatMap E.enc).toArray ++ Builtin.zeroCells z.cells (grownCap w ys.length 0 e - ys.length)) e)) (by
      have:=heap_alloc_new w.drew (.cells ((ys.flatMap E.enc).toArray ++ Builtin.zeroCells z.cells (grownCap w ys.length 0 e - ys.length)) e)
      simpa using this)
    simpa using this
  · change w.heap[gb]?=_ at ho
    by_cases hroom:xs.length+ys.length≤cap
    · have hfit:xs.length * i.size+(ys.flatMap E.enc).length≤cur.size:=by
        rw [hl,hsize,← Nat.add_mul]
        exact Nat.le_trans (Nat.mul_le_mul_right _ hroom) hc3
      have hr:=run_append_room (P:=P) w t ty e i ht hi gb xs.length cap cur ho ⟨bk W,ofs W,none⟩ ys.length cW (ys.flatMap E.enc) hl hnews h1 hroom hfit
      refine ⟨_,_,hr,?_,rfl,rfl,rfl,⟨(by simp),(by simp)⟩,.inl ⟨rfl,(by simp [Value.ownBlock]),fun k _ hk=>setRow_other w gb k _ (fun h=>hk (by simp [Value.ownBlock,h]))⟩⟩
      unfold rowE Ent.holds
      simp only [Value.ownBlock,Option.bind_some,setRow_heap w gb cur _ e _ ho]
      have:=nF (E:=E) (l:=xs ++ ys) (T:=e) (b:=gb) (cap:=cap) (cells:=(cur.toList.take (xs.length * i.size) ++ (ys.flatMap E.enc) ++ cur.toList.drop (xs.length * i.size+(ys.flatMap E.enc).length)).toArray) (by simpa using hroom) hc2
        (by simp only [List.size_toArray,List.length_append,List.length_take,List.length_drop,Array.length_toList]; omega)
        (by
          have hll:(xs ++ ys).length * E.k=((xs ++ ys).flatMap E.enc).length:=by rw [de]
          rw [hll,hsize,hc4]
          simp only [List.flatMap_append]
          exact List.take_left)
      simpa using this
    · have holds:∀ j u,(xs.flatMap E.enc)[j]?=some u→w.cell? ((⟨gb,0,none⟩:Addr).add j)=some u:=by
        intro j u hu
        rw [Addr.add_lit]
        have hb:HL.hp w gb=some (.cells cur e (0,0)):=ho
        rw [cell_of hb,Nat.zero_add]
        rw [← hc4,List.getElem?_take] at hu
        split at hu
        · simpa using hu
        · cases hu
      have hr:=run_append_grow (P:=P) w t ty e i z ht hi hz ⟨gb,0,none⟩ xs.length cap (xs.flatMap E.enc) (by rw [de,hsize]) holds ⟨bk W,ofs W,none⟩ ys.length cW (ys.flatMap E.enc) hl hnews (by omega) (by omega) (growslice_fits (by omega) (by rw [hby]; exact hbytes))
      exact ⟨_,_,hr,newRow cap (by omega) _ (heap_alloc_new w.drew _),rfl,rfl,rfl,⟨(by simp),(by simp)⟩,.inr (.inl ⟨rfl,(by simp),fun k hk=>heap_alloc_old w.drew _ hk⟩)⟩
theorem HpOK.regrow {α:Type} {V V':Value} {e:TypeId} {E:Enc α} {xs zs:List α} {w w':World} (h:HpOK F (rowE V e E xs :: L) w) (h':(rowE V' e E zs).holds w') (hos:w'.os=w.os) (ht:w'.tape=w.tape) (ho:w'.output=w.output) (hs:w.heap.size≤w'.heap.size∧w.drawn≤w'.drawn)
    (hc:(V'.ownBlock=V.ownBlock∧V.ownBlock≠none∧(∀ k,k<w.heap.size→some k≠V.ownBlock→w'.heap[k]?=w.heap[k]?)) ∨
       (V'.ownBlock=some w.heap.size∧w.heap.size<w'.heap.size∧∀ k,k<w.heap.size→w'.heap[k]?=w.heap[k]?) ∨
       (V'=V∧w'=w∧zs=xs)):HpOK F (rowE V' e E zs :: L) w':=by
  rcases hc with ⟨hb,hn,hk⟩|⟨hb,hlt,hk⟩|⟨rfl,rfl,rfl⟩
  · cases hV:V.ownBlock with
    | none=>exact absurd hV hn
    | some b =>
      have e1:rowE V e E xs=⟨some b,RowOK V e E xs⟩:=by simp [rowE,hV]
      have e2:rowE V' e E zs=⟨some b,RowOK V' e E zs⟩:=by simp [rowE,hb,hV]
      rw [e1] at h
      rw [e2] at h' ⊢
      exact HpOK.set h (.here _) hos ht ho hs.1 hs.2 (fun k hk1 hkb=>hk k hk1 (by rw [hV]; simpa using hkb)) h'
  · have hL:HpOK F L w:=h.mem (List.sublist_cons_self _ _)
    have hg:HpOK F L w':=hL.grow ⟨⟨hos,ht,ho,hs.1,hk⟩,hs.2⟩
    have e2:rowE V' e E zs=⟨some w.heap.size,RowOK V' e E zs⟩:=by simp [rowE,hb]
    rw [e2] at h' ⊢
    have hbl:cx (⟨some w.heap.size,RowOK V' e E zs⟩ :: L)=w.heap.size :: cx L:=rfl
    refine ⟨hg.os,hg.tape,hg.out,hg.n,hg.dr,hg.bg,fun x hx=>?_,?_,fun b hb=>?_,fun b hb=>?_⟩
    · rcases List.mem_cons.1 hx with rfl|hx
      · exact h'
      · exact hg.ent x hx
    · rw [hbl,List.nodup_cons]
      exact ⟨fun hm=>Nat.lt_irrefl _ (hL.lt _ hm),hL.nodup⟩
    · rw [hbl] at hb
      rcases List.mem_cons.1 hb with rfl|hb
      · exact hlt
      · exact hg.lt b hb
    · rw [hbl] at hb
      rcases List.mem_cons.1 hb with rfl|hb
      · refine ⟨?_,Nat.le_trans F.lo_le hL.n⟩
        cases hF:F.blk w.heap.size with
        | none=>rfl
        | some o' =>
          have:=hL.bg _ _ hF
          have:=(Array.getElem?_eq_some_iff.1 this).1
          omega
      · exact hg.sep b hb
  · exact h
theorem IL {α:Type} (e:TypeId) (E:Enc α) {w:World} (h:HpOK F L w):HpOK F (rowE (.slice none 0 0) e E ([]:List α) :: L) w:=by
 have hbl:cx (rowE (.slice none 0 0) e E ([]:List α) :: L)=cx L:=rfl
 refine ⟨h.os,h.tape,h.out,h.n,h.dr,h.bg,fun x hx=>?_,by rw [hbl]; exact h.nodup,by rw [hbl]; exact h.lt,by rw [hbl]; exact h.sep⟩
 rcases List.mem_cons.1 hx with rfl|hx
 ·exact .inl ⟨rfl,rfl⟩
 ·exact h.ent x hx
theorem ay {α:Type} (e:TypeId) (E:Enc α) {X:Act→World→Prop} (h:Tr N F (rowE (.slice none 0 0) e E ([]:List α) :: L) M X):Tr N F L M X :=
 fun a w ha hw=>h a w ha (IL e E hw)
theorem ji {α:Type} {E:Enc α} {xs ys:List α} {x y:Operand} {V W:Value} {t e:TypeId} {z:Value} {k bytes:Nat} {L1:List Ent} (hx:opv M x=some V) (hy:opv M y=some W)
  (hV:Del (rowE V e E xs) L L1) (hW:∀ w,HpOK F L w→Sl (HL.hp w) E ys W) (ht:P.underlying t=some (.slice e)) (hinfo:(P.info? e).map (fun i=>(i.zero,i.size,i.bytes))=some (some z,k,bytes)) (hk:k=E.k) (hzs:z.cells.size=k)
  (hbytes:(xs.length+ys.length) * bytes≤140737488355328) (h63:xs.length+ys.length≤maxLen) (hd:Nat.ble (d+1) N=true)
  (K:∀ V',Tr N F (rowE V' e E (xs ++ ys) :: L1) ((d,V') :: M) (wpList P ops Q rest)):Tr N F L M (wpList P ops Q (⟨some d,.call { callee:=.builtin .append,args:=#[x,y],argTypes:=#[t,t] },ty,pos,after,none⟩ :: rest)):=by
 intro a w ha hw
 refine wpList_plain rfl fun K' hK=>?_
 obtain ⟨i,hi,hz,hsize,hby⟩:=wS hinfo
 rw [hk] at hsize hzs
 have hf:=hw.front hV
 obtain ⟨V',w',hr,h1,h2,h3,h4,h5,h6⟩:=H5 (P:=P) (ty:=ty) ht hi hz hsize hby hzs (hf.ent _ (.head _)) (hW w hw) hbytes h63
 unfold Oper.wp execOp
 simp only [resolve,invoke,builtin,Sem.run_bind,Sem.run_pure,Result.andThen_ok,List.map_toArray,List.map_cons,List.map_nil,ha.eval hx,ha.eval hy,hr]
 exact hK _ _ (K V' _ _ (ha.put (Nat.le_of_ble_eq_true hd)) (hf.regrow h1 h2 h3 h4 h5 (h6.imp id (Or.imp id fun ⟨q1,q2,q3⟩=>⟨q1,q2,by rw [q3,List.append_nil]⟩))))
theorem B8 {α:Type} {E:Enc α} {xs ys:List α} {x y:Operand} {V W:Value} {t e:TypeId} {z:Value} {k bytes:Nat} {L1:List Ent} (hx:opv M x=some V) (hy:opv M y=some W) (hV:Del (rowE V e E xs) L L1) (hW:∀ w,HpOK F L w→Sl (HL.hp w) E ys W) (ht:P.underlying t=some (.slice e)) (hinfo:(P.info? e).map (fun i=>(i.zero,i.size,i.bytes))=some (some z,k,bytes)) (K:∀ V',Tr N F (rowE V' e E (xs ++ ys) :: L1) ((d,V') :: M) (wpList P ops Q rest)) (hk:k=E.k:=by rfl) (hzs:z.cells.size=k:=by rfl) (hbytes:(xs.length+ys.length) * bytes≤140737488355328:=by (try simp only [List.length_cons,List.length_nil,List.length_append,List.length_take]); omega) (h63:xs.length+ys.length≤maxLen:=by unfold maxLen; (try simp only [List.length_cons,List.length_nil,List.length_append,List.length_take]); omega) (hd:Nat.ble (d+1) N=true:=by rfl):Tr N F L M (wpList P ops Q (⟨some d,.call { callee:=.builtin .append,args:=#[x,y],argTypes:=#[t,t] },ty,pos,after,none⟩ :: rest)):=ji hx hy hV hW ht hinfo hk hzs hbytes h63 hd K
theorem j9 {α:Type} {E:Enc α} {xs ys:List α} {x y:Operand} {V W:Value} {t e:TypeId} {z:Value} {k bytes:Nat} {L1 L2:List Ent} (hx:opv M x=some V) (hy:opv M y=some W)
  (hW:Del (rowE W e E ys) L L1) (hV:Del (rowE V e E xs) L1 L2) (ht:P.underlying t=some (.slice e)) (hinfo:(P.info? e).map (fun i=>(i.zero,i.size,i.bytes))=some (some z,k,bytes)) (hk:k=E.k) (hzs:z.cells.size=k)
  (hbytes:(xs.length+ys.length) * bytes≤140737488355328) (h63:xs.length+ys.length≤maxLen) (hd:Nat.ble (d+1) N=true)
  (K:∀ V',Tr N F (rowE V' e E (xs ++ ys) :: L2) ((d,V') :: M) (wpList P ops Q rest)):Tr N F L M (wpList P ops Q (⟨some d,.call { callee:=.builtin .append,args:=#[x,y],argTypes:=#[t,t] },ty,pos,after,none⟩ :: rest)):=by
 have hp:L.Perm (rowE V e E xs :: rowE W e E ys :: L2):=hW.perm.trans ((hV.perm.cons _).trans (.swap _ _ _))
 refine sR hp.symm (ji hx hy (.here _) (fun w hw=>hw.row (.tail _ (.head _))) ht hinfo hk hzs hbytes h63 hd fun V'=>?_)
 exact Pb ((List.sublist_cons_self _ _).cons_cons _) (K V')
theorem zz3 {α:Type} {E:Enc α} {xs ys:List α} {x y:Operand} {V W:Value} {t e:TypeId} {z:Value} {k bytes:Nat} {L1 L2:List Ent} (hx:opv M x=some V) (hy:opv M y=some W) (ht:P.underlying t=some (.slice e)) (hinfo:(P.info? e).map (fun i=>(i.zero,i.size,i.bytes))=some (some z,k,bytes)) (K:∀ V',Tr N F (rowE V' e E (xs ++ ys) :: L2) ((d,V') :: M) (wpList P ops Q rest)) (hW:Del (rowE W e E ys) L L1:=by repeat constructor) (hV:Del (rowE V e E xs) L1 L2:=by repeat constructor) (hk:k=E.k:=by rfl) (hzs:z.cells.size=k:=by rfl) (hbytes:(xs.length+ys.length) * bytes≤140737488355328:=by (try simp only [List.length_cons,List.length_nil,List.length_append,List.length_take]); omega) (h63:xs.length+ys.length≤maxLen:=by unfold maxLen; (try simp only [List.length_cons,List.length_nil,List.length_append,List.length_take]); omega) (hd:Nat.ble (d+1) N=true:=by rfl):Tr N F L M (wpList P ops Q (⟨some d,.call { callee:=.builtin .append,args:=#[x,y],argTypes:=#[t,t] },ty,pos,after,none⟩ :: rest)):=j9 hx hy hW hV ht hinfo hk hzs hbytes h63 hd K
def dY {α:Type} (w w':World) (T:TypeId) (E:Enc α) (l:List α) (V:Value):Prop:=(rowE V T E l).holds w'∧∀ b,V.ownBlock=some b→w.heap.size≤b
theorem HpOK.newRow {α:Type} {w w':World} {T:TypeId} {E:Enc α} {l:List α} {V:Value} (h:HpOK F L w) (hb:Ext w w') (hr:dY w w' T E l V):HpOK F (rowE V T E l :: L) w':=by
 have hg:=h.grow hb
 obtain ⟨h1,h2⟩:=hr
 cases hV:V.ownBlock with
 | none =>
  have hbl:cx (rowE V T E l :: L)=cx L:=by simp [cx,rowE,hV]
  refine ⟨hg.os,hg.tape,hg.out,hg.n,hg.dr,hg.bg,fun x hx=>?_,by rw [hbl]; exact hg.nodup,by rw [hbl]; exact hg.lt,by rw [hbl]; exact hg.sep⟩
  rcases List.mem_cons.1 hx with rfl|hx
  ·exact h1
  ·exact hg.ent x hx
 | some b =>
  have hbl:cx (rowE V T E l :: L)=b :: cx L:=by simp [cx,rowE,hV]
  have hge:=h2 b hV
  have hlt:b<w'.heap.size:=by
   rcases h1 with ⟨rfl,_⟩|⟨gb,cap,cur,rfl,ho,_⟩
   ·simp [Value.ownBlock] at hV
   ·simp only [rowE,Value.ownBlock,Option.bind_some] at ho
    simp only [Value.ownBlock,Option.some.injEq] at hV
    subst hV
    exact (Array.getElem?_eq_some_iff.1 ho).1
  refine ⟨hg.os,hg.tape,hg.out,hg.n,hg.dr,hg.bg,fun x hx=>?_,?_,fun c hc=>?_,fun c hc=>?_⟩
  ·rcases List.mem_cons.1 hx with rfl|hx
   ·exact h1
   ·exact hg.ent x hx
  ·rw [hbl,List.nodup_cons]
   exact ⟨fun hm=>by have:=h.lt _ hm; omega,hg.nodup⟩
  ·rw [hbl] at hc
   rcases List.mem_cons.1 hc with rfl|hc
   ·exact hlt
   ·exact hg.lt c hc
  ·rw [hbl] at hc
   rcases List.mem_cons.1 hc with rfl|hc
   ·refine ⟨?_,Nat.le_trans (Nat.le_trans F.lo_le h.n) hge⟩
    cases hF:F.blk c with
    | none=>rfl
    | some o' =>
     have:=h.bg _ _ hF
     have:=(Array.getElem?_eq_some_iff.1 this).1
     omega
   ·exact hg.sep c hc
theorem cE {α:Type} {E:Enc α} {l:List α} {T:TypeId} {f:FuncId} {xs:List Operand} {vs:List Value} {ts:Array TypeId} (hx:l3 M xs=some vs)
  (he:∀ (args:Array Value) (w:World),(callFunc f args).run P w=.ok (.enter f args) w)
  (hc:∀ w,HpOK F L w→Calls P f vs.toArray w fun e w'=>∃ V,e=.returned V∧Ext w w'∧dY w w' T E l V) (hd:Nat.ble (d+1) N=true)
  (K:∀ V,Tr N F (rowE V T E l :: L) ((d,V) :: M) (wpList P ops Q rest)) :
  Tr N F L M (wpList P ops Q (⟨some d,.call { callee:=.value (.func f),args:=xs.toArray,argTypes:=ts },ty,pos,after,none⟩ :: rest)):=by
 intro a w ha hw
 refine wpList_plain rfl fun K' hK=>?_
 have hr:(execOp a.eval ⟨some d,.call { callee:=.value (.func f),args:=xs.toArray,argTypes:=ts },ty,pos,after,none⟩).run P w=.ok (.enter f vs.toArray) w:=by
  have:=ha.evals hx
  simp [execOp,resolve,Deferred.ofValue,Act.eval,invoke,he,this]
 unfold Oper.wp
 rw [hr]
 refine (hc w hw).mono fun e w' ⟨V,h1,h2,h3⟩=>?_
 subst h1
 exact hK _ _ (K V _ _ (ha.put (Nat.le_of_ble_eq_true hd)) (hw.newRow h2 h3))
end
def lN:Nat→List Value→Fr
 | _,[]=>[(mk0,undef)]
 | n,v :: vs=>(n,v) :: lN (n+1) vs
theorem qN:∀ (vs:List Value) (n t:Nat) (v:Value),look (lN n vs) t=some v→(n≤t∧vs[t - n]?=some v)∨(t=mk0∧v=undef)
 | [],n,t,v,h=>by
  simp only [lN,cL] at h
  by_cases e:mk0=t
  ·simp only [e,if_true] at h; cases h; exact .inr ⟨e.symm,rfl⟩
  ·simp only [e,if_false] at h; simp [look] at h
 | u :: vs,n,t,v,h=>by
  simp only [lN,cL] at h
  by_cases e:n=t
  ·subst e; simp only [if_true] at h; cases h; simp
  ·simp only [e,if_false] at h
   rcases qN vs (n+1) t v h with this|this
   ·refine .inl ⟨by omega,?_⟩
    rw [show t - n=(t - (n+1))+1 by omega]
    simpa using this.2
   ·exact .inr this
theorem ob {args:List Value} {N:Nat} {tmps:Array Value} (ht:tmps=args.toArray ++ Array.replicate (N - args.length) undef) (hle:Nat.ble args.length N=true) (hN:Nat.ble N mk0=true):FrOK N (lN 0 args) { tmps:=tmps,defers:=[] }:=by
 subst ht
 have h1:=Nat.le_of_ble_eq_true hle
 have h2:=Nat.le_of_ble_eq_true hN
 refine ⟨fun _=>rfl,fun D hD=>?_,by simp; omega,h2,fun t v hv=>?_⟩
 ·rcases qN args 0 _ _ hD with h|⟨h,_⟩
  ·have:=(List.getElem?_eq_some_iff.1 h.2).1
   omega
  ·omega
 rcases qN args 0 t v hv with h|⟨rfl,rfl⟩
 ·have h3:=h.2
  simp only [Nat.sub_zero] at h3
  rw [Array.getD_eq_getD_getElem?,Array.getElem?_append_left (by simpa using (List.getElem?_eq_some_iff.1 h3).1)]
  simp [h3]
 ·rw [Array.getD_eq_getD_getElem?,Array.getElem?_eq_none (by simp; omega)]; rfl
section
variable {P:Program}
theorem enter {f:FuncId} {fn:Func} {c:Code} {N:Nat} {args:List Value} {w:World} {R:Ending→World→Prop} (hf:P.funcs[f]?=some fn) (hb:fn.body=some c) (hN:fn.ntmps=N) (hle:Nat.ble args.length N=true)
  (h:Tr N (Bg.of w) [] (lN 0 args) (c.wp P (bodyPost P fn R))) (hN0:Nat.ble N mk0=true:=by rfl):Calls P f args.toArray w R :=
 calls_of_wp hf hb (h _ w (ob (by rw [hN]; simp) hle hN0) (HpOK.start w))
theorem aM {N:Nat} {F:Bg} {L:List Ent} {M:Fr} {fn:Func} {R:Ending→World→Prop} {t:Tmp} {v:Value} (hr:fn.results=#[.tmp t]) (hv:look M t=some v) (h:∀ w,HpOK F L w→R (.returned v) w) (hD:look M mk0=some undef:=by rfl) :
  Tr N F L M (bodyPost P fn R .ret):=fun a w ha hw=>⟨ha.defers0 hD,v,by rw [results_tmp hr,ha.val t v hv],h w hw⟩
theorem cG {N:Nat} {F:Bg} {L:List Ent} {M:Fr} {fn:Func} {R:Ending→World→Prop} {t u:Tmp} {v v':Value} (hr:fn.results=#[.tmp t,.tmp u]) (hv:look M t=some v) (hv':look M u=some v') (h:∀ w,HpOK F L w→R (.returned (.tuple #[v,v'])) w) (hD:look M mk0=some undef:=by rfl) :
  Tr N F L M (bodyPost P fn R .ret):=fun a w ha hw=>⟨ha.defers0 hD,_,results_tmp2 hr a.tmps P w,by rw [ha.val t v hv,ha.val u v' hv']; exact h w hw⟩
theorem eC {N:Nat} {F:Bg} {L:List Ent} {M:Fr} {fn:Func} {R:Ending→World→Prop} {t u s:Tmp} {v v' v'':Value} (hr:fn.results=#[.tmp t,.tmp u,.tmp s]) (hv:look M t=some v) (hv':look M u=some v') (hv'':look M s=some v'') (h:∀ w,HpOK F L w→R (.returned (.tuple #[v,v',v''])) w) (hD:look M mk0=some undef:=by rfl) :
  Tr N F L M (bodyPost P fn R .ret):=fun a w ha hw=>⟨ha.defers0 hD,_,(by simp [results,hr]; rfl),by
   have h1:=ha.val t v hv; have h2:=ha.val u v' hv'; have h3:=ha.val s v'' hv''
   simp only [Array.getD_eq_getD_getElem?] at h1 h2 h3
   first
    | (simp only [h1,h2,h3]; exact h w hw)
    | (rw [h1,h2,h3]; exact h w hw)⟩
theorem nA {N:Nat} {F:Bg} {L:List Ent} {M:Fr} {fn:Func} {R:Ending→World→Prop} (hr:fn.results=#[]) (h:∀ w,HpOK F L w→R (.returned (.tuple #[])) w) (hD:look M mk0=some undef:=by rfl) :
  Tr N F L M (bodyPost P fn R .ret):=fun a w ha hw=>⟨ha.defers0 hD,_,results_none hr a.tmps P w,h w hw⟩
theorem fy {N:Nat} {F:Bg} {L:List Ent} {M:Fr} {fn:Func} {R:Ending→World→Prop} (hr:fn.results=#[]) (h:∀ w,HpOK F L w→R (.returned (.tuple #[])) w) (hD:look M mk0=some undef:=by rfl) :
  Tr N F L M (bodyPost P fn R .normal):=fun a w ha hw=>⟨ha.defers0 hD,_,results_none hr a.tmps P w,h w hw⟩
end
section
variable {P:Program} {ops:Array Oper} {md:Region.Mode} {C:World→Prop}
def uT (P:Program) (md:Region.Mode) (ops:Array Oper) (C:World→Prop) (n:Nat) (X:Array Bool→Act→Prop):Nat→Array Bool→Act→Prop
 | 0,listed,a=>X listed a
 | f+1,listed,a=>Region.ready md ops listed≠[]∧∀ i∈Region.ready md ops listed,i<n∧qOp P ops C i (uT P md ops C n X f (listed.setIfInBounds i true)) a
theorem Ax {n g:Nat} {X:Array Bool→Act→Prop} {Q:Exit→Act→World→Prop} (hX:∀ listed a w,C w→X listed a→wpAny P md ops Q g listed a w) :
  ∀ (f:Nat) (listed:Array Bool) (a:Act) (w:World),C w→uT P md ops C n X f listed a→wpAny P md ops Q (f+g) listed a w:=by
 intro f
 induction f with
 | zero=>intro listed a w hw h; rw [Nat.zero_add]; exact hX _ _ _ hw h
 | succ f ih =>
  intro listed a w hw h
  rw [Nat.add_right_comm]
  exact ⟨fun h0=>absurd h0 h.1,fun i hi=>wpOp_of_qOp hw (fun a' w' hw'=>ih _ a' w' hw') (h.2 i hi).2⟩
def IB (md:Region.Mode) (ops:Array Oper) (p n:Nat):Bool :=
 (List.range n).all fun i=>decide (i<p) || (List.range (n+1)).any fun j=>decide (i<j) && Region.waitsFor md ops j i
theorem tail_waits {p n:Nat} {listed:Array Bool} (hs:IB md ops p n=true) (hc:Region.chainB md ops n=true) (hn:n<ops.size) (inv:HeadInv md ops n listed) :
  ∀ (d i:Nat),n - i=d→p≤i→i<n→listed.getD i true=false→∀ t,n≤t→t ∉ Region.ready md ops listed:=by
 intro d
 induction d using Nat.strongRecOn with
 | _ d ih =>
  intro i hd hpi hi hun t ht hr
  obtain ⟨_,ot,hot,hall⟩:=mem_ready.1 hr
  have htlt:t<ops.size:=(Array.getElem?_eq_some_iff.1 hot).1
  rcases Nat.eq_or_lt_of_le ht with rfl|htn
  ·have h1:=List.all_eq_true.1 hs i (List.mem_range.2 hi)
   simp only [Bool.or_eq_true,decide_eq_true_eq] at h1
   rcases h1 with h1|h1
   ·omega
   obtain ⟨j,hj,hj2⟩:=List.any_eq_true.1 h1
   simp only [Bool.and_eq_true,decide_eq_true_eq] at hj2
   obtain ⟨oj,hoj,e,he,hb,hon⟩:=Region.waitsFor_spec hj2.2
   have hjle:j≤n:=by have:=List.mem_range.1 hj; omega
   have wait:∀ o',ops[j]?=some o'→listed.getD j false=true→False:=fun o' ho' hl=>by
    obtain rfl:oj=o':=Option.some.inj (hoj.symm.trans ho')
    have h2:=inv.closed j oj hoj hl e he hb
    rw [hon,getD_both hun] at h2
    cases h2
   rcases Nat.eq_or_lt_of_le hjle with rfl|hjn
   ·obtain rfl:oj=ot:=Option.some.inj (hoj.symm.trans hot)
    have h2:=hall e he hb
    rw [hon,getD_both hun] at h2
    cases h2
   ·cases hl:listed.getD j false with
    | true=>exact wait oj hoj hl
    | false=>exact ih (n - j) (by omega) j rfl (by omega) hjn (getD_in (by rw [inv.size]; omega) hl) n (Nat.le_refl _) hr
  ·have h1:=List.all_eq_true.1 hc t (List.mem_range.2 htlt)
   simp only [Bool.or_eq_true,decide_eq_true_eq] at h1
   rcases h1 with h1|h1
   ·omega
   ·obtain ⟨o',ho',e,he,hb,hon⟩:=Region.waitsFor_spec h1
    obtain rfl:o'=ot:=Option.some.inj (ho'.symm.trans hot)
    have h2:=hall e he hb
    rw [hon,getD_both (inv.tail (t - 1) (by omega) (by omega))] at h2
    cases h2
theorem C3 {p n i:Nat} {oi:Oper} {v:Value} {X:Array Bool→Act→Prop} (hi:ops[i]?=some oi) (hsel:∀ (j:Nat) (o:Oper) cs b,ops[j]?=some o→o.op≠.select cs b)
  (hs:IB md ops p n=true) (hc:Region.chainB md ops n=true) (hn:n<ops.size) (hpi:p≤i) (hin:i<n) (hdone:∀ listed a,X listed a→∀ j∈Region.ready md ops listed,n≤j) :
  ∀ (f:Nat) (listed:Array Bool) (a:Act),HeadInv md ops n listed →
   (∀ j oj,ops[j]?=some oj→j≠i→listed.getD j true=false→(∀ e∈oj.after,Region.binds md e=true→e.on≠i)→oi.apart ops oj=true) →
   i∈Region.ready md ops listed→YieldsIn P ops C oi v a→uT P md ops C n X f (listed.setIfInBounds i true) (a.put oi.dst v)→uT P md ops C n X (f+1) listed a:=by
 intro f
 induction f with
 | zero =>
  intro listed a inv _ hr hy H
  refine ⟨fun h=>(by rw [h] at hr; cases hr),fun j hj=>?_⟩
  have hjn:j<n:=by
   refine Nat.lt_of_not_le fun hle=>?_
   exact tail_waits hs hc hn inv _ i rfl hpi hin (mem_ready.1 hr).1 j hle hj
  refine ⟨hjn,?_⟩
  by_cases hji:j=i
  ·subst hji; exact hy.qOp hi H
  ·exact absurd (hdone _ _ H j (ready_mono hj hji)) (by omega)
 | succ f ih =>
  intro listed a inv hfree hr hy H
  refine ⟨fun h=>(by rw [h] at hr; cases hr),fun j hj=>?_⟩
  have hjn:j<n:=by
   refine Nat.lt_of_not_le fun hle=>?_
   exact tail_waits hs hc hn inv _ i rfl hpi hin (mem_ready.1 hr).1 j hle hj
  refine ⟨hjn,?_⟩
  by_cases hji:j=i
  ·subst hji; exact hy.qOp hi H
  ·obtain ⟨hjun,oj,hoj,hall⟩:=mem_ready.1 hj
   have hap:oi.apart ops oj=true:=hfree j oj hoj hji hjun fun e he hb heq=>by
    have h1:=hall e he hb
    rw [heq,getD_both (mem_ready.1 hr).1] at h1
    cases h1
   have h2:=qOp_put hoj hap (fun cs b=>hsel i oi cs b hi) (fun cs b=>hsel j oj cs b hoj) hy (H.2 j (ready_mono hj hji)).2
   refine qOp_mono (fun a' h3=>ih (listed.setIfInBounds j true) a' (inv.set hj hjn) (fun k ok hk hki hun hno=>?_) (ready_mono hr (Ne.symm hji)) h3.1 (by rw [Array.setIfInBounds_comm _ _ hji]; exact h3.2)) h2
   refine hfree k ok hk hki ?_ hno
   by_cases hjk:j=k
   ·subst hjk; exact hjun
   ·rwa [getD_set_ne true hjk] at hun
theorem Fa {p n g:Nat} {Y:Act→Prop} (hsel:Region.noSelect ops=true) (hs:IB md ops p n=true) (hc:Region.chainB md ops n=true) (hn:n<ops.size) :
  ∀ (l:List Oper) (k:Nat) (listed:Array Bool) (a:Act),p≤k→(∀ j,j<l.length→l[j]?=ops[k+j]?)→k+l.length=n→HeadInv md ops n listed →
   Region.lexHead md ops g l.length k listed=true→wpQuiet P ops C Y l a→uT P md ops C n (fun listed' a'=>Region.seqB md ops g n listed'=true∧Y a') l.length listed a:=by
 intro l
 induction l with
 | nil =>
  intro k listed a _ _ hk inv hB h
  obtain rfl:k=n:=by simpa using hk
  exact ⟨by simpa [Region.lexHead] using hB,h⟩
 | cons o l ih =>
  intro k listed a hpk hl hk inv hB h
  have h0:ops[k]?=some o:=by simpa using (hl 0 (by simp)).symm
  simp only [List.length_cons,Region.lexHead,Bool.and_eq_true] at hB hk
  have hr:k∈Region.ready md ops listed:=by simpa using hB.1.1
  have hst:qOp P ops C k (wpQuiet P ops C Y l) a:=by unfold qOp; simp only [h0]; exact h
  obtain ⟨v,hy,hK⟩:=yieldsIn_of_qOp h0 hst
  refine C3 h0 (Region.noSelect_spec hsel) hs hc hn hpk (by omega) (fun listed' a' hX=>seqB_ready hX.1) l.length listed a inv (Region.free_spec h0 hB.1.2) hr hy ?_
  exact ih (k+1) _ _ (by omega) (fun j hj=>by have:=hl (j+1) (by simp; omega); simpa [Nat.add_assoc,Nat.add_comm 1 j] using this) (by omega) (inv.set hr (by omega)) hB.2 hK
def m9 (P:Program) (ops:Array Oper) (Y:Act→Prop):List Oper→Act→Prop
 | [],a=>Y a
 | o :: rest,a=>∃ v,Yields P ops o v a∧m9 P ops Y rest (a.put o.dst v)
def xE (md:Region.Mode) (ops:Array Oper) (X:Array Bool→Bool):Nat→Nat→Array Bool→Bool
 | 0,_,listed=>X listed
 | f+1,k,listed=>(Region.ready md ops listed).contains k && Region.free md ops listed k && xE md ops X f (k+1) (listed.setIfInBounds k true)
theorem Hf {n:Nat} {Q:Exit→Act→World→Prop} {X:Array Bool→Bool} {Y:Act→Prop} {w:World} {fuel:Nat} (hsel:Region.noSelect ops=true) (hQ:∀ c a d v w,Q (.panic c) (a.put d v) w→Q (.panic c) a w)
  (hY:∀ listed a,HeadInv md ops n listed→X listed=true→Y a→wpAny P md ops Q fuel listed a w) :
  ∀ (l:List Oper) (k:Nat) (listed:Array Bool) (a:Act),(∀ j,j<l.length→l[j]?=ops[k+j]?)→k+l.length≤n→HeadInv md ops n listed→xE md ops X l.length k listed=true→m9 P ops Y l a →
   wpAny P md ops Q (l.length+fuel) listed a w:=by
 intro l
 induction l with
 | nil=>intro k listed a _ _ inv hB h; rw [List.length_nil,Nat.zero_add]; exact hY _ _ inv hB h
 | cons o l ih =>
  intro k listed a hl hk inv hB h
  have h0:ops[k]?=some o:=by simpa using (hl 0 (by simp)).symm
  simp only [List.length_cons,xE,Bool.and_eq_true] at hB hk
  have hr:k∈Region.ready md ops listed:=by simpa using hB.1.1
  obtain ⟨v,hy,hK⟩:=h
  rw [List.length_cons,Nat.add_right_comm]
  refine wpAny_first h0 (Region.noSelect_spec hsel) (fun c a w hq=>hQ c a _ _ w hq) _ listed a w (Region.free_spec h0 hB.1.2) hr hy ?_
  exact ih (k+1) _ _ (fun j hj=>by have:=hl (j+1) (by simp; omega); simpa [Nat.add_assoc,Nat.add_comm 1 j] using this) (by omega) (inv.set hr (by omega)) hB.2 hK
def headB (ops:Array Oper) (p n:Nat):Bool :=
 Region.noSelect ops && decide (n<ops.size) && decide (p≤n) && IB .any ops p n && Region.chainB .any ops n &&
  xE .any ops (fun listed=>Region.lexHead .any ops (ops.size - n) (n - p) p listed) p 0 (Array.replicate ops.size false)
theorem ye {id p n:Nat} {Q:Exit→Act→World→Prop} {a:Act} {w:World} {l:List Oper} (hm:P.follows .mixedOrders=true) (hB:headB l.toArray p n=true) (hQ:∀ c a d v w,Q (.panic c) (a.put d v) w→Q (.panic c) a w) (hC:C w.drew)
  (h:m9 P l.toArray (wpQuiet P l.toArray C (fun a'=>∀ w',C w'→wpList P l.toArray Q (l.drop n) a' w') ((l.take n).drop p)) (l.take p) a):(Code.region id l.toArray true).wp P Q a w:=by
 simp only [headB,Bool.and_eq_true,decide_eq_true_eq] at hB
 obtain ⟨⟨⟨⟨⟨hsel,hn⟩,hpn⟩,hs⟩,hc⟩,hlex⟩:=hB
 have hn':n<l.length:=by simpa using hn
 have htp:(l.take p).length=p:=by simp; omega
 have htl:((l.take n).drop p).length=n - p:=by simp; omega
 have hdl:(l.drop n).length=l.toArray.size - n:=by simp
 have inv0:HeadInv .any l.toArray n (Array.replicate l.toArray.size false) :=
  ⟨by simp,fun j oj _ hl=>(by rw [getD_replicate_false] at hl; cases hl),fun t _ ht=>getD_in (by simpa using ht) (getD_replicate_false _ _)⟩
 refine wp_region_any hm ?_
 have key:=Hf (P:=P) (ops:=l.toArray) (md:=.any) (n:=n) (Q:=Q) (w:=w.drew) (fuel:=(n - p)+(l.toArray.size - n)) (X:=fun listed=>Region.lexHead .any l.toArray (l.toArray.size - n) (n - p) p listed)
  (Y:=wpQuiet P l.toArray C (fun a'=>∀ w',C w'→wpList P l.toArray Q (l.drop n) a' w') ((l.take n).drop p)) hsel hQ (fun listed a' inv hX hY=>by
   have H:=Fa (md:=.any) (p:=p) (g:=l.toArray.size - n) hsel hs hc hn ((l.take n).drop p) p listed a' (Nat.le_refl _) (fun j hj=>by
    rw [htl] at hj
    rw [List.getElem?_drop,List.getElem?_take,if_pos (by omega)]
    simp) (by rw [htl]; omega) inv (by rw [htl]; exact hX) hY
   rw [htl] at H
   exact Ax (Q:=Q) (g:=l.toArray.size - n) (fun listed a' w' hw' hX=>by
    have:=wpAny_of_seq (md:=.any) (Q':=Q) (l.drop n) n listed a' w' (fun j=>by simp [List.getElem?_drop]) (by rw [hdl]; exact hX.1) (hX.2 w' hw')
    rwa [hdl] at this) _ _ _ _ hC H)
  (l.take p) 0 (Array.replicate l.toArray.size false) a (fun j hj=>by rw [htp] at hj; simp [hj]) (by rw [htp]; omega) inv0 (by rw [htp]; exact hlex) h
 rw [htp,show p+((n - p)+(l.toArray.size - n))=l.toArray.size by omega] at key
 exact key
end
section
variable {P:Program} {ops:Array Oper} {Q:Exit→Act→World→Prop} {Y:Act→Prop} {N:Nat} {F:Bg} {L:List Ent} {M:Fr} {rest:List Oper} {d:Nat} {op:Op} {ty:TypeId} {pos:String} {after:Array Edge}
theorem Ie {id:Nat} {l:List Oper} (hm:P.follows .mixedOrders=true) (hB:Region.lexB .any l.toArray=true)
  (h:TrQ N M (wpQuiet P l.toArray (HpOK F L) (fun a'=>∀ w',HpOK F L w'→Q .normal a' w') l)):Tr N F L M ((Code.region id l.toArray true).wp P Q) :=
 fun a w ha hw=>wp_region_quiet (C:=HpOK F L) hm hB hw.drew (by simpa using h a ha)
theorem eU {id:Nat} {l:List Oper} (hm:P.follows .mixedOrders=true) (h:TrQ N M (wpQuiet P l.toArray (HpOK F L) (fun a'=>∀ w',HpOK F L w'→Q .normal a' w') l)) (hB:Region.lexB .any l.toArray=true:=by kernel_rfl):Tr N F L M ((Code.region id l.toArray true).wp P Q):=Ie hm hB h
theorem Ic {id:Nat} {l:List Oper} (p n:Nat) (hm:P.follows .mixedOrders=true) (hB:headB l.toArray p n=true) (hQ:∀ c a d v w,Q (.panic c) (a.put d v) w→Q (.panic c) a w)
  (h:TrQ N M (m9 P l.toArray (wpQuiet P l.toArray (HpOK F L) (fun a'=>∀ w',HpOK F L w'→wpList P l.toArray Q (l.drop n) a' w') ((l.take n).drop p)) (l.take p))):Tr N F L M ((Code.region id l.toArray true).wp P Q) :=
 fun a w ha hw=>ye (C:=HpOK F L) hm hB hQ hw.drew (h a ha)
theorem dO {id:Nat} {l:List Oper} (p n:Nat) (hm:P.follows .mixedOrders=true) (h:TrQ N M (m9 P l.toArray (wpQuiet P l.toArray (HpOK F L) (fun a'=>∀ w',HpOK F L w'→wpList P l.toArray Q (l.drop n) a' w') ((l.take n).drop p)) (l.take p))) (hB:headB l.toArray p n=true:=by kernel_rfl) (hQ:∀ c a d v w,Q (.panic c) (a.put d v) w→Q (.panic c) a w:=by intro c a d v w h; first|(cases d<;>exact h)|cases h.1):Tr N F L M ((Code.region id l.toArray true).wp P Q):=Ic p n hm hB hQ h
theorem ax {X:Act→Prop} (h:TrQ N M X):TrQ N M (m9 P ops X []):=fun a ha=>h a ha
theorem Dm {X:Act→Prop} {x:Operand} {v:Value} (hx:opv M x=some v) (hd:Nat.ble (d+1) N=true) (k:TrQ N ((d,v) :: M) (m9 P ops X rest)) :
  TrQ N M (m9 P ops X (⟨some d,.move x,ty,pos,after,none⟩ :: rest)):=fun a ha =>
 ⟨v,.inl ⟨by simp [Region.wanted],fun w=>by simp [execOp,ha.eval hx]⟩,k _ (ha.put (Nat.le_of_ble_eq_true hd))⟩
theorem dN {X:Act→Prop} {x:Operand} {v:Value} (hx:opv M x=some v) (k:TrQ N ((d,v) :: M) (m9 P ops X rest)) (hd:Nat.ble (d+1) N=true:=by rfl):TrQ N M (m9 P ops X (⟨some d,.move x,ty,pos,after,none⟩ :: rest)):=Dm hx hd k
theorem aY {K:Act→World→Prop} (h:∀ c a d v w,Q (.panic c) (a.put d v) w→Q (.panic c) a w):∀ c a d v w,Exit.then K Q (.panic c) (a.put d v) w→Exit.then K Q (.panic c) a w:=h
theorem eF {id:Nat} (h:∀ c a d v w,Q (.panic c) (a.put d v) w→Q (.panic c) a w):∀ c a d v w,Exit.inBlock id Q (.panic c) (a.put d v) w→Exit.inBlock id Q (.panic c) a w:=h
theorem cX {fn:Func} {R:Ending→World→Prop}:∀ c a d v w,bodyPost P fn R (.panic c) (a.put d v) w→bodyPost P fn R (.panic c) a w:=fun c a d v w h=>by
 cases d<;>exact h
theorem im {X:Act→World→Prop} (h:Tr N F L M X):TrQ N M (wpQuiet P ops (HpOK F L) (fun a'=>∀ w',HpOK F L w'→X a' w') []):=fun a ha w hw=>h a w ha hw
theorem Ny {v:Value} (h:QS P N F L M ⟨some d,op,ty,pos,after,none⟩ v) (hd:Nat.ble (d+1) N=true)
  (k:TrQ N ((d,v) :: M) (wpQuiet P ops (HpOK F L) Y rest)):TrQ N M (wpQuiet P ops (HpOK F L) Y (⟨some d,op,ty,pos,after,none⟩ :: rest)):=by
 intro a ha
 refine wpQuiet_step fun K hK=>?_
 rw [if_pos (by simp [Region.wanted])]
 exact ⟨v,fun w hw=>h a w ha hw,hK _ (k _ (ha.put (Nat.le_of_ble_eq_true hd)))⟩
theorem aw {v:Value} (h:QS P N F L M ⟨some d,op,ty,pos,after,none⟩ v) (k:TrQ N ((d,v) :: M) (wpQuiet P ops (HpOK F L) Y rest)) (hd:Nat.ble (d+1) N=true:=by rfl):TrQ N M (wpQuiet P ops (HpOK F L) Y (⟨some d,op,ty,pos,after,none⟩ :: rest)):=Ny h hd k
theorem Dn {v:Value} {j t:Nat} {b b':Bool} (hj:(ops[j]?).bind (·.dst)=some t) (ht:look M t=some (.bool b')) (hb:b'=b) (h:QS P N F L M ⟨some d,op,ty,pos,after,some (j,b)⟩ v) (hd:Nat.ble (d+1) N=true)
  (k:TrQ N ((d,v) :: M) (wpQuiet P ops (HpOK F L) Y rest)):TrQ N M (wpQuiet P ops (HpOK F L) Y (⟨some d,op,ty,pos,after,some (j,b)⟩ :: rest)):=by
 intro a ha
 refine wpQuiet_step fun K hK=>?_
 rw [if_pos (by simp [Region.wanted,nM ha hj ht,hb])]
 exact ⟨v,fun w hw=>h a w ha hw,hK _ (k _ (ha.put (Nat.le_of_ble_eq_true hd)))⟩
theorem db {v:Value} {j t:Nat} {b b':Bool} (hb:b'=b) (h:QS P N F L M ⟨some d,op,ty,pos,after,some (j,b)⟩ v) (k:TrQ N ((d,v) :: M) (wpQuiet P ops (HpOK F L) Y rest)) (hj:(ops[j]?).bind (·.dst)=some t:=by rfl) (ht:look M t=some (.bool b'):=by rfl) (hd:Nat.ble (d+1) N=true:=by rfl):TrQ N M (wpQuiet P ops (HpOK F L) Y (⟨some d,op,ty,pos,after,some (j,b)⟩ :: rest)):=Dn hj ht hb h hd k
theorem qi {j t:Nat} {b b':Bool} (hj:(ops[j]?).bind (·.dst)=some t) (ht:look M t=some (.bool b')) (hb:b'=!b) (hd:Nat.ble (d+1) N=true)
  (k:TrQ N ((d,undef) :: M) (wpQuiet P ops (HpOK F L) Y rest)):TrQ N M (wpQuiet P ops (HpOK F L) Y (⟨some d,op,ty,pos,after,some (j,b)⟩ :: rest)):=by
 intro a ha
 refine wpQuiet_step fun K hK=>?_
 rw [if_neg (by simp [Region.wanted,nM ha hj ht,hb])]
 exact hK _ (k _ (ha.put (Nat.le_of_ble_eq_true hd)))
theorem Q3 {j t:Nat} {b b':Bool} (hb:b'=!b) (k:TrQ N ((d,undef) :: M) (wpQuiet P ops (HpOK F L) Y rest)) (hj:(ops[j]?).bind (·.dst)=some t:=by rfl) (ht:look M t=some (.bool b'):=by rfl) (hd:Nat.ble (d+1) N=true:=by rfl):TrQ N M (wpQuiet P ops (HpOK F L) Y (⟨some d,op,ty,pos,after,some (j,b)⟩ :: rest)):=qi hj ht hb hd k
theorem dX {j t:Nat} {b:Bool} (hj:(ops[j]?).bind (·.dst)=some t) (ht:look M t=some undef) (hd:Nat.ble (d+1) N=true)
  (k:TrQ N ((d,undef) :: M) (wpQuiet P ops (HpOK F L) Y rest)):TrQ N M (wpQuiet P ops (HpOK F L) Y (⟨some d,op,ty,pos,after,some (j,b)⟩ :: rest)):=by
 intro a ha
 refine wpQuiet_step fun K hK=>?_
 rw [if_neg (by simp [Region.wanted,sY ha hj ht])]
 exact hK _ (k _ (ha.put (Nat.le_of_ble_eq_true hd)))
theorem yf {C:World→Prop} (l1 l2:List Oper):∀ (a:Act),wpQuiet P ops C (wpQuiet P ops C Y l2) l1 a→wpQuiet P ops C Y (l1 ++ l2) a:=by
 induction l1 with
 | nil=>intro a h; exact h
 | cons o l ih =>
  intro a h
  simp only [List.cons_append]
  unfold wpQuiet at h ⊢
  split
  ·rename_i hw
   rw [if_pos hw] at h
   exact Oper.quiet_mono ih h
  ·rename_i hw
   rw [if_neg hw] at h
   exact ih _ h
theorem B9 {C:World→Prop} {Y':Act→Prop} (hq:∀ a,Y a→Y' a):∀ (l:List Oper) (a:Act),wpQuiet P ops C Y l a→wpQuiet P ops C Y' l a:=by
 intro l
 induction l with
 | nil=>intro a h; exact hq _ h
 | cons o l ih =>
  intro a h
  unfold wpQuiet at h ⊢
  split
  ·rename_i hw
   rw [if_pos hw] at h
   exact Oper.quiet_mono ih h
  ·rename_i hw
   rw [if_neg hw] at h
   exact ih _ h
theorem BU {l:List Oper} (k:Nat) (M':Fr) (h1:TrQ N M (wpQuiet P ops (HpOK F L) (FrOK N M') (l.take k))) (h2:TrQ N M' (wpQuiet P ops (HpOK F L) Y (l.drop k))):TrQ N M (wpQuiet P ops (HpOK F L) Y l):=by
 intro a ha
 rw [← List.take_append_drop k l]
 exact yf _ _ _ (B9 (fun a' ha'=>h2 a' ha') _ _ (h1 a ha))
theorem vd {M':Fr} (hM:Sub M M'):TrQ N M (wpQuiet P ops (HpOK F L) (FrOK N M') []):=fun _ ha=>ha.sub hM.look
theorem Jb {l:List Oper} {t:Nat} (k:Nat) {x y:Bool} (_hx:look M t=some (.bool x)) (hT:x=true→TrQ N M (wpQuiet P ops (HpOK F L) (FrOK N ((d,.bool y) :: M)) (l.take k))) (hF:x=false→TrQ N M (wpQuiet P ops (HpOK F L) (FrOK N ((d,.bool false) :: M)) (l.take k)))
  (h2:TrQ N ((d,.bool (x && y)) :: M) (wpQuiet P ops (HpOK F L) Y (l.drop k))):TrQ N M (wpQuiet P ops (HpOK F L) Y l) :=
 BU k _ (by cases x<;>first|exact hT rfl|exact hF rfl) h2
theorem Nz {l:List Oper} {t:Nat} (k:Nat) {x y:Bool} (_hx:look M t=some (.bool x)) (hF:x=false→TrQ N M (wpQuiet P ops (HpOK F L) (FrOK N ((d,.bool y) :: M)) (l.take k))) (hT:x=true→TrQ N M (wpQuiet P ops (HpOK F L) (FrOK N ((d,.bool true) :: M)) (l.take k)))
  (h2:TrQ N ((d,.bool (x || y)) :: M) (wpQuiet P ops (HpOK F L) Y (l.drop k))):TrQ N M (wpQuiet P ops (HpOK F L) Y l) :=
 BU k _ (by cases x<;>first|exact hT rfl|exact hF rfl) h2
theorem Il {l:List Oper} {t:Nat} (k:Nat) {x y:Bool} (_hx:look M t=some (.bool x)) (hT:x=true→Tr N F L M (wpList P ops (Exit.then (fun a w=>FrOK N ((d,.bool y) :: M) a∧HpOK F L w) Q) (l.take k))) (hF:x=false→Tr N F L M (wpList P ops (Exit.then (fun a w=>FrOK N ((d,.bool false) :: M) a∧HpOK F L w) Q) (l.take k)))
  (h2:Tr N F L ((d,.bool (x && y)) :: M) (wpList P ops Q (l.drop k))):Tr N F L M (wpList P ops Q l) :=
 Gm k _ _ (by cases x<;>first|exact hT rfl|exact hF rfl) h2
theorem BW {l:List Oper} {t:Nat} (k:Nat) {x y:Bool} (_hx:look M t=some (.bool x)) (hF:x=false→Tr N F L M (wpList P ops (Exit.then (fun a w=>FrOK N ((d,.bool y) :: M) a∧HpOK F L w) Q) (l.take k))) (hT:x=true→Tr N F L M (wpList P ops (Exit.then (fun a w=>FrOK N ((d,.bool true) :: M) a∧HpOK F L w) Q) (l.take k)))
  (h2:Tr N F L ((d,.bool (x || y)) :: M) (wpList P ops Q (l.drop k))):Tr N F L M (wpList P ops Q l) :=
 Gm k _ _ (by cases x<;>first|exact hT rfl|exact hF rfl) h2
end
def isNil:Value→Bool
 | .slice none _ _=>true
 | _=>false
section
variable {P:Program} {ops:Array Oper} {Q:Exit→Act→World→Prop} {N:Nat} {F:Bg} {L:List Ent} {M:Fr} {dst:Option Tmp} {ty:TypeId} {pos:String} {after:Array Edge} {g:Option (Nat × Bool)} {rest:List Oper} {d:Nat}
theorem Sl.isNil {α:Type} {h:Hp} {E:Enc α} {l:List α} {V:Value} (s:Sl h E l V) (hn:HL.isNil V=true):l=[]:=by
 obtain ⟨a,c,rfl,_,_,h3⟩:=s.shape
 cases a with
 | none =>
  by_cases hl:l=[]
  ·exact hl
  ·have:=h3 hl; cases this
 | some a=>simp [HL.isNil] at hn
theorem AC {op:BinOp} {t:TypeId} {x y:Operand} {V:Value} {a:Option Addr} {n c:Nat} (w:World) (hV:V=.slice a n c) (V':Value):(eqGuard op t x y V V').run P w=.ok () w:=by
 subst hV
 unfold eqGuard
 cases op<;>cases V'<;>rfl
theorem K5 {x:Operand} {t e u:TypeId} {V:Value} {n c:Nat} (hx:opv M x=some V) (hV:∀ w,HpOK F L w→∃ a n c,V=.slice a n c) (ht:P.underlying t=some (.slice e)) :
  QS P N F L M ⟨dst,.binOp .eql t x (.const (.slice none n c)) u,ty,pos,after,g⟩ (.bool (isNil V)) :=
 bQ fun A w ha hw=>by
  obtain ⟨a,n',c',hV'⟩:=hV w hw
  have hg:=AC (P:=P) (op:=.eql) (t:=t) (x:=x) (y:=.const (.slice none n c)) w hV' (.slice none n c)
  have hc:A.eval (.const (.slice none n c))=.slice none n c:=rfl
  subst hV'
  simp only [execOp,ha.eval hx,hc,Sem.run_bind,hg,Result.andThen_ok,Lib.run_eql_slice_nil w t e a n' c' n c ht,Sem.run_pure]
  cases a<;>rfl
theorem uc {α:Type} {E:Enc α} {l:List α} {x:Operand} {t e u:TypeId} {V:Value} {n c:Nat} (hx:opv M x=some V) (hs:Sl F.blk E l V) (ht:P.underlying t=some (.slice e)) :
  QS P N F L M ⟨dst,.binOp .eql t x (.const (.slice none n c)) u,ty,pos,after,g⟩ (.bool (isNil V)) :=
 K5 hx (fun _ _=>let ⟨a,c,h,_⟩:=hs.shape; ⟨a,_,c,h⟩) ht
theorem fB {fn:Fn} {xs ys:List Operand} {us vs:List Value} (hx:l3 M xs=some us) (hy:l3 M ys=some vs) :
  QS P N F L M ⟨dst,.makeFunc fn xs.toArray ys.toArray,ty,pos,after,g⟩ (.func fn us.toArray vs.toArray) :=
 bQ fun A w ha hw=>by
  simp [execOp,Instr.makeFunc,ha.evals hx,ha.evals hy]
theorem KJ {fo:Operand} {f:FuncId} {cb:List Value} {xs:List Operand} {vs:List Value} {ts:Array TypeId} {a:Act} {w:World} (ha:FrOK N M a) (hf:opv M fo=some (.func (.func f) #[] cb.toArray)) (hx:l3 M xs=some vs)
  (he:∀ (args:Array Value) (w:World),(callFunc f args).run P w=.ok (.enter f args) w) :
  (execOp a.eval ⟨dst,.call { callee:=.value fo,args:=xs.toArray,argTypes:=ts },ty,pos,after,g⟩).run P w=.ok (.enter f (vs ++ cb).toArray) w:=by
 have h1:=ha.evals hx
 have h2:=ha.eval hf
 simp [execOp,resolve,Deferred.ofValue,invoke,he,h1,h2]
theorem i6 {fo:Operand} {f:FuncId} {cb:List Value} {xs:List Operand} {vs:List Value} {ts:Array TypeId} {v:Value} (hf:opv M fo=some (.func (.func f) #[] cb.toArray)) (hx:l3 M xs=some vs)
  (he:∀ (args:Array Value) (w:World),(callFunc f args).run P w=.ok (.enter f args) w)
  (hc:∀ w,HpOK F L w→Calls P f (vs ++ cb).toArray w fun e w'=>e=.returned v∧Ext w w') :
  QS P N F L M ⟨dst,.call { callee:=.value fo,args:=xs.toArray,argTypes:=ts },ty,pos,after,g⟩ v:=by
 intro a w ha hw
 unfold Oper.quietAt
 rw [KJ ha hf hx he]
 exact ⟨rfl,(hc w hw).mono fun e w' ⟨h1,h2⟩=>⟨h1,hw.grow h2⟩⟩
section
variable {x y:Operand} {t u:TypeId} {m n:ByteArray}
theorem we {a b:ByteArray}:a.toList=b.toList↔a=b:=by
 constructor
 ·intro h
  have:a.data.toList=b.data.toList:=by
   rwa [Go.ByteArray.toList_eq,Go.ByteArray.toList_eq] at h
  cases a; cases b
  simp only [ByteArray.mk.injEq]
  exact Array.toList_inj.1 this
 ·rintro rfl; rfl
theorem NM {op:BinOp} {v:Value} (hx:opv M x=some (.string m)) (hy:opv M y=some (.string n)) (hv:∀ w,(Op.stringOp op m n).run P w=.ok v w) :
  QS P N F L M ⟨dst,.binOp op t x y u,ty,pos,after,g⟩ v :=
 bQ fun A w ha hw=>by
  have he:(eqGuard op t x y (.string m) (.string n)).run P w=.ok () w:=by unfold eqGuard; cases op<;>rfl
  have hb:(binOp op t (.string m) (.string n)).run P w=.ok v w:=by rw [← hv w]; cases op<;>rfl
  simp [execOp,ha.eval hx,ha.eval hy,he,hb]
theorem zV (hx:opv M x=some (.string m)) (hy:opv M y=some (.string n)):QS P N F L M ⟨dst,.binOp .eql t x y u,ty,pos,after,g⟩ (.bool (decide (m=n))) :=
 NM hx hy fun w=>by
  have:(m.toList == n.toList)=decide (m=n):=by
   rw [Bool.eq_iff_iff]; simp [we]
  simp [Op.stringOp,this]
end
theorem GG {x y:Operand} {t u:TypeId} {a b:Bool} (hx:opv M x=some (.bool a)) (hy:opv M y=some (.bool b)) (ht:P.underlying t=some .bool):QS P N F L M ⟨dst,.binOp .eql t x y u,ty,pos,after,g⟩ (.bool (a == b)) :=
 bQ fun A w ha hw=>by
  have he:(eqGuard .eql t x y (.bool a) (.bool b)).run P w=.ok () w:=by unfold eqGuard; rfl
  simp [execOp,ha.eval hx,ha.eval hy,he,run_eql_bool w t a b ht]
theorem sT {x y:Operand} {t:TypeId} {s:ByteArray} {k:IntKind} {i:Int} (hx:opv M x=some (.string s)) (hy:opv M y=some (.int k i)) (ht:P.underlying t=some .string) (hi:0≤i∧i<s.size) :
  QS P N F L M ⟨dst,.index t x y,ty,pos,after,g⟩ (.int .u8 ((s.data.toList.getD i.toNat 0).toNat:Nat)) :=
 bQ fun A w ha hw=>by
  have h1:i.toNat<s.size:=by omega
  have h2:s[i.toNat]?=some (s.data.toList.getD i.toNat 0):=by
   rw [getElem?_pos s i.toNat h1]
   have h3:i.toNat<s.data.size:=h1
   simp only [List.getD_eq_getElem?_getD,Array.getElem?_toList,Option.some.injEq]
   rw [getElem?_pos s.data i.toNat h3]
   rfl
  simp [execOp,ha.eval hx,ha.eval hy,Instr.index,asIntOf,run_underlying ht,hi.1,h2]
theorem ut {t e:TypeId} {k:Nat} (ht:P.underlying t=some (.slice e)) (hz:∀ w,(sizeOf e).run P w=.ok k w) (w:World) {a:Option Addr} {n c:Nat} {lo hi mx:Option Value} {l h m:Nat}
  (hb:∀ w,(Instr.sliceBounds true n c lo hi mx).run P w=.ok (l,h,m) w) :
  (Instr.sliceAt t (.slice a n c) lo hi mx).run P w=.ok (.slice (if m=l then a else a.map (·.add (l * k))) (h - l) (m - l)) w:=by
 simp [Instr.sliceAt,Instr.slice,run_underlying ht,hb,hz]
def mY:Option (IntKind × Int)→Int
 | none=>0
 | some (_,i)=>i
def l4 (n:Nat):Option (IntKind × Int)→Int
 | none=>n
 | some (_,i)=>i
theorem wj {n c:Nat} {lo hi:Option (IntKind × Int)} (w:World) (h0:0≤mY lo) (h1:mY lo≤l4 n hi) (h2:l4 n hi≤c) (h3:n≤c) :
  (Instr.sliceBounds true n c (lo.map fun p=>.int p.1 p.2) (hi.map fun p=>.int p.1 p.2) none).run P w=.ok ((mY lo).toNat,(l4 n hi).toNat,c) w:=by
 have e2:((l4 n hi).toNat:Int)=l4 n hi:=Int.toNat_of_nonneg (by omega)
 cases lo with
 | none =>
  cases hi with
  | none=>simp [Instr.sliceBounds,mY,l4]
  | some q =>
   obtain ⟨kk,i⟩:=q
   simp only [mY,l4] at *
   have hs:=run_sliceBound (P:=P) w kk i c .sliceAcap (by omega) h2
   simp [Instr.sliceBounds,hs]
 | some p =>
  obtain ⟨kp,j⟩:=p
  cases hi with
  | none =>
   simp only [mY,l4] at *
   have hs:=run_sliceBound (P:=P) w kp j n .sliceB h0 h1
   simp [Instr.sliceBounds,hs]
  | some q =>
   obtain ⟨kk,i⟩:=q
   simp only [mY,l4] at *
   have hs:=run_sliceBound (P:=P) w kk i c .sliceAcap (by omega) h2
   have hs2:=run_sliceBound (P:=P) w kp j i.toNat .sliceB h0 (by omega)
   simp [Instr.sliceBounds,hs,hs2]
def Q4 (V:Value) (l h k:Nat):Value :=
 match V with
 | .slice a _ c=>.slice (if c=l then a else a.map (·.add (l * k))) (h - l) (c - l)
 | v=>v
theorem Sl.resl {α:Type} {H:Hp} {E:Enc α} {xs:List α} {V:Value} (s:Sl H E xs V) {l h:Nat} (hl:l≤h) (hh:h≤xs.length):Sl H E ((xs.take h).drop l) (HL.Q4 V l h E.k):=by
 obtain ⟨a,c,rfl,h1,h2,h3⟩:=s.shape
 have hlen:((xs.take h).drop l).length=h - l:=by simp; omega
 refine ⟨⟨(if c=l then a else a.map (·.add (l * E.k))),c - l,by simp [HL.Q4,hlen],by omega,by omega,fun hne=>?_⟩,fun i x hx=>?_⟩
 ·have hlt:l<h:=by
   rcases Nat.lt_or_ge l h with h'|h'
   ·exact h'
   ·exact absurd (List.eq_nil_of_length_eq_zero (by omega)) hne
  have ha:=h3 (by intro e; subst e; simp at hh; omega)
  have hcl:c≠l:=by omega
  simp only [HL.Q4,hcl,if_false]
  rw [ha]
  simp only [Option.map_some,Addr.add_lit,bk,ofs]
 ·have hi:i<h - l:=by rw [← hlen]; exact (List.getElem?_eq_some_iff.1 hx).1
  have ha:=h3 (by intro e; subst e; simp at hh; omega)
  have hcl:c≠l:=by omega
  rw [List.getElem?_drop,List.getElem?_take,if_pos (by omega)] at hx
  have:=s.cells (l+i) x hx
  simp only [bk,ofs] at ha
  have hadd:∀ (b o n:Nat),(⟨b,o,none⟩:Addr).add n=⟨b,o+n,none⟩:=Addr.add_lit
  cases a with
  | none=>cases ha
  | some a =>
   simp only [Option.some.injEq] at ha
   simp only [bk,ofs] at this
   rw [ha] at this ⊢
   simp only [HL.Q4,hcl,if_false,Option.map_some,hadd,bk,ofs]
   rw [show a.off+l * E.k+i * E.k=a.off+(l+i) * E.k by rw [Nat.add_mul]; omega]
   exact this
theorem NN {α:Type} {E:Enc α} {xs:List α} {x:Operand} {lo hi:Option Operand} {lv hv:Option (IntKind × Int)} {t e:TypeId} {V:Value} {k:Nat} (hx:opv M x=some V) (hs:Sl F.blk E xs V)
  (hlo:lo.map (opv M)=lv.map fun p=>some (.int p.1 p.2)) (hhi:hi.map (opv M)=hv.map fun p=>some (.int p.1 p.2))
  (ht:P.underlying t=some (.slice e)) (hz:∀ w,(sizeOf e).run P w=.ok k w) (hk:k=E.k) (h0:0≤mY lv) (h1:mY lv≤l4 xs.length hv) (h2:l4 xs.length hv≤xs.length) :
  QS P N F L M ⟨dst,.slice t x lo hi none,ty,pos,after,g⟩ (HL.Q4 V (mY lv).toNat (l4 xs.length hv).toNat E.k) :=
 bQ fun A w ha hw=>by
  obtain ⟨a,c,rfl,hc1,hc2,_⟩:=hs.shape
  have e1:lo.map A.eval=lv.map fun p=>Value.int p.1 p.2:=by
   cases lo with
   | none=>cases lv<;>simp_all
   | some o =>
    cases lv with
    | none=>simp at hlo
    | some p=>simp only [Option.map_some,Option.some.injEq] at hlo ⊢; exact ha.eval hlo
  have e2:hi.map A.eval=hv.map fun p=>Value.int p.1 p.2:=by
   cases hi with
   | none=>cases hv<;>simp_all
   | some o =>
    cases hv with
    | none=>simp at hhi
    | some p=>simp only [Option.map_some,Option.some.injEq] at hhi ⊢; exact ha.eval hhi
  have hr:=ut (P:=P) ht hz w (a:=a) (n:=xs.length) (c:=c) (fun w=>wj (P:=P) w h0 h1 (by omega) hc1)
  subst hk
  simp only [execOp,ha.eval hx,e1,e2,Option.map_none,Sem.run_bind,hr,Result.andThen_ok,Sem.run_pure]
  rfl
theorem rr {α:Type} {E:Enc α} {xs:List α} {x:Operand} {lo hi:Option Operand} {lv hv:Option (IntKind × Int)} {t e:TypeId} {V:Value} {k:Nat} (hx:opv M x=some V) (hlo:lo.map (opv M)=lv.map fun p=>some (.int p.1 p.2)) (hhi:hi.map (opv M)=hv.map fun p=>some (.int p.1 p.2)) (ht:P.underlying t=some (.slice e)) (hz:∀ w,(sizeOf e).run P w=.ok k w) (hs:Sl F.blk E xs V:=by assumption) (hk:k=E.k:=by rfl) (h0:0≤mY lv:=by simp only [mY,l4]<;>first|omega|assumption|(simp only [NatCast.natCast,Int.ofNat_eq_natCast]; omega)) (h1:mY lv≤l4 xs.length hv:=by simp only [mY,l4]<;>first|omega|assumption|(simp only [NatCast.natCast,Int.ofNat_eq_natCast]; omega)) (h2:l4 xs.length hv≤xs.length:=by simp only [mY,l4]<;>first|omega|assumption|(simp only [NatCast.natCast,Int.ofNat_eq_natCast]; omega)):QS P N F L M ⟨dst,.slice t x lo hi none,ty,pos,after,g⟩ (HL.Q4 V (mY lv).toNat (l4 xs.length hv).toNat E.k):=NN hx hs hlo hhi ht hz hk h0 h1 h2
theorem Do {α:Type} {E:Enc α} {xs:List α} {x hi mx:Operand} {t e T:TypeId} {V:Value} {k:Nat} {L1:List Ent} (hx:opv M x=some V) (hV:Del (rowE V T E xs) L L1) (hhi:opv M hi=some (.int .i64 (xs.length:Nat))) (hmx:opv M mx=some (.int .i64 (xs.length:Nat)))
  (ht:P.underlying t=some (.slice e)) (hz:∀ w,(sizeOf e).run P w=.ok k w) (hd:Nat.ble (d+1) N=true)
  (K:∀ V',Tr N F (rowE V' T E xs :: L1) ((d,V') :: M) (wpList P ops Q rest)):Tr N F L M (wpList P ops Q (⟨some d,.slice t x none (some hi) (some mx),ty,pos,after,none⟩ :: rest)):=by
 intro a w ha hw
 refine wpList_plain rfl fun K' hK=>?_
 have hf:=hw.front hV
 have hrow:RowOK V T E xs (V.ownBlock.bind (w.heap[·]?)):=hf.ent _ (.head _)
 obtain ⟨av,cv,hV',hle⟩:∃ av cv,V=.slice av xs.length cv∧xs.length≤cv:=by
  rcases hrow with ⟨rfl,rfl⟩|⟨gb,cap,cur,rfl,_,h1,_⟩
  ·exact ⟨none,0,rfl,Nat.le_refl _⟩
  ·exact ⟨_,_,rfl,h1⟩
 have hb:∀ w,(Instr.sliceBounds true xs.length cv none (some (.int .i64 (xs.length:Nat))) (some (.int .i64 (xs.length:Nat)))).run P w=.ok (0,xs.length,xs.length) w:=by
  intro w
  have hs:=run_sliceBound (P:=P) w .i64 (xs.length:Int) cv .slice3Acap (by omega) (by omega)
  have hs2:=run_sliceBound (P:=P) w .i64 (xs.length:Int) xs.length .slice3B (by omega) (by omega)
  simp only [Int.toNat_natCast] at hs hs2
  simp [Instr.sliceBounds,hs,hs2]
 have hr:=ut (P:=P) ht hz w (a:=av) hb
 have hv:(if xs.length=0 then av else av.map (·.add (0 * k)))=av:=by
  split
  ·rfl
  ·cases av with
   | none=>rfl
   | some a0=>simp [Addr.add]
 rw [hv] at hr
 simp only [Nat.sub_zero] at hr
 unfold Oper.wp
 simp only [execOp,ha.eval hx,ha.eval hhi,ha.eval hmx,Option.map_none,Option.map_some,Sem.run_bind,hV',hr,Result.andThen_ok,Sem.run_pure,Oper.upon]
 refine hK _ _ (K _ _ _ (ha.put (Nat.le_of_ble_eq_true hd)) ?_)
 subst hV'
 have hL1:HpOK F (rowE (.slice av xs.length cv) T E xs :: L1) w:=hf
 rcases hrow with ⟨h1,h2⟩|⟨gb,cap,cur,h1,ho,hc1,hc2,hc3,hc4⟩
 ·subst h2
  simp only [Value.slice.injEq] at h1
  obtain ⟨rfl,_,rfl⟩:=h1
  exact hL1
 ·simp only [Value.slice.injEq] at h1
  obtain ⟨rfl,_,rfl⟩:=h1
  have e1:rowE (.slice (some ⟨gb,0,none⟩) xs.length cv) T E xs=⟨some gb,RowOK (.slice (some ⟨gb,0,none⟩) xs.length cv) T E xs⟩:=rfl
  have e2:rowE (.slice (some ⟨gb,0,none⟩) xs.length xs.length) T E xs=⟨some gb,RowOK (.slice (some ⟨gb,0,none⟩) xs.length xs.length) T E xs⟩:=rfl
  rw [e1] at hL1
  rw [e2]
  refine HpOK.set hL1 (.here _) rfl rfl rfl (Nat.le_refl _) (Nat.le_refl _) (fun _ _ _=>rfl) ?_
  have ho':w.heap[gb]?=some (.cells cur T (0,0)):=ho
  rw [ho']
  exact .inr ⟨gb,xs.length,cur,rfl,rfl,Nat.le_refl _,by omega,Nat.le_trans (Nat.mul_le_mul_right _ hc1) hc3,hc4⟩
theorem sS {α:Type} (E:Enc α) {t e:TypeId} {k:Nat} (ht:P.underlying t=some (.slice e)) (hz:∀ w,(sizeOf e).run P w=.ok k w) (hd:Nat.ble (d+1) N=true)
  (K:∀ V,Tr N F (rowE V e E ([]:List α) :: L) ((d,V) :: M) (wpList P ops Q rest)):Tr N F L M (wpList P ops Q (⟨some d,.buildSlice t 0 #[],ty,pos,after,none⟩ :: rest)):=by
 intro a w ha hw
 refine wpList_plain rfl fun K' hK=>?_
 have hr:(Instr.buildSlice t 0 #[]).run P w=.ok (.slice (some ⟨w.heap.size,0,none⟩) 0 0) (w.alloc (.cells #[] e)):=by
  have e:(Array.map (fun x=>(default:Value)) (Array.range 0))=#[]:=by apply Array.ext<;>simp
  simp [Instr.buildSlice,run_underlying ht,hz,Instr.fill,newRow,e]
 unfold Oper.wp
 have he:(execOp a.eval ⟨some d,.buildSlice t 0 #[],ty,pos,after,none⟩).run P w=.ok (.value (.slice (some ⟨w.heap.size,0,none⟩) 0 0)) (w.alloc (.cells #[] e)):=by
  simp only [execOp,List.map_toArray,List.map_nil,Sem.run_bind,hr,Result.andThen_ok,Sem.run_pure]
 rw [he]
 refine hK _ _ (K _ _ _ (ha.put (Nat.le_of_ble_eq_true hd)) ?_)
 refine hw.alloc _ _ ?_
 exact nF (l:=([]:List α)) (Nat.le_refl _) (by simp [maxLen]) (by simp) (by simp)
theorem gv {α:Type} {E:Enc α} (l:List α) {t e:TypeId} {parts:List (Nat × Operand)} {vs:List (Nat × Value)} {z:Value} {n k:Nat} (hx:l3 M (parts.map (·.2))=some (vs.map (·.2))) (hi:parts.map (·.1)=vs.map (·.1))
  (ht:P.underlying t=some (.slice e)) (hz:∀ w,(sizeOf e).run P w=.ok k w) (hzero:∀ w,(zeroValue e).run P w=.ok z w) (hk:k=E.k) (hn:n=l.length) (h0:(Nat.ble 1 (n * k) && Nat.ble (n * k) 16777216)=true)
  (hfill:Instr.fill (fun i=>some (i * k,k)) ((Array.range (n * k)).map (z.cells[· % z.cells.size]!)) vs=some (l.flatMap E.enc).toArray) (hd:Nat.ble (d+1) N=true)
  (K:∀ V,Tr N F (rowE V e E l :: L) ((d,V) :: M) (wpList P ops Q rest)):Tr N F L M (wpList P ops Q (⟨some d,.buildSlice t n parts.toArray,ty,pos,after,none⟩ :: rest)):=by
 obtain ⟨cells,hcells⟩:∃ cells,cells=(l.flatMap E.enc).toArray:=⟨_,rfl⟩
 have hc:cells.toList=l.flatMap E.enc:=by rw [hcells]
 rw [← hcells] at hfill
 intro a w ha hw
 refine wpList_plain rfl fun K' hK=>?_
 simp only [Bool.and_eq_true] at h0
 have h01:=Nat.le_of_ble_eq_true h0.1
 have h02:=Nat.le_of_ble_eq_true h0.2
 have h2:parts.map (fun p=>(p.1,a.eval p.2))=vs:=by
  have h1:=ha.evals hx
  clear hx hfill K hK
  induction parts generalizing vs with
  | nil=>cases vs<;>simp_all
  | cons p ps ih =>
   cases vs with
   | nil=>simp at hi
   | cons q qs =>
    simp only [List.map_cons,List.cons.injEq] at h1 hi ⊢
    exact ⟨Prod.ext hi.1 h1.1,ih hi.2 h1.2⟩
 have hr:=pR (P:=P) w (n:=n) (parts:=vs.toArray) (cells:=cells) ht hz hzero (by omega) h02 (by simpa using hfill)
 have he:(execOp a.eval ⟨some d,.buildSlice t n parts.toArray,ty,pos,after,none⟩).run P w=.ok (.value (.slice (some ⟨w.heap.size,0,none⟩) n n)) (w.alloc (.cells cells e)):=by
  simp only [execOp,List.map_toArray]
  have h3:(parts.map (fun x=>match x with|(i,x)=>(i,a.eval x)))=vs:=h2
  simp only [h3,Sem.run_bind,hr,Result.andThen_ok,Sem.run_pure]
 unfold Oper.wp
 rw [he]
 refine hK _ _ (K _ _ _ (ha.put (Nat.le_of_ble_eq_true hd)) ?_)
 refine hw.alloc _ _ ?_
 subst hn
 have hcl:cells.size=l.length * E.k:=by rw [← de,← hc]; simp
 refine nF (l:=l) (Nat.le_refl _) ?_ (by omega) (by rw [hc,List.take_of_length_le (by rw [de]; exact Nat.le_refl _)])
 have:l.length≤l.length * k:=by
  rcases Nat.eq_zero_or_pos k with rfl|hk0
  ·simp at h01
  ·exact Nat.le_mul_of_pos_right _ hk0
 unfold maxLen; omega
end
theorem cH {α:Type} {w w':World} {T:TypeId} {E:Enc α} {l:List α} {n c:Nat} (h:l=[]) (hn:n=0:=by rfl) (hc:c=0:=by rfl):dY w w' T E l (.slice none n c):=by
 subst h; subst hn; subst hc
 exact ⟨.inl ⟨rfl,rfl⟩,fun b hb=>by simp [Value.ownBlock] at hb⟩
theorem HpOK.new {α:Type} {w w':World} {L:List Ent} {T:TypeId} {E:Enc α} {l:List α} {V:Value} (h:HpOK (Bg.of w) L w') (hm:rowE V T E l∈L):dY w w' T E l V :=
 ⟨h.ent _ hm,fun b hb=>(h.sep b (List.mem_filterMap.2 ⟨_,hm,hb⟩)).2⟩
def Cell (h:Hp) (b o:Nat) (v:Value):Prop:=∃ cs T fz,h b=some (.cells cs T fz)∧cs[o]?=some v
theorem Cell.mono {h k:Hp} {b o:Nat} {v:Value} (c:Cell h b o v) (hk:Hp.le h k):Cell k b o v:=let ⟨cs,T,fz,h1,h2⟩:=c; ⟨cs,T,fz,hk _ _ h1,h2⟩
theorem Ext.hp {w w':World} (h:Ext w w'):Hp.le (HL.hp w) (HL.hp w'):=by
 intro b o hb
 have hb':w.heap[b]?=some o:=hb
 have:=h.below.block b (Array.getElem?_eq_some_iff.1 hb').1
 show w'.heap[b]?=some o
 rw [this]; exact hb'
theorem cellE.cell {b o:Nat} {cs:List Value} {T:TypeId} {v:Value} {w w':World} (h:(cellE b cs T).holds w) (hx:Ext w w') (hv:cs[o]?=some v):Cell (HL.hp w') b o v :=
 Cell.mono (h:=HL.hp w) ⟨cs.toArray,T,(0,0),h,by simpa using hv⟩ hx.hp
theorem Cell.at {w:World} {b o:Nat} {v:Value} (c:Cell (HL.hp w) b o v):w.cell? ⟨b,o,none⟩=some v:=by
 obtain ⟨cs,T,fz,h1,h2⟩:=c
 have:=cell_of (o:=0) h1 o
 simp only [Nat.zero_add] at this
 rw [this,h2]
theorem qm {P:Program} {N:Nat} {F:Bg} {L:List Ent} {M:Fr} {dst:Option Tmp} {ty:TypeId} {pos:String} {after:Array Edge} {g:Option (Nat × Bool)} {x:Operand} {t:TypeId} {b o:Nat} {v:Value}
  (hx:opv M x=some (.pointer (some ⟨b,o,none⟩))) (hc:Cell F.blk b o v) (hagg:∀ w,(isAgg t).run P w=.ok false w):QS P N F L M ⟨dst,.load t x,ty,pos,after,g⟩ v :=
 ov hx hagg fun w hw=>(hc.mono hw.bg).at
theorem drop_cons {α:Type} [Inhabited α] {l:List α} {k:Nat} (h:k<l.length):l.drop k=l.getD k default :: l.drop (k+1):=by
 rw [List.drop_eq_getElem_cons h]; congr 1; simp [List.getD_eq_getElem?_getD,h]
theorem ba {α:Type} [Inhabited α] {l:List α} {k:Nat} (h:k<l.length):l.getD k default∈l:=by
 simp [List.getD_eq_getElem?_getD,h]
section
variable {P:Program} {ops:Array Oper} {Q:Exit→Act→World→Prop} {N:Nat} {F:Bg} {L:List Ent} {M:Fr} {ty:TypeId} {pos:String} {after:Array Edge} {rest:List Oper} {d:Nat}
structure Mut (w w':World) (V:Value):Prop where
 os:w'.os=w.os
 tape:w'.tape=w.tape
 output:w'.output=w.output
 size:w.heap.size≤w'.heap.size
 dr:w.drawn≤w'.drawn
 block:∀ k,k<w.heap.size→some k≠V.ownBlock→w'.heap[k]?=w.heap[k]?
theorem HpOK.mut {α:Type} {V:Value} {T:TypeId} {E:Enc α} {l l':List α} {w w':World} {L':List Ent} (h:HpOK F L w) (hput:Put (rowE V T E l) (rowE V T E l') L L') (hm:Mut w w' V) (hr:(rowE V T E l').holds w'):HpOK F L' w':=by
 cases hV:V.ownBlock with
 | none =>
  have hx:Ext w w':=⟨⟨hm.os,hm.tape,hm.output,hm.size,fun k hk=>hm.block k hk (by rw [hV]; simp)⟩,hm.dr⟩
  have hg:=h.grow hx
  have hb:cx L'=cx L:=hput.blks rfl
  refine ⟨hg.os,hg.tape,hg.out,hg.n,hg.dr,hg.bg,fun e he=>?_,by rw [hb]; exact hg.nodup,by rw [hb]; exact hg.lt,by rw [hb]; exact hg.sep⟩
  rcases hput.mem' e he with rfl|he
  ·exact hr
  ·exact hg.ent e he
 | some b =>
  have e1:rowE V T E l=⟨some b,RowOK V T E l⟩:=by simp [rowE,hV]
  have e2:rowE V T E l'=⟨some b,RowOK V T E l'⟩:=by simp [rowE,hV]
  rw [e1,e2] at hput
  rw [e2] at hr
  exact HpOK.set h hput hm.os hm.tape hm.output hm.size hm.dr (fun k hk hkb=>hm.block k hk (by rw [hV]; simpa using hkb)) hr
theorem dH {α:Type} {E:Enc α} {l l':List α} {V:Value} {T:TypeId} {f:FuncId} {xs:List Operand} {vs:List Value} {ts:Array TypeId} {v:Value} {L':List Ent} (hx:l3 M xs=some vs)
  (he:∀ (args:Array Value) (w:World),(callFunc f args).run P w=.ok (.enter f args) w) (hput:Put (rowE V T E l) (rowE V T E l') L L')
  (hc:∀ w,HpOK F L w→Calls P f vs.toArray w fun e w'=>e=.returned v∧Mut w w' V∧(rowE V T E l').holds w') (hd:Nat.ble (d+1) N=true)
  (K:Tr N F L' ((d,v) :: M) (wpList P ops Q rest)) :
  Tr N F L M (wpList P ops Q (⟨some d,.call { callee:=.value (.func f),args:=xs.toArray,argTypes:=ts },ty,pos,after,none⟩ :: rest)):=by
 intro a w ha hw
 refine wpList_plain rfl fun K' hK=>?_
 have hr:(execOp a.eval ⟨some d,.call { callee:=.value (.func f),args:=xs.toArray,argTypes:=ts },ty,pos,after,none⟩).run P w=.ok (.enter f vs.toArray) w:=by
  have:=ha.evals hx
  simp [execOp,resolve,Deferred.ofValue,Act.eval,invoke,he,this]
 unfold Oper.wp
 rw [hr]
 refine (hc w hw).mono fun e w' ⟨h1,h2,h3⟩=>?_
 subst h1
 exact hK _ _ (K _ _ (ha.put (Nat.le_of_ble_eq_true hd)) (hw.mut hput h2 h3))
end
end Go.HL
namespace Go.Proofs.YtiajjbhcpeadfaaGreat
open Go Go.HL
theorem ah:Tryz.prog.follows .mixedOrders=true:=by kernel_rfl
theorem kx:(Tryz.prog.info? 3).map (fun i=>(i.zero,i.size,i.bytes))=some (some (.int .i64 0),1,8):=by kernel_rfl
theorem mo:(Tryz.prog.info? 4).map (fun i=>(i.zero,i.size,i.bytes))=some (some (.bool false),1,1):=by kernel_rfl
theorem ip:(Tryz.prog.info? 5).map (fun i=>(i.zero,i.size,i.bytes))=some (some (.int .u8 0),1,1):=by kernel_rfl
theorem cp:(Tryz.prog.info? 23).map (fun i=>(i.zero,i.size,i.bytes))=some (some (.int .u32 0),1,4):=by kernel_rfl
theorem It:(Tryz.prog.info? 28).map (fun i=>(i.zero,i.size,i.bytes))=some (some (.agg #[(.bool false),(.bool false),(.int .u32 0),(.int .u32 0),(.int .u32 0),(.bool false),(.bool false),(.int .u32 0),(.int .u32 0),(.int .u32 0),(.bool false),(.bool false),(.int .u32 0),(.int .u32 0),(.int .u32 0),(.bool false),(.bool false),(.int .u32 0),(.int .u32 0),(.int .u32 0),(.bool false),(.bool false),(.int .u32 0),(.int .u32 0),(.int .u32 0),(.bool false),(.bool false),(.int .u32 0),(.int .u32 0),(.int .u32 0),(.bool false),(.bool false),(.int .u32 0),(.int .u32 0),(.int .u32 0),(.bool false),(.bool false),(.int .u32 0),(.int .u32 0),(.int .u32 0)]),40,128):=by kernel_rfl
theorem uf:(Tryz.prog.info? 31).map (fun i=>(i.zero,i.size,i.bytes))=some (some (.slice none 0 0),1,24):=by kernel_rfl
theorem fY:(Tryz.prog.info? 36).map (fun i=>(i.zero,i.size,i.bytes))=some (some (.agg #[(.int .u32 0),(.int .u32 0),(.int .i64 0),(.int .i64 0),(.int .i64 0),(.int .i64 0),(.int .i64 0),(.int .i64 0),(.int .i64 0)]),9,64):=by kernel_rfl
theorem ud:(Tryz.prog.info? 37).map (fun i=>(i.zero,i.size,i.bytes))=some (some (.agg #[(.bool false),(.bool false),(.int .u32 0),(.int .u32 0),(.int .u32 0),(.bool false),(.bool false),(.int .u32 0),(.int .u32 0),(.int .u32 0),(.bool false),(.bool false),(.int .u32 0),(.int .u32 0),(.int .u32 0),(.bool false),(.bool false),(.int .u32 0),(.int .u32 0),(.int .u32 0),(.bool false),(.bool false),(.int .u32 0),(.int .u32 0),(.int .u32 0),(.bool false),(.bool false),(.int .u32 0),(.int .u32 0),(.int .u32 0),(.bool false),(.bool false),(.int .u32 0),(.int .u32 0),(.int .u32 0),(.bool false),(.bool false),(.int .u32 0),(.int .u32 0),(.int .u32 0)]),40,128):=by kernel_rfl
theorem GM:(Tryz.prog.info? 177).map (fun i=>(i.zero,i.size,i.bytes))=some (some (.slice none 0 0),1,24):=by kernel_rfl
theorem GL:(Tryz.prog.info? 198).map (fun i=>(i.zero,i.size,i.bytes))=some (some (.slice none 0 0),1,24):=by kernel_rfl
theorem GK:(Tryz.prog.info? 224).map (fun i=>(i.zero,i.size,i.bytes))=some (some (.slice none 0 0),1,24):=by kernel_rfl
theorem GI:(Tryz.prog.info? 272).map (fun i=>(i.zero,i.size,i.bytes))=some (some (.slice none 0 0),1,24):=by kernel_rfl
theorem xf:(Tryz.prog.info? 274).map (fun i=>(i.zero,i.size,i.bytes))=some (some (.agg #[(.int .i64 0),(.bool false)]),2,16):=by kernel_rfl
end Go.Proofs.YtiajjbhcpeadfaaGreat
namespace Go.HL
open Go
def cd:Enc UInt8:=⟨1,fun x=>[.int .u8 x.toNat],fun _=>rfl,fun x v h=>by simp at h; subst h; rfl⟩
def aa:Enc UInt32:=⟨1,fun x=>[.int .u32 x.toNat],fun _=>rfl,fun x v h=>by simp at h; subst h; rfl⟩
def aU:Enc Int:=⟨1,fun x=>[.int .i64 x],fun _=>rfl,fun x v h=>by simp at h; subst h; rfl⟩
structure Rng where
 lo:UInt32
 hi:UInt32
 deriving DecidableEq,Inhabited
def P3:Enc Rng:=⟨2,fun r=>[.int .u32 r.lo.toNat,.int .u32 r.hi.toNat],fun _=>rfl,fun x v h=>by simp at h; rcases h with h|h<;>subst h<;>rfl⟩
def oC (w:Int):Bool:=(decide (w=1) || decide (w=2)) || decide (w=4)
theorem DN (w:Int):oC w=true↔w=1∨w=2∨w=4:=by simp [oC,or_assoc]
def Qn (n:UInt32) (xs:List UInt8) (k:Nat):Nat→List UInt8
 | 0=>xs
 | j+1=>Qn n (xs ++ [(jQ n (8 * (k:Int)).toNat).toUInt8]) (k+1) j
def On (b:List UInt8) (n:UInt32) (width:Int):List UInt8:=if oC width then Qn n b 0 width.toNat else b
def HB (b:List UInt8) (at_:Int) (acc:UInt32):Nat→UInt32
 | 0=>acc
 | k+1=>HB b at_ (jt acc 8 ||| (b.getD (at_+(k:Int)).toNat default).toUInt32) k
def xr (b:List UInt8) (at_ width:Int):UInt32 × Int :=
 if oC width=false then (0,2) else if at_<0∨(b.length:Int) - width<at_ then (0,5) else (HB b at_ 0 width.toNat,0)
theorem MM {b:List UInt8} {a w:Int} (h:oC w=false):xr b a w=(0,2):=by simp [xr,h]
theorem HA {b:List UInt8} {a w:Int} (h:oC w=true) (h2:a<0∨(b.length:Int) - w<a):xr b a w=(0,5):=by simp only [xr,h]; rw [if_neg (by simp),if_pos h2]
theorem C5 {b:List UInt8} {a w:Int} (h:oC w=true) (h2:¬ (a<0∨(b.length:Int) - w<a)):xr b a w=(HB b a 0 w.toNat,0):=by simp only [xr,h]; rw [if_neg (by simp),if_neg h2]
theorem bN {α:Type} [Inhabited α] {l:List α} {k:Nat} (h:k<l.length):l.take (k+1)=l.take k ++ [l.getD k default]:=by
 rw [List.take_succ_eq_append_getElem h]; simp [List.getD_eq_getElem?_getD,h]
def dA {α:Type} (p:α→Bool) (k:Nat):List α→Int
 | []=>-1
 | x :: l=>if p x=true then k else dA p (k+1) l
theorem E9 {α:Type} (p:α→Bool):∀ (l:List α) (k:Nat),(0≤dA p k l)↔l.any p=true
 | [],k=>by simp [dA]
 | x :: l,k=>by
  unfold dA
  by_cases h:p x=true
  ·simp [h]
  ·rw [if_neg h,E9 p l (k+1)]; simp [h]
theorem uQ {α:Type} (p:α→Bool) (l:List α) (k:Nat):decide (0≤dA p k l)=l.any p:=by
 rw [Bool.eq_iff_iff,decide_eq_true_iff]; exact E9 p l k
def inR (a:UInt32) (r:Rng):Bool:=decide (r.lo≤a) && decide (a<r.hi)
end Go.HL
namespace Go.HL
open Go Go.RowKit
section
variable {P:Program} {Q:Exit→Act→World→Prop} {N:Nat} {F:Bg} {L:List Ent} {M:Fr}
theorem cM {t:Nat} {y:Code} {x y':Bool} (hx:look M t=some (.bool x))
  (hF:x=false→Tr N F L M (y.wp P (Exit.then (fun a w=>FrOK N ((t,.bool y') :: M) a∧HpOK F L w) Q)))
  (h2:Tr N F L ((t,.bool (x || y')) :: M) (Q .normal)):Tr N F L M ((Code.cond (.tmp t) .skip y).wp P Q):=by
 refine fk (b:=x) hx (fun h=>?_) (fun h=>?_)
 ·subst h
  refine sQ (Qa ?_ h2)
  exact Sub.cons hx (Sub.refl M)
 ·subst h
  intro a w ha hw
  refine Code.wp_mono (fun e a w q=>?_) (hF rfl a w ha hw)
  cases e<;>first|exact q|exact h2 a w q.1 q.2
theorem mT {w:World} {b k:Nat} {cs:List Value} {T t:TypeId} (h:(cellE b cs T).holds w) (hagg:∀ w,(isAgg t).run P w=.ok true w) (hz:∀ w,(sizeOf t).run P w=.ok k w) (hl:cs.length=k) :
  (loadVar t ⟨b,0,none⟩).run P w=.ok (.agg cs.toArray) w:=by
 have:=run_loadCells_list (P:=P) w ⟨b,0,none⟩ cs (fun j v hv=>by rw [Addr.add_lit,Nat.zero_add,qW h]; exact hv)
 subst hl
 simp [loadVar,hagg,hz,this]
theorem Gp {fn:Func} {R:Ending→World→Prop} {t T:TypeId} {u:Tmp} {b k:Nat} {cs:List Value} (hr:fn.results=#[.cell u t]) (hv:look M u=some (.pointer (some ⟨b,0,none⟩))) (hm:cellE b cs T∈L)
  (hagg:∀ w,(isAgg t).run P w=.ok true w) (hz:∀ w,(sizeOf t).run P w=.ok k w) (hl:cs.length=k) (h:∀ w,HpOK F L w→R (.returned (.agg cs.toArray)) w) (hD:look M mk0=some undef:=by rfl) :
  Tr N F L M (bodyPost P fn R .ret):=fun a w ha hw=>⟨ha.defers0 hD,_,by
   have h1:=ha.val u _ hv
   rw [Array.getD_eq_getD_getElem?] at h1
   simp [results,hr,h1,asAddr,mT (hw.ent _ hm) hagg hz hl],h w hw⟩
theorem lC {fn:Func} {R:Ending→World→Prop} {t T:TypeId} {u:Tmp} {b k:Nat} {cs:List Value} (hr:fn.results=#[.cell u t]) (hv:look M u=some (.pointer (some ⟨b,0,none⟩))) (hagg:∀ w,(isAgg t).run P w=.ok true w) (hz:∀ w,(sizeOf t).run P w=.ok k w) (h:∀ w,HpOK F L w→R (.returned (.agg cs.toArray)) w) (hm:cellE b cs T∈L:=by repeat constructor) (hl:cs.length=k:=by rfl) (hD:look M mk0=some undef:=by rfl):Tr N F L M (bodyPost P fn R .ret):=Gp hr hv hm hagg hz hl h hD
theorem Gn {fn:Func} {R:Ending→World→Prop} {t T:TypeId} {u s:Tmp} {v:Value} {b k:Nat} {cs:List Value} (hr:fn.results=#[.cell u t,.tmp s]) (hv:look M u=some (.pointer (some ⟨b,0,none⟩))) (hs:look M s=some v) (hm:cellE b cs T∈L)
  (hagg:∀ w,(isAgg t).run P w=.ok true w) (hz:∀ w,(sizeOf t).run P w=.ok k w) (hl:cs.length=k) (h:∀ w,HpOK F L w→R (.returned (.tuple #[.agg cs.toArray,v])) w) (hD:look M mk0=some undef:=by rfl) :
  Tr N F L M (bodyPost P fn R .ret):=fun a w ha hw=>⟨ha.defers0 hD,_,by
   have h1:=ha.val u _ hv
   have h2:=ha.val s _ hs
   rw [Array.getD_eq_getD_getElem?] at h1 h2
   simp [results,hr,h1,h2,asAddr,mT (hw.ent _ hm) hagg hz hl],h w hw⟩
theorem vn {fn:Func} {R:Ending→World→Prop} {t T:TypeId} {u s:Tmp} {v:Value} {b k:Nat} {cs:List Value} (hr:fn.results=#[.cell u t,.tmp s]) (hv:look M u=some (.pointer (some ⟨b,0,none⟩))) (hs:look M s=some v) (hagg:∀ w,(isAgg t).run P w=.ok true w) (hz:∀ w,(sizeOf t).run P w=.ok k w) (h:∀ w,HpOK F L w→R (.returned (.tuple #[.agg cs.toArray,v])) w) (hm:cellE b cs T∈L:=by repeat constructor) (hl:cs.length=k:=by rfl) (hD:look M mk0=some undef:=by rfl):Tr N F L M (bodyPost P fn R .ret):=Gn hr hv hs hm hagg hz hl h hD
def AD (xs ys:Array Value) (o:Nat):Bool:=match xs[o]?,ys[o]? with
 | some (.int _ a),some (.int _ b)=>a == b
 | some (.bool a),some (.bool b)=>a == b
 | some (.string a),some (.string b)=>a.toList == b.toList
 | _,_=>false
def Dk (d:TypeDesc) (xs ys:Array Value) (o:Nat):Prop:=match d,xs[o]?,ys[o]? with
 | .int _,some (.int k _),some (.int k' _)=>k=k'
 | .bool,some (.bool _),some (.bool _)=>True
 | .string,some (.string _),some (.string _)=>True
 | _,_,_=>False
inductive WordFields (P:Program):List Field→List TypeDesc→Prop
 | nil:WordFields P [] []
 | cons {f : Field} {fs : List Field} {d : TypeDesc} {ds : List TypeDesc} (hn : f.name ≠ "_") (hd : P.underlying f.type = some d) (ha : ∀ w, (isAgg f.type).run P w = .ok false w) (h : WordFields P fs ds) : WordFields P (f :: fs) (d :: ds)
theorem l7 {t:TypeId} {xs:Array Value} {o:Nat} {v:Value} {w:World} (ha:∀ w,(isAgg t).run P w=.ok false w) (h:xs[o]?=some v):(part t xs o).run P w=.ok v w:=by
 simp [part,ha,h]
theorem k7 (d:Nat) (xs ys:Array Value) (w:World):∀ (fs:List Field) (ds:List TypeDesc),WordFields P fs ds→(∀ (j:Nat) (f:Field) (e:TypeDesc),fs[j]?=some f→ds[j]?=some e→Dk e xs ys f.offset) →
  (Op.eqFields (d+1) xs ys fs).run P w=.ok (fs.all fun (f:Field)=>AD xs ys f.offset) w
 | [],_,_,_=>by simp [Op.eqFields]
 | f :: fs,_,.cons (d:=e) (ds:=ds) hn hd ha h,hal=>by
  have ih:=k7 d xs ys w fs ds h (fun j f' e' hf he=>hal (j+1) f' e' (by simpa using hf) (by simpa using he))
  have h0:=hal 0 f e rfl rfl
  simp only [Op.eqFields,hn,ne_eq,not_false_eq_true,if_true,Sem.run_bind,List.all_cons]
  unfold Dk at h0
  split at h0
  ·rename_i k a k' b hx hy
   subst h0
   have e0:AD xs ys f.offset=(a == b):=by simp [AD,hx,hy]
   simp only [l7 (w:=w) ha hx,l7 (w:=w) ha hy,Result.andThen_ok,run_equalIn_int w _ _ _ _ _ _ hd,e0]
   cases hab:(a == b)
   ·simp
   ·simpa using ih
  ·rename_i a b hx hy
   have e0:AD xs ys f.offset=(a == b):=by simp [AD,hx,hy]
   simp only [l7 (w:=w) ha hx,l7 (w:=w) ha hy,Result.andThen_ok,run_equalIn_bool' w _ _ _ _ hd,e0]
   cases hab:(a == b)
   ·simp
   ·simpa using ih
  ·rename_i a b hx hy
   have e0:AD xs ys f.offset=(a.toList == b.toList):=by simp [AD,hx,hy]
   simp only [l7 (w:=w) ha hx,l7 (w:=w) ha hy,Result.andThen_ok,run_equalIn_string w _ _ _ _ hd,e0]
   cases hab:(a.toList == b.toList)
   ·simp
   ·simpa using ih
  ·exact h0.elim
end
def GO {α:Type} [DecidableEq α] (E:Enc α) (ds:List TypeDesc) (offs:List Nat):Prop :=
 ∀ x y:α,(∀ (j:Nat) (o:Nat) (e:TypeDesc),offs[j]?=some o→ds[j]?=some e→Dk e (E.enc x).toArray (E.enc y).toArray o)∧(offs.all fun o=>AD (E.enc x).toArray (E.enc y).toArray o)=decide (x=y)
section
variable {P:Program} {ops:Array Oper} {Q:Exit→Act→World→Prop} {N:Nat} {F:Bg} {L:List Ent} {M:Fr} {dst:Option Tmp} {ty:TypeId} {pos:String} {after:Array Edge} {g:Option (Nat × Bool)} {rest:List Oper} {d:Nat}
theorem yv {α:Type} [DecidableEq α] {E:Enc α} {ds:List TypeDesc} {offs:List Nat} (hE:GO E ds offs) {t:TypeId} {fs:Array Field} (ht:P.underlying t=some (.struct fs)) (hw:WordFields P fs.toList ds) (ho:fs.toList.map (·.offset)=offs)
  (hh:P.stoodInHeld t=false) (x y:α) (w:World):(Op.equal t (.agg (E.enc x).toArray) (.agg (E.enc y).toArray)).run P w=.ok (decide (x=y)) w:=by
 have hf:P.fieldsOf t=fs:=by simp [Program.fieldsOf,ht]
 unfold Op.equal
 show (Op.equalIn (9998+1+1) t _ _).run P w=_
 rw [run_equalIn_struct w _ t _ _ (by rw [hf]; exact ht) hh,hf]
 obtain ⟨h1,h2⟩:=hE x y
 rw [k7 _ _ _ w fs.toList ds hw (fun j f e hj he=>h1 j f.offset e (by rw [← ho]; simp [hj]) he),← h2,← ho,List.all_map]
 rfl
theorem oS {op:BinOp} {t:TypeId} {x y:Operand} {xs ys:Array Value} (w:World) (hg:P.eqGuardType P.depth t=false):(eqGuard op t x y (.agg xs) (.agg ys)).run P w=.ok () w:=by
 unfold eqGuard
 cases op<;>simp [hg]
theorem yb {α:Type} [DecidableEq α] {E:Enc α} {ds:List TypeDesc} {offs:List Nat} {x y:Operand} {t u:TypeId} {p q:α} {fs:Array Field} (hx:opv M x=some (.agg (E.enc p).toArray)) (hy:opv M y=some (.agg (E.enc q).toArray))
  (hE:GO E ds offs) (ht:P.underlying t=some (.struct fs)) (hw:WordFields P fs.toList ds) (ho:fs.toList.map (·.offset)=offs) (hh:P.stoodInHeld t=false) (hg:P.eqGuardType P.depth t=false) :
  QS P N F L M ⟨dst,.binOp .eql t x y u,ty,pos,after,g⟩ (.bool (decide (p=q))) :=
 bQ fun a w ha _=>by
  simp [execOp,ha.eval hx,ha.eval hy,oS w hg,binOp,yv hE ht hw ho hh]
theorem Jk {α:Type} [DecidableEq α] {E:Enc α} {ds:List TypeDesc} {offs:List Nat} {x y:Operand} {t u:TypeId} {p q:α} {fs:Array Field} (hx:opv M x=some (.agg (E.enc p).toArray)) (hy:opv M y=some (.agg (E.enc q).toArray))
  (hE:GO E ds offs) (ht:P.underlying t=some (.struct fs)) (hw:WordFields P fs.toList ds) (ho:fs.toList.map (·.offset)=offs) (hh:P.stoodInHeld t=false) (hg:P.eqGuardType P.depth t=false) :
  QS P N F L M ⟨dst,.binOp .neq t x y u,ty,pos,after,g⟩ (.bool (decide (p≠q))) :=
 bQ fun a w ha _=>by
  simp [execOp,ha.eval hx,ha.eval hy,oS w hg,binOp,yv hE ht hw ho hh]
theorem m7 {x y:Operand} {t u e:TypeId} {k:IntKind} {a b c d:Int} (hx:opv M x=some (.agg #[.int k a,.int k b])) (hy:opv M y=some (.agg #[.int k c,.int k d]))
  (ht:P.underlying t=some (.array 2 e)) (he:P.underlying e=some (.int k)) (hz:∀ w,(sizeOf e).run P w=.ok 1 w) (hag:∀ w,(isAgg e).run P w=.ok false w) (hg:P.eqGuardType P.depth t=false) :
  QS P N F L M ⟨dst,.binOp .eql t x y u,ty,pos,after,g⟩ (.bool (decide (a=c∧b=d))) :=
 bQ fun A w ha _=>by
  have h1:(Op.equal t (.agg #[.int k a,.int k b]) (.agg #[.int k c,.int k d])).run P w=.ok (decide (a=c∧b=d)) w:=by
   unfold Op.equal
   show (Op.equalIn (9998+1+1) t _ _).run P w=_
   have r:∀ xs:Array Value,∀ v i,xs[i]?=some v→(part e xs i).run P w=.ok v w:=fun xs v i h=>l7 hag h
   have p0:=fun (p q:Int)=>r #[.int k p,.int k q] _ 0 rfl
   have p1:=fun (p q:Int)=>r #[.int k p,.int k q] _ 1 rfl
   rw [Op.equalIn]
   simp only [Sem.run_bind,run_underlying ht,Result.andThen_ok,hz,Std.Legacy.Range.forIn_eq_forIn_range',Std.Legacy.Range.size]
   simp [List.range',p0,p1,run_equalIn_int w _ _ _ _ _ _ he]
   by_cases h1:a=c<;>by_cases h2:b=d<;>simp [h1,h2]
  simp [execOp,ha.eval hx,ha.eval hy,oS w hg,binOp,h1]
theorem uY {α:Type} (E:Enc α):∀ (l:List α) (i:Nat) (x:α),l[i]?=some x→((l.flatMap E.enc).drop (i * E.k)).take E.k=E.enc x
 | [],i,x,h=>by simp at h
 | y :: l,0,x,h=>by
  simp only [List.getElem?_cons_zero,Option.some.injEq] at h
  subst h
  have:=E.len y
  simp [List.flatMap_cons,List.take_append,this]
 | y :: l,i+1,x,h=>by
  simp only [List.getElem?_cons_succ] at h
  have hl:(E.enc y).length=E.k:=E.len y
  simp only [List.flatMap_cons]
  rw [List.drop_append,List.drop_eq_nil_of_le (by rw [hl,Nat.add_mul]; omega),List.nil_append,hl,show (i+1) * E.k - E.k=i * E.k by rw [Nat.add_mul]; omega]
  exact uY E l i x h
theorem K3 {α:Type} [Inhabited α] {E:Enc α} (l:List α) {x y:Operand} {t e:TypeId} {n k:Nat} {kk:IntKind} {i:Nat} (hx:opv M x=some (.agg (l.flatMap E.enc).toArray)) (hy:opv M y=some (.int kk i))
  (ht:P.underlying t=some (.array n e)) (hz:∀ w,(sizeOf e).run P w=.ok k w) (hag:∀ w,(isAgg e).run P w=.ok true w) (hk:k=E.k) (hn:n=l.length) (hi':i<n) :
  QS P N F L M ⟨dst,.index t x y,ty,pos,after,g⟩ (.agg (E.enc (l.getD i default)).toArray) :=
 bQ fun A w ha _=>by
  subst hk; subst hn
  have hi:=hi'
  have hx1:l[i]?=some (l.getD i default):=by simp [List.getD_eq_getElem?_getD,hi]
  have h1:((l.flatMap E.enc).toArray.extract (i * E.k) (i * E.k+E.k))=(E.enc (l.getD i default)).toArray:=by
   apply Array.toList_inj.1
   simp only [Array.toList_extract,List.extract]
   rw [show i * E.k+E.k - i * E.k=E.k by omega]
   exact uY E l i _ hx1
  have hrun:∀ cs:Array Value,(Instr.index t (.agg cs) (.int kk i)).run P w=.ok (.agg (cs.extract (i * E.k) (i * E.k+E.k))) w:=fun cs=>by
   simp [Instr.index,asIntOf,run_underlying ht,hz,part,hag,hi]
  simp only [execOp,ha.eval hx,ha.eval hy,Sem.run_bind,hrun,h1,Result.andThen_ok,Sem.run_pure]
section
variable {x y:Operand} {t u:TypeId}
theorem Jo {m:Int} (hx:opv M x=some (.int .i64 m)) (hy:opv M y=some (.int .i64 7)):QS P N F L M ⟨dst,.binOp .and t x y u,ty,pos,after,g⟩ (.int .i64 (m % 8)):=by
 have:=DG (P:=P) (N:=N) (F:=F) (L:=L) (dst:=dst) (ty:=ty) (pos:=pos) (after:=after) (g:=g) (t:=t) (u:=u) hx hy
 have e:IntKind.i64.wrap ((BitVec.ofInt IntKind.i64.bits m &&& BitVec.ofInt IntKind.i64.bits 7).toNat:Int)=m % 8:=by
  have h7:BitVec.ofInt 64 7=7#64:=by decide
  show IntKind.i64.wrap ((BitVec.ofInt 64 m &&& BitVec.ofInt 64 7).toNat:Int)=_
  rw [h7,BitVec.toNat_and,BitVec.toNat_ofInt,show (7#64).toNat=2 ^ 3 - 1 from rfl,Nat.and_two_pow_sub_one_eq_mod]
  rw [IntWalk.i64_in _ (by omega)]
  omega
 rwa [e] at this
theorem Ad {m:UInt8} (hx:opv M x=some (.int .u8 m.toNat)) (hy:opv M y=some (.int .u8 15)):QS P N F L M ⟨dst,.binOp .and t x y u,ty,pos,after,g⟩ (.int .u8 (m % 16).toNat):=by
 have:=DG (P:=P) (N:=N) (F:=F) (L:=L) (dst:=dst) (ty:=ty) (pos:=pos) (after:=after) (g:=g) (t:=t) (u:=u) hx hy
 have e:IntKind.u8.wrap ((BitVec.ofInt IntKind.u8.bits (m.toNat:Int) &&& BitVec.ofInt IntKind.u8.bits 15).toNat:Int)=((m % 16).toNat:Int):=by
  have h1:BitVec.ofInt 8 (m.toNat:Int)=m.toBitVec:=by simp
  have h7:BitVec.ofInt 8 15=15#8:=by decide
  show IntKind.u8.wrap ((BitVec.ofInt 8 (m.toNat:Int) &&& BitVec.ofInt 8 15).toNat:Int)=_
  rw [h1,h7,BitVec.toNat_and,show (15#8).toNat=2 ^ 4 - 1 from rfl,Nat.and_two_pow_sub_one_eq_mod,IntKind.wrap_u8,UInt8.toNat_mod]
  have:(16:UInt8).toNat=16:=rfl
  have h3:m.toBitVec.toNat=m.toNat:=rfl
  rw [this,h3]
  have:=m.toNat_lt
  omega
 rwa [e] at this
theorem BZ {m:UInt8} {kk:IntKind} (hx:opv M x=some (.int .u8 m.toNat)) (hy:opv M y=some (.int kk 4)):QS P N F L M ⟨dst,.binOp .shr t x y u,ty,pos,after,g⟩ (.int .u8 (m / 16).toNat):=by
 have:=wq (P:=P) (N:=N) (F:=F) (L:=L) (dst:=dst) (ty:=ty) (pos:=pos) (after:=after) (g:=g) (t:=t) (u:=u) hx hy (by omega)
 have e:(m.toNat:Int).fdiv (2 ^ (min (4:Int).toNat IntKind.u8.bits))=((m / 16).toNat:Int):=by
  show (m.toNat:Int).fdiv (2 ^ (min 4 8))=_
  rw [show (2:Int) ^ (min 4 8)=16 from rfl,Int.fdiv_eq_ediv_of_nonneg _ (by omega),UInt8.toNat_div]
  have:(16:UInt8).toNat=16:=rfl
  rw [this]; omega
 rwa [e] at this
theorem Dz {m n:UInt8} (hx:opv M x=some (.int .u8 m.toNat)) (hy:opv M y=some (.int .u8 n.toNat)) (h:n≠0):QS P N F L M ⟨dst,.binOp .quo t x y u,ty,pos,after,g⟩ (.int .u8 (m / n).toNat) :=
 iH hx hy fun w=>by
  have h0:n.toNat≠0:=fun e=>h (by rw [← UInt8.toNat_inj]; simpa using e)
  have hn:(n.toNat:Int)≠0:=by omega
  have h1:=m.toNat_lt
  have h2:=n.toNat_lt
  have e1:(m.toNat:Int).tdiv n.toNat=(m.toNat:Int) / n.toNat:=Int.tdiv_eq_ediv_of_nonneg (by omega)
  have e2:(m.toNat:Int) / n.toNat<256:=Int.lt_of_le_of_lt (Int.ediv_le_self _ (by omega)) (by omega)
  have e3:0≤(m.toNat:Int) / n.toNat:=Int.ediv_nonneg (by omega) (by omega)
  have e4:IntKind.u8.wrap ((m.toNat:Int) / n.toNat)=(m.toNat:Int) / n.toNat:=by rw [IntKind.wrap_u8]; omega
  rw [UInt8.toNat_div,Int.natCast_ediv]
  simp [binOp,Op.intDiv,h0,e1,e4]
theorem Dy {m n:UInt8} (hx:opv M x=some (.int .u8 m.toNat)) (hy:opv M y=some (.int .u8 n.toNat)) (h:n≠0):QS P N F L M ⟨dst,.binOp .rem t x y u,ty,pos,after,g⟩ (.int .u8 (m % n).toNat) :=
 iH hx hy fun w=>by
  have h0:n.toNat≠0:=fun e=>h (by rw [← UInt8.toNat_inj]; simpa using e)
  have hn:(n.toNat:Int)≠0:=by omega
  have:=Int.tmod_eq_emod_of_nonneg (a:=(m.toNat:Int)) (b:=n.toNat) (by omega)
  rw [UInt8.toNat_mod,Int.natCast_emod,← this]
  simp only [binOp,Op.intDiv,hn,if_false]
  rfl
end
def mB:Op→Bool
 | .move _|.assign _|.pick ..|.extract ..|.load ..|.fieldAddr ..|.field ..|.indexAddr ..|.index ..|.binOp ..|.unOp ..|.convert ..|.build ..|.slice ..|.nilCheck ..=>true
 | _=>false
theorem EC {o:Oper} (h:mB o.op=true) (ρ:Operand→Value) (w w':World) (n:Next) (hr:(execOp ρ o).run P w=.ok n w'):∃ u,n=.value u:=by
  obtain ⟨dst,op,ty,pos,after,g⟩:=o
  have key:∀ {β:Type} (m:Sem β) (f:β→Value),(m >>= fun x=>pure (Next.value (f x))).run P w=.ok n w'→∃ u,n=.value u:=fun m f hm=>by
    simp only [Sem.run_bind,Sem.run_pure] at hm
    cases hmr:m.run P w with
    | ok v w1=>rw [hmr] at hm; simp only [Result.andThen_ok,Result.ok.injEq] at hm; exact ⟨f v,hm.1.symm⟩
    | halt x w1=>rw [hmr] at hm; simp [Result.andThen] at hm
  cases op<;>simp only [mB,Bool.false_eq_true] at h<;>simp only [execOp] at hr<;>first
    | exact key _ (fun x=>x) hr
    | exact key _ _ hr
    | (simp only [Sem.run_pure,Result.ok.injEq] at hr; exact ⟨_,hr.1.symm⟩)
    | (have key2:∀ {β:Type} (m:Sem β) (f:β→Sem Next) (w0:World),(∀ x w1,(f x).run P w1=.ok n w'→∃ u,n=.value u)→(m >>= f).run P w0=.ok n w'→∃ u,n=.value u:=fun m f w0 hf hm=>by
        simp only [Sem.run_bind] at hm
        cases hmr:m.run P w0 with
        | ok v w1=>rw [hmr] at hm; simp only [Result.andThen_ok] at hm; exact hf _ _ hm
        | halt x w1=>rw [hmr] at hm; simp [Result.andThen] at hm
       have pureC:∀ (v:Value) (w1:World),(pure (Next.value v):Sem Next).run P w1=.ok n w'→∃ u,n=.value u:=fun v w1 q=>by simp only [Sem.run_pure,Result.ok.injEq] at q; exact ⟨_,q.1.symm⟩
       split at hr
       · simp [runtimePanic] at hr
       · simp [runtimePanic] at hr
       · simp [runtimePanic] at hr
       · split at hr
         · simp [runtimePanic] at hr
         · refine key2 _ _ _ (fun x w1 q=>?_) hr
           refine key2 _ _ _ (fun y w2 q=>?_) q
           split at q
           · exact key2 _ _ _ (fun z w3 q=>pureC _ _ q) q
           · exact pureC _ _ q
         · exact pureC _ _ hr
       · exact pureC _ _ hr)
    | skip
theorem wt {o:Oper} {v:Value} (h:QS P N F L M o v) (hp:mB o.op=true) {a:Act} {w:World} (ha:FrOK N M a) (hw:HpOK F L w):(execOp a.eval o).run P w=.ok (.value v) w:=by
 have h1:=h a w ha hw
 have h2:=EC (P:=P) hp a.eval w
 unfold Oper.quietAt at h1
 generalize (execOp a.eval o).run P w=r at *
 cases r with
 | ok n w' =>
  obtain ⟨u,rfl⟩:=h2 w' n rfl
  simp only [Oper.quietUpon] at h1
  obtain ⟨rfl,rfl⟩:=h1
  rfl
 | halt x w'=>simp only [Oper.quietUpon] at h1
variable {L0:List Ent} {fuel:Nat} {listed:Array Bool} {op:Op}
theorem bC {id:Nat} {l:List Oper} (L0:List Ent) (n:Nat) (hn:l.length=n) (hm:P.follows .mixedOrders=true)
  (h:Tr N F L M (wpAnyH P .any l.toArray Q (HpOK F L0) n (Array.replicate n false))):Tr N F L M ((Code.region id l.toArray true).wp P Q):=by
 subst hn
 intro a w ha hw
 exact wp_region_held (S:=HpOK F L0) hm (h a w.drew ha hw.drew)
def takeB (ops:Array Oper) (listed:Array Bool) (i:Nat):Bool:=Region.noSelect ops && Region.free .any ops listed i && (Region.ready .any ops listed).contains i
theorem Gt {v:Value} (i:Nat) (hi:ops[i]?=some ⟨some d,op,ty,pos,after,none⟩) (hB:takeB ops listed i=true) (hQ:∀ c a d v w,Q (.panic c) (a.put d v) w→Q (.panic c) a w) (hp:mB op=true)
  (h:QS P N F L0 M ⟨some d,op,ty,pos,after,none⟩ v) (hL:Pick L L0) (hd:Nat.ble (d+1) N=true)
  (k:Tr N F L ((d,v) :: M) (wpAnyH P .any ops Q (HpOK F L0) fuel (listed.setIfInBounds i true))):Tr N F L M (wpAnyH P .any ops Q (HpOK F L0) (fuel+1) listed):=by
 simp only [takeB,Bool.and_eq_true] at hB
 intro a w ha hw
 exact wpAnyH_take hi hB.1.1 hB.1.2 hB.2 (fun c a w=>hQ c a _ _ w) (.inl ⟨by simp [Region.wanted],fun w' hw'=>wt h hp ha hw'⟩) (hL.heap hw) (k _ _ (ha.put (Nat.le_of_ble_eq_true hd)) hw)
theorem Dt {S:World→Prop} (rs:List Nat) (hr:Region.ready .any ops listed=rs) (hne:rs≠[])
  (h:∀ i∈rs,Tr N F L M (fun a w=>wpOp P ops Q i (fun a' w'=>S w'∧wpAnyH P .any ops Q S fuel (listed.setIfInBounds i true) a' w') a w)):Tr N F L M (wpAnyH P .any ops Q S (fuel+1) listed) :=
 fun a w ha hw=>wpAnyH_all hr hne fun i hi=>h i hi a w ha hw
theorem m8 {S:World→Prop} (rs:List Nat) (h:∀ i∈rs,Tr N F L M (fun a w=>wpOp P ops Q i (fun a' w'=>S w'∧wpAnyH P .any ops Q S fuel (listed.setIfInBounds i true) a' w') a w)) (hr:Region.ready .any ops listed=rs:=by kernel_rfl) (hne:rs≠[]:=by simp):Tr N F L M (wpAnyH P .any ops Q S (fuel+1) listed):=Dt rs hr hne h
theorem cU {i:Nat} {o:Oper} {K:Act→World→Prop} (hi:ops[i]?=some o) (h:Tr N F L M (wpList P ops (Exit.then K Q) [o])):Tr N F L M (fun a w=>wpOp P ops Q i K a w):=by
 intro a w ha hw
 have h:=h a w ha hw
 unfold wpOp
 simp only [hi]
 unfold wpList at h
 split
 ·rename_i hwant
  rw [if_pos hwant] at h
  rcases h with h|⟨h,a0,w0,h0⟩
  ·left
   unfold Oper.wp at *
   generalize (execOp a.eval o).run P w=r at *
   cases r with
   | ok n w' =>
    cases n<;>simp only [Oper.upon] at h ⊢
    case value=>exact h
    case skip=>exact h
    case defer=>exact h
    case enter=>exact h.mono fun e w'' he=>by cases e<;>exact he
    case row=>exact h
   | halt x w'=>cases x<;>simp only [Oper.upon] at h ⊢; exact h
  ·exact .inr ⟨h,a0,w0,h0⟩
 ·rename_i hwant
  rw [if_neg hwant] at h
  exact h
theorem Gu {X:Act→World→Prop} (hL:Pick L L0) (k:Tr N F L M X):Tr N F L M (wpList P ops (Exit.then (fun a w=>HpOK F L0 w∧X a w) Q) []) :=
 fun a w ha hw=>⟨hL.heap hw,k a w ha hw⟩
theorem Gv {S:World→Prop} (hr:Region.ready .any ops listed=[]) (h:Tr N F L M (Q .normal)):Tr N F L M (wpAnyH P .any ops Q S fuel listed) :=
 fun a w ha hw=>wpAnyH_done hr (h a w ha hw) fuel
theorem fg {S:World→Prop} (h:Tr N F L M (Q .normal)) (hr:Region.ready .any ops listed=[]:=by kernel_rfl):Tr N F L M (wpAnyH P .any ops Q S fuel listed):=Gv hr h
end
section
variable {P:Program} {Q:Exit→Act→World→Prop} {N:Nat} {F:Bg} {L:List Ent} {M:Fr}
theorem NA {c:Code} (h:Tr N F L M (c.wp P (Exit.noGoto Q))):Tr N F L M ((Code.scope c).wp P Q):=fun a w ha hw=>wp_scope_straight (h a w ha hw)
theorem KR (h:Tr N F L M (Q .ret)):Tr N F L M (Exit.noGoto Q .ret):=h
theorem lg (h:∀ c a d v w,Q (.panic c) (a.put d v) w→Q (.panic c) a w):∀ c a d v w,Exit.noGoto Q (.panic c) (a.put d v) w→Exit.noGoto Q (.panic c) a w:=h
theorem dl {t:Nat} {v:Value} {M0:Fr} (hv:look M t=some v) (hs:SubX [t] M M0):Tr N F L M (fun a w=>FrOK N ((t,v) :: M0) a∧HpOK F L w) :=
 fun a w ha hw=>⟨ha.sub (SubX.front [(t,v)] (by simp [hv]) hs),hw⟩
end
section
variable {P:Program} {ops:Array Oper} {Q:Exit→Act→World→Prop} {Y:Act→Prop} {N:Nat} {F:Bg} {L:List Ent} {M:Fr} {d:Nat}
theorem Gj {l:List Oper} {t k:Nat} {p:Nat × Nat × Nat} {x y:Bool} (_hp:(k,t,d)=p) (_hx:look M t=some (.bool x)) (hT:x=true→TrQ N M (wpQuiet P ops (HpOK F L) (FrOK N ((d,.bool y) :: M)) (l.take k))) (hF:x=false→TrQ N M (wpQuiet P ops (HpOK F L) (FrOK N ((d,.bool false) :: M)) (l.take k)))
  (h2:TrQ N ((d,.bool (x && y)) :: M) (wpQuiet P ops (HpOK F L) Y (l.drop k))):TrQ N M (wpQuiet P ops (HpOK F L) Y l):=Jb k _hx hT hF h2
theorem Ja {l:List Oper} {t k:Nat} {p:Nat × Nat × Nat} {x y:Bool} (_hp:(k,t,d)=p) (_hx:look M t=some (.bool x)) (hF:x=false→TrQ N M (wpQuiet P ops (HpOK F L) (FrOK N ((d,.bool y) :: M)) (l.take k))) (hT:x=true→TrQ N M (wpQuiet P ops (HpOK F L) (FrOK N ((d,.bool true) :: M)) (l.take k)))
  (h2:TrQ N ((d,.bool (x || y)) :: M) (wpQuiet P ops (HpOK F L) Y (l.drop k))):TrQ N M (wpQuiet P ops (HpOK F L) Y l):=Nz k _hx hF hT h2
theorem fC {l:List Oper} {t k:Nat} {p:Nat × Nat × Nat} {x y:Bool} (_hp:(k,t,d)=p) (_hx:look M t=some (.bool x)) (hT:x=true→Tr N F L M (wpList P ops (Exit.then (fun a w=>FrOK N ((d,.bool y) :: M) a∧HpOK F L w) Q) (l.take k))) (hF:x=false→Tr N F L M (wpList P ops (Exit.then (fun a w=>FrOK N ((d,.bool false) :: M) a∧HpOK F L w) Q) (l.take k)))
  (h2:Tr N F L ((d,.bool (x && y)) :: M) (wpList P ops Q (l.drop k))):Tr N F L M (wpList P ops Q l):=Il k _hx hT hF h2
theorem gA {l:List Oper} {t k:Nat} {p:Nat × Nat × Nat} {x y:Bool} (_hp:(k,t,d)=p) (_hx:look M t=some (.bool x)) (hF:x=false→Tr N F L M (wpList P ops (Exit.then (fun a w=>FrOK N ((d,.bool y) :: M) a∧HpOK F L w) Q) (l.take k))) (hT:x=true→Tr N F L M (wpList P ops (Exit.then (fun a w=>FrOK N ((d,.bool true) :: M) a∧HpOK F L w) Q) (l.take k)))
  (h2:Tr N F L ((d,.bool (x || y)) :: M) (wpList P ops Q (l.drop k))):Tr N F L M (wpList P ops Q l):=BW k _hx hF hT h2
end
theorem bs:(∀ a b:Bool,((a && b)=true)=(a=true∧b=true))∧(∀ a b:Bool,((a || b)=true)=(a=true∨b=true))∧(∀ a:Bool,((!a)=true)=(a=false))∧(∀ a:Bool,((!a)=false)=(a=true)) ∧
  (∀ (p:Prop) [Decidable p],(decide p=true)=p)∧(∀ (p:Prop) [Decidable p],(decide p=false)=¬ p)∧(∀ a b:Bool,((a && b)=false)=(a=false∨b=false))∧(∀ a b:Bool,((a || b)=false)=(a=false∧b=false)) ∧
  (∀ (α:Type) (a b:α),(a≠b)=¬ a=b)∧(∀ (p:Prop) [Decidable p],(¬ ¬ p)=p) :=
 ⟨fun a b=>by cases a<;>cases b<;>simp,fun a b=>by cases a<;>cases b<;>simp,fun a=>by cases a<;>simp,fun a=>by cases a<;>simp,fun p _=>by simp,fun p _=>by simp,fun a b=>by cases a<;>cases b<;>simp,fun a b=>by cases a<;>cases b<;>simp,fun _ _ _=>rfl,fun p _=>by simp⟩
section
variable {P:Program} {ops:Array Oper} {Q:Exit→Act→World→Prop} {N:Nat} {F:Bg} {L:List Ent} {M:Fr} {dst:Option Tmp} {ty:TypeId} {pos:String} {after:Array Edge} {g:Option (Nat × Bool)} {d:Nat} {L0:List Ent} {fuel:Nat} {listed:Array Bool} {op:Op}
theorem aN {L':List Ent} {M':Fr} {K:Act→World→Prop} (hM:Sub M M') (hK:K=(fun a w=>FrOK N M' a∧HpOK F L' w):=by rfl) (hL:Pick L L':=by repeat' (first|exact Pick.nil _|exact Del.here _|apply Pick.cons|apply Del.there)):Tr N F L M K:=o6 hM hK hL
theorem jx {v:Value} (i:Nat) (hi:ops[i]?=some ⟨some d,op,ty,pos,after,none⟩) (hB:takeB ops listed i=true) (hQ:∀ c a d v w,Q (.panic c) (a.put d v) w→Q (.panic c) a w)
  (h:QS P N F L0 M ⟨some d,op,ty,pos,after,none⟩ v) (k:Tr N F L ((d,v) :: M) (wpAnyH P .any ops Q (HpOK F L0) fuel (listed.setIfInBounds i true)))
  (hp:mB op=true:=by rfl) (hd:Nat.ble (d+1) N=true:=by rfl) (hL:Pick L L0:=by repeat' (first|exact Pick.nil _|exact Del.here _|apply Pick.cons|apply Del.there)) :
  Tr N F L M (wpAnyH P .any ops Q (HpOK F L0) (fuel+1) listed):=Gt i hi hB hQ hp h hL hd k
theorem zz4 {v:Value} (i:Nat) (hi:ops[i]?=some ⟨some d,op,ty,pos,after,none⟩) (h:QS P N F L0 M ⟨some d,op,ty,pos,after,none⟩ v) (k:Tr N F L ((d,v) :: M) (wpAnyH P .any ops Q (HpOK F L0) fuel (listed.setIfInBounds i true))) (hB:takeB ops listed i=true:=by kernel_rfl) (hQ:∀ c a d v w,Q (.panic c) (a.put d v) w→Q (.panic c) a w:=by intro c a d v w h; first|(cases d<;>exact h)|cases h.1) (hp:mB op=true:=by rfl) (hd:Nat.ble (d+1) N=true:=by rfl) (hL:Pick L L0:=by repeat' (first|exact Pick.nil _|exact Del.here _|apply Pick.cons|apply Del.there)):Tr N F L M (wpAnyH P .any ops Q (HpOK F L0) (fuel+1) listed):=jx i hi hB hQ h k hp hd hL
theorem aC {X:Act→World→Prop} (k:Tr N F L M X) (hL:Pick L L0:=by repeat' (first|exact Pick.nil _|exact Del.here _|apply Pick.cons|apply Del.there)):Tr N F L M (wpList P ops (Exit.then (fun a w=>HpOK F L0 w∧X a w) Q) []):=Gu hL k
theorem QT {x:Operand} {t T:TypeId} {b o:Nat} {v:Value} {cs:List Value} (hx:opv M x=some (.pointer (some ⟨b,o,none⟩))) (hagg:∀ w,(isAgg t).run P w=.ok false w)
  (hm:cellE b cs T∈L:=by repeat (first|exact List.Mem.head _|apply List.Mem.tail)) (hv:cs[o]?=some v:=by rfl):QS P N F L M ⟨dst,.load t x,ty,pos,after,g⟩ v:=ou hx hm hagg hv
theorem QR {x:Operand} {t T:TypeId} {b k:Nat} {cs:List Value} (hx:opv M x=some (.pointer (some ⟨b,0,none⟩))) (hagg:∀ w,(isAgg t).run P w=.ok true w)
  (hz:∀ w,(sizeOf t).run P w=.ok k w) (hm:cellE b cs T∈L:=by repeat (first|exact List.Mem.head _|apply List.Mem.tail)) (hl:cs.length=k:=by rfl):QS P N F L M ⟨dst,.load t x,ty,pos,after,g⟩ (.agg cs.toArray):=B2 hx hm hagg hz hl
end
end Go.HL
namespace Go.Proofs.YtiajjbhcpeadfaaGreat
open Go Go.HL
theorem lB:∀ fs,Tryz.prog.underlying 25=some (.struct fs)→WordFields Tryz.prog fs.toList [.bool,.bool,(.int .u32),(.int .u32),(.int .u32)]:=by
 intro fs h
 rw [Tryz.underlying25] at h
 cases h
 exact (.cons (by decide) Tryz.underlying4 Tryz.isAgg4 (.cons (by decide) Tryz.underlying4 Tryz.isAgg4 (.cons (by decide) Tryz.underlying23 Tryz.isAgg23 (.cons (by decide) Tryz.underlying23 Tryz.isAgg23 (.cons (by decide) Tryz.underlying23 Tryz.isAgg23 .nil)))))
theorem mq:Tryz.prog.stoodInHeld 25=false:=by kernel_rfl
theorem sX:Tryz.prog.eqGuardType Tryz.prog.depth 25=false:=by kernel_rfl
theorem xe:∀ fs,Tryz.prog.underlying 36=some (.struct fs)→WordFields Tryz.prog fs.toList [(.int .u32),(.int .u32),(.int .i64),(.int .i64),(.int .i64),(.int .i64),(.int .i64),(.int .i64),(.int .i64)]:=by
 intro fs h
 rw [Tryz.underlying36] at h
 cases h
 exact (.cons (by decide) Tryz.underlying23 Tryz.isAgg23 (.cons (by decide) Tryz.underlying23 Tryz.isAgg23 (.cons (by decide) Tryz.underlying3 Tryz.isAgg3 (.cons (by decide) Tryz.underlying3 Tryz.isAgg3 (.cons (by decide) Tryz.underlying3 Tryz.isAgg3 (.cons (by decide) Tryz.underlying3 Tryz.isAgg3 (.cons (by decide) Tryz.underlying3 Tryz.isAgg3 (.cons (by decide) Tryz.underlying3 Tryz.isAgg3 (.cons (by decide) Tryz.underlying3 Tryz.isAgg3 .nil)))))))))
theorem Ae:Tryz.prog.stoodInHeld 36=false:=by kernel_rfl
theorem B7:Tryz.prog.eqGuardType Tryz.prog.depth 36=false:=by kernel_rfl
theorem kf:Tryz.prog.eqGuardType Tryz.prog.depth 313=false:=by kernel_rfl
theorem tl (x0:Bool):Tryz.prog.built 25 [(0,.bool x0)]=some #[.bool x0,.bool false,.int .u32 0,.int .u32 0,.int .u32 0]:=by kernel_rfl
theorem tj (x0:Bool):Tryz.prog.built 25 [(1,.bool x0)]=some #[.bool false,.bool x0,.int .u32 0,.int .u32 0,.int .u32 0]:=by kernel_rfl
theorem rl (x0 x1:Int):Tryz.prog.built 25 [(2,.int .u32 x0),(3,.int .u32 x1)]=some #[.bool false,.bool false,.int .u32 x0,.int .u32 x1,.int .u32 0]:=by kernel_rfl
theorem o9 (x0 x1 x2:Int):Tryz.prog.built 25 [(2,.int .u32 x0),(3,.int .u32 x1),(4,.int .u32 x2)]=some #[.bool false,.bool false,.int .u32 x0,.int .u32 x1,.int .u32 x2]:=by kernel_rfl
theorem GN  : Tryz.prog.built 28 []=some #[(.bool false),(.bool false),(.int .u32 0),(.int .u32 0),(.int .u32 0),(.bool false),(.bool false),(.int .u32 0),(.int .u32 0),(.int .u32 0),(.bool false),(.bool false),(.int .u32 0),(.int .u32 0),(.int .u32 0),(.bool false),(.bool false),(.int .u32 0),(.int .u32 0),(.int .u32 0),(.bool false),(.bool false),(.int .u32 0),(.int .u32 0),(.int .u32 0),(.bool false),(.bool false),(.int .u32 0),(.int .u32 0),(.int .u32 0),(.bool false),(.bool false),(.int .u32 0),(.int .u32 0),(.int .u32 0),(.bool false),(.bool false),(.int .u32 0),(.int .u32 0),(.int .u32 0)]:=by kernel_rfl
theorem gm  : Tryz.prog.built 36 []=some #[(.int .u32 0),(.int .u32 0),(.int .i64 0),(.int .i64 0),(.int .i64 0),(.int .i64 0),(.int .i64 0),(.int .i64 0),(.int .i64 0)]:=by kernel_rfl
theorem vk (x0 x1 x2:Int):Tryz.prog.built 36 [(0,.int .u32 x0),(2,.int .i64 x1),(8,.int .i64 x2)]=some #[.int .u32 x0,.int .u32 0,.int .i64 x1,.int .i64 0,.int .i64 0,.int .i64 0,.int .i64 0,.int .i64 0,.int .i64 x2]:=by kernel_rfl
theorem xA (x0 x1:Int):Tryz.prog.built 36 [(0,.int .u32 x0),(8,.int .i64 x1)]=some #[.int .u32 x0,.int .u32 0,.int .i64 0,.int .i64 0,.int .i64 0,.int .i64 0,.int .i64 0,.int .i64 0,.int .i64 x1]:=by kernel_rfl
theorem g9 (x0:Int):Tryz.prog.built 36 [(2,.int .i64 x0)]=some #[.int .u32 0,.int .u32 0,.int .i64 x0,.int .i64 0,.int .i64 0,.int .i64 0,.int .i64 0,.int .i64 0,.int .i64 0]:=by kernel_rfl
theorem xz (x0 x1:Int):Tryz.prog.built 36 [(2,.int .i64 x0),(3,.int .i64 x1)]=some #[.int .u32 0,.int .u32 0,.int .i64 x0,.int .i64 x1,.int .i64 0,.int .i64 0,.int .i64 0,.int .i64 0,.int .i64 0]:=by kernel_rfl
theorem o8 (x0 x1 x2:Int):Tryz.prog.built 36 [(2,.int .i64 x0),(3,.int .i64 x1),(5,.int .i64 x2)]=some #[.int .u32 0,.int .u32 0,.int .i64 x0,.int .i64 x1,.int .i64 0,.int .i64 x2,.int .i64 0,.int .i64 0,.int .i64 0]:=by kernel_rfl
theorem fK (x0 x1:Int):Tryz.prog.built 36 [(2,.int .i64 x0),(4,.int .i64 x1)]=some #[.int .u32 0,.int .u32 0,.int .i64 x0,.int .i64 0,.int .i64 x1,.int .i64 0,.int .i64 0,.int .i64 0,.int .i64 0]:=by kernel_rfl
theorem xy (x0 x1:Int):Tryz.prog.built 36 [(2,.int .i64 x0),(5,.int .i64 x1)]=some #[.int .u32 0,.int .u32 0,.int .i64 x0,.int .i64 0,.int .i64 0,.int .i64 x1,.int .i64 0,.int .i64 0,.int .i64 0]:=by kernel_rfl
theorem kZ (x0 x1:Int):Tryz.prog.built 36 [(2,.int .i64 x0),(6,.int .i64 x1)]=some #[.int .u32 0,.int .u32 0,.int .i64 x0,.int .i64 0,.int .i64 0,.int .i64 0,.int .i64 x1,.int .i64 0,.int .i64 0]:=by kernel_rfl
theorem o7 (x0 x1 x2:Int):Tryz.prog.built 36 [(2,.int .i64 x0),(6,.int .i64 x1),(1,.int .u32 x2)]=some #[.int .u32 0,.int .u32 x2,.int .i64 x0,.int .i64 0,.int .i64 0,.int .i64 0,.int .i64 x1,.int .i64 0,.int .i64 0]:=by kernel_rfl
theorem xg  : Tryz.prog.built 37 []=some #[(.bool false),(.bool false),(.int .u32 0),(.int .u32 0),(.int .u32 0),(.bool false),(.bool false),(.int .u32 0),(.int .u32 0),(.int .u32 0),(.bool false),(.bool false),(.int .u32 0),(.int .u32 0),(.int .u32 0),(.bool false),(.bool false),(.int .u32 0),(.int .u32 0),(.int .u32 0),(.bool false),(.bool false),(.int .u32 0),(.int .u32 0),(.int .u32 0),(.bool false),(.bool false),(.int .u32 0),(.int .u32 0),(.int .u32 0),(.bool false),(.bool false),(.int .u32 0),(.int .u32 0),(.int .u32 0),(.bool false),(.bool false),(.int .u32 0),(.int .u32 0),(.int .u32 0)]:=by kernel_rfl
theorem sy  : Tryz.prog.built 52 []=some #[(.slice none 0 0),(.slice none 0 0),(.slice none 0 0),(.slice none 0 0)]:=by kernel_rfl
theorem kg  : Tryz.prog.built 69 []=some #[(.slice none 0 0),(.slice none 0 0),(.slice none 0 0),(.slice none 0 0)]:=by kernel_rfl
theorem vm  : Tryz.prog.built 114 []=some #[(.slice none 0 0),(.slice none 0 0),(.slice none 0 0),(.slice none 0 0),(.slice none 0 0),(.slice none 0 0)]:=by kernel_rfl
theorem vl  : Tryz.prog.built 136 []=some #[(.slice none 0 0),(.slice none 0 0)]:=by kernel_rfl
theorem qq (x0 x1:Int):Tryz.prog.built 165 [(0,.int .u32 x0),(1,.int .u32 x1)]=some #[.int .u32 x0,.int .u32 x1]:=by kernel_rfl
theorem wA (x0:Int) (x1:Bool):Tryz.prog.built 274 [(0,.int .i64 x0),(1,.bool x1)]=some #[.int .i64 x0,.bool x1]:=by kernel_rfl
theorem iD (x0 x1 x2 x3 x4 x5 x6 x7 x8 x9 x10 x11 x12 x13 x14 x15 x16 x17 x18 x19 x20 x21 x22 x23 x24 x25 x26 x27 x28 x29 x30 x31 x32 x33 x34 x35 x36 x37 x38 x39 x40 x41 x42 x43 x44 x45 x46 x47 x48 x49 x50 x51 x52 x53 x54 x55 x56 x57 x58 x59 x60 x61 x62 x63 x64 x65 x66 x67 x68 x69 x70 x71 x72 x73 x74 x75 x76 x77 x78 x79 x80 x81 x82 x83 x84 x85 x86 x87 x88 x89 x90 x91 x92 x93 x94 x95 x96 x97 x98 x99 x100 x101 x102 x103 x104 x105 x106 x107 x108 x109 x110 x111 x112 x113 x114 x115 x116 x117 x118 x119 x120 x121 x122 x123 x124 x125 x126 x127 x128 x129 x130 x131 x132 x133 x134:Int):Tryz.prog.built 283 [(0,(.agg #[.int .u32 x0,.int .u32 x1,.int .i64 x2,.int .i64 x3,.int .i64 x4,.int .i64 x5,.int .i64 x6,.int .i64 x7,.int .i64 x8])),(1,(.agg #[.int .u32 x9,.int .u32 x10,.int .i64 x11,.int .i64 x12,.int .i64 x13,.int .i64 x14,.int .i64 x15,.int .i64 x16,.int .i64 x17])),(2,(.agg #[.int .u32 x18,.int .u32 x19,.int .i64 x20,.int .i64 x21,.int .i64 x22,.int .i64 x23,.int .i64 x24,.int .i64 x25,.int .i64 x26])),(3,(.agg #[.int .u32 x27,.int .u32 x28,.int .i64 x29,.int .i64 x30,.int .i64 x31,.int .i64 x32,.int .i64 x33,.int .i64 x34,.int .i64 x35])),(4,(.agg #[.int .u32 x36,.int .u32 x37,.int .i64 x38,.int .i64 x39,.int .i64 x40,.int .i64 x41,.int .i64 x42,.int .i64 x43,.int .i64 x44])),(5,(.agg #[.int .u32 x45,.int .u32 x46,.int .i64 x47,.int .i64 x48,.int .i64 x49,.int .i64 x50,.int .i64 x51,.int .i64 x52,.int .i64 x53])),(6,(.agg #[.int .u32 x54,.int .u32 x55,.int .i64 x56,.int .i64 x57,.int .i64 x58,.int .i64 x59,.int .i64 x60,.int .i64 x61,.int .i64 x62])),(7,(.agg #[.int .u32 x63,.int .u32 x64,.int .i64 x65,.int .i64 x66,.int .i64 x67,.int .i64 x68,.int .i64 x69,.int .i64 x70,.int .i64 x71])),(8,(.agg #[.int .u32 x72,.int .u32 x73,.int .i64 x74,.int .i64 x75,.int .i64 x76,.int .i64 x77,.int .i64 x78,.int .i64 x79,.int .i64 x80])),(9,(.agg #[.int .u32 x81,.int .u32 x82,.int .i64 x83,.int .i64 x84,.int .i64 x85,.int .i64 x86,.int .i64 x87,.int .i64 x88,.int .i64 x89])),(10,(.agg #[.int .u32 x90,.int .u32 x91,.int .i64 x92,.int .i64 x93,.int .i64 x94,.int .i64 x95,.int .i64 x96,.int .i64 x97,.int .i64 x98])),(11,(.agg #[.int .u32 x99,.int .u32 x100,.int .i64 x101,.int .i64 x102,.int .i64 x103,.int .i64 x104,.int .i64 x105,.int .i64 x106,.int .i64 x107])),(12,(.agg #[.int .u32 x108,.int .u32 x109,.int .i64 x110,.int .i64 x111,.int .i64 x112,.int .i64 x113,.int .i64 x114,.int .i64 x115,.int .i64 x116])),(13,(.agg #[.int .u32 x117,.int .u32 x118,.int .i64 x119,.int .i64 x120,.int .i64 x121,.int .i64 x122,.int .i64 x123,.int .i64 x124,.int .i64 x125])),(14,(.agg #[.int .u32 x126,.int .u32 x127,.int .i64 x128,.int .i64 x129,.int .i64 x130,.int .i64 x131,.int .i64 x132,.int .i64 x133,.int .i64 x134]))]=some #[.int .u32 x0,.int .u32 x1,.int .i64 x2,.int .i64 x3,.int .i64 x4,.int .i64 x5,.int .i64 x6,.int .i64 x7,.int .i64 x8,.int .u32 x9,.int .u32 x10,.int .i64 x11,.int .i64 x12,.int .i64 x13,.int .i64 x14,.int .i64 x15,.int .i64 x16,.int .i64 x17,.int .u32 x18,.int .u32 x19,.int .i64 x20,.int .i64 x21,.int .i64 x22,.int .i64 x23,.int .i64 x24,.int .i64 x25,.int .i64 x26,.int .u32 x27,.int .u32 x28,.int .i64 x29,.int .i64 x30,.int .i64 x31,.int .i64 x32,.int .i64 x33,.int .i64 x34,.int .i64 x35,.int .u32 x36,.int .u32 x37,.int .i64 x38,.int .i64 x39,.int .i64 x40,.int .i64 x41,.int .i64 x42,.int .i64 x43,.int .i64 x44,.int .u32 x45,.int .u32 x46,.int .i64 x47,.int .i64 x48,.int .i64 x49,.int .i64 x50,.int .i64 x51,.int .i64 x52,.int .i64 x53,.int .u32 x54,.int .u32 x55,.int .i64 x56,.int .i64 x57,.int .i64 x58,.int .i64 x59,.int .i64 x60,.int .i64 x61,.int .i64 x62,.int .u32 x63,.int .u32 x64,.int .i64 x65,.int .i64 x66,.int .i64 x67,.int .i64 x68,.int .i64 x69,.int .i64 x70,.int .i64 x71,.int .u32 x72,.int .u32 x73,.int .i64 x74,.int .i64 x75,.int .i64 x76,.int .i64 x77,.int .i64 x78,.int .i64 x79,.int .i64 x80,.int .u32 x81,.int .u32 x82,.int .i64 x83,.int .i64 x84,.int .i64 x85,.int .i64 x86,.int .i64 x87,.int .i64 x88,.int .i64 x89,.int .u32 x90,.int .u32 x91,.int .i64 x92,.int .i64 x93,.int .i64 x94,.int .i64 x95,.int .i64 x96,.int .i64 x97,.int .i64 x98,.int .u32 x99,.int .u32 x100,.int .i64 x101,.int .i64 x102,.int .i64 x103,.int .i64 x104,.int .i64 x105,.int .i64 x106,.int .i64 x107,.int .u32 x108,.int .u32 x109,.int .i64 x110,.int .i64 x111,.int .i64 x112,.int .i64 x113,.int .i64 x114,.int .i64 x115,.int .i64 x116,.int .u32 x117,.int .u32 x118,.int .i64 x119,.int .i64 x120,.int .i64 x121,.int .i64 x122,.int .i64 x123,.int .i64 x124,.int .i64 x125,.int .u32 x126,.int .u32 x127,.int .i64 x128,.int .i64 x129,.int .i64 x130,.int .i64 x131,.int .i64 x132,.int .i64 x133,.int .i64 x134]:=by kernel_rfl
theorem eM (x0 x1:Int):Tryz.prog.built 313 [(0,.int .i64 x0),(1,.int .i64 x1)]=some #[.int .i64 x0,.int .i64 x1]:=by kernel_rfl
theorem sA (x0 x1 x2 x3:Int):Tryz.prog.built 319 [(0,.int .i64 x0),(1,.int .i64 x1),(2,.int .i64 x2),(3,.int .i64 x3)]=some #[.int .i64 x0,.int .i64 x1,.int .i64 x2,.int .i64 x3]:=by kernel_rfl
theorem mr (x0 x1 x2 x3 x4 x5 x6 x7 x8:Int):Tryz.prog.built 321 [(0,.int .i64 x0),(1,.int .i64 x1),(2,.int .i64 x2),(3,.int .i64 x3),(4,.int .i64 x4),(5,.int .i64 x5),(6,.int .i64 x6),(7,.int .i64 x7),(8,.int .i64 x8)]=some #[.int .i64 x0,.int .i64 x1,.int .i64 x2,.int .i64 x3,.int .i64 x4,.int .i64 x5,.int .i64 x6,.int .i64 x7,.int .i64 x8]:=by kernel_rfl
theorem jB (x0 x1 x2 x3 x4 x5 x6 x7 x8 x9 x10 x11 x12:Int):Tryz.prog.built 324 [(0,.int .u32 x0),(1,.int .u32 x1),(2,.int .u32 x2),(3,.int .u32 x3),(4,.int .u32 x4),(5,.int .u32 x5),(6,.int .u32 x6),(7,.int .u32 x7),(8,.int .u32 x8),(9,.int .u32 x9),(10,.int .u32 x10),(11,.int .u32 x11),(12,.int .u32 x12)]=some #[.int .u32 x0,.int .u32 x1,.int .u32 x2,.int .u32 x3,.int .u32 x4,.int .u32 x5,.int .u32 x6,.int .u32 x7,.int .u32 x8,.int .u32 x9,.int .u32 x10,.int .u32 x11,.int .u32 x12]:=by kernel_rfl
end Go.Proofs.YtiajjbhcpeadfaaGreat
namespace Go.HL.W
open Go
theorem u32_extI {a b:UInt32} (h:a.toNat=b.toNat):a=b:=UInt32.toNat_inj.1 h
theorem u32_byteI (n:UInt32):(n % 256).toUInt8=n.toUInt8:=by
 apply UInt8.toNat_inj.1
 simp [UInt32.toNat_toUInt8,UInt32.toNat_mod]
theorem shl_orI (m:UInt32) (x:UInt8):(jt m 8 ||| x.toUInt32)=m * 256+x.toUInt32:=by
 apply u32_extI
 have hx:=x.toNat_lt
 have hm:=m.toNat_lt
 rw [UInt32.toNat_or,jc,UInt32.toNat_add,UInt32.toNat_mul]
 have e1:m.toNat * 2 ^ 8 % 4294967296=(m.toNat % 16777216) <<< 8:=by rw [Nat.shiftLeft_eq]; omega
 have e2:x.toUInt32.toNat=x.toNat:=by simp
 rw [e1,e2,← Nat.shiftLeft_add_eq_or_of_lt (by omega:x.toNat<2 ^ 8),Nat.shiftLeft_eq]
 have e3:(256:UInt32).toNat=256:=rfl
 rw [e3]; omega
end Go.HL.W
namespace Go.HL
open Go
structure Ins where
 addr:UInt32
 imm:UInt32
 op:Int
 form:Int
 width:Int
 cc:Int
 a:Int
 b:Int
 size:Int
 deriving DecidableEq,Inhabited
def al:Enc Ins:=⟨9,fun i=>[.int .u32 i.addr.toNat,.int .u32 i.imm.toNat,.int .i64 i.op,.int .i64 i.form,.int .i64 i.width,.int .i64 i.cc,.int .i64 i.a,.int .i64 i.b,.int .i64 i.size],fun _=>rfl,
 fun x v h=>by simp at h; rcases h with h|h|h|h|h|h|h|h|h<;>subst h<;>rfl⟩
def I64 (x:Int):Prop:=-9223372036854775808≤x∧x≤9223372036854775807
structure InsOK (i:Ins):Prop where
 op:I64 i.op
 form:I64 i.form
 width:I64 i.width
 cc:I64 i.cc
 a:I64 i.a
 b:I64 i.b
 size:I64 i.size
def fj (i:Ins):UInt8 :=
 if i.op=16∧i.width=4 then 80 else if i.op=16∧i.width=1 then 81 else if i.op=17∧i.width=1 then 82 else if i.op=16∧i.width=2 then 83
 else if i.op=17∧i.width=2 then 84 else if i.op=18∧i.width=4 then 85 else if i.op=18∧i.width=1 then 86 else if i.op=18∧i.width=2 then 87 else 0
def og (i:Ins):UInt8 × Int × Bool :=
 if i.cc<0∨14<i.cc then (0,0,false) else if i.op=25 then (144+u8 i.cc,2,true) else if i.form=1 then (96+u8 i.cc,7,true) else if i.form=2 then (112+u8 i.cc,8,true) else (0,0,false)
def aB (i:Ins):UInt8 × Int × Bool :=
 if i.op=0∨i.op=1∨i.op=2 then (u8 i.op,0,true)
 else if i.op=3 then (8+u8 (i.a % 8),1,true)
 else if i.op=4 then (16+u8 (i.a % 8),1,true)
 else if 5≤i.op∧i.op≤15 then
  if i.form=0 then (32+u8 (i.op - 5),3,true) else if i.form=1 then (48+u8 (i.op - 5),4,true) else if i.form=2 then (64+u8 (i.op - 5),6,true) else (0,0,false)
 else if i.op=16∨i.op=17∨i.op=18 then (fj i,5,decide (fj i≠0))
 else if i.op=19 then (90,5,true)
 else if i.op=20∨i.op=25 then og i
 else if i.op=23 then (128,8,true)
 else if i.op=24 then (129,2,true)
 else if i.op=21 then (130,2,true)
 else if i.op=22 then (131,6,true)
 else if i.op=26 then (160,2,true)
 else if i.op=27 then (161,2,true)
 else (0,0,false)
def oJ (i:Ins) (s:Int):Ins :=
  ⟨i.addr,if s=4∨s=5∨s=6∨s=7∨s=8 then i.imm else 0,i.op,
   if 5≤i.op∧i.op≤15∨i.op=20 then i.form else 0,if i.op=16∨i.op=17∨i.op=18 then i.width else 0,if i.op=20∨i.op=25 then i.cc else 0,
   if s=1∨s=2∨s=3∨s=4∨s=5∨s=6 then i.a else 0,if s=3∨s=5 then i.b else 0,i.size⟩
def mU (r:Int):Bool:=decide (0≤r) && decide (r<8)
theorem lI {r:Int}:mU r=true↔0≤r∧r<8:=by simp [mU]
def iu (n:UInt32):Bool:=decide (n≤127) || decide (4294967168≤n)
def eN (i:Ins):Int :=
 if (aB i).2.2=false∨mU i.a=false∨mU i.b=false∨oJ i (aB i).2.1≠i then 2
 else if ((aB i).2.1=4∨(aB i).2.1=5)∧iu i.imm=false∨(aB i).2.1=7∧iu (i.imm - i.addr - 2)=false then 7
 else 0
def lj (i:Ins):UInt8 × Int × Int:=if eN i=0 then ((aB i).1,(aB i).2.1,0) else (0,0,eN i)
theorem tR (i:Ins):(lj i).2.2=eN i:=by
 unfold lj
 split
 ·rename_i h; rw [h]
 ·rfl
theorem BK {i:Ins} (h:eN i=0):lj i=((aB i).1,(aB i).2.1,0):=by unfold lj; rw [if_pos h]
theorem BL {i:Ins} (h:eN i≠0):lj i=(0,0,eN i):=by unfold lj; rw [if_neg h]
def eK (s:Int):Int:=if s=0∨s=1 then 1 else if s=2∨s=3∨s=7 then 2 else if s=4∨s=5 then 3 else if s=6 then 6 else 5
def gG (i:Ins):Int:=if eN i=0 then eK (aB i).2.1 else 0
def jT (i:Ins):UInt32:=i.addr+u32 (gG i)
def Nx (s:Int) (i:Ins) (next:UInt32):List UInt8 :=
 if s=2 then [u8 i.a] else if s=3 then [u8 (i.a * 16+i.b)] else if s=4 then [u8 i.a,i.imm.toUInt8] else if s=5 then [u8 (i.a * 16+i.b),i.imm.toUInt8]
 else if s=6 then u8 i.a :: On [] i.imm 4 else if s=7 then [(i.imm - next).toUInt8] else if s=8 then On [] (i.imm - next) 4 else []
def xN (i:Ins):List UInt8:=if eN i=0 then (aB i).1 :: Nx (aB i).2.1 i (i.addr+u32 (eK (aB i).2.1)) else []
def Em:List Ins:=[⟨0,0,16,0,4,0,0,0,0⟩,⟨0,0,16,0,1,0,0,0,0⟩,⟨0,0,17,0,1,0,0,0,0⟩,⟨0,0,16,0,2,0,0,0,0⟩,⟨0,0,17,0,2,0,0,0,0⟩,
 ⟨0,0,18,0,4,0,0,0,0⟩,⟨0,0,18,0,1,0,0,0,0⟩,⟨0,0,18,0,2,0,0,0,0⟩,
 ⟨0,0,19,0,0,0,0,0,0⟩,⟨0,0,23,0,0,0,0,0,0⟩,⟨0,0,24,0,0,0,0,0,0⟩,⟨0,0,21,0,0,0,0,0,0⟩,⟨0,0,22,0,0,0,0,0,0⟩,⟨0,0,26,0,0,0,0,0,0⟩,⟨0,0,27,0,0,0,0,0,0⟩]
def vW (c:UInt8):List Ins→Ins × Bool
 | []=>(⟨0,0,0,0,0,0,0,0,0⟩,false)
 | i :: l=>if (aB i).2.2=true∧(aB i).1=c then (i,true) else vW c l
def jS (op form cc a:Int):Ins:=⟨0,0,op,form,0,cc,a,0,0⟩
def rowP (c:UInt8):Ins × Bool :=
 if c≤2 then (jS c.toNat 0 0 0,true)
 else if 8≤c∧c<16 then (jS 3 0 0 ((c % 16).toNat - 8),true)
 else if 16≤c∧c<24 then (jS 4 0 0 (c % 16).toNat,true)
 else if 2≤((c / 16).toNat:Int)∧((c / 16).toNat:Int)≤4∧((c % 16).toNat:Int)≤10 then (jS (5+(c % 16).toNat) ((c / 16).toNat - 2) 0 0,true)
 else if ((c / 16).toNat:Int)=6∧((c % 16).toNat:Int)≤14 then (jS 20 1 (c % 16).toNat 0,true)
 else if ((c / 16).toNat:Int)=7∧((c % 16).toNat:Int)≤14 then (jS 20 2 (c % 16).toNat 0,true)
 else if ((c / 16).toNat:Int)=9∧((c % 16).toNat:Int)≤14 then (jS 25 0 (c % 16).toNat 0,true)
 else vW c Em
def nR (x:UInt8):UInt32:=if x<128 then x.toUInt32 else x.toUInt32+4294967040
def iO (b:List UInt8) (k:Nat):UInt32:=(b.getD k default).toUInt32+256 * (b.getD (k+1) default).toUInt32+65536 * (b.getD (k+2) default).toUInt32+16777216 * (b.getD (k+3) default).toUInt32
def ll (s:Int) (k:Ins) (b:List UInt8) (next:UInt32):Ins :=
 if s=2 then { k with a:=(b.getD 1 default).toNat }
 else if s=3 then { k with a:=(b.getD 1 default / 16).toNat,b:=(b.getD 1 default % 16).toNat }
 else if s=4 then { k with a:=(b.getD 1 default).toNat,imm:=nR (b.getD 2 default) }
 else if s=5 then { k with a:=(b.getD 1 default / 16).toNat,b:=(b.getD 1 default % 16).toNat,imm:=nR (b.getD 2 default) }
 else if s=6 then { k with a:=(b.getD 1 default).toNat,imm:=iO b 2 }
 else if s=7 then { k with imm:=next+nR (b.getD 1 default) }
 else if s=8 then { k with imm:=next+iO b 1 }
 else k
def bh:Ins:=⟨0,0,0,0,0,0,0,0,0⟩
def wZ (k:Ins) (s:Int) (b:List UInt8) (addr:UInt32):Ins:=ll s { k with addr:=addr,size:=eK s } b (addr+u32 (eK s))
def oy (b:List UInt8) (addr:UInt32):Ins × Int :=
 if b.length=0 then (bh,5)
 else if (rowP (b.getD 0 default)).2=false then (bh,13)
 else if (b.length:Int)<eK (aB (rowP (b.getD 0 default)).1).2.1 then (bh,5)
 else
  let i:=wZ (rowP (b.getD 0 default)).1 (aB (rowP (b.getD 0 default)).1).2.1 b addr
  if mU i.a=false∨mU i.b=false then (bh,13) else (i,0)
def jf (i:Ins):Bool:=decide (i.op=1∨i.op=2∨i.op=21∨i.op=22) || (decide (i.op=20) && decide (i.cc=0))
def bG (i:Ins):UInt32 × Bool:=if i.op=20∨i.op=23 then (i.imm,true) else (0,false)
def oK (n:UInt32):Bool:=decide (n≤127) || decide (4294967168≤n)
def lK (op:Int):Bool:=decide (5≤op) && decide (op≤15)
def ma (op:Int):Bool:=(decide (op=16) || decide (op=17)) || decide (op=18)
def Bu (op:Int):Bool:=((decide (3≤op) && decide (op≤27)) && decide (op≠20)) && decide (op≠23)
def Bt (i:Ins):Bool:=((lK i.op && decide (i.form=0)) || ma i.op) || decide (i.op=19)
def xJ (i:Ins):Bool:=(((((lK i.op && decide (i.form≠0)) || ma i.op) || decide (i.op=19)) || decide (i.op=20)) || decide (i.op=22)) || decide (i.op=23)
def vT (op:Int):Bool:=decide (op=20) || decide (op=25)
def E4 (n:Int):Bool:=decide (0≤n) && decide (n≤14)
def lh (i:Ins):Bool :=
 if lK i.op=true then decide (0≤i.form) && decide (i.form≤2) else if i.op=20 then decide (i.form=1) || decide (i.form=2) else decide (i.form=0)
def ja (i:Ins):Bool :=
 if i.op=17 then decide (i.width=1) || decide (i.width=2) else if ma i.op=true then (decide (i.width=1) || decide (i.width=2)) || decide (i.width=4) else decide (i.width=0)
def gP (i:Ins):Int :=
 if i.op<0∨27<i.op∨lh i=false∨ja i=false then 2
 else if (Bu i.op=true∧mU i.a=false)∨(Bu i.op=false∧i.a≠0)∨(Bt i=true∧mU i.b=false)∨(Bt i=false∧i.b≠0) then 2
 else if (vT i.op=true∧E4 i.cc=false)∨(vT i.op=false∧i.cc≠0)∨(xJ i=false∧i.imm≠0) then 2
 else if ((lK i.op=true∧i.form=1)∨ma i.op=true∨i.op=19)∧oK i.imm=false then 7
 else if i.op=20∧i.form=1∧oK (i.imm - i.addr - 2)=false then 7
 else 0
def ky (n:UInt32):List UInt8:=[(n % 256).toUInt8,(n / 256 % 256).toUInt8,(n / 65536 % 256).toUInt8,(n / 16777216).toUInt8]
def jw (i:Ins):Int :=
 if i.op=17 then 80+2 * i.width
 else
  let n:Int:=if i.op=18 then 85 else 80
  if i.width=1 then n+1 else if i.width=2∧i.op=16 then n+3 else if i.width=2 then n+2 else n
def jI (i:Ins):List UInt8 :=
 if i.op=3 then [8+u8 i.a] else if i.op=4 then [16+u8 i.a] else if i.op=24 then [129,u8 i.a] else if i.op=21 then [130,u8 i.a]
 else if i.op=25 then [u8 (144+i.cc),u8 i.a] else if i.op=26 then [160,u8 i.a] else if i.op=27 then [161,u8 i.a] else [u8 i.op]
def eI (i:Ins):List UInt8 :=
 if lK i.op=true then
  if i.form=0 then [u8 (32+(i.op - 5)),u8 (16 * i.a+i.b)]
  else if i.form=1 then [u8 (48+(i.op - 5)),u8 i.a,(i.imm % 256).toUInt8]
  else [u8 (64+(i.op - 5)),u8 i.a] ++ ky i.imm
 else if ma i.op=true then [u8 (jw i),u8 (16 * i.a+i.b),(i.imm % 256).toUInt8]
 else if i.op=19 then [90,u8 (16 * i.a+i.b),(i.imm % 256).toUInt8]
 else if i.op=20 then
  if i.form=1 then [u8 (96+i.cc),((i.imm - i.addr - 2) % 256).toUInt8] else [u8 (112+i.cc)] ++ ky (i.imm - i.addr - 5)
 else if i.op=23 then [128] ++ ky (i.imm - i.addr - 5)
 else if i.op=22 then [131,u8 i.a] ++ ky i.imm
 else jI i
def Cp (i:Ins):List UInt8:=if gP i=0 then eI i else []
def oH (i:Ins):Int:=if gP i=0 then ((eI i).length:Int) else 0
def eQ (c:Int):Int :=
 if c≤2∨8≤c∧c≤23 then 1
 else if 32≤c∧c≤42∨96≤c∧c≤110∨c=129∨c=130∨144≤c∧c≤158∨c=160∨c=161 then 2
 else if 48≤c∧c≤58∨80≤c∧c≤87∨c=90 then 3
 else if 112≤c∧c≤126∨c=128 then 5
 else if 64≤c∧c≤74∨c=131 then 6
 else 0
theorem wF {c:Int}:(c≤2∨8≤c∧c≤23→eQ c=1)∧(32≤c∧c≤42∨96≤c∧c≤110∨c=129∨c=130∨144≤c∧c≤158∨c=160∨c=161→eQ c=2) ∧
  (48≤c∧c≤58∨80≤c∧c≤87∨c=90→eQ c=3)∧(112≤c∧c≤126∨c=128→eQ c=5)∧(64≤c∧c≤74∨c=131→eQ c=6):=by
 unfold eQ
 refine ⟨fun h=>?_,fun h=>?_,fun h=>?_,fun h=>?_,fun h=>?_⟩<;>(repeat' split)<;>omega
def jL (c:Int):Int × Int :=
 if c=80 then (16,4) else if c=81 then (16,1) else if c=82 then (17,1) else if c=83 then (16,2) else if c=84 then (17,2) else if c=85 then (18,4) else if c=86 then (18,1) else (18,2)
def kJ (c:Int):Ins × Int :=
 if 32≤c∧c≤42 then (jS (5+c - 32) 0 0 0,3)
 else if 48≤c∧c≤58 then (jS (5+c - 48) 1 0 0,4)
 else if 64≤c∧c≤74 then (jS (5+c - 64) 2 0 0,6)
 else if c≤2 then (jS c 0 0 0,0)
 else if c≤15 then (jS 3 0 0 (c - 8),1)
 else if c≤23 then (jS 4 0 0 (c - 16),1)
 else if c≤87 then (⟨0,0,(jL c).1,0,(jL c).2,0,0,0,0⟩,5)
 else if c=90 then (jS 19 0 0 0,5)
 else if c≤110 then (jS 20 1 (c - 96) 0,7)
 else if c≤126 then (jS 20 2 (c - 112) 0,8)
 else if c=128 then (jS 23 0 0 0,8)
 else if c=129 then (jS 24 0 0 0,2)
 else if c=130 then (jS 21 0 0 0,2)
 else if c=131 then (jS 22 0 0 0,6)
 else if c≤158 then (jS 25 0 (c - 144) 0,2)
 else if c=160 then (jS 26 0 0 0,2)
 else (jS 27 0 0 0,2)
def eB (c:Int) (b:List UInt8) (i:Ins):Ins:=ll (kJ c).2 { (kJ c).1 with addr:=i.addr,size:=i.size } b (i.addr+u32 i.size)
def np (b:List UInt8) (addr:UInt32):Ins × Int :=
 if b.length=0 then (bh,5)
 else if eQ (b.getD 0 default).toNat=0 then (bh,13)
 else if (b.length:Int)<eQ (b.getD 0 default).toNat then (bh,5)
 else
  let i:=eB (b.getD 0 default).toNat (b.take (eQ (b.getD 0 default).toNat).toNat) ⟨addr,0,0,0,0,0,0,0,eQ (b.getD 0 default).toNat⟩
  if mU i.a=false∨mU i.b=false then (bh,13) else (i,0)
theorem H6 {p:UInt8→Prop} (h:∀ n,n<256→p (UInt8.ofNat n)) (c:UInt8):p c:=by
 have h1:=h c.toNat c.toNat_lt
 rwa [UInt8.ofNat_toNat] at h1
theorem LE (c:UInt8):(if (rowP c).2=true then (rowP c).1=(kJ c.toNat).1∧(aB (rowP c).1).2.1=(kJ c.toNat).2∧eK (aB (rowP c).1).2.1=eQ c.toNat∧eQ c.toNat≠0 else eQ c.toNat=0):=by
 revert c
 exact H6 (by decide +kernel)
theorem getD_take {b:List UInt8} {n k:Nat} (h:k<n):(b.take n).getD k default=b.getD k default:=by
 simp only [List.getD_eq_getElem?_getD,List.getElem?_take,if_pos h]
theorem Gc {s:Int} {k:Ins} {b:List UInt8} {n:Nat} {next:UInt32} (h:eK s≤n):ll s k (b.take n) next=ll s k b next:=by
 unfold ll iO
 by_cases h2:s=2
 ·subst h2; have:(2:Int)≤n:=h
  simp only [if_true]; rw [getD_take (by omega)]
 by_cases h3:s=3
 ·subst h3; have:(2:Int)≤n:=h
  simp only [if_true,if_neg h2]; rw [getD_take (by omega)]
 by_cases h4:s=4
 ·subst h4; have:(3:Int)≤n:=h
  simp only [if_true,if_neg h2,if_neg h3]; rw [getD_take (by omega),getD_take (by omega)]
 by_cases h5:s=5
 ·subst h5; have:(3:Int)≤n:=h
  simp only [if_true,if_neg h2,if_neg h3,if_neg h4]; rw [getD_take (by omega),getD_take (by omega)]
 by_cases h6:s=6
 ·subst h6; have:(6:Int)≤n:=h
  simp only [if_true,if_neg h2,if_neg h3,if_neg h4,if_neg h5]; rw [getD_take (by omega),getD_take (by omega),getD_take (by omega),getD_take (by omega),getD_take (by omega)]
 by_cases h7:s=7
 ·subst h7; have:(2:Int)≤n:=h
  simp only [if_true,if_neg h2,if_neg h3,if_neg h4,if_neg h5,if_neg h6]; rw [getD_take (by omega)]
 by_cases h8:s=8
 ·subst h8; have:(5:Int)≤n:=h
  simp only [if_true,if_neg h2,if_neg h3,if_neg h4,if_neg h5,if_neg h6,if_neg h7]; rw [getD_take (by omega),getD_take (by omega),getD_take (by omega),getD_take (by omega)]
 simp only [if_neg h2,if_neg h3,if_neg h4,if_neg h5,if_neg h6,if_neg h7,if_neg h8]
theorem xP (b:List UInt8) (addr:UInt32):np b addr=oy b addr:=by
 unfold np oy
 split
 ·rfl
 have h:=LE (b.getD 0 default)
 generalize b.getD 0 default=c at *
 cases hr:(rowP c).2
 ·simp only [hr,Bool.false_eq_true,if_false] at h
  rw [if_pos h,if_pos rfl]
 ·simp only [hr,if_true] at h
  obtain ⟨h1,h2,h3,h4⟩:=h
  rw [if_neg h4,if_neg (show ¬ (true=false) by simp),h3]
  split
  ·rfl
  ·have e:eB c.toNat (b.take (eQ c.toNat).toNat) ⟨addr,0,0,0,0,0,0,0,eQ c.toNat⟩=wZ (rowP c).1 (aB (rowP c).1).2.1 b addr:=by
    simp only [eB,wZ]
    rw [Gc (by rw [← h2,h3]; omega)]
    simp only [h3]
    rw [h2,h1]
   rw [e]
theorem E8:GO al [.int .u32,.int .u32,.int .i64,.int .i64,.int .i64,.int .i64,.int .i64,.int .i64,.int .i64] [0,1,2,3,4,5,6,7,8]:=by
 intro x y
 refine ⟨fun j o e ho he=>?_,?_⟩
 ·rcases j with _|_|_|_|_|_|_|_|_|j<;>simp at ho he<;>subst ho<;>subst he<;>rfl
 ·obtain ⟨a0,a1,a2,a3,a4,a5,a6,a7,a8⟩:=x
  obtain ⟨c0,c1,c2,c3,c4,c5,c6,c7,c8⟩:=y
  rw [Bool.eq_iff_iff]
  simp [AD,al]
  simp only [← UInt32.toNat_inj]
  omega
def wQ (i:Ins) (s:Int):Ins :=
  ⟨i.addr,if s=4∨s=5∨s=6∨s=7∨s=8 then i.imm else 0,i.op,0,0,0,
   if s=1∨s=2∨s=3∨s=4∨s=5∨s=6 then i.a else 0,if s=3∨s=5 then i.b else 0,i.size⟩
theorem rU (i:Ins) (s:Int):oJ i s={ wQ i s with form:=if 5≤i.op∧i.op≤15∨i.op=20 then i.form else 0,width:=if i.op=16∨i.op=17∨i.op=18 then i.width else 0,cc:=if i.op=20∨i.op=25 then i.cc else 0 }:=rfl
theorem Np {i:Ins} (h:(aB i).2.2=false∨mU i.a=false∨mU i.b=false∨oJ i (aB i).2.1≠i):lj i=(0,0,2):=by
 have:eN i=2:=by unfold eN; rw [if_pos h]
 rw [BL (by rw [this]; decide),this]
theorem No {i:Ins} (h:¬ ((aB i).2.2=false∨mU i.a=false∨mU i.b=false∨oJ i (aB i).2.1≠i))
  (h2:((aB i).2.1=4∨(aB i).2.1=5)∧iu i.imm=false∨(aB i).2.1=7∧iu (i.imm - i.addr - 2)=false):lj i=(0,0,7):=by
 have:eN i=7:=by unfold eN; rw [if_neg h,if_pos h2]
 rw [BL (by rw [this]; decide),this]
theorem PZ {i:Ins} (h:¬ ((aB i).2.2=false∨mU i.a=false∨mU i.b=false∨oJ i (aB i).2.1≠i))
  (h2:¬ (((aB i).2.1=4∨(aB i).2.1=5)∧iu i.imm=false∨(aB i).2.1=7∧iu (i.imm - i.addr - 2)=false)):eN i=0:=by
 unfold eN; rw [if_neg h,if_neg h2]
def Dw (x:UInt8 × Int × Bool):Prop:=0≤x.2.1∧x.2.1≤8
theorem Kj {p:Prop} [Decidable p] {x y:UInt8 × Int × Bool} (hx:Dw x) (hy:Dw y):Dw (if p then x else y):=by split<;>assumption
theorem pn (i:Ins):0≤(aB i).2.1∧(aB i).2.1≤8:=by
 show Dw (aB i)
 unfold aB og
 repeat' (first|apply Kj|exact ⟨by simp,by simp⟩)
theorem Dg (i:Ins):0≤(lj i).2.1∧(lj i).2.1≤8:=by
 unfold lj
 split
 ·exact pn i
 ·simp
theorem ly {i:Ins} (h:eN i=0):(aB i).2.2=true∧(0≤i.a∧i.a<8)∧(0≤i.b∧i.b<8)∧oJ i (aB i).2.1=i:=by
 unfold eN at h
 split at h
 ·cases h
 ·rename_i h1
  simp only [not_or,Bool.not_eq_false,ne_eq,Decidable.not_not] at h1
  exact ⟨h1.1,lI.1 h1.2.1,lI.1 h1.2.2.1,h1.2.2.2⟩
theorem rows_ok:∀ k,k<15→InsOK (Em.getD k default):=by
 intro k hk
 have:∀ x∈Em,InsOK x:=by
  intro x hx
  simp only [Em,List.mem_cons,List.not_mem_nil,or_false] at hx
  rcases hx with h|h|h|h|h|h|h|h|h|h|h|h|h|h|h<;>subst h<;>exact ⟨by simp [I64],by simp [I64],by simp [I64],by simp [I64],by simp [I64],by simp [I64],by simp [I64]⟩
 exact this _ (by rw [List.getD_eq_getElem?_getD]; have:k<Em.length:=hk; simp [this])
theorem LD (c:UInt8):InsOK (rowP c).1:=by
 have key:∀ c:UInt8,((decide (0≤(rowP c).1.op) && decide ((rowP c).1.op≤100)) && (decide ((rowP c).1.form=0) || decide ((rowP c).1.form=1) || decide ((rowP c).1.form=2)) && (decide (0≤(rowP c).1.width) && decide ((rowP c).1.width≤4)) &&
   (decide (0≤(rowP c).1.cc) && decide ((rowP c).1.cc≤100)) && (decide (0≤(rowP c).1.a) && decide ((rowP c).1.a≤100)) && decide ((rowP c).1.b=0) && decide ((rowP c).1.size=0))=true:=H6 (by decide +kernel)
 have h:=key c
 simp only [Bool.and_eq_true,Bool.or_eq_true,decide_eq_true_eq] at h
 obtain ⟨⟨⟨⟨⟨⟨h1,h2⟩,h3⟩,h4⟩,h5⟩,h6⟩,h7⟩:=h
 exact ⟨by unfold I64; omega,by unfold I64; omega,by unfold I64; omega,by unfold I64; omega,by unfold I64; omega,by unfold I64; omega,by unfold I64; omega⟩
def MY (a:UInt32) (w:Int):UInt32:=if w=1 then u32 (IntKind.i8.wrap a.toNat) else if w=2 then u32 (IntKind.i16.wrap a.toNat) else a
theorem Fu (x:UInt8):MY x.toUInt32 1=nR x:=by
 revert x
 exact H6 (by decide +kernel)
theorem Fi {b:List UInt8} {k:Nat} (h:k+4≤b.length):(xr b k 4).1=iO b k:=by
 rw [C5 rfl (by omega)]
 show HB b k 0 4=_
 simp only [HB,W.shl_orI,iO]
 rw [show ((k:Int)+((0:Nat):Int)).toNat=k by omega,show ((k:Int)+((1:Nat):Int)).toNat=k+1 by omega,show ((k:Int)+((2:Nat):Int)).toNat=k+2 by omega,show ((k:Int)+((3:Nat):Int)).toNat=k+3 by omega]
 generalize (b.getD k default).toUInt32=x0
 generalize (b.getD (k+1) default).toUInt32=x1
 generalize (b.getD (k+2) default).toUInt32=x2
 generalize (b.getD (k+3) default).toUInt32=x3
 apply W.u32_extI
 simp only [UInt32.toNat_add,UInt32.toNat_mul]
 have e1:(256:UInt32).toNat=256:=rfl
 have e2:(65536:UInt32).toNat=65536:=rfl
 have e3:(16777216:UInt32).toNat=16777216:=rfl
 have e4:(0:UInt32).toNat=0:=rfl
 rw [e1,e2,e3,e4]
 omega
def wG (s:Int) (k:Ins) (b:List UInt8):Ins :=
 if s=2∨s=4∨s=6 then { k with a:=(b.getD 1 default).toNat } else if s=3∨s=5 then { k with a:=(b.getD 1 default / 16).toNat,b:=(b.getD 1 default % 16).toNat } else k
def qF (s:Int) (k:Ins) (b:List UInt8) (next:UInt32):Ins :=
 if s=4∨s=5 then { k with imm:=nR (b.getD 2 default) } else if s=6 then { k with imm:=iO b 2 } else if s=7 then { k with imm:=next+nR (b.getD 1 default) } else if s=8 then { k with imm:=next+iO b 1 } else k
theorem H4 (s:Int) (k:Ins) (b:List UInt8) (next:UInt32):ll s k b next=qF s (wG s k b) b next:=by
 unfold ll qF wG
 by_cases h2:s=2
 ·simp [h2]
 by_cases h3:s=3
 ·simp [h3]
 by_cases h4:s=4
 ·simp [h4]
 by_cases h5:s=5
 ·simp [h5]
 by_cases h6:s=6
 ·simp [h6]
 by_cases h7:s=7
 ·simp [h7]
 by_cases h8:s=8
 ·simp [h8]
 simp [h2,h3,h4,h5,h6,h7,h8]
theorem G1 (s:Int):((s=0∨s=1)→eK s=1)∧((s=2∨s=3∨s=7)→eK s=2)∧((s=4∨s=5)→eK s=3)∧(s=6→eK s=6)∧(s=8→eK s=5):=by
 unfold eK
 refine ⟨fun h=>?_,fun h=>?_,fun h=>?_,fun h=>?_,fun h=>?_⟩<;>(repeat' split)<;>omega
theorem P8 {b:List UInt8} {addr:UInt32} (h:b.length=0):oy b addr=(bh,5):=by unfold oy; rw [if_pos h]
theorem P7 {b:List UInt8} {addr:UInt32} (h:b.length≠0) (h2:(rowP (b.getD 0 default)).2=false):oy b addr=(bh,13):=by unfold oy; rw [if_neg h,if_pos h2]
theorem P6 {b:List UInt8} {addr:UInt32} (h:b.length≠0) (h2:(rowP (b.getD 0 default)).2=true) (h3:(b.length:Int)<eK (aB (rowP (b.getD 0 default)).1).2.1):oy b addr=(bh,5):=by
 unfold oy; rw [if_neg h,if_neg (by rw [h2]; simp),if_pos h3]
theorem Nf {b:List UInt8} {addr:UInt32} (h:b.length≠0) (h2:(rowP (b.getD 0 default)).2=true) (h3:¬ (b.length:Int)<eK (aB (rowP (b.getD 0 default)).1).2.1) {k:Ins}
  (hk:k=qF (aB (rowP (b.getD 0 default)).1).2.1 (wG (aB (rowP (b.getD 0 default)).1).2.1 { (rowP (b.getD 0 default)).1 with addr:=addr,size:=eK (aB (rowP (b.getD 0 default)).1).2.1 } b) b (addr+u32 (eK (aB (rowP (b.getD 0 default)).1).2.1))) :
  oy b addr=if mU k.a=false∨mU k.b=false then (bh,13) else (k,0):=by
 unfold oy; rw [if_neg h,if_neg (by rw [h2]; simp),if_neg h3]
 simp only [wZ,H4,← hk]
theorem AY {c:Int} (h:eQ c≠0):(c≤2∨8≤c∧c≤23)∨(32≤c∧c≤42∨96≤c∧c≤110∨c=129∨c=130∨144≤c∧c≤158∨c=160∨c=161)∨(48≤c∧c≤58∨80≤c∧c≤87∨c=90)∨(112≤c∧c≤126∨c=128)∨(64≤c∧c≤74∨c=131):=by
 by_cases h0:(c≤2∨8≤c∧c≤23)∨(32≤c∧c≤42∨96≤c∧c≤110∨c=129∨c=130∨144≤c∧c≤158∨c=160∨c=161)∨(48≤c∧c≤58∨80≤c∧c≤87∨c=90)∨(112≤c∧c≤126∨c=128)∨(64≤c∧c≤74∨c=131)
 ·exact h0
 ·exfalso; apply h; unfold eQ
  rw [if_neg (by omega),if_neg (by omega),if_neg (by omega),if_neg (by omega),if_neg (by omega)]
theorem sF {b:List UInt8} {k:Nat} (h:k+4≤b.length):iO ((b.take (b.length:Int).toNat).drop (k:Int).toNat) 0=iO b k:=by
 rw [Int.toNat_natCast,Int.toNat_natCast,List.take_length]
 simp only [iO,List.getD_eq_getElem?_getD,List.getElem?_drop,Nat.add_zero]
theorem Co {i:Ins} (h:gP i=0):(0≤i.op∧i.op≤27)∧(-100≤i.cc∧i.cc≤100)∧(0≤i.width∧i.width≤4)∧(0≤i.a∧i.a≤100)∧(0≤i.b∧i.b≤100):=by
 unfold gP at h
 split at h
 ·cases h
 rename_i h1
 split at h
 ·cases h
 rename_i h2
 split at h
 ·cases h
 rename_i h3
 clear h
 simp only [not_or] at h1 h2 h3
 obtain ⟨o1,o2,o3,o4⟩:=h1
 obtain ⟨a1,a2,b1,b2⟩:=h2
 obtain ⟨c1,c2,c3⟩:=h3
 refine ⟨⟨by omega,by omega⟩,?_,?_,?_,?_⟩
 ·cases hc:vT i.op
  ·simp only [hc,not_and,Decidable.not_not] at c2; have:=c2 trivial; omega
  ·simp only [hc,not_and,Bool.not_eq_false] at c1
   have:=c1 trivial
   simp only [E4,Bool.and_eq_true,decide_eq_true_eq] at this; omega
 ·simp only [Bool.not_eq_false] at o4
  unfold ja at o4
  split at o4
  ·simp at o4; omega
  split at o4
  ·simp at o4; omega
  ·simp at o4; omega
 ·cases hc:Bu i.op
  ·simp only [hc,not_and,Decidable.not_not] at a2; have:=a2 trivial; omega
  ·simp only [hc,not_and,Bool.not_eq_false] at a1
   have:=lI.1 (a1 trivial); omega
 ·cases hc:Bt i
  ·simp only [hc,not_and,Decidable.not_not] at b2; have:=b2 trivial; omega
  ·simp only [hc,not_and,Bool.not_eq_false] at b1
   have:=lI.1 (b1 trivial); omega
end Go.HL
namespace Go.HL
theorem Ai (c:Int):0≤eQ c:=by unfold eQ; repeat' split
                              all_goals omega
theorem pN {b:List UInt8} {n:Nat} (h:0<n):(b.take n).getD 0 default=b.getD 0 default:=by
 simp only [List.getD_eq_getElem?_getD,List.getElem?_take,if_pos h]
theorem Jy {b:List UInt8} {n:Int} (h:0<n) (h2:n≤b.length) (e:(b.take n.toNat).getD 0 default=b.getD 0 default:=by exact pN (by omega)) (hs:eQ ((b.getD 0 default).toNat:Nat)=n:=by rfl) :
  ((b.take n.toNat).length:Int)=eQ (((b.take n.toNat).getD 0 default).toNat:Nat):=by
 rw [e,hs,List.length_take]; omega
end Go.HL
namespace Go.HL
open Go Go.RowKit Go.Sort
section
variable {α:Type} {E:Enc α} {f:α→Value}
end
def Bg.less (w:World) (V:Value):Bg:=⟨fun b=>if some b=V.ownBlock then none else w.heap[b]?,0,w.drawn,w.os,w.tape,w.output,0,Nat.le_refl _⟩
theorem HpOK.startOwn {α:Type} {V:Value} {T:TypeId} {E:Enc α} {l:List α} {w:World} (h:(rowE V T E l).holds w):HpOK (Bg.less w V) [rowE V T E l] w:=by
 have hlt:∀ b,V.ownBlock=some b→b<w.heap.size:=fun b hV=>by
  have h':RowOK V T E l (V.ownBlock.bind (w.heap[·]?)):=h
  rcases h' with ⟨rfl,_⟩|⟨g,cap,cur,rfl,ho,_⟩
  ·simp [Value.ownBlock] at hV
  ·simp only [Value.ownBlock,Option.some.injEq] at hV
   subst hV
   exact (Array.getElem?_eq_some_iff.1 ho).1
 have hb:cx [rowE V T E l]=V.ownBlock.toList:=by
  cases hV:V.ownBlock<;>simp [cx,rowE,hV]
 refine ⟨rfl,rfl,rfl,Nat.zero_le _,Nat.le_refl _,fun b o e=>?_,fun e he=>?_,?_,fun b hm=>?_,fun b hm=>?_⟩
 ·simp only [Bg.less] at e
  split at e
  ·cases e
  ·exact e
 ·obtain rfl:=List.mem_singleton.1 he; exact h
 ·rw [hb]; cases V.ownBlock<;>simp
 ·rw [hb] at hm; exact hlt b (by simpa using hm)
 ·rw [hb] at hm
  have hm':V.ownBlock=some b:=by simpa using hm
  exact ⟨by simp only [Bg.less]; rw [if_pos hm'.symm],Nat.zero_le _⟩
theorem HpOK.mutOwn {α:Type} {V V':Value} {T:TypeId} {E:Enc α} {l:List α} {L:List Ent} {w w':World} (h:HpOK (Bg.less w V) L w') (hm:rowE V' T E l∈L) (hb:V'.ownBlock=V.ownBlock):Mut w w' V∧(rowE V' T E l).holds w':=by
 have key:∀ k,k<w.heap.size→some k≠V.ownBlock→w'.heap[k]?=w.heap[k]?:=fun k hk hne=>by
  have e:(Bg.less w V).blk k=some w.heap[k]:=by simp only [Bg.less]; rw [if_neg hne]; simp [hk]
  rw [h.bg k _ e]; simp [hk]
 refine ⟨⟨h.os,h.tape,h.out,?_,h.dr,key⟩,h.ent _ hm⟩
 rcases Nat.eq_zero_or_pos w.heap.size with h0|h0
 ·omega
 ·have hk:w.heap.size - 1<w.heap.size:=by omega
  by_cases hne:some (w.heap.size - 1)=V.ownBlock
  ·have:w.heap.size - 1∈cx L:=List.mem_filterMap.2 ⟨_,hm,by show V'.ownBlock=_; rw [hb,← hne]⟩
   have:=h.lt _ this
   omega
  ·have h1:=key _ hk hne
   rw [Array.getElem?_eq_getElem hk] at h1
   have:=(Array.getElem?_eq_some_iff.1 h1).1
   omega
theorem fO {α:Type} {T:TypeId} {E:Enc α} {l:List α} {V:Value} {P:Program} {f:FuncId} {fn:Func} {c:Code} {N:Nat} {args:List Value} {w:World} {R:Ending→World→Prop} (hr:(rowE V T E l).holds w) (hf:P.funcs[f]?=some fn) (hb:fn.body=some c) (hN:fn.ntmps=N) (hle:Nat.ble args.length N=true)
  (h:Tr N (Bg.less w V) [rowE V T E l] (lN 0 args) (c.wp P (bodyPost P fn R))) (hN0:Nat.ble N mk0=true:=by rfl):Calls P f args.toArray w R :=
 calls_of_wp hf hb (h _ w (ob (by rw [hN]; simp) hle hN0) (HpOK.startOwn hr))
section
variable {P:Program} {ops:Array Oper} {Q:Exit→Act→World→Prop} {N:Nat} {F:Bg} {L:List Ent} {M:Fr} {ty:TypeId} {pos:String} {after:Array Edge} {rest:List Oper} {d:Nat}
theorem AM {α:Type} {E:Enc α} {l l':List α} {V:Value} {T:TypeId} {f:FuncId} {xs:List Operand} {vs:List Value} {ts:Array TypeId} {L1:List Ent} (hx:l3 M xs=some vs)
  (he:∀ (args:Array Value) (w:World),(callFunc f args).run P w=.ok (.enter f args) w) (hV:Del (rowE V T E l) L L1)
  (hc:∀ w,HpOK F L w→Calls P f vs.toArray w fun e w'=>∃ V',e=.returned V'∧V'.ownBlock=V.ownBlock∧Mut w w' V∧(rowE V' T E l').holds w') (hd:Nat.ble (d+1) N=true)
  (K:∀ V',V'.ownBlock=V.ownBlock→Tr N F (rowE V' T E l' :: L1) ((d,V') :: M) (wpList P ops Q rest)) :
  Tr N F L M (wpList P ops Q (⟨some d,.call { callee:=.value (.func f),args:=xs.toArray,argTypes:=ts },ty,pos,after,none⟩ :: rest)):=by
 intro a w ha hw
 refine wpList_plain rfl fun K' hK=>?_
 have hr:(execOp a.eval ⟨some d,.call { callee:=.value (.func f),args:=xs.toArray,argTypes:=ts },ty,pos,after,none⟩).run P w=.ok (.enter f vs.toArray) w:=by
  have:=ha.evals hx
  simp [execOp,resolve,Deferred.ofValue,Act.eval,invoke,he,this]
 unfold Oper.wp
 rw [hr]
 refine (hc w hw).mono fun e w' ⟨V',h1,h2,h3,h4⟩=>?_
 subst h1
 refine hK _ _ (K V' h2 _ _ (ha.put (Nat.le_of_ble_eq_true hd)) ?_)
 have hf:=hw.front hV
 cases hO:V.ownBlock with
 | none =>
  have hx:Ext w w':=⟨⟨h3.os,h3.tape,h3.output,h3.size,fun k hk=>h3.block k hk (by rw [hO]; simp)⟩,h3.dr⟩
  have hg:=hf.grow hx
  have hbl:cx (rowE V' T E l' :: L1)=cx (rowE V T E l :: L1):=by simp only [cx,rowE,h2,List.filterMap_cons,hO]
  refine ⟨hg.os,hg.tape,hg.out,hg.n,hg.dr,hg.bg,fun e he=>?_,by rw [hbl]; exact hg.nodup,by rw [hbl]; exact hg.lt,by rw [hbl]; exact hg.sep⟩
  rcases List.mem_cons.1 he with rfl|he
  ·exact h4
  ·exact hg.ent e (.tail _ he)
 | some b =>
  have e1:rowE V T E l=⟨some b,RowOK V T E l⟩:=by simp [rowE,hO]
  have e2:rowE V' T E l'=⟨some b,RowOK V' T E l'⟩:=by simp [rowE,h2,hO]
  rw [e1] at hf
  rw [e2] at h4 ⊢
  exact HpOK.set hf (.here _) h3.os h3.tape h3.output h3.size h3.dr (fun k hk hkb=>h3.block k hk (by rw [hO]; simpa using hkb)) h4
end
end Go.HL
namespace Go.HL
open Go Go.RowKit
variable {P:Program} {N:Nat} {F:Bg} {L:List Ent} {M:Fr} {dst:Option Tmp} {ty:TypeId} {pos:String} {after:Array Edge} {g:Option (Nat × Bool)}
theorem xd {α:Type} {E:Enc α} {xs:List α} {x:Operand} {lo hi:Option Operand} {lv hv:Option (IntKind × Int)} {t e:TypeId} {V:Value} {T:TypeId} {k:Nat} (hx:opv M x=some V) (hs:rowE V T E xs∈L)
  (hlo:lo.map (opv M)=lv.map fun p=>some (.int p.1 p.2)) (hhi:hi.map (opv M)=hv.map fun p=>some (.int p.1 p.2))
  (ht:P.underlying t=some (.slice e)) (hz:∀ w,(sizeOf e).run P w=.ok k w) (hk:k=E.k) (h0:0≤mY lv) (h1:mY lv≤l4 xs.length hv) (h2:l4 xs.length hv≤xs.length) :
  QS P N F L M ⟨dst,.slice t x lo hi none,ty,pos,after,g⟩ (HL.Q4 V (mY lv).toNat (l4 xs.length hv).toNat E.k) :=
 bQ fun A w ha hw=>by
  obtain ⟨a,c,rfl,hc1,hc2,_⟩:=(hw.row hs).shape
  have e1:lo.map A.eval=lv.map fun p=>Value.int p.1 p.2:=by
   cases lo with
   | none=>cases lv<;>simp_all
   | some o =>
    cases lv with
    | none=>simp at hlo
    | some p=>simp only [Option.map_some,Option.some.injEq] at hlo ⊢; exact ha.eval hlo
  have e2:hi.map A.eval=hv.map fun p=>Value.int p.1 p.2:=by
   cases hi with
   | none=>cases hv<;>simp_all
   | some o =>
    cases hv with
    | none=>simp at hhi
    | some p=>simp only [Option.map_some,Option.some.injEq] at hhi ⊢; exact ha.eval hhi
  have hr:=ut (P:=P) ht hz w (a:=a) (n:=xs.length) (c:=c) (fun w=>wj (P:=P) w h0 h1 (by omega) hc1)
  subst hk
  simp only [execOp,ha.eval hx,e1,e2,Option.map_none,Sem.run_bind,hr,Result.andThen_ok,Sem.run_pure]
  rfl
end Go.HL
namespace Go.HL
open Go Go.RowKit
section
variable {P:Program} {ops:Array Oper} {Q:Exit→Act→World→Prop} {N:Nat} {F:Bg} {L:List Ent} {M:Fr} {ty:TypeId} {pos:String} {after:Array Edge} {rest:List Oper} {d:Nat} {dst:Option Tmp} {g:Option (Nat × Bool)}
open Go.Lib (strCells strCells_length run_append_room_string run_append_grow_string)
def bts (s:ByteArray):List UInt8:=s.data.toList
theorem u7 (s:ByteArray):(bts s).length=s.size:=by rw [bts,Array.length_toList]; rfl
theorem eT {α:Type} {E:Enc α} {l:List α} {T:TypeId} {f:FuncId} {xs:List Operand} {vs:List Value} {ts:Array TypeId} (φ:Value→Value) (hx:l3 M xs=some vs)
  (he:∀ (args:Array Value) (w:World),(callFunc f args).run P w=.ok (.enter f args) w)
  (hc:∀ w,HpOK F L w→Calls P f vs.toArray w fun e w'=>∃ V,e=.returned (φ V)∧Ext w w'∧dY w w' T E l V) (hd:Nat.ble (d+1) N=true)
  (K:∀ V,Tr N F (rowE V T E l :: L) ((d,φ V) :: M) (wpList P ops Q rest)) :
  Tr N F L M (wpList P ops Q (⟨some d,.call { callee:=.value (.func f),args:=xs.toArray,argTypes:=ts },ty,pos,after,none⟩ :: rest)):=by
 intro a w ha hw
 refine wpList_plain rfl fun K' hK=>?_
 have hr:(execOp a.eval ⟨some d,.call { callee:=.value (.func f),args:=xs.toArray,argTypes:=ts },ty,pos,after,none⟩).run P w=.ok (.enter f vs.toArray) w:=by
  have:=ha.evals hx
  simp [execOp,resolve,Deferred.ofValue,Act.eval,invoke,he,this]
 unfold Oper.wp
 rw [hr]
 refine (hc w hw).mono fun e w' ⟨V,h1,h2,h3⟩=>?_
 subst h1
 exact hK _ _ (K V _ _ (ha.put (Nat.le_of_ble_eq_true hd)) (hw.newRow h2 h3))
end
theorem HpOK.freeze {F:Bg} {L:List Ent} {w:World} (h:HpOK F L w):∃ F',F.le F'∧HpOK F' L w∧∀ b o,b ∉ cx L→w.heap[b]?=some o→F'.blk b=some o:=by
 refine ⟨{ F with blk:=fun b=>if b∈cx L then none else w.heap[b]? },⟨fun b o e=>?_,Nat.le_refl _,rfl,rfl,rfl,rfl,rfl⟩,⟨h.os,h.tape,h.out,h.n,h.dr,fun b o e=>?_,h.ent,h.nodup,h.lt,fun b hb=>⟨?_,(h.sep b hb).2⟩⟩,fun b o hb e=>?_⟩
 ·have hn:b ∉ cx L:=fun hb=>by rw [(h.sep b hb).1] at e; cases e
  show (if b∈cx L then none else w.heap[b]?)=some o
  rw [if_neg hn]; exact h.bg b o e
 ·have e':(if b∈cx L then none else w.heap[b]?)=some o:=e
  split at e'
  ·cases e'
  ·exact e'
 ·show (if b∈cx L then none else w.heap[b]?)=none
  rw [if_pos hb]
 ·show (if b∈cx L then none else w.heap[b]?)=some o
  rw [if_neg hb]; exact e
def Ba (w w':World):Hp:=fun b=>if b<w.heap.size then none else w'.heap[b]?
theorem Mn {F F':Bg} {L:List Ent} {w w':World} (h:HpOK F L w) (hb:∀ b o,b ∉ cx L→w'.heap[b]?=some o→F'.blk b=some o):Hp.le (Ba w w') F'.blk:=fun b o e=>by
 unfold Ba at e; split at e
 ·cases e
 ·exact hb b o (fun hm=>by have:=h.lt b hm; omega) e
section
variable {P:Program} {ops:Array Oper} {Q:Exit→Act→World→Prop} {N:Nat} {F:Bg} {L:List Ent} {M:Fr} {dst:Option Tmp} {ty:TypeId} {pos:String} {after:Array Edge} {g:Option (Nat × Bool)} {rest:List Oper} {d:Nat}
theorem kw {α:Type} {V:Value} {T:TypeId} {E:Enc α} {l:List α} {L1:List Ent} {X:Act→World→Prop} (hV:Del (rowE V T E l) L L1) (K:∀ F',F.le F'→Sl F'.blk E l V→Tr N F' L1 M X):Tr N F L M X:=by
 intro a w ha hw
 have hf:=hw.front hV
 have h1:HpOK F L1 w:=hf.mem (List.sublist_cons_self _ _)
 obtain ⟨F',e1,e2,e3⟩:=h1.freeze
 refine K F' e1 ?_ a w ha e2
 have hr:RowOK V T E l (V.ownBlock.bind (w.heap[·]?)):=hf.ent _ (.head _)
 rcases hr with ⟨rfl,rfl⟩|⟨gb,cap,cur,rfl,ho,k1,k2,k3,k4⟩
 ·exact Sl.nil _ _
 ·refine RowOK.sl (T:=T) (.inr ⟨gb,cap,cur,rfl,?_,k1,k2,k3,k4⟩)
  refine e3 gb _ ?_ ho
  have:=hf.nodup
  rw [sP (b:=gb) rfl,List.nodup_cons] at this
  exact this.1
theorem BY {ι:Type} {R:Hp→ι→Prop} (φ:ι→Value) {f:FuncId} {xs:List Operand} {vs:List Value} {ts:Array TypeId} (hR:∀ h h' i,Hp.le h h'→R h i→R h' i) (hx:l3 M xs=some vs)
  (he:∀ (args:Array Value) (w:World),(callFunc f args).run P w=.ok (.enter f args) w)
  (hc:∀ w,HpOK F L w→Calls P f vs.toArray w fun e w'=>∃ i,e=.returned (φ i)∧Ext w w'∧R (Ba w w') i) (hd:Nat.ble (d+1) N=true)
  (K:∀ i F',F.le F'→R F'.blk i→Tr N F' L ((d,φ i) :: M) (wpList P ops Q rest)) :
  Tr N F L M (wpList P ops Q (⟨some d,.call { callee:=.value (.func f),args:=xs.toArray,argTypes:=ts },ty,pos,after,none⟩ :: rest)):=by
 intro a w ha hw
 refine wpList_plain rfl fun K' hK=>?_
 have hr:(execOp a.eval ⟨some d,.call { callee:=.value (.func f),args:=xs.toArray,argTypes:=ts },ty,pos,after,none⟩).run P w=.ok (.enter f vs.toArray) w:=by
  have:=ha.evals hx
  simp [execOp,resolve,Deferred.ofValue,Act.eval,invoke,he,this]
 unfold Oper.wp
 rw [hr]
 refine (hc w hw).mono fun e w' ⟨i,h1,h2,h3⟩=>?_
 subst h1
 obtain ⟨F',e1,e2,e3⟩:=(hw.grow h2).freeze
 exact hK _ _ (K i F' e1 (hR _ _ _ (Mn hw e3) h3) _ _ (ha.put (Nat.le_of_ble_eq_true hd)) e2)
structure NewEnts (w w':World) (Ls:List Ent):Prop where
 ent:∀ e∈Ls,e.holds w'
 nodup:(cx Ls).Nodup
 lt:∀ b∈cx Ls,b<w'.heap.size
 ge:∀ b∈cx Ls,w.heap.size≤b
theorem HpOK.newEnts {w w':World} {Ls:List Ent} (h:HpOK F L w) (hx:Ext w w') (hn:NewEnts w w' Ls):HpOK F (Ls ++ L) w':=by
 have hg:=h.grow hx
 have hbl:cx (Ls ++ L)=cx Ls ++ cx L:=List.filterMap_append
 refine ⟨hg.os,hg.tape,hg.out,hg.n,hg.dr,hg.bg,fun e he=>?_,?_,fun b hb=>?_,fun b hb=>?_⟩
 ·rcases List.mem_append.1 he with he|he
  ·exact hn.ent e he
  ·exact hg.ent e he
 ·rw [hbl,List.nodup_append]
  exact ⟨hn.nodup,hg.nodup,fun a ha b hb=>by have:=hn.ge a ha; have:=h.lt b hb; omega⟩
 ·rw [hbl] at hb
  rcases List.mem_append.1 hb with hb|hb
  ·exact hn.lt b hb
  ·exact hg.lt b hb
 ·rw [hbl] at hb
  rcases List.mem_append.1 hb with hb|hb
  ·have hge:=hn.ge b hb
   refine ⟨?_,Nat.le_trans (Nat.le_trans F.lo_le h.n) hge⟩
   cases hF:F.blk b with
   | none=>rfl
   | some o =>
    have:=h.bg _ _ hF
    have:=(Array.getElem?_eq_some_iff.1 this).1
    omega
  ·exact hg.sep b hb
theorem HpOK.ents {w w':World} {Ls:List Ent} (h:HpOK F L w') (hF:(Bg.of w).le F) (hs:Pick L Ls):NewEnts w w' Ls:=by
 have h':=hs.heap h
 refine ⟨h'.ent,h'.nodup,h'.lt,fun b hb=>?_⟩
 have:=(h'.sep b hb).2
 rw [hF.lo] at this; exact this
theorem jh {ι:Type} (φ:ι→Value) (Ls:ι→List Ent) {ok:ι→Prop} {f:FuncId} {xs:List Operand} {vs:List Value} {ts:Array TypeId} (hx:l3 M xs=some vs)
  (he:∀ (args:Array Value) (w:World),(callFunc f args).run P w=.ok (.enter f args) w)
  (hc:∀ w,HpOK F L w→Calls P f vs.toArray w fun e w'=>∃ i,e=.returned (φ i)∧Ext w w'∧NewEnts w w' (Ls i)∧ok i) (hd:Nat.ble (d+1) N=true)
  (K:∀ i,ok i→Tr N F (Ls i ++ L) ((d,φ i) :: M) (wpList P ops Q rest)) :
  Tr N F L M (wpList P ops Q (⟨some d,.call { callee:=.value (.func f),args:=xs.toArray,argTypes:=ts },ty,pos,after,none⟩ :: rest)):=by
 intro a w ha hw
 refine wpList_plain rfl fun K' hK=>?_
 have hr:(execOp a.eval ⟨some d,.call { callee:=.value (.func f),args:=xs.toArray,argTypes:=ts },ty,pos,after,none⟩).run P w=.ok (.enter f vs.toArray) w:=by
  have:=ha.evals hx
  simp [execOp,resolve,Deferred.ofValue,Act.eval,invoke,he,this]
 unfold Oper.wp
 rw [hr]
 refine (hc w hw).mono fun e w' ⟨i,h1,h2,h3,h4⟩=>?_
 subst h1
 exact hK _ _ (K i h4 _ _ (ha.put (Nat.le_of_ble_eq_true hd)) (hw.newEnts h2 h3))
theorem vJ (z:Array Value) (k:Nat) (hz:z.size=1):(madeCells z k).toList=List.replicate k (z[0]!):=by
 apply List.ext_getElem?
 intro j
 by_cases hj:j<k
 ·simp [madeCells,hj,hz,Nat.mod_one]
 ·simp [madeCells,hj]
theorem oc {α:Type} (E:Enc α) (x:α) (v:Value) (hv:E.enc x=[v]):∀ n,(List.replicate n x).flatMap E.enc=List.replicate n v
 | 0=>rfl
 | n+1=>by simp only [List.replicate_succ,List.flatMap_cons,hv,oc E x v hv n]; rfl
theorem iz {α:Type} {E:Enc α} (x:α) {x0 y:Operand} {t e:TypeId} {z v:Value} {n bytes:Nat} {k k':IntKind} (hx:opv M x0=some (.int k n)) (hy:opv M y=some (.int k' n)) (ht:P.underlying t=some (.slice e))
  (hinfo:(P.info? e).map (fun i=>(i.zero,i.size,i.bytes))=some (some z,1,bytes)) (hz:z.cells=#[v]) (hE:E.enc x=[v]) (hk:E.k=1) (hb:n≤16777216∧n * bytes≤281474976710656) (hd:Nat.ble (d+1) N=true)
  (K:∀ b,Tr N F (rowE (.slice (some ⟨b,0,none⟩) (List.replicate n x).length n) e E (List.replicate n x) :: L) ((d,.slice (some ⟨b,0,none⟩) (List.replicate n x).length n) :: M) (wpList P ops Q rest)) :
  Tr N F L M (wpList P ops Q (⟨some d,.makeSlice t x0 y,ty,pos,after,none⟩ :: rest)):=by
 intro a w ha hw
 refine wpList_plain rfl fun K' hK=>?_
 obtain ⟨i,hi,hz',hsize,hby⟩:=wS hinfo
 have hb2:(i.bytes:Int) * (n:Int)≤281474976710656:=by
  rw [hby,← Int.natCast_mul,Nat.mul_comm]
  have:=hb.2; omega
 have hr:=run_make (P:=P) w t e i z ht hi hz' k k' (n:Int) (n:Int) (by omega) (by omega) hb2 (by omega)
 have he:(execOp a.eval ⟨some d,.makeSlice t x0 y,ty,pos,after,none⟩).run P w=.ok (.value (.slice (some ⟨w.heap.size,0,none⟩) n n)) (w.alloc (.cells (madeCells z.cells (n * i.size)) e)):=by
  simp only [execOp,ha.eval hx,ha.eval hy,Sem.run_bind,hr,Result.andThen_ok,Sem.run_pure,Int.toNat_natCast]
 unfold Oper.wp
 rw [he]
 have hl:(List.replicate n x).length=n:=List.length_replicate
 have:=K w.heap.size
 rw [hl] at this
 refine hK _ _ (this _ _ (ha.put (Nat.le_of_ble_eq_true hd)) ?_)
 refine hw.alloc _ _ ?_
 have hm:(madeCells z.cells (n * i.size)).toList=List.replicate n v:=by
  rw [hz,vJ _ _ rfl,hsize,Nat.mul_one]; rfl
 have hs:(madeCells z.cells (n * i.size)).size=n:=by rw [← Array.length_toList,hm]; simp
 have:=nF (E:=E) (l:=List.replicate n x) (T:=e) (b:=w.heap.size) (cap:=n) (cells:=madeCells z.cells (n * i.size)) (by rw [hl]; exact Nat.le_refl _) (by unfold maxLen; omega) (by rw [hk,hs]; omega)
  (by rw [hm,hl,hk,Nat.mul_one,oc E x v hE,List.take_of_length_le (by simp)])
 rwa [hl] at this
open Go.Lib in
theorem Gl {x:Operand} {s t e:TypeId} {u:TypeDesc} {b:ByteArray} (hx:opv M x=some (.string b)) (hs:P.underlying s=some u) (ht:P.underlying t=some (.slice e)) (he:P.underlying e=some (.int .u8)) (hb:b.size≤maxLen) (hd:Nat.ble (d+1) N=true)
  (K:∀ V F',F.le F'→Sl F'.blk cd (bts b) V→Tr N F' L ((d,V) :: M) (wpList P ops Q rest)):Tr N F L M (wpList P ops Q (⟨some d,.convert s t x,ty,pos,after,none⟩ :: rest)):=by
 intro a w ha hw
 refine wpList_plain rfl fun K' hK=>?_
 have hr:=Go.Lib.run_convert_string_bytes (P:=P) w s t e b hs ht he
 have hge:=grownCap_ge w b.size 0 e
 have hx2:Ext w (bytesWorld w e b):=⟨⟨rfl,rfl,rfl,by rw [bytesWorld_size]; omega,fun k hk=>bytesWorld_at_old w e b k hk⟩,by simp [bytesWorld,World.freeze]⟩
 obtain ⟨F',e1,e2,e3⟩:=(hw.grow hx2).freeze
 have hnew:=e3 w.heap.size _ (fun hm=>by have:=hw.lt _ hm; omega) (bytesWorld_at_new w e b)
 unfold Oper.wp
 simp only [execOp,ha.eval hx,Sem.run_bind,hr,Result.andThen_ok,Sem.run_pure,Oper.upon]
 refine hK _ _ (K _ F' e1 ?_ _ _ (ha.put (Nat.le_of_ble_eq_true hd)) e2)
 have hl:=u7 b
 refine ⟨⟨some ⟨w.heap.size,0,none⟩,grownCap w b.size 0 e,by rw [hl],by rw [hl]; exact hge,grownCap_le_maxLen w _ 0 e hb,fun _=>rfl⟩,fun i x hi=>⟨_,_,_,hnew,fun j v hj=>?_⟩⟩
 have hi':i<b.size:=by rw [← hl]; exact (List.getElem?_eq_some_iff.1 hi).1
 have hj':j=0:=by have:=(List.getElem?_eq_some_iff.1 hj).1; simp [cd] at this; exact this
 subst hj'
 simp only [cd,List.getElem?_cons_zero,Option.some.injEq] at hj
 subst hj
 have hi2:b.data[i]?=some x:=by
  rw [← Array.getElem?_toList]; exact hi
 have hi3:i<b.data.size:=hi'
 simp [bytesCells,ofs,cd,Array.getElem?_append,hi2,hi3]
 intro h; omega
def CellsIn (h:Hp) (b:Nat) (vs:List Value):Prop:=∃ (cs:Array Value) (T:TypeId) (fz:Nat × Nat),h b=some (.cells cs T fz)∧∀ (j:Nat) (v:Value),vs[j]?=some v→cs[j]?=some v
theorem CellsIn.mono {h k:Hp} {b:Nat} {vs:List Value} (c:CellsIn h b vs) (hk:Hp.le h k):CellsIn k b vs:=let ⟨cs,T,fz,h1,h2⟩:=c; ⟨cs,T,fz,hk _ _ h1,h2⟩
theorem cellE.cellsIn {b:Nat} {cs:List Value} {T:TypeId} {w w':World} (h:(cellE b cs T).holds w) (hx:Ext w w'):CellsIn (HL.hp w') b cs :=
 CellsIn.mono (h:=HL.hp w) ⟨cs.toArray,T,(0,0),h,fun j v hv=>by simpa using hv⟩ hx.hp
theorem CellsIn.cell {h:Hp} {b:Nat} {vs:List Value} (c:CellsIn h b vs) {j:Nat} {v:Value} (hv:vs[j]?=some v):Cell h b j v:=let ⟨cs,T,fz,h1,h2⟩:=c; ⟨cs,T,fz,h1,h2 j v hv⟩
theorem KX {x:Operand} {t:TypeId} {b k:Nat} {vs:List Value} (hx:opv M x=some (.pointer (some ⟨b,0,none⟩))) (hc:CellsIn F.blk b vs) (hagg:∀ w,(isAgg t).run P w=.ok true w) (hz:∀ w,(sizeOf t).run P w=.ok k w) (hl:vs.length=k) :
  QS P N F L M ⟨dst,.load t x,ty,pos,after,g⟩ (.agg vs.toArray) :=
 sw hx hagg hz hl fun w hw j v hj=>by
  rw [Nat.zero_add]; exact ((hc.mono hw.bg).cell hj).at
theorem eL {x:Operand} {t:TypeId} {b o:Nat} {v:Value} {vs:List Value} (hx:opv M x=some (.pointer (some ⟨b,o,none⟩))) (hc:CellsIn F.blk b vs) (hagg:∀ w,(isAgg t).run P w=.ok false w) (hv:vs[o]?=some v) :
  QS P N F L M ⟨dst,.load t x,ty,pos,after,g⟩ v :=
 ov hx hagg fun w hw=>((hc.mono hw.bg).cell hv).at
theorem nL {x:Operand} {t:TypeId} {b o:Nat} {v:Value} {vs:List Value} (hx:opv M x=some (.pointer (some ⟨b,o,none⟩))) (hagg:∀ w,(isAgg t).run P w=.ok false w) (hc:CellsIn F.blk b vs:=by assumption) (hv:vs[o]?=some v:=by rfl):QS P N F L M ⟨dst,.load t x,ty,pos,after,g⟩ v:=eL hx hc hagg hv
theorem AK {α:Type} {E:Enc α} {xs:List α} {x hi mx:Operand} {t e T:TypeId} {V:Value} {k:Nat} {n:Int} {L1:List Ent} (hx:opv M x=some V) (hV:Del (rowE V T E xs) L L1) (hhi:opv M hi=some (.int .i64 n)) (hmx:opv M mx=some (.int .i64 n)) (hn:n=(xs.length:Nat))
  (ht:P.underlying t=some (.slice e)) (hz:∀ w,(sizeOf e).run P w=.ok k w) (hd:Nat.ble (d+1) N=true)
  (K:∀ V',Tr N F (rowE V' T E xs :: L1) ((d,V') :: M) (wpList P ops Q rest)):Tr N F L M (wpList P ops Q (⟨some d,.slice t x none (some hi) (some mx),ty,pos,after,none⟩ :: rest)):=by
 subst hn; exact Do hx hV hhi hmx ht hz hd K
theorem Pick.refl:∀ L:List Ent,Pick L L
 | []=>.nil _
 | e :: L=>.cons (.here _) (Pick.refl L)
theorem cn {α:Type} {V:Value} {T:TypeId} {E:Enc α} {l:List α} {X:Act→World→Prop} (hm:rowE V T E l∈L) (K:∀ a c,V=.slice a l.length c→Tr N F L M X):Tr N F L M X:=by
 intro a w ha hw
 have hr:RowOK V T E l (V.ownBlock.bind (w.heap[·]?)):=hw.ent _ hm
 rcases hr with ⟨h1,h2⟩|⟨gb,cap,cur,h1,_⟩
 ·exact K none 0 (by rw [h1,h2]; rfl) a w ha hw
 ·exact K _ _ h1 a w ha hw
theorem eV {α:Type} {V:Value} {T:TypeId} {E:Enc α} {l:List α} {X:Act→World→Prop} (K:∀ a c,V=.slice a l.length c→Tr N F L M X) (hm:rowE V T E l∈L:=by repeat constructor):Tr N F L M X:=cn hm K
end
end Go.HL
namespace Go.HL
open Go Go.RowKit Go.Sort
open Go.Shelf (Ren)
open Go.Proofs (SlLaysF0.n6 CmpLays ltOf)
theorem Ext.grown {w w':World} (h:Ext w w'):∃ q os',w'=grow (w.drewN q) os':=by
 refine ⟨w'.drawn - w.drawn,w'.heap.extract w.heap.size w'.heap.size,?_⟩
 obtain ⟨⟨h1,h2,h3,h4,h5⟩,h6⟩:=h
 obtain ⟨hp',t',d',o',u'⟩:=w'
 simp only at h1 h2 h3 h4 h5 h6 ⊢
 subst h1; subst h2; subst h3
 simp only [grow,World.drewN,World.mk.injEq,true_and,and_true]
 refine ⟨?_,by omega⟩
 apply Array.ext_getElem?
 intro k
 rw [Array.getElem?_append]
 by_cases hk:k<w.heap.size
 ·rw [if_pos hk,h5 k hk]
 ·rw [if_neg hk]
  simp only [Array.getElem?_extract]
  by_cases hk2:k<hp'.size
  ·rw [if_pos (by omega),show w.heap.size+(k - w.heap.size)=k by omega]
  ·rw [if_neg (by omega),Array.getElem?_eq_none (by omega)]
theorem uW {α:Type} [Inhabited α] (E:Enc α) (d:Array α):(flatK E.enc E.k d).toList=d.toList.flatMap E.enc:=by
  apply List.ext_getElem?
  intro t
  by_cases ht:t<d.size * E.k
  · have k0:0<E.k:=by rcases Nat.eq_zero_or_pos E.k with h|h
                      · rw [h] at ht; simp at ht
                      · exact h
    have hi:t / E.k<d.size:=by rw [Nat.div_lt_iff_lt_mul k0]; exact ht
    have hj:t % E.k<E.k:=Nat.mod_lt _ k0
    have hl:t % E.k<(E.enc d[t / E.k]!).length:=by rw [E.len]; exact hj
    have h1:=get_flatK E.enc E.k d t ht
    have h2:=oO E d.toList (t / E.k) (d[t / E.k]!) (by rw [getElem!_pos d _ hi]; simp [hi]) (t % E.k) _ (List.getElem?_eq_getElem hl)
    rw [show t / E.k * E.k+t % E.k=t from Nat.div_add_mod' t E.k] at h2
    rw [h2,Array.getElem?_toList,Array.getElem?_eq_getElem (by rw [size_flatK]; exact ht)]
    rw [getElem!_pos (flatK E.enc E.k d) t (by rw [size_flatK]; exact ht),getElem!_pos (E.enc d[t / E.k]!) _ hl] at h1
    rw [h1]
  · rw [List.getElem?_eq_none (by simp; omega),List.getElem?_eq_none (by rw [de]; simp; omega)]
theorem Hy {α:Type} [Inhabited α] {E:Enc α} {l:List α} {w:World} {g:Nat} {cur:Array Value} {T:TypeId} (ho:w.heap[g]?=some (.cells cur T (0,0))) (hs:l.length * E.k≤cur.size) (hc:cur.toList.take (l.length * E.k)=l.flatMap E.enc) :
  HoldsK E.enc E.k w g 0 l.toArray:=by
 intro j hj
 rw [size_flatK] at hj
 have hj':j<l.length * E.k:=by simpa using hj
 have e:(flatK E.enc E.k l.toArray).toList=l.flatMap E.enc:=uW E l.toArray
 refine ⟨?_,by simp [World.frozen?,ho]⟩
 rw [getElem!_pos (flatK E.enc E.k l.toArray) j (by rw [size_flatK]; exact hj)]
 have h2:(flatK E.enc E.k l.toArray)[j]?=cur[j]?:=by
  rw [← Array.getElem?_toList,e,← hc,List.getElem?_take,if_pos hj',Array.getElem?_toList]
 rw [Array.getElem?_eq_getElem (by rw [size_flatK]; exact hj)] at h2
 simp [World.cell?,ho,← h2]
theorem JV {w:World} {g:Nat} {cur:Array Value} {T:TypeId} (ho:w.heap[g]?=some (.cells cur T (0,0))) (F:Array Value) (os:Array Obj) (m:Nat) :
  (grow (putRow id (Sort.ahead w m) g 0 F) os).heap[g]?=some (.cells (putCells id 0 F cur) T (0,0)):=by
 have hg:g<w.heap.size:=(Array.getElem?_eq_some_iff.1 ho).1
 rw [heap_grow_old _ _ (by simpa using hg)]
 simp [putRow,mapBlock,Sort.ahead,Array.getElem?_modify,ho,onCells]
theorem Ap (F cur:Array Value) (h:F.size≤cur.size):(putCells id 0 F cur).toList.take F.size=F.toList:=by
 apply List.ext_getElem?
 intro j
 rw [List.getElem?_take,Array.getElem?_toList,Array.getElem?_toList]
 by_cases hj:j<F.size
 ·rw [if_pos hj]
  simp [putCells,Array.getElem?_mapIdx,hj,Array.getElem?_eq_getElem (show j<cur.size by omega)]
 ·rw [if_neg hj,Array.getElem?_eq_none (by omega)]
theorem AX {w:World} {V:Value} {g:Nat} {cur F:Array Value} {T:TypeId} (hV:V.ownBlock=some g) (ho:w.heap[g]?=some (.cells cur T (0,0))) (os:Array Obj) (m:Nat):Mut w (grow (putRow id (Sort.ahead w m) g 0 F) os) V:=by
 refine ⟨rfl,rfl,rfl,by simp [putRow,mapBlock,Sort.ahead],by simp [grow,putRow,mapBlock,Sort.ahead],fun k hk hne=>?_⟩
 rw [heap_grow_old _ _ (by simpa [putRow,mapBlock,Sort.ahead] using hk)]
 have:g≠k:=by rintro rfl; exact hne hV.symm
 simp [putRow,mapBlock,Sort.ahead,Array.getElem?_modify,this]
def mR {α:Type} [Inhabited α] (lt:α→α→Bool) (l:List α):List α:=(pdq lt l.toArray 0 l.length (Lib.bitLen l.length) true true).toList
theorem qB {α:Type} [Inhabited α] {lt:α→α→Bool} (h:SWO lt) (l:List α):(mR lt l).Perm l:=by
 have hs:=(pdq_sorts lt h l.toArray 0 l.length (Lib.bitLen l.length) true true (Nat.zero_le _) (by simp) (Or.inl rfl)).1
 obtain ⟨h1,_,h3⟩:=hs
 have hsz:(pdq lt l.toArray 0 l.length (Lib.bitLen l.length) true true).size=l.length:=by simpa using h1
 unfold mR
 generalize hd:pdq lt l.toArray 0 l.length (Lib.bitLen l.length) true true=d at h3 hsz
 have e1:d.extract 0 l.length=d:=by rw [← hsz]; simp
 have e2:l.toArray.extract 0 l.length=l.toArray:=by simp
 rw [e1,e2] at h3
 simpa using h3
theorem Ck {α:Type} [Inhabited α] {lt:α→α→Bool} (h:SWO lt) (l:List α):(mR lt l).Pairwise fun x y=>lt y x=false:=by
 have hs:=(pdq_sorts lt h l.toArray 0 l.length (Lib.bitLen l.length) true true (Nat.zero_le _) (by simp) (Or.inl rfl))
 have hsz:(pdq lt l.toArray 0 l.length (Lib.bitLen l.length) true true).size=l.length:=by simpa using hs.1.1
 rw [List.pairwise_iff_getElem]
 intro i j hi hj hij
 unfold mR at hi hj ⊢
 simp only [Array.length_toList] at hi hj
 have:=hs.2 i j (Nat.zero_le _) hij (by omega)
 rw [getElem!_pos (pdq lt l.toArray 0 l.length (Lib.bitLen l.length) true true) j hj,getElem!_pos (pdq lt l.toArray 0 l.length (Lib.bitLen l.length) true true) i hi] at this
 simpa using this
theorem nj {α:Type} [Inhabited α] {lt:α→α→Bool} (h:SWO lt) (l:List α):(mR lt l).length=l.length:=(qB h l).length_eq
theorem un {P:Program} {ρ:Ren} (L:SlLaysF0.n6 P ρ) {α:Type} [Inhabited α] (E:Enc α) (T:TypeId) (aE:∀ w,(isAgg (ρ.t 24)).run P w=.ok true w) (zE:∀ w,(Go.sizeOf (ρ.t 24)).run P w=.ok E.k w) (cf:α→α→Int) (hO:SWO (ltOf cf))
  (g:Nat) (cb:List Value) (l:List α) (V:Value) (w:World) (eg:∀ args w,(callFunc g args).run P w=.ok (.enter g args) w) (hr:(rowE V T E l).holds w) (hl:l.length<2305843009213693952)
  (hcmp:∀ x y w',Mut w w' V→Calls P g ([Value.agg (E.enc x).toArray,.agg (E.enc y).toArray] ++ cb).toArray w' fun e w''=>e=.returned (.int .i64 (cf x y))∧Ext w' w'')
  (hnil:Calls P (ρ.f 6) #[.slice none 0 0,.func (.func g) #[] cb.toArray] w fun e w'=>e=.returned (.tuple #[])∧Ext w w') :
  Calls P (ρ.f 6) #[V,.func (.func g) #[] cb.toArray] w fun e w'=>e=.returned (.tuple #[])∧Mut w w' V∧(rowE V T E (mR (ltOf cf) l)).holds w':=by
 have hr':RowOK V T E l (V.ownBlock.bind (w.heap[·]?)):=hr
 rcases hr' with ⟨rfl,rfl⟩|⟨b,cap,cur,rfl,ho,hc1,hc2,hc3,hc4⟩
 ·refine hnil.mono fun e w' ⟨h1,h2⟩=>⟨h1,⟨h2.below.os,h2.below.tape,h2.below.output,h2.below.size,h2.dr,fun k hk _=>h2.below.block k hk⟩,?_⟩
  refine .inl ⟨rfl,?_⟩
  have:=nj hO ([]:List α)
  exact List.length_eq_zero_iff.1 this
 ·have ho':w.heap[b]?=some (.cells cur T (0,0)):=ho
  have hb:b<w.heap.size:=(Array.getElem?_eq_some_iff.1 ho').1
  have hsz:l.length * E.k≤cur.size:=Nat.le_trans (Nat.mul_le_mul_right _ hc1) hc3
  have hH:=Hy (E:=E) (l:=l) ho' hsz hc4
  have hm:=Go.Proofs.AnyQ.slices_SortFunc_eq L E.k aE zE E.enc E.len E.one cf hO g cb.toArray b 0 cap l.toArray w eg
   (fun m os dk hdk x y=>by
    have e:(#[Value.agg (E.enc x).toArray,.agg (E.enc y).toArray] ++ cb.toArray)=([Value.agg (E.enc x).toArray,.agg (E.enc y).toArray] ++ cb).toArray:=by simp
    rw [e]
    exact (hcmp x y _ (AX (V:=.slice (some ⟨b,0,none⟩) l.length cap) rfl ho' os m)).mono fun e w' ⟨h1,h2⟩=>⟨h1,h2.grown⟩) hH hb (by simp; omega)
  have e0:(l.toArray.size:Nat)=l.length:=by simp
  rw [e0] at hm
  refine hm.mono fun e w' ⟨h1,m,os,h2⟩=>⟨h1,?_⟩
  subst h2
  refine ⟨AX rfl ho' os m,?_⟩
  have hlen:=nj hO l
  have hF:(flatK E.enc E.k (pdq (ltOf cf) l.toArray 0 l.length (Lib.bitLen l.length) true true)).toList=(mR (ltOf cf) l).flatMap E.enc:=uW E _
  have hFs:(flatK E.enc E.k (pdq (ltOf cf) l.toArray 0 l.length (Lib.bitLen l.length) true true)).size=l.length * E.k:=by
   rw [← Array.length_toList,hF,de,hlen]
  refine .inr ⟨b,cap,_,by rw [hlen],JV ho' _ os m,by rw [hlen]; exact hc1,hc2,by simpa [putCells] using hc3,?_⟩
  rw [hlen,← hF,← hFs]
  exact Ap _ _ (by rw [hFs]; exact hsz)
end Go.HL
namespace Go.HL
open Go Go.Sort
open Go.Proofs (ltOf)
theorem kS {α:Type} [Inhabited α] {p:α→Bool} {l:List α} {k:Nat} (h:k<l.length) (hp:p (l.getD k default)=true):(l.take (k+1)).filter p=(l.take k).filter p ++ [l.getD k default]:=by
 rw [bN h,List.filter_append]; simp only [List.filter_cons,hp,if_true,List.filter_nil]
theorem kT {α:Type} [Inhabited α] {p:α→Bool} {l:List α} {k:Nat} (h:k<l.length) (hp:p (l.getD k default)=false):(l.take (k+1)).filter p=(l.take k).filter p:=by
 rw [bN h,List.filter_append]; simp only [List.filter_cons,hp,Bool.false_eq_true,if_false,List.filter_nil,List.append_nil]
end Go.HL
namespace Go.HL
open Go
structure SecV where
 name:ByteArray
 addr:UInt32
 data:List UInt8
 dp:Option Addr
 dc:Nat
 wr:Bool
 ex:Bool
 deriving Inhabited
def bP:Enc SecV:=⟨5,fun s=>[.string s.name,.int .u32 s.addr.toNat,.slice s.dp s.data.length s.dc,.bool s.wr,.bool s.ex],fun _=>rfl,
 fun x v h=>by simp at h; rcases h with h|h|h|h|h<;>subst h<;>rfl⟩
def DataIn (h:Hp) (l:List SecV):Prop:=∀ s∈l,Sl h cd s.data (.slice s.dp s.data.length s.dc)
theorem DataIn.mono {h h':Hp} {l:List SecV} (d:DataIn h l) (hh:Hp.le h h'):DataIn h' l:=fun s hs=>(d s hs).mono hh
def SecB (l:List SecV):Prop:=l.length≤1000∧∀ s∈l,s.data.length≤200000
theorem SecB.at {l:List SecV} (h:SecB l) {k:Nat} (hk:k<l.length):(l.getD k default).data.length≤200000:=h.2 _ (ba hk)
def OC (c:UInt8):Bool:=decide (c<97) || decide (122<c)
def N1 (c:UInt8):Bool:=decide (c<65) || decide (90<c)
def OW (c:UInt8):Bool:=decide (c<48) || decide (57<c)
def va (c:UInt8):Bool:=(((OC c && N1 c) && OW c) && decide (c≠95)) && decide (c≠46)
def yK (s:ByteArray):Bool:=!(bts s).any va && (decide (1≤(s.size:Int)) && decide ((s.size:Int)≤32))
def m0 (s:SecV):Int:=min ((s.addr.toNat:Int)+s.data.length) 4294967295
def gy (s:SecV):Rng:=⟨s.addr,u32 (m0 s)⟩
theorem FA (s:SecV):0≤m0 s∧m0 s≤4294967295:=by unfold m0; omega
theorem N5 {n:Int} (h:0≤n∧n≤4294967295):((u32 n).toNat:Int)=n:=by
 unfold u32; rw [UInt32.toNat_ofNat']; omega
theorem rA (s:SecV):((gy s).hi.toNat:Int)=m0 s:=N5 (FA s)
def inS (a:UInt32) (s:SecV):Bool:=inR a (gy s)
theorem oN {a:UInt32} {s:SecV}:inS a s=true↔s.addr.toNat≤a.toNat∧(a.toNat:Int)<m0 s:=by
 have h:=rA s
 simp only [inS,inR,Bool.and_eq_true,decide_eq_true_eq,UInt32.le_iff_toNat_le,UInt32.lt_iff_toNat_lt]
 have:(gy s).lo=s.addr:=rfl
 rw [this]; omega
def bL (l:List SecV) (a:UInt32):Int:=dA (inS a) 0 l
theorem jY {α:Type} (p:α→Bool):∀ (l:List α) (k:Nat),-1≤dA p k l∧dA p k l<(k:Int)+l.length
 | [],k=>by simp [dA]; omega
 | x :: l,k=>by
  unfold dA
  split
  ·simp; omega
  ·have:=jY p l (k+1); simp; omega
theorem j1 {l:List SecV} {a:UInt32}:-1≤bL l a∧bL l a<l.length:=by
 have:=jY (inS a) l 0; unfold bL; omega
theorem xI {α:Type} [Inhabited α] (p:α→Bool):∀ (l:List α) (k:Nat),0≤dA p k l→(k:Int)≤dA p k l∧p (l.getD (dA p k l - k).toNat default)=true
 | [],k,h=>by simp [dA] at h
 | x :: l,k,h=>by
  unfold dA at h ⊢
  split
  ·rename_i hx; simp [hx]
  ·rename_i hx
   rw [if_neg hx] at h
   obtain ⟨h1,h2⟩:=xI p l (k+1) h
   refine ⟨by omega,?_⟩
   rw [show (dA p (k+1) l - (k:Int)).toNat=(dA p (k+1) l - ((k+1:Nat):Int)).toNat+1 by omega,List.getD_cons_succ]
   exact h2
theorem qb {l:List SecV} {a:UInt32} (h:0≤bL l a):inS a (l.getD (bL l a).toNat default)=true:=by
 have:=(xI (inS a) l 0 h).2
 rwa [Int.natCast_zero,Int.sub_zero] at this
def eE (l:List SecV) (a:UInt32) (n:Int):Int × Int × Int :=
 if bL l a<0 then (0,0,11) else if m0 (l.getD (bL l a).toNat default) - a.toNat<n then (0,0,11) else (bL l a,(a.toNat:Int) - (l.getD (bL l a).toNat default).addr.toNat,0)
theorem yC {l:List SecV} {a:UInt32} {n:Int} (h:bL l a<0):eE l a n=(0,0,11):=by unfold eE; rw [if_pos h]
theorem EE {l:List SecV} {a:UInt32} {n:Int} (h:¬ bL l a<0) (h2:m0 (l.getD (bL l a).toNat default) - a.toNat<n):eE l a n=(0,0,11):=by unfold eE; rw [if_neg h,if_pos h2]
theorem ED {l:List SecV} {a:UInt32} {n:Int} (h:¬ bL l a<0) (h2:¬ m0 (l.getD (bL l a).toNat default) - a.toNat<n):eE l a n=(bL l a,(a.toNat:Int) - (l.getD (bL l a).toNat default).addr.toNat,0):=by unfold eE; rw [if_neg h,if_neg h2]
theorem yB {l:List SecV} {a:UInt32} (h:¬ bL l a<0):(((gy (l.getD (bL l a).toNat default)).hi - a).toNat:Int)=m0 (l.getD (bL l a).toNat default) - a.toNat:=by
 have h1:=oN.1 (qb (l:=l) (a:=a) (by omega))
 have h2:=rA (l.getD (bL l a).toNat default)
 rw [UInt32.toNat_sub_of_le]
 ·omega
 ·rw [UInt32.le_iff_toNat_le]; omega
theorem Me {l:List SecV} {a:UInt32} (h:¬ bL l a<0):((a - (l.getD (bL l a).toNat default).addr).toNat:Int)=(a.toNat:Int) - (l.getD (bL l a).toNat default).addr.toNat:=by
 have h1:=oN.1 (qb (l:=l) (a:=a) (by omega))
 rw [UInt32.toNat_sub_of_le]
 ·omega
 ·rw [UInt32.le_iff_toNat_le]; omega
theorem A8 {l:List SecV} {a:UInt32} {n:Int} (h:(eE l a n).2.2=0):0≤(eE l a n).1∧(eE l a n).1<l.length∧(eE l a n).1=bL l a∧0≤(eE l a n).2.1∧(eE l a n).2.1+n≤(l.getD (eE l a n).1.toNat default).data.length:=by
 unfold eE at h ⊢
 split at h
 ·cases h
 ·rename_i h1
  split at h
  ·cases h
  ·rename_i h2
   rw [if_neg h1,if_neg h2]
   have h3:=oN.1 (qb (l:=l) (a:=a) (by omega))
   have h4:=j1 (l:=l) (a:=a)
   refine ⟨by omega,by omega,rfl,by dsimp only; omega,?_⟩
   dsimp only
   unfold m0 at h2 h3; omega
def fF (l:List SecV) (a:UInt32) (n:Int):List UInt8 × Int :=
 if n<0 then ([],2) else if n=0 then ([],0) else if (eE l a n).2.2≠0 then ([],(eE l a n).2.2)
 else (((l.getD (eE l a n).1.toNat default).data.take ((eE l a n).2.1+n).toNat).drop (eE l a n).2.1.toNat,0)
def rO (a b:Rng):Bool:=decide ((if a.lo<b.lo then b.lo else a.lo)<(if b.hi<a.hi then b.hi else a.hi))
def Ci:Rng:=⟨978944,983040⟩
def l8 (l:List SecV) (i:Nat):Int :=
 let s:=l.getD i default
 if (s.data.length:Int) > 65536 then 6 else if yK s.name=false then 3 else if (l.take i).any (fun x=>decide (x.name=s.name))=true then 8
 else if (s.addr.toNat:Int)+s.data.length > 4294967295∨rO (gy s) Ci=true then 7 else 0
def fU (f:Nat→Int):Nat→Nat→Int
 | _,0=>0
 | i,n+1=>if f i≠0 then f i else fU f (i+1) n
def rj (l:List SecV) (i:Nat):Bool:=(l.take i).any fun x=>rO (gy x) (gy (l.getD i default))
def fV (l:List SecV):Int :=
 if (l.length:Int) > 16 then 6 else if fU (l8 l) 0 l.length≠0 then fU (l8 l) 0 l.length
 else fU (fun i=>if rj l i=true then 10 else 0) 0 l.length
theorem any_take_succ {α:Type} [Inhabited α] {p:α→Bool} {l:List α} {k:Nat} (h:k<l.length):(l.take (k+1)).any p=((l.take k).any p || p (l.getD k default)):=by
 rw [bN h,List.any_append]; simp
theorem Dj {α:Type} {p:α→Bool} {l:List α} {k:Nat} (h:l.length≤k):(l.take k).any p=l.any p:=by rw [List.take_of_length_le h]
theorem Bc {s:ByteArray} {k:Nat} (hk:k<s.size) (hb:va ((bts s).getD k default)=true):yK s=false:=by
 have h1:(bts s).any va=true:=List.any_eq_true.2 ⟨_,ba (by rw [u7]; exact hk),hb⟩
 unfold yK; rw [h1]; rfl
theorem Bb {s:ByteArray} {k:Nat} (hk:s.size≤k) (h:((bts s).take k).any va=false):yK s=(decide (1≤(s.size:Int)) && decide ((s.size:Int)≤32)):=by
 rw [Dj (by rw [u7]; exact hk)] at h
 unfold yK; rw [h]; rfl
theorem zh {f:Nat→Int} {k n:Nat} (hn:0<n) (h:f k≠0):fU f k n=f k:=by
 obtain ⟨m,rfl⟩:∃ m,n=m+1:=⟨n - 1,by omega⟩
 unfold fU; rw [if_pos h]
theorem oQ {f:Nat→Int} {k n:Nat} (hk:k<n) (h:f k=0):fU f (k+1) (n - (k+1))=fU f k (n - k):=by
 obtain ⟨m,hm⟩:∃ m,n - k=m+1:=⟨n - k - 1,by omega⟩
 rw [hm,show n - (k+1)=m by omega]
 conv=>rhs; unfold fU
 rw [if_neg (by simp [h])]
theorem I7 {l:List SecV} (h:(16:Int)<l.length):fV l=6:=by unfold fV; rw [if_pos h]
theorem u6 {l:List SecV} {k:Nat} {v:Int} (hl:¬ (16:Int)<l.length) (hk:k<l.length) (hi:fU (l8 l) k (l.length - k)=fU (l8 l) 0 l.length) (h:l8 l k=v) (hv:v≠0):fV l=v:=by
 rw [zh (by omega) (by rw [h]; exact hv),h] at hi
 unfold fV; rw [if_neg hl,← hi,if_pos hv]
theorem I6 {l:List SecV} {k:Nat} (hl:¬ (16:Int)<l.length) (h1:fU (l8 l) 0 l.length=0) (hk:k<l.length) (hi:fU (fun i=>if rj l i=true then 10 else 0) k (l.length - k)=fU (fun i=>if rj l i=true then 10 else 0) 0 l.length) (h:rj l k=true):fV l=10:=by
 rw [zh (by omega) (by rw [if_pos h]; decide),if_pos h] at hi
 unfold fV; rw [if_neg hl,if_neg (by simp [h1]),← hi]
theorem I5 {l:List SecV} (hl:¬ (16:Int)<l.length) (h1:fU (l8 l) 0 l.length=0) (h2:fU (fun i=>if rj l i=true then 10 else 0) 0 l.length=0):fV l=0:=by
 unfold fV; rw [if_neg hl,if_neg (by simp [h1]),h2]
theorem oP {f:Nat→Int} {k n:Nat} (hk:n≤k):fU f k (n - k)=0:=by rw [show n - k=0 by omega]; rfl
theorem P5 {b:List UInt8} {addr:UInt32}:InsOK (oy b addr).1:=by
  unfold oy
  split
  · exact ⟨by simp [bh,I64],by simp [bh,I64],by simp [bh,I64],by simp [bh,I64],by simp [bh,I64],by simp [bh,I64],by simp [bh,I64]⟩
  split
  · exact ⟨by simp [bh,I64],by simp [bh,I64],by simp [bh,I64],by simp [bh,I64],by simp [bh,I64],by simp [bh,I64],by simp [bh,I64]⟩
  split
  · exact ⟨by simp [bh,I64],by simp [bh,I64],by simp [bh,I64],by simp [bh,I64],by simp [bh,I64],by simp [bh,I64],by simp [bh,I64]⟩
  simp only
  split
  · exact ⟨by simp [bh,I64],by simp [bh,I64],by simp [bh,I64],by simp [bh,I64],by simp [bh,I64],by simp [bh,I64],by simp [bh,I64]⟩
  rename_i hr
  simp only [not_or,Bool.not_eq_false] at hr
  have ha:=lI.1 hr.1
  have hb:=lI.1 hr.2
  have hk:=LD (b.getD 0 default)
  generalize (rowP (b.getD 0 default)).1=k at *
  generalize (aB k).2.1=s at *
  have hs:∀ s k b nx,(ll s k b nx).op=k.op∧(ll s k b nx).form=k.form∧(ll s k b nx).width=k.width∧(ll s k b nx).cc=k.cc∧(ll s k b nx).size=k.size:=fun s k b nx=>by
    unfold ll; repeat' split
    all_goals exact ⟨rfl,rfl,rfl,rfl,rfl⟩
  have hsz:0≤eK s∧eK s≤6:=by unfold eK; repeat' split
                             all_goals omega
  have h1:=hs s { k with addr:=addr,size:=eK s } b (addr+u32 (eK s))
  unfold wZ at *
  show InsOK (ll s { k with addr:=addr,size:=eK s } b (addr+u32 (eK s)))
  exact ⟨by rw [h1.1]; exact hk.op,by rw [h1.2.1]; exact hk.form,by rw [h1.2.2.1]; exact hk.width,by rw [h1.2.2.2.1]; exact hk.cc,by unfold I64; omega,by unfold I64; omega,by rw [h1.2.2.2.2]; unfold I64; show _≤eK s∧eK s≤_; omega⟩
def G3 (a:UInt32):Bool:=decide (2147483648≤a)
def xl (a:UInt32) (n:Nat):UInt32:=u32 ((IntKind.i32.wrap a.toNat).fdiv (2 ^ n))
def d6 (n:UInt32):Nat:=(n % 32).toNat
def s7 (b:Bool):UInt32:=if b=true then 1 else 0
def CO (a b:UInt32):Bool:=decide (IntKind.i32.wrap a.toNat<IntKind.i32.wrap b.toNat)
def sf (op:Int) (a b:UInt32):UInt32 :=
 if op=3 then a+b else if op=4 then a - b else if op=5 then a * b else if op=6 then a &&& b else if op=7 then a ||| b else if op=8 then a ^^^ b
 else if op=9 then jt a (d6 b) else if op=10 then jQ a (d6 b) else if op=11 then xl a (d6 b)
 else if op=12 then s7 (decide (a=b)) else if op=13 then s7 (decide (a≠b)) else if op=14 then s7 (CO a b) else s7 (decide (a<b))
def oz (op:Int) (a b:UInt32):UInt32 × Int:=if op<3∨15<op then (0,2) else (sf op a b,0)
def leP:List UInt8→UInt32
 | []=>0
 | b :: t=>b.toUInt32+256 * leP t
end Go.HL
namespace Go.HL
open Go Go.Sort
open Go.Proofs (ltOf)
theorem Bj (a b:UInt32):(if a<b then b else a).toNat=max a.toNat b.toNat:=by
 split<;>rename_i h<;>rw [UInt32.lt_iff_toNat_lt] at h<;>omega
end Go.HL
namespace Go.HL
open Go Go.Sort
theorem Bf (a b:UInt32):(if b<a then b else a).toNat=min a.toNat b.toNat:=by
 split<;>rename_i h<;>rw [UInt32.lt_iff_toNat_lt] at h<;>omega
theorem Mq (x s:SecV):rO (gy x) (gy s)=true↔((0<x.data.length∧0<s.data.length)∧(s.addr.toNat:Int)<m0 x)∧(x.addr.toNat:Int)<m0 s:=by
 have h1:=rA x
 have h2:=rA s
 have e1:(gy x).lo=x.addr:=rfl
 have e2:(gy s).lo=s.addr:=rfl
 rw [rO,decide_eq_true_eq,UInt32.lt_iff_toNat_lt,Bj,Bf,e1,e2]
 unfold m0 at *
 omega
theorem JB (s:SecV):rO (gy s) Ci=true↔(0<s.data.length∧(s.addr.toNat:Int)<983040)∧978944<m0 s:=by
 have h1:=rA s
 have e1:(gy s).lo=s.addr:=rfl
 have e2:Ci.lo.toNat=978944:=rfl
 have e3:Ci.hi.toNat=983040:=rfl
 rw [rO,decide_eq_true_eq,UInt32.lt_iff_toNat_lt,Bj,Bf,e1,e2,e3]
 unfold m0 at *
 omega
def mD (l:List SecV) (a:UInt32) (n:Int):Int × Bool:=if bL l a<0 then (0,false) else (bL l a,decide (n≤m0 (l.getD (bL l a).toNat default) - a.toNat))
theorem Kl {l:List SecV} {a:UInt32} {n:Int} (h:(mD l a n).2=false):eE l a n=(0,0,11):=by
 unfold mD at h
 split at h
 ·exact yC (by assumption)
 ·rename_i h1
  simp only [decide_eq_false_iff_not] at h
  exact EE h1 (by omega)
theorem Hv {l:List SecV} {a:UInt32} {n:Int} (h:¬ (mD l a n).2=false):0≤bL l a∧(mD l a n).1=bL l a∧eE l a n=(bL l a,(a.toNat:Int) - (l.getD (bL l a).toNat default).addr.toNat,0):=by
 unfold mD at h ⊢
 split at h
 ·simp at h
 ·rename_i h1
  simp only [decide_eq_false_iff_not,Decidable.not_not] at h
  rw [if_neg h1]
  exact ⟨by omega,rfl,ED h1 (by omega)⟩
theorem LR (c:UInt8):va c=((((!((decide (97≤c) && decide (c≤122)) || (decide (65≤c) && decide (c≤90)))) && (decide (c<48) || decide (57<c))) && decide (c≠95)) && decide (c≠46)):=by
 rw [Bool.eq_iff_iff]
 have e1:(97:UInt8).toNat=97:=rfl
 have e2:(122:UInt8).toNat=122:=rfl
 have e3:(65:UInt8).toNat=65:=rfl
 have e4:(90:UInt8).toNat=90:=rfl
 have e5:(48:UInt8).toNat=48:=rfl
 have e6:(57:UInt8).toNat=57:=rfl
 simp only [va,OC,N1,OW,Bool.and_eq_true,Bool.or_eq_true,Bool.not_eq_true',Bool.or_eq_false_iff,Bool.and_eq_false_iff,decide_eq_true_eq,decide_eq_false_iff_not,UInt8.lt_iff_toNat_lt,UInt8.le_iff_toNat_le,e1,e2,e3,e4,e5,e6]
 constructor
 ·rintro ⟨⟨h,h2⟩,h3⟩; exact ⟨⟨by omega,h2⟩,h3⟩
 ·rintro ⟨⟨h,h2⟩,h3⟩; exact ⟨⟨by omega,h2⟩,h3⟩
end Go.HL
namespace Go.HL
open Go Go.RowKit Go.MapKept
section
variable {α:Type}
def du:List (UInt32 × α)→UInt32→Option α
 | [],_=>none
 | p :: t,k=>if k=p.1 then some p.2 else du t k
def fG:List (UInt32 × α)→UInt32→α→List (UInt32 × α)
 | [],k,x=>[(k,x)]
 | p :: t,k,x=>if k=p.1 then (k,x) :: t else p :: fG t k x
theorem uI (l:List (UInt32 × α)) (k j:UInt32) (x:α):du (fG l k x) j=if j=k then some x else du l j:=by
 induction l with
 | nil=>simp [fG,du]
 | cons p t ih =>
  unfold fG
  by_cases h:k=p.1
  ·rw [if_pos h]
   unfold du
   subst h
   by_cases c:j=p.1<;>simp [c]
  ·rw [if_neg h]
   by_cases c:j=p.1
   ·have:¬ j=k:=fun q=>h (q.symm.trans c)
    simp [du,c,this]
    intro q; exact absurd q.symm h
   ·simp [du,c,ih]
theorem vH (l:List (UInt32 × α)) (k:UInt32) (x:α):(fG l k x).map (·.1)=if (du l k).isSome then l.map (·.1) else l.map (·.1) ++ [k]:=by
 induction l with
 | nil=>simp [fG,du]
 | cons p t ih =>
  unfold fG du
  by_cases h:k=p.1
  ·simp [h]
  ·rw [if_neg h,if_neg h,List.map_cons,ih]
   split<;>simp_all
theorem mV {l:List (UInt32 × α)} {k:UInt32}:(du l k).isSome=true↔k∈l.map (·.1):=by
 induction l with
 | nil=>simp [du]
 | cons p t ih =>
  unfold du
  by_cases h:k=p.1
  ·simp [h]
  ·rw [if_neg h,ih]; simp [h]
theorem yP (l:List (UInt32 × α)) (k:UInt32) (x:α):(fG l k x).length≤l.length+1:=by
 have:=congrArg List.length (vH l k x)
 rw [List.length_map] at this
 split at this<;>simp at this<;>omega
theorem nX {l:List (UInt32 × α)} (k:UInt32) (x:α) (h:(l.map (·.1)).Nodup):((fG l k x).map (·.1)).Nodup:=by
 rw [vH]
 split
 ·exact h
 ·rename_i hk
  rw [List.nodup_append]
  refine ⟨h,by simp,fun a ha b hb=>?_⟩
  simp only [List.mem_singleton] at hb
  subst hb
  rintro rfl
  exact hk (mV.2 ha)
theorem EQ {l:List (UInt32 × α)} (h:(l.map (·.1)).Nodup) {k:UInt32} {x:α} (hm:(k,x)∈l):du l k=some x:=by
 induction l with
 | nil=>cases hm
 | cons p t ih =>
  rw [List.map_cons,List.nodup_cons] at h
  unfold du
  rcases List.mem_cons.1 hm with rfl|hm
  ·simp
  ·have:¬ k=p.1:=fun q=>h.1 (List.mem_map.2 ⟨_,hm,q⟩)
   rw [if_neg this]; exact ih h.2 hm
theorem wO {l:List (UInt32 × α)} {k:UInt32} {x:α} (h:du l k=some x):(k,x)∈l:=by
 induction l with
 | nil=>simp [du] at h
 | cons p t ih =>
  unfold du at h
  split at h
  ·rename_i e; cases h; subst e; exact .head _
  ·exact .tail _ (ih h)
theorem CJ:∀ (l:List (UInt32 × α)) {j:Nat} {p:UInt32 × α},(l.map (·.1)).Nodup→l[j]?=some p→du l p.1=some p.2∧∀ x,fG l p.1 x=l.set j (p.1,x)
 | [],j,p,_,h=>by simp at h
 | q :: t,0,p,_,h=>by
  simp only [List.getElem?_cons_zero,Option.some.injEq] at h
  subst h
  exact ⟨by simp [du],fun x=>by simp [fG]⟩
 | q :: t,j+1,p,hn,h=>by
  rw [List.map_cons,List.nodup_cons] at hn
  simp only [List.getElem?_cons_succ] at h
  have hne:¬ p.1=q.1:=fun e=>hn.1 (List.mem_map.2 ⟨p,List.mem_of_getElem? h,e⟩)
  obtain ⟨h1,h2⟩:=CJ t hn.2 h
  exact ⟨by rw [du,if_neg hne]; exact h1,fun x=>by rw [fG,if_neg hne,h2 x]; rfl⟩
theorem uH {l:List (UInt32 × α)} {k:UInt32} (h:du l k=none) (x:α):fG l k x=l ++ [(k,x)]:=by
 induction l with
 | nil=>rfl
 | cons p t ih =>
  unfold du at h
  split at h
  ·cases h
  ·rename_i hk; rw [fG,if_neg hk,ih h]; rfl
end
def jJ (k:UInt32):Value:=.int .u32 (k.toNat:Int)
theorem uL {a b:UInt32} (h:jJ a=jJ b):a=b:=by
 unfold jJ at h
 injection h with _ h
 exact UInt32.toNat_inj.1 (by omega)
theorem nY (k:UInt32):IsKey (.int .u32) (jJ k):=by simp [IsKey,jJ]
structure MapIs {α:Type} (f:α→Value) (l:List (UInt32 × α)) (es:Array MapEntry) (ck:Nat):Prop where
 st:Stamped es ck
 ents:es.toList.map (fun e=>(e.key,e.val))=l.map fun p=>(jJ p.1,f p.2)
section
variable {α:Type} {f:α→Value} {l:List (UInt32 × α)} {es:Array MapEntry} {ck:Nat}
theorem MapIs.made:MapIs f [] #[] 0:=⟨stamped_empty 0,rfl⟩
theorem MapIs.len (h:MapIs f l es ck):es.size=l.length:=by
 have:=congrArg List.length h.ents
 simpa using this
theorem MapIs.keys (h:MapIs f l es ck):es.toList.map (·.key)=l.map fun p=>jJ p.1:=by
 have:=congrArg (List.map Prod.fst) h.ents
 rw [List.map_map,List.map_map] at this
 exact this
theorem MapIs.nodup (h:MapIs f l es ck):(l.map (·.1)).Nodup:=by
 have h1:=h.st.2.2
 rw [h.keys] at h1
 have e:(l.map fun p=>jJ p.1)=(l.map (·.1)).map jJ:=by rw [List.map_map]; rfl
 rw [e] at h1
 exact List.Pairwise.imp (fun {a b} hne q=>hne (by rw [q])) (List.pairwise_map.1 h1)
theorem MapIs.isKey (h:MapIs f l es ck):∀ x∈es.toList,IsKey (.int .u32) x.key:=by
 intro x hx
 have:x.key∈es.toList.map (·.key):=List.mem_map.2 ⟨x,hx,rfl⟩
 rw [h.keys] at this
 obtain ⟨p,_,e⟩:=List.mem_map.1 this
 rw [← e]; exact nY _
theorem MapIs.at_ (h:MapIs f l es ck) {j:Nat} {e:MapEntry} (he:es.toList[j]?=some e):∃ p,l[j]?=some p∧e.key=jJ p.1∧e.val=f p.2:=by
 have h1:(es.toList.map (fun e=>(e.key,e.val)))[j]?=some (e.key,e.val):=by rw [List.getElem?_map,he]; rfl
 rw [h.ents,List.getElem?_map] at h1
 cases hl:l[j]? with
 | none=>rw [hl] at h1; cases h1
 | some p =>
  rw [hl] at h1
  simp only [Option.map_some,Option.some.injEq,Prod.mk.injEq] at h1
  exact ⟨p,rfl,h1.1.symm,h1.2.symm⟩
theorem MapIs.find (h:MapIs f l es ck) (k:UInt32) :
  (Instr.findNow (.int .u32) (jJ k) es.toList 0=some none∧du l k=none∧∀ x∈es.toList,x.key≠jJ k) ∨
  ∃ (j:Nat) (e:MapEntry) (x:α),Instr.findNow (.int .u32) (jJ k) es.toList 0=some (some (j,f x))∧es.toList[j]?=some e∧e.key=jJ k∧l[j]?=some (k,x)∧du l k=some x:=by
 rcases findNow_spec (nY k) es.toList 0 h.isKey with ⟨h1,h2⟩|⟨j,e,h1,h2,h3⟩
 ·refine .inl ⟨h1,?_,h2⟩
  cases hg:du l k with
  | none=>rfl
  | some x =>
   exfalso
   have hm:=wO hg
   have:jJ k∈es.toList.map (·.key):=by rw [h.keys]; exact List.mem_map.2 ⟨_,hm,rfl⟩
   obtain ⟨e,he,hk⟩:=List.mem_map.1 this
   exact h2 e he hk
 ·obtain ⟨p,p1,p2,p3⟩:=h.at_ h2
  have hk:p.1=k:=uL (p2.symm.trans h3)
  obtain ⟨pk,px⟩:=p
  simp only at hk p3
  subst hk
  exact .inr ⟨j,e,px,by rw [h1,p3]; simp,h2,h3,p1,(CJ l h.nodup p1).1⟩
theorem MapIs.push (h:MapIs f l es ck) {k:UInt32} (hk:du l k=none) (x:α):MapIs f (fG l k x) (es.push { key:=jJ k,val:=f x,born:=ck }) (ck+1):=by
 refine ⟨stamped_push h.st ?_,?_⟩
 ·intro e he q
  have:jJ k∈es.toList.map (·.key):=List.mem_map.2 ⟨e,he,q⟩
  rw [h.keys] at this
  obtain ⟨p,hp,e⟩:=List.mem_map.1 this
  have h1:=mV.2 (List.mem_map.2 ⟨p,hp,uL e⟩:k∈l.map (·.1))
  rw [hk] at h1; cases h1
 ·rw [uH hk,Array.toList_push,List.map_append,List.map_append,h.ents]; rfl
theorem MapIs.modify (h:MapIs f l es ck) {k:UInt32} {j:Nat} {e:MapEntry} {x0:α} (he:es.toList[j]?=some e) (hk:e.key=jJ k) (hl:l[j]?=some (k,x0)) (x:α) :
  MapIs f (fG l k x) (es.modify j fun e=>{ e with key:=jJ k,val:=f x }) ck:=by
 have hj:es[j]?=some e:=by simpa using he
 refine ⟨stamped_modify h.st _ _ (fun _ _=>rfl) (fun e' _ he'=>by rw [hj] at he'; cases he'; exact hk.symm),?_⟩
 rw [(CJ l h.nodup hl).2 x]
 have hes:=h.ents
 apply List.ext_getElem?
 intro i
 rw [List.getElem?_map,List.getElem?_map,Array.getElem?_toList,Array.getElem?_modify,List.getElem?_set]
 have hi:(es.toList.map (fun e=>(e.key,e.val)))[i]?=(l.map fun p=>(jJ p.1,f p.2))[i]?:=by rw [hes]
 rw [List.getElem?_map,List.getElem?_map,Array.getElem?_toList] at hi
 by_cases c:j=i
 ·subst c
  have hlt:j<l.length:=(List.getElem?_eq_some_iff.1 hl).1
  simp [hj,hlt]
 ·simp only [c,if_false]; exact hi
end
def mapE {α:Type} (b:Nat) (f:α→Value) (l:List (UInt32 × α)):Ent:=⟨some b,fun o=>∃ es ck,o=some (.map es ck)∧MapIs f l es ck⟩
def MapIn {α:Type} (h:Hp) (b:Nat) (f:α→Value) (l:List (UInt32 × α)):Prop:=∃ es ck,h b=some (.map es ck)∧MapIs f l es ck
theorem MapIn.mono {α:Type} {h k:Hp} {b:Nat} {f:α→Value} {l:List (UInt32 × α)} (m:MapIn h b f l) (hk:Hp.le h k):MapIn k b f l:=by
 obtain ⟨es,ck,h1,h2⟩:=m
 exact ⟨es,ck,hk _ _ h1,h2⟩
theorem mapE.in_ {α:Type} {b:Nat} {f:α→Value} {l:List (UInt32 × α)} {w:World} (h:(mapE b f l).holds w):MapIn (hp w) b f l:=by
 obtain ⟨es,ck,h1,h2⟩:=h
 exact ⟨es,ck,h1,h2⟩
def yN {α:Type} (f:α→Value) (z:Value):Option α→Value
 | some x=>f x
 | none=>z
section
variable {P:Program} {ops:Array Oper} {Q:Exit→Act→World→Prop} {N:Nat} {F:Bg} {L:List Ent} {M:Fr} {dst:Option Tmp} {ty:TypeId} {pos:String} {after:Array Edge} {g:Option (Nat × Bool)} {rest:List Oper} {d:Nat}
theorem qM {α:Type} {f:α→Value} {l:List (UInt32 × α)} {w:World} {t K e:TypeId} {z:Value} {b:Nat} (ht:P.underlying t=some (.map K e)) (hK:P.underlying K=some (.int .u32)) (hz:∀ w,(zeroValue e).run P w=.ok z w)
  (hm:MapIn (HL.hp w) b f l) (k:UInt32) (c:Bool):(Instr.lookup t (.map (some b)) (jJ k) c).run P w=.ok (if c then .tuple #[yN f z (du l k),.bool (du l k).isSome] else yN f z (du l k)) w:=by
 obtain ⟨es,ck,hb,hm⟩:=hm
 replace hb:w.heap[b]?=some (.map es ck):=hb
 rcases hm.find k with ⟨h1,h2,_⟩|⟨j,e0,x,h1,_,_,_,h2⟩
 ·cases c<;>simp [Instr.lookup,run_underlying ht,Go.MapKept.run_getObj_map hb,run_checkKey hK (nY k),run_findKey hK h1,hz,Result.andThen,h2,yN]
 ·cases c<;>simp [Instr.lookup,run_underlying ht,Go.MapKept.run_getObj_map hb,run_checkKey hK (nY k),run_findKey hK h1,hz,Result.andThen,h2,yN]
theorem Ph {α:Type} {f:α→Value} {l:List (UInt32 × α)} {x y:Operand} {t K e:TypeId} {z:Value} {b:Nat} {k:UInt32} (hx:opv M x=some (.map (some b))) (hy:opv M y=some (.int .u32 k.toNat)) (hm:mapE b f l∈L)
  (ht:P.underlying t=some (.map K e)) (hK:P.underlying K=some (.int .u32)) (hz:∀ w,(zeroValue e).run P w=.ok z w):QS P N F L M ⟨dst,.lookup t x y false,ty,pos,after,g⟩ (yN f z (du l k)) :=
 bQ fun a w ha hw=>by
  have hr:=qM (P:=P) ht hK hz (mapE.in_ (hw.ent _ hm)) k false
  simp only [jJ] at hr
  simp [execOp,ha.eval hx,ha.eval hy,hr]
theorem B0 {α:Type} {f:α→Value} {l:List (UInt32 × α)} {x y:Operand} {t K e:TypeId} {z:Value} {b:Nat} {k:UInt32} (hx:opv M x=some (.map (some b))) (hy:opv M y=some (.int .u32 k.toNat)) (hm:mapE b f l∈L)
  (ht:P.underlying t=some (.map K e)) (hK:P.underlying K=some (.int .u32)) (hz:∀ w,(zeroValue e).run P w=.ok z w):QS P N F L M ⟨dst,.lookup t x y true,ty,pos,after,g⟩ (.tuple #[yN f z (du l k),.bool (du l k).isSome]) :=
 bQ fun a w ha hw=>by
  have hr:=qM (P:=P) ht hK hz (mapE.in_ (hw.ent _ hm)) k true
  simp only [jJ] at hr
  simp [execOp,ha.eval hx,ha.eval hy,hr]
theorem zZ {α:Type} {f:α→Value} {l:List (UInt32 × α)} {x y:Operand} {t K e:TypeId} {z:Value} {b:Nat} {k:UInt32} (hx:opv M x=some (.map (some b))) (hy:opv M y=some (.int .u32 k.toNat)) (hm:MapIn F.blk b f l)
  (ht:P.underlying t=some (.map K e)) (hK:P.underlying K=some (.int .u32)) (hz:∀ w,(zeroValue e).run P w=.ok z w):QS P N F L M ⟨dst,.lookup t x y false,ty,pos,after,g⟩ (yN f z (du l k)) :=
 bQ fun a w ha hw=>by
  have hr:=qM (P:=P) ht hK hz (hm.mono hw.bg) k false
  simp only [jJ] at hr
  simp [execOp,ha.eval hx,ha.eval hy,hr]
theorem zY {α:Type} {f:α→Value} {l:List (UInt32 × α)} {x y:Operand} {t K e:TypeId} {z:Value} {b:Nat} {k:UInt32} (hx:opv M x=some (.map (some b))) (hy:opv M y=some (.int .u32 k.toNat)) (hm:MapIn F.blk b f l)
  (ht:P.underlying t=some (.map K e)) (hK:P.underlying K=some (.int .u32)) (hz:∀ w,(zeroValue e).run P w=.ok z w):QS P N F L M ⟨dst,.lookup t x y true,ty,pos,after,g⟩ (.tuple #[yN f z (du l k),.bool (du l k).isSome]) :=
 bQ fun a w ha hw=>by
  have hr:=qM (P:=P) ht hK hz (hm.mono hw.bg) k true
  simp only [jJ] at hr
  simp [execOp,ha.eval hx,ha.eval hy,hr]
def dw (x:Bool):Value:=.bool x
theorem Bd (o:Option Bool):yN dw (.bool false) o=.bool (o.getD false):=by cases o<;>rfl
theorem GA {l:List (UInt32 × Bool)} {x y:Operand} {t K e:TypeId} {b:Nat} {k:UInt32} (hx:opv M x=some (.map (some b))) (hy:opv M y=some (.int .u32 k.toNat)) (hm:mapE b dw l∈L)
  (ht:P.underlying t=some (.map K e)) (hK:P.underlying K=some (.int .u32)) (hz:∀ w,(zeroValue e).run P w=.ok (.bool false) w):QS P N F L M ⟨dst,.lookup t x y false,ty,pos,after,g⟩ (.bool ((du l k).getD false)):=by
 have h:=Ph (P:=P) (N:=N) (F:=F) (L:=L) (M:=M) (dst:=dst) (ty:=ty) (pos:=pos) (after:=after) (g:=g) hx hy hm ht hK hz
 rw [Bd] at h; exact h
theorem KW {l:List (UInt32 × Bool)} {x y:Operand} {t K e:TypeId} {b:Nat} {k:UInt32} (hx:opv M x=some (.map (some b))) (hy:opv M y=some (.int .u32 k.toNat)) (hm:MapIn F.blk b dw l)
  (ht:P.underlying t=some (.map K e)) (hK:P.underlying K=some (.int .u32)) (hz:∀ w,(zeroValue e).run P w=.ok (.bool false) w):QS P N F L M ⟨dst,.lookup t x y false,ty,pos,after,g⟩ (.bool ((du l k).getD false)):=by
 have h:=zZ (P:=P) (N:=N) (F:=F) (L:=L) (M:=M) (dst:=dst) (ty:=ty) (pos:=pos) (after:=after) (g:=g) hx hy hm ht hK hz
 rw [Bd] at h; exact h
theorem ij {α:Type} (f:α→Value) {t:TypeId} (hd:Nat.ble (d+1) N=true)
  (k:∀ b,Tr N F (mapE b f [] :: L) ((d,.map (some b)) :: M) (wpList P ops Q rest)):Tr N F L M (wpList P ops Q (⟨some d,.makeMap t none,ty,pos,after,none⟩ :: rest)):=by
 intro a w ha hw
 refine wpList_plain rfl fun K hK=>?_
 unfold Oper.wp
 have hr:(execOp a.eval ⟨some d,.makeMap t none,ty,pos,after,none⟩).run P w=.ok (.value (.map (some w.heap.size))) (w.alloc (.map #[] 0)):=by simp [execOp,Instr.makeMap]
 rw [hr]
 exact hK _ _ (k w.heap.size _ _ (ha.put (Nat.le_of_ble_eq_true hd)) (hw.alloc _ _ ⟨#[],0,rfl,MapIs.made⟩))
theorem GV {α:Type} {f:α→Value} {l:List (UInt32 × α)} {w:World} {t K e:TypeId} {b:Nat} (ht:P.underlying t=some (.map K e)) (hK:P.underlying K=some (.int .u32)) (hm:MapIn (HL.hp w) b f l) (k:UInt32) (x:α) :
  ∃ es ck,(Instr.mapUpdate t (.map (some b)) (jJ k) (f x)).run P w=.ok () { w with heap:=w.heap.setIfInBounds b (.map es ck) }∧MapIs f (fG l k x) es ck:=by
 obtain ⟨es,ck,hb,hm⟩:=hm
 replace hb:w.heap[b]?=some (.map es ck):=hb
 rcases hm.find k with ⟨h1,h2,h3⟩|⟨j,e0,x0,h1,h2,h3,h4,h5⟩
 ·exact ⟨_,_,by simp [Instr.mapUpdate,run_underlying ht,Go.MapKept.run_getObj_map hb,run_checkKey hK (nY k),run_findKey hK h1,run_setObj_map _ hb,Result.andThen],hm.push h2 x⟩
 ·have hj:es[j]?=some e0:=by simpa using h2
  exact ⟨_,_,by simp [Instr.mapUpdate,run_underlying ht,Go.MapKept.run_getObj_map hb,run_checkKey hK (nY k),run_findKey hK h1,hj,h3,run_keyThatStays (nY k),run_setObj_map _ hb,Result.andThen],hm.modify h2 h3 h4 x⟩
theorem gY {α:Type} {f:α→Value} {l:List (UInt32 × α)} (x0:α) {x y v:Operand} {t K e:TypeId} {b:Nat} {k:UInt32} {L':List Ent} {dst:Option Tmp} (hx:opv M x=some (.map (some b))) (hy:opv M y=some (.int .u32 k.toNat)) (hv:opv M v=some (f x0))
  (hput:Put (mapE b f l) (mapE b f (fG l k x0)) L L') (ht:P.underlying t=some (.map K e)) (hK:P.underlying K=some (.int .u32)) (hdst:dst=none)
  (Kk:Tr N F L' M (wpList P ops Q rest)):Tr N F L M (wpList P ops Q (⟨dst,.mapUpdate t x y v,ty,pos,after,none⟩ :: rest)):=by
 subst hdst
 intro a w ha hw
 refine wpList_plain rfl fun K' hK'=>?_
 have hent:=hw.ent _ hput.mem
 have hin:MapIn (HL.hp w) b f l:=mapE.in_ hent
 obtain ⟨es0,ck0,hb,_⟩:=hin
 have hb':w.heap[b]?=some (.map es0 ck0):=hb
 obtain ⟨es,ck,hr,hM⟩:=GV (P:=P) ht hK (mapE.in_ hent) k x0
 simp only [jJ] at hr
 unfold Oper.wp
 simp only [execOp,ha.eval hx,ha.eval hy,ha.eval hv,Sem.run_bind,hr,Result.andThen_ok,Sem.run_pure,Oper.upon,Act.put]
 refine hK' _ _ (Kk _ _ ha ?_)
 have hset:=heap_set (o':=.map es ck) hb'
 exact HpOK.set hw hput rfl rfl rfl (by simp) (Nat.le_refl _) (fun k _ hkb=>hset.2 k hkb) ⟨es,ck,hset.1,hM⟩
theorem KZ {α:Type} {f:α→Value} {l:List (UInt32 × α)} {x:Operand} {t K e:TypeId} {b:Nat} (hx:opv M x=some (.map (some b))) (hm:mapE b f l∈L) (ht:P.underlying t=some (.map K e)) :
  QS P N F L M ⟨dst,.call { callee:=.builtin .len,args:=#[x],argTypes:=#[t] },ty,pos,after,g⟩ (.int .i64 (l.length:Nat)) :=
 bQ fun a w ha hw=>by
  obtain ⟨es,ck,hb,hm⟩:=mapE.in_ (hw.ent _ hm)
  replace hb:w.heap[b]?=some (.map es ck):=hb
  have hl:=hm.len
  simp [execOp,resolve,invoke,builtin,Builtin.len_,ha.eval hx,run_underlying ht,Go.MapKept.run_getObj_map hb,goInt,hl]
theorem oo {α:Type} {b:Nat} {f:α→Value} {l:List (UInt32 × α)} {L1:List Ent} {X:Act→World→Prop} (hm:Del (mapE b f l) L L1) (K:∀ F',F.le F'→MapIn F'.blk b f l→Tr N F' L1 M X):Tr N F L M X:=by
 refine sR hm.perm.symm ?_
 intro a w ha hw
 have hin:=mapE.in_ (hw.ent _ (.head _))
 have hnd:=hw.nodup
 have hw1:HpOK F L1 w:=hw.mem (List.sublist_cons_self _ _)
 obtain ⟨F',h1,h2,h3⟩:=hw1.freeze
 obtain ⟨es,ck,hb,hM⟩:=hin
 refine K F' h1 ⟨es,ck,h3 b _ ?_ hb,hM⟩ a w ha h2
 intro hbm
 have:cx (mapE b f l :: L1)=b :: cx L1:=rfl
 rw [this,List.nodup_cons] at hnd
 exact hnd.1 hbm
end
end Go.HL
