/- Own rules and walks, part 6. -/
import Derived.Test.YtiajjbhcpeadfaaGreatB5
set_option linter.unusedSimpArgs false
set_option linter.unusedVariables false
set_option linter.unusedSectionVars false
set_option maxRecDepth 100000
set_option maxHeartbeats 16000000
attribute [local irreducible] Go.wpList Go.Code.wp Go.HL.QS Go.HL.Tr Go.HL.TrQ Go.wpQuiet
namespace Go.Proofs.YtiajjbhcpeadfaaGreat
open Go Go.HL Go.RowKit
def vB (op:Int):Nat :=
 if op=3∨op=4 then 229 else if op=16∨op=17∨op=18 then 230 else if op=20∨op=21∨op=22 then 231 else if op=23∨op=24∨op=2 then 232 else if op=26∨op=27 then 233 else 234
def q9 (op:Int):Value:=.func (.func (vB op)) #[] #[]
theorem Bd (s:St) (bc bM:Nat) (vi vo eff:Value) (w:World) (hc:CellsIn (hp w) bc (bD s bM vi vo eff)) :
  Cr Tryz.prog 58 #[.pointer (some ⟨bc,0,none⟩)] w (.bool true):=by
 have hc':CellsIn (Bg.of w).blk bc (bD s bM vi vo eff):=hc
 refine enter Tryz.func58 rfl Tryz.ntmps58 rfl (zR8 ?_)
 refine zz0 (zr rfl rfl Tryz.underlying56 rfl) (zz0 (ae rfl) ?_)
 apply cj 6 5 11 (fun hT1 hT1'=>?_) ?_; rotate_right
 ·refine zR3 ?_
  refine zz5 hT1 (lh rfl Tryz.isAgg39) ?_
  refine zz5 hT1 (zr rfl rfl jh rfl) ?_
  exact zE
 refine zR4 ?_
 exact ah Tryz.results58 rfl fun w' hw=>⟨rfl,hw.b0⟩
theorem FI (s:St) (bc bM:Nat) (vi vo eff:Value) (i:Ins) (w:World) (hc:CellsIn (hp w) bc (bD s bM vi vo eff)) (hB:0≤i.b∧i.b<8) :
  Cr Tryz.prog 274 #[.pointer (some ⟨bc,0,none⟩),.agg (am.enc i).toArray] w (.int .u32 (lI s.m i).toNat):=by
 have hc':CellsIn (Bg.of w).blk bc (bD s bM vi vo eff):=hc
 refine enter Tryz.func274 rfl Tryz.ntmps274 rfl (zR2 ?_)
 refine cm rfl rfl (fun b1=>dy ?_)
 refine af rfl (fun h2=>?_) (fun h2=>?_)
 ·refine bE (aL ([cellE b1 (am.enc i) 36]) 9 rfl ak ?_)
  refine zz1 0 rfl (ae rfl) ?_
  refine zz1 1 rfl (aD rfl) ?_
  refine zz1 2 rfl (cH rfl) ?_
  refine zz1 3 rfl (aA rfl) ?_
  refine zz1 4 rfl (aD rfl) ?_
  refine zz1 5 rfl (aD rfl) ?_
  refine zz1 6 rfl (fX rfl rfl aY aj) ?_
  refine kg 7 rfl (by kernel_rfl) (aC (aC cw)) (eh rfl hc' dG (jK hB (by simp))) ?_
  refine zz1 8 rfl (bh rfl) ?_
  refine dK (zR3 ?_)
  exact ah Tryz.results274 rfl fun w' hw=>⟨by unfold lI; rw [if_pos (by assumption)],hw.b0⟩
 refine df ?_
 exact ah Tryz.results274 rfl fun w' hw=>⟨by unfold lI; rw [if_neg (by assumption)],hw.b0⟩
theorem ko (s:St) (bc bM:Nat) (vi vo eff:Value) (i:Ins) (w:World) (ho:OwnAt w [cellE bc (bD s bM vi vo eff) 129]) (hI:InsOK i) :
  Calls Tryz.prog 272 #[.pointer (some ⟨bc,0,none⟩),.agg (am.enc i).toArray] w (fun e w'=>∃ _:Unit,e=.returned (.tuple #[])∧Upd 0 w w' (aT [cellE bc (bD s bM vi vo eff) 129]) [cellE bc (bD (s.to (aV i)) bM vi vo eff) 129]∧True):=by
 refine iW (L:=[cellE bc (bD s bM vi vo eff) 129]) ho rfl (Nat.zero_le _) Tryz.func272 rfl Tryz.ntmps272 rfl (zR2 ?_)
 refine cm rfl rfl (fun b1=>zR5 ?_)
 refine zz0 (ac rfl lX (fun w hw=>nw i w hI)) (zR3 ?_)
 refine nU rfl rfl aj (ow _) ?_
 exact fV (dH Tryz.results272 fun w' hw=>⟨(),rfl,hw.upd (Bg.le.refl _) (by repeat' constructor),trivial⟩)
theorem IX (s:St) (bc bM:Nat) (vi vo eff:Value) (i:Ins) (w:World) (ho:OwnAt w [cellE bc (bD s bM vi vo eff) 129]) (hI:InsOK i) (hA:0≤i.a∧i.a<8) (hB:0≤i.b∧i.b<8) :
  Calls Tryz.prog 234 #[.pointer (some ⟨bc,0,none⟩),.agg (am.enc i).toArray] w (fun e w'=>∃ _:Unit,e=.returned (.int .i64 0)∧Upd 0 w w' (aT [cellE bc (bD s bM vi vo eff) 129]) [cellE bc (bD (rS s i (aV i)) bM vi vo eff) 129]∧True):=by
 refine iW (L:=[cellE bc (bD s bM vi vo eff) 129]) ho rfl (Nat.zero_le _) Tryz.func234 rfl Tryz.ntmps234 rfl (zR2 ?_)
 refine cm rfl rfl (fun b1=>zR4 ?_)
 refine aL ([cellE bc (bD s bM vi vo eff) 129,cellE b1 (am.enc i) 36]) 13 rfl ak ?_
 refine zz1 0 rfl (ae rfl) ?_
 refine zz1 1 rfl (aD rfl) ?_
 refine zz1 2 rfl (cH rfl) ?_
 refine zz1 3 rfl (aA rfl) ?_
 refine zz1 4 rfl (aD rfl) ?_
 refine zz1 5 rfl (aD rfl) ?_
 refine zz1 6 rfl (fX rfl rfl aY aj) ?_
 refine kg 7 rfl (by kernel_rfl) (aC cw) (eZ rfl (by repeat constructor) dG (jK hA (by simp))) ?_
 refine zz1 8 rfl (ae rfl) ?_
 refine zz1 9 rfl (bU rfl) ?_
 refine ao 10 rfl ?_
 refine zz0 (ac rfl Tryz.call274 (fun w hw=>FI s bc bM vi vo eff i w (cellE.cellsIn (hw.ent _ (by repeat constructor)) (Ext.refl _)) hB)) ?_
 refine ay ?_
 refine zz1 11 rfl (bh rfl) ?_
 refine zz1 12 rfl (bh rfl) ?_
 refine dK (zR2 ?_)
 refine aL ([cellE bc (bD s bM vi vo eff) 129,cellE b1 (am.enc i) 36]) 9 rfl ak ?_
 refine zz1 0 rfl (ae rfl) ?_
 refine zz1 1 rfl (ae rfl) ?_
 refine zz1 2 rfl (aA rfl) ?_
 refine zz1 3 rfl (aD rfl) ?_
 refine zz1 4 rfl (aD rfl) ?_
 refine kg 5 rfl (by kernel_rfl) (aC cw) (eQ (vs:=nH.enc s.m.f) rfl (by repeat constructor) k9 de rfl rfl) ?_
 refine ao 6 rfl ?_
 refine bS gl rfl (fun b2=>?_)
 refine ay ?_
 refine zz1 7 rfl (bh rfl) ?_
 refine ao 8 rfl ?_
 refine ad nH rfl rfl de ?_
 refine ay ?_
 refine dK (az ?_)
 refine ga (ι:=UInt32 × Flg × Bool) (fun ⟨r,f,dn⟩=>r=(jC s.m i).1∧f=(jC s.m i).2∧dn=(decide (i.op=1) || s.done)) (fun _=>(Bg.lessB w (aT [cellE bc (bD s bM vi vo eff) 129]) 0)) (fun ⟨r,f,dn⟩=>[cellE b2 (nH.enc f) 122,cellE b1 (am.enc i) 36,cellE bc (bD { s with done:=dn } bM vi vo eff) 129]) (fun ⟨r,f,dn⟩=>[(7,.int .u32 r.toNat)]) ?_ (fun i hi=>?_)
 ·skip
  refine jz ?_
  refine af rfl (fun h3=>?_) (fun h3=>?_)
  ·refine zR4 ?_
   refine nU rfl rfl iu ((rfl:splice (bD s bM vi vo eff) 17 [.bool true]=bD { s with done:=true } bM vi vo eff)) ?_
   refine zR3 ?_
   refine aQ (s.m.reg i.a,s.m.f,true) (.cons (by first|rfl|exact bH rfl (by omega)|exact bH rfl (by rw [hh]; rfl)|exact bH rfl (by simp)|exact cP rfl (by simp)) Front.nil) (zz9 7 rfl) (o:=⟨by unfold jC; repeat (first|rw [if_pos (by omega)]|rw [if_neg (by omega)]),by unfold jC; repeat (first|rw [if_pos (by omega)]|rw [if_neg (by omega)]),by first|(rw [decide_eq_true (by omega)]; rfl)|(rw [decide_eq_false (by omega)]; rfl)⟩)
  refine zR6 ?_
  refine af rfl (fun h4=>?_) (fun h4=>?_)
  ·refine zR6 ?_
   refine aQ (lI s.m i,s.m.f,s.done) (.cons (by first|rfl|exact bH rfl (by omega)|exact bH rfl (by rw [hh]; rfl)|exact bH rfl (by simp)|exact cP rfl (by simp)) Front.nil) (zz9 8 rfl) (o:=⟨by unfold jC; repeat (first|rw [if_pos (by omega)]|rw [if_neg (by omega)]),by unfold jC; repeat (first|rw [if_pos (by omega)]|rw [if_neg (by omega)]),by first|(rw [decide_eq_true (by omega)]; rfl)|(rw [decide_eq_false (by omega)]; rfl)⟩)
  refine zR6 ?_
  refine af rfl (fun h5=>?_) (fun h5=>?_)
  ·refine zR3 ?_
   refine zz0 (ac rfl Tryz.call275 (fun w hw=>MF (s.m.reg i.a) (lI s.m i) w)) (zR4 ?_)
   refine ad nH rfl rfl de ?_
   refine zR3 ?_
   refine aQ (s.m.reg i.a+lI s.m i,PG (s.m.reg i.a) (lI s.m i),s.done) (.cons (by first|rfl|exact bH rfl (by omega)|exact bH rfl (by rw [hh]; rfl)|exact bH rfl (by simp)|exact cP rfl (by simp)) Front.nil) (zz9 15 rfl) (o:=⟨by unfold jC; repeat (first|rw [if_pos (by omega)]|rw [if_neg (by omega)]),by unfold jC; repeat (first|rw [if_pos (by omega)]|rw [if_neg (by omega)]),by first|(rw [decide_eq_true (by omega)]; rfl)|(rw [decide_eq_false (by omega)]; rfl)⟩)
  refine zR6 ?_
  refine af rfl (fun h6=>?_) (fun h6=>?_)
  ·refine zR3 ?_
   refine zz0 (ac rfl Tryz.call276 (fun w hw=>Dl (s.m.reg i.a) (lI s.m i) w)) (zR4 ?_)
   refine ad nH rfl rfl de ?_
   refine zR3 ?_
   refine aQ (s.m.reg i.a - lI s.m i,tn (s.m.reg i.a) (lI s.m i),s.done) (.cons (by first|rfl|exact bH rfl (by omega)|exact bH rfl (by rw [hh]; rfl)|exact bH rfl (by simp)|exact cP rfl (by simp)) Front.nil) (zz9 17 rfl) (o:=⟨by unfold jC; repeat (first|rw [if_pos (by omega)]|rw [if_neg (by omega)]),by unfold jC; repeat (first|rw [if_pos (by omega)]|rw [if_neg (by omega)]),by first|(rw [decide_eq_true (by omega)]; rfl)|(rw [decide_eq_false (by omega)]; rfl)⟩)
  refine zR6 ?_
  refine af rfl (fun h7=>?_) (fun h7=>?_)
  ·refine zR3 ?_
   refine zz0 (ac rfl Tryz.call276 (fun w hw=>Dl (s.m.reg i.a) (lI s.m i) w)) (zR3 ?_)
   refine ad nH rfl rfl de ?_
   refine zR3 ?_
   refine aQ (s.m.reg i.a,tn (s.m.reg i.a) (lI s.m i),s.done) (.cons (by first|rfl|exact bH rfl (by omega)|exact bH rfl (by rw [hh]; rfl)|exact bH rfl (by simp)|exact cP rfl (by simp)) Front.nil) (zz9 18 rfl) (o:=⟨by unfold jC; repeat (first|rw [if_pos (by omega)]|rw [if_neg (by omega)]),by unfold jC; repeat (first|rw [if_pos (by omega)]|rw [if_neg (by omega)]),by first|(rw [decide_eq_true (by omega)]; rfl)|(rw [decide_eq_false (by omega)]; rfl)⟩)
  refine zR6 ?_
  refine af rfl (fun h8=>?_) (fun h8=>?_)
  ·refine aL ([cellE bc (bD s bM vi vo eff) 129,cellE b1 (am.enc i) 36]) 12 rfl ak ?_
   refine zz1 0 rfl (ae rfl) ?_
   refine zz1 1 rfl (aD rfl) ?_
   refine zz1 2 rfl (cH rfl) ?_
   refine zz1 3 rfl (aA rfl) ?_
   refine zz1 4 rfl (aD rfl) ?_
   refine zz1 5 rfl (aD rfl) ?_
   refine zz1 6 rfl (fX rfl rfl aY aj) ?_
   refine kg 7 rfl (by kernel_rfl) (cN (aC cw)) (eZ rfl (by repeat constructor) dG (jK hB (by simp))) ?_
   refine zz1 8 rfl (aD rfl) ?_
   refine zz1 9 rfl (cH rfl) ?_
   refine zz1 10 rfl (gV rfl rfl) ?_
   refine zz1 11 rfl (bh rfl) ?_
   refine dK (zR2 ?_)
   refine aQ (s.m.reg i.b+i.imm,s.m.f,s.done) (.cons (by first|rfl|exact bH rfl (by omega)|exact bH rfl (by rw [hh]; rfl)|exact bH rfl (by simp)|exact cP rfl (by simp)) Front.nil) (zz9 26 rfl) (o:=⟨by unfold jC; repeat (first|rw [if_pos (by omega)]|rw [if_neg (by omega)]),by unfold jC; repeat (first|rw [if_pos (by omega)]|rw [if_neg (by omega)]),by first|(rw [decide_eq_true (by omega)]; rfl)|(rw [decide_eq_false (by omega)]; rfl)⟩)
  refine zR6 ?_
  refine af rfl (fun h9=>?_) (fun h9=>?_)
  ·refine df ?_
   refine zz0 (ac rfl Tryz.call273 (fun w hw=>yJ i.cc s.m.f w)) (zR2 ?_)
   refine af rfl (fun h10=>?_) (fun h10=>?_)
   ·refine zR5 ?_
    have hh:eT i.cc s.m.f=true:=by assumption
    refine aQ (qe (eT i.cc s.m.f),s.m.f,s.done) (.cons (by first|rfl|exact bH rfl (by omega)|exact bH rfl (by rw [hh]; rfl)|exact bH rfl (by simp)|exact cP rfl (by simp)) Front.nil) (zz9 22 rfl) (o:=⟨by unfold jC; repeat (first|rw [if_pos (by omega)]|rw [if_neg (by omega)]),by unfold jC; repeat (first|rw [if_pos (by omega)]|rw [if_neg (by omega)]),by first|(rw [decide_eq_true (by omega)]; rfl)|(rw [decide_eq_false (by omega)]; rfl)⟩)
   refine zR3 ?_
   have hh:eT i.cc s.m.f=false:=by simp_all
   refine aQ (qe (eT i.cc s.m.f),s.m.f,s.done) (.cons (by first|rfl|exact bH rfl (by omega)|exact bH rfl (by rw [hh]; rfl)|exact bH rfl (by simp)|exact cP rfl (by simp)) Front.nil) (zz9 21 rfl) (o:=⟨by unfold jC; repeat (first|rw [if_pos (by omega)]|rw [if_neg (by omega)]),by unfold jC; repeat (first|rw [if_pos (by omega)]|rw [if_neg (by omega)]),by first|(rw [decide_eq_true (by omega)]; rfl)|(rw [decide_eq_false (by omega)]; rfl)⟩)
  refine zR7 ?_
  apply bN
  ·exact rfl
  ·intro hO11
   try simp only [bs] at hO11
   refine zR6 ?_
   apply bN
   ·exact rfl
   ·intro hO12
    try simp only [bs] at hO12
    refine zR6 ?_
    apply bN
    ·exact rfl
    ·intro hO13
     try simp only [bs] at hO13
     refine zR6 ?_
     apply bN
     ·exact rfl
     ·intro hO14
      try simp only [bs] at hO14
      refine zR6 ?_
      apply bN
      ·exact rfl
      ·intro hO15
       try simp only [bs] at hO15
       refine zR6 ?_
       apply bN
       ·exact rfl
       ·intro hO16
        try simp only [bs] at hO16
        refine zR5 ?_
        exact bZ rfl (zz9 2 rfl)
       refine az ?_
       exact bZ rfl (zz9 3 rfl)
      refine az ?_
      exact bZ rfl (zz9 3 rfl)
     refine az ?_
     exact bZ rfl (zz9 3 rfl)
    refine az ?_
    exact bZ rfl (zz9 3 rfl)
   refine az ?_
   exact bZ rfl (zz9 3 rfl)
  refine az ?_
  refine af rfl (fun h17=>?_) (fun h17=>?_)
  ·refine eO (zz0 (aK (vs:=[(0,_),(1,_),(2,_),(3,_),(4,_),(5,_),(6,_)]) rfl rfl (nS _ _ _ _ _ _ _)) ?_)
   refine bS Tryz.zeroValue304 rfl (fun b18=>?_)
   refine zz7 rfl rfl Tryz.sizeOf304 ?_
   refine zR6 ?_
   refine zz0 (dB rfl rfl) ?_
   refine zz0 (fX rfl rfl Tryz.underlying304 bL) ?_
   refine zz0 (eZ (v:=.int .i64 (jC.opX i.op)) rfl (by repeat constructor) iP (NG (by omega) (by simp))) (zR2 ?_)
   refine zz0 (ac rfl Tryz.call277 (fun w hw=>zf (jC.opX i.op) (s.m.reg i.a) (lI s.m i) w)) (zR8 ?_)
   refine zz0 (ac rfl Tryz.call278 (fun w hw=>Gc (wX (jC.opX i.op) (s.m.reg i.a) (lI s.m i)).1 w)) ?_
   refine ad nH rfl rfl de ?_
   refine zR3 ?_
   rw [Ov (by omega)]
   refine aQ ((CE (jC.opX i.op) (s.m.reg i.a) (lI s.m i)),NT (CE (jC.opX i.op) (s.m.reg i.a) (lI s.m i)),s.done) (.cons (by first|rfl|exact bH rfl (by omega)|exact bH rfl (by rw [hh]; rfl)|exact bH rfl (by simp)|exact cP rfl (by simp)) Front.nil) (zz9 35 rfl) (o:=⟨by unfold jC; repeat (first|rw [if_pos (by omega)]|rw [if_neg (by omega)]),by unfold jC; repeat (first|rw [if_pos (by omega)]|rw [if_neg (by omega)]),by first|(rw [decide_eq_true (by omega)]; rfl)|(rw [decide_eq_false (by omega)]; rfl)⟩)
  refine zR3 ?_
  refine aQ (s.m.reg i.a,s.m.f,s.done) (.cons (by first|rfl|exact bH rfl (by omega)|exact bH rfl (by rw [hh]; rfl)|exact bH rfl (by simp)|exact cP rfl (by simp)) Front.nil) (zz9 19 rfl) (o:=⟨by unfold jC; repeat (first|rw [if_pos (by omega)]|rw [if_neg (by omega)]),by unfold jC; repeat (first|rw [if_pos (by omega)]|rw [if_neg (by omega)]),by first|(rw [decide_eq_true (by omega)]; rfl)|(rw [decide_eq_false (by omega)]; rfl)⟩)
 obtain ⟨r,f,dn⟩:=i
 replace hi:r=(jC s.m i).1∧f=(jC s.m i).2∧dn=(decide (i.op=1) || s.done):=hi
 change Tr _ _ [cellE b2 (nH.enc f) 122,cellE b1 (am.enc i) 36,cellE bc (bD { s with done:=dn } bM vi vo eff) 129] ([(7,.int .u32 r.toNat)] ++ _) _
 obtain ⟨hr,hf,hdn⟩:=hi
 refine fC (.of (ι:=Unit) (fun u=>True) (fun _=>(Bg.lessB w (aT [cellE bc (bD s bM vi vo eff) 129]) 0)) (fun u=>[cellE b2 (nH.enc f) 122,cellE b1 (am.enc i) 36,cellE bc (bD (({ s with done:=dn }.setR i.a r).setF f) bM vi vo eff) 129]) (fun u=>[])) ?_ (fun u hi=>?_)
 ·skip
  refine aL ([cellE b2 (nH.enc f) 122,cellE b1 (am.enc i) 36]) 15 rfl ak ?_
  refine zz1 0 rfl (ae rfl) ?_
  refine zz1 1 rfl (aD rfl) ?_
  refine zz1 2 rfl (cH rfl) ?_
  refine zz1 3 rfl (ae rfl) ?_
  refine zz1 4 rfl (ae rfl) ?_
  refine zz1 5 rfl (bU rfl) ?_
  refine zz1 6 rfl (aA rfl) ?_
  refine zz1 7 rfl (aD rfl) ?_
  refine zz1 8 rfl (aD rfl) ?_
  refine zz1 9 rfl (fX rfl rfl aY aj) ?_
  refine ao 10 rfl ?_
  refine xy rfl rfl aj (by repeat constructor) (jJ hA (by simp) _) (by rfl) (by rw [jL]; first|(simp; done)|(simp; omega)) ?_
  refine ay ?_
  refine zz1 11 rfl (aA rfl) ?_
  refine zz1 12 rfl (aD rfl) ?_
  refine zz1 13 rfl (aD rfl) ?_
  refine ao 14 rfl ?_
  refine nU rfl rfl de (Ml f) ?_
  refine ay ?_
  refine dK (az ?_)
  try rw [St.setF_setR]
  refine aQ () Front.nil (zz9 13 rfl) (o:=trivial)
 skip
 refine zR4 ?_
 refine db (fun _:Unit=>.tuple #[]) [cellE bc (bD (({ s with done:=dn }.setR i.a r).setF f) bM vi vo eff) 129] (fun _=>[cellE bc (bD ((({ s with done:=dn }.setR i.a r).setF f).to (aV i)) bM vi vo eff) 129]) (ok:=fun _=>True) (dd:=fun _=>0) rfl iw (by repeat' constructor) (fun w hw=>Nat.le_refl _) (fun w hw=>ko (({ s with done:=dn }.setR i.a r).setF f) bc bM vi vo eff i w (hw.own (by repeat' constructor)) hI) rfl (fun _ _=>zR8 ?_)
 refine ah Tryz.results234 rfl (fun w' hw=>?_)
 have hfin:((({ s with done:=dn }:St).setR i.a r).setF f).to (aV i)=rS s i (aV i):=by subst hr hf hdn; rfl
 rw [hfin] at hw
 exact ⟨(),rfl,hw.upd (Bg.le.refl _) (by repeat' constructor),trivial⟩
theorem IE (s:St) (bc bM bm:Nat) (VR vi vo eff:Value) (rs:List RegV) (l:List SecV) (wl:WL) (i:Ins) (w:World) (ho:OwnAt w [cellE bc (bD s bM vi vo eff) 129,mapE bm u8V wl]) (hM:MemAt (Bg.lessB w (aT [cellE bc (bD s bM vi vo eff) 129,mapE bm u8V wl]) 0).blk bM bm VR rs) (hO:MemOK l rs) (hwl:dZ wl=s.w) (hI:InsOK i) (hA:0≤i.a∧i.a<8) (hB:0≤i.b∧i.b<8) :
  Calls Tryz.prog 229 #[.pointer (some ⟨bc,0,none⟩),.agg (am.enc i).toArray] w (fun e w'=>∃ wl':WL,e=.returned (.int .i64 (jt l s i (aV i)).2)∧Upd 0 w w' (aT [cellE bc (bD s bM vi vo eff) 129,mapE bm u8V wl]) [cellE bc (bD (jt l s i (aV i)).1 bM vi vo eff) 129,mapE bm u8V wl']∧(dZ wl'=(jt l s i (aV i)).1.w∧wl'.length≤wl.length+4)):=by
 refine iW (L:=[cellE bc (bD s bM vi vo eff) 129,mapE bm u8V wl]) ho rfl (Nat.zero_le _) Tryz.func229 rfl Tryz.ntmps229 rfl (zR2 ?_)
 refine cm rfl rfl (fun b1=>zR9 ?_)
 refine zz0 (fX rfl rfl aY aj) (fu ?_)
 refine af rfl (fun h2=>?_) (fun h2=>?_)
 ·refine bE (bE (aL ([cellE bc (bD s bM vi vo eff) 129,cellE b1 (am.enc i) 36]) 16 rfl ak ?_))
  refine zz1 0 rfl (ae rfl) ?_
  refine zz1 1 rfl (aA rfl) ?_
  refine zz1 2 rfl (aD rfl) ?_
  refine zz1 3 rfl (dP rfl) ?_
  refine zz1 4 rfl (ae rfl) ?_
  refine zz1 5 rfl (gR (n:=4) rfl rfl) ?_
  refine zz1 6 rfl (ae rfl) ?_
  refine zz1 7 rfl (aD rfl) ?_
  refine zz1 8 rfl (cH rfl) ?_
  refine zz1 9 rfl (aA rfl) ?_
  refine zz1 10 rfl (aD rfl) ?_
  refine zz1 11 rfl (aD rfl) ?_
  refine zz1 12 rfl (fX rfl rfl aY aj) ?_
  refine kg 13 rfl (by kernel_rfl) (aC (aC (aC cw))) (eZ rfl (by repeat constructor) dG (jK hA (by simp))) ?_
  refine ao 14 rfl ?_
  refine db (fun _:WL=>.int .i64 (dD l s.w (s.m.r7 - 4) 4 (s.m.reg i.a)).2) [mapE bm u8V wl] (fun wl'=>[mapE bm u8V wl']) (ok:=fun wl'=>dZ wl'=(dD l s.w (s.m.r7 - 4) 4 (s.m.reg i.a)).1∧wl'.length≤wl.length+4) (dd:=fun _=>0) rfl qq (by repeat' constructor) (fun w hw=>Nat.le_refl _) (fun w hw=>by have q:=ny bM bm VR rs l (s.m.r7 - 4) 4 (s.m.reg i.a) wl w (hw.own (by repeat' constructor)) (hM.mono (hw.lessB (Lo:=[mapE bm u8V wl]) (by repeat' constructor))) hO; rw [hwl] at q; exact q) rfl (fun wl2 hw2=>?_)
  refine ay ?_
  refine zz1 15 rfl (bh rfl) ?_
  refine dK (zR7 ?_)
  refine af rfl (fun h3=>?_) (fun h3=>?_)
  ·refine zR9 ?_
   refine ah mf rfl (fun w' hw=>?_)
   have hq:jt l s i (aV i)=(s,(dD l s.w (s.m.r7 - 4) 4 (s.m.reg i.a)).2):=by unfold jt; repeat (first|rw [if_pos (by first|assumption|omega)]|rw [if_neg (by first|assumption|omega)])
   exact ⟨wl2,by rw [hq]; try rfl,by rw [hq]; exact hw.upd (Bg.le.refl _) (by repeat' constructor),by rw [hq]; exact ⟨hw2.1.trans (sG (by assumption)),hw2.2⟩⟩
  refine zR5 ?_
  refine zz0 (gR (n:=4) rfl rfl) (zR3 ?_)
  refine zz0 (fX rfl rfl aY aj) ?_
  refine xy rfl rfl aj (by repeat constructor) (jJ (k:=7) (by omega) (by simp) _) (by rfl) (by rw [jL]; first|(simp; done)|(simp; omega)) ?_
  refine zR6 ?_
  refine db (fun _:Unit=>.tuple #[]) [cellE bc (bD (s.setR 7 (s.m.r7 - 4)) bM vi vo eff) 129] (fun _=>[cellE bc (bD ((s.setR 7 (s.m.r7 - 4)).to (aV i)) bM vi vo eff) 129]) (ok:=fun _=>True) (dd:=fun _=>0) rfl iw (by repeat' constructor) (fun w hw=>Nat.le_refl _) (fun w hw=>ko (s.setR 7 (s.m.r7 - 4)) bc bM vi vo eff i w (hw.own (by repeat' constructor)) hI) rfl (fun _ _=>zR8 ?_)
  refine ah mf rfl (fun w' hw=>?_)
  have hq:jt l s i (aV i)=({ s with w:=(dD l s.w (s.m.r7 - 4) 4 (s.m.reg i.a)).1,m:=(s.m.set 7 (s.m.r7 - 4)).to (aV i) },0):=by unfold jt; repeat (first|rw [if_pos (by first|assumption|omega)]|rw [if_neg (by first|assumption|omega)])
  exact ⟨wl2,by rw [hq]; try rfl,by rw [hq]; exact hw.upd (Bg.le.refl _) (by repeat' constructor),by rw [hq]; exact ⟨hw2.1,hw2.2⟩⟩
 refine zR7 ?_
 refine zz0 (ac rfl sZ (fun w hw=>(by have q:=sK bM bm VR rs l s.m.r7 4 wl w (hM.mono hw.bg) hO (mapE.in_ (hw.ent _ (by repeat constructor))); rw [hwl] at q; exact q))) (lN ?_)
 refine af rfl (fun h4=>?_) (fun h4=>?_)
 ·refine zR9 ?_
  refine ah mf rfl (fun w' hw=>?_)
  have hq:jt l s i (aV i)=(s,(dV l s.w s.m.r7 4).2):=by unfold jt; repeat (first|rw [if_pos (by first|assumption|omega)]|rw [if_neg (by first|assumption|omega)])
  exact ⟨wl,by rw [hq]; try rfl,by rw [hq]; exact hw.upd (Bg.le.refl _) (by repeat' constructor),by rw [hq]; exact ⟨hwl,by omega⟩⟩
 refine zR6 ?_
 refine zz0 (gV (n:=4) rfl rfl) (zR3 ?_)
 refine zz0 (fX rfl rfl aY aj) ?_
 refine xy rfl rfl aj (by repeat constructor) (jJ (k:=7) (by omega) (by simp) _) (by rfl) (by rw [jL]; first|(simp; done)|(simp; omega)) ?_
 refine lD (aL ([cellE b1 (am.enc i) 36]) 9 rfl ak ?_)
 refine zz1 0 rfl (ae rfl) ?_
 refine zz1 1 rfl (aD rfl) ?_
 refine zz1 2 rfl (cH rfl) ?_
 refine zz1 3 rfl (ae rfl) ?_
 refine zz1 4 rfl (aA rfl) ?_
 refine zz1 5 rfl (aD rfl) ?_
 refine zz1 6 rfl (aD rfl) ?_
 refine zz1 7 rfl (fX rfl rfl aY aj) ?_
 refine ao 8 rfl ?_
 refine xy rfl rfl aj (by repeat constructor) (jJ hA (by simp) _) (by rfl) (by rw [jL]; first|(simp; done)|(simp; omega)) ?_
 refine ay ?_
 refine dK (zR5 ?_)
 refine db (fun _:Unit=>.tuple #[]) [cellE bc (bD ((s.setR 7 (s.m.r7+4)).setR i.a (dV l s.w s.m.r7 4).1) bM vi vo eff) 129] (fun _=>[cellE bc (bD (((s.setR 7 (s.m.r7+4)).setR i.a (dV l s.w s.m.r7 4).1).to (aV i)) bM vi vo eff) 129]) (ok:=fun _=>True) (dd:=fun _=>0) rfl iw (by repeat' constructor) (fun w hw=>Nat.le_refl _) (fun w hw=>ko ((s.setR 7 (s.m.r7+4)).setR i.a (dV l s.w s.m.r7 4).1) bc bM vi vo eff i w (hw.own (by repeat' constructor)) hI) rfl (fun _ _=>zR8 ?_)
 refine ah mf rfl (fun w' hw=>?_)
 have hq:jt l s i (aV i)=({ s with m:=((s.m.set 7 (s.m.r7+4)).set i.a (dV l s.w s.m.r7 4).1).to (aV i) },0):=by unfold jt; repeat (first|rw [if_pos (by first|assumption|omega)]|rw [if_neg (by first|assumption|omega)])
 exact ⟨wl,by rw [hq]; try rfl,by rw [hq]; exact hw.upd (Bg.le.refl _) (by repeat' constructor),by rw [hq]; exact ⟨hwl,by omega⟩⟩
theorem GP (s:St) (bc bM bm:Nat) (VR vi vo eff:Value) (rs:List RegV) (l:List SecV) (wl:WL) (i:Ins) (w:World) (ho:OwnAt w [cellE bc (bD s bM vi vo eff) 129,mapE bm u8V wl]) (hM:MemAt (Bg.lessB w (aT [cellE bc (bD s bM vi vo eff) 129,mapE bm u8V wl]) 0).blk bM bm VR rs) (hO:MemOK l rs) (hwl:dZ wl=s.w) (hI:InsOK i) (hA:0≤i.a∧i.a<8) (hB:0≤i.b∧i.b<8) :
  Calls Tryz.prog 230 #[.pointer (some ⟨bc,0,none⟩),.agg (am.enc i).toArray] w (fun e w'=>∃ wl':WL,e=.returned (.int .i64 (fm l s i (aV i)).2)∧Upd 0 w w' (aT [cellE bc (bD s bM vi vo eff) 129,mapE bm u8V wl]) [cellE bc (bD (fm l s i (aV i)).1 bM vi vo eff) 129,mapE bm u8V wl']∧(dZ wl'=(fm l s i (aV i)).1.w∧wl'.length≤wl.length+4)):=by
 refine iW (L:=[cellE bc (bD s bM vi vo eff) 129,mapE bm u8V wl]) ho rfl (Nat.zero_le _) Tryz.func230 rfl Tryz.ntmps230 rfl (zR2 ?_)
 refine cm rfl rfl (fun b1=>zR4 ?_)
 refine aL ([cellE bc (bD s bM vi vo eff) 129,cellE b1 (am.enc i) 36]) 12 rfl ak ?_
 refine zz1 0 rfl (ae rfl) ?_
 refine zz1 1 rfl (aD rfl) ?_
 refine zz1 2 rfl (cH rfl) ?_
 refine zz1 3 rfl (aA rfl) ?_
 refine zz1 4 rfl (aD rfl) ?_
 refine zz1 5 rfl (aD rfl) ?_
 refine zz1 6 rfl (fX rfl rfl aY aj) ?_
 refine kg 7 rfl (by kernel_rfl) (aC cw) (eZ rfl (by repeat constructor) dG (jK hB (by simp))) ?_
 refine zz1 8 rfl (aD rfl) ?_
 refine zz1 9 rfl (cH rfl) ?_
 refine zz1 10 rfl (gV rfl rfl) ?_
 refine zz1 11 rfl (bh rfl) ?_
 refine dK (zR9 ?_)
 refine af rfl (fun h2=>?_) (fun h2=>?_)
 ·refine bE (bE (aL ([cellE bc (bD s bM vi vo eff) 129,cellE b1 (am.enc i) 36]) 17 rfl ak ?_))
  refine zz1 0 rfl (ae rfl) ?_
  refine zz1 1 rfl (aA rfl) ?_
  refine zz1 2 rfl (aD rfl) ?_
  refine zz1 3 rfl (dP rfl) ?_
  refine zz1 4 rfl (ae rfl) ?_
  refine zz1 5 rfl (aD rfl) ?_
  refine zz1 6 rfl (cH rfl) ?_
  refine zz1 7 rfl (ae rfl) ?_
  refine zz1 8 rfl (aD rfl) ?_
  refine zz1 9 rfl (cH rfl) ?_
  refine zz1 10 rfl (aA rfl) ?_
  refine zz1 11 rfl (aD rfl) ?_
  refine zz1 12 rfl (aD rfl) ?_
  refine zz1 13 rfl (fX rfl rfl aY aj) ?_
  refine kg 14 rfl (by kernel_rfl) (aC (aC (aC cw))) (eZ rfl (by repeat constructor) dG (jK hA (by simp))) ?_
  refine ao 15 rfl ?_
  refine db (fun _:WL=>.int .i64 (dD l s.w (s.m.reg i.b+i.imm) i.width (s.m.reg i.a)).2) [mapE bm u8V wl] (fun wl'=>[mapE bm u8V wl']) (ok:=fun wl'=>dZ wl'=(dD l s.w (s.m.reg i.b+i.imm) i.width (s.m.reg i.a)).1∧wl'.length≤wl.length+4) (dd:=fun _=>0) rfl qq (by repeat' constructor) (fun w hw=>Nat.le_refl _) (fun w hw=>by have q:=ny bM bm VR rs l (s.m.reg i.b+i.imm) i.width (s.m.reg i.a) wl w (hw.own (by repeat' constructor)) (hM.mono (hw.lessB (Lo:=[mapE bm u8V wl]) (by repeat' constructor))) hO; rw [hwl] at q; exact q) rfl (fun wl2 hw2=>?_)
  refine ay ?_
  refine zz1 16 rfl (bh rfl) ?_
  refine dK (zR7 ?_)
  refine af rfl (fun h3=>?_) (fun h3=>?_)
  ·refine zR9 ?_
   refine ah kA rfl (fun w' hw=>?_)
   have hq:fm l s i (aV i)=(s,(dD l s.w (s.m.reg i.b+i.imm) i.width (s.m.reg i.a)).2):=by unfold fm; repeat (first|rw [if_pos (by first|assumption|omega)]|rw [if_neg (by first|assumption|omega)])
   exact ⟨wl2,by rw [hq]; try rfl,by rw [hq]; exact hw.upd (Bg.le.refl _) (by repeat' constructor),by rw [hq]; exact ⟨hw2.1.trans (sG (by assumption)),hw2.2⟩⟩
  refine zR6 ?_
  refine db (fun _:Unit=>.tuple #[]) [cellE bc (bD (s) bM vi vo eff) 129] (fun _=>[cellE bc (bD ((s).to (aV i)) bM vi vo eff) 129]) (ok:=fun _=>True) (dd:=fun _=>0) rfl iw (by repeat' constructor) (fun w hw=>Nat.le_refl _) (fun w hw=>ko (s) bc bM vi vo eff i w (hw.own (by repeat' constructor)) hI) rfl (fun _ _=>zR9 ?_)
  refine ah kA rfl (fun w' hw=>?_)
  have hq:fm l s i (aV i)=({ s with w:=(dD l s.w (s.m.reg i.b+i.imm) i.width (s.m.reg i.a)).1,m:=s.m.to (aV i) },0):=by unfold fm; repeat (first|rw [if_pos (by first|assumption|omega)]|rw [if_neg (by first|assumption|omega)])
  exact ⟨wl2,by rw [hq]; try rfl,by rw [hq]; exact hw.upd (Bg.le.refl _) (by repeat' constructor),by rw [hq]; exact ⟨hw2.1,hw2.2⟩⟩
 refine zR3 ?_
 refine aL ([cellE bc (bD s bM vi vo eff) 129,cellE b1 (am.enc i) 36]) 13 rfl ak ?_
 refine zz1 0 rfl (ae rfl) ?_
 refine zz1 1 rfl (aA rfl) ?_
 refine zz1 2 rfl (aD rfl) ?_
 refine zz1 3 rfl (dP rfl) ?_
 refine zz1 4 rfl (ae rfl) ?_
 refine zz1 5 rfl (aD rfl) ?_
 refine zz1 6 rfl (cH rfl) ?_
 refine ao 7 rfl ?_
 refine zz0 (ac rfl sZ (fun w hw=>(by have q:=sK bM bm VR rs l (s.m.reg i.b+i.imm) i.width wl w (hM.mono hw.bg) hO (mapE.in_ (hw.ent _ (by repeat constructor))); rw [hwl] at q; exact q))) ?_
 refine ay ?_
 refine zz1 8 rfl (ae rfl) ?_
 refine zz1 9 rfl (eo rfl rfl) ?_
 refine zz1 10 rfl (eo rfl rfl) ?_
 refine zz1 11 rfl (bh rfl) ?_
 refine zz1 12 rfl (bh rfl) ?_
 refine dK (zR8 ?_)
 refine af rfl (fun h4=>?_) (fun h4=>?_)
 ·refine zR8 ?_
  refine ah kA rfl (fun w' hw=>?_)
  have hq:fm l s i (aV i)=(s,(dV l s.w (s.m.reg i.b+i.imm) i.width).2):=by unfold fm; repeat (first|rw [if_pos (by first|assumption|omega)]|rw [if_neg (by first|assumption|omega)])
  exact ⟨wl,by rw [hq]; try rfl,by rw [hq]; exact hw.upd (Bg.le.refl _) (by repeat' constructor),by rw [hq]; exact ⟨hwl,by omega⟩⟩
 refine df ?_
 refine af rfl (fun h5=>?_) (fun h5=>?_)
 ·refine zR4 ?_
  refine zz0 (ac rfl Tryz.call192 (fun w hw=>tC (dV l s.w (s.m.reg i.b+i.imm) i.width).1 i.width w)) (zR4 ?_)
  refine aL ([cellE b1 (am.enc i) 36]) 9 rfl ak ?_
  refine zz1 0 rfl (ae rfl) ?_
  refine zz1 1 rfl (aD rfl) ?_
  refine zz1 2 rfl (cH rfl) ?_
  refine zz1 3 rfl (ae rfl) ?_
  refine zz1 4 rfl (aA rfl) ?_
  refine zz1 5 rfl (aD rfl) ?_
  refine zz1 6 rfl (aD rfl) ?_
  refine zz1 7 rfl (fX rfl rfl aY aj) ?_
  refine ao 8 rfl ?_
  refine xy rfl rfl aj (by repeat constructor) (jJ hA (by simp) _) (by rfl) (by rw [jL]; first|(simp; done)|(simp; omega)) ?_
  refine ay ?_
  refine dK (zR5 ?_)
  refine db (fun _:Unit=>.tuple #[]) [cellE bc (bD (s.setR i.a (Aa (dV l s.w (s.m.reg i.b+i.imm) i.width).1 i.width)) bM vi vo eff) 129] (fun _=>[cellE bc (bD ((s.setR i.a (Aa (dV l s.w (s.m.reg i.b+i.imm) i.width).1 i.width)).to (aV i)) bM vi vo eff) 129]) (ok:=fun _=>True) (dd:=fun _=>0) rfl iw (by repeat' constructor) (fun w hw=>Nat.le_refl _) (fun w hw=>ko (s.setR i.a (Aa (dV l s.w (s.m.reg i.b+i.imm) i.width).1 i.width)) bc bM vi vo eff i w (hw.own (by repeat' constructor)) hI) rfl (fun _ _=>zR8 ?_)
  refine ah kA rfl (fun w' hw=>?_)
  have hq:fm l s i (aV i)=({ s with m:=(s.m.set i.a (Aa (dV l s.w (s.m.reg i.b+i.imm) i.width).1 i.width)).to (aV i) },0):=by unfold fm; repeat (first|rw [if_pos (by first|assumption|omega)]|rw [if_neg (by first|assumption|omega)])
  exact ⟨wl,by rw [hq]; try rfl,by rw [hq]; exact hw.upd (Bg.le.refl _) (by repeat' constructor),by rw [hq]; exact ⟨hwl,by omega⟩⟩
 refine mG (bE (aL ([cellE b1 (am.enc i) 36]) 9 rfl ak ?_))
 refine zz1 0 rfl (ae rfl) ?_
 refine zz1 1 rfl (aD rfl) ?_
 refine zz1 2 rfl (cH rfl) ?_
 refine zz1 3 rfl (ae rfl) ?_
 refine zz1 4 rfl (aA rfl) ?_
 refine zz1 5 rfl (aD rfl) ?_
 refine zz1 6 rfl (aD rfl) ?_
 refine zz1 7 rfl (fX rfl rfl aY aj) ?_
 refine ao 8 rfl ?_
 refine xy rfl rfl aj (by repeat constructor) (jJ hA (by simp) _) (by rfl) (by rw [jL]; first|(simp; done)|(simp; omega)) ?_
 refine ay ?_
 refine dK (zR5 ?_)
 refine db (fun _:Unit=>.tuple #[]) [cellE bc (bD (s.setR i.a (dV l s.w (s.m.reg i.b+i.imm) i.width).1) bM vi vo eff) 129] (fun _=>[cellE bc (bD ((s.setR i.a (dV l s.w (s.m.reg i.b+i.imm) i.width).1).to (aV i)) bM vi vo eff) 129]) (ok:=fun _=>True) (dd:=fun _=>0) rfl iw (by repeat' constructor) (fun w hw=>Nat.le_refl _) (fun w hw=>ko (s.setR i.a (dV l s.w (s.m.reg i.b+i.imm) i.width).1) bc bM vi vo eff i w (hw.own (by repeat' constructor)) hI) rfl (fun _ _=>zR8 ?_)
 refine ah kA rfl (fun w' hw=>?_)
 have hq:fm l s i (aV i)=({ s with m:=(s.m.set i.a (dV l s.w (s.m.reg i.b+i.imm) i.width).1).to (aV i) },0):=by unfold fm; repeat (first|rw [if_pos (by first|assumption|omega)]|rw [if_neg (by first|assumption|omega)])
 exact ⟨wl,by rw [hq]; try rfl,by rw [hq]; exact hw.upd (Bg.le.refl _) (by repeat' constructor),by rw [hq]; exact ⟨hwl,by omega⟩⟩
theorem Lp (s:St) (bc bM bm:Nat) (VR vi vo eff:Value) (rs:List RegV) (l:List SecV) (wl:WL) (i:Ins) (w:World) (ho:OwnAt w [cellE bc (bD s bM vi vo eff) 129,mapE bm u8V wl]) (hM:MemAt (Bg.lessB w (aT [cellE bc (bD s bM vi vo eff) 129,mapE bm u8V wl]) 0).blk bM bm VR rs) (hO:MemOK l rs) (hwl:dZ wl=s.w) (hI:InsOK i) (hA:0≤i.a∧i.a<8) (hB:0≤i.b∧i.b<8) :
  Calls Tryz.prog 231 #[.pointer (some ⟨bc,0,none⟩),.agg (am.enc i).toArray] w (fun e w'=>∃ wl':WL,e=.returned (.int .i64 (kd l s i (aV i)).2)∧Upd 0 w w' (aT [cellE bc (bD s bM vi vo eff) 129,mapE bm u8V wl]) [cellE bc (bD (kd l s i (aV i)).1 bM vi vo eff) 129,mapE bm u8V wl']∧(dZ wl'=(kd l s i (aV i)).1.w∧wl'.length≤wl.length+4)):=by
 refine iW (L:=[cellE bc (bD s bM vi vo eff) 129,mapE bm u8V wl]) ho rfl (Nat.zero_le _) Tryz.func231 rfl Tryz.ntmps231 rfl (zR2 ?_)
 refine cm rfl rfl (fun b1=>zR6 ?_)
 refine zz0 (ac rfl lX (fun w hw=>nw i w hI)) (jz ?_)
 refine af rfl (fun h2=>?_) (fun h2=>?_)
 ·refine aL ([cellE bc (bD s bM vi vo eff) 129,cellE b1 (am.enc i) 36]) 9 rfl ak ?_
  refine zz1 0 rfl (ae rfl) ?_
  refine zz1 1 rfl (aD rfl) ?_
  refine zz1 2 rfl (cH rfl) ?_
  refine zz1 3 rfl (aA rfl) ?_
  refine zz1 4 rfl (aD rfl) ?_
  refine zz1 5 rfl (aD rfl) ?_
  refine zz1 6 rfl (fX rfl rfl aY aj) ?_
  refine kg 7 rfl (by kernel_rfl) (cN (aC cw)) (eZ rfl (by repeat constructor) dG (jK hA (by simp))) ?_
  refine zz1 8 rfl (bh rfl) ?_
  refine dK (zR9 ?_)
  refine nU rfl rfl aj (ow _) ?_
  refine zR8 ?_
  refine ah ky rfl (fun w' hw=>?_)
  have hq:kd l s i (aV i)=({ s with m:=s.m.to (s.m.reg i.a) },0):=by unfold kd; repeat (first|rw [if_pos (by first|assumption|omega)]|rw [if_neg (by first|assumption|omega)])
  exact ⟨wl,by rw [hq]; try rfl,by rw [hq]; exact hw.upd (Bg.le.refl _) (by repeat' constructor),by rw [hq]; exact ⟨hwl,by omega⟩⟩
 refine zR8 ?_
 refine af rfl (fun h3=>?_) (fun h3=>?_)
 ·refine bE (aL ([cellE bc (bD s bM vi vo eff) 129,cellE b1 (am.enc i) 36]) 22 rfl ak ?_)
  refine zz1 0 rfl (ae rfl) ?_
  refine zz1 1 rfl (aA rfl) ?_
  refine zz1 2 rfl (aD rfl) ?_
  refine zz1 3 rfl (dP rfl) ?_
  refine zz1 4 rfl (aD rfl) ?_
  refine zz1 5 rfl (cH rfl) ?_
  refine zz1 6 rfl (ae rfl) ?_
  refine zz1 7 rfl (aD rfl) ?_
  refine zz1 8 rfl (cH rfl) ?_
  refine zz1 9 rfl (aA rfl) ?_
  refine zz1 10 rfl (aD rfl) ?_
  refine zz1 11 rfl (aD rfl) ?_
  refine zz1 12 rfl (fX rfl rfl aY aj) ?_
  refine kg 13 rfl (by kernel_rfl) (aC (cN (aC cw))) (eZ rfl (by repeat constructor) dG (jK hA (by simp))) ?_
  refine zz1 14 rfl (zw (m:=4) rfl rfl) ?_
  refine zz1 15 rfl (gV rfl rfl) ?_
  refine ao 16 rfl ?_
  refine zz0 (ac rfl sZ (fun w hw=>(by have q:=sK bM bm VR rs l (i.imm+4 * s.m.reg i.a) 4 wl w (hM.mono hw.bg) hO (mapE.in_ (hw.ent _ (by repeat constructor))); rw [hwl] at q; exact q))) ?_
  refine ay ?_
  refine zz1 17 rfl (ae rfl) ?_
  refine zz1 18 rfl (eo rfl rfl) ?_
  refine zz1 19 rfl (eo rfl rfl) ?_
  refine zz1 20 rfl (bh rfl) ?_
  refine zz1 21 rfl (bh rfl) ?_
  refine dK (zR8 ?_)
  refine af rfl (fun h4=>?_) (fun h4=>?_)
  ·refine df ?_
   refine ah ky rfl (fun w' hw=>?_)
   have hq:kd l s i (aV i)=(s,(dV l s.w (i.imm+4 * s.m.reg i.a) 4).2):=by unfold kd; repeat (first|rw [if_pos (by first|assumption|omega)]|rw [if_neg (by first|assumption|omega)])
   exact ⟨wl,by rw [hq]; try rfl,by rw [hq]; exact hw.upd (Bg.le.refl _) (by repeat' constructor),by rw [hq]; exact ⟨hwl,by omega⟩⟩
  refine qE ?_
  refine nU rfl rfl aj (ow _) ?_
  refine zR8 ?_
  refine ah ky rfl (fun w' hw=>?_)
  have hq:kd l s i (aV i)=({ s with m:=s.m.to (dV l s.w (i.imm+4 * s.m.reg i.a) 4).1 },0):=by unfold kd; repeat (first|rw [if_pos (by first|assumption|omega)]|rw [if_neg (by first|assumption|omega)])
  exact ⟨wl,by rw [hq]; try rfl,by rw [hq]; exact hw.upd (Bg.le.refl _) (by repeat' constructor),by rw [hq]; exact ⟨hwl,by omega⟩⟩
 refine bE (aL ([cellE bc (bD s bM vi vo eff) 129,cellE b1 (am.enc i) 36]) 9 rfl ak ?_)
 refine zz1 0 rfl (aD rfl) ?_
 refine zz1 1 rfl (cH rfl) ?_
 refine zz1 2 rfl (ae rfl) ?_
 refine zz1 3 rfl (aA rfl) ?_
 refine zz1 4 rfl (aD rfl) ?_
 refine zz1 5 rfl (aD rfl) ?_
 refine kg 6 rfl (by kernel_rfl) (aC (cN (aC cw))) (eQ (vs:=nH.enc s.m.f) rfl (by repeat constructor) k9 de rfl rfl) ?_
 refine ao 7 rfl ?_
 refine zz0 (ac rfl Tryz.call273 (fun w hw=>yJ i.cc s.m.f w)) ?_
 refine ay ?_
 refine zz1 8 rfl (bh rfl) ?_
 refine dK (az ?_)
 refine af rfl (fun h5=>?_) (fun h5=>?_)
 ·refine lN ?_
  refine nU rfl rfl aj (ow _) ?_
  refine zR8 ?_
  refine ah ky rfl (fun w' hw=>?_)
  have hq:kd l s i (aV i)=({ s with m:=s.m.to i.imm },0):=by unfold kd; repeat (first|rw [if_pos (by first|assumption|omega)]|rw [if_neg (by first|assumption|omega)])
  exact ⟨wl,by rw [hq]; try rfl,by rw [hq]; exact hw.upd (Bg.le.refl _) (by repeat' constructor),by rw [hq]; exact ⟨hwl,by omega⟩⟩
 refine df ?_
 refine nU rfl rfl aj (ow _) ?_
 refine zR8 ?_
 refine ah ky rfl (fun w' hw=>?_)
 have hh:¬ eT i.cc s.m.f=true:=by simp_all
 have hq:kd l s i (aV i)=({ s with m:=s.m.to (aV i) },0):=by unfold kd; repeat (first|rw [if_pos (by first|assumption|omega)]|rw [if_neg (by first|assumption|omega)])
 exact ⟨wl,by rw [hq]; try rfl,by rw [hq]; exact hw.upd (Bg.le.refl _) (by repeat' constructor),by rw [hq]; exact ⟨hwl,by omega⟩⟩
theorem Mz (s:St) (bc bM bm:Nat) (VR vi vo eff:Value) (rs:List RegV) (l:List SecV) (wl:WL) (i:Ins) (w:World) (ho:OwnAt w [cellE bc (bD s bM vi vo eff) 129,mapE bm u8V wl]) (hM:MemAt (Bg.lessB w (aT [cellE bc (bD s bM vi vo eff) 129,mapE bm u8V wl]) 0).blk bM bm VR rs) (hO:MemOK l rs) (hwl:dZ wl=s.w) (hI:InsOK i) (hA:0≤i.a∧i.a<8) (hB:0≤i.b∧i.b<8) :
  Calls Tryz.prog 232 #[.pointer (some ⟨bc,0,none⟩),.agg (am.enc i).toArray] w (fun e w'=>∃ wl':WL,e=.returned (.int .i64 (kf l s i (aV i)).2)∧Upd 0 w w' (aT [cellE bc (bD s bM vi vo eff) 129,mapE bm u8V wl]) [cellE bc (bD (kf l s i (aV i)).1 bM vi vo eff) 129,mapE bm u8V wl']∧(dZ wl'=(kf l s i (aV i)).1.w∧wl'.length≤wl.length+4)):=by
 refine iW (L:=[cellE bc (bD s bM vi vo eff) 129,mapE bm u8V wl]) ho rfl (Nat.zero_le _) Tryz.func232 rfl Tryz.ntmps232 rfl (zR2 ?_)
 refine cm rfl rfl (fun b1=>zR9 ?_)
 refine zz0 (fX rfl rfl aY aj) (fu ?_)
 refine af rfl (fun h2=>?_) (fun h2=>?_)
 ·refine zR7 ?_
  refine zz0 (ac rfl sZ (fun w hw=>(by have q:=sK bM bm VR rs l s.m.r7 4 wl w (hM.mono hw.bg) hO (mapE.in_ (hw.ent _ (by repeat constructor))); rw [hwl] at q; exact q))) (lN ?_)
  refine af rfl (fun h3=>?_) (fun h3=>?_)
  ·refine zR9 ?_
   refine ah jn rfl (fun w' hw=>?_)
   have hq:kf l s i (aV i)=(s,(dV l s.w s.m.r7 4).2):=by unfold kf; repeat (first|rw [if_pos (by first|assumption|omega)]|rw [if_neg (by first|assumption|omega)])
   exact ⟨wl,by rw [hq]; try rfl,by rw [hq]; exact hw.upd (Bg.le.refl _) (by repeat' constructor),by rw [hq]; exact ⟨hwl,by omega⟩⟩
  refine zR6 ?_
  refine zz0 (gV (n:=4) rfl rfl) (zR3 ?_)
  refine zz0 (fX rfl rfl aY aj) ?_
  refine xy rfl rfl aj (by repeat constructor) (jJ (k:=7) (by omega) (by simp) _) (by rfl) (by rw [jL]; first|(simp; done)|(simp; omega)) ?_
  refine zR9 ?_
  refine nU rfl rfl aj (ow _) ?_
  refine zR6 ?_
  refine zz0 (fb (n:=4294967295) rfl rfl) (zR2 ?_)
  refine nU rfl rfl iu (Jy _) ?_
  refine zR9 ?_
  refine ah jn rfl (fun w' hw=>?_)
  have hq:kf l s i (aV i)=({ s with m:=(s.m.set 7 (s.m.r7+4)).to (dV l s.w s.m.r7 4).1,done:=decide ((dV l s.w s.m.r7 4).1=4294967295) },0):=by unfold kf; repeat (first|rw [if_pos (by first|assumption|omega)]|rw [if_neg (by first|assumption|omega)])
  exact ⟨wl,by rw [hq]; try rfl,by rw [hq]; exact hw.upd (Bg.le.refl _) (by repeat' constructor),by rw [hq]; exact ⟨hwl,by omega⟩⟩
 refine xz ?_
 refine af rfl (fun h4=>?_) (fun h4=>?_)
 ·refine aL ([cellE bc (bD s bM vi vo eff) 129,cellE b1 (am.enc i) 36]) 9 rfl ak ?_
  refine zz1 0 rfl (ae rfl) ?_
  refine zz1 1 rfl (aD rfl) ?_
  refine zz1 2 rfl (cH rfl) ?_
  refine zz1 3 rfl (aA rfl) ?_
  refine zz1 4 rfl (aD rfl) ?_
  refine zz1 5 rfl (aD rfl) ?_
  refine zz1 6 rfl (fX rfl rfl aY aj) ?_
  refine kg 7 rfl (by kernel_rfl) (aC cw) (eZ rfl (by repeat constructor) dG (jK hA (by simp))) ?_
  refine zz1 8 rfl (bh rfl) ?_
  refine dK (zR3 ?_)
  refine aL ([cellE bc (bD s bM vi vo eff) 129,cellE b1 (am.enc i) 36]) 10 rfl ak ?_
  refine zz1 0 rfl (ae rfl) ?_
  refine zz1 1 rfl (aA rfl) ?_
  refine zz1 2 rfl (aD rfl) ?_
  refine zz1 3 rfl (dP rfl) ?_
  refine zz1 4 rfl (ae rfl) ?_
  refine zz1 5 rfl (gR (n:=4) rfl rfl) ?_
  refine zz1 6 rfl (bU rfl) ?_
  refine ao 7 rfl ?_
  refine zz0 (ac rfl lX (fun w hw=>nw i w hI)) ?_
  refine ay ?_
  refine ao 8 rfl ?_
  refine db (fun _:WL=>.int .i64 (dD l s.w (s.m.r7 - 4) 4 (aV i)).2) [mapE bm u8V wl] (fun wl'=>[mapE bm u8V wl']) (ok:=fun wl'=>dZ wl'=(dD l s.w (s.m.r7 - 4) 4 (aV i)).1∧wl'.length≤wl.length+4) (dd:=fun _=>0) rfl qq (by repeat' constructor) (fun w hw=>Nat.le_refl _) (fun w hw=>by have q:=ny bM bm VR rs l (s.m.r7 - 4) 4 (aV i) wl w (hw.own (by repeat' constructor)) (hM.mono (hw.lessB (Lo:=[mapE bm u8V wl]) (by repeat' constructor))) hO; rw [hwl] at q; exact q) rfl (fun wl2 hw2=>?_)
  refine ay ?_
  refine zz1 9 rfl (bh rfl) ?_
  refine dK (zR7 ?_)
  refine af rfl (fun h5=>?_) (fun h5=>?_)
  ·refine zR8 ?_
   refine ah jn rfl (fun w' hw=>?_)
   have hq:kf l s i (aV i)=(s,(dD l s.w (s.m.r7 - 4) 4 (aV i)).2):=by unfold kf; repeat (first|rw [if_pos (by first|assumption|omega)]|rw [if_neg (by first|assumption|omega)])
   exact ⟨wl2,by rw [hq]; try rfl,by rw [hq]; exact hw.upd (Bg.le.refl _) (by repeat' constructor),by rw [hq]; exact ⟨hw2.1.trans (sG (by assumption)),hw2.2⟩⟩
  refine zR6 ?_
  refine zz0 (gR (n:=4) rfl rfl) (zR3 ?_)
  refine zz0 (fX rfl rfl aY aj) ?_
  refine xy rfl rfl aj (by repeat constructor) (jJ (k:=7) (by omega) (by simp) _) (by rfl) (by rw [jL]; first|(simp; done)|(simp; omega)) ?_
  refine zR9 ?_
  refine nU rfl rfl aj (ow _) ?_
  refine zR8 ?_
  refine ah jn rfl (fun w' hw=>?_)
  have hq:kf l s i (aV i)=({ s with w:=(dD l s.w (s.m.r7 - 4) 4 (aV i)).1,m:=(s.m.set 7 (s.m.r7 - 4)).to (s.m.reg i.a) },0):=by unfold kf; repeat (first|rw [if_pos (by first|assumption|omega)]|rw [if_neg (by first|assumption|omega)])
  exact ⟨wl2,by rw [hq]; try rfl,by rw [hq]; exact hw.upd (Bg.le.refl _) (by repeat' constructor),by rw [hq]; exact ⟨hw2.1,hw2.2⟩⟩
 refine zR4 ?_
 refine aL ([cellE bc (bD s bM vi vo eff) 129,cellE b1 (am.enc i) 36]) 10 rfl ak ?_
 refine zz1 0 rfl (ae rfl) ?_
 refine zz1 1 rfl (aA rfl) ?_
 refine zz1 2 rfl (aD rfl) ?_
 refine zz1 3 rfl (dP rfl) ?_
 refine zz1 4 rfl (ae rfl) ?_
 refine zz1 5 rfl (gR (n:=4) rfl rfl) ?_
 refine zz1 6 rfl (bU rfl) ?_
 refine ao 7 rfl ?_
 refine zz0 (ac rfl lX (fun w hw=>nw i w hI)) ?_
 refine ay ?_
 refine ao 8 rfl ?_
 refine db (fun _:WL=>.int .i64 (dD l s.w (s.m.r7 - 4) 4 (aV i)).2) [mapE bm u8V wl] (fun wl'=>[mapE bm u8V wl']) (ok:=fun wl'=>dZ wl'=(dD l s.w (s.m.r7 - 4) 4 (aV i)).1∧wl'.length≤wl.length+4) (dd:=fun _=>0) rfl qq (by repeat' constructor) (fun w hw=>Nat.le_refl _) (fun w hw=>by have q:=ny bM bm VR rs l (s.m.r7 - 4) 4 (aV i) wl w (hw.own (by repeat' constructor)) (hM.mono (hw.lessB (Lo:=[mapE bm u8V wl]) (by repeat' constructor))) hO; rw [hwl] at q; exact q) rfl (fun wl2 hw2=>?_)
 refine ay ?_
 refine zz1 9 rfl (bh rfl) ?_
 refine dK (zR7 ?_)
 refine af rfl (fun h6=>?_) (fun h6=>?_)
 ·refine zR8 ?_
  refine ah jn rfl (fun w' hw=>?_)
  have hq:kf l s i (aV i)=(s,(dD l s.w (s.m.r7 - 4) 4 (aV i)).2):=by unfold kf; repeat (first|rw [if_pos (by first|assumption|omega)]|rw [if_neg (by first|assumption|omega)])
  exact ⟨wl2,by rw [hq]; try rfl,by rw [hq]; exact hw.upd (Bg.le.refl _) (by repeat' constructor),by rw [hq]; exact ⟨hw2.1.trans (sG (by assumption)),hw2.2⟩⟩
 refine zR6 ?_
 refine zz0 (gR (n:=4) rfl rfl) (zR3 ?_)
 refine zz0 (fX rfl rfl aY aj) ?_
 refine xy rfl rfl aj (by repeat constructor) (jJ (k:=7) (by omega) (by simp) _) (by rfl) (by rw [jL]; first|(simp; done)|(simp; omega)) ?_
 refine zR9 ?_
 refine nU rfl rfl aj (ow _) ?_
 refine zR8 ?_
 refine ah jn rfl (fun w' hw=>?_)
 have hq:kf l s i (aV i)=({ s with w:=(dD l s.w (s.m.r7 - 4) 4 (aV i)).1,m:=(s.m.set 7 (s.m.r7 - 4)).to i.imm },0):=by unfold kf; repeat (first|rw [if_pos (by first|assumption|omega)]|rw [if_neg (by first|assumption|omega)])
 exact ⟨wl2,by rw [hq]; try rfl,by rw [hq]; exact hw.upd (Bg.le.refl _) (by repeat' constructor),by rw [hq]; exact ⟨hw2.1,hw2.2⟩⟩
theorem Iw (s:St) (bc bM:Nat) (vi vo eff:Value) (inp:List UInt32) (i:Ins) (w:World) (ho:OwnAt w [cellE bc (bD s bM vi vo eff) 129,rowE vo 23 aa s.out]) (hin:Sl (Bg.lessB w (aT [cellE bc (bD s bM vi vo eff) 129,rowE vo 23 aa s.out]) 0).blk aa inp vi) (hvo:∃ a n c,vo=.slice a n c) (hI:InsOK i) (hA:0≤i.a∧i.a<8) (hB:0≤i.b∧i.b<8) :
  Calls Tryz.prog 233 #[.pointer (some ⟨bc,0,none⟩),.agg (am.enc i).toArray] w (fun e w'=>∃ vo':Value,e=.returned (.int .i64 (fQ inp s i (aV i)).2)∧Upd 0 w w' (aT [cellE bc (bD s bM vi vo eff) 129,rowE vo 23 aa s.out]) [cellE bc (bD (fQ inp s i (aV i)).1 bM vi vo' eff) 129,rowE vo' 23 aa (fQ inp s i (aV i)).1.out]∧True):=by
 have hil:=hin.len_le
 refine iW (L:=[cellE bc (bD s bM vi vo eff) 129,rowE vo 23 aa s.out]) ho rfl (Nat.zero_le _) Tryz.func233 rfl Tryz.ntmps233 rfl (zR2 ?_)
 refine cm rfl rfl (fun b1=>dy ?_)
 refine af rfl (fun h2=>?_) (fun h2=>?_)
 ·refine bE (bE (aL ([cellE bc (bD s bM vi vo eff) 129,cellE b1 (am.enc i) 36]) 10 rfl ak ?_))
  refine zz1 0 rfl (ae rfl) ?_
  refine zz1 1 rfl (aA rfl) ?_
  refine zz1 2 rfl (aD rfl) ?_
  refine zz1 3 rfl (dP rfl) ?_
  refine zz1 4 rfl (ae rfl) ?_
  refine zz1 5 rfl (aA rfl) ?_
  refine zz1 6 rfl (aD rfl) ?_
  refine zz1 7 rfl (dP rfl) ?_
  refine ao 8 rfl (zz0 (zA rfl) ?_)
  refine ay ?_
  refine zz1 9 rfl (vR rfl rfl) ?_
  refine dK (az ?_)
  refine af rfl (fun h3=>?_) (fun h3=>?_)
  ·refine zR8 ?_
   refine ah jl rfl (fun w' hw=>?_)
   have hq:fQ inp s i (aV i)=(s,14):=by unfold fQ; repeat (first|rw [if_pos (by first|assumption|omega)]|rw [if_neg (by first|assumption|omega)])
   exact ⟨vo,by rw [hq]; try rfl,by rw [hq]; exact hw.upd (Bg.le.refl _) (by repeat' constructor),trivial⟩
  refine zR2 ?_
  refine fC (.of (ι:=Unit) (fun u=>True) (fun _=>(Bg.lessB w (aT [cellE bc (bD s bM vi vo eff) 129,rowE vo 23 aa s.out]) 0)) (fun u=>[cellE b1 (am.enc i) 36,cellE bc (bD (s.setR i.a (inp.getD s.read default)) bM vi vo eff) 129,rowE vo 23 aa s.out]) (fun u=>[])) ?_ (fun u hi=>?_)
  ·skip
   refine aL ([cellE b1 (am.enc i) 36]) 18 rfl ak ?_
   refine zz1 0 rfl (ae rfl) ?_
   refine zz1 1 rfl (aD rfl) ?_
   refine zz1 2 rfl (cH rfl) ?_
   refine zz1 3 rfl (ae rfl) ?_
   refine zz1 4 rfl (aA rfl) ?_
   refine zz1 5 rfl (aD rfl) ?_
   refine zz1 7 rfl (ae rfl) ?_
   refine zz1 8 rfl (aA rfl) ?_
   refine zz1 9 rfl (aD rfl) ?_
   refine zz1 13 rfl (aA rfl) ?_
   refine zz1 14 rfl (aD rfl) ?_
   refine zz1 15 rfl (aD rfl) ?_
   refine lH [6,10] (fun iq hq=>?_)
   rcases List.mem_cons.1 hq with rfl|hq
   ·skip
    refine bY rfl (zz0 (dP rfl) ?_)
    refine ay ?_
    refine ao 10 rfl (zz0 (dP rfl) ?_)
    refine ay ?_
    refine zz1 11 rfl (nO rfl rfl) ?_
    refine zz1 12 rfl (pP rfl) ?_
    refine zz1 16 rfl (fX rfl rfl aY aj) ?_
    refine ao 17 rfl ?_
    refine xy rfl rfl aj (by repeat constructor) (jJ hA (by simp) _) (by rfl) (by rw [jL]; first|(simp; done)|(simp; omega)) ?_
    refine ay ?_
    refine dK (az ?_)
    refine aQ () Front.nil (zz9 17 rfl) (o:=trivial)
   obtain rfl:=List.mem_singleton.1 hq
   refine bY rfl (zz0 (dP rfl) ?_)
   refine ay ?_
   refine ao 6 rfl (zz0 (dP rfl) ?_)
   refine ay ?_
   refine zz1 11 rfl (nO rfl rfl) ?_
   refine zz1 12 rfl (pP rfl) ?_
   refine zz1 16 rfl (fX rfl rfl aY aj) ?_
   refine ao 17 rfl ?_
   refine xy rfl rfl aj (by repeat constructor) (jJ hA (by simp) _) (by rfl) (by rw [jL]; first|(simp; done)|(simp; omega)) ?_
   refine ay ?_
   refine dK (az ?_)
   refine aQ () Front.nil (zz9 17 rfl) (o:=trivial)
  skip
  have hrd:(s.setR i.a (inp.getD s.read default)).read=s.read:=rfl
  have hrl:s.read<inp.length:=by omega
  refine zR5 ?_
  refine zz0 (aZ rfl rfl) (zR2 ?_)
  refine nU rfl rfl bL (Jw (s:=s.setR i.a (inp.getD s.read default))) ?_
  refine zR6 ?_
  refine db (fun _:Unit=>.tuple #[]) [cellE bc (bD ({ s.setR i.a (inp.getD s.read default) with read:=s.read+1 }) bM vi vo eff) 129] (fun _=>[cellE bc (bD (({ s.setR i.a (inp.getD s.read default) with read:=s.read+1 }).to (aV i)) bM vi vo eff) 129]) (ok:=fun _=>True) (dd:=fun _=>0) rfl iw (by repeat' constructor) (fun w hw=>Nat.le_refl _) (fun w hw=>ko ({ s.setR i.a (inp.getD s.read default) with read:=s.read+1 }) bc bM vi vo eff i w (hw.own (by repeat' constructor)) hI) rfl (fun _ _=>zR8 ?_)
  refine ah jl rfl (fun w' hw=>?_)
  have hq:fQ inp s i (aV i)=({ s with m:=(s.m.set i.a (inp.getD s.read default)).to (aV i),read:=s.read+1 },0):=by unfold fQ; repeat (first|rw [if_pos (by first|assumption|omega)]|rw [if_neg (by first|assumption|omega)])
  exact ⟨vo,by rw [hq]; try rfl,by rw [hq]; exact hw.upd (Bg.le.refl _) (by repeat' constructor),trivial⟩
 refine dy ?_
 refine af rfl (fun h4=>?_) (fun h4=>?_)
 ·refine zR8 ?_
  refine ah jl rfl (fun w' hw=>?_)
  have hq:fQ inp s i (aV i)=(s,6):=by unfold fQ; repeat (first|rw [if_pos (by first|assumption|omega)]|rw [if_neg (by first|assumption|omega)])
  exact ⟨vo,by rw [hq]; try rfl,by rw [hq]; exact hw.upd (Bg.le.refl _) (by repeat' constructor),trivial⟩
 refine mG (aL ([cellE b1 (am.enc i) 36]) 18 rfl ak ?_)
 refine zz1 0 rfl (ae rfl) ?_
 refine zz1 1 rfl (ae rfl) ?_
 refine zz1 2 rfl (aA rfl) ?_
 refine zz1 3 rfl (aD rfl) ?_
 refine zz1 5 rfl (ae rfl) ?_
 refine zz1 6 rfl (aD rfl) ?_
 refine zz1 7 rfl (cH rfl) ?_
 refine zz1 8 rfl (aA rfl) ?_
 refine zz1 9 rfl (aD rfl) ?_
 refine zz1 10 rfl (aD rfl) ?_
 refine zz1 11 rfl (fX rfl rfl aY aj) ?_
 refine lH [4,12] (fun iq hq=>?_)
 rcases List.mem_cons.1 hq with rfl|hq
 ·skip
  refine bY rfl (zz0 (dP rfl) ?_)
  refine ay ?_
  refine ao 12 rfl ?_
  refine zz0 (eZ rfl (by repeat constructor) dG (jK hA (by simp))) ?_
  refine ay ?_
  refine ao 13 rfl ?_
  refine g7 (E:=aa) (s.m.reg i.a) rfl rfl au aj ba (fun V5=>?_)
  refine ay ?_
  refine ao 14 rfl ?_
  refine zz3 rfl rfl au dA (fun V44=>?_)
  refine fq (V:=V44) (fun pn cn hpv=>?_)
  subst hpv
  refine ay ?_
  refine zz1 15 rfl (aA rfl) ?_
  refine zz1 16 rfl (aD rfl) ?_
  refine ao 17 rfl ?_
  refine nU rfl rfl fS (yW _) ?_
  refine ay ?_
  refine dK (zR5 ?_)
  refine db (fun _:Unit=>.tuple #[]) [cellE bc (bD (s) bM vi (.slice pn (s.out ++ [s.m.reg i.a]).length cn) eff) 129] (fun _=>[cellE bc (bD ((s).to (aV i)) bM vi (.slice pn (s.out ++ [s.m.reg i.a]).length cn) eff) 129]) (ok:=fun _=>True) (dd:=fun _=>0) rfl iw (by repeat' constructor) (fun w hw=>Nat.le_refl _) (fun w hw=>ko (s) bc bM vi (.slice pn (s.out ++ [s.m.reg i.a]).length cn) eff i w (hw.own (by repeat' constructor)) hI) rfl (fun _ _=>zR8 ?_)
  refine ah jl rfl (fun w' hw=>?_)
  have hq:fQ inp s i (aV i)=({ s with m:=s.m.to (aV i),out:=s.out ++ [s.m.reg i.a] },0):=by unfold fQ; repeat (first|rw [if_pos (by first|assumption|omega)]|rw [if_neg (by first|assumption|omega)])
  exact ⟨(.slice pn (s.out ++ [s.m.reg i.a]).length cn),by rw [hq]; try rfl,by rw [hq]; exact hw.upd (Bg.le.refl _) (by repeat' constructor),trivial⟩
 obtain rfl:=List.mem_singleton.1 hq
 refine bY rfl ?_
 refine zz0 (eZ rfl (by repeat constructor) dG (jK hA (by simp))) ?_
 refine ay ?_
 refine lH [4,13] (fun iq hq=>?_)
 rcases List.mem_cons.1 hq with rfl|hq
 ·skip
  refine bY rfl (zz0 (dP rfl) ?_)
  refine ay ?_
  refine ao 13 rfl ?_
  refine g7 (E:=aa) (s.m.reg i.a) rfl rfl au aj ba (fun V6=>?_)
  refine ay ?_
  refine ao 14 rfl ?_
  refine zz3 rfl rfl au dA (fun V44=>?_)
  refine fq (V:=V44) (fun pn cn hpv=>?_)
  subst hpv
  refine ay ?_
  refine zz1 15 rfl (aA rfl) ?_
  refine zz1 16 rfl (aD rfl) ?_
  refine ao 17 rfl ?_
  refine nU rfl rfl fS (yW _) ?_
  refine ay ?_
  refine dK (zR5 ?_)
  refine db (fun _:Unit=>.tuple #[]) [cellE bc (bD (s) bM vi (.slice pn (s.out ++ [s.m.reg i.a]).length cn) eff) 129] (fun _=>[cellE bc (bD ((s).to (aV i)) bM vi (.slice pn (s.out ++ [s.m.reg i.a]).length cn) eff) 129]) (ok:=fun _=>True) (dd:=fun _=>0) rfl iw (by repeat' constructor) (fun w hw=>Nat.le_refl _) (fun w hw=>ko (s) bc bM vi (.slice pn (s.out ++ [s.m.reg i.a]).length cn) eff i w (hw.own (by repeat' constructor)) hI) rfl (fun _ _=>zR8 ?_)
  refine ah jl rfl (fun w' hw=>?_)
  have hq:fQ inp s i (aV i)=({ s with m:=s.m.to (aV i),out:=s.out ++ [s.m.reg i.a] },0):=by unfold fQ; repeat (first|rw [if_pos (by first|assumption|omega)]|rw [if_neg (by first|assumption|omega)])
  exact ⟨(.slice pn (s.out ++ [s.m.reg i.a]).length cn),by rw [hq]; try rfl,by rw [hq]; exact hw.upd (Bg.le.refl _) (by repeat' constructor),trivial⟩
 obtain rfl:=List.mem_singleton.1 hq
 refine bY rfl ?_
 refine g7 (E:=aa) (s.m.reg i.a) rfl rfl au aj ba (fun V7=>?_)
 refine ay ?_
 refine ao 4 rfl (zz0 (dP rfl) ?_)
 refine ay ?_
 refine ao 14 rfl ?_
 refine zz3 rfl rfl au dA (fun V44=>?_)
 refine fq (V:=V44) (fun pn cn hpv=>?_)
 subst hpv
 refine ay ?_
 refine zz1 15 rfl (aA rfl) ?_
 refine zz1 16 rfl (aD rfl) ?_
 refine ao 17 rfl ?_
 refine nU rfl rfl fS (yW _) ?_
 refine ay ?_
 refine dK (zR5 ?_)
 refine db (fun _:Unit=>.tuple #[]) [cellE bc (bD (s) bM vi (.slice pn (s.out ++ [s.m.reg i.a]).length cn) eff) 129] (fun _=>[cellE bc (bD ((s).to (aV i)) bM vi (.slice pn (s.out ++ [s.m.reg i.a]).length cn) eff) 129]) (ok:=fun _=>True) (dd:=fun _=>0) rfl iw (by repeat' constructor) (fun w hw=>Nat.le_refl _) (fun w hw=>ko (s) bc bM vi (.slice pn (s.out ++ [s.m.reg i.a]).length cn) eff i w (hw.own (by repeat' constructor)) hI) rfl (fun _ _=>zR8 ?_)
 refine ah jl rfl (fun w' hw=>?_)
 have hq:fQ inp s i (aV i)=({ s with m:=s.m.to (aV i),out:=s.out ++ [s.m.reg i.a] },0):=by unfold fQ; repeat (first|rw [if_pos (by first|assumption|omega)]|rw [if_neg (by first|assumption|omega)])
 exact ⟨(.slice pn (s.out ++ [s.m.reg i.a]).length cn),by rw [hq]; try rfl,by rw [hq]; exact hw.upd (Bg.le.refl _) (by repeat' constructor),trivial⟩
theorem GE (s:St) (bc bM:Nat) (vi vo eff:Value) (i:Ins) (w:World) (ho:OwnAt w [cellE bc (bD s bM vi vo eff) 129]) :
  Calls Tryz.prog 169 #[.pointer (some ⟨bc,0,none⟩),.agg (am.enc i).toArray] w (fun e w'=>∃ _:Unit,e=.returned (.tuple #[])∧Upd 0 w w' (aT [cellE bc (bD s bM vi vo eff) 129]) [cellE bc (bD s bM vi vo (q9 i.op)) 129]∧True):=by
 refine iW (L:=[cellE bc (bD s bM vi vo eff) 129]) ho rfl (Nat.zero_le _) Tryz.func169 rfl Tryz.ntmps169 rfl (zR2 ?_)
 refine cm rfl rfl (fun b1=>wK ?_)
 apply bN
 ·exact rfl
 ·intro hO2
  try simp only [bs] at hO2
  refine zR5 ?_
  exact bZ rfl (zz9 2 rfl)
 refine az ?_
 refine af rfl (fun h3=>?_) (fun h3=>?_)
 ·refine zR4 ?_
  refine nU rfl rfl j6 (ql _) ?_
  refine fV (eK (dH jo (fun w' hw=>?_)))
  have he:q9 i.op=.func (.func 229) #[] #[]:=by unfold q9 vB; repeat (first|rw [if_pos (by omega)]|rw [if_neg (by omega)])
  rw [← he] at hw
  exact ⟨(),rfl,hw.upd (Bg.le.refl _) (by repeat' constructor),trivial⟩
 refine zR7 ?_
 apply bN
 ·exact rfl
 ·intro hO4
  try simp only [bs] at hO4
  refine zR6 ?_
  apply bN
  ·exact rfl
  ·intro hO5
   try simp only [bs] at hO5
   refine zR5 ?_
   exact bZ rfl (zz9 2 rfl)
  refine az ?_
  exact bZ rfl (zz9 3 rfl)
 refine az ?_
 refine af rfl (fun h6=>?_) (fun h6=>?_)
 ·refine zR4 ?_
  refine nU rfl rfl j6 (ql _) ?_
  refine fV (eK (dH jo (fun w' hw=>?_)))
  have he:q9 i.op=.func (.func 230) #[] #[]:=by unfold q9 vB; repeat (first|rw [if_pos (by omega)]|rw [if_neg (by omega)])
  rw [← he] at hw
  exact ⟨(),rfl,hw.upd (Bg.le.refl _) (by repeat' constructor),trivial⟩
 refine zR7 ?_
 apply bN
 ·exact rfl
 ·intro hO7
  try simp only [bs] at hO7
  refine zR6 ?_
  apply bN
  ·exact rfl
  ·intro hO8
   try simp only [bs] at hO8
   refine zR5 ?_
   exact bZ rfl (zz9 2 rfl)
  refine az ?_
  exact bZ rfl (zz9 3 rfl)
 refine az ?_
 refine af rfl (fun h9=>?_) (fun h9=>?_)
 ·refine zR4 ?_
  refine nU rfl rfl j6 (ql _) ?_
  refine fV (eK (dH jo (fun w' hw=>?_)))
  have he:q9 i.op=.func (.func 231) #[] #[]:=by unfold q9 vB; repeat (first|rw [if_pos (by omega)]|rw [if_neg (by omega)])
  rw [← he] at hw
  exact ⟨(),rfl,hw.upd (Bg.le.refl _) (by repeat' constructor),trivial⟩
 refine zR7 ?_
 apply bN
 ·exact rfl
 ·intro hO10
  try simp only [bs] at hO10
  refine zR6 ?_
  apply bN
  ·exact rfl
  ·intro hO11
   try simp only [bs] at hO11
   refine zR5 ?_
   exact bZ rfl (zz9 2 rfl)
  refine az ?_
  exact bZ rfl (zz9 3 rfl)
 refine az ?_
 refine af rfl (fun h12=>?_) (fun h12=>?_)
 ·refine zR4 ?_
  refine nU rfl rfl j6 (ql _) ?_
  refine fV (eK (dH jo (fun w' hw=>?_)))
  have he:q9 i.op=.func (.func 232) #[] #[]:=by unfold q9 vB; repeat (first|rw [if_pos (by omega)]|rw [if_neg (by omega)])
  rw [← he] at hw
  exact ⟨(),rfl,hw.upd (Bg.le.refl _) (by repeat' constructor),trivial⟩
 refine zR7 ?_
 apply bN
 ·exact rfl
 ·intro hO13
  try simp only [bs] at hO13
  refine zR5 ?_
  exact bZ rfl (zz9 2 rfl)
 refine az ?_
 refine af rfl (fun h14=>?_) (fun h14=>?_)
 ·refine zR4 ?_
  refine nU rfl rfl j6 (ql _) ?_
  refine fV (eK (dH jo (fun w' hw=>?_)))
  have he:q9 i.op=.func (.func 233) #[] #[]:=by unfold q9 vB; repeat (first|rw [if_pos (by omega)]|rw [if_neg (by omega)])
  rw [← he] at hw
  exact ⟨(),rfl,hw.upd (Bg.le.refl _) (by repeat' constructor),trivial⟩
 refine zR4 ?_
 refine nU rfl rfl j6 (ql _) ?_
 refine fV (eK (dH jo (fun w' hw=>?_)))
 have he:q9 i.op=.func (.func 234) #[] #[]:=by unfold q9 vB; repeat (first|rw [if_pos (by omega)]|rw [if_neg (by omega)])
 rw [← he] at hw
 exact ⟨(),rfl,hw.upd (Bg.le.refl _) (by repeat' constructor),trivial⟩
end Go.Proofs.YtiajjbhcpeadfaaGreat
namespace Go.Proofs.YtiajjbhcpeadfaaGreat
open Go Go.HL Go.RowKit
theorem Oj (s:St) (bc bM bm:Nat) (VR vi vo eff:Value) (rs:List RegV) (l:List SecV) (wl:WL) (inp:List UInt32) (i:Ins) (w:World) (ho:OwnAt w [cellE bc (bD s bM vi vo eff) 129,mapE bm u8V wl,rowE vo 23 aa s.out]) (hC:CpuAt (Bg.lessB w (aT [cellE bc (bD s bM vi vo eff) 129,mapE bm u8V wl,rowE vo 23 aa s.out]) 0).blk bM bm VR vi rs inp) (hO:MemOK l rs) (hwl:dZ wl=s.w) (hvo:∃ a n c,vo=.slice a n c) (hI:InsOK i) (hA:0≤i.a∧i.a<8) (hB:0≤i.b∧i.b<8) :
  Calls Tryz.prog (vB i.op) #[.pointer (some ⟨bc,0,none⟩),.agg (am.enc i).toArray] w (fun e w'=>∃ j:WL × Value,e=.returned (.int .i64 (jB l inp s i (aV i)).2)∧Upd 0 w w' (aT [cellE bc (bD s bM vi vo eff) 129,mapE bm u8V wl,rowE vo 23 aa s.out]) [cellE bc (bD (jB l inp s i (aV i)).1 bM vi j.2 eff) 129,mapE bm u8V j.1,rowE j.2 23 aa (jB l inp s i (aV i)).1.out]∧(dZ j.1=(jB l inp s i (aV i)).1.w∧j.1.length≤wl.length+4∧∃ a n c,j.2=.slice a n c)):=by
 have hM2:MemAt (Bg.lessB w (aT [cellE bc (bD s bM vi vo eff) 129,mapE bm u8V wl]) 0).blk bM bm VR rs:=hC.mem.mono (D5 (EX (fun e he=>by simp only [List.mem_cons,List.not_mem_nil,or_false] at he ⊢; rcases he with rfl|rfl <;> simp)))
 have hi3:Sl (Bg.lessB w (aT [cellE bc (bD s bM vi vo eff) 129,rowE vo 23 aa s.out]) 0).blk aa inp vi:=hC.inp.mono (D5 (EX (fun e he=>by simp only [List.mem_cons,List.not_mem_nil,or_false] at he ⊢; rcases he with rfl|rfl <;> simp)))
 have ho2:OwnAt w ([cellE bc (bD s bM vi vo eff) 129,mapE bm u8V wl] ++ [rowE vo 23 aa s.out]):=ho
 have ho1:OwnAt w ([cellE bc (bD s bM vi vo eff) 129] ++ [mapE bm u8V wl,rowE vo 23 aa s.out]):=ho
 have hp:([cellE bc (bD s bM vi vo eff) 129,rowE vo 23 aa s.out] ++ [mapE bm u8V wl]).Perm [cellE bc (bD s bM vi vo eff) 129,mapE bm u8V wl,rowE vo 23 aa s.out]:=.cons _ (.swap _ _ _)
 have ho3:OwnAt w ([cellE bc (bD s bM vi vo eff) 129,rowE vo 23 aa s.out] ++ [mapE bm u8V wl]):=ho.perm hp
 unfold vB jB
 by_cases h1:i.op=3∨i.op=4
 ·rw [if_pos h1,if_pos h1]
  refine (IE s bc bM bm VR vi vo eff rs l wl i w ho2.left hM2 hO hwl hI hA hB).mono fun e w' ⟨wl',q1,q2,q3,q4⟩=>⟨(wl',vo),q1,?_,q3,q4,hvo⟩
  rw [As]; exact q2.frame ho2
 rw [if_neg h1,if_neg h1]
 by_cases h2:i.op=16∨i.op=17∨i.op=18
 ·rw [if_pos h2,if_pos h2]
  refine (GP s bc bM bm VR vi vo eff rs l wl i w ho2.left hM2 hO hwl hI hA hB).mono fun e w' ⟨wl',q1,q2,q3,q4⟩=>⟨(wl',vo),q1,?_,q3,q4,hvo⟩
  rw [zi]; exact q2.frame ho2
 rw [if_neg h2,if_neg h2]
 by_cases h3:i.op=20∨i.op=21∨i.op=22
 ·rw [if_pos h3,if_pos h3]
  refine (Lp s bc bM bm VR vi vo eff rs l wl i w ho2.left hM2 hO hwl hI hA hB).mono fun e w' ⟨wl',q1,q2,q3,q4⟩=>⟨(wl',vo),q1,?_,q3,q4,hvo⟩
  rw [Ed]; exact q2.frame ho2
 rw [if_neg h3,if_neg h3]
 by_cases h4:i.op=23∨i.op=24∨i.op=2
 ·rw [if_pos h4,if_pos h4]
  refine (Mz s bc bM bm VR vi vo eff rs l wl i w ho2.left hM2 hO hwl hI hA hB).mono fun e w' ⟨wl',q1,q2,q3,q4⟩=>⟨(wl',vo),q1,?_,q3,q4,hvo⟩
  rw [EV]; exact q2.frame ho2
 rw [if_neg h4,if_neg h4]
 by_cases h5:i.op=26∨i.op=27
 ·rw [if_pos h5,if_pos h5]
  refine (Iw s bc bM vi vo eff inp i w ho3.left hi3 hvo hI hA hB).mono fun e w' ⟨vo',q1,q2,_⟩=>⟨(wl,vo'),q1,?_,by rw [No]; exact hwl,Nat.le_add_right _ _,?_⟩
  ·exact (q2.frame ho3).perm hp.symm (.cons _ (.swap _ _ _))
  have hr:=q2.ent (rowE vo' 23 aa (fQ inp s i (aV i)).1.out) (by simp)
  have hr':RowOK vo' 23 aa (fQ inp s i (aV i)).1.out (vo'.ownBlock.bind (w'.heap[·]?)):=hr
  rcases hr' with ⟨e1,_⟩|⟨g,cap,cur,e1,_⟩
  ·exact ⟨_,_,_,e1⟩
  exact ⟨_,_,_,e1⟩
 rw [if_neg h5,if_neg h5]
 refine (IX s bc bM vi vo eff i w ho1.left hI hA hB).mono fun e w' ⟨_,q1,q2,_⟩=>⟨(wl,vo),q1,q2.frame ho1,hwl,Nat.le_add_right _ _,hvo⟩
theorem Gw (op:Int) (args:Array Value) (w:World):(callFunc (vB op) args).run Tryz.prog w=.ok (.enter (vB op) args) w:=by
 unfold vB
 split
 ·exact Tryz.call229 args w
 split
 ·exact Tryz.call230 args w
 split
 ·exact Tryz.call231 args w
 split
 ·exact Tryz.call232 args w
 split
 ·exact Tryz.call233 args w
 exact Tryz.call234 args w
theorem LQ (s:St) (bc bM bm:Nat) (VR vi vo eff:Value) (rs:List RegV) (l:List SecV) (wl:WL) (inp:List UInt32) (w:World) (ho:OwnAt w [cellE bc (bD s bM vi vo eff) 129,mapE bm u8V wl,rowE vo 23 aa s.out]) (hC:CpuAt (Bg.lessB w (aT [cellE bc (bD s bM vi vo eff) 129,mapE bm u8V wl,rowE vo 23 aa s.out]) 0).blk bM bm VR vi rs inp) (hO:MemOK l rs) (hwl:dZ wl=s.w) (hvo:∃ a n c,vo=.slice a n c) :
  Calls Tryz.prog 116 #[.pointer (some ⟨bc,0,none⟩)] w (fun e w'=>∃ j:WL × Value × Value,e=.returned (.int .i64 (gG l inp s).2)∧Upd 0 w w' (aT [cellE bc (bD s bM vi vo eff) 129,mapE bm u8V wl,rowE vo 23 aa s.out]) [cellE bc (bD (gG l inp s).1 bM vi j.2.1 j.2.2) 129,mapE bm u8V j.1,rowE j.2.1 23 aa (gG l inp s).1.out]∧(dZ j.1=(gG l inp s).1.w∧j.1.length≤wl.length+4∧∃ a n c,j.2.1=.slice a n c)):=by
 refine iW (L:=[cellE bc (bD s bM vi vo eff) 129,mapE bm u8V wl,rowE vo 23 aa s.out]) ho rfl (Nat.zero_le _) Tryz.func116 rfl Tryz.ntmps116 rfl (zR6 ?_)
 refine aL ([cellE bc (bD s bM vi vo eff) 129]) 15 rfl ak ?_
 refine zz1 0 rfl (ae rfl) ?_
 refine zz1 1 rfl (aA rfl) ?_
 refine zz1 2 rfl (aD rfl) ?_
 refine zz1 3 rfl (dP rfl) ?_
 refine zz1 4 rfl (ae rfl) ?_
 refine zz1 5 rfl (aA rfl) ?_
 refine zz1 6 rfl (aD rfl) ?_
 refine zz1 7 rfl (aD rfl) ?_
 refine zz1 8 rfl (dP rfl) ?_
 refine ao 9 rfl ?_
 refine ij (fun V=>.tuple #[V,.int .i64 (gp l s.w s.m.pc).2]) rfl Tryz.call168 (fun w hw=>by have q:=FV bM bm VR rs l s.m.pc wl w (hC.mem.mono hw.bg) hO (mapE.in_ (hw.ent _ (by repeat constructor))); rw [hwl] at q; exact q) rfl (fun V51=>?_)
 refine ay ?_
 refine zz1 10 rfl (ae rfl) ?_
 refine zz1 11 rfl (eo rfl rfl) ?_
 refine zz1 12 rfl (eo rfl rfl) ?_
 refine zz1 13 rfl (bh rfl) ?_
 refine zz1 14 rfl (bh rfl) ?_
 refine dK (zR8 ?_)
 refine af rfl (fun h1=>?_) (fun h1=>?_)
 ·refine zR8 ?_
  refine ah pG rfl (fun w' hw=>?_)
  have hq:gG l inp s=(s,(gp l s.w s.m.pc).2):=by unfold gG; rw [if_pos (by assumption)]
  exact ⟨(wl,vo,eff),by rw [hq]; try rfl,by rw [hq]; exact hw.upd (Bg.le.refl _) (by repeat' constructor),by rw [hq]; exact ⟨hwl,Nat.le_add_right _ _,hvo⟩⟩
 refine df ?_
 refine zz0 (ac rfl Tryz.call135 (fun w hw=>yV (gp l s.w s.m.pc).1 _ s.m.pc w (hw.row (by repeat constructor)))) (zR3 ?_)
 refine bS aJ rfl (fun b2=>?_)
 refine ad am rfl rfl aw ?_
 obtain ⟨ii,hii⟩:∃ ii,ii=(iK (gp l s.w s.m.pc).1 s.m.pc).1:=⟨_,rfl⟩
 change Tr _ _ (cellE b2 (am.enc (iK (gp l s.w s.m.pc).1 s.m.pc).1) 36 :: _) _ _
 rw [← hii]
 refine df ?_
 refine af rfl (fun h3=>?_) (fun h3=>?_)
 ·refine zR8 ?_
  refine ah pG rfl (fun w' hw=>?_)
  have hq:gG l inp s=(s,(iK (gp l s.w s.m.pc).1 s.m.pc).2):=by unfold gG; rw [if_neg (by simp_all),if_pos (by assumption)]
  exact ⟨(wl,vo,eff),by rw [hq]; try rfl,by rw [hq]; exact hw.upd (Bg.le.refl _) (by repeat' constructor),by rw [hq]; exact ⟨hwl,Nat.le_add_right _ _,hvo⟩⟩
 refine zR3 ?_
 have hd0:(iK (gp l s.w s.m.pc).1 s.m.pc).2=0:=by simp_all
 have hIi:InsOK ii:=by rw [hii]; exact Mg
 obtain ⟨hAi,hBi⟩:=Mf hd0
 rw [← hii] at hAi hBi
 refine zR3 ?_
 refine db (fun _:Unit=>.tuple #[]) [cellE bc (bD s bM vi vo eff) 129] (fun _=>[cellE bc (bD s bM vi vo (q9 ii.op)) 129]) (ok:=fun _=>True) (dd:=fun _=>0) rfl Tryz.call169 (by repeat' constructor) (fun w hw=>Nat.le_refl _) (fun w hw=>GE s bc bM vi vo eff ii w (hw.own (by repeat' constructor))) rfl (fun _ _=>zR3 ?_)
 refine aL ([cellE b2 (am.enc ii) 36]) 8 rfl ak ?_
 refine zz1 0 rfl (ae rfl) ?_
 refine zz1 1 rfl (aA rfl) ?_
 refine zz1 2 rfl (aD rfl) ?_
 refine zz1 4 rfl (ae rfl) ?_
 refine zz1 5 rfl (bU rfl) ?_
 refine ao 3 rfl (zz0 (dP rfl) ?_)
 refine ay ?_
 refine ao 6 rfl ?_
 refine JI (fun _:WL × Value=>.int .i64 (jB l inp s ii (aV ii)).2) [cellE bc (bD s bM vi vo (q9 ii.op)) 129,mapE bm u8V wl,rowE vo 23 aa s.out] (fun j=>[cellE bc (bD (jB l inp s ii (aV ii)).1 bM vi j.2 (q9 ii.op)) 129,mapE bm u8V j.1,rowE j.2 23 aa (jB l inp s ii (aV ii)).1.out]) (ok:=fun j=>dZ j.1=(jB l inp s ii (aV ii)).1.w∧j.1.length≤wl.length+4∧∃ a n c,j.2=.slice a n c) (f:=vB ii.op) (dd:=fun _=>0) rfl rfl (Gw ii.op) (by repeat' constructor) (fun w hw=>Nat.le_refl _) (fun w hw=>Oj s bc bM bm VR vi vo (q9 ii.op) rs l wl inp ii w (hw.own (by repeat' constructor)) (hC.mono (hw.lessB (Lo:=[cellE bc (bD s bM vi vo (q9 ii.op)) 129,mapE bm u8V wl,rowE vo 23 aa s.out]) (by repeat' constructor))) hO hwl hvo hIi hAi hBi) rfl (fun j hj=>?_)
 refine ay ?_
 refine zz1 7 rfl (bh rfl) ?_
 refine dK (zR2 ?_)
 refine ah pG rfl (fun w' hw=>?_)
 have hq:gG l inp s=jB l inp s ii (aV ii):=by rw [hii]; unfold gG; rw [if_neg (by simp_all),if_neg (by simp_all)]
 exact ⟨(j.1,j.2,q9 ii.op),by rw [hq],by rw [hq]; exact hw.upd (Bg.le.refl _) (by repeat' constructor),by rw [hq]; exact hj⟩
theorem Kl (s:St) (bc bM bm:Nat) (VR vi vo eff:Value) (rs:List RegV) (l:List SecV) (wl:WL) (inp:List UInt32) (w:World) (ho:OwnAt w [cellE bc (bD s bM vi vo eff) 129,mapE bm u8V wl,rowE vo 23 aa s.out]) (hC:CpuAt (Bg.lessB w (aT [cellE bc (bD s bM vi vo eff) 129,mapE bm u8V wl,rowE vo 23 aa s.out]) 0).blk bM bm VR vi rs inp) (hO:MemOK l rs) (hwl:dZ wl=s.w) (hvo:∃ a n c,vo=.slice a n c) :
  Calls Tryz.prog 59 #[.pointer (some ⟨bc,0,none⟩)] w (fun e w'=>∃ j:WL × Value × Value,e=.returned (.int .i64 (stepS l inp s).2)∧Upd 0 w w' (aT [cellE bc (bD s bM vi vo eff) 129,mapE bm u8V wl,rowE vo 23 aa s.out]) [cellE bc (bD (stepS l inp s).1 bM vi j.2.1 j.2.2) 129,mapE bm u8V j.1,rowE j.2.1 23 aa (stepS l inp s).1.out]∧(dZ j.1=(stepS l inp s).1.w∧j.1.length≤wl.length+4∧∃ a n c,j.2.1=.slice a n c)):=by
 refine iW (L:=[cellE bc (bD s bM vi vo eff) 129,mapE bm u8V wl,rowE vo 23 aa s.out]) ho rfl (Nat.zero_le _) Tryz.func59 rfl Tryz.ntmps59 rfl (df ?_)
 refine zz0 (ac rfl Tryz.call58 (fun w hw=>Bd s bc bM vi vo eff w (cellE.cellsIn (hw.ent _ (by repeat constructor)) (Ext.refl _)))) (zR4 ?_)
 refine dw rfl ?_ ?_ <;> intro h1 <;> try simp only [bs] at h1
 ·first|contradiction|(exfalso; omega)|simp_all
 refine zR9 ?_
 refine af rfl (fun h2=>?_) (fun h2=>?_)
 ·refine zR8 ?_
  refine ah Tryz.results59 rfl (fun w' hw=>?_)
  have hq:stepS l inp s=(s,21):=by unfold stepS; rw [if_pos (by assumption)]
  exact ⟨(wl,vo,eff),by rw [hq],by rw [hq]; exact hw.upd (Bg.le.refl _) (by repeat' constructor),by rw [hq]; exact ⟨hwl,Nat.le_add_right _ _,hvo⟩⟩
 refine df ?_
 refine af rfl (fun h3=>?_) (fun h3=>?_)
 ·refine zR3 ?_
  refine db (fun _:WL × Value × Value=>.int .i64 (gG l inp s).2) [cellE bc (bD s bM vi vo eff) 129,mapE bm u8V wl,rowE vo 23 aa s.out] (fun j=>[cellE bc (bD (gG l inp s).1 bM vi j.2.1 j.2.2) 129,mapE bm u8V j.1,rowE j.2.1 23 aa (gG l inp s).1.out]) (ok:=fun j=>dZ j.1=(gG l inp s).1.w∧j.1.length≤wl.length+4∧∃ a n c,j.2.1=.slice a n c) (dd:=fun _=>0) rfl Tryz.call116 (by repeat' constructor) (fun w hw=>Nat.le_refl _) (fun w hw=>LQ s bc bM bm VR vi vo eff rs l wl inp w (hw.own (by repeat' constructor)) (hC.mono (hw.lessB (Lo:=[cellE bc (bD s bM vi vo eff) 129,mapE bm u8V wl,rowE vo 23 aa s.out]) (by repeat' constructor))) hO hwl hvo) rfl (fun j hj=>zR2 ?_)
  refine nU rfl rfl Tryz.sizeOf32 (Mm _) ?_
  refine jz ?_
  refine ah Tryz.results59 rfl (fun w' hw=>?_)
  have hq:stepS l inp s=({ (gG l inp s).1 with err:=(gG l inp s).2 },(gG l inp s).2):=by unfold stepS; rw [if_neg (by simp_all),if_neg (by simp_all)]
  exact ⟨j,by rw [hq]; try rfl,by rw [hq]; exact hw.upd (Bg.le.refl _) (by repeat' constructor),by rw [hq]; exact hj⟩
 refine jz ?_
 refine ah Tryz.results59 rfl (fun w' hw=>?_)
 have hq:stepS l inp s=(s,s.err):=by unfold stepS; rw [if_neg (by simp_all),if_pos (by assumption)]
 exact ⟨(wl,vo,eff),by rw [hq]; try rfl,by rw [hq]; exact hw.upd (Bg.le.refl _) (by repeat' constructor),by rw [hq]; exact ⟨hwl,Nat.le_add_right _ _,hvo⟩⟩
theorem Ix (s:St) (bc bM bm:Nat) (VR vi vo eff:Value) (rs:List RegV) (l:List SecV) (wl:WL) (inp:List UInt32) (n:Int) (w:World) (ho:OwnAt w [cellE bc (bD s bM vi vo eff) 129,mapE bm u8V wl,rowE vo 23 aa s.out]) (hC:CpuAt (Bg.lessB w (aT [cellE bc (bD s bM vi vo eff) 129,mapE bm u8V wl,rowE vo 23 aa s.out]) 0).blk bM bm VR vi rs inp) (hO:MemOK l rs) (hwl:dZ wl=s.w) (hvo:∃ a n c,vo=.slice a n c) (hol:s.out.length≤4096) :
  Calls Tryz.prog 19 #[.pointer (some ⟨bc,0,none⟩),.int .i64 n] w (fun e w'=>∃ j:WL × Value × Value × Value × Value,e=.returned (.tuple #[j.2.2.2.1,.agg #[.int .i64 (LZ (oS l inp (min n 65536).toNat s)),j.2.2.2.2,.int .i64 ((fj l inp (min n 65536).toNat s).length:Nat)]])∧Upd 0 w w' (aT [cellE bc (bD s bM vi vo eff) 129,mapE bm u8V wl,rowE vo 23 aa s.out]) [cellE bc (bD (oS l inp (min n 65536).toNat s) bM vi j.2.1 j.2.2.1) 129,mapE bm u8V j.1,rowE j.2.1 23 aa (oS l inp (min n 65536).toNat s).out,rowE j.2.2.2.1 23 aa (fj l inp (min n 65536).toNat s),rowE j.2.2.2.2 23 aa (oS l inp (min n 65536).toNat s).out]∧(dZ j.1=(oS l inp (min n 65536).toNat s).w∧j.1.length≤wl.length+4 * (fj l inp (min n 65536).toNat s).length∧∃ a n c,j.2.1=.slice a n c)):=by
 refine iW (L:=[cellE bc (bD s bM vi vo eff) 129,mapE bm u8V wl,rowE vo 23 aa s.out]) ho rfl (Nat.zero_le _) Tryz.func19 rfl Tryz.ntmps19 rfl (zR3 ?_)
 refine bS gK rfl (fun b1=>zR6 ?_)
 refine zz0 (ac rfl Tryz.call58 (fun w hw=>Bd s bc bM vi vo eff w (cellE.cellsIn (hw.ent _ (by repeat constructor)) (Ext.refl _)))) (zR3 ?_)
 refine dw rfl ?_ ?_ <;> intro h2 <;> try simp only [bs] at h2
 ·first|contradiction|(exfalso; omega)|simp_all
 refine zR9 ?_
 refine aR 23 aa ?_
 refine dO (ι:=Nat × St × List UInt32 × WL × Value × Value × Value) (fun ⟨k,t,tr,wl1,vo1,eff1,vt⟩=>Ran l inp s k t tr∧k≤(min n 65536).toNat∧dZ wl1=t.w∧wl1.length≤wl.length+4 * k∧∃ a n c,vo1=.slice a n c) (fun _=>(Bg.lessB w (aT [cellE bc (bD s bM vi vo eff) 129,mapE bm u8V wl,rowE vo 23 aa s.out]) 0)) (fun ⟨k,t,tr,wl1,vo1,eff1,vt⟩=>[rowE vt 23 aa tr,cellE bc (bD t bM vi vo1 eff1) 129,mapE bm u8V wl1,rowE vo1 23 aa t.out,cellE b1 [.int .i64 0,.slice none 0 0,.int .i64 0] 60]) (fun ⟨k,t,tr,wl1,vo1,eff1,vt⟩=>[(6,vt)]) (fun ⟨k,t,tr,wl1,vo1,eff1,vt⟩=>(min n 65536).toNat - k) (0,s,[],wl,vo,eff,_) ⟨.nil,Nat.zero_le _,hwl,Nat.le_refl _,hvo⟩ (Front.c Front.nil) (fun i hi m hm=>?_)
 obtain ⟨k,t,tr,wl1,vo1,eff1,vt⟩:=i
 dsimp only at hi hm
 change Tr _ _ [rowE vt 23 aa tr,cellE bc (bD t bM vi vo1 eff1) 129,mapE bm u8V wl1,rowE vo1 23 aa t.out,cellE b1 [.int .i64 0,.slice none 0 0,.int .i64 0] 60] ([(6,vt)] ++ _) _
 obtain ⟨hR,hk,hwl1,hwn1,hvo1⟩:=hi
 have hrl:=hR.len
 refine zR9 ?_
 apply cj 6 17 23 (fun hT3 hT3'=>?_) ?_; rotate_right
 ·refine zR3 ?_
  refine zz5 hT3 (dP rfl) ?_
  exact zE
 refine zz0 (ae rfl) ?_
 apply cj 6 24 30 (fun hT4 hT4'=>?_) ?_; rotate_right
 ·refine zR3 ?_
  refine zz5 hT4 (dP rfl) ?_
  exact zE
 refine zR2 ?_
 refine af rfl (fun h5=>?_) (fun h5=>?_)
 ·refine dy ?_
  refine g7 (E:=aa) t.m.pc rfl rfl au aj ba (fun V6=>?_)
  refine zz3 rfl rfl au dA (fun V44=>?_)
  refine zR5 ?_
  refine db (fun _:WL × Value × Value=>.int .i64 (stepS l inp t).2) [cellE bc (bD t bM vi vo1 eff1) 129,mapE bm u8V wl1,rowE vo1 23 aa t.out] (fun j=>[cellE bc (bD (stepS l inp t).1 bM vi j.2.1 j.2.2) 129,mapE bm u8V j.1,rowE j.2.1 23 aa (stepS l inp t).1.out]) (ok:=fun j=>dZ j.1=(stepS l inp t).1.w∧j.1.length≤wl1.length+4∧∃ a n c,j.2.1=.slice a n c) (dd:=fun _=>0) rfl Tryz.call59 (by repeat' constructor) (fun w hw=>Nat.le_refl _) (fun w hw=>Kl t bc bM bm VR vi vo1 eff1 rs l wl1 inp w (hw.own (by repeat' constructor)) (hC.mono (hw.lessB (Lo:=[cellE bc (bD t bM vi vo1 eff1) 129,mapE bm u8V wl1,rowE vo1 23 aa t.out]) (by repeat' constructor))) hO hwl1 hvo1) rfl (fun j hj=>zR3 ?_)
  apply fW (k+1,(stepS l inp t).1,tr ++ [t.m.pc],j.1,j.2.1,j.2.2,V44)
  ·exact rfl
  ·exact (Front.c Front.nil)
  ·exact zz9 21 rfl
  ·exact (by repeat' constructor)
  ·exact ⟨.snoc hR (by simp_all) (by simp_all),by omega,hj.1,by have:=hj.2.1; show j.1.length≤_; omega,hj.2.2⟩
  exact (by show (min n 65536).toNat - (k+1)<m; omega)
 refine zR5 ?_
 have hol1:=hR.out_len hol
 have hfu:=hR.full (n:=(min n 65536).toNat) hk (by by_cases hq:k=(min n 65536).toNat; exact .inl hq; right; rintro ⟨q1,q2⟩; simp_all; omega)
 refine ga (ι:=Option Addr × Nat × Nat) (fun ⟨pq,cq,bq⟩=>True) (fun _=>(Bg.lessB w (aT [cellE bc (bD s bM vi vo eff) 129,mapE bm u8V wl,rowE vo 23 aa s.out]) 0)) (fun ⟨pq,cq,bq⟩=>[cellE bq [.int .i64 t.err,.slice pq t.out.length cq,.int .i64 (tr.length:Nat)] 60,rowE (.slice pq t.out.length cq) 23 aa t.out,cellE bc (bD t bM vi vo1 eff1) 129,mapE bm u8V wl1,rowE vo1 23 aa t.out,rowE vt 23 aa tr,cellE b1 [.int .i64 0,.slice none 0 0,.int .i64 0] 60]) (fun ⟨pq,cq,bq⟩=>[(7,.pointer (some ⟨bq,0,none⟩))]) ?_ (fun i hi=>?_)
 ·skip
  refine aL ([cellE bc (bD t bM vi vo1 eff1) 129,mapE bm u8V wl1,rowE vo1 23 aa t.out,rowE vt 23 aa tr]) 14 rfl ak ?_
  refine zz1 0 rfl (ae rfl) ?_
  refine zz1 1 rfl (aA rfl) ?_
  refine zz1 2 rfl (aD rfl) ?_
  refine zz1 3 rfl (dP rfl) ?_
  refine zz1 4 rfl (ae rfl) ?_
  refine zz1 5 rfl (aA rfl) ?_
  refine zz1 6 rfl (aD rfl) ?_
  refine zz1 7 rfl (dP rfl) ?_
  refine zz1 9 rfl (ae rfl) ?_
  refine lH [8,10,12] (fun iq hq=>?_)
  rcases List.mem_cons.1 hq with rfl|hq
  ·skip
   refine bY rfl ?_
   refine dj rfl j9 (fun w hw=>jY t.out _ w (hw.row (by repeat constructor)) (by omega)) rfl (fun V45=>?_)
   refine fq (V:=V45) (fun pq cq hpv=>?_)
   subst hpv
   refine ay ?_
   refine lH [10,12] (fun iq hq=>?_)
   rcases List.mem_cons.1 hq with rfl|hq
   ·skip
    refine bY rfl (zz0 (nN rfl) ?_)
    refine ay ?_
    refine zz1 11 rfl (lG (vs:=[(0,_),(1,_),(2,_)]) (cs:=#[.int .i64 t.err,.slice pq t.out.length cq,.int .i64 (tr.length:Nat)]) rfl rfl) ?_
    refine ao 12 rfl ?_
    refine bS gK rfl (fun b7=>?_)
    refine ay ?_
    refine ao 13 rfl ?_
    refine zz7 rfl rfl ie ?_
    refine ay ?_
    refine dK (az ?_)
    refine aQ (_,_,_) (Front.c Front.nil) (zz9 13 rfl) (o:=trivial)
   obtain rfl:=List.mem_singleton.1 hq
   refine bY rfl ?_
   refine bS gK rfl (fun b8=>?_)
   refine ay ?_
   refine ao 10 rfl (zz0 (nN rfl) ?_)
   refine ay ?_
   refine zz1 11 rfl (lG (vs:=[(0,_),(1,_),(2,_)]) (cs:=#[.int .i64 t.err,.slice pq t.out.length cq,.int .i64 (tr.length:Nat)]) rfl rfl) ?_
   refine ao 13 rfl ?_
   refine zz7 rfl rfl ie ?_
   refine ay ?_
   refine dK (az ?_)
   refine aQ (_,_,_) (Front.c Front.nil) (zz9 13 rfl) (o:=trivial)
  rcases List.mem_cons.1 hq with rfl|hq
  ·skip
   refine bY rfl (zz0 (nN rfl) ?_)
   refine ay ?_
   refine lH [8,12] (fun iq hq=>?_)
   rcases List.mem_cons.1 hq with rfl|hq
   ·skip
    refine bY rfl ?_
    refine dj rfl j9 (fun w hw=>jY t.out _ w (hw.row (by repeat constructor)) (by omega)) rfl (fun V45=>?_)
    refine fq (V:=V45) (fun pq cq hpv=>?_)
    subst hpv
    refine ay ?_
    refine zz1 11 rfl (lG (vs:=[(0,_),(1,_),(2,_)]) (cs:=#[.int .i64 t.err,.slice pq t.out.length cq,.int .i64 (tr.length:Nat)]) rfl rfl) ?_
    refine ao 12 rfl ?_
    refine bS gK rfl (fun b9=>?_)
    refine ay ?_
    refine ao 13 rfl ?_
    refine zz7 rfl rfl ie ?_
    refine ay ?_
    refine dK (az ?_)
    refine aQ (_,_,_) (Front.c Front.nil) (zz9 13 rfl) (o:=trivial)
   obtain rfl:=List.mem_singleton.1 hq
   refine bY rfl ?_
   refine bS gK rfl (fun b10=>?_)
   refine ay ?_
   refine ao 8 rfl ?_
   refine dj rfl j9 (fun w hw=>jY t.out _ w (hw.row (by repeat constructor)) (by omega)) rfl (fun V45=>?_)
   refine fq (V:=V45) (fun pq cq hpv=>?_)
   subst hpv
   refine ay ?_
   refine zz1 11 rfl (lG (vs:=[(0,_),(1,_),(2,_)]) (cs:=#[.int .i64 t.err,.slice pq t.out.length cq,.int .i64 (tr.length:Nat)]) rfl rfl) ?_
   refine ao 13 rfl ?_
   refine zz7 rfl rfl ie ?_
   refine ay ?_
   refine dK (az ?_)
   refine aQ (_,_,_) (Front.c Front.nil) (zz9 13 rfl) (o:=trivial)
  obtain rfl:=List.mem_singleton.1 hq
  refine bY rfl ?_
  refine bS gK rfl (fun b11=>?_)
  refine ay ?_
  refine lH [8,10] (fun iq hq=>?_)
  rcases List.mem_cons.1 hq with rfl|hq
  ·skip
   refine bY rfl ?_
   refine dj rfl j9 (fun w hw=>jY t.out _ w (hw.row (by repeat constructor)) (by omega)) rfl (fun V45=>?_)
   refine fq (V:=V45) (fun pq cq hpv=>?_)
   subst hpv
   refine ay ?_
   refine ao 10 rfl (zz0 (nN rfl) ?_)
   refine ay ?_
   refine zz1 11 rfl (lG (vs:=[(0,_),(1,_),(2,_)]) (cs:=#[.int .i64 t.err,.slice pq t.out.length cq,.int .i64 (tr.length:Nat)]) rfl rfl) ?_
   refine ao 13 rfl ?_
   refine zz7 rfl rfl ie ?_
   refine ay ?_
   refine dK (az ?_)
   refine aQ (_,_,_) (Front.c Front.nil) (zz9 13 rfl) (o:=trivial)
  obtain rfl:=List.mem_singleton.1 hq
  refine bY rfl (zz0 (nN rfl) ?_)
  refine ay ?_
  refine ao 8 rfl ?_
  refine dj rfl j9 (fun w hw=>jY t.out _ w (hw.row (by repeat constructor)) (by omega)) rfl (fun V45=>?_)
  refine fq (V:=V45) (fun pq cq hpv=>?_)
  subst hpv
  refine ay ?_
  refine zz1 11 rfl (lG (vs:=[(0,_),(1,_),(2,_)]) (cs:=#[.int .i64 t.err,.slice pq t.out.length cq,.int .i64 (tr.length:Nat)]) rfl rfl) ?_
  refine ao 13 rfl ?_
  refine zz7 rfl rfl ie ?_
  refine ay ?_
  refine dK (az ?_)
  refine aQ (_,_,_) (Front.c Front.nil) (zz9 13 rfl) (o:=trivial)
 obtain ⟨pq,cq,bq⟩:=i
 replace hi:True:=hi
 change Tr _ _ [cellE bq [.int .i64 t.err,.slice pq t.out.length cq,.int .i64 (tr.length:Nat)] 60,rowE (.slice pq t.out.length cq) 23 aa t.out,cellE bc (bD t bM vi vo1 eff1) 129,mapE bm u8V wl1,rowE vo1 23 aa t.out,rowE vt 23 aa tr,cellE b1 [.int .i64 0,.slice none 0 0,.int .i64 0] 60] ([(7,.pointer (some ⟨bq,0,none⟩))] ++ _) _
 refine fC (.of (ι:=Int) (fun er=>er=LZ t) (fun _=>(Bg.lessB w (aT [cellE bc (bD s bM vi vo eff) 129,mapE bm u8V wl,rowE vo 23 aa s.out]) 0)) (fun er=>[cellE bq [.int .i64 er,.slice pq t.out.length cq,.int .i64 (tr.length:Nat)] 60,rowE (.slice pq t.out.length cq) 23 aa t.out,cellE bc (bD t bM vi vo1 eff1) 129,mapE bm u8V wl1,rowE vo1 23 aa t.out,rowE vt 23 aa tr,cellE b1 [.int .i64 0,.slice none 0 0,.int .i64 0] 60]) (fun er=>[])) ?_ (fun er hi=>?_)
 ·skip
  refine zR8 ?_
  apply cj 6 58 64 (fun hT12 hT12'=>?_) ?_; rotate_right
  ·refine zR3 ?_
   refine zz5 hT12 (dP rfl) ?_
   exact zE
  refine zR2 ?_
  refine af rfl (fun h13=>?_) (fun h13=>?_)
  ·refine aP (zz0 (aD rfl) (zz4 (cs':=[_,_,_]) rfl rfl Tryz.sizeOf32 rfl ?_))
   refine zR2 ?_
   refine aQ 15 Front.nil (zz9 8 rfl) (o:=(by show _=_; unfold LZ; clear hfu; rw [if_pos (by simp_all)]))
  refine zR2 ?_
  refine aQ t.err Front.nil (zz9 7 rfl) (o:=(by show _=_; unfold LZ; clear hfu; rw [if_neg (fun q=>by obtain ⟨q1,q2⟩:=q; simp_all)]))
 skip
 refine bE (aL ([cellE bq [.int .i64 er,.slice pq t.out.length cq,.int .i64 (tr.length:Nat)] 60]) 4 rfl ak ?_)
 refine zz1 0 rfl (ae rfl) ?_
 refine zz1 1 rfl (bU rfl) ?_
 refine zz1 2 rfl (bh rfl) ?_
 refine ao 3 rfl ?_
 refine zz7 rfl rfl ie ?_
 refine ay ?_
 refine dK (zR2 ?_)
 refine zk Tryz.results19 rfl rfl (by repeat constructor) Tryz.isAgg60 ie (by rfl) (fun w' hw=>?_)
 obtain ⟨e1,e2⟩:=hfu
 have hrl2:=hR.len
 subst hi
 exact ⟨(wl1,vo1,eff1,vt,.slice pq t.out.length cq),by rw [← e1,← e2]; try rfl,by rw [← e1,← e2]; exact hw.upd (Bg.le.refl _) (by repeat' constructor),by rw [← e1,← e2]; exact ⟨hwl1,by show wl1.length≤_; omega,hvo1⟩⟩
theorem ID (p:UInt32) (w:World) :
  Cr Tryz.prog 56 #[.int .u32 p.toNat] w (.agg (Oh.enc (Km p)).toArray):=by
 refine enter Tryz.func56 rfl Tryz.ntmps56 rfl (zR2 ?_)
 refine bS Tryz.zeroValue124 rfl (fun b1=>zR4 ?_)
 refine bS Tryz.zeroValue124 rfl (fun b2=>zR5 ?_)
 refine zz0 (fX rfl rfl aY aj) ?_
 refine zz4 (cs':=[_,_,_,_,_,_,_,_,_,_,_,_,_]) rfl rfl aj rfl ?_
 refine zR6 ?_
 refine zz4 (cs':=[_,_,_,_,_,_,_,_,_,_,_,_,_]) rfl rfl aj rfl ?_
 refine zR5 ?_
 refine ad Oh rfl rfl Tryz.sizeOf124 ?_
 refine zR3 ?_
 refine d6 Tryz.results56 rfl Tryz.isAgg124 Tryz.sizeOf124 (fun w' hw=>?_)
 exact ⟨rfl,hw.b0⟩
end Go.Proofs.YtiajjbhcpeadfaaGreat
namespace Go.Proofs.YtiajjbhcpeadfaaGreat
open Go Go.HL Go.RowKit
theorem K5 (bM0 bm0:Nat) (VR0 vi0:Value) (rs:List RegV) (l:List SecV) (wl:WL) (p:UInt32) (inp:List UInt32) (w:World) (hM:MemAt (hp w) bM0 bm0 VR0 rs) (hW:MapIn (hp w) bm0 u8V wl) (hO:MemOK l rs) (hwl:dZ wl=fun _=>none) (hin:Sl (hp w) aa inp vi0) (hil:inp.length≤4096) :
  Calls Tryz.prog 18 #[.pointer (some ⟨bM0,0,none⟩),.int .u32 p.toNat,vi0] w (fun e w'=>∃ j:Nat × Nat × Nat × Value × Value × WL,e=.returned (.tuple #[.pointer (some ⟨j.1,0,none⟩),.int .i64 0])∧Below w.heap.size w w'∧NewEnts w w' [cellE j.1 (bD (lj p) j.2.1 j.2.2.2.2.1 (.slice none 0 0) .nilFunc) 129,mapE j.2.2.1 u8V j.2.2.2.2.2,rowE (.slice none 0 0) 23 aa [],cellE j.2.1 [j.2.2.2.1,.map (some j.2.2.1)] 102,rowE j.2.2.2.1 107 du rs,rowE j.2.2.2.2.1 23 aa inp]∧(dZ j.2.2.2.2.2=(lj p).w∧j.2.2.2.2.2.length≤wl.length+4)):=by
 have hM':MemAt (Bg.of0 w).blk bM0 bm0 VR0 rs:=hM
 have hW':MapIn (Bg.of0 w).blk bm0 u8V wl:=hW
 have hin':Sl (Bg.of0 w).blk aa inp vi0:=hin
 have hrl:=hO.bounds.1
 refine lT Tryz.func18 rfl Tryz.ntmps18 rfl (zR9 ?_)
 refine il (fun i:Nat × Nat × Value=>.pointer (some ⟨i.1,0,none⟩)) (fun i=>[cellE i.1 [i.2.2,.map (some i.2.1)] 102,mapE i.2.1 u8V wl,rowE i.2.2 107 du rs]) (ok:=fun _=>True) rfl Tryz.call54 (fun w hw=>Lf bM0 bm0 VR0 rs wl w (hM'.mono hw.bg) (hW'.mono hw.bg) (by omega)) rfl (fun i _=>zR7 ?_)
 refine zz0 (uS rfl rfl jh rfl) (zR2 ?_)
 refine dw rfl ?_ ?_ <;> intro h1 <;> try simp only [bs] at h1
 ·first|contradiction|(exfalso; omega)|simp_all
 refine df ?_
 refine dw rfl ?_ ?_ <;> intro h2 <;> try simp only [bs] at h2
 ·first|contradiction|(exfalso; omega)|simp_all
 refine zR6 ?_
 refine db (fun _:WL=>.int .i64 0) [mapE i.2.1 u8V wl] (fun wl'=>[mapE i.2.1 u8V wl']) (ok:=fun wl'=>dZ wl'=(lj p).w∧wl'.length≤wl.length+4) (dd:=fun _=>0) rfl qq (by repeat' constructor) (fun w hw=>Nat.le_of_eq rfl) (fun w hw=>by have q:=ny i.1 i.2.1 i.2.2 rs l 983036 4 4294967295 wl w (hw.own (by repeat' constructor)) (FW hw (by repeat' constructor) (by repeat constructor) (by repeat constructor) hM'.data) hO; rw [IC,hwl] at q; exact q) rfl (fun wl2 hw2=>zR9 ?_)
 refine dw rfl ?_ ?_ <;> intro h3 <;> try simp only [bs] at h3
 ·first|contradiction|(exfalso; omega)|simp_all
 refine mG (bE (aR 23 aa (zR2 ?_)))
 refine zz0 (ac rfl Tryz.call56 (fun w hw=>ID p w)) (zR2 ?_)
 refine dj rfl j9 (fun w hw=>jY inp vi0 w (hw.slF hin') (by omega)) rfl (fun V46=>?_)
 refine fq (V:=V46) (fun pi ci hpv=>?_)
 subst hpv
 refine zz0 (lG (vs:=[(0,_),(1,_),(2,_)]) (cs:=(bD (lj p) i.1 (.slice pi inp.length ci) (.slice none 0 0) .nilFunc).toArray) rfl rfl) ?_
 refine cm (cs:=(bD (lj p) i.1 (.slice pi inp.length ci) (.slice none 0 0) .nilFunc)) rfl rfl (fun b47=>zR5 ?_)
 exact bV Tryz.results18 rfl rfl fun w' hw=>⟨(b47,i.1,i.2.1,i.2.2,.slice pi inp.length ci,wl2),rfl,hw.below0 (Bg.le.refl _),hw.ents0 rfl (by repeat' constructor),hw2⟩
end Go.Proofs.YtiajjbhcpeadfaaGreat
namespace Go.Proofs.YtiajjbhcpeadfaaGreat
open Go Go.HL Go.RowKit
theorem Gs (li:List Ins) (rs:List (RV UInt32)) (at_ tr:List UInt32) (Vi Ve Vu Vb VT VA VR:Value) (w:World) (hI:Sl (hp w) am li Vi) (hok:∀ i∈li,InsOK i) (hT:Sl (hp w) cK rs VT) (hR:RvIn aa (hp w) rs) (hA:Sl (hp w) aa at_ VA) (hTr:Sl (hp w) aa tr VR) (hl:rs.length=at_.length) (htl:tr.length≤100000) :
  Cr Tryz.prog 20 #[.agg #[Vi,Ve,Vu,Vb],VT,VA,VR] w (.bool (mC li (rs.map (·.data)) at_ [] tr)):=by
 have hI':Sl (Bg.of w).blk am li Vi:=hI
 have hT':Sl (Bg.of w).blk cK rs VT:=hT
 have hR':RvIn aa (Bg.of w).blk rs:=hR
 have hA':Sl (Bg.of w).blk aa at_ VA:=hA
 have hTr':Sl (Bg.of w).blk aa tr VR:=hTr
 have hlt:=hTr.len_le
 have hla:=hA.len_le
 refine enter Tryz.func20 rfl Tryz.ntmps20 rfl (zR2 ?_)
 refine cm rfl rfl (fun b1=>qE ?_)
 refine aR 23 aa ?_
 refine dO (ι:=Nat × List UInt32 × Value) (fun ⟨k,cl,Vc⟩=>(k=0∨k<tr.length)∧cl.length≤k∧mC li (rs.map (·.data)) at_ cl (tr.drop k)=mC li (rs.map (·.data)) at_ [] tr) (fun _=>_) (fun ⟨k,cl,Vc⟩=>[rowE Vc 23 aa cl,cellE b1 [Vi,Ve,Vu,Vb] 52]) (fun ⟨k,cl,Vc⟩=>[(10,.int .i64 (k:Nat)),(9,Vc)]) (fun ⟨k,cl,Vc⟩=>tr.length - k) (0,[],_) ⟨.inl rfl,Nat.le_refl _,rfl⟩ (Front.c (Front.c Front.nil)) (fun i hi m hm=>?_)
 obtain ⟨k,cl,Vc⟩:=i
 dsimp only at hi hm
 change Tr _ _ [rowE Vc 23 aa cl,cellE b1 [Vi,Ve,Vu,Vb] 52] ([(10,.int .i64 (k:Nat)),(9,Vc)] ++ _) _
 obtain ⟨hk1,hcl,hfo⟩:=hi
 refine zR4 ?_
 refine zz0 (aZ rfl rfl) (zR5 ?_)
 refine af rfl (fun h2=>?_) (fun h2=>?_)
 ·refine zR4 ?_
  obtain ⟨fi,hfi⟩:∃ fi,fi=f8 li (tr.getD k default):=⟨_,rfl⟩
  refine fC (.of (ι:=Nat) (fun b=>True) (fun _=>Bg.of w) (fun b=>[cellE b (am.enc fi.1) 36,rowE Vc 23 aa cl,cellE b1 [Vi,Ve,Vu,Vb] 52]) (fun b=>[(11,.pointer (some ⟨b,0,none⟩)),(12,.bool fi.2)])) ?_ (fun b hi=>?_)
  ·skip
   refine aL ([cellE b1 [Vi,Ve,Vu,Vb] 52]) 12 rfl ak ?_
   refine zz1 0 rfl (bU rfl) ?_
   refine zz1 1 rfl (ae rfl) ?_
   refine zz1 2 rfl (ae rfl) ?_
   refine zz1 3 rfl (nO rfl rfl) ?_
   refine zz1 4 rfl (pP rfl) ?_
   refine lH [5,9] (fun iq hq=>?_)
   rcases List.mem_cons.1 hq with rfl|hq
   ·skip
    refine bY rfl ?_
    refine zz0 (ac rfl Tryz.call30 (fun w hw=>by have q:=HM li (tr.getD k default) Vi Ve Vu Vb w (hw.slF hI'); rw [← hfi] at q; exact q)) ?_
    refine ay ?_
    refine zz1 6 rfl (ae rfl) ?_
    refine zz1 7 rfl (eo rfl rfl) ?_
    refine zz1 8 rfl (eo rfl rfl) ?_
    refine ao 9 rfl ?_
    refine bS aJ rfl (fun b3=>?_)
    refine ay ?_
    refine ao 10 rfl ?_
    refine ad am rfl rfl aw ?_
    refine ay ?_
    refine zz1 11 rfl (bh rfl) ?_
    refine dK (az ?_)
    refine aQ _ (Front.c (Front.c Front.nil)) (zz9 11 rfl) (o:=trivial)
   obtain rfl:=List.mem_singleton.1 hq
   refine bY rfl ?_
   refine bS aJ rfl (fun b4=>?_)
   refine ay ?_
   refine ao 5 rfl ?_
   refine zz0 (ac rfl Tryz.call30 (fun w hw=>by have q:=HM li (tr.getD k default) Vi Ve Vu Vb w (hw.slF hI'); rw [← hfi] at q; exact q)) ?_
   refine ay ?_
   refine zz1 6 rfl (ae rfl) ?_
   refine zz1 7 rfl (eo rfl rfl) ?_
   refine zz1 8 rfl (eo rfl rfl) ?_
   refine ao 10 rfl ?_
   refine ad am rfl rfl aw ?_
   refine ay ?_
   refine zz1 11 rfl (bh rfl) ?_
   refine dK (az ?_)
   refine aQ _ (Front.c (Front.c Front.nil)) (zz9 11 rfl) (o:=trivial)
  skip
  refine zR7 ?_
  refine af rfl (fun h5=>?_) (fun h5=>?_)
  ·have hf0:=h5
   refine fu ?_
   exact ah lB rfl fun w' hw=>⟨by rw [← hfo,vv (k:=k) (by omega),← hfi,if_pos (by simpa using hf0)],hw.b0⟩
  have hf1:fi.2=true:=by simpa using h5
  obtain ⟨hin,hadr⟩:=Ez (ins:=li) (a:=(tr.getD k default)) (by rw [← hfi]; exact hf1)
  rw [← hfi] at hin hadr
  refine zR6 ?_
  refine zz0 (aZ rfl rfl) (zR5 ?_)
  obtain ⟨y,hy⟩:∃ y,y=tr.getD ((k:Int)+1).toNat default:=⟨_,rfl⟩
  rw [← hy]
  rw [show ((k:Int)+1).toNat=k+1 by omega] at hy
  refine fC (.of (ι:=Unit) (fun u=>kL fi.1=true→0≤(bK (fun a=>decide (a=(tr.getD k default))) 0 at_)∧y∈((rs.map (·.data)).getD (bK (fun a=>decide (a=(tr.getD k default))) 0 at_).toNat default)) (fun _=>Bg.of w) (fun u=>[cellE b (am.enc fi.1) 36,rowE Vc 23 aa cl,cellE b1 [Vi,Ve,Vu,Vb] 52]) (fun u=>[])) ?_ (fun u hi=>?_)
  ·skip
   refine zR3 ?_
   refine zz0 (ac rfl Tryz.call31 (fun w hw=>Jf fi.1 w (hok _ hin))) (zR2 ?_)
   refine af rfl (fun h6=>?_) (fun h6=>?_)
   ·have hd:kL fi.1=true:=h6
    refine zR7 ?_
    refine ed (.of (ι:=Nat) (fun n=>n≤at_.length∧bK (fun a=>decide (a=(tr.getD k default))) n (at_.drop n)=(bK (fun a=>decide (a=(tr.getD k default))) 0 at_)) (fun _=>_) (fun n=>[cellE b (am.enc fi.1) 36,rowE Vc 23 aa cl,cellE b1 [Vi,Ve,Vu,Vb] 52]) (fun n=>[(14,.int .i64 (n:Nat))]) (fun n=>at_.length - n)) 0 ⟨Nat.zero_le _,rfl⟩ (Front.c Front.nil) (fun n hi m hm=>?_)
    obtain ⟨hn1,hn2⟩:=hi
    refine bE (bE (ip ak (zT2 ?_)))
    refine aB (zA rfl) (zT2 ?_)
    apply eW
    ·exact (rfl:_=(8,44,52))
    ·exact rfl
    ·intro hT7; have hT7':=hT7
     try simp only [bs] at hT7'
     refine zT6 ?_
     refine eI hT7 (iQ rfl rfl) (aB (eY rfl hT7 rfl) ?_)
     exact cg (Sub.cons rfl (zz8 8 rfl))
    ·intro hF7
     refine zT8 ?_
     exact cg (Sub.cons rfl (zz8 8 rfl))
    refine zT2 ?_
    refine af rfl (fun h8=>?_) (fun h8=>?_)
    ·have hne:=h8
     refine zR5 ?_
     refine zz0 (aZ rfl rfl) (zR4 ?_)
     refine bC (n+1) (Front.c Front.nil) (zz9 10 rfl) (o:=⟨by omega,by rw [← hn2,drop_cons (k:=n) (by omega),bK,if_neg (fun q=>hne.2 ((of_decide_eq_true q).trans hadr.symm))]⟩)
    have hex:=h8
    refine jz ?_
    apply cE 5 59 64 (fun hF9 hF9'=>?_) ?_; rotate_right
    ·exact zE
    refine zR2 ?_
    refine af rfl (fun h10=>?_) (fun h10=>?_)
    ·have hge:at_.length≤n:=by have:=h10; omega
     have hix:(bK (fun a=>decide (a=(tr.getD k default))) 0 at_)=-1:=by rw [← hn2,List.drop_of_length_le hge]; rfl
     refine xz ?_
     exact ah lB rfl fun w' hw=>⟨by rw [← hfo,vv (k:=k) (by omega),← hfi,← hy,if_neg (by simp [hf1]),if_pos ⟨hd,by rw [hix]; decide⟩]; simp; omega,hw.b0⟩
    have hlt2:n<at_.length:=by have:=h10; omega
    have han:at_.getD n default=(tr.getD k default):=by
     rcases hex with q|q
     ·exact absurd q (by omega)
     ·exact q.trans hadr
    have hix:(bK (fun a=>decide (a=(tr.getD k default))) 0 at_)=(n:Int):=by rw [← hn2,drop_cons hlt2,bK,if_pos (decide_eq_true han)]
    have htx:((rs.map (·.data)).getD (bK (fun a=>decide (a=(tr.getD k default))) 0 at_).toNat default)=(rs.getD n default).data:=by rw [hix]; exact Nv (by omega)
    refine zR9 ?_
    refine zz0 (ac rfl Tryz.call32 (fun w hw=>Jn (rs.getD n default).data _ y w (hw.slF (hR' _ (bB (by omega)))))) (zR3 ?_)
    refine af rfl (fun h11=>?_) (fun h11=>?_)
    ·have hnm:¬ y∈((rs.map (·.data)).getD (bK (fun a=>decide (a=(tr.getD k default))) 0 at_).toNat default):=by rw [htx,← Ep]; simp_all
     refine fu ?_
     exact ah lB rfl fun w' hw=>⟨by rw [← hfo,vv (k:=k) (by omega),← hfi,← hy,if_neg (by simp [hf1]),if_neg (fun q=>by have:=q.2; rw [hix] at this; omega),if_pos ⟨hd,hnm⟩],hw.b0⟩
    have hmem:y∈((rs.map (·.data)).getD (bK (fun a=>decide (a=(tr.getD k default))) 0 at_).toNat default):=by rw [htx,← Ep]; simp_all
    refine zR2 ?_
    refine aQ () Front.nil (zz9 23 rfl) (o:=(fun _=>⟨by rw [hix]; omega,hmem⟩))
   have hd:kL fi.1=false:=by simpa using h6
   refine zR2 ?_
   refine aQ () Front.nil (zz9 2 rfl) (o:=(fun q=>by rw [hd] at q; cases q))
  skip
  have hj:=hi
  refine ga (ι:=List UInt32 × Value) (fun ⟨c2,V2⟩=>c2=if fi.1.op=23∨fi.1.op=24 then cl ++ [aV fi.1] else cl) (fun _=>Bg.of w) (fun ⟨c2,V2⟩=>[cellE b (am.enc fi.1) 36,rowE V2 23 aa c2,cellE b1 [Vi,Ve,Vu,Vb] 52]) (fun ⟨c2,V2⟩=>[(9,V2)]) ?_ (fun i hi=>?_)
  ·skip
   refine zR6 ?_
   apply cE 4 79 83 (fun hF12 hF12'=>?_) ?_; rotate_right
   ·exact zE
   refine zR2 ?_
   refine af rfl (fun h13=>?_) (fun h13=>?_)
   ·refine zR3 ?_
    refine zz0 (ac rfl lX (fun w hw=>nw fi.1 w (hok _ hin))) ?_
    refine g7 (E:=aa) (aV fi.1) rfl rfl au aj ba (fun V14=>?_)
    refine zz3 rfl rfl au dA (fun V15=>?_)
    refine zR3 ?_
    refine aQ (_,_) (Front.c Front.nil) (zz9 11 rfl) (o:=(by show _=_; rw [if_pos (by simp_all)]))
   refine zR2 ?_
   refine aQ (_,_) (Front.c Front.nil) (zz9 5 rfl) (o:=(by show _=_; rw [if_neg (by simp_all)]))
  obtain ⟨c2,V2⟩:=i
  replace hi:c2=if fi.1.op=23∨fi.1.op=24 then cl ++ [aV fi.1] else cl:=hi
  change Tr _ _ [cellE b (am.enc fi.1) 36,rowE V2 23 aa c2,cellE b1 [Vi,Ve,Vu,Vb] 52] ([(9,V2)] ++ _) _
  have hc:=hi
  refine zR7 ?_
  refine af rfl (fun h16=>?_) (fun h16=>?_)
  ·have h2:fi.1.op=2:=h16
   have hc2:c2=cl:=by rw [hc]; rw [if_neg (by omega)]
   rw [← hc2] at hfo hcl
   refine zR7 ?_
   apply cE 9 95 104 (fun hF17 hF17'=>?_) ?_; rotate_right
   ·refine zR2 ?_
    refine zz5 hF17 (nN rfl) ?_
    refine zz5 hF17 (dB rfl rfl) ?_
    refine zz5 hF17 (kT rfl rfl) ?_
    refine zz5 hF17 (sB rfl) (zz5 hF17 (ae rfl) ?_)
    refine zz5 hF17 (iQ rfl rfl) ?_
    exact zE
   refine zR2 ?_
   refine af rfl (fun h18=>?_) (fun h18=>?_)
   ·have hlast:=NV h18
    refine fu ?_
    exact ah lB rfl fun w' hw=>⟨by rw [← hfo,vv (k:=k) (by omega),← hfi,← hy,if_neg (by simp [hf1]),if_neg (fun q=>by have:=(hj q.1).1; omega),if_neg (fun q=>q.2 (hj q.1).2),if_pos h2,if_pos hlast],hw.b0⟩
   obtain ⟨c3,hc3⟩:=NW (by have:=h18; simp_all) (by have:=h18; simp_all:c2.getD ((c2.length:Int) - 1).toNat default=y)
   clear hc hc2
   subst hc3
   refine zR6 ?_
   refine zz0 (dB rfl rfl) ?_
   rw [show (((c3 ++ [y]).length:Nat):Int) - 1=((c3.length:Nat):Int) by simp]
   refine zz0 (zq (n:=c3.length) rfl (by repeat constructor) rfl au aj rfl (by simp)) (zz0 (bh rfl) ?_)
   refine JH (xs:=c3 ++ [y]) c3.length (by simp) (by repeat constructor) ?_
   rw [List.take_left]
   refine zR5 ?_
   refine zz0 (aZ rfl rfl) (zR3 ?_)
   refine bC (k+1,c3,_) (Front.c (Front.c Front.nil)) (zz9 35 rfl) (o:=⟨.inr (by omega),by have:=hcl; rw [List.length_append,List.length_singleton] at this; show c3.length≤k+1; omega,by show mC li (rs.map (·.data)) at_ c3 (tr.drop (k+1))=_; rw [← hfo,vv (k:=k) (by omega),← hfi,← hy,if_neg (by simp [hf1]),if_neg (fun q=>by have:=(hj q.1).1; omega),if_neg (fun q=>q.2 (hj q.1).2),if_pos h2,if_neg (by simp),List.dropLast_concat]⟩)
  have h2:¬ fi.1.op=2:=h16
  refine zR5 ?_
  refine zz0 (aZ rfl rfl) (zR3 ?_)
  refine bC (k+1,c2,_) (Front.c (Front.c Front.nil)) (zz9 24 rfl) (o:=⟨.inr (by omega),by show c2.length≤k+1; rw [hc]; split <;> (try rw [List.length_append,List.length_singleton]) <;> omega,by show mC li (rs.map (·.data)) at_ c2 (tr.drop (k+1))=_; rw [← hfo,vv (k:=k) (by omega),← hfi,← hy,if_neg (by simp [hf1]),if_neg (fun q=>by have:=(hj q.1).1; omega),if_neg (fun q=>q.2 (hj q.1).2),if_neg h2,← hc]⟩)
 refine dy ?_
 exact ah lB rfl fun w' hw=>⟨by rw [← hfo,NZ (by omega)],hw.b0⟩
theorem Af (l:List SecV) (pV:Option Addr) (cV:Nat) (e0:UInt32) (inp:List UInt32) (Vin:Value) (w:World) (hV:Sl (hp w) cD l (.slice pV l.length cV)) (hD:DataIn (hp w) l) (hz:∀ s∈l,s.data.length≤140737488351232) (hN:∀ s∈l,s.name.size≤140737488351232) (hIn:Sl (hp w) aa inp Vin) (hc:cF l≠0) :
  Calls Tryz.prog 4 #[(.slice pV l.length cV),.int .u32 e0.toNat,Vin] w (fun e w'=>e=.returned (.bool true)∧Below w.heap.size w w'):=by
 have hV':Sl (Bg.of0 w).blk cD l (.slice pV l.length cV):=hV
 have hD':DataIn (Bg.of0 w).blk l:=hD
 have hIn':Sl (Bg.of0 w).blk aa inp Vin:=hIn
 have hvl:=hV.len_le
 refine lT Tryz.func4 rfl Tryz.ntmps4 rfl (zR9 ?_)
 refine zz0 (ac rfl Tryz.call10 (fun w hw=>Ds l (.slice pV l.length cV) w (hw.slF hV') hz)) (zR2 ?_)
 apply cE 4 21 25 (fun hF1 hF1'=>?_) ?_; rotate_right
 ·exact zE
 refine zR2 ?_
 refine af rfl (fun h2=>?_) (fun h2=>?_)
 ·have hq1:=h2
  refine eO (zz0 (nR rfl rfl lY (fun w hw=>kN w)) (zR5 ?_))
  exact ah jN rfl fun w' hw=>⟨rfl,hw.below0 (Bg.le.refl _)⟩
 have hq1:vY l=true∧inp.length≤20:=by have:=h2; constructor <;> first|(simp_all; done)|omega
 obtain ⟨hB,hto⟩:=Hm hq1.1
 have hil:=hq1.2
 refine zR9 ?_
 refine ed (.of (ι:=Nat) (fun k=>k≤l.length∧NoXW l k) (fun k=>_) (fun k=>[]) (fun k=>[(7,.int .i64 (k:Nat))]) (fun k=>l.length - k)) 0 ⟨Nat.zero_le _,NoXW.zero l⟩ (Front.c Front.nil) (fun k hi m hm=>?_)
 obtain ⟨hk1,hk2⟩:=hi
 refine zR9 ?_
 refine af rfl (fun h3=>?_) (fun h3=>?_)
 ·refine df ?_
  refine zz0 (l6 rfl (by assumption) k7 (by omega) (by rfl)) (zz0 (ae rfl) ?_)
  apply cj 6 38 44 (fun hT4 hT4'=>?_) ?_; rotate_right
  ·refine zR2 ?_
   refine zz5 hT4 (nO rfl rfl) (zz5 hT4 (aD rfl) ?_)
   refine zz5 hT4 (l6 rfl (by assumption) k7 (by omega) (by rfl)) ?_
   exact zE
  refine zR2 ?_
  refine af rfl (fun h5=>?_) (fun h5=>?_)
  ·refine eO (zz0 (nR rfl rfl lY (fun w hw=>kN w)) (zR9 ?_))
   exact ah jN rfl fun w' hw=>⟨rfl,hw.below0 (Bg.le.refl _)⟩
  have hq4:=h5
  refine zR5 ?_
  refine zz0 (aZ rfl rfl) (zR3 ?_)
  refine bC (k+1) (Front.c Front.nil) (zz9 15 rfl) (o:=⟨by omega,hk2.succ (fun q=>by rcases hq4 with r|r <;> simp_all)⟩)
 obtain rfl:k=l.length:=by omega
 have hNX:=hk2.all
 refine zR9 ?_
 refine g7 (E:=aa) e0 rfl rfl au aj ba (fun V6=>?_)
 refine zo (fun i:(Value × Value × Value × Value × Value × Value) × (CodeP × FndV × Int) × List (RV UInt32)=>.tuple #[.agg #[i.1.1,i.1.2.1,i.1.2.2.1,i.1.2.2.2.1],i.1.2.2.2.2.1,i.1.2.2.2.2.2,.int .i64 i.2.1.2.2]) (fun i:(Value × Value × Value × Value × Value × Value) × (CodeP × FndV × Int) × List (RV UInt32)=>rowE i.1.1 36 am i.2.1.1.ins :: rowE i.1.2.1 23 aa i.2.1.1.ents :: rowE i.1.2.2.1 23 aa i.2.1.1.unk :: rowE i.1.2.2.2.1 23 aa i.2.1.1.bad :: rowE i.1.2.2.2.2.1 31 cK i.2.2 :: rowE i.1.2.2.2.2.2 23 aa i.2.1.2.1.at_ :: i.2.2.map (rvE 23 aa)) (ok:=fun i:(Value × Value × Value × Value × Value × Value) × (CodeP × FndV × Int) × List (RV UInt32)=>ResIs l [e0] i.2.1∧i.2.2.map (·.data)=i.2.1.2.1.ts) rfl rfl Tryz.call17 (fun w hw=>tt l _ _ [e0] _ w (hw.slF hV') hB (hD'.mono hw.bg) hN (hw.row (by repeat constructor)) hto (show (1:Nat)≤100 by omega)) rfl (fun iR F1 hR hF1 hk1=>?_)
 obtain ⟨⟨Wi,We,Wu,Wb,Wt,Wp⟩,o,rs⟩:=iR
 obtain ⟨ho,hrs⟩:ResIs l [e0] o∧rs.map (·.data)=o.2.1.ts:=hR
 have hr1:F1.dr=0:=hF1.dr
 have sWi:Sl F1.blk am o.1.ins Wi:=rowE.slL hk1 (.head _)
 have sWe:Sl F1.blk aa o.1.ents We:=rowE.slL hk1 (.tail _ (.head _))
 have sWu:Sl F1.blk aa o.1.unk Wu:=rowE.slL hk1 (.tail _ (.tail _ (.head _)))
 have sWt:Sl F1.blk cK rs Wt:=rowE.slL hk1 (.tail _ (.tail _ (.tail _ (.tail _ (.head _)))))
 have sWp:Sl F1.blk aa o.2.1.at_ Wp:=rowE.slL hk1 (.tail _ (.tail _ (.tail _ (.tail _ (.tail _ (.head _))))))
 have sRV:RvIn aa F1.blk rs:=rvE.inL hk1 (fun r hr=>.tail _ (.tail _ (.tail _ (.tail _ (.tail _ (.tail _ (List.mem_map.2 ⟨r,hr,rfl⟩)))))))
 obtain ⟨hbad,hgood⟩:=AA ho
 have htb:=DK hto ho
 have hTB:=BQ hrs htb.1 htb.2
 have hV1:=hV'.mono hF1.blk
 have hD1:=hD'.mono hF1.blk
 have sWb:Sl F1.blk aa o.1.bad Wb:=rowE.slL hk1 (.tail _ (.tail _ (.tail _ (.head _))))
 obtain ⟨pWi,cWi,hv,_⟩:=sWi.shape
 subst hv
 obtain ⟨pWe,cWe,hv,_⟩:=sWe.shape
 subst hv
 obtain ⟨pWu,cWu,hv,_⟩:=sWu.shape
 subst hv
 obtain ⟨pWb,cWb,hv,_⟩:=sWb.shape
 subst hv
 refine zR5 ?_
 refine bS dE rfl (fun b7=>?_)
 refine zz7 rfl rfl cp ?_
 refine zR8 ?_
 refine zz0 (ac rfl Tryz.call14 (fun w hw=>NN l (.slice pV l.length cV) w (hw.slF hV1) hB hN (hD1.mono hw.bg) hc)) ?_
 have hrx:=hr1
 refine jz ?_
 apply cE 3 62 65 (fun hF8 hF8'=>?_) ?_; rotate_right
 ·exact zE
 refine zz0 (ae rfl) ?_
 apply cE 3 66 69 (fun hF9 hF9'=>?_) ?_; rotate_right
 ·refine zz5 hF9 (ae rfl) (zz5 hF9 (uS rfl rfl jh rfl) ?_)
  exact zE
 refine zR2 ?_
 refine dw rfl ?_ ?_ <;> intro h10 <;> try simp only [bs] at h10
 ·refine eO (zz0 (nR hrx rfl lY (fun w hw=>kN w)) (zR5 ?_))
  exact ah jN rfl fun w' hw=>⟨rfl,hw.below0 hF1⟩
 exfalso; simp_all
theorem Ae (l:List SecV) (pV:Option Addr) (cV:Nat) (e0:UInt32) (inp:List UInt32) (Vin:Value) (w:World) (hV:Sl (hp w) cD l (.slice pV l.length cV)) (hD:DataIn (hp w) l) (hz:∀ s∈l,s.data.length≤140737488351232) (hN:∀ s∈l,s.name.size≤140737488351232) (hIn:Sl (hp w) aa inp Vin) (hc:cF l=0) :
  Calls Tryz.prog 4 #[(.slice pV l.length cV),.int .u32 e0.toNat,Vin] w (fun e w'=>e=.returned (.bool true)∧Below w.heap.size w w'):=by
 have hV':Sl (Bg.of0 w).blk cD l (.slice pV l.length cV):=hV
 have hD':DataIn (Bg.of0 w).blk l:=hD
 have hIn':Sl (Bg.of0 w).blk aa inp Vin:=hIn
 have hvl:=hV.len_le
 refine lT Tryz.func4 rfl Tryz.ntmps4 rfl (zR9 ?_)
 refine zz0 (ac rfl Tryz.call10 (fun w hw=>Ds l (.slice pV l.length cV) w (hw.slF hV') hz)) (zR2 ?_)
 apply cE 4 21 25 (fun hF1 hF1'=>?_) ?_; rotate_right
 ·exact zE
 refine zR2 ?_
 refine af rfl (fun h2=>?_) (fun h2=>?_)
 ·have hq1:=h2
  refine eO (zz0 (nR rfl rfl lY (fun w hw=>kN w)) (zR5 ?_))
  exact ah jN rfl fun w' hw=>⟨rfl,hw.below0 (Bg.le.refl _)⟩
 have hq1:vY l=true∧inp.length≤20:=by have:=h2; constructor <;> first|(simp_all; done)|omega
 obtain ⟨hB,hto⟩:=Hm hq1.1
 have hil:=hq1.2
 refine zR9 ?_
 refine ed (.of (ι:=Nat) (fun k=>k≤l.length∧NoXW l k) (fun k=>_) (fun k=>[]) (fun k=>[(7,.int .i64 (k:Nat))]) (fun k=>l.length - k)) 0 ⟨Nat.zero_le _,NoXW.zero l⟩ (Front.c Front.nil) (fun k hi m hm=>?_)
 obtain ⟨hk1,hk2⟩:=hi
 refine zR9 ?_
 refine af rfl (fun h3=>?_) (fun h3=>?_)
 ·refine df ?_
  refine zz0 (l6 rfl (by assumption) k7 (by omega) (by rfl)) (zz0 (ae rfl) ?_)
  apply cj 6 38 44 (fun hT4 hT4'=>?_) ?_; rotate_right
  ·refine zR2 ?_
   refine zz5 hT4 (nO rfl rfl) (zz5 hT4 (aD rfl) ?_)
   refine zz5 hT4 (l6 rfl (by assumption) k7 (by omega) (by rfl)) ?_
   exact zE
  refine zR2 ?_
  refine af rfl (fun h5=>?_) (fun h5=>?_)
  ·refine eO (zz0 (nR rfl rfl lY (fun w hw=>kN w)) (zR9 ?_))
   exact ah jN rfl fun w' hw=>⟨rfl,hw.below0 (Bg.le.refl _)⟩
  have hq4:=h5
  refine zR5 ?_
  refine zz0 (aZ rfl rfl) (zR3 ?_)
  refine bC (k+1) (Front.c Front.nil) (zz9 15 rfl) (o:=⟨by omega,hk2.succ (fun q=>by rcases hq4 with r|r <;> simp_all)⟩)
 obtain rfl:k=l.length:=by omega
 have hNX:=hk2.all
 refine zR9 ?_
 refine g7 (E:=aa) e0 rfl rfl au aj ba (fun V6=>?_)
 refine zo (fun i:(Value × Value × Value × Value × Value × Value) × (CodeP × FndV × Int) × List (RV UInt32)=>.tuple #[.agg #[i.1.1,i.1.2.1,i.1.2.2.1,i.1.2.2.2.1],i.1.2.2.2.2.1,i.1.2.2.2.2.2,.int .i64 i.2.1.2.2]) (fun i:(Value × Value × Value × Value × Value × Value) × (CodeP × FndV × Int) × List (RV UInt32)=>rowE i.1.1 36 am i.2.1.1.ins :: rowE i.1.2.1 23 aa i.2.1.1.ents :: rowE i.1.2.2.1 23 aa i.2.1.1.unk :: rowE i.1.2.2.2.1 23 aa i.2.1.1.bad :: rowE i.1.2.2.2.2.1 31 cK i.2.2 :: rowE i.1.2.2.2.2.2 23 aa i.2.1.2.1.at_ :: i.2.2.map (rvE 23 aa)) (ok:=fun i:(Value × Value × Value × Value × Value × Value) × (CodeP × FndV × Int) × List (RV UInt32)=>ResIs l [e0] i.2.1∧i.2.2.map (·.data)=i.2.1.2.1.ts) rfl rfl Tryz.call17 (fun w hw=>tt l _ _ [e0] _ w (hw.slF hV') hB (hD'.mono hw.bg) hN (hw.row (by repeat constructor)) hto (show (1:Nat)≤100 by omega)) rfl (fun iR F1 hR hF1 hk1=>?_)
 obtain ⟨⟨Wi,We,Wu,Wb,Wt,Wp⟩,o,rs⟩:=iR
 obtain ⟨ho,hrs⟩:ResIs l [e0] o∧rs.map (·.data)=o.2.1.ts:=hR
 have hr1:F1.dr=0:=hF1.dr
 have sWi:Sl F1.blk am o.1.ins Wi:=rowE.slL hk1 (.head _)
 have sWe:Sl F1.blk aa o.1.ents We:=rowE.slL hk1 (.tail _ (.head _))
 have sWu:Sl F1.blk aa o.1.unk Wu:=rowE.slL hk1 (.tail _ (.tail _ (.head _)))
 have sWt:Sl F1.blk cK rs Wt:=rowE.slL hk1 (.tail _ (.tail _ (.tail _ (.tail _ (.head _)))))
 have sWp:Sl F1.blk aa o.2.1.at_ Wp:=rowE.slL hk1 (.tail _ (.tail _ (.tail _ (.tail _ (.tail _ (.head _))))))
 have sRV:RvIn aa F1.blk rs:=rvE.inL hk1 (fun r hr=>.tail _ (.tail _ (.tail _ (.tail _ (.tail _ (.tail _ (List.mem_map.2 ⟨r,hr,rfl⟩)))))))
 obtain ⟨hbad,hgood⟩:=AA ho
 have htb:=DK hto ho
 have hTB:=BQ hrs htb.1 htb.2
 have hV1:=hV'.mono hF1.blk
 have hD1:=hD'.mono hF1.blk
 have sWb:Sl F1.blk aa o.1.bad Wb:=rowE.slL hk1 (.tail _ (.tail _ (.tail _ (.head _))))
 obtain ⟨pWi,cWi,hv,_⟩:=sWi.shape
 subst hv
 obtain ⟨pWe,cWe,hv,_⟩:=sWe.shape
 subst hv
 obtain ⟨pWu,cWu,hv,_⟩:=sWu.shape
 subst hv
 obtain ⟨pWb,cWb,hv,_⟩:=sWb.shape
 subst hv
 refine zR5 ?_
 refine bS dE rfl (fun b7=>?_)
 refine zz7 rfl rfl cp ?_
 refine zR8 ?_
 refine JJ (fun j:Nat × Nat × Value × List RegV=>.tuple #[.pointer (some ⟨j.1,0,none⟩),.int .i64 0]) (fun j=>(cellE j.1 [j.2.2.1,.map (some j.2.1)] 102 :: mapE j.2.1 u8V [] :: rowE j.2.2.1 107 du j.2.2.2 :: iz 5 j.2.2.2)) (ok:=fun j=>MemOK l j.2.2.2) rfl Tryz.call14 (fun w hw=>NM l (.slice pV l.length cV) w (hw.slF hV1) hB hN (hD1.mono hw.bg) hc) rfl (fun jm F2 hO1 hF2 hk=>?_)
 obtain ⟨bM0,bm0,VR0,rs1⟩:=jm
 replace hO1:MemOK l rs1:=hO1
 have hMa:MemAt F2.blk bM0 bm0 VR0 rs1:=Lc hk (.head _) (.tail _ (.tail _ (.head _))) (fun e he=>.tail _ (.tail _ (.tail _ he)))
 have hMi:MapIn F2.blk bm0 u8V []:=mapE.inL hk (.tail _ (.head _))
 have hr2:F2.dr=0:=hF2.dr.trans hr1
 have hIn2:=hIn'.mono (hF1.trans hF2).blk
 have hrx:=hr2
 refine jz ?_
 apply cE 3 62 65 (fun hF8 hF8'=>?_) ?_; rotate_right
 ·exact zE
 refine zz0 (ae rfl) ?_
 apply cE 3 66 69 (fun hF9 hF9'=>?_) ?_; rotate_right
 ·refine zz5 hF9 (ae rfl) (zz5 hF9 (uS rfl rfl jh rfl) ?_)
  exact zE
 refine zR2 ?_
 refine af rfl (fun h10=>?_) (fun h10=>?_)
 ·refine eO (zz0 (nR hrx rfl lY (fun w hw=>kN w)) (zR5 ?_))
  exact ah jN rfl fun w' hw=>⟨rfl,hw.below0 (hF1.trans hF2)⟩
 have hq2:o.2.2=0:=by simpa using h10
 have hfx:=hgood hq2
 obtain ⟨rts,hFin⟩:=Ny ho hq2
 refine zR7 ?_
 refine Ff (fun j:Nat × Nat × Nat × Value × Value × WL=>.tuple #[.pointer (some ⟨j.1,0,none⟩),.int .i64 0]) (fun j=>[cellE j.1 (bD (lj e0) j.2.1 j.2.2.2.2.1 (.slice none 0 0) .nilFunc) 129,mapE j.2.2.1 u8V j.2.2.2.2.2,rowE (.slice none 0 0) 23 aa []]) (fun j=>[cellE j.2.1 [j.2.2.2.1,.map (some j.2.2.1)] 102,rowE j.2.2.2.1 107 du rs1,rowE j.2.2.2.2.1 23 aa inp]) (ok:=fun j=>dZ j.2.2.2.2.2=(lj e0).w∧j.2.2.2.2.2.length≤([]:WL).length+4) hr2 rfl Tryz.call18 (fun w hw=>K5 bM0 bm0 VR0 Vin rs1 l [] e0 inp w (hMa.mono hw.bg) (hMi.mono hw.bg) hO1 rfl (hw.slF hIn2) (by omega)) rfl (fun jc F3 hj hF3 hkc=>?_)
 obtain ⟨bc1,bM1,bm1,VR1,vi1,wl1⟩:=jc
 obtain ⟨hw1,hn1⟩:=hj
 have hC1:CpuAt F3.blk bM1 bm1 VR1 vi1 rs1 inp:=Jz hkc (hMa.data.mono hF3.blk)
 have hF13:=hF1.trans (hF2.trans hF3)
 have hdr3:F3.dr=0:=hF3.dr.trans hr2
 have hF23:=hF2.trans hF3
 replace sWi:=sWi.mono hF23.blk
 replace sWt:=sWt.mono hF23.blk
 replace sWp:=sWp.mono hF23.blk
 replace sRV:=sRV.mono hF23.blk
 have hol:rs.length=o.2.1.at_.length:=by have:=congrArg List.length hrs; rw [List.length_map] at this; rw [this]; exact hfx.len
 change Tr _ _ ([cellE bc1 (bD (lj e0) bM1 vi1 (.slice none 0 0) .nilFunc) 129,mapE bm1 u8V wl1,rowE (.slice none 0 0) 23 aa []] ++ _) _ _
 refine jz ?_
 apply cE 3 80 83 (fun hF11 hF11'=>?_) ?_; rotate_right
 ·refine zz5 hF11 (ae rfl) (zz5 hF11 (uS rfl rfl Tryz.underlying56 rfl) ?_)
  exact zE
 refine zR2 ?_
 refine dw rfl ?_ ?_ <;> intro h12 <;> try simp only [bs] at h12
 ·first|contradiction|(exfalso; omega)|simp_all
 refine zR5 ?_
 refine db (fun j:WL × Value × Value × Value × Value=>.tuple #[j.2.2.2.1,.agg #[.int .i64 (LZ (oS l inp (min (80:Int) 65536).toNat (lj e0))),j.2.2.2.2,.int .i64 ((fj l inp (min (80:Int) 65536).toNat (lj e0)).length:Nat)]]) [cellE bc1 (bD (lj e0) bM1 vi1 (.slice none 0 0) .nilFunc) 129,mapE bm1 u8V wl1,rowE (.slice none 0 0) 23 aa (lj e0).out] (fun j=>[cellE bc1 (bD (oS l inp (min (80:Int) 65536).toNat (lj e0)) bM1 vi1 j.2.1 j.2.2.1) 129,mapE bm1 u8V j.1,rowE j.2.1 23 aa (oS l inp (min (80:Int) 65536).toNat (lj e0)).out,rowE j.2.2.2.1 23 aa (fj l inp (min (80:Int) 65536).toNat (lj e0)),rowE j.2.2.2.2 23 aa (oS l inp (min (80:Int) 65536).toNat (lj e0)).out]) (ok:=fun j=>dZ j.1=(oS l inp (min (80:Int) 65536).toNat (lj e0)).w∧j.1.length≤wl1.length+4 * (fj l inp (min (80:Int) 65536).toNat (lj e0)).length∧∃ a n c,j.2.1=.slice a n c) (dd:=fun _=>0) rfl Tryz.call19 (by repeat' constructor) (fun w hw=>Nat.le_of_eq (hdr3)) (fun w hw=>Ix (lj e0) bc1 bM1 bm1 VR1 vi1 (.slice none 0 0) .nilFunc rs1 l wl1 inp (80:Int) w (hw.own (by repeat' constructor)) (hC1.mono (hw.lessB (Lo:=[cellE bc1 (bD (lj e0) bM1 vi1 (.slice none 0 0) .nilFunc) 129,mapE bm1 u8V wl1,rowE (.slice none 0 0) 23 aa (lj e0).out]) (by repeat' constructor))) hO1 hw1 ⟨_,_,_,rfl⟩ (by show (0:Nat)≤4096; omega)) rfl (fun j hj=>?_)
 obtain ⟨wl3,vo3,ef3,vt3,vq3⟩:=j
 obtain ⟨hw3,hn3,hv3⟩:=hj
 change Tr _ _ (cellE bc1 (bD (oS l inp (min (80:Int) 65536).toNat (lj e0)) bM1 vi1 vo3 ef3) 129 :: mapE bm1 u8V wl3 :: rowE vo3 23 aa (oS l inp (min (80:Int) 65536).toNat (lj e0)).out :: rowE vt3 23 aa (fj l inp (min (80:Int) 65536).toNat (lj e0)) :: rowE vq3 23 aa (oS l inp (min (80:Int) 65536).toNat (lj e0)).out :: _) _ _
 obtain ⟨tr3,hr3⟩:∃ n,n=(fj l inp (min (80:Int) 65536).toNat (lj e0)):=⟨_,rfl⟩
 rw [← hr3] at hn3 ⊢
 obtain ⟨t3,ht3⟩:∃ t,t=(oS l inp (min (80:Int) 65536).toNat (lj e0)):=⟨_,rfl⟩
 rw [← ht3] at hw3 ⊢
 refine fq (V:=vq3) (fun pq3 cq3 hpv=>?_)
 subst hpv
 have hfol:mC o.1.ins (rs.map (·.data)) o.2.1.at_ [] tr3=true:=by rw [hrs,hr3]; exact Cy hFin hNX inp _
 have htl:tr3.length≤100000:=by rw [hr3]; exact Nat.le_trans (De _ _ _ _) (by decide)
 refine zR3 ?_
 refine bS gK rfl (fun b13=>zz0 (bh rfl) ?_)
 refine zz7 rfl rfl ie ?_
 refine df ?_
 apply cj 6 94 100 (fun hT14 hT14'=>?_) ?_; rotate_right
 ·refine zR4 ?_
  refine zz5 hT14 (ac rfl Tryz.call20 (fun w hw=>Gs o.1.ins rs o.2.1.at_ tr3 _ _ _ _ _ _ _ w (hw.slF sWi) hfx.ok (hw.slF sWt) (sRV.mono hw.bg) (hw.slF sWp) (hw.row (by repeat constructor)) hol htl)) ?_
  exact zE
 refine zz0 (ae rfl) ?_
 apply cj 2 101 103 (fun hT15 hT15'=>?_) ?_; rotate_right
 ·refine zz5 hT15 (nR hdr3 rfl lY (fun w hw=>kN w)) ?_
  exact zE
 refine zR4 ?_
 exact ah jN rfl fun w' hw=>⟨by simp [hol,hfol],hw.below0 hF13⟩
theorem zc (l:List SecV) (V:Value) (e0:UInt32) (inp:List UInt32) (Vin:Value) (w:World) (hV:Sl (hp w) cD l V) (hD:DataIn (hp w) l) (hz:∀ s∈l,s.data.length≤140737488351232) (hN:∀ s∈l,s.name.size≤140737488351232) (hIn:Sl (hp w) aa inp Vin):Calls Tryz.prog 4 #[V,.int .u32 e0.toNat,Vin] w (fun e w'=>e=.returned (.bool true)∧Below w.heap.size w w'):=by
 obtain ⟨pV,cV,hv,_⟩:=hV.shape
 subst hv
 by_cases hc:cF l=0
 ·exact Ae l pV cV e0 inp Vin w hV hD hz hN hIn hc
 exact Af l pV cV e0 inp Vin w hV hD hz hN hIn hc
end Go.Proofs.YtiajjbhcpeadfaaGreat
