/- Own rules and walks, part 7. -/
import Derived.Test.YtiajjbhcpeadfaaGreatB6
set_option linter.unusedSimpArgs false
set_option linter.unusedVariables false
set_option linter.unusedSectionVars false
set_option maxRecDepth 100000
set_option maxHeartbeats 16000000
attribute [local irreducible] Go.wpList Go.Code.wp Go.HL.QS Go.HL.Tr Go.HL.TrQ Go.wpQuiet
namespace Go.Proofs.YtiajjbhcpeadfaaGreat
open Go Go.HL Go.RowKit Tryz
theorem yx (l:List SecV) (pV:Option Addr) (cV:Nat) (es:List UInt32) (VE:Value) (w:World) (hV:Sl (hp w) bP l (.slice pV l.length cV)) (hB:SecB l) (hD:DataIn (hp w) l) (hN:∀ s∈l,s.name.size≤140737488351232) (hE:Sl (hp w) aa es VE) (ht:totD l≤600) (hel:es.length≤100) :
  Calls prog 17 #[(.slice pV l.length cV),VE] w (fun e w'=>∃ i:(Value × Value × Value × Value × Value × Value) × (CodeP × FndV × Int) × List (RV UInt32),e=.returned ((fun i:(Value × Value × Value × Value × Value × Value) × (CodeP × FndV × Int) × List (RV UInt32)=>.tuple #[.agg #[i.1.1,i.1.2.1,i.1.2.2.1,i.1.2.2.2.1],i.1.2.2.2.2.1,i.1.2.2.2.2.2,.int .i64 i.2.1.2.2]) i)∧Below w.heap.size w w'∧NewEnts w w' ((fun i:(Value × Value × Value × Value × Value × Value) × (CodeP × FndV × Int) × List (RV UInt32)=>rowE i.1.1 36 al i.2.1.1.ins :: rowE i.1.2.1 23 aa i.2.1.1.ents :: rowE i.1.2.2.1 23 aa i.2.1.1.unk :: rowE i.1.2.2.2.1 23 aa i.2.1.1.bad :: rowE i.1.2.2.2.2.1 31 bX i.2.2 :: rowE i.1.2.2.2.2.2 23 aa i.2.1.2.1.at_ :: i.2.2.map (rvE 23 aa)) i)∧(fun i:(Value × Value × Value × Value × Value × Value) × (CodeP × FndV × Int) × List (RV UInt32)=>ResIs l es i.2.1∧i.2.2.map (·.data)=i.2.1.2.1.ts) i):=by
 have hV0:Sl (Bg.of0 w).blk bP l (.slice pV l.length cV):=hV
 have hD0:DataIn (Bg.of0 w).blk l:=hD
 have hE0:Sl (Bg.of0 w).blk aa es VE:=hE
 refine lP func17 rfl ntmps17 rfl (zR2 ?_)
 refine bH ed rfl (fun b1=>zR8 ?_)
 refine bH kW rfl (fun b2=>bR ?_)
 refine gX (ι:=Bg × Int) (fun ⟨G9,e9⟩=>(Bg.of0 w).le G9∧ResIs l es (uF,⟨[],[]⟩,e9)) (fun ⟨G9,e9⟩=>G9) (fun ⟨G9,e9⟩=>[cellE b1 [nS,nS,nS,nS] 52]) (fun ⟨G9,e9⟩=>[(9,.int .i64 e9)]) ?_ (fun i hi=>?_)
 ·skip
  refine zR6 ?_
  refine cT (ι:=Nat × Bg × ((Option Addr × Nat × Nat) × (Option Addr × Nat × Nat) × (Option Addr × Nat × Nat) × (Option Addr × Nat × Nat)) × (List TabV × Option Addr × Nat) × (List UInt32 × Option Addr × Nat)) (fun ⟨k,G,⟨⟨x0,xn0,xc0⟩,⟨x1,xn1,xc1⟩,⟨x2,xn2,xc2⟩,⟨x3,xn3,xc3⟩⟩,⟨ts,pt,ct⟩,⟨at_,pa,ca⟩⟩=>((k≤16∧(Bg.of0 w).le G)∧nf ts)∧(Sl G.blk dU ts (.slice pt ts.length ct)∧TabIn G.blk ts∧Sl G.blk aa at_ (.slice pa at_.length ca))∧Rnds l es k ⟨ts.map (·.data),at_⟩) (fun ⟨k,G,⟨⟨x0,xn0,xc0⟩,⟨x1,xn1,xc1⟩,⟨x2,xn2,xc2⟩,⟨x3,xn3,xc3⟩⟩,⟨ts,pt,ct⟩,⟨at_,pa,ca⟩⟩=>G) (fun ⟨k,G,⟨⟨x0,xn0,xc0⟩,⟨x1,xn1,xc1⟩,⟨x2,xn2,xc2⟩,⟨x3,xn3,xc3⟩⟩,⟨ts,pt,ct⟩,⟨at_,pa,ca⟩⟩=>[cellE b2 [.slice x0 xn0 xc0,.slice x1 xn1 xc1,.slice x2 xn2 xc2,.slice x3 xn3 xc3,.slice pt ts.length ct,.slice pa at_.length ca] 114,cellE b1 [nS,nS,nS,nS] 52]) (fun ⟨k,G,⟨⟨x0,xn0,xc0⟩,⟨x1,xn1,xc1⟩,⟨x2,xn2,xc2⟩,⟨x3,xn3,xc3⟩⟩,⟨ts,pt,ct⟩,⟨at_,pa,ca⟩⟩=>[(12,.int .i64 (k:Nat))]) (fun ⟨k,G,⟨⟨x0,xn0,xc0⟩,⟨x1,xn1,xc1⟩,⟨x2,xn2,xc2⟩,⟨x3,xn3,xc3⟩⟩,⟨ts,pt,ct⟩,⟨at_,pa,ca⟩⟩=>16 - k) (0,_,((none,0,0),(none,0,0),(none,0,0),(none,0,0)),([],none,0),([],none,0)) ⟨⟨⟨Nat.zero_le _,Bg.le.refl _⟩,⟨Nat.zero_le _,(fun t ht=>by cases ht)⟩⟩,⟨Sl.nil _ _,(fun t ht=>by cases ht),Sl.nil _ _⟩,.zero⟩ (Front.c Front.nil) (fun i hi m hm=>?_)
  obtain ⟨k,G,⟨⟨x0,xn0,xc0⟩,⟨x1,xn1,xc1⟩,⟨x2,xn2,xc2⟩,⟨x3,xn3,xc3⟩⟩,⟨ts,pt,ct⟩,⟨at_,pa,ca⟩⟩:=i
  dsimp only at hi hm
  change Tr _ (G) [cellE b2 [.slice x0 xn0 xc0,.slice x1 xn1 xc1,.slice x2 xn2 xc2,.slice x3 xn3 xc3,.slice pt ts.length ct,.slice pa at_.length ca] 114,cellE b1 [nS,nS,nS,nS] 52] ([(12,.int .i64 (k:Nat))] ++ _) _
  obtain ⟨⟨⟨hk,hG⟩,hTB⟩,⟨hT,hTI,hP⟩,hRn⟩:=hi
  refine zR6 ?_
  refine ab rfl ?_ ?_<;>intro h3
  ·refine zR9 ?_
   refine dE (fun i:(Value × Value × Value × Value × Value × Value) × (CodeP × FndV × Int) × List (RV UInt32)=>.tuple #[.agg #[i.1.1,i.1.2.1,i.1.2.2.1,i.1.2.2.2.1,i.1.2.2.2.2.1,i.1.2.2.2.2.2],.int .i64 i.2.1.2.2]) (fun i:(Value × Value × Value × Value × Value × Value) × (CodeP × FndV × Int) × List (RV UInt32)=>rowE i.1.1 36 al i.2.1.1.ins :: rowE i.1.2.1 23 aa i.2.1.1.ents :: rowE i.1.2.2.1 23 aa i.2.1.1.unk :: rowE i.1.2.2.2.1 23 aa i.2.1.1.bad :: rowE i.1.2.2.2.2.1 31 bX i.2.2 :: rowE i.1.2.2.2.2.2 23 aa i.2.1.2.1.at_ :: i.2.2.map (rvE 23 aa)) (ok:=fun i:(Value × Value × Value × Value × Value × Value) × (CodeP × FndV × Int) × List (RV UInt32)=>RoundIs l es ts at_ i.2.1∧i.2.2.map (·.data)=i.2.1.2.1.ts) hG.dr rfl call52 (fun w hw=>LF _ _ _ _ _ _ _ _ _ _ _ _ l pV cV es VE ts at_ _ _ _ _ w ((hw.slF (hV0.mono hG.blk))) hB ((hD0.mono hG.blk).mono hw.bg) hN (hw.slF (hE0.mono hG.blk)) (hw.slF hT) (hTI.mono hw.bg) hTB (hw.slF hP) ht hel) rfl (fun i hri=>?_)
   obtain ⟨⟨Wi,We,Wu,Wb,Wt,Wp⟩,o,rs⟩:=i
   obtain ⟨hro,hrs⟩:RoundIs l es ts at_ o∧rs.map (·.data)=o.2.1.ts:=hri
   change Tr _ _ (rowE Wi 36 al o.1.ins :: rowE We 23 aa o.1.ents :: rowE Wu 23 aa o.1.unk :: rowE Wb 23 aa o.1.bad :: rowE Wt 31 bX rs :: rowE Wp 23 aa o.2.1.at_ :: (rs.map (rvE 23 aa) ++ _)) _ _
   refine eV (V:=Wi) (fun pWi cWi hpv=>?_)
   subst hpv
   refine eV (V:=We) (fun pWe cWe hpv=>?_)
   subst hpv
   refine eV (V:=Wu) (fun pWu cWu hpv=>?_)
   subst hpv
   refine eV (V:=Wb) (fun pWb cWb hpv=>?_)
   subst hpv
   refine eV (V:=Wt) (fun pWt cWt hpv=>?_)
   subst hpv
   refine eV (V:=Wp) (fun pWp cWp hpv=>?_)
   subst hpv
   have hml:rs.length=(rs.map fE).length:=(List.length_map _).symm
   rw [hml]
   refine zL (A:=[rowE (.slice pWi o.1.ins.length cWi) 36 al o.1.ins,rowE (.slice pWe o.1.ents.length cWe) 23 aa o.1.ents,rowE (.slice pWu o.1.unk.length cWu) 23 aa o.1.unk,rowE (.slice pWb o.1.bad.length cWb) 23 aa o.1.bad,rowE (.slice pWt (rs.map fE).length cWt) 31 bX rs,rowE (.slice pWp o.2.1.at_.length cWp) 23 aa o.2.1.at_]) (B:=rs.map (rvE 23 aa)) (C:=[cellE b2 [.slice x0 xn0 xc0,.slice x1 xn1 xc1,.slice x2 xn2 xc2,.slice x3 xn3 xc3,.slice pt ts.length ct,.slice pa at_.length ca] 114,cellE b1 [nS,nS,nS,nS] 52]) ?_
   change Tr _ _ (rowE (.slice pWi o.1.ins.length cWi) 36 al o.1.ins :: rowE (.slice pWe o.1.ents.length cWe) 23 aa o.1.ents :: rowE (.slice pWu o.1.unk.length cWu) 23 aa o.1.unk :: rowE (.slice pWb o.1.bad.length cWb) 23 aa o.1.bad :: rowE (.slice pWt (rs.map fE).length cWt) 31 bX rs :: rowE (.slice pWp o.2.1.at_.length cWp) 23 aa o.2.1.at_ :: cellE b2 [.slice x0 xn0 xc0,.slice x1 xn1 xc1,.slice x2 xn2 xc2,.slice x3 xn3 xc3,.slice pt ts.length ct,.slice pa at_.length ca] 114 :: cellE b1 [nS,nS,nS,nS] 52 :: (rs.map (rvE 23 aa) ++ [])) _ _
   refine zR3 ?_
   refine bH kW rfl (fun b4=>?_)
   refine zz8 rfl rfl gW ?_
   refine bR ?_
   refine ab rfl ?_ ?_<;>intro h5
   ·have hqq:o.2.2≠0:=h5
    refine zR8 ?_
    refine ku rfl (zR4 ?_)
    refine aT (_,o.2.2) (hL:=(by repeat' (first|exact Pick.refl _|exact Del.here _|apply Pick.cons|apply Del.there|apply Pick.skip|exact Pick.nil _))) (o:=⟨hG,.err k _ ts o hRn (by omega) rfl hro hqq rfl⟩)
   have hqq:o.2.2=0:=by simpa using h5
   refine zR7 ?_
   refine zz0 (aK rfl (fun w hw=>Od _ _ _ _ _ _ _ _ _ _ _ _ _ _ _ _ _ _ _ _ _ _ _ _ (rs.map fE) ts o.2.1.at_ at_ _ _ _ _ _ _ _ _ w (tw hw.rM) (tz (hw.rvs (T:=23) (fun r hr=>by repeat (first|exact List.mem_append_left _ (List.mem_map.2 ⟨r,hr,rfl⟩)|apply List.Mem.tail)))) hw.rM (hw.slF hT) (hTI.mono hw.bg) (hw.slF hP))) (zR2 ?_)
   refine ab rfl ?_ ?_<;>intro h6
   ·have hsm:=h6
    refine bB (bC ([cellE b4 [.slice pWi o.1.ins.length cWi,.slice pWe o.1.ents.length cWe,.slice pWu o.1.unk.length cWu,.slice pWb o.1.bad.length cWb,.slice pWt (rs.map fE).length cWt,.slice pWp o.2.1.at_.length cWp] 114]) 10 rfl ah ?_)
    refine zz4 0 rfl (bE rfl) ?_
    refine jx 1 rfl (by kernel_rfl) (aY (aY (eF (aY (aY (eF (aY (lg cX)))))))) (dI (vs:=[.slice pWi o.1.ins.length cWi,.slice pWe o.1.ents.length cWe,.slice pWu o.1.unk.length cWu,.slice pWb o.1.bad.length cWb]) rfl (by repeat constructor) j5 cR (by rfl) (by rfl)) ?_
    refine zK [2,3,4,5] ?_
    refine au 6 rfl ?_
    refine zz8 rfl rfl cR ?_
    refine aC ?_
    refine zK [7,8,9] ?_
    refine fg (zR9 ?_)
    refine si results17 rfl rfl rfl rfl (by repeat constructor) j5 cR (by rfl) (fun w' hw=>?_)
    exact ⟨(((.slice pWi o.1.ins.length cWi),(.slice pWe o.1.ents.length cWe),(.slice pWu o.1.unk.length cWu),(.slice pWb o.1.bad.length cWb),(.slice pWt (rs.map fE).length cWt),(.slice pWp o.2.1.at_.length cWp)),o,rs),(by show _=Ending.returned (Value.tuple #[_,_,_,Value.int .i64 o.2.2]); rw [hqq]; rfl),hw.below0 hG,hw.ents0 hG.lo (by repeat' (first|exact Pick.refl _|exact Pick.left _ _|exact Del.here _|apply Pick.cons|apply Del.there|apply Pick.skip|exact Pick.nil _)),.ok k _ ts o hRn (by omega) rfl hro hqq ⟨hsm.1,by rw [← hrs,← js]; exact hsm.2⟩ rfl,hrs⟩
   have hsm:=h6
   refine zR2 ?_
   have hne:¬ (o.2.1.at_=at_∧o.2.1.ts=ts.map (·.data)):=fun q=>by
    rcases hsm with h|h
    ·exact h q.1
    ·exact h (by rw [js,hrs]; exact q.2)
   have htb:=hro.tabs hTB
   have hTB9:=Ix hrs (by omega) htb.2
   refine q7 (A:=[cellE b4 [.slice pWi o.1.ins.length cWi,.slice pWe o.1.ents.length cWe,.slice pWu o.1.unk.length cWu,.slice pWb o.1.bad.length cWb,.slice pWt (rs.map fE).length cWt,.slice pWp o.2.1.at_.length cWp] 114,rowE (.slice pWi o.1.ins.length cWi) 36 al o.1.ins,rowE (.slice pWe o.1.ents.length cWe) 23 aa o.1.ents,rowE (.slice pWu o.1.unk.length cWu) 23 aa o.1.unk,rowE (.slice pWb o.1.bad.length cWb) 23 aa o.1.bad,rowE (.slice pWt (rs.map fE).length cWt) 31 bX rs,rowE (.slice pWp o.2.1.at_.length cWp) 23 aa o.2.1.at_,cellE b2 [.slice x0 xn0 xc0,.slice x1 xn1 xc1,.slice x2 xn2 xc2,.slice x3 xn3 xc3,.slice pt ts.length ct,.slice pa at_.length ca] 114,cellE b1 [nS,nS,nS,nS] 52]) rs (fun F6 hF6 hI6=>?_)
   change Tr _ _ [cellE b4 [.slice pWi o.1.ins.length cWi,.slice pWe o.1.ents.length cWe,.slice pWu o.1.unk.length cWu,.slice pWb o.1.bad.length cWb,.slice pWt (rs.map fE).length cWt,.slice pWp o.2.1.at_.length cWp] 114,rowE (.slice pWi o.1.ins.length cWi) 36 al o.1.ins,rowE (.slice pWe o.1.ents.length cWe) 23 aa o.1.ents,rowE (.slice pWu o.1.unk.length cWu) 23 aa o.1.unk,rowE (.slice pWb o.1.bad.length cWb) 23 aa o.1.bad,rowE (.slice pWt (rs.map fE).length cWt) 31 bX rs,rowE (.slice pWp o.2.1.at_.length cWp) 23 aa o.2.1.at_,cellE b2 [.slice x0 xn0 xc0,.slice x1 xn1 xc1,.slice x2 xn2 xc2,.slice x3 xn3 xc3,.slice pt ts.length ct,.slice pa at_.length ca] 114,cellE b1 [nS,nS,nS,nS] 52] _ _
   refine kw (V:=.slice pWt (rs.map fE).length cWt) (T:=31) (E:=bX) (l:=rs) (by repeat constructor) (fun F7 hF7 hT7=>?_)
   refine kw (V:=.slice pWp o.2.1.at_.length cWp) (T:=23) (E:=aa) (l:=o.2.1.at_) (by repeat constructor) (fun F9 hF9 hP9=>?_)
   have hF59:=hF6.trans (hF7.trans hF9)
   refine cC (zz0 (cF rfl) (zz8 rfl rfl gW ?_))
   refine zR8 ?_
   refine aP (k+1,F9,((_,_,_),(_,_,_),(_,_,_),(_,_,_)),(rs.map fE,pWt,cWt),(o.2.1.at_,pWp,cWp)) (o:=⟨⟨⟨by omega,hG.trans hF59⟩,hTB9⟩,⟨tw (hT7.mono hF9.blk),tz (hI6.mono (hF7.trans hF9).blk),hP9⟩,by rw [js,hrs]; exact Rnds.step k _ ts o hRn rfl hro hqq hne⟩)
  refine zR5 ?_
  refine aT (_,15) (hL:=(by repeat' (first|exact Pick.refl _|exact Del.here _|apply Pick.cons|apply Del.there|apply Pick.skip|exact Pick.nil _))) (o:=⟨hG,.out ⟨ts.map (·.data),at_⟩ (by have e:k=16:=(by omega); subst e; exact hRn) rfl⟩)
 obtain ⟨G9,e9⟩:=i
 replace hi:(Bg.of0 w).le G9∧ResIs l es (uF,⟨[],[]⟩,e9):=hi
 change Tr _ _ [cellE b1 [nS,nS,nS,nS] 52] ([(9,.int .i64 e9)] ++ _) _
 obtain ⟨hG9,hrr⟩:=hi
 refine bB (ay 36 al ?_)
 refine ay 23 aa ?_
 refine ay 23 aa ?_
 refine ay 23 aa ?_
 refine ay 23 aa ?_
 refine ay 31 (bX (α:=UInt32)) (cC ?_)
 refine zz0 (aI (vs:=[]) rfl rfl (sy)) (zz0 (af rfl) ?_)
 refine zz8 rfl rfl cR ?_
 refine zR7 ?_
 refine si results17 rfl rfl rfl rfl (by repeat constructor) j5 cR (by rfl) (fun w' hw=>?_)
 exact ⟨((nS,nS,nS,nS,nS,nS),(uF,⟨[],[]⟩,e9),[]),rfl,hw.below0 hG9,hw.ents0 hG9.lo (by repeat' (first|exact Pick.refl _|exact Pick.left _ _|exact Del.here _|apply Pick.cons|apply Del.there|apply Pick.skip|exact Pick.nil _)),hrr,rfl⟩
theorem tU (n k:Nat) (wr:Bool) (w:World) (hn:1≤n∧n≤100) (hk:k≤1000) :
  Calls prog 33 #[.int .i64 (n:Nat),.int .i64 (k:Nat),.bool wr] w (fun e w'=>∃ i:Value × Option Addr × Option Addr × Nat × Nat,e=.returned i.1∧Ext w w'∧NewEnts w w' ((fun i:Value × Option Addr × Option Addr × Nat × Nat=>[rowE i.1 49 bP (lk n k wr i.2.1 i.2.2.1 i.2.2.2.1 i.2.2.2.2),rowE (.slice i.2.1 (kO n).length i.2.2.2.1) 5 cd (kO n),rowE (.slice i.2.2.1 (nv n k n).length i.2.2.2.2) 5 cd (nv n k n)]) i)∧True):=by
 refine En f33 rfl rfl (zR8 ?_)
 refine zz0 (dS rfl ad ao) (zR2 ?_)
 refine zz0 (dS rfl ad ao) (gv (E:=cd) (AH n) (vs:=[(0,_),(1,_),(2,_),(3,_),(4,_),(5,_),(6,_),(7,_),(8,_),(9,_),(10,_),(11,_),(12,_)]) rfl rfl an bA bT (by rfl) (by rfl) rfl (by first|kernel_rfl|rfl) rfl (fun V1=>zR4 ?_))
 refine ay 5 cd (cj ?_)
 change Tr _ _ [rowE nS 5 cd (nv n k 0),rowE V1 5 cd (AH n ++ List.replicate 0 (1:UInt8))] _ _
 refine cT (ι:=Nat × Value × Value) (fun ⟨i,Vc,Vt⟩=>i≤n) (fun _=>_) (fun ⟨i,Vc,Vt⟩=>[rowE Vt 5 cd (nv n k i),rowE Vc 5 cd (AH n ++ List.replicate i 1)]) (fun ⟨i,Vc,Vt⟩=>[(9,.int .i64 (i:Nat)),(7,Vc),(8,Vt)]) (fun ⟨i,Vc,Vt⟩=>n - i) (0,_,_) (Nat.zero_le _) (Front.c (Front.c (Front.c Front.nil))) (fun i hi m hm=>?_)
 obtain ⟨i,Vc,Vt⟩:=i
 dsimp only at hi hm
 conv=>enter [3]; dsimp only
 conv=>enter [4,1]; dsimp only
 have hbl:=vb n k i
 have hpl:(AH n ++ List.replicate i (1:UInt8)).length=13+i:=by simp [AH]; omega
 have hel:(bEl n k i).length=4:=rfl
 have hmd:=Int.emod_nonneg ((i:Int)+(k:Int)) (b:=(n:Int)) (by omega)
 have hml:=Int.emod_lt_of_pos ((i:Int)+(k:Int)) (b:=(n:Int)) (by omega)
 have hp3:(AH n).length=13:=rfl
 have hrp:(List.replicate i (1:UInt8)).length=i:=List.length_replicate
 refine zR8 ?_
 refine ab rfl ?_ ?_<;>intro h2
 ·refine zR7 ?_
  refine fM (E:=cd) (1:UInt8) rfl rfl an bA bT (fun V3=>?_)
  refine zz3 rfl rfl an ip (fun V4=>?_)
  refine zR9 ?_
  refine zz0 (vf rfl rfl (by omega)) (zz0 (tn rfl rfl) ?_)
  refine zz0 (dS rfl ad ao) (gv (E:=cd) (bEl n k i) (vs:=[(0,_),(1,_),(2,_),(3,_)]) rfl rfl an bA bT (by rfl) (by rfl) rfl (by first|kernel_rfl|rfl) rfl (fun V5=>?_))
  refine zz3 rfl rfl an ip (fun V6=>?_)
  refine bR ?_
  have e1:(AH n ++ List.replicate i (1:UInt8)) ++ [1]=AH n ++ List.replicate (i+1) 1:=by rw [List.append_assoc,← List.replicate_succ']
  rw [e1,← BO]
  refine aP (i+1,_,_) (o:=(by show i+1≤_; omega))
 refine zR6 ?_
 obtain rfl:i=n:=by omega
 refine eV (V:=Vt) (fun pt ct hpv=>?_)
 subst hpv
 refine zR2 ?_
 refine fM (E:=cd) (1:UInt8) rfl rfl an bA bT (fun V7=>?_)
 refine zz3 rfl rfl an ip (fun V8=>?_)
 refine dQ (l':=kO i) rfl ?_
 refine cn (.head _) (fun pc cc hpv=>?_)
 subst hpv
 refine zz0 (aI (vs:=[(0,_),(1,_),(2,_),(4,_)]) (cs:=#[.string nmC,.int .u32 4096,.slice pc (kO i).length cc,.bool false,.bool true]) rfl rfl (by kernel_rfl)) (zR2 ?_)
 refine zz0 (aI (vs:=[(0,_),(1,_),(2,_),(3,_)]) (cs:=#[.string nmT,.int .u32 12288,.slice pt (nv i k i).length ct,.bool wr,.bool false]) rfl rfl (by kernel_rfl)) ?_
 refine gv (E:=bP) (lk i k wr pc pt cc ct) (vs:=[(0,_),(1,_)]) rfl rfl nc j4 lT (by rfl) (by rfl) rfl (by first|kernel_rfl|rfl) rfl (fun V9=>zR4 ?_)
 exact aM results33 rfl fun w' hw=>⟨(_,pc,pt,cc,ct),rfl,hw.b0,hw.ents (Bg.le.refl _) (by repeat' (first|exact Pick.refl _|exact Del.here _|apply Pick.cons|apply Del.there|apply Pick.skip|exact Pick.nil _)),trivial⟩
theorem zm (w:World) :
  Calls prog 11 #[] w (fun e w'=>e=.returned (.bool true)∧Below w.heap.size w w'):=by
 refine lP func11 rfl ntmps11 rfl (zR7 ?_)
 refine jh (fun i:Value × Option Addr × Option Addr × Nat × Nat=>i.1) (fun i:Value × Option Addr × Option Addr × Nat × Nat=>[rowE i.1 49 bP (lk 3 0 false i.2.1 i.2.2.1 i.2.2.2.1 i.2.2.2.2),rowE (.slice i.2.1 (kO 3).length i.2.2.2.1) 5 cd (kO 3),rowE (.slice i.2.2.1 (nv 3 0 3).length i.2.2.2.2) 5 cd (nv 3 0 3)]) (ok:=fun _=>True) rfl call33 (fun w hw=>tU 3 0 false w (by omega) (by omega)) rfl (fun ib1 _=>?_)
 obtain ⟨VB1,p1,q1,c1,d1⟩:=ib1
 change Tr _ _ (rowE (VB1) 49 bP (lk 3 0 false p1 q1 c1 d1) :: rowE (.slice p1 (kO 3).length c1) 5 cd (kO 3) :: rowE (.slice q1 (nv 3 0 3).length d1) 5 cd (nv 3 0 3) :: _) _ _
 refine cn (V:=VB1) (.head _) (fun pb1 cb1 hpv=>?_)
 subst hpv
 refine fM (E:=aa) (4096:UInt32) rfl rfl am ar bj (fun V1=>?_)
 refine dE (fun i:(Value × Value × Value × Value × Value × Value) × (CodeP × FndV × Int) × List (RV UInt32)=>.tuple #[.agg #[i.1.1,i.1.2.1,i.1.2.2.1,i.1.2.2.2.1],i.1.2.2.2.2.1,i.1.2.2.2.2.2,.int .i64 i.2.1.2.2]) (fun i:(Value × Value × Value × Value × Value × Value) × (CodeP × FndV × Int) × List (RV UInt32)=>rowE i.1.1 36 al i.2.1.1.ins :: rowE i.1.2.1 23 aa i.2.1.1.ents :: rowE i.1.2.2.1 23 aa i.2.1.1.unk :: rowE i.1.2.2.2.1 23 aa i.2.1.1.bad :: rowE i.1.2.2.2.2.1 31 bX i.2.2 :: rowE i.1.2.2.2.2.2 23 aa i.2.1.2.1.at_ :: i.2.2.map (rvE 23 aa)) (ok:=fun i:(Value × Value × Value × Value × Value × Value) × (CodeP × FndV × Int) × List (RV UInt32)=>ResIs (lk 3 0 false p1 q1 c1 d1) [4096] i.2.1∧i.2.2.map (·.data)=i.2.1.2.1.ts) rfl rfl call17 (fun w hw=>yx (lk 3 0 false p1 q1 c1 d1) _ _ [4096] _ w hw.rM (tV (by omega)) (qY hw.rM hw.rM) qX hw.rM (FZ (by omega)) (by simp)) rfl (fun iR hR=>?_)
 obtain ⟨⟨Wi,We,Wu,Wb,Wt,Wp⟩,o,rs⟩:=iR
 obtain ⟨ho,hrs⟩:ResIs (lk 3 0 false p1 q1 c1 d1) [4096] o∧rs.map (·.data)=o.2.1.ts:=hR
 obtain rfl:=PX ho
 obtain ⟨pr,cr,rfl⟩:=PN hrs
 change Tr _ _ (rowE Wi 36 al Pq.ins :: rowE We 23 aa Pq.ents :: rowE Wu 23 aa Pq.unk :: rowE Wb 23 aa Pq.bad :: rowE Wt 31 bX [⟨[4109,4110,4111],pr,cr⟩] :: rowE Wp 23 aa ([4103]:List UInt32) :: rvE 23 aa ⟨[4109,4110,4111],pr,cr⟩ ::  _) _ _
 refine eV (V:=Wi) (fun pWi cWi hpv=>?_)
 subst hpv
 refine eV (V:=We) (fun pWe cWe hpv=>?_)
 subst hpv
 refine eV (V:=Wu) (fun pWu cWu hpv=>?_)
 subst hpv
 refine eV (V:=Wb) (fun pWb cWb hpv=>?_)
 subst hpv
 refine eV (V:=Wt) (fun pWt cWt hpv=>?_)
 subst hpv
 refine eV (V:=Wp) (fun pWp cWp hpv=>?_)
 subst hpv
 refine zR5 ?_
 refine bH ed rfl (fun b2=>?_)
 refine zz8 rfl rfl cR ?_
 refine zR7 ?_
 refine bH cm rfl (fun b3=>?_)
 change Tr _ _ (cellE b3 (bY.enc gx) 37 :: _) _ _
 refine Ds (zz0 (ak rfl (dy 1 3 2)) (zz0 (bE rfl) ?_))
 refine zz0 (gn rfl rfl aA aj) ?_
 refine cY rfl rfl aj (by repeat constructor) (fQ (s:=gx) (k:=(1:Int)) ⟨by omega,by omega⟩ (by simp) (exX)) (by rfl) (fR (k:=(1:Int)) ⟨by omega,by omega⟩ (by simp)) (by first|exact Enc.one er _|exact List.all_eq_true.1 rfl) rfl (zR4 ?_)
 refine jh (fun i:Value × Option Addr × Option Addr × Nat × Nat=>i.1) (fun i:Value × Option Addr × Option Addr × Nat × Nat=>[rowE i.1 49 bP (lk 4 0 false i.2.1 i.2.2.1 i.2.2.2.1 i.2.2.2.2),rowE (.slice i.2.1 (kO 4).length i.2.2.2.1) 5 cd (kO 4),rowE (.slice i.2.2.1 (nv 4 0 4).length i.2.2.2.2) 5 cd (nv 4 0 4)]) (ok:=fun _=>True) rfl call33 (fun w hw=>tU 4 0 false w (by omega) (by omega)) rfl (fun ib2 _=>?_)
 obtain ⟨VB2,p2,q2,c2,d2⟩:=ib2
 change Tr _ _ (rowE (VB2) 49 bP (lk 4 0 false p2 q2 c2 d2) :: rowE (.slice p2 (kO 4).length c2) 5 cd (kO 4) :: rowE (.slice q2 (nv 4 0 4).length d2) 5 cd (nv 4 0 4) :: _) _ _
 refine cn (V:=VB2) (.head _) (fun pb2 cb2 hpv=>?_)
 subst hpv
 refine zR6 ?_
 refine zz0 (aI (vs:=[(2,_),(6,_),(1,_)]) rfl rfl (o7 _ _ _)) (zz0 (cF rfl) ?_)
 refine eT (E:=aa) (l:=([4110,4110,4110,4112]:List UInt32)) (T:=23) (fun V=>.tuple #[V,.int .i64 0]) rfl qh (fun w hw=>by have q:=nP (lk 4 0 false p2 q2 c2 d2) _ _ M1 OK w hw.rM (tV (by omega)) (qY hw.rM hw.rM) qX IX; rw [show OK.get M1.a=exX from rfl,OO] at q; exact q) rfl (fun T1=>zR8 ?_)
 refine bC ([cellE b3 (bY.enc OK) 37]) 9 rfl ah ?_
 refine zz4 1 rfl (aI (vs:=[(2,_),(6,_),(1,_)]) rfl rfl (o7 _ _ _)) ?_
 refine zz4 2 rfl (cF rfl) ?_
 refine au 0 rfl ?_
 refine jh (fun i:Value × Option Addr × Option Addr × Nat × Nat=>i.1) (fun i:Value × Option Addr × Option Addr × Nat × Nat=>[rowE i.1 49 bP (lk 4 0 true i.2.1 i.2.2.1 i.2.2.2.1 i.2.2.2.2),rowE (.slice i.2.1 (kO 4).length i.2.2.2.1) 5 cd (kO 4),rowE (.slice i.2.2.1 (nv 4 0 4).length i.2.2.2.2) 5 cd (nv 4 0 4)]) (ok:=fun _=>True) rfl call33 (fun w hw=>tU 4 0 true w (by omega) (by omega)) rfl (fun ib3 _=>?_)
 obtain ⟨VB3,p3,q3,c3,d3⟩:=ib3
 change Tr _ _ (rowE (VB3) 49 bP (lk 4 0 true p3 q3 c3 d3) :: rowE (.slice p3 (kO 4).length c3) 5 cd (kO 4) :: rowE (.slice q3 (nv 4 0 4).length d3) 5 cd (nv 4 0 4) :: _) _ _
 refine cn (V:=VB3) (.head _) (fun pb3 cb3 hpv=>?_)
 subst hpv
 refine aC ?_
 refine au 3 rfl ?_
 refine eT (E:=aa) (l:=([]:List UInt32)) (T:=23) (fun V=>.tuple #[V,.int .i64 19]) rfl qh (fun w hw=>by have q:=nP (lk 4 0 true p3 q3 c3 d3) _ _ M1 OK w hw.rM (tV (by omega)) (qY hw.rM hw.rM) qX IX; rw [show OK.get M1.a=exX from rfl,ON] at q; exact q) rfl (fun T2=>?_)
 refine aC ?_
 refine zK [4,5,6,7,8] ?_
 refine fg (zR3 ?_)
 refine zz0 (ak rfl (kN 4112)) (zz0 (bE rfl) ?_)
 refine zz0 (gn rfl rfl aA aj) ?_
 refine cY rfl rfl aj (by repeat constructor) (fQ (s:=OK) (k:=(2:Int)) ⟨by omega,by omega⟩ (by simp) (fH 4112)) (by rfl) (fR (k:=(2:Int)) ⟨by omega,by omega⟩ (by simp)) (by first|exact Enc.one er _|exact List.all_eq_true.1 rfl) rfl (zR5 ?_)
 refine zz0 (aI (vs:=[(2,_),(6,_)]) rfl rfl (kZ _ _)) (zz0 (cF rfl) ?_)
 refine eT (E:=aa) (l:=([4112]:List UInt32)) (T:=23) (fun V=>.tuple #[V,.int .i64 0]) rfl qh (fun w hw=>by have q:=nP (lk 4 0 false p2 q2 c2 d2) _ _ MZ Qy w hw.rM (tV (by omega)) (qY hw.rM hw.rM) qX IW; rw [show Qy.get MZ.a=fH 4112 from rfl,OM] at q; exact q) rfl (fun T3=>zR9 ?_)
 refine zz0 (ak rfl lG) (zz0 (bE rfl) ?_)
 refine zz0 (gn rfl rfl aA aj) ?_
 refine cY rfl rfl aj (by repeat constructor) (fQ (s:=Qy) (k:=(2:Int)) ⟨by omega,by omega⟩ (by simp) (iL)) (by rfl) (fR (k:=(2:Int)) ⟨by omega,by omega⟩ (by simp)) (by first|exact Enc.one er _|exact List.all_eq_true.1 rfl) rfl (zR5 ?_)
 refine zz0 (aI (vs:=[(2,_),(6,_)]) rfl rfl (kZ _ _)) (zz0 (cF rfl) ?_)
 refine eT (E:=aa) (l:=([]:List UInt32)) (T:=23) (fun V=>.tuple #[V,.int .i64 19]) rfl qh (fun w hw=>by have q:=nP (lk 4 0 false p2 q2 c2 d2) _ _ MZ QN w hw.rM (tV (by omega)) (qY hw.rM hw.rM) qX IW; rw [show QN.get MZ.a=iL from rfl,OL] at q; exact q) rfl (fun T4=>df ?_)
 refine zz5 rfl (af rfl) ?_
 refine zO rfl rfl rfl ?_
 refine fM (E:=aa) (4103:UInt32) rfl rfl am ar bj (fun V4=>?_)
 refine zz5 rfl (aK rfl (fun w hw=>jC [4103] [4103] _ _ w hw.rM hw.rM)) (zR2 ?_)
 refine zz5 rfl (af rfl) ?_
 refine zz5 rfl (rc rfl) ?_
 refine zz5 rfl (kG rfl rfl) (zR2 ?_)
 refine zz5 rfl (af rfl) ?_
 refine zz5 rfl (t6 (E:=bX (α:=UInt32)) (l:=[⟨[4109,4110,4111],pr,cr⟩]) (i:=0) rfl rfl (by repeat constructor) gz eS (by rfl) (by simp)) ?_
 refine zz5 rfl (DF (E:=bX (α:=UInt32)) (l:=[⟨[4109,4110,4111],pr,cr⟩]) (i:=0) rfl (by repeat constructor) isAgg31 (by simp) (by rfl)) ?_
 refine zO rfl rfl rfl ?_
 refine gv (E:=aa) ([4109,4110,4111]:List UInt32) (vs:=[(0,_),(1,_),(2,_)]) rfl rfl am ar bj (by rfl) (by rfl) rfl (by first|kernel_rfl|rfl) rfl (fun V5=>?_)
 refine zz5 rfl (aK rfl (fun w hw=>jC [4109,4110,4111] [4109,4110,4111] _ _ w hw.rM hw.rM)) (zR2 ?_)
 refine zz5 rfl (bE rfl) ?_
 refine zz5 rfl (iF rfl) ?_
 refine zz5 rfl (rc rfl) ?_
 refine zz5 rfl (kG rfl rfl) (zR2 ?_)
 refine zz5 rfl (bE rfl) ?_
 refine zz5 rfl (iF rfl) ?_
 refine zz5 rfl (rc rfl) ?_
 refine zz5 rfl (kG rfl rfl) (zR2 ?_)
 refine zz5 rfl (af rfl) ?_
 refine zz5 rfl (kG rfl rfl) (zR2 ?_)
 refine zz5 rfl (af rfl) ?_
 refine zO rfl rfl rfl ?_
 refine gv (E:=aa) ([4110,4110,4110,4112]:List UInt32) (vs:=[(0,_),(1,_),(2,_),(3,_)]) rfl rfl am ar bj (by rfl) (by rfl) rfl (by first|kernel_rfl|rfl) rfl (fun V6=>?_)
 refine zz5 rfl (aK rfl (fun w hw=>jC [4110,4110,4110,4112] [4110,4110,4110,4112] _ _ w hw.rM hw.rM)) (zR2 ?_)
 refine zz5 rfl (af rfl) ?_
 refine zz5 rfl (kG rfl rfl) (zR2 ?_)
 refine zz5 rfl (af rfl) ?_
 refine zz5 rfl (kG rfl rfl) (zR2 ?_)
 refine zz5 rfl (af rfl) ?_
 refine zO rfl rfl rfl ?_
 refine fM (E:=aa) (4112:UInt32) rfl rfl am ar bj (fun V7=>?_)
 refine zz5 rfl (aK rfl (fun w hw=>jC [4112] [4112] _ _ w hw.rM hw.rM)) (zR2 ?_)
 refine zz5 rfl (af rfl) ?_
 refine zz5 rfl (kG rfl rfl) (zR2 ?_)
 refine zz5 rfl (af rfl) ?_
 refine zz5 rfl (aK rfl (fun w hw=>y9 (lk 4 0 false p2 q2 c2 d2) _ _ 12288 4 w hw.rM (tV (by omega)) (qY hw.rM hw.rM) qX)) ?_
 rw [OQ]
 refine zR2 ?_
 refine zz5 rfl (af rfl) ?_
 refine zz5 rfl (aK rfl (fun w hw=>y9 (lk 4 0 false p2 q2 c2 d2) _ _ 12288 5 w hw.rM (tV (by omega)) (qY hw.rM hw.rM) qX)) ?_
 rw [OP]
 refine zz5 rfl (tZ rfl) (zR5 ?_)
 exact aM results11 rfl fun w' hw=>⟨rfl,hw.below0 (Bg.le.refl _)⟩
theorem nV (s:SecV) (w:World) (hs:s.data.length≤200000) :
  Cr prog 119 #[.agg (bP.enc s).toArray] w (.int .i64 (m0 s)):=by
 have hadr:=s.addr.toNat_lt
 refine En f119 rfl rfl (zR2 ?_)
 refine bJ rfl rfl (fun b1=>zR7 ?_)
 refine zz0 (aO rfl ac ad) (zR2 ?_)
 refine zz0 (iZ rfl an) (cj ?_)
 refine ab rfl ?_ ?_<;>intro h2
 ·refine zR7 ?_
  exact aD (e:=by unfold m0; rw [Int.min_eq_right (by omega)])
 refine zR9 ?_
 exact aD (e:=by unfold m0; rw [Int.min_eq_left (by omega)])
theorem Ew (s:ByteArray) (w:World) (hs:s.size≤9223372036854775807) :
  Cr prog 171 #[.string s] w (.bool (yK s)):=by
 have hbl:=u7 s
 refine En f171 rfl rfl (df ?_)
 refine cP (.of (ι:=Nat) (fun k=>k≤s.size∧((bts s).take k).any va=false) (fun _=>_) (fun k=>[]) (fun k=>[(3,.int .i64 (k:Nat))]) (fun k=>s.size - k)) 0 ⟨Nat.zero_le _,rfl⟩ (Front.c Front.nil) (fun k hi m hm=>?_)
 obtain ⟨hk1,hk2⟩:=hi
 refine zR5 ?_
 refine zz0 (qo rfl ff) (zR3 ?_)
 refine ab rfl ?_ ?_<;>intro h1
 ·refine zR8 ?_
  refine zz0 (sT rfl rfl ff (by omega)) (zR6 ?_)
  refine zz0 (ya (n:=97) rfl rfl) (zz0 (af rfl) ?_)
  apply dV 3 17 20 (fun hT2 hT2'=>?_) ?_; rotate_right
  ·refine zz5 hT2 (af rfl) (zz5 hT2 (DC (n:=122) rfl rfl) ?_)
   exact zE
  refine zz0 (af rfl) ?_
  apply gA
  ·exact (rfl:_=(7,21,28))
  ·exact rfl
  ·intro hF3; have hF3':=hF3
   try simp only [bs] at hF3'
   refine zz5 hF3 (af rfl) (zz5 hF3 (ya (n:=65) rfl rfl) (zz5 hF3 (af rfl) ?_))
   apply fC
   ·exact (rfl:_=(3,24,27))
   ·exact rfl
   ·intro hT4; have hT4':=hT4
    try simp only [bs] at hT4'
    refine zz5 hT4 (af rfl) (zz5 hT4 (DC (n:=90) rfl rfl) (zR3 ?_))
    exact aN (Sub.cons rfl (zz7 3 rfl))
   ·intro hF4
    refine zR5 ?_
    exact aN (Sub.cons rfl (zz7 3 rfl))
   refine zR3 ?_
   exact aN (Sub.cons rfl (zz7 5 rfl))
  ·intro hT3
   refine zR9 ?_
   exact aN (Sub.cons rfl (zz7 7 rfl))
  refine zR8 ?_
  apply fC
  ·exact (rfl:_=(7,31,38))
  ·exact rfl
  ·intro hT5; have hT5':=hT5
   try simp only [bs] at hT5'
   refine zz5 hT5 (af rfl) (zz5 hT5 (rb (n:=48) rfl rfl) (zz5 hT5 (af rfl) ?_))
   apply gA
   ·exact (rfl:_=(3,34,37))
   ·exact rfl
   ·intro hF6; have hF6':=hF6
    try simp only [bs] at hF6'
    refine zz5 hF6 (af rfl) (zz5 hF6 (xZ (n:=57) rfl rfl) (zR3 ?_))
    exact aN (Sub.cons rfl (zz7 3 rfl))
   ·intro hT6
    refine zR5 ?_
    exact aN (Sub.cons rfl (zz7 3 rfl))
   refine zR3 ?_
   exact aN (Sub.cons rfl (zz7 5 rfl))
  ·intro hF5
   refine zR9 ?_
   exact aN (Sub.cons rfl (zz7 7 rfl))
  refine zz0 (af rfl) ?_
  apply dV 3 39 42 (fun hT7 hT7'=>?_) ?_; rotate_right
  ·refine zz5 hT7 (af rfl) (zz5 hT7 (vg (n:=95) rfl rfl) ?_)
   exact zE
  refine zz0 (af rfl) ?_
  apply dV 3 43 46 (fun hT8 hT8'=>?_) ?_; rotate_right
  ·refine zz5 hT8 (af rfl) (zz5 hT8 (vg (n:=46) rfl rfl) ?_)
   exact zE
  refine zR2 ?_
  refine ab rfl ?_ ?_<;>intro h9
  ·refine cj ?_
   refine aM results171 rfl (fun w' hw=>?_)
   have hbad:va ((bts s).getD k default)=true:=by rw [LR]; simp only [bs]; assumption
   exact ⟨by rw [Bc (by omega) hbad],hw.b0⟩
  refine zR9 ?_
  have hbad:va ((bts s).getD k default)=false:=by rw [LR]; simp only [bs]; assumption
  refine aP (k+1) (o:=⟨by omega,by rw [any_take_succ (by omega),hk2,hbad]; rfl⟩)
 refine zR8 ?_
 refine zz0 (qo rfl ff) (zR2 ?_)
 apply dV 4 50 54 (fun hT10 hT10'=>?_) ?_; rotate_right
 ·refine zz5 hT10 (af rfl) (zz5 hT10 (qo rfl ff) ?_)
  exact zE
 refine zR4 ?_
 exact aD (e:=by rw [Bb (by omega) hk2]; congr 2)
theorem oI (l:List SecV) (V:Value) (a:UInt32) (w:World) (hV:Sl (hp w) bP l V) (hB:SecB l) :
  Cr prog 126 #[V,.int .u32 a.toNat] w (.int .i64 (bL l a)):=by
 have hV':Sl (Bg.of w).blk bP l V:=hV
 have hlen:=hB.1
 refine En f126 rfl rfl (df ?_)
 refine cP (.of (ι:=Nat) (fun k=>k≤l.length∧dA (inS a) k (l.drop k)=dA (inS a) 0 l) (fun _=>_) (fun k=>[]) (fun k=>[(5,.int .i64 (k:Nat))]) (fun k=>l.length - k)) 0 ⟨Nat.zero_le _,rfl⟩ (Front.c Front.nil) (fun k hi m hm=>?_)
 obtain ⟨hk1,hk2⟩:=hi
 refine zR9 ?_
 refine ab rfl ?_ ?_<;>intro h1
 ·refine bR ?_
  refine zz0 (jO rfl co) (zz0 (af rfl) ?_)
  refine zz0 (qn rfl rfl) (zz0 (af rfl) ?_)
  apply dV 9 19 28 (fun hT2 hT2'=>?_) ?_; rotate_right
  ·refine zz5 hT2 (af rfl) (zz5 hT2 (aO rfl ac ad) (zR3 ?_))
   refine zz5 hT2 (wz rfl) ?_
   refine zz5 hT2 (aK rfl (fun w hw=>nV (l.getD k default) w (hB.at (by omega)))) ?_
   exact zE
  refine zR2 ?_
  refine ab rfl ?_ ?_<;>intro h3
  ·refine df ?_
   exact aD (e:=by unfold bL; rw [← hk2,drop_cons (k:=k) (by omega),dA,if_pos (by rw [oN]; simp only [UInt32.le_iff_toNat_le] at *; omega)])
  refine zR9 ?_
  refine aP (k+1) (o:=⟨by omega,by rw [← hk2,drop_cons (k:=k) (by omega),dA,if_neg (by rw [oN]; simp only [UInt32.le_iff_toNat_le] at *; omega)]⟩)
 refine cj ?_
 exact aD (e:=by unfold bL; rw [← hk2,List.drop_of_length_le (by omega)]; rfl)
theorem An (l:List SecV) (V:Value) (a:UInt32) (n:Int) (w:World) (hV:Sl (hp w) bP l V) (hB:SecB l) :
  Cr prog 172 #[V,.int .u32 a.toNat,.int .i64 n] w (.tuple #[.int .i64 (mD l a n).1,.bool (mD l a n).2]):=by
 have hV':Sl (Bg.of w).blk bP l V:=hV
 have hlen:=hB.1
 have hf:=j1 (l:=l) (a:=a)
 have hadr:=a.toNat_lt
 refine En f172 rfl rfl (bR ?_)
 refine zz0 (aK rfl (fun w hw=>oI l V a w (hw.slF hV) hB)) (bR ?_)
 refine ab rfl ?_ ?_<;>intro h1
 ·refine zR8 ?_
  exact dR (e:=by rw [mD,if_pos (by assumption)])
 refine zR3 ?_
 have hen:=FA (l.getD (bL l a).toNat default)
 refine zR7 ?_
 refine zz0 (aK rfl (fun w hw=>nV (l.getD (bL l a).toNat default) w (hB.at (by omega)))) (zz0 (af rfl) ?_)
 refine zz0 (aO rfl ac ad) (zR7 ?_)
 exact dR (e:=by rw [mD,if_neg (by assumption)])
theorem Ev (l:List SecV) (V:Value) (a:UInt32) (n:Int) (w:World) (hV:Sl (hp w) bP l V) (hB:SecB l) (hD:DataIn (hp w) l) (hn:n≤9223372036854775807) :
  Calls prog 127 #[V,.int .u32 a.toNat,.int .i64 n] w (fun e w'=>∃ V',e=.returned (.tuple #[V',.int .i64 (fF l a n).2])∧Ext w w'∧dY w w' 5 cd (fF l a n).1 V'):=by
 have hV':Sl (Bg.of w).blk bP l V:=hV
 have hlen:=hB.1
 have hadr:=a.toNat_lt
 have hf:=j1 (l:=l) (a:=a)
 obtain ⟨ik,iy,hin⟩:∃ ik iy,mD l a n=(ik,iy):=⟨_,_,rfl⟩
 have hno:=Kl (l:=l) (a:=a) (n:=n)
 have hye:=Hv (l:=l) (a:=a) (n:=n)
 have hplo:=A8 (l:=l) (a:=a) (n:=n)
 rw [hin] at hno hye
 dsimp only at hno hye
 have di:∀ w',Sl (hp w') bP l V→Calls prog 172 #[V,.int .u32 a.toNat,.int .i64 n] w' (fun e w''=>e=.returned (.tuple #[.int .i64 ik,.bool iy])∧Ext w' w''):=fun w' h=>by have q:=An l V a n w' h hB; rw [hin] at q; exact q
 refine En f127 rfl rfl (gB ?_)
 refine ab rfl ?_ ?_<;>intro h1
 ·refine zR8 ?_
  exact cG mJ rfl rfl fun w' hw=>⟨_,by rw [fF,if_pos (by assumption)],hw.b0,cH (by rw [fF,if_pos (by assumption)])⟩
 refine zR9 ?_
 refine ab rfl ?_ ?_<;>intro h2
 ·refine zR8 ?_
  exact cG mJ rfl rfl fun w' hw=>⟨_,by rw [fF,if_neg (by assumption),if_pos (by assumption)],hw.b0,cH (by rw [fF,if_neg (by assumption),if_pos (by assumption)])⟩
 refine zR7 ?_
 refine zz0 (aK rfl (fun w hw=>di w (hw.slF hV))) (jk ?_)
 refine ab rfl ?_ ?_<;>intro h3
 ·refine zR8 ?_
  refine cG mJ rfl rfl (fun w' hw=>?_)
  have hno':=hno (by assumption)
  exact ⟨_,by rw [fF,if_neg (by assumption),if_neg (by assumption),hno',if_pos (by decide)],hw.b0,cH (by rw [fF,if_neg (by assumption),if_neg (by assumption),hno',if_pos (by decide)])⟩
 refine zR3 ?_
 obtain ⟨y1,y2,y3⟩:=hye (by simp_all)
 subst y2
 rw [y3] at hplo
 obtain ⟨p1,p2,p3,p4,p5⟩:=hplo rfl
 dsimp only at p1 p2 p3 p4 p5
 have hdl:=hB.at (k:=(bL l a).toNat) (by omega)
 have hDk:Sl (Bg.of w).blk cd (l.getD (bL l a).toNat default).data (.slice (l.getD (bL l a).toNat default).dp (l.getD (bL l a).toNat default).data.length (l.getD (bL l a).toNat default).dc):=hD _ (ba (by omega))
 have hadr2:=(l.getD (bL l a).toNat default).addr.toNat_lt
 obtain ⟨off,hoff⟩:∃ off:Nat,(off:Int)=(a.toNat:Int) - (l.getD (bL l a).toNat default).addr.toNat:=⟨((a.toNat:Int) - (l.getD (bL l a).toNat default).addr.toNat).toNat,by omega⟩
 refine cj ?_
 refine ay 5 cd ?_
 refine cT (ι:=Nat × Value) (fun ⟨k,V'⟩=>(k:Int)≤n) (fun _=>_) (fun ⟨k,V'⟩=>[rowE V' 5 cd (((l.getD (bL l a).toNat default).data.drop off).take k)]) (fun ⟨k,V'⟩=>[(11,.int .i64 (k:Nat)),(10,V')]) (fun ⟨k,V'⟩=>n.toNat - k) (0,_) (by show ((0:Nat):Int)≤n; omega) (Front.c (Front.c Front.nil)) (fun i hi m hm=>?_)
 obtain ⟨k,V'⟩:=i
 dsimp only at hi hm
 conv=>enter [3]; dsimp only
 conv=>enter [4,1]; dsimp only
 refine zR8 ?_
 refine ab rfl ?_ ?_<;>intro h4
 ·refine zR4 ?_
  refine dO 1 19 ah ?_
  refine dN rfl ?_
  refine ax (zT4 ?_)
  refine aw (jO rfl j6) (aw (af rfl) ?_)
  refine aw (aO rfl ac ad) (zT4 ?_)
  refine aw (jO rfl co) ?_
  refine aw (aO rfl ac ad) (zT6 ?_)
  refine fM (E:=cd) _ rfl rfl an bA bT (fun V5=>?_)
  refine zz3 rfl rfl an ip (fun V6=>?_)
  refine bR ?_
  have hst:=bN (l:=(l.getD (bL l a).toNat default).data.drop off) (k:=k) (by rw [List.length_drop]; omega)
  have hgd:((l.getD (bL l a).toNat default).data.drop off).getD k default=(l.getD (bL l a).toNat default).data.getD ((a.toNat:Int) - (l.getD (bL l a).toNat default).addr.toNat+k).toNat default:=by rw [show ((a.toNat:Int) - (l.getD (bL l a).toNat default).addr.toNat+k).toNat=off+k by omega]; simp [List.getD_eq_getElem?_getD]
  rw [hgd] at hst
  rw [← hst]
  refine aP (k+1,_) (o:=(by show ((k+1:Nat):Int)≤n; omega))
 refine gB ?_
 refine cG mJ rfl rfl (fun w' hw=>?_)
 have hrd:fF l a n=(((l.getD (bL l a).toNat default).data.drop off).take k,0):=by rw [fF,if_neg (by assumption),if_neg (by assumption),y3,if_neg (by simp)]; dsimp only; rw [List.drop_take,show ((a.toNat:Int) - (l.getD (bL l a).toNat default).addr.toNat).toNat=off by omega,show ((a.toNat:Int) - (l.getD (bL l a).toNat default).addr.toNat+n).toNat - off=k by omega]
 exact ⟨_,by rw [hrd],hw.b0,by rw [hrd]; exact hw.new (.head _)⟩
theorem Hd (l:List SecV) (V:Value) (i:Nat) (w:World) (hV:Sl (hp w) bP l V) (hB:SecB l) (hi:i<l.length) (hN:(l.getD i default).name.size≤9223372036854775807) :
  Cr prog 118 #[V,.int .i64 (i:Nat)] w (.int .i64 (l8 l i)):=by
 have hV':Sl (Bg.of w).blk bP l V:=hV
 have hlen:=hB.1
 obtain ⟨s,hs⟩:∃ s,s=l.getD i default:=⟨_,rfl⟩
 have hsd:s.data.length≤200000:=by rw [hs]; exact hB.at hi
 have hadr:=s.addr.toNat_lt
 have hst:=JB s
 refine En f118 rfl rfl (cj ?_)
 refine bH lT rfl (fun b1=>?_)
 refine cK bP rfl rfl j4 ?_
 refine zR4 ?_
 rw [← hs]
 refine zR3 ?_
 refine zz0 (iZ rfl an) (zR3 ?_)
 refine ab rfl ?_ ?_<;>intro h2
 ·refine zR7 ?_
  exact aD (e:=by unfold l8; dsimp only; rw [← hs,if_pos (by assumption)])
 refine zR7 ?_
 refine zz0 (aK rfl (fun w hw=>Ew s.name w (by rw [hs]; exact hN))) (zR3 ?_)
 refine ab rfl ?_ ?_<;>intro h3
 ·refine zR7 ?_
  exact aD (e:=by unfold l8; dsimp only; rw [← hs,if_neg (by assumption),if_pos (by assumption)])
 refine zR9 ?_
 refine cP (.of (ι:=Nat) (fun k=>k≤i∧(l.take k).any (fun x=>decide (x.name=s.name))=false) (fun _=>_) (fun k=>[cellE b1 (bP.enc s) 49]) (fun k=>[(6,.int .i64 (k:Nat))]) (fun k=>i - k)) 0 ⟨Nat.zero_le _,rfl⟩ (Front.c Front.nil) (fun k hi m hm=>?_)
 obtain ⟨hk1,hk2⟩:=hi
 refine zR8 ?_
 refine ab rfl ?_ ?_<;>intro h4
 ·refine zR5 ?_
  refine eU ah (zT4 ?_)
  refine aw (jO rfl isAgg9) (zT2 ?_)
  refine aw (zV rfl rfl) (zT2 ?_)
  refine ab rfl ?_ ?_<;>intro h5
  ·refine cj ?_
   refine aM mK rfl (fun w' hw=>?_)
   have hany:(l.take i).any (fun x=>decide (x.name=s.name))=true:=List.any_eq_true.2 ⟨l.getD k default,by rw [List.mem_take_iff_getElem]; exact ⟨k,by omega,by simp [List.getD_eq_getElem?_getD,show k<l.length by omega]⟩,decide_eq_true (by assumption)⟩
   exact ⟨by unfold l8; dsimp only; rw [← hs,if_neg (by assumption),if_neg (by simp_all),if_pos hany],hw.b0⟩
  refine zR9 ?_
  refine aP (k+1) (o:=⟨by omega,by rw [any_take_succ (by omega),hk2,Bool.false_or]; exact decide_eq_false (by assumption)⟩)
 refine bR ?_
 refine zz0 (aO rfl ac ad) (zR2 ?_)
 refine zz0 (iZ rfl an) (zR4 ?_)
 refine ab rfl ?_ ?_<;>intro h6
 ·refine zR7 ?_
  refine aM mK rfl (fun w' hw=>?_)
  have hany:¬ (l.take i).any (fun x=>decide (x.name=s.name))=true:=by obtain rfl:k=i:=(by omega); rw [hk2]; decide
  exact ⟨by unfold l8; dsimp only; rw [← hs,if_neg (by assumption),if_neg (by simp_all),if_neg hany,if_pos (.inl (by assumption))],hw.b0⟩
 refine zR7 ?_
 refine zz0 (iZ rfl an) (zR2 ?_)
 apply dV 5 44 49 (fun hT7 hT7'=>?_) ?_; rotate_right
 ·refine zR2 ?_
  refine zz5 hT7 (aO rfl ac ad) ?_
  exact zE
 refine zz0 (af rfl) ?_
 apply dV 4 50 54 (fun hT8 hT8'=>?_) ?_; rotate_right
 ·refine zz5 hT8 (cF rfl) (zz5 hT8 (aK rfl (fun w hw=>nV s w hsd)) ?_)
  exact zE
 refine zR2 ?_
 refine ab rfl ?_ ?_<;>intro h9
 ·refine zR7 ?_
  refine aM mK rfl (fun w' hw=>?_)
  have hany:¬ (l.take i).any (fun x=>decide (x.name=s.name))=true:=by obtain rfl:k=i:=(by omega); rw [hk2]; decide
  exact ⟨by unfold l8; dsimp only; rw [← hs,if_neg (by assumption),if_neg (by simp_all),if_neg hany,if_pos (.inr (hst.2 (by omega)))],hw.b0⟩
 refine zR8 ?_
 refine aM mK rfl (fun w' hw=>?_)
 have hany:¬ (l.take i).any (fun x=>decide (x.name=s.name))=true:=by obtain rfl:k=i:=(by omega); rw [hk2]; decide
 exact ⟨by unfold l8; dsimp only; rw [← hs,if_neg (by assumption),if_neg (by simp_all),if_neg hany,if_neg (fun q=>q.elim (by assumption) (fun q=>by have:=hst.1 q; omega))],hw.b0⟩
theorem s6 (l:List SecV) (V:Value) (w:World) (hV:Sl (hp w) bP l V) (hB:SecB l) (hN:∀ s∈l,s.name.size≤9223372036854775807) :
  Cr prog 61 #[V] w (.int .i64 (fV l)):=by
 have hV':Sl (Bg.of w).blk bP l V:=hV
 have hlen:=hB.1
 refine En f61 rfl rfl (gB ?_)
 refine ab rfl ?_ ?_<;>intro h1
 ·refine zR7 ?_
  exact aD (e:=by rw [I7 (by assumption)])
 refine zR9 ?_
 refine cP (.of (ι:=Nat) (fun k=>k≤l.length∧fU (l8 l) k (l.length - k)=fU (l8 l) 0 l.length) (fun _=>_) (fun k=>[]) (fun k=>[(3,.int .i64 (k:Nat))]) (fun k=>l.length - k)) 0 ⟨Nat.zero_le _,rfl⟩ (Front.c Front.nil) (fun k hi m hm=>?_)
 obtain ⟨hk1,hk2⟩:=hi
 refine zR9 ?_
 refine ab rfl ?_ ?_<;>intro h2
 ·refine zR8 ?_
  refine zz0 (aK rfl (fun w hw=>Hd l V k w (hw.slF hV) hB (by omega) (hN _ (ba (by omega))))) (zR9 ?_)
  refine ab rfl ?_ ?_<;>intro h3
  ·refine df ?_
   exact aD (e:=by rw [u6 (v:=l8 l k) (by assumption) (by omega) hk2 rfl (by assumption)])
  refine zR9 ?_
  refine aP (k+1) (o:=⟨by omega,by rw [oQ (by omega) (by omega),hk2]⟩)
 refine df ?_
 have hz1:fU (l8 l) 0 l.length=0:=by rw [← hk2]; exact oP (by omega)
 clear hk2 hk1 hm
 refine cP (.of (ι:=Nat) (fun k=>k≤l.length∧fU (fun i=>if rj l i=true then 10 else 0) k (l.length - k)=fU (fun i=>if rj l i=true then 10 else 0) 0 l.length) (fun _=>_) (fun k=>[]) (fun k=>[(5,.int .i64 (k:Nat))]) (fun k=>l.length - k)) 0 ⟨Nat.zero_le _,rfl⟩ (Front.c Front.nil) (fun k hi m hm=>?_)
 obtain ⟨hk1,hk2⟩:=hi
 refine zR9 ?_
 refine ab rfl ?_ ?_<;>intro h4
 ·refine bR ?_
  refine cP (.of (ι:=Nat) (fun j=>j≤k∧(l.take j).any (fun x=>rO (gy x) (gy (l.getD k default)))=false) (fun _=>_) (fun j=>[]) (fun j=>[(6,.int .i64 (j:Nat))]) (fun j=>k - j)) 0 ⟨Nat.zero_le _,rfl⟩ (Front.c Front.nil) (fun j hi m hm=>?_)
  obtain ⟨hj1,hj2⟩:=hi
  have hmi:=Mq (l.getD j default) (l.getD k default)
  refine zR8 ?_
  refine ab rfl ?_ ?_<;>intro h5
  ·refine zR5 ?_
   refine eU ah (zT4 ?_)
   refine aw (jO rfl j6) ?_
   refine aw (iZ rfl an) (zT2 ?_)
   apply fD 8 40 48 (fun hT6 hT6'=>?_) ?_; rotate_right
   ·refine zT4 ?_
    refine db hT6 (jO rfl j6) ?_
    refine db hT6 (iZ rfl an) ?_
    exact zQ
   refine aw (af rfl) ?_
   apply fD 13 49 62 (fun hT7 hT7'=>?_) ?_; rotate_right
   ·refine zT4 ?_
    refine db hT7 (jO rfl co) ?_
    refine db hT7 (aO rfl ac ad) (zT4 ?_)
    refine db hT7 (aK rfl (fun w hw=>nV (l.getD j default) w (hB.at (by omega)))) ?_
    exact zQ
   refine aw (af rfl) ?_
   apply fD 13 63 76 (fun hT8 hT8'=>?_) ?_; rotate_right
   ·refine zT4 ?_
    refine db hT8 (jO rfl co) ?_
    refine db hT8 (aO rfl ac ad) (zT4 ?_)
    refine db hT8 (aK rfl (fun w hw=>nV (l.getD k default) w (hB.at (by omega)))) ?_
    exact zQ
   refine zT2 ?_
   refine ab rfl ?_ ?_<;>intro h9
   ·refine mN ?_
    refine aM results61 rfl (fun w' hw=>?_)
    have hov:rj l k=true:=List.any_eq_true.2 ⟨l.getD j default,by rw [List.mem_take_iff_getElem]; exact ⟨j,by omega,by simp [List.getD_eq_getElem?_getD,show j<l.length by omega]⟩,hmi.2 (by omega)⟩
    exact ⟨by rw [I6 (k:=k) (by assumption) hz1 (by omega) hk2 hov],hw.b0⟩
   refine zR9 ?_
   have hmf:rO (gy (l.getD j default)) (gy (l.getD k default))=false:=by rw [← Bool.not_eq_true,hmi]; omega
   refine aP (j+1) (o:=⟨by omega,by rw [any_take_succ (by omega),hj2,hmf]; rfl⟩)
  refine df ?_
  have hz:rj l k=false:=by obtain rfl:j=k:=(by omega); exact hj2
  refine aP (k+1) (o:=⟨by omega,by rw [oQ (by omega) (by rw [if_neg (by rw [hz]; decide)]),hk2]⟩)
 refine cj ?_
 exact aD (e:=by rw [I5 (by assumption) hz1 (by rw [← hk2]; exact oP (by omega))])
theorem Lr (l:List SecV) (V:Value) (w:World) (hV:Sl (hp w) bP l V) (hz:∀ s∈l,s.data.length≤140737488351232) :
  Cr prog 10 #[V] w (.bool (yr l)):=by
 have hV':Sl (Bg.of w).blk bP l V:=hV
 have hlen:=hV.len_le
 refine En f10 rfl rfl (gB ?_)
 refine ab rfl ?_ ?_<;>intro h1
 ·refine zR7 ?_
  exact aD (e:=by unfold yr; rw [decide_eq_false (by omega),Bool.false_and])
 refine jk ?_
 refine cP (.of (ι:=Nat) (fun k=>k≤l.length∧pg l k<600) (fun _=>_) (fun k=>[]) (fun k=>[(4,.int .i64 (k:Nat)),(3,.int .i64 (pg l k))]) (fun k=>l.length - k)) 0 ⟨Nat.zero_le _,by show (0:Int)<600; decide⟩ (Front.c (Front.c Front.nil)) (fun k hi m hm=>?_)
 obtain ⟨hk1,hk2⟩:=hi
 have hk0:0≤pg l k:=Cf (l:=l) (Nat.zero_le k)
 have hbk:k<l.length→(l.getD k default).data.length≤140737488351232:=fun q=>hz _ (ba q)
 refine zR9 ?_
 refine ab rfl ?_ ?_<;>intro h2
 ·refine cj ?_
  refine zz0 (jO rfl j6) ?_
  refine zz0 (iZ rfl an) (cj ?_)
  refine ab rfl ?_ ?_<;>intro h3
  ·refine cj ?_
   refine aM results10 rfl (fun w' hw=>?_)
   have hle:=Cf (l:=l) (show k+1≤l.length by omega)
   have he:pg l (k+1)=pg l k+min ((l.getD k default).data.length:Int) 600:=rfl
   exact ⟨by unfold yr; rw [decide_eq_false (p:=pg l l.length<600) (by omega),Bool.and_false],hw.b0⟩
  refine zR9 ?_
  refine aP (k+1) (o:=⟨by omega,by show pg l k+min ((l.getD k default).data.length:Int) 600<600; omega⟩)
 refine cj ?_
 refine aM results10 rfl (fun w' hw=>?_)
 obtain rfl:k=l.length:=by omega
 exact ⟨by unfold yr; rw [decide_eq_true hk2,decide_eq_true (by omega)]; rfl,hw.b0⟩
theorem K9 (l:List SecV) (V:Value) (a:UInt32) (w:World) (hV:Sl (hp w) bP l V) (hB:SecB l) (hD:DataIn (hp w) l) :
  Cr prog 66 #[V,.int .u32 a.toNat] w (.tuple #[.int .u32 (mO l a).1.toNat,.bool (mO l a).2]):=by
 have hV':Sl (Bg.of w).blk bP l V:=hV
 have hff:=j1 (l:=l) (a:=a)
 have hD':DataIn (Bg.of w).blk l:=hD
 refine En f66 rfl rfl (bR ?_)
 refine eT (fun V=>.tuple #[V,.int .i64 (fF l a 4).2]) rfl call127 (fun w hw=>Ev l V a 4 w (hw.slF hV') hB (hD'.mono hw.bg) (by omega)) rfl (fun V1=>gB ?_)
 apply gJ 4 16 20 (fun hF2 hF2'=>?_) ?_; rotate_right
 ·refine zz5 hF2 (af rfl) (zz5 hF2 (rc rfl) ?_)
  exact zE
 refine zz0 (af rfl) ?_
 apply gJ 8 21 29 (fun hF3 hF3'=>?_) ?_; rotate_right
 ·refine zR3 ?_
  refine zz5 hF3 (aK rfl (fun w hw=>oI l V a w (hw.slF hV') hB)) ?_
  have hfi:=A4 (l:=l) (a:=a) (by omega)
  refine zR2 ?_
  refine zz5 hF3 (jO rfl nJ) ?_
  exact zE
 refine zR2 ?_
 refine ab rfl ?_ ?_<;>intro h4
 ·have hq2:=h4
  refine zR8 ?_
  exact dR (e:=by rw [La hq2]; rfl)
 have hq2:=h4
 refine zR3 ?_
 refine eU ah (aw (af rfl) ?_)
 refine aw (DJ (E:=cd) (l:=(fF l a 4).1) (i:=0) rfl rfl an bA) (aw (mm rfl) ?_)
 refine aw (dW rfl ao ac) (aw (af rfl) (aw (DJ (E:=cd) (l:=(fF l a 4).1) (i:=1) rfl rfl an bA) (aw (mm rfl) ?_)))
 refine aw (dW rfl ao ac) (aw (lY rfl rfl (by omega)) (zT2 ?_))
 refine aw (DJ (E:=cd) (l:=(fF l a 4).1) (i:=2) rfl rfl an bA) (aw (mm rfl) ?_)
 refine aw (dW rfl ao ac) (aw (lY rfl rfl (by omega)) (zT2 ?_))
 refine aw (DJ (E:=cd) (l:=(fF l a 4).1) (i:=3) rfl rfl an bA) (aw (mm rfl) ?_)
 refine aw (dW rfl ao ac) (aw (lY rfl rfl (by omega)) (zT6 ?_))
 refine dR (e:=?_)
 rw [Jr (by omega) (by omega) (by simp_all)]
 exact congrArg (fun x:UInt32=>Ending.returned (.tuple #[.int .u32 x.toNat,.bool true])) (OG (by omega))
theorem uM (l:List SecV) (V:Value) (a:UInt32) (w:World) (hV:Sl (hp w) bP l V) (hB:SecB l) :
  Cr prog 65 #[V,.int .u32 a.toNat] w (.bool (D3 l a)):=by
 have hV':Sl (Bg.of w).blk bP l V:=hV
 have hff:=j1 (l:=l) (a:=a)
 refine En f65 rfl rfl (zR9 ?_)
 refine zz0 (aK rfl (fun w hw=>oI l V a w (hw.slF hV') hB)) (zR8 ?_)
 apply dV 6 11 17 (fun hT1 hT1'=>?_) ?_; rotate_right
 ·refine zR4 ?_
  refine zz5 hT1 (jO rfl nJ) ?_
  exact zE
 refine zR4 ?_
 exact aD (e:=rfl)
theorem sJ (r:Int) (w:World) :
  Cr prog 213 #[.int .i64 r] w (.bool (mU r)):=by
 refine En f213 rfl rfl (bR ?_)
 refine dT 3 5 8 (h2:=zR4 ?_)
 exact aD (e:=rfl)
theorem MH (r:Int) (w:World) :
  Cr prog 216 #[.int .i64 r] w (.bool (E4 r)):=by
 refine En f216 rfl rfl (bR ?_)
 refine dT 3 5 8 (h2:=zR4 ?_)
 exact aD (e:=rfl)
theorem za (n:UInt32) (w:World) :
  Cr prog 220 #[.int .u32 n.toNat] w (.bool (oK n)):=by
 refine En f220 rfl rfl (zR8 ?_)
 refine zz0 (qn (n:=127) rfl rfl) (zz0 (af rfl) ?_)
 apply gJ 3 5 8 (fun hF1 hF1'=>?_) ?_; rotate_right
 ·refine zz5 hF1 (af rfl) (zz5 hF1 (jA (n:=4294967168) rfl rfl) ?_)
  exact zE
 refine zR4 ?_
 exact aD (e:=rfl)
theorem pW (op:Int) (w:World) :
  Cr prog 218 #[.int .i64 op] w (.bool (lK op)):=by
 refine En f218 rfl rfl (bR ?_)
 refine dT 3 5 8 (h2:=zR4 ?_)
 exact aD (e:=rfl)
theorem lL (op:Int) (w:World) :
  Cr prog 219 #[.int .i64 op] w (.bool (ma op)):=by
 refine En f219 rfl rfl (bR ?_)
 refine cZ 3 5 8 (h2:=?_)
 refine zz0 (af rfl) ?_
 refine cZ 3 9 12 (h2:=zR4 ?_)
 exact aD (e:=rfl)
theorem Fg (op:Int) (w:World) :
  Cr prog 212 #[.int .i64 op] w (.bool (Bu op)):=by
 refine En f212 rfl rfl (bR ?_)
 refine dT 3 5 8 (h2:=?_)
 refine zz0 (af rfl) ?_
 refine dT 3 9 12 (h2:=?_)
 refine zz0 (af rfl) ?_
 refine dT 3 13 16 (h2:=zR4 ?_)
 exact aD (e:=rfl)
theorem Ff (i:Ins) (w:World) :
  Cr prog 214 #[.agg (al.enc i).toArray] w (.bool (Bt i)):=by
 refine En f214 rfl rfl (zR2 ?_)
 refine bJ rfl rfl (fun b1=>zR7 ?_)
 refine zz0 (ak rfl (pW i.op)) (zz0 (af rfl) ?_)
 refine dT 4 6 10 (h2:=?_)
 refine zz0 (af rfl) ?_
 apply gJ 4 11 15 (fun hF3 hF3'=>?_) ?_; rotate_right
 ·refine zR2 ?_
  refine zz5 hF3 (ak rfl (lL i.op)) ?_
  exact zE
 refine zz0 (af rfl) ?_
 refine cZ 4 16 20 (h2:=zR4 ?_)
 exact aD (e:=rfl)
theorem Hz (i:Ins) (w:World) :
  Cr prog 217 #[.agg (al.enc i).toArray] w (.bool (xJ i)):=by
 refine En f217 rfl rfl (zR2 ?_)
 refine bJ rfl rfl (fun b1=>zR7 ?_)
 refine zz0 (ak rfl (pW i.op)) (zz0 (af rfl) ?_)
 refine dT 4 6 10 (h2:=?_)
 refine zz0 (af rfl) ?_
 apply gJ 4 11 15 (fun hF3 hF3'=>?_) ?_; rotate_right
 ·refine zR2 ?_
  refine zz5 hF3 (ak rfl (lL i.op)) ?_
  exact zE
 refine zz0 (af rfl) ?_
 refine cZ 4 16 20 (h2:=?_)
 refine zz0 (af rfl) ?_
 refine cZ 4 21 25 (h2:=?_)
 refine zz0 (af rfl) ?_
 refine cZ 4 26 30 (h2:=?_)
 refine zz0 (af rfl) ?_
 refine cZ 4 31 35 (h2:=zR4 ?_)
 exact aD (e:=rfl)
theorem Bs (op:Int) (w:World) :
  Cr prog 215 #[.int .i64 op] w (.bool (vT op)):=by
 refine En f215 rfl rfl (bR ?_)
 refine cZ 3 5 8 (h2:=zR4 ?_)
 exact aD (e:=rfl)
theorem Az (i:Ins) (w:World) :
  Cr prog 210 #[.agg (al.enc i).toArray] w (.bool (lh i)):=by
 refine En f210 rfl rfl (zR2 ?_)
 refine bJ rfl rfl (fun b1=>zR8 ?_)
 refine zz0 (ak rfl (pW i.op)) (zR2 ?_)
 refine ab rfl ?_ ?_<;>intro h2
 ·refine zR6 ?_
  refine dT 4 9 13 (h2:=zR5 ?_)
  exact aD (e:=by unfold lh; exact zH)
 refine bR ?_
 refine ab rfl ?_ ?_<;>intro h4
 ·refine zR6 ?_
  refine cZ 4 20 24 (h2:=zR5 ?_)
  exact aD (e:=by unfold lh; exact zH)
 refine cj ?_
 exact aD (e:=by unfold lh; exact zH)
theorem yg (i:Ins) (w:World) :
  Cr prog 211 #[.agg (al.enc i).toArray] w (.bool (ja i)):=by
 refine En f211 rfl rfl (zR2 ?_)
 refine bJ rfl rfl (fun b1=>cj ?_)
 refine ab rfl ?_ ?_<;>intro h2
 ·refine zR6 ?_
  refine cZ 4 9 13 (h2:=zR5 ?_)
  exact aD (e:=by unfold ja; exact zH)
 refine zR7 ?_
 refine zz0 (ak rfl (lL i.op)) (zR2 ?_)
 refine ab rfl ?_ ?_<;>intro h4
 ·refine zR6 ?_
  refine cZ 4 20 24 (h2:=?_)
  refine zz0 (af rfl) ?_
  refine cZ 4 25 29 (h2:=zR5 ?_)
  exact aD (e:=by unfold ja; exact zH)
 refine cj ?_
 exact aD (e:=by unfold ja; exact zH)
theorem Cq (i:Ins) (w:World) :
  Cr prog 153 #[.agg (al.enc i).toArray] w (.int .i64 (gP i)):=by
 refine En f153 rfl rfl (zR2 ?_)
 refine bJ rfl rfl (fun b1=>bR ?_)
 refine cZ 4 6 10 (h2:=?_)
 refine zz0 (af rfl) ?_
 apply gJ 4 11 15 (fun hF3 hF3'=>?_) ?_; rotate_right
 ·refine zz5 hF3 (cF rfl) (zz5 hF3 (ak rfl (Az i)) ?_)
  exact zE
 refine zz0 (af rfl) ?_
 apply gJ 4 16 20 (fun hF4 hF4'=>?_) ?_; rotate_right
 ·refine zz5 hF4 (cF rfl) (zz5 hF4 (ak rfl (yg i)) ?_)
  exact zE
 refine zR2 ?_
 refine ab rfl ?_ ?_<;>intro h5
 ·refine zR7 ?_
  exact aD (e:=by unfold gP; exact zH)
 refine zR7 ?_
 refine zz0 (ak rfl (Fg i.op)) (zz0 (af rfl) ?_)
 apply dV 5 24 29 (fun hT6 hT6'=>?_) ?_; rotate_right
 ·refine zR2 ?_
  refine zz5 hT6 (ak rfl (sJ i.a)) ?_
  exact zE
 refine zz0 (af rfl) ?_
 apply gA
 ·exact (rfl:_=(10,30,40))
 ·exact rfl
 ·intro hF7; have hF7':=hF7
  try simp only [bs] at hF7'
  refine zR2 ?_
  refine zz5 hF7 (ak rfl (Fg i.op)) (zR2 ?_)
  apply fC
  ·exact (rfl:_=(4,35,39))
  ·exact rfl
  ·intro hT8; have hT8':=hT8
   try simp only [bs] at hT8'
   refine zR6 ?_
   exact aN (Sub.cons rfl (zz7 4 rfl))
  ·intro hF8
   refine zR6 ?_
   exact aN (Sub.cons rfl (zz7 4 rfl))
  refine zR3 ?_
  exact aN (Sub.cons rfl (zz7 7 rfl))
 ·intro hT7
  refine df ?_
  exact aN (Sub.cons rfl (zz7 10 rfl))
 refine zz0 (af rfl) ?_
 apply gA
 ·exact (rfl:_=(9,41,50))
 ·exact rfl
 ·intro hF9; have hF9':=hF9
  try simp only [bs] at hF9'
  refine zz5 hF9 (cF rfl) (zz5 hF9 (ak rfl (Ff i)) (zz5 hF9 (af rfl) ?_))
  apply fC
  ·exact (rfl:_=(5,44,49))
  ·exact rfl
  ·intro hT10; have hT10':=hT10
   try simp only [bs] at hT10'
   refine zR2 ?_
   refine zz5 hT10 (ak rfl (sJ i.b)) (zR4 ?_)
   exact aN (Sub.cons rfl (zz7 5 rfl))
  ·intro hF10
   refine zR7 ?_
   exact aN (Sub.cons rfl (zz7 5 rfl))
  refine zR3 ?_
  exact aN (Sub.cons rfl (zz7 5 rfl))
 ·intro hT9
  refine cj ?_
  exact aN (Sub.cons rfl (zz7 9 rfl))
 refine zz0 (af rfl) ?_
 apply gA
 ·exact (rfl:_=(9,51,60))
 ·exact rfl
 ·intro hF11; have hF11':=hF11
  try simp only [bs] at hF11'
  refine zz5 hF11 (cF rfl) (zz5 hF11 (ak rfl (Ff i)) (zR2 ?_))
  apply fC
  ·exact (rfl:_=(4,55,59))
  ·exact rfl
  ·intro hT12; have hT12':=hT12
   try simp only [bs] at hT12'
   refine zR6 ?_
   exact aN (Sub.cons rfl (zz7 4 rfl))
  ·intro hF12
   refine zR6 ?_
   exact aN (Sub.cons rfl (zz7 4 rfl))
  refine zR3 ?_
  exact aN (Sub.cons rfl (zz7 6 rfl))
 ·intro hT11
  refine cj ?_
  exact aN (Sub.cons rfl (zz7 9 rfl))
 refine zR2 ?_
 refine ab rfl ?_ ?_<;>intro h13
 ·refine zR7 ?_
  exact aD (e:=by unfold gP; exact zH)
 refine zR7 ?_
 refine zz0 (ak rfl (Bs i.op)) (zz0 (af rfl) ?_)
 apply dV 5 64 69 (fun hT14 hT14'=>?_) ?_; rotate_right
 ·refine zR2 ?_
  refine zz5 hT14 (ak rfl (MH i.cc)) ?_
  exact zE
 refine zz0 (af rfl) ?_
 apply gA
 ·exact (rfl:_=(10,70,80))
 ·exact rfl
 ·intro hF15; have hF15':=hF15
  try simp only [bs] at hF15'
  refine zR2 ?_
  refine zz5 hF15 (ak rfl (Bs i.op)) (zR2 ?_)
  apply fC
  ·exact (rfl:_=(4,75,79))
  ·exact rfl
  ·intro hT16; have hT16':=hT16
   try simp only [bs] at hT16'
   refine zR6 ?_
   exact aN (Sub.cons rfl (zz7 4 rfl))
  ·intro hF16
   refine zR6 ?_
   exact aN (Sub.cons rfl (zz7 4 rfl))
  refine zR3 ?_
  exact aN (Sub.cons rfl (zz7 7 rfl))
 ·intro hT15
  refine df ?_
  exact aN (Sub.cons rfl (zz7 10 rfl))
 refine zz0 (af rfl) ?_
 apply gA
 ·exact (rfl:_=(9,81,90))
 ·exact rfl
 ·intro hF17; have hF17':=hF17
  try simp only [bs] at hF17'
  refine zz5 hF17 (cF rfl) (zz5 hF17 (ak rfl (Hz i)) (zR2 ?_))
  apply fC
  ·exact (rfl:_=(4,85,89))
  ·exact rfl
  ·intro hT18; have hT18':=hT18
   try simp only [bs] at hT18'
   refine zR2 ?_
   refine zz5 hT18 (jz (n:=0) rfl rfl) (zR3 ?_)
   exact aN (Sub.cons rfl (zz7 4 rfl))
  ·intro hF18
   refine zR6 ?_
   exact aN (Sub.cons rfl (zz7 4 rfl))
  refine zR3 ?_
  exact aN (Sub.cons rfl (zz7 6 rfl))
 ·intro hT17
  refine cj ?_
  exact aN (Sub.cons rfl (zz7 9 rfl))
 refine zR2 ?_
 refine ab rfl ?_ ?_<;>intro h19
 ·refine zR7 ?_
  exact aD (e:=by unfold gP; exact zH)
 refine zR2 ?_
 refine dZ (.of (ι:=Unit) (fun u=>¬ (((lK i.op=true∧i.form=1)∨ma i.op=true∨i.op=19)∧oK i.imm=false)) (fun _=>Bg.of w) (fun u=>[cellE b1 (al.enc i) 36]) (fun u=>[])) ?_ (fun u hi=>?_)
 ·skip
  refine zR4 ?_
  refine zz0 (ak rfl (pW i.op)) (zz0 (af rfl) ?_)
  refine dT 4 94 98 (h2:=?_)
  refine zz0 (af rfl) ?_
  apply gJ 4 99 103 (fun hF21 hF21'=>?_) ?_; rotate_right
  ·refine zR2 ?_
   refine zz5 hF21 (ak rfl (lL i.op)) ?_
   exact zE
  refine zz0 (af rfl) ?_
  refine cZ 4 104 108 (h2:=zR2 ?_)
  refine ab rfl ?_ ?_<;>intro h23
  ·refine zR4 ?_
   refine zz0 (ak rfl (za i.imm)) (zR3 ?_)
   refine ab rfl ?_ ?_<;>intro h24
   ·refine zR7 ?_
    exact aD (e:=by unfold gP; exact zH)
   refine zR2 ?_
   refine aT () (o:=(by grind))
  refine zR2 ?_
  refine aT () (o:=(by grind))
 skip
 refine zR7 ?_
 refine dT 4 116 120 (h2:=?_)
 refine zz0 (af rfl) ?_
 apply dV 9 121 130 (fun hT26 hT26'=>?_) ?_; rotate_right
 ·refine zR5 ?_
  refine zz5 hT26 (gK (n:=2) rfl rfl) ?_
  refine zz5 hT26 (ak rfl (za (i.imm - i.addr - 2))) ?_
  exact zE
 refine zR2 ?_
 refine ab rfl ?_ ?_<;>intro h27
 ·refine zR7 ?_
  exact aD (e:=by unfold gP; exact zH)
 refine zR8 ?_
 exact aD (e:=by unfold gP; exact zH)
theorem jm (i:Ins) (w:World) :
  Cr prog 88 #[.agg (al.enc i).toArray] w (.bool (decide (gP i=0))):=by
 refine En f88 rfl rfl (zR2 ?_)
 refine bJ rfl rfl (fun b1=>zR6 ?_)
 refine zz0 (ak rfl (Cq i)) (zR5 ?_)
 exact aD (e:=rfl)
theorem nN (n:UInt32) (w:World) :
  Calls prog 328 #[.int .u32 n.toNat] w (fun e w'=>∃ V,e=.returned V∧Ext w w'∧dY w w' 5 cd (ky n) V):=by
 refine En f328 rfl rfl (zR8 ?_)
 refine zz0 (pd (n:=256) rfl rfl) ?_
 refine zz0 (jj rfl ac ao) (zz0 (af rfl) (zz0 (m5 (n:=256) rfl rfl (by first|decide|assumption)) ?_))
 refine zz0 (pd (n:=256) rfl rfl) ?_
 refine zz0 (jj rfl ac ao) (zz0 (af rfl) (zz0 (m5 (n:=65536) rfl rfl (by first|decide|assumption)) ?_))
 refine zz0 (pd (n:=256) rfl rfl) ?_
 refine zz0 (jj rfl ac ao) (zz0 (af rfl) (zz0 (m5 (n:=16777216) rfl rfl (by first|decide|assumption)) ?_))
 refine zz0 (jj rfl ac ao) (gv (E:=cd) (ky n) (vs:=[(0,_),(1,_),(2,_),(3,_)]) rfl rfl an bA bT (by rfl) (by rfl) rfl (by first|kernel_rfl|rfl) rfl (fun V1=>zR4 ?_))
 exact aM results328 rfl fun w' hw=>⟨_,rfl,hw.b0,hw.new (.head _)⟩
theorem Gi (i:Ins) (w:World) (hb:0≤i.width∧i.width≤4) :
  Cr prog 329 #[.agg (al.enc i).toArray] w (.int .i64 (jw i)):=by
 refine En f329 rfl rfl (zR2 ?_)
 refine bJ rfl rfl (fun b1=>cj ?_)
 refine ab rfl ?_ ?_<;>intro h2
 ·refine zR4 ?_
  refine zz0 (gw rfl rfl (by omega)) (zR6 ?_)
  exact aD (e:=by unfold jw; rw [if_pos (by assumption)])
 refine zR7 ?_
 refine dZ (.of (ι:=Int) (fun n=>n=if i.op=18 then (85:Int) else 80) (fun _=>Bg.of w) (fun n=>[cellE b1 (al.enc i) 36]) (fun n=>[(3,.int .i64 n)])) ?_ (fun n hi=>?_)
 ·skip
  refine zR7 ?_
  refine ab rfl ?_ ?_<;>intro h3
  ·refine zR4 ?_
   refine aT 85 (o:=(by rw [if_pos (by assumption)]))
  refine zR2 ?_
  refine aT 80 (o:=(by rw [if_neg (by assumption)]))
 skip
 refine zR2 ?_
 have hn:80≤n∧n≤85:=by rw [hi]; split<;>omega
 refine zR6 ?_
 refine ab rfl ?_ ?_<;>intro h4
 ·refine zR9 ?_
  exact aD (e:=by subst hi; unfold jw; rw [if_neg (show ¬ i.op=17 by assumption)]; simp only []; generalize (if i.op=18 then (85:Int) else 80)=q; (repeat (first|rw [if_pos (by omega)]|rw [if_neg (by omega)])))
 refine zR9 ?_
 refine dT 4 22 26 (h2:=zR2 ?_)
 refine ab rfl ?_ ?_<;>intro h6
 ·refine zR9 ?_
  exact aD (e:=by subst hi; unfold jw; rw [if_neg (show ¬ i.op=17 by assumption)]; simp only []; generalize (if i.op=18 then (85:Int) else 80)=q; (repeat (first|rw [if_pos (by omega)]|rw [if_neg (by omega)])))
 refine bR ?_
 refine ab rfl ?_ ?_<;>intro h7
 ·refine zR9 ?_
  exact aD (e:=by subst hi; unfold jw; rw [if_neg (show ¬ i.op=17 by assumption)]; simp only []; generalize (if i.op=18 then (85:Int) else 80)=q; (repeat (first|rw [if_pos (by omega)]|rw [if_neg (by omega)])))
 refine zR9 ?_
 exact aD (e:=by subst hi; unfold jw; rw [if_neg (show ¬ i.op=17 by assumption)]; simp only []; generalize (if i.op=18 then (85:Int) else 80)=q; (repeat (first|rw [if_pos (by omega)]|rw [if_neg (by omega)])))
theorem J0 (i:Ins) (w:World) (hcc:-100≤i.cc∧i.cc≤100) :
  Calls prog 330 #[.agg (al.enc i).toArray] w (fun e w'=>∃ V,e=.returned V∧Ext w w'∧dY w w' 5 cd (jI i) V):=by
 refine En f330 rfl rfl (zR2 ?_)
 refine bJ rfl rfl (fun b1=>zR7 ?_)
 refine zz0 (dS rfl ad ao) (ug ?_)
 refine ab rfl ?_ ?_<;>intro h2
 ·refine zR3 ?_
  refine zz0 (mM (m:=8) rfl rfl) ?_
  refine fM (E:=cd) _ rfl rfl an bA bT (fun V3=>zR6 ?_)
  exact aM g8 rfl fun w' hw=>⟨_,rfl,hw.b0,by unfold jI; exact zI (hw.new (.head _))⟩
 refine zR6 ?_
 refine ab rfl ?_ ?_<;>intro h4
 ·refine zR3 ?_
  refine zz0 (mM (m:=16) rfl rfl) ?_
  refine fM (E:=cd) _ rfl rfl an bA bT (fun V5=>zR6 ?_)
  exact aM g8 rfl fun w' hw=>⟨_,rfl,hw.b0,by unfold jI; exact zI (hw.new (.head _))⟩
 refine zR6 ?_
 refine ab rfl ?_ ?_<;>intro h6
 ·refine zR3 ?_
  refine gv (E:=cd) [129,u8 i.a] (vs:=[(0,_),(1,_)]) rfl rfl an bA bT (by rfl) (by rfl) rfl (by first|kernel_rfl|rfl) rfl (fun V7=>zR6 ?_)
  exact aM g8 rfl fun w' hw=>⟨_,rfl,hw.b0,by unfold jI; exact zI (hw.new (.head _))⟩
 refine zR6 ?_
 refine ab rfl ?_ ?_<;>intro h8
 ·refine zR3 ?_
  refine gv (E:=cd) [130,u8 i.a] (vs:=[(0,_),(1,_)]) rfl rfl an bA bT (by rfl) (by rfl) rfl (by first|kernel_rfl|rfl) rfl (fun V9=>zR6 ?_)
  exact aM g8 rfl fun w' hw=>⟨_,rfl,hw.b0,by unfold jI; exact zI (hw.new (.head _))⟩
 refine zR6 ?_
 refine ab rfl ?_ ?_<;>intro h10
 ·refine zR5 ?_
  refine zz0 (dS rfl ad ao) (zz0 (af rfl) (gv (E:=cd) [u8 (144+i.cc),u8 i.a] (vs:=[(0,_),(1,_)]) rfl rfl an bA bT (by rfl) (by rfl) rfl (by first|kernel_rfl|rfl) rfl (fun V11=>zR6 ?_)))
  exact aM g8 rfl fun w' hw=>⟨_,rfl,hw.b0,by unfold jI; exact zI (hw.new (.head _))⟩
 refine zR6 ?_
 refine ab rfl ?_ ?_<;>intro h12
 ·refine zR3 ?_
  refine gv (E:=cd) [160,u8 i.a] (vs:=[(0,_),(1,_)]) rfl rfl an bA bT (by rfl) (by rfl) rfl (by first|kernel_rfl|rfl) rfl (fun V13=>zR6 ?_)
  exact aM g8 rfl fun w' hw=>⟨_,rfl,hw.b0,by unfold jI; exact zI (hw.new (.head _))⟩
 refine zR6 ?_
 refine ab rfl ?_ ?_<;>intro h14
 ·refine zR3 ?_
  refine gv (E:=cd) [161,u8 i.a] (vs:=[(0,_),(1,_)]) rfl rfl an bA bT (by rfl) (by rfl) rfl (by first|kernel_rfl|rfl) rfl (fun V15=>zR6 ?_)
  exact aM g8 rfl fun w' hw=>⟨_,rfl,hw.b0,by unfold jI; exact zI (hw.new (.head _))⟩
 refine zR7 ?_
 refine zz0 (dS rfl ad ao) (fM (E:=cd) _ rfl rfl an bA bT (fun V16=>zR4 ?_))
 exact aM g8 rfl fun w' hw=>⟨_,rfl,hw.b0,by unfold jI; exact zI (hw.new (.head _))⟩
theorem gp (w:World) :
  Cr prog 120 #[] w (.agg (er.enc iL).toArray):=by
 refine En f120 rfl rfl (zR2 ?_)
 refine bH aJ rfl (fun b1=>zR4 ?_)
 refine zz0 (aI (vs:=[(1,_)]) rfl rfl (tj _)) (zR4 ?_)
 exact aL (e:=rfl)
theorem kj (w:World) :
  Cr prog 121 #[] w (.agg (er.enc emptyS).toArray):=by
 refine En f121 rfl rfl (zR2 ?_)
 refine bH aJ rfl (fun b1=>zR4 ?_)
 refine zz0 (aI (vs:=[(0,_)]) rfl rfl (tl _)) (zR4 ?_)
 exact aL (e:=rfl)
theorem vq (a:VSet) (w:World) :
  Cr prog 62 #[.agg (er.enc a).toArray] w (.bool (eD a)):=by
 refine En f62 rfl rfl (zR2 ?_)
 refine bJ rfl rfl (fun b1=>zR9 ?_)
 refine cZ 3 5 8 (h2:=zR2 ?_)
 refine ab rfl ?_ ?_<;>intro h3
 ·have hq1:=h3
  refine bB (eU ah (aw (cF rfl) ?_))
  refine aw (ak rfl gp) ?_
  refine aw (yb rfl rfl rE dM (lB _ dM) rfl mq sX) (aw (af rfl) ?_)
  apply zD 4 12 16 (fun hF4 hF4'=>?_) ?_; rotate_right
  ·refine db hF4 (cF rfl) (db hF4 (ak rfl kj) ?_)
   refine db hF4 (yb rfl rfl rE dM (lB _ dM) rfl mq sX) ?_
   exact zQ
  refine zT5 ?_
  exact aD (e:=by unfold eD; rw [if_pos hq1])
 have hq1:¬(a.top=true∨a.em=true):=fun q=>by have:=h3; rcases q with q|q<;>simp_all
 refine zR9 ?_
 refine zz0 (jA rfl rfl) (zR2 ?_)
 refine ab rfl ?_ ?_<;>intro h5
 ·have hq2:=h5
  refine zR8 ?_
  apply dV 4 27 31 (fun hT6 hT6'=>?_) ?_; rotate_right
  ·refine zR2 ?_
   refine zz5 hT6 (dq (n:=0) rfl rfl) ?_
   exact zE
  refine zR5 ?_
  exact aD (e:=by rw [Lg hq1 hq2])
 have hq2:=h5
 refine zR6 ?_
 refine zz0 (m6 (n:=0) rfl rfl) (zz0 (af rfl) ?_)
 apply dV 10 35 45 (fun hT7 hT7'=>?_) ?_; rotate_right
 ·refine zz5 hT7 (bE rfl) ?_
  have hst0:a.st≠0:=fun q=>by rw [q] at hT7'; exact absurd hT7' (by decide)
  refine zR6 ?_
  refine zz5 hT7 (pd rfl rfl) ?_
  refine zz5 hT7 (dq (n:=0) rfl rfl) ?_
  exact zE
 refine zz0 (af rfl) ?_
 apply fC
 ·exact (rfl:_=(14,46,60))
 ·exact rfl
 ·intro hT8; have hT8':=hT8
  try simp only [bs] at hT8'
  refine zR2 ?_
  refine zz5 hT8 (jz (n:=0) rfl rfl) (zz5 hT8 (af rfl) ?_)
  apply gA
  ·exact (rfl:_=(4,50,54))
  ·exact rfl
  ·intro hF9; have hF9':=hF9
   try simp only [bs] at hF9'
   refine zR2 ?_
   refine zz5 hF9 (jz (n:=4294967295) rfl rfl) (zR3 ?_)
   exact aN (Sub.cons rfl (zz7 4 rfl))
  ·intro hT9
   refine zR6 ?_
   exact aN (Sub.cons rfl (zz7 4 rfl))
  refine zz5 hT8 (af rfl) ?_
  apply gA
  ·exact (rfl:_=(4,55,59))
  ·exact rfl
  ·intro hF10; have hF10':=hF10
   try simp only [bs] at hF10'
   refine zR2 ?_
   refine zz5 hF10 (jz (n:=1) rfl rfl) (zR3 ?_)
   exact aN (Sub.cons rfl (zz7 4 rfl))
  ·intro hT10
   refine zR6 ?_
   exact aN (Sub.cons rfl (zz7 4 rfl))
  refine zR3 ?_
  exact aN (Sub.cons rfl (zz7 8 rfl))
 ·intro hF8
  refine pf ?_
  exact aN (Sub.cons rfl (zz7 14 rfl))
 refine zR4 ?_
 exact aD (e:=by rw [Lf hq1 (by rw [UInt32.not_le] at hq2; exact hq2)]; simp [Bool.and_assoc])
theorem iM (a:VSet) (w:World) :
  Cr prog 123 #[.agg (er.enc a).toArray] w (.agg (er.enc (ae a)).toArray):=by
 refine En f123 rfl rfl (zR2 ?_)
 refine bJ rfl rfl (fun b1=>?_)
 refine bH aJ rfl (fun b2=>zR6 ?_)
 refine zz0 (ak rfl (vq a)) (zR3 ?_)
 refine ab rfl ?_ ?_<;>intro h3
 ·refine dx (zz0 (ak rfl gp) (zR5 ?_))
  refine aL (e:=?_)
  unfold ae
  exact zF
 refine zR9 ?_
 refine aL (e:=?_)
 unfold ae
 exact zF
theorem nq (a:VSet) (n:UInt32) (w:World) :
  Cr prog 122 #[.agg (er.enc a).toArray,.int .u32 n.toNat] w (.bool (qS a n)):=by
 refine En f122 rfl rfl (zR2 ?_)
 refine bJ rfl rfl (fun b1=>zR6 ?_)
 refine zz0 (ak rfl (iM a)) (zR9 ?_)
 refine cZ 3 9 12 (h2:=zR2 ?_)
 refine ab rfl ?_ ?_<;>intro h3
 ·have hq1:=h3
  refine zR9 ?_
  exact aD (e:=by rw [PV hq1])
 have hq1:¬((ae a).top=true∨(ae a).em=true):=fun q=>by have:=h3; rcases q with q|q<;>simp_all
 refine bR ?_
 apply gJ 5 19 24 (fun hF4 hF4'=>?_) ?_; rotate_right
 ·refine zR3 ?_
  refine zz5 hF4 (m6 rfl rfl) ?_
  exact zE
 refine zR2 ?_
 refine ab rfl ?_ ?_<;>intro h5
 ·have hq2:=h5
  refine zR7 ?_
  exact aD (e:=by rw [PU hq1 hq2])
 have hq2:¬(n<(ae a).lo∨(ae a).hi<n):=fun q=>by have:=h5; rcases q with q|q<;>simp_all
 refine zR6 ?_
 refine zz0 (dq (n:=0) rfl rfl) (zz0 (af rfl) ?_)
 apply gJ 9 28 37 (fun hF6 hF6'=>?_) ?_; rotate_right
 ·refine zR6 ?_
  refine zz5 hF6 (pd rfl rfl) ?_
  refine zz5 hF6 (dq (n:=0) rfl rfl) ?_
  exact zE
 refine zR4 ?_
 exact aD (e:=by rw [PT hq1 (by rw [← UInt32.not_lt]; exact fun q=>hq2 (.inl q)) (by rw [← UInt32.not_lt]; exact fun q=>hq2 (.inr q))])
theorem sN (a:VSet) (w:World) :
  Cr prog 124 #[.agg (er.enc a).toArray] w (.int .i64 (cQ a)):=by
 have hd:=((ae a).hi - (ae a).lo).toNat_lt
 have hq:(((ae a).hi - (ae a).lo) / (ae a).st).toNat≤((ae a).hi - (ae a).lo).toNat:=by rw [UInt32.toNat_div]; exact Nat.div_le_self _ _
 refine En f124 rfl rfl (zR2 ?_)
 refine bJ rfl rfl (fun b1=>zR6 ?_)
 refine zz0 (ak rfl (iM a)) (bR ?_)
 refine ab rfl ?_ ?_<;>intro h2
 ·refine zR7 ?_
  refine aD (e:=?_)
  unfold cQ kl
  exact zF
 refine zR9 ?_
 refine ab rfl ?_ ?_<;>intro h3
 ·refine zR7 ?_
  refine aD (e:=?_)
  unfold cQ kl
  exact zF
 refine zR7 ?_
 refine zz0 (dq (n:=0) rfl rfl) (zR2 ?_)
 refine ab rfl ?_ ?_<;>intro h4
 ·refine zR7 ?_
  refine aD (e:=?_)
  unfold cQ kl
  exact zF
 refine cj ?_
 refine zz0 (m5 rfl rfl (by first|decide|assumption)) ?_
 refine zz0 (aO rfl ac ad) (zR5 ?_)
 refine aD (e:=?_)
 unfold cQ kl
 exact zF
theorem EU (a:VSet) (w:World) (hc:cQ a≤64) :
  Calls prog 125 #[.agg (er.enc a).toArray] w (fun e w'=>∃ V',e=.returned V'∧Ext w w'∧dY w w' 23 aa (il a) V'):=by
 have hcr:=KH a
 refine En f125 rfl rfl (zR2 ?_)
 refine bJ rfl rfl (fun b1=>cj ?_)
 refine zz0 (ak rfl (sN a)) (bR ?_)
 refine ay 23 aa ?_
 refine cT (ι:=Nat × Value) (fun ⟨k,V'⟩=>(k:Int)≤cQ a) (fun _=>_) (fun ⟨k,V'⟩=>[rowE V' 23 aa (elK a k),cellE b1 (er.enc a) 25]) (fun ⟨k,V'⟩=>[(5,.int .i64 (k:Nat)),(3,V')]) (fun ⟨k,V'⟩=>(cQ a).toNat - k) (0,_) (by show ((0:Nat):Int)≤_; omega) (Front.c (Front.c Front.nil)) (fun i hi m hm=>?_)
 obtain ⟨k,V'⟩:=i
 dsimp only at hi hm
 conv=>enter [3]; dsimp only
 conv=>enter [4,1]; dsimp only
 have hel:(elK a k).length=k:=xO a k
 refine zR8 ?_
 refine ab rfl ?_ ?_<;>intro h2
 ·refine zR9 ?_
  refine zz0 (eJ rfl ad ac) (zR4 ?_)
  refine fM (E:=aa) (a.lo+u32 (k:Int) * a.st) rfl rfl am ar bj (fun V3=>?_)
  refine zz3 rfl rfl am cp (fun V4=>?_)
  refine bR ?_
  rw [← FC]
  refine aP (k+1,_) (o:=(by show ((k+1:Nat):Int)≤_; omega))
 refine df ?_
 exact aM results125 rfl fun w' hw=>⟨_,rfl,hw.b0,by unfold il; rw [show (cQ a).toNat=k by omega]; exact hw.new (.head _)⟩
theorem C9 (a:VSet) (w:World) :
  Calls prog 64 #[.agg (er.enc a).toArray] w (fun e w'=>∃ V',e=.returned (.tuple #[V',.int .i64 (dm a).2])∧Ext w w'∧dY w w' 23 aa (dm a).1 V'):=by
 refine En f64 rfl rfl (zR2 ?_)
 refine bJ rfl rfl (fun b1=>zR7 ?_)
 refine zz0 (ak rfl (iM a)) (zR7 ?_)
 refine zz0 (aK rfl (fun w hw=>by have q:=sN (ae a) w; rw [wW] at q; exact q)) (zR3 ?_)
 refine ab rfl ?_ ?_<;>intro h2
 ·refine zR8 ?_
  refine cG results64 rfl rfl (fun w' hw=>?_)
  have e:dm a=([],6):=by unfold dm; rw [if_pos (by omega)]
  exact ⟨_,by rw [e],hw.b0,by rw [e]; exact cH rfl⟩
 refine zR5 ?_
 refine eT (fun V=>V) rfl call125 (fun w hw=>EU (ae a) w (by rw [wW]; omega)) rfl (fun V3=>zR5 ?_)
 refine cG results64 rfl rfl (fun w' hw=>?_)
 have e:dm a=(il (ae a),0):=by unfold dm; rw [if_neg (by omega)]
 exact ⟨_,by rw [e],hw.b0,by rw [e]; exact hw.new (by repeat constructor)⟩
theorem nZ (op:Int) (w:World) :
  Cr prog 89 #[.int .i64 op] w (.bool (uO op)):=by
 refine En f89 rfl rfl (bR ?_)
 refine cZ 3 5 8 (h2:=?_)
 refine zz0 (af rfl) ?_
 refine cZ 3 9 12 (h2:=zR4 ?_)
 exact aD (e:=by unfold uO; congr 2; rw [Bool.eq_iff_iff]; simp [or_assoc])
theorem Bo (i:Ins) (w:World) (hI:InsOK i) :
  Cr prog 31 #[.agg (al.enc i).toArray] w (.bool (ow i)):=by
 refine En f31 rfl rfl (zR2 ?_)
 refine bJ rfl rfl (fun b1=>zR6 ?_)
 refine zz0 (aK rfl (fun w hw=>by have q:=jm i w; rw [qT] at q; exact q)) (zz0 (af rfl) ?_)
 apply dV 4 5 9 (fun hT2 hT2'=>?_) ?_; rotate_right
 ·refine zR2 ?_
  refine zz5 hT2 (ak rfl (nZ i.op)) ?_
  exact zE
 refine zR4 ?_
 exact aD (e:=rfl)
theorem Jz (l:List SecV) (V:Value) (i:Ins) (s:VSet) (w:World) (hV:Sl (hp w) bP l V) (hB:SecB l) (hD:DataIn (hp w) l) :
  Calls prog 63 #[V,.agg (al.enc i).toArray,.agg (er.enc s).toArray] w (fun e w'=>∃ V',e=.returned (.tuple #[V',.int .i64 (yl l i.imm s).2])∧Ext w w'∧dY w w' 23 aa (yl l i.imm s).1 V'):=by
 have hV':Sl (Bg.of w).blk bP l V:=hV
 have hD':DataIn (Bg.of w).blk l:=hD
 refine En f63 rfl rfl (zR2 ?_)
 refine bJ rfl rfl (fun b1=>?_)
 refine bJ rfl rfl (fun b2=>zR9 ?_)
 refine zz0 (jA (n:=64) rfl rfl) (zR2 ?_)
 refine ab rfl ?_ ?_<;>intro h3
 ·have hq4:64≤s.hi:=h3
  refine zR8 ?_
  refine cG results63 rfl rfl (fun w' hw=>?_)
  have e:yl l i.imm s=([],19):=by unfold yl; rw [if_pos hq4]
  exact ⟨_,by rw [e],hw.b0,by rw [e]; exact cH rfl⟩
 have hq4:s.hi<64:=by have:=h3; rw [UInt32.not_le] at this; exact this
 refine jk ?_
 refine ay 23 aa ?_
 refine cT (ι:=Nat × List UInt32 × Value) (fun ⟨j,out,Vo⟩=>j≤s.hi.toNat+1∧qy l i.imm s j=some out) (fun _=>_) (fun ⟨j,out,Vo⟩=>[rowE Vo 23 aa out,cellE b2 (er.enc s) 25,cellE b1 (al.enc i) 36]) (fun ⟨j,out,Vo⟩=>[(9,.int .u32 (u32 (j:Int)).toNat),(8,Vo)]) (fun ⟨j,out,Vo⟩=>65 - j) (0,[],_) ⟨Nat.zero_le _,rfl⟩ (Front.c (Front.c Front.nil)) (fun i hi m hm=>?_)
 obtain ⟨j,out,Vo⟩:=i
 dsimp only at hi hm
 conv=>enter [3]; dsimp only
 conv=>enter [4,1]; dsimp only
 obtain ⟨hj,hto⟩:=hi
 have hol:=ui hto
 have h64:s.hi.toNat<64:=by rw [UInt32.lt_iff_toNat_lt] at hq4; exact hq4
 refine zR6 ?_
 refine zz0 (qn rfl rfl) (zR2 ?_)
 refine ab rfl ?_ ?_<;>intro h4
 ·have hq5:=h4
  refine zR5 ?_
  have hju:=nC (x:=(j:Int)) (by omega)
  rw [UInt32.le_iff_toNat_le] at hq5
  refine zR5 ?_
  refine dZ (.of (ι:=UInt32) (fun k1=>k1=ym s (u32 (j:Int))) (fun _=>Bg.of w) (fun k1=>[rowE Vo 23 aa out,cellE b2 (er.enc s) 25,cellE b1 (al.enc i) 36]) (fun k1=>[(10,.int .u32 k1.toNat)])) ?_ (fun k1 hi=>?_)
  ·skip
   refine zR4 ?_
   refine zz0 (ak rfl (nq s _)) (zR3 ?_)
   refine ab rfl ?_ ?_<;>intro h5
   ·refine zR6 ?_
    refine aT _ (o:=(by show _=_; unfold ym; rw [if_neg (by simp_all)]))
   refine zR2 ?_
   refine aT _ (o:=(by show _=_; unfold ym; rw [if_pos (by simp_all)]))
  skip
  refine zR6 ?_
  refine zz0 (oq (m:=4) rfl rfl) (zz0 (gl rfl rfl) ?_)
  refine zz0 (aK rfl (fun w hw=>K9 l V (i.imm+4 * k1) w (hw.slF hV') hB (hD'.mono hw.bg))) (gB ?_)
  apply gJ 5 41 46 (fun hF6 hF6'=>?_) ?_; rotate_right
  ·refine zR2 ?_
   refine zz5 hF6 (aK rfl (fun w hw=>uM l V (mO l (i.imm+4 * k1)).1 w (hw.slF hV') hB)) ?_
   exact zE
  refine zR2 ?_
  refine ab rfl ?_ ?_<;>intro h7
  ·have hq7:(jp l i.imm k1).2=false:=by unfold jp; simp only [Bool.and_eq_false_iff]; exact h7
   refine gB ?_
   refine cG results63 rfl rfl (fun w' hw=>?_)
   have htn:=AU (Iw hto (by rw [← hi]; exact hq7)) (s.hi.toNat+1) (by omega)
   have e:yl l i.imm s=([],19):=by unfold yl; rw [if_neg (by rw [UInt32.not_le]; exact hq4),htn]
   exact ⟨_,by rw [e],hw.b0,by rw [e]; exact cH rfl⟩
  have hq7:(jp l i.imm k1).2=true:=by unfold jp; simp only [Bool.and_eq_true]; have:=h7; simp_all
  refine zR5 ?_
  refine fM (E:=aa) (mO l (i.imm+4 * k1)).1 rfl rfl am ar bj (fun V8=>?_)
  refine zz3 rfl rfl am cp (fun V9=>?_)
  refine zR6 ?_
  refine zz0 (gl (n:=1) rfl rfl) (zR3 ?_)
  rw [DZ (by omega)]
  refine aP (j+1,out ++ [(jp l i.imm k1).1],_) (o:=⟨by omega,by rw [hi]; exact Ea hto (by rw [← hi]; exact hq7)⟩)
 have hq5:=h4
 refine zR6 ?_
 have hhs:=C2 hq4
 have hju:=nC (x:=(j:Int)) (by omega)
 have hjj:j=s.hi.toNat+1:=by rw [UInt32.not_le,UInt32.lt_iff_toNat_lt] at hq5; omega
 subst hjj
 refine zR7 ?_
 refine cG results63 rfl rfl (fun w' hw=>?_)
 have e:yl l i.imm s=(out,0):=by unfold yl; rw [if_neg (by rw [UInt32.not_le]; exact hq4),hto]
 exact ⟨Vo,by rw [e],hw.b0,by rw [e]; exact hw.new (by repeat constructor)⟩
theorem D6 (l:List SecV) (V:Value) (i:Ins) (s:StV) (w:World) (hV:Sl (hp w) bP l V) (hB:SecB l) (hD:DataIn (hp w) l) (hN:∀ s∈l,s.name.size≤140737488351232) (hI:InsOK i) :
  Calls prog 21 #[V,.agg (al.enc i).toArray,.agg (bY.enc s).toArray] w (fun e w'=>∃ V':Value,e=.returned (.tuple #[V',.int .i64 (aQ l i (s.get i.a)).2])∧Ext w w'∧dY w w' 23 aa (aQ l i (s.get i.a)).1 V'):=by
 have hV':Sl (Bg.of w).blk bP l V:=hV
 have hD':DataIn (Bg.of w).blk l:=hD
 refine En f21 rfl rfl (zR2 ?_)
 refine bJ rfl rfl (fun b1=>?_)
 refine bJ rfl rfl (fun b2=>zR8 ?_)
 refine zz0 (aK rfl (fun w hw=>Bo i w hI)) (zR3 ?_)
 refine ab rfl ?_ ?_<;>intro h3
 ·have hq1:ow i=false:=h3
  refine zR8 ?_
  refine cG jq rfl rfl (fun w' hw=>?_)
  have e:aQ l i (s.get i.a)=([],2):=by
   unfold aQ
   rw [if_pos hq1]
  exact ⟨nS,by rw [e],hw.b0,by rw [e]; exact cH rfl⟩
 have hq1:ow i=true:=by simpa using h3
 refine zR5 ?_
 refine zz0 (aK rfl (fun w hw=>s6 l V w (hw.slF hV') hB (fun s hs=>by have:=hN s hs; omega))) (bR ?_)
 refine ab rfl ?_ ?_<;>intro h4
 ·have hq2:fV l≠0:=h4
  refine zR9 ?_
  refine cG jq rfl rfl (fun w' hw=>?_)
  have e:aQ l i (s.get i.a)=([],fV l):=by
   unfold aQ
   rw [if_neg (by rw [hq1]; simp)]
   rw [if_pos hq2]
  exact ⟨nS,by rw [e],hw.b0,by rw [e]; exact cH rfl⟩
 have hq2:fV l=0:=by simpa using h4
 refine zR3 ?_
 have hA:=ly (show eN i=0 by unfold ow at hq1; simp at hq1; exact hq1.1)
 refine zR4 ?_
 refine zz0 (gn rfl rfl aA aj) ?_
 refine zz0 (dI (vs:=er.enc (s.get i.a)) rfl (by repeat constructor) aV aj (ie ⟨by omega,by omega⟩ (by simp)) rfl) ?_
 obtain ⟨x,hx⟩:∃ x,x=s.get i.a:=⟨_,rfl⟩
 rw [← hx]
 refine bH aJ rfl (fun b5=>zR7 ?_)
 refine zz0 (ak rfl (vq x)) (zR2 ?_)
 refine cZ 3 28 31 (h2:=?_)
 refine zz0 (af rfl) ?_
 refine cZ 3 32 35 (h2:=zR2 ?_)
 refine ab rfl ?_ ?_<;>intro h8
 ·have hq3:=h8
  refine zR8 ?_
  refine cG jq rfl rfl (fun w' hw=>?_)
  have e:aQ l i x=([],19):=by
   unfold aQ
   rw [if_neg (by rw [hq1]; simp)]
   rw [if_neg (fun q=>q hq2)]
   rw [if_pos (by rcases hq3 with (q|q)|q<;>simp_all)]
  exact ⟨nS,by rw [e],hw.b0,by rw [e]; exact cH rfl⟩
 have hq3:=h8
 refine bR ?_
 refine ab rfl ?_ ?_<;>intro h9
 ·have hqo:i.op=22:=h9
  refine zR5 ?_
  refine eT (fun V=>.tuple #[V,.int .i64 (yl l i.imm x).2]) rfl call63 (fun w hw=>Jz l V i x w (hw.slF hV') hB (hD'.mono hw.bg)) rfl (fun VE=>zR8 ?_)
  refine cG jq rfl rfl (fun w' hw=>?_)
  have e:=D5 (l:=l) hq1 hq2 (show ¬((eD x=false∨x.em=true)∨x.top=true) from fun q=>by rcases q with (q|q)|q<;>simp_all) hqo
  exact ⟨VE,by rw [e]; rfl,hw.b0,by rw [e]; exact hw.new (by repeat constructor)⟩
 have hqo:i.op≠22:=by simpa using h9
 refine zR5 ?_
 refine eT (fun V=>.tuple #[V,.int .i64 (dm x).2]) rfl call64 (fun w hw=>C9 x w) rfl (fun VE=>gB ?_)
 apply gJ 4 52 56 (fun hF10 hF10'=>?_) ?_; rotate_right
 ·refine zz5 hF10 (af rfl) (zz5 hF10 (rc rfl) ?_)
  exact zE
 refine zR2 ?_
 refine ab rfl ?_ ?_<;>intro h11
 ·have hq6:=h11
  refine zR8 ?_
  refine cG jq rfl rfl (fun w' hw=>?_)
  have e:aQ l i x=([],19):=by
   unfold aQ
   rw [if_neg (by rw [hq1]; simp)]
   rw [if_neg (fun q=>q hq2)]
   rw [if_neg (show ¬((eD x=false∨x.em=true)∨x.top=true) from fun q=>by rcases q with (q|q)|q<;>simp_all)]
   rw [if_pos hqo,if_pos (by left; intro q; have:=v6 q; rcases hq6 with h|h; exact h q; omega)]
  exact ⟨nS,by rw [e],hw.b0,by rw [e]; exact cH rfl⟩
 have hq6:=h11
 refine zR9 ?_
 refine cP (.of (ι:=Nat) (fun k=>k≤(dm x).1.length∧((dm x).1.take k).any (fun a=>!D3 l a)=false) (fun _=>_) (fun k=>[rowE VE 23 aa (dm x).1,cellE b5 (er.enc x) 25,cellE b2 (bY.enc s) 28,cellE b1 (al.enc i) 36]) (fun k=>[(11,.int .i64 (k:Nat))]) (fun k=>(dm x).1.length - k)) 0 ⟨Nat.zero_le _,rfl⟩ (Front.c Front.nil) (fun k hi m hm=>?_)
 obtain ⟨hk1,hk2⟩:=hi
 refine zR9 ?_
 refine ab rfl ?_ ?_<;>intro h12
 ·refine cj ?_
  refine zz0 (aK rfl (fun w hw=>uM l V ((dm x).1.getD k default) w (hw.slF hV') hB)) (zR3 ?_)
  refine ab rfl ?_ ?_<;>intro h13
  ·have hq7:=h13
   refine df ?_
   refine cG jq rfl rfl (fun w' hw=>?_)
   have e:aQ l i x=([],19):=by
    unfold aQ
    rw [if_neg (by rw [hq1]; simp)]
    rw [if_neg (fun q=>q hq2)]
    rw [if_neg (show ¬((eD x=false∨x.em=true)∨x.top=true) from fun q=>by rcases q with (q|q)|q<;>simp_all)]
    rw [if_pos hqo,if_pos (by right; rw [List.any_eq_true]; exact ⟨_,ba (l:=(dm x).1) (k:=k) (by omega),by rw [hq7]; rfl⟩)]
   exact ⟨nS,by rw [e],hw.b0,by rw [e]; exact cH rfl⟩
  have hq7:=h13
  refine zR9 ?_
  refine aP (k+1) (o:=⟨by omega,by rw [any_take_succ (by omega),hk2,Bool.false_or]; simp_all⟩)
 refine gB ?_
 refine cG jq rfl rfl (fun w' hw=>?_)
 have hk3:(dm x).1.any (fun a=>!D3 l a)=false:=by rw [← hk2,List.take_of_length_le (by omega)]
 have e:aQ l i x=((dm x).1,0):=by
  unfold aQ
  rw [if_neg (by rw [hq1]; simp)]
  rw [if_neg (fun q=>q hq2)]
  rw [if_neg (show ¬((eD x=false∨x.em=true)∨x.top=true) from fun q=>by rcases q with (q|q)|q<;>simp_all)]
  rw [if_pos hqo,if_neg (by rw [hk3]; simp_all)]
 exact ⟨VE,by rw [e]; rfl,hw.b0,by rw [e]; exact hw.new (by repeat constructor)⟩
theorem G4 (a b:List Ins) (V W:Value) (w:World) (hV:Sl (hp w) al a V) (hW:Sl (hp w) al b W) :
  Cr prog 26 #[V,W] w (.bool (decide (a=b))):=by
 have hV':Sl (Bg.of w).blk al a V:=hV
 have hW':Sl (Bg.of w).blk al b W:=hW
 have hl1:=hV.len_le
 have hl2:=hW.len_le
 refine En f26 rfl rfl (mN ?_)
 refine ab rfl ?_ ?_<;>intro h1
 ·refine zR7 ?_
  exact aD (e:=by rw [decide_eq_false (fun e=>by subst e; omega)])
 refine zR9 ?_
 refine cP (.of (ι:=Nat) (fun k=>k≤a.length∧a.take k=b.take k) (fun _=>_) (fun k=>[]) (fun k=>[(5,.int .i64 (k:Nat))]) (fun k=>a.length - k)) 0 ⟨by omega,rfl⟩ (Front.c Front.nil) (fun k hi m hm=>?_)
 obtain ⟨hk1,hk3⟩:=hi
 refine zR9 ?_
 refine ab rfl ?_ ?_<;>intro h2
 ·refine zR5 ?_
  refine eU ah (zT8 ?_)
  refine aw (Jk rfl rfl E8 kX (xe _ kX) rfl Ae B7) (zT2 ?_)
  refine ab rfl ?_ ?_<;>intro h3
  ·refine cj ?_
   exact aD (e:=by rw [decide_eq_false (fun e=>by subst e; simp_all)])
  refine zR9 ?_
  refine aP (k+1) (o:=⟨by omega,by rw [bN (by omega),bN (by omega),hk3]; congr 2⟩)
 refine cj ?_
 exact aD (e:=by rw [decide_eq_true (show a=b by rw [← List.take_of_length_le (show a.length≤k by omega),hk3,List.take_of_length_le (by omega)])])
theorem jD (n:UInt32) (w:World) :
  Cr prog 285 #[.int .u32 n.toNat] w (.agg (er.enc (fH n)).toArray):=by
 refine En f285 rfl rfl (zR2 ?_)
 refine bH aJ rfl (fun b1=>zR6 ?_)
 refine zz0 (aI (vs:=[(2,_),(3,_)]) rfl rfl (rl _ _)) (zR4 ?_)
 exact aL (e:=rfl)
theorem uV (a b:UInt32) (w:World) :
  Cr prog 249 #[.int .i64 a.toNat,.int .i64 b.toNat] w (.int .i64 ((iE a b).toNat:Nat)):=by
 refine En f249 rfl rfl (zR7 ?_)
 refine cT (ι:=UInt32 × UInt32) (fun ⟨x,y⟩=>iE x y=iE a b) (fun _=>_) (fun ⟨x,y⟩=>[]) (fun ⟨x,y⟩=>[(0,.int .i64 (x.toNat:Nat)),(1,.int .i64 (y.toNat:Nat))]) (fun ⟨x,y⟩=>y.toNat) (a,b) rfl (.cons (by first|rfl|exact az rfl (by omega)|exact az rfl (by rw [hmd]; first|rfl|exact (Int.tmod_eq_emod_of_nonneg (by omega)).symm|exact Int.tmod_eq_emod_of_nonneg (by omega))|exact az rfl (by simp)|exact bU rfl (by simp)) (.cons (by first|rfl|exact az rfl (by omega)|exact az rfl (by rw [hmd]; first|rfl|exact (Int.tmod_eq_emod_of_nonneg (by omega)).symm|exact Int.tmod_eq_emod_of_nonneg (by omega))|exact az rfl (by simp)|exact bU rfl (by simp)) Front.nil)) (fun i hi m hm=>?_)
 obtain ⟨x,y⟩:=i
 dsimp only at hi hm
 change Tr _ _ [] ([(0,.int .i64 (x.toNat:Nat)),(1,.int .i64 (y.toNat:Nat))] ++ _) _
 have hxl:=x.toNat_lt
 have hyl:=y.toNat_lt
 refine zR7 ?_
 refine ab rfl ?_ ?_<;>intro h1
 ·refine zR7 ?_
  refine zz0 (vf rfl rfl (by omega)) (mN ?_)
  have hy0:y≠0:=fun e=>by subst e; simp_all
  have hlt:=EP x hy0
  have hmd:((x % y).toNat:Int)=(x.toNat:Int) % (y.toNat:Int):=by rw [UInt32.toNat_mod]; rfl
  refine Jf (y,x % y) (.cons (by first|rfl|exact az rfl (by omega)|exact az rfl (by rw [hmd]; first|rfl|exact (Int.tmod_eq_emod_of_nonneg (by omega)).symm|exact Int.tmod_eq_emod_of_nonneg (by omega))|exact az rfl (by simp)|exact bU rfl (by simp)) (.cons (by first|rfl|exact az rfl (by omega)|exact az rfl (by rw [hmd]; first|rfl|exact (Int.tmod_eq_emod_of_nonneg (by omega)).symm|exact Int.tmod_eq_emod_of_nonneg (by omega))|exact az rfl (by simp)|exact bU rfl (by simp)) Front.nil)) (zz9 12 rfl) (o:=(by show iE y (x % y)=_; rw [Fl hy0]; exact hi))
 refine df ?_
 refine aM results249 rfl (fun w' hw=>?_)
 have hy0:y=0:=UInt32.toNat_inj.1 (by show y.toNat=0; omega)
 exact ⟨by rw [← hi,hy0,uU],hw.b0⟩
theorem g6 (lo hi st:Int) (w:World) (h1:0≤lo∧lo≤1099511627776) (h2:-1099511627776≤hi∧hi≤1099511627776) (h3:0≤st∧st≤1099511627776) :
  Cr prog 250 #[.int .i64 lo,.int .i64 hi,.int .i64 st] w (.agg (er.enc (ig lo hi st)).toArray):=by
 refine En f250 rfl rfl (zR2 ?_)
 refine bH aJ rfl (fun b1=>bR ?_)
 refine ab rfl ?_ ?_<;>intro h2
 ·have hq1:=h2
  refine dx (zz0 (ak rfl kj) (zR5 ?_))
  exact aL (e:=by unfold ig; rw [if_pos hq1]; rfl)
 have hq1:=h2
 refine zR9 ?_
 refine ab rfl ?_ ?_<;>intro h3
 ·have hq2:=h3
  refine zR3 ?_
  refine zz0 (eJ rfl ad ac) (zz0 (ak rfl (jD (u32 lo))) (zR5 ?_))
  exact aL (e:=by unfold ig; rw [if_neg hq1,if_pos hq2]; rfl)
 have hq2:=h3
 refine zR3 ?_
 have hst:0<st:=by have:=hq2; omega
 have hb1:0≤(hi - lo) / st:=Int.ediv_nonneg (by omega) (by omega)
 have hb2:(hi - lo) / st * st≤hi - lo:=Int.ediv_mul_le _ (by omega)
 have hb3:0≤(hi - lo) / st * st:=Int.mul_nonneg hb1 (by omega)
 have hb4:(hi - lo) / st≤hi - lo:=Int.ediv_le_self _ (by omega)
 refine zR6 ?_
 refine zz0 (kY rfl rfl (by omega)) (zz0 (af rfl) ?_)
 refine zz0 (gw rfl rfl (by omega)) (df ?_)
 refine ab rfl ?_ ?_<;>intro h4
 ·have hq3:=h4
  refine zR3 ?_
  refine zz0 (eJ rfl ad ac) (zz0 (ak rfl (jD (u32 lo))) (zR5 ?_))
  exact aL (e:=by unfold ig; rw [if_neg hq1,if_neg hq2,if_pos hq3]; rfl)
 have hq3:=h4
 refine zR8 ?_
 refine dT 3 33 36 (h2:=?_)
 refine zz0 (af rfl) ?_
 refine dT 3 37 40 (h2:=zR2 ?_)
 refine ab rfl ?_ ?_<;>intro h7
 ·have hq4:=h7
  refine dx (zz0 (ak rfl gp) (zR5 ?_))
  exact aL (e:=by unfold ig; rw [if_neg hq1,if_neg hq2,if_neg hq3,if_pos hq4]; rfl)
 have hq4:=h7
 refine zR5 ?_
 refine zz0 (eJ rfl ad ac) (zz0 (af rfl) (zz0 (eJ rfl ad ac) (zz0 (af rfl) (zz0 (eJ rfl ad ac) (zz0 (aI (vs:=[(2,_),(3,_),(4,_)]) rfl rfl (o9 _ _ _)) (zR4 ?_))))))
 exact aL (e:=by unfold ig; rw [if_neg hq1,if_neg hq2,if_neg hq3,if_neg (fun q=>by omega)]; rfl)
theorem gU (lo hi st:UInt32) (w:World) :
  Cr prog 291 #[.int .u32 lo.toNat,.int .u32 hi.toNat,.int .u32 st.toNat] w (.agg (er.enc (bS lo hi st)).toArray):=by
 have h1:=lo.toNat_lt
 have h2:=hi.toNat_lt
 have h3:=st.toNat_lt
 refine En f291 rfl rfl (zR2 ?_)
 refine bH aJ rfl (fun b1=>zR5 ?_)
 refine zz0 (aO rfl ac ad) (zz0 (af rfl) (zz0 (aO rfl ac ad) (zz0 (af rfl) (zz0 (aO rfl ac ad) (zz0 (aK rfl (fun w hw=>by have q:=g6 (lo.toNat:Nat) (hi.toNat:Nat) (st.toNat:Nat) w (by omega) (by omega) (by omega); rw [g5] at q; exact q)) (zR4 ?_))))))
 exact aL (e:=rfl)
theorem y8 (a b:VSet) (w:World) :
  Cr prog 189 #[.agg (er.enc a).toArray,.agg (er.enc b).toArray] w (.agg (er.enc (dK a b)).toArray):=by
 have ha:=(ae a).hi.toNat_lt
 obtain ⟨ka,hka⟩:∃ s,s=ae a:=⟨_,rfl⟩
 obtain ⟨kb,hkb⟩:∃ s,s=ae b:=⟨_,rfl⟩
 refine En f189 rfl rfl (zR2 ?_)
 refine bJ rfl rfl (fun b1=>?_)
 refine bJ rfl rfl (fun b2=>?_)
 refine bH aJ rfl (fun b3=>zR5 ?_)
 refine zz0 (aK rfl (fun w hw=>by have q:=iM a w; rw [← hka] at q; exact q)) (zR6 ?_)
 refine zz0 (aK rfl (fun w hw=>by have q:=iM b w; rw [← hkb] at q; exact q)) (zR9 ?_)
 refine cZ 3 14 17 (h2:=zR2 ?_)
 refine ab rfl ?_ ?_<;>intro h5
 ·refine dx (zz0 (ak rfl gp) (zR5 ?_))
  refine aL (e:=?_)
  unfold dK kB
  rw [← hka,← hkb]
  exact zF
 refine zR9 ?_
 refine ab rfl ?_ ?_<;>intro h6
 ·refine zR8 ?_
  refine aL (e:=?_)
  unfold dK kB
  rw [← hka,← hkb]
  exact zF
 refine zR9 ?_
 refine ab rfl ?_ ?_<;>intro h7
 ·refine zR8 ?_
  refine aL (e:=?_)
  unfold dK kB
  rw [← hka,← hkb]
  exact zF
 refine zR9 ?_
 refine dZ (.of (ι:=UInt32) (fun lo=>lo=jv ka.lo kb.lo) (fun _=>Bg.of w) (fun lo=>[cellE b3 (er.enc ⟨false,false,0,0,0⟩) 25,cellE b2 (er.enc kb) 25,cellE b1 (er.enc ka) 25]) (fun lo=>[(5,.int .u32 lo.toNat)])) ?_ (fun lo hi=>?_)
 ·skip
  refine zR8 ?_
  refine ab rfl ?_ ?_<;>intro h8
  ·refine zR6 ?_
   refine aT kb.lo (o:=(by show _=_; unfold jv; rw [if_pos (by assumption)]))
  refine zR2 ?_
  refine aT ka.lo (o:=(by show _=_; unfold jv; rw [if_neg (by assumption)]))
 skip
 have hlo:=hi
 refine zR7 ?_
 refine dZ (.of (ι:=UInt32) (fun hh=>hh=jV ka.hi kb.hi) (fun _=>Bg.of w) (fun hh=>[cellE b3 (er.enc ⟨false,false,0,0,0⟩) 25,cellE b2 (er.enc kb) 25,cellE b1 (er.enc ka) 25]) (fun hh=>[(6,.int .u32 hh.toNat)])) ?_ (fun hh hi=>?_)
 ·skip
  refine zR8 ?_
  refine ab rfl ?_ ?_<;>intro h9
  ·refine zR6 ?_
   refine aT kb.hi (o:=(by show _=_; unfold jV; rw [if_pos (by assumption)]))
  refine zR2 ?_
  refine aT ka.hi (o:=(by show _=_; unfold jV; rw [if_neg (by assumption)]))
 skip
 have hhi:=hi
 refine zR4 ?_
 refine zz0 (aO rfl ac ad) (zR2 ?_)
 refine zz0 (aO rfl ac ad) (zz0 (ak rfl (uV ka.st kb.st)) (bR ?_))
 refine zz0 (aO rfl ac ad) (zz0 (ak rfl (uV (iE ka.st kb.st) (ka.lo - lo))) (bR ?_))
 refine zz0 (aO rfl ac ad) (zz0 (ak rfl (uV (iE (iE ka.st kb.st) (ka.lo - lo)) (kb.lo - lo))) (zR6 ?_))
 refine zz0 (aO rfl ac ad) (zz0 (af rfl) (zz0 (aO rfl ac ad) (zz0 (af rfl) (zz0 (aK rfl (fun w hw=>by have q:=g6 (lo.toNat:Nat) (hh.toNat:Nat) ((iE (iE (iE ka.st kb.st) (ka.lo - lo)) (kb.lo - lo)).toNat:Nat) w (wN _) (EM _) (wN _); rw [g5] at q; exact q)) (zR4 ?_)))))
 refine aL (e:=?_)
 unfold dK kB
 rw [← hka,← hkb,if_neg (by simp_all),if_neg (by simp_all),if_neg (by simp_all),← join_step,← hlo,← hhi]
 rfl
theorem GQ (a b:VSet) (w:World) :
  Cr prog 292 #[.agg (er.enc a).toArray,.agg (er.enc b).toArray] w (.bool (kR a b)):=by
 refine En f292 rfl rfl (zR2 ?_)
 refine bJ rfl rfl (fun b1=>?_)
 refine bJ rfl rfl (fun b2=>zR6 ?_)
 refine zz0 (ak rfl (iM a)) (zR6 ?_)
 refine zz0 (ak rfl (iM b)) (zR9 ?_)
 refine cZ 3 11 14 (h2:=zR2 ?_)
 refine ab rfl ?_ ?_<;>intro h4
 ·refine zR7 ?_
  refine aD (e:=?_)
  unfold kR lE
  exact zF
 refine zR8 ?_
 refine cZ 3 17 20 (h2:=zR2 ?_)
 refine ab rfl ?_ ?_<;>intro h6
 ·refine zR7 ?_
  refine aD (e:=?_)
  unfold kR lE
  exact zF
 refine zR8 ?_
 refine zz0 (ak rfl (nq _ _)) (zR2 ?_)
 apply gJ 6 26 32 (fun hF7 hF7'=>?_) ?_; rotate_right
 ·refine zR3 ?_
  refine zz5 hF7 (ak rfl (nq _ _)) ?_
  exact zE
 refine zR2 ?_
 refine ab rfl ?_ ?_<;>intro h8
 ·have hq:=h8
  refine zR7 ?_
  refine aD (e:=?_)
  unfold kR lE
  rw [if_neg (by simp_all),if_neg (by simp_all)]
  rcases hq with r|r<;>simp [r]
 have hq:=h8
 refine zR6 ?_
 refine zz0 (dq (n:=0) rfl rfl) (zz0 (af rfl) ?_)
 apply gA
 ·exact (rfl:_=(12,36,48))
 ·exact rfl
 ·intro hF9; have hF9':=hF9
  try simp only [bs] at hF9'
  refine zR2 ?_
  refine zz5 hF9 (m6 (n:=0) rfl rfl) (zz5 hF9 (af rfl) ?_)
  apply fC
  ·exact (rfl:_=(7,40,47))
  ·exact rfl
  ·intro hT10; have hT10':=hT10
   try simp only [bs] at hT10'
   have hb0:=Md (by assumption:0<(ae b).st)
   refine zR4 ?_
   refine zz5 hT10 (pd rfl rfl) ?_
   refine zz5 hT10 (dq (n:=0) rfl rfl) (zR3 ?_)
   exact aN (Sub.cons rfl (zz7 7 rfl))
  ·intro hF10
   refine zR9 ?_
   exact aN (Sub.cons rfl (zz7 7 rfl))
  refine zR3 ?_
  exact aN (Sub.cons rfl (zz7 6 rfl))
 ·intro hT9
  refine jk ?_
  exact aN (Sub.cons rfl (zz7 12 rfl))
 refine zR4 ?_
 refine aD (e:=?_)
 unfold kR lE
 rw [if_neg (by simp_all),if_neg (by simp_all),hq.1,hq.2]
 simp
theorem Jt (a b:VSet) (w:World) :
  Cr prog 248 #[.agg (er.enc a).toArray,.agg (er.enc b).toArray] w (.agg (er.enc (jH a b)).toArray):=by
 refine En f248 rfl rfl (zR2 ?_)
 refine bJ rfl rfl (fun b1=>?_)
 refine bJ rfl rfl (fun b2=>?_)
 refine bH aJ rfl (fun b3=>zR5 ?_)
 refine zz0 (ak rfl (iM a)) (zR6 ?_)
 refine zz0 (ak rfl (iM b)) (zR8 ?_)
 refine zz0 (ak rfl (GQ _ _)) (zR2 ?_)
 refine ab rfl ?_ ?_<;>intro h4
 ·refine zR8 ?_
  refine aL (e:=?_)
  unfold jH jK lF
  exact zF
 refine zR9 ?_
 refine ab rfl ?_ ?_<;>intro h5
 ·refine zR8 ?_
  refine aL (e:=?_)
  unfold jH jK lF
  exact zF
 refine zR8 ?_
 refine cZ 3 21 24 (h2:=zR2 ?_)
 refine ab rfl ?_ ?_<;>intro h7
 ·refine dx (zz0 (ak rfl gp) (zR5 ?_))
  refine aL (e:=?_)
  unfold jH jK lF
  exact zF
 refine zR6 ?_
 refine zz0 (ak rfl (y8 _ _)) ?_
 refine bH aJ rfl (fun b8=>bR ?_)
 refine ab rfl ?_ ?_<;>intro h9
 ·refine zR8 ?_
  refine aL (e:=?_)
  unfold jH jK lF
  exact zF
 refine zR6 ?_
 refine zz0 (aO rfl ac ad) (zR3 ?_)
 refine dZ (.of (ι:=UInt32) (fun lo=>lo=if (dK (ae a) (ae b)).lo<(ae a).lo then (dK (ae a) (ae b)).lo % (dK (ae a) (ae b)).st else (dK (ae a) (ae b)).lo) (fun _=>Bg.of w) (fun lo=>[cellE b8 (er.enc (dK (ae a) (ae b))) 25,cellE b3 (er.enc ⟨false,false,0,0,0⟩) 25,cellE b2 (er.enc (ae b)) 25,cellE b1 (er.enc (ae a)) 25]) (fun lo=>[(6,.int .i64 (lo.toNat:Nat))])) ?_ (fun lo hi=>?_)
 ·skip
  refine zR9 ?_
  refine ab rfl ?_ ?_<;>intro h10
  ·have hst0:=DR (by assumption) (by assumption) (by simp_all) (by simp_all) (by assumption) (by assumption)
   have hst1:1≤(((dK (ae a) (ae b)).st.toNat:Nat):Int):=by have:=rJ hst0; omega
   have hmd:(((dK (ae a) (ae b)).lo % (dK (ae a) (ae b)).st).toNat:Int)=((dK (ae a) (ae b)).lo.toNat:Int) % ((dK (ae a) (ae b)).st.toNat:Int):=by rw [UInt32.toNat_mod]; rfl
   refine zR4 ?_
   refine zz0 (aO rfl ac ad) (zz0 (vf rfl rfl (by omega)) (zR3 ?_))
   refine xc ((dK (ae a) (ae b)).lo % (dK (ae a) (ae b)).st) (.cons (by first|rfl|exact az rfl (by omega)|exact az rfl hmd.symm|exact az rfl (by simp)|exact bU rfl (by simp)) Front.nil) (zz9 11 rfl) (o:=(by show _=_; rw [if_pos (by assumption)]))
  refine zR2 ?_
  apply bO (dK (ae a) (ae b)).lo
  ·exact rfl
  ·exact (.cons (by first|rfl|exact az rfl (by omega)|exact az rfl hmd.symm|exact az rfl (by simp)|exact bU rfl (by simp)) Front.nil)
  ·exact zz9 5 rfl
  ·exact (by repeat' constructor)
  exact (by show _=_; rw [if_neg (by assumption)])
 skip
 have hlo:=hi
 refine zR4 ?_
 refine zz0 (aO rfl ac ad) (zR3 ?_)
 refine dZ (.of (ι:=UInt32) (fun hh=>hh=if (ae a).hi<(dK (ae a) (ae b)).hi then 4294967295 else (dK (ae a) (ae b)).hi) (fun _=>Bg.of w) (fun hh=>[cellE b8 (er.enc (dK (ae a) (ae b))) 25,cellE b3 (er.enc ⟨false,false,0,0,0⟩) 25,cellE b2 (er.enc (ae b)) 25,cellE b1 (er.enc (ae a)) 25]) (fun hh=>[(7,.int .i64 (hh.toNat:Nat))])) ?_ (fun hh hi=>?_)
 ·skip
  refine zR9 ?_
  refine ab rfl ?_ ?_<;>intro h11
  ·refine zR4 ?_
   refine xc 4294967295 (.cons (by first|rfl|exact az rfl (by omega)|exact az rfl hmd.symm|exact az rfl (by simp)|exact bU rfl (by simp)) Front.nil) (zz9 6 rfl) (o:=(by show _=_; rw [if_pos (by assumption)]))
  refine zR2 ?_
  apply bO (dK (ae a) (ae b)).hi
  ·exact rfl
  ·exact (.cons (by first|rfl|exact az rfl (by omega)|exact az rfl hmd.symm|exact az rfl (by simp)|exact bU rfl (by simp)) Front.nil)
  ·exact zz9 5 rfl
  ·exact (by repeat' constructor)
  exact (by show _=_; rw [if_neg (by assumption)])
 skip
 have hhi:=hi
 refine zR6 ?_
 refine zz0 (aO rfl ac ad) (zz0 (aK rfl (fun w hw=>by have q:=g6 (lo.toNat:Nat) (hh.toNat:Nat) ((dK (ae a) (ae b)).st.toNat:Nat) w (wN _) (EM _) (wN _); rw [g5] at q; exact q)) (zR4 ?_))
 refine aL (e:=?_)
 rw [hlo,hhi]
 unfold jH jK lF
 exact zF
theorem BH (a b:VSet) (w:World) (hc:cQ a≤64) :
  Cr prog 331 #[.agg (er.enc a).toArray,.agg (er.enc b).toArray] w (.agg (er.enc (mX b (il a) emptyS)).toArray):=by
 have hel:(il a).length≤64:=by unfold il; rw [xO]; omega
 refine En f331 rfl rfl (zR2 ?_)
 refine bJ rfl rfl (fun b1=>?_)
 refine bJ rfl rfl (fun b2=>?_)
 refine bH aJ rfl (fun b3=>zR4 ?_)
 refine zz0 (ak rfl kj) ?_
 refine bH aJ rfl (fun b4=>zR6 ?_)
 refine cE rfl call125 (fun w hw=>EU a w hc) rfl (fun VE=>bR ?_)
 refine cP (.of (ι:=Nat) (fun k=>k≤(il a).length) (fun _=>_) (fun k=>[cellE b4 (er.enc (mX b ((il a).take k) emptyS)) 25,rowE VE 23 aa (il a),cellE b3 (er.enc ⟨false,false,0,0,0⟩) 25,cellE b2 (er.enc b) 25,cellE b1 (er.enc a) 25]) (fun k=>[(7,.int .i64 (k:Nat))]) (fun k=>(il a).length - k)) 0 (Nat.zero_le _) (Front.c Front.nil) (fun k hi m hm=>zR9 ?_)
 refine ab rfl ?_ ?_<;>intro h5
 ·refine zR5 ?_
  refine eU ah (zT5 ?_)
  refine aw (ak rfl (nq b _)) (zT2 ?_)
  refine ab rfl ?_ ?_<;>intro h6
  ·refine dO 0 7 ah ?_
   refine ax (zT5 ?_)
   refine aw (ak rfl (jD _)) ?_
   refine aw (ak rfl (y8 _ _)) (vp ?_)
   rw [ER (by omega) (by assumption)]
   refine aP (k+1) (o:=(by show k+1≤_; omega))
  refine zR9 ?_
  rw [IO (o:=b) (k:=k) (by omega) (by assumption)]
  refine aP (k+1) (o:=(by show k+1≤_; omega))
 refine zR6 ?_
 obtain rfl:k=(il a).length:=by omega
 rw [List.take_length]
 refine zR6 ?_
 exact aL (e:=rfl)
theorem rN (a b:VSet) (w:World) :
  Cr prog 315 #[.agg (er.enc a).toArray,.agg (er.enc b).toArray] w (.agg (er.enc (jM a b)).toArray):=by
 have hl1:=(ae a).lo.toNat_lt
 have hl2:=(ae b).lo.toNat_lt
 have hl3:=(ae a).st.toNat_lt
 refine En f315 rfl rfl (zR2 ?_)
 refine bJ rfl rfl (fun b1=>?_)
 refine bJ rfl rfl (fun b2=>?_)
 refine bH aJ rfl (fun b3=>zR5 ?_)
 refine zz0 (ak rfl (iM a)) (zR6 ?_)
 refine zz0 (ak rfl (iM b)) (bR ?_)
 refine ab rfl ?_ ?_<;>intro h4
 ·have hbt:=h4
  refine zR8 ?_
  exact aL (e:=by unfold jM l9; rw [if_pos hbt]; rfl)
 have hbt:(ae b).top=false:=by simpa using h4
 refine zR9 ?_
 refine ab rfl ?_ ?_<;>intro h5
 ·have hat:=h5
  refine zR8 ?_
  exact aL (e:=by unfold jM l9; rw [if_neg (by rw [hbt]; simp),if_pos hat]; rfl)
 have hat:(ae a).top=false:=by simpa using h5
 refine zR6 ?_
 refine zz0 (ak rfl (sN (ae a))) (zR3 ?_)
 refine ab rfl ?_ ?_<;>intro h6
 ·have hc1:cQ (ae a)≤64:=by simpa using h6
  refine zR4 ?_
  refine zz0 (aK rfl (fun w hw=>BH (ae a) (ae b) w hc1)) (zR5 ?_)
  exact aL (e:=by rw [← KG hc1 hbt hat]; rfl)
 have hc1:¬ cQ (ae a)≤64:=by simpa using h6
 refine zR6 ?_
 refine zz0 (ak rfl (sN (ae b))) (zR3 ?_)
 refine ab rfl ?_ ?_<;>intro h7
 ·have hc2:cQ (ae b)≤64:=by simpa using h7
  refine zR4 ?_
  refine zz0 (aK rfl (fun w hw=>BH (ae b) (ae a) w hc2)) (zR5 ?_)
  exact aL (e:=by rw [← HJ (by omega) hc2 hbt hat]; rfl)
 have hc2:¬ cQ (ae b)≤64:=by simpa using h7
 refine zR3 ?_
 have hst0:(ae a).st≠0:=MX (gg a) (by omega) hat
 have hst1:=rJ hst0
 have hfb:=IV (ae a) (jV (ae a).lo (ae b).lo) hst0
 have hfc:lO (ae a) (jV (ae a).lo (ae b).lo)≤12884901886:=by have h9:=hfb.2.2.2; unfold lO; omega
 refine zR3 ?_
 refine zz0 (aO rfl ac ad) (zR3 ?_)
 refine dZ (.of (ι:=Int) (fun x=>x=lO (ae a) (jV (ae a).lo (ae b).lo)) (fun _=>Bg.of w) (fun x=>[cellE b3 (er.enc ⟨false,false,0,0,0⟩) 25,cellE b2 (er.enc (ae b)) 25,cellE b1 (er.enc (ae a)) 25]) (fun x=>[(5,.int .i64 x)])) ?_ (fun x hi=>?_)
 ·skip
  refine zR9 ?_
  refine ab rfl ?_ ?_<;>intro h8
  ·have hlt:(ae a).lo<(ae b).lo:=h8
   refine bB ?_
   have hlt':=hlt
   rw [UInt32.lt_iff_toNat_lt] at hlt'
   have hm1:=Int.ediv_mul_le ((((ae b).lo.toNat:Nat):Int) - ((ae a).lo.toNat:Nat)+((ae a).st.toNat:Nat) - 1) (b:=(((ae a).st.toNat:Nat):Int)) (by omega)
   have hm2:0≤((((ae b).lo.toNat:Nat):Int) - ((ae a).lo.toNat:Nat)+((ae a).st.toNat:Nat) - 1) / (((ae a).st.toNat:Nat):Int):=Int.ediv_nonneg (by omega) (by omega)
   have hm3:=Int.mul_nonneg hm2 (show 0≤(((ae a).st.toNat:Nat):Int) by omega)
   refine zR3 ?_
   refine zz0 (aO rfl ac ad) (zR7 ?_)
   refine zz0 (aO rfl ac ad) (zR6 ?_)
   refine zz0 (kY rfl rfl (by omega)) (zz0 (af rfl) ?_)
   refine zz0 (gw rfl rfl (by omega)) (zR4 ?_)
   refine aT _ (o:=(by show _=_; unfold jV; rw [if_pos hlt,MR hlt]))
  have hlt:¬ (ae a).lo<(ae b).lo:=h8
  refine zR2 ?_
  refine aT _ (o:=(by show _=_; unfold jV; rw [if_neg hlt,MQ hst0]))
 skip
 have hx:=hi
 refine zR4 ?_
 refine zz0 (aO rfl ac ad) (zR3 ?_)
 refine dZ (.of (ι:=UInt32) (fun hh=>hh=jv (ae a).hi (ae b).hi) (fun _=>Bg.of w) (fun hh=>[cellE b3 (er.enc ⟨false,false,0,0,0⟩) 25,cellE b2 (er.enc (ae b)) 25,cellE b1 (er.enc (ae a)) 25]) (fun hh=>[(7,.int .i64 (hh.toNat:Nat))])) ?_ (fun hh hi=>?_)
 ·skip
  refine zR9 ?_
  refine ab rfl ?_ ?_<;>intro h9
  ·refine zR3 ?_
   refine zz0 (aO rfl ac ad) (zR3 ?_)
   apply bO (ae b).hi
   ·exact rfl
   ·exact (Front.c Front.nil)
   ·exact zz9 9 rfl
   ·exact (by repeat' constructor)
   exact (by show _=_; unfold jv; rw [if_pos (by assumption)])
  refine zR2 ?_
  apply bO (ae a).hi
  ·exact rfl
  ·exact (Front.c Front.nil)
  ·exact zz9 5 rfl
  ·exact (by repeat' constructor)
  exact (by show _=_; unfold jv; rw [if_neg (by assumption)])
 skip
 have hhh:=hi
 refine zR6 ?_
 refine zz0 (aO rfl ac ad) (zz0 (aK rfl (fun w hw=>by have q:=g6 x (hh.toNat:Nat) ((ae a).st.toNat:Nat) w (by omega) (EM _) (wN _); rw [hhh,J8 hx (by omega),J7 (by omega) (by omega) hbt hat] at q; rw [← hhh] at q; exact q)) (zR4 ?_))
 exact aL (e:=rfl)
end Go.Proofs.YtiajjbhcpeadfaaGreat
