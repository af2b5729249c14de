/- Own rules and walks, part 4. -/
import Derived.Test.YtiajjbhcpeadfaaGreatB3
set_option linter.unusedSimpArgs false
set_option linter.unusedVariables false
set_option linter.unusedSectionVars false
set_option maxRecDepth 100000
set_option maxHeartbeats 16000000
attribute [local irreducible] Go.wpList Go.Code.wp Go.HL.QS Go.HL.Tr Go.HL.TrQ Go.wpQuiet
namespace Go.Proofs.YtiajjbhcpeadfaaGreat
open Go Go.HL Go.RowKit
theorem kr (n:UInt32) (w:World) :
  Cr Tryz.prog 36 #[.int .u32 n.toNat] w (.agg (aM.enc (gI n)).toArray):=by
 refine enter Tryz.func36 rfl Tryz.ntmps36 rfl (zR2 ?_)
 refine bS bI rfl (fun b1=>zR6 ?_)
 refine zz0 (aK (vs:=[(2,_),(3,_)]) rfl rfl (w8 _ _)) ?_
 refine ad aM rfl rfl ab ?_
 refine zR3 ?_
 refine d6 Tryz.results36 rfl aF ab (fun w' hw=>?_)
 exact ⟨rfl,hw.b0⟩
theorem ln (w:World) :
  Cr Tryz.prog 37 #[] w (.agg (aM.enc mZ).toArray):=by
 refine enter Tryz.func37 rfl Tryz.ntmps37 rfl (zR2 ?_)
 refine bS bI rfl (fun b1=>zR4 ?_)
 refine zz0 (aK (vs:=[(1,_)]) rfl rfl (An _)) ?_
 refine ad aM rfl rfl ab ?_
 refine zR3 ?_
 refine d6 Tryz.results37 rfl aF ab (fun w' hw=>?_)
 exact ⟨rfl,hw.b0⟩
theorem lu (w:World) :
  Cr Tryz.prog 91 #[] w (.agg (aM.enc emptyS).toArray):=by
 refine enter Tryz.func91 rfl Tryz.ntmps91 rfl (zR2 ?_)
 refine bS bI rfl (fun b1=>zR4 ?_)
 refine zz0 (aK (vs:=[(0,_)]) rfl rfl (Ao _)) ?_
 refine ad aM rfl rfl ab ?_
 refine zR3 ?_
 refine d6 Tryz.results91 rfl aF ab (fun w' hw=>?_)
 exact ⟨rfl,hw.b0⟩
theorem dh (lo hi st:UInt32) (w:World) :
  Cr Tryz.prog 35 #[.int .u32 lo.toNat,.int .u32 hi.toNat,.int .u32 st.toNat] w (.agg (aM.enc (cZ lo hi st)).toArray):=by
 refine enter Tryz.func35 rfl Tryz.ntmps35 rfl (zR2 ?_)
 refine bS bI rfl (fun b1=>fu ?_)
 refine af rfl (fun h2=>?_) (fun h2=>?_)
 ·refine eO (zz0 (ac rfl j8 (fun w hw=>lu w)) ?_)
  refine ad aM rfl rfl ab ?_
  refine zR5 ?_
  refine d6 ng rfl aF ab (fun w' hw=>?_)
  refine ⟨?_,hw.b0⟩
  unfold cZ
  repeat' (first|rfl|(exfalso; first|(simp_all; done)|grind)|split)
 refine zR3 ?_
 refine zz0 (fb (n:=0) rfl rfl) (zz0 (ae rfl) ?_)
 apply cE 6 15 21 (fun hF3 hF3'=>?_) ?_; rotate_right
 ·refine zR4 ?_
  refine zz5 hF3 (qy rfl rfl) ?_
  exact zE
 refine zR3 ?_
 refine af rfl (fun h4=>?_) (fun h4=>?_)
 ·refine zR3 ?_
  refine zz0 (ac rfl jq (fun w hw=>kr lo w)) ?_
  refine ad aM rfl rfl ab ?_
  refine zR5 ?_
  refine d6 ng rfl aF ab (fun w' hw=>?_)
  refine ⟨?_,hw.b0⟩
  unfold cZ
  repeat' (first|rfl|(exfalso; first|(simp_all; done)|grind)|split)
 refine zR3 ?_
 refine zz0 (fb (n:=0) rfl rfl) (zz0 (ae rfl) ?_)
 apply cj 3 27 30 (fun hT5 hT5'=>?_) ?_; rotate_right
 ·refine zz5 hT5 (ae rfl) (zz5 hT5 (fb (n:=4294967295) rfl rfl) ?_)
  exact zE
 refine zz0 (ae rfl) ?_
 apply cj 3 31 34 (fun hT6 hT6'=>?_) ?_; rotate_right
 ·refine zz5 hT6 (ae rfl) (zz5 hT6 (fb (n:=1) rfl rfl) ?_)
  exact zE
 refine zR3 ?_
 refine af rfl (fun h7=>?_) (fun h7=>?_)
 ·refine eO (zz0 (ac rfl f9 (fun w hw=>ln w)) ?_)
  refine ad aM rfl rfl ab ?_
  refine zR5 ?_
  refine d6 ng rfl aF ab (fun w' hw=>?_)
  refine ⟨?_,hw.b0⟩
  unfold cZ
  repeat' (first|rfl|(exfalso; first|(simp_all; done)|grind)|split)
 refine zR4 ?_
 have hst0:st≠0:=(by assumption:¬st=0∧¬hi - lo<st).1
 refine zR7 ?_
 refine zz0 (qx rfl rfl (by first|decide|assumption)) (zR2 ?_)
 refine zz0 (aK (vs:=[(2,_),(3,_),(4,_)]) rfl rfl (uV _ _ _)) ?_
 refine ad aM rfl rfl ab ?_
 refine lD (jQ (d6 ng rfl aF ab (fun w' hw=>?_)))
 refine ⟨?_,hw.b0⟩
 unfold cZ
 repeat' (first|rfl|(exfalso; first|(simp_all; done)|grind)|split)
theorem xH (a:VSet) (w:World) :
  Cr Tryz.prog 40 #[.agg (aM.enc a).toArray] w (.bool (eD a)):=by
 refine enter Tryz.func40 rfl Tryz.ntmps40 rfl (zR2 ?_)
 refine cm rfl rfl (fun b1=>jz ?_)
 apply bN
 ·exact rfl
 ·intro hO2
  try simp only [bs] at hO2
  refine zR6 ?_
  exact bZ rfl (zz9 3 rfl)
 refine az ?_
 refine af rfl (fun h3=>?_) (fun h3=>?_)
 ·refine bE (ip ak (aB (bU rfl) ?_))
  refine aB (ac rfl f9 (fun w hw=>ln w)) ?_
  refine aB (xx rfl rfl xW g9 (sC _ g9) rfl tU BE) (aB (ae rfl) ?_)
  apply xp
  ·exact (rfl:_=(4,11,15))
  ·exact rfl
  ·intro hF4; have hF4':=hF4
   try simp only [bs] at hF4'
   refine eI hF4 (bU rfl) (eI hF4 (ac rfl j8 (fun w hw=>lu w)) ?_)
   refine eI hF4 (xx rfl rfl xW g9 (sC _ g9) rfl tU BE) (aB (nM rfl hF4 rfl) ?_)
   exact cg (Sub.cons rfl (zz8 4 rfl))
  ·intro hT4
   refine zT4 ?_
   exact cg (Sub.cons rfl (zz8 4 rfl))
  refine zT6 ?_
  refine ah Tryz.results40 rfl (fun w' hw=>?_)
  refine ⟨?_,hw.b0⟩
  unfold eD
  repeat' (first|rfl|(exfalso; first|(simp_all; done)|grind)|split)
 refine zR4 ?_
 refine zz0 (fb (n:=0) rfl rfl) (zR3 ?_)
 refine af rfl (fun h5=>?_) (fun h5=>?_)
 ·refine jz ?_
  refine ah Tryz.results40 rfl (fun w' hw=>?_)
  refine ⟨?_,hw.b0⟩
  unfold eD
  repeat' (first|rfl|(exfalso; first|(simp_all; done)|grind)|split)
 refine dy ?_
 apply cj 10 30 40 (fun hT6 hT6'=>?_) ?_; rotate_right
 ·refine zR7 ?_
  refine zz5 hT6 (qx rfl rfl (by first|decide|assumption)) ?_
  refine zz5 hT6 (fb (n:=0) rfl rfl) ?_
  exact zE
 refine zz0 (ae rfl) ?_
 apply kc
 ·exact (rfl:_=(14,41,55))
 ·exact rfl
 ·intro hT7; have hT7':=hT7
  try simp only [bs] at hT7'
  refine zR2 ?_
  refine zz5 hT7 (uQ (n:=0) rfl rfl) (zz5 hT7 (ae rfl) ?_)
  apply lC
  ·exact (rfl:_=(4,45,49))
  ·exact rfl
  ·intro hF8; have hF8':=hF8
   try simp only [bs] at hF8'
   refine zR2 ?_
   refine zz5 hF8 (qy (n:=4294967295) rfl rfl) (zR3 ?_)
   exact bP (Sub.cons rfl (zz8 4 rfl))
  ·intro hT8
   refine zR6 ?_
   exact bP (Sub.cons rfl (zz8 4 rfl))
  refine zz5 hT7 (ae rfl) ?_
  apply lC
  ·exact (rfl:_=(4,50,54))
  ·exact rfl
  ·intro hF9; have hF9':=hF9
   try simp only [bs] at hF9'
   refine zR2 ?_
   refine zz5 hF9 (uQ (n:=1) rfl rfl) (zR3 ?_)
   exact bP (Sub.cons rfl (zz8 4 rfl))
  ·intro hT9
   refine zR6 ?_
   exact bP (Sub.cons rfl (zz8 4 rfl))
  refine zR3 ?_
  exact bP (Sub.cons rfl (zz8 8 rfl))
 ·intro hF7
  refine wK ?_
  exact bP (Sub.cons rfl (zz8 14 rfl))
 refine zR4 ?_
 refine ah Tryz.results40 rfl (fun w' hw=>?_)
 refine ⟨?_,hw.b0⟩
 unfold eD
 repeat' (first|rfl|(exfalso; first|(simp_all; done)|grind)|split)
theorem iF (a:VSet) (w:World) :
  Cr Tryz.prog 47 #[.agg (aM.enc a).toArray] w (.agg (aM.enc (al a)).toArray):=by
 refine enter Tryz.func47 rfl Tryz.ntmps47 rfl (zR2 ?_)
 refine cm rfl rfl (fun b1=>?_)
 refine bS bI rfl (fun b2=>zR6 ?_)
 refine zz0 (ac rfl Tryz.call40 (fun w hw=>xH a w)) (zR3 ?_)
 refine af rfl (fun h3=>?_) (fun h3=>?_)
 ·refine eO (zz0 (ac rfl f9 (fun w hw=>ln w)) ?_)
  refine ad aM rfl rfl ab ?_
  refine zR4 ?_
  refine d6 Tryz.results47 rfl aF ab (fun w' hw=>?_)
  refine ⟨?_,hw.b0⟩
  unfold al
  repeat' (first|rfl|(exfalso; first|(simp_all; done)|grind)|split)
 refine zR5 ?_
 refine ad aM rfl rfl ab ?_
 refine zR3 ?_
 refine d6 Tryz.results47 rfl aF ab (fun w' hw=>?_)
 refine ⟨?_,hw.b0⟩
 unfold al
 repeat' (first|rfl|(exfalso; first|(simp_all; done)|grind)|split)
theorem u5 (a:VSet) (w:World) :
  Cr Tryz.prog 324 #[.agg (aM.enc a).toArray] w (.bool (nZ a)):=by
 refine enter Tryz.func324 rfl Tryz.ntmps324 rfl (zR2 ?_)
 refine cm rfl rfl (fun b1=>zR9 ?_)
 apply cj 4 6 10 (fun hT2 hT2'=>?_) ?_; rotate_right
 ·exact zE
 refine zz0 (ae rfl) ?_
 apply cj 4 11 15 (fun hT3 hT3'=>?_) ?_; rotate_right
 ·refine zR2 ?_
  refine zz5 hT3 (fb (n:=0) rfl rfl) ?_
  exact zE
 refine zR4 ?_
 refine ah Tryz.results324 rfl (fun w' hw=>?_)
 refine ⟨?_,hw.b0⟩
 unfold nZ
 repeat' (first|rfl|(exfalso; first|(simp_all; done)|grind)|split)
theorem ox (a:VSet) (n:UInt32) (w:World) :
  Cr Tryz.prog 15 #[.agg (aM.enc a).toArray,.int .u32 n.toNat] w (.bool (dX a n)):=by
 refine enter Tryz.func15 rfl Tryz.ntmps15 rfl (zR2 ?_)
 refine cm rfl rfl (fun b1=>zR6 ?_)
 refine zz0 (ac rfl gy (fun w hw=>iF a w)) ?_
 refine ad aM rfl rfl ab ?_
 refine fu ?_
 apply bN
 ·exact rfl
 ·intro hO2
  try simp only [bs] at hO2
  refine zR6 ?_
  exact bZ rfl (zz9 3 rfl)
 refine az ?_
 refine af rfl (fun h3=>?_) (fun h3=>?_)
 ·refine df ?_
  refine ah Tryz.results15 rfl (fun w' hw=>?_)
  refine ⟨?_,hw.b0⟩
  unfold dX wn
  repeat' (first|rfl|(exfalso; first|(simp_all; done)|grind)|split)
 refine zR4 ?_
 refine zz0 (fb (n:=0) rfl rfl) (zR3 ?_)
 refine af rfl (fun h4=>?_) (fun h4=>?_)
 ·refine fu ?_
  refine ah Tryz.results15 rfl (fun w' hw=>?_)
  refine ⟨?_,hw.b0⟩
  unfold dX wn
  repeat' (first|rfl|(exfalso; first|(simp_all; done)|grind)|split)
 refine zR8 ?_
 refine zz0 (nP rfl rfl) (zz0 (ae rfl) ?_)
 apply cj 5 26 31 (fun hT5 hT5'=>?_) ?_; rotate_right
 ·refine zR3 ?_
  refine zz5 hT5 (uO rfl rfl) ?_
  exact zE
 refine zz0 (ae rfl) ?_
 apply cj 9 32 41 (fun hT6 hT6'=>?_) ?_; rotate_right
 ·refine zR6 ?_
  refine zz5 hT6 (qx rfl rfl (by first|decide|assumption)) ?_
  refine zz5 hT6 (fb (n:=0) rfl rfl) ?_
  exact zE
 refine zR4 ?_
 refine ah Tryz.results15 rfl (fun w' hw=>?_)
 refine ⟨?_,hw.b0⟩
 unfold dX wn
 repeat' (first|rfl|(exfalso; first|(simp_all; done)|grind)|split)
theorem EH (a:VSet) (w:World) :
  Cr Tryz.prog 100 #[.agg (aM.enc a).toArray] w (.int .i64 (eG a)):=by
 have hd:=((al a).hi - (al a).lo).toNat_lt
 have hq:(((al a).hi - (al a).lo) / (al a).st).toNat≤((al a).hi - (al a).lo).toNat:=by rw [UInt32.toNat_div]; exact Nat.div_le_self _ _
 refine enter Tryz.func100 rfl Tryz.ntmps100 rfl (zR2 ?_)
 refine cm rfl rfl (fun b1=>zR6 ?_)
 refine zz0 (ac rfl gy (fun w hw=>iF a w)) ?_
 refine ad aM rfl rfl ab ?_
 refine dy ?_
 refine af rfl (fun h2=>?_) (fun h2=>?_)
 ·refine zR8 ?_
  refine ah ml rfl (fun w' hw=>?_)
  refine ⟨?_,hw.b0⟩
  unfold eG lw
  repeat' (first|rfl|(exfalso; first|(simp_all; done)|grind)|split)
 refine zR7 ?_
 refine af rfl (fun h3=>?_) (fun h3=>?_)
 ·refine zR8 ?_
  refine ah ml rfl (fun w' hw=>?_)
  refine ⟨?_,hw.b0⟩
  unfold eG lw
  repeat' (first|rfl|(exfalso; first|(simp_all; done)|grind)|split)
 refine zR4 ?_
 refine zz0 (fb (n:=0) rfl rfl) (zR3 ?_)
 refine af rfl (fun h4=>?_) (fun h4=>?_)
 ·refine zR8 ?_
  refine ah ml rfl (fun w' hw=>?_)
  refine ⟨?_,hw.b0⟩
  unfold eG lw
  repeat' (first|rfl|(exfalso; first|(simp_all; done)|grind)|split)
 refine fu ?_
 refine zz0 (M4 rfl rfl (by first|decide|assumption)) ?_
 refine zz0 (wE rfl an ax) (zz0 (aZ rfl rfl) (zR4 ?_))
 refine ah ml rfl (fun w' hw=>?_)
 refine ⟨?_,hw.b0⟩
 unfold eG lw
 repeat' (first|rfl|(exfalso; first|(simp_all; done)|grind)|split)
theorem Cs (a b:UInt32) (w:World) :
  Cr Tryz.prog 228 #[.int .u32 a.toNat,.int .u32 b.toNat] w (.int .u32 (lk a b).toNat):=by
 refine enter Tryz.func228 rfl Tryz.ntmps228 rfl (zR7 ?_)
 refine dO (ι:=UInt32 × UInt32) (fun ⟨x,y⟩=>lk x y=lk a b) (fun _=>_) (fun ⟨x,y⟩=>[]) (fun ⟨x,y⟩=>[(0,.int .u32 x.toNat),(1,.int .u32 y.toNat)]) (fun ⟨x,y⟩=>y.toNat) (a,b) rfl (Front.c (Front.c Front.nil)) (fun i hi m hm=>?_)
 obtain ⟨x,y⟩:=i
 dsimp only at hi hm
 change Tr _ _ [] ([(0,.int .u32 x.toNat),(1,.int .u32 y.toNat)] ++ _) _
 refine zR4 ?_
 refine zz0 (iQ (n:=0) rfl rfl) (zR2 ?_)
 refine af rfl (fun h1=>?_) (fun h1=>?_)
 ·refine zR3 ?_
  refine ip ak (zT3 ?_)
  refine aB (qx rfl rfl (by first|decide|assumption)) (zT5 ?_)
  have hlt:=K8 x (by assumption:y≠0)
  refine bC (y,x % y) (Front.c (Front.c Front.nil)) (zz9 10 rfl) (o:=(by show lk y (x % y)=_; rw [LE (by assumption)]; exact hi))
 refine fu ?_
 exact ah Tryz.results228 rfl fun w' hw=>⟨by rw [← hi,show y=0 by simp_all,LD],hw.b0⟩
theorem Ck (a b:VSet) (w:World) :
  Cr Tryz.prog 166 #[.agg (aM.enc a).toArray,.agg (aM.enc b).toArray] w (.agg (aM.enc (fM a b)).toArray):=by
 refine enter Tryz.func166 rfl Tryz.ntmps166 rfl (zR2 ?_)
 refine cm rfl rfl (fun b1=>?_)
 refine cm rfl rfl (fun b2=>?_)
 refine bS bI rfl (fun b3=>zR3 ?_)
 refine fE 0 4 ak ?_
 refine aG (aB (bU rfl) ?_)
 refine aB (ac rfl gy (fun w hw=>iF a w)) (aB (bU rfl) ?_)
 refine aB (ac rfl gy (fun w hw=>iF b w)) (eB ?_)
 refine ad aM rfl rfl ab ?_
 refine ad aM rfl rfl ab ?_
 refine zR9 ?_
 apply cE 3 13 16 (fun hF4 hF4'=>?_) ?_; rotate_right
 ·exact zE
 refine zR3 ?_
 refine af rfl (fun h5=>?_) (fun h5=>?_)
 ·refine eO (zz0 (ac rfl f9 (fun w hw=>ln w)) ?_)
  refine ad aM rfl rfl ab ?_
  refine zR5 ?_
  refine d6 mh rfl aF ab (fun w' hw=>?_)
  try simp only [rU,rX]
  refine ⟨?_,hw.b0⟩
  unfold fM jv
  repeat' (first|rfl|(exfalso; first|(simp_all; done)|grind)|split)
 refine zR7 ?_
 refine af rfl (fun h6=>?_) (fun h6=>?_)
 ·refine zR3 ?_
  refine ad aM rfl rfl ab ?_
  refine zR5 ?_
  refine d6 mh rfl aF ab (fun w' hw=>?_)
  try simp only [rU,rX]
  refine ⟨?_,hw.b0⟩
  unfold fM jv
  repeat' (first|rfl|(exfalso; first|(simp_all; done)|grind)|split)
 refine zR7 ?_
 refine af rfl (fun h7=>?_) (fun h7=>?_)
 ·refine zR3 ?_
  refine ad aM rfl rfl ab ?_
  refine zR5 ?_
  refine d6 mh rfl aF ab (fun w' hw=>?_)
  try simp only [rU,rX]
  refine ⟨?_,hw.b0⟩
  unfold fM jv
  repeat' (first|rfl|(exfalso; first|(simp_all; done)|grind)|split)
 refine fO (eK (az (bE (ip ak (zT4 ?_)))))
 refine aB (ac rfl rk (fun w hw=>Cs _ _ w)) (zT4 ?_)
 refine aB (sx rfl rfl) (zT4 ?_)
 refine aB (sw rfl rfl) (aB (gR rfl rfl) ?_)
 refine aB (ac rfl rk (fun w hw=>Cs _ _ w)) (zT9 ?_)
 refine zz0 (sw rfl rfl) (zR4 ?_)
 refine zz0 (sx rfl rfl) (zz0 (ae rfl) ?_)
 refine zz0 (ac rfl dL (fun w hw=>dh _ _ _ w)) ?_
 refine ad aM rfl rfl ab ?_
 refine lD (jQ (d6 mh rfl aF ab (fun w' hw=>?_)))
 try simp only [rU,rX]
 refine ⟨?_,hw.b0⟩
 unfold fM jv
 repeat' (first|rfl|(exfalso; first|(simp_all; done)|grind)|split)
end Go.Proofs.YtiajjbhcpeadfaaGreat
namespace Go.Proofs.YtiajjbhcpeadfaaGreat
open Go Go.HL Go.RowKit
theorem wt (a:VSet) (w:World) :
  Calls Tryz.prog 41 #[.agg (aM.enc a).toArray] w (fun e w'=>∃ V',e=.returned (.tuple #[V',.int .i64 (eF a).2])∧Ext w w'∧je w w' 23 aa ((eF a).1) V'):=by
 refine enter Tryz.func41 rfl Tryz.ntmps41 rfl (zR2 ?_)
 refine cm rfl rfl (fun b1=>zR7 ?_)
 refine zz0 (ac rfl gy (fun w hw=>iF a w)) ?_
 refine ad aM rfl rfl ab ?_
 refine zR5 ?_
 refine zz0 (ac rfl Tryz.call100 (fun w hw=>EH (al a) w)) (zR5 ?_)
 have hcc:eG (al a)=eG a:=by unfold eG; rw [ic]
 rw [hcc]
 have hc0:=Mn a
 have hc1:=count_le a
 refine zR5 ?_
 refine af rfl (fun h2=>?_) (fun h2=>?_)
 ·refine zR8 ?_
  exact bV Tryz.results41 rfl rfl fun w' hw=>⟨_,by unfold eF; rw [if_pos (by assumption)],hw.b0,by unfold eF; rw [if_pos (by assumption)]; exact eS rfl⟩
 refine qE ?_
 refine aR 23 aa ?_
 refine dO (ι:=Nat × Value) (fun ⟨k,V⟩=>k≤(eG a).toNat) (fun _=>_) (fun ⟨k,V⟩=>[rowE V 23 aa (elK (al a) k),cellE b1 (aM.enc (al a)) 25]) (fun ⟨k,V⟩=>[(5,V),(14,.int .i64 (k:Nat))]) (fun ⟨k,V⟩=>(eG a).toNat - k) (0,_) (Nat.zero_le _) (Front.c (Front.c Front.nil)) (fun i hi m hm=>?_)
 obtain ⟨k,V⟩:=i
 dsimp only at hi hm
 change Tr _ _ [rowE V 23 aa (elK (al a) k),cellE b1 (aM.enc (al a)) 25] ([(5,V),(14,.int .i64 (k:Nat))] ++ _) _
 have hel:=HY (al a) k
 refine zR6 ?_
 refine af rfl (fun h3=>?_) (fun h3=>?_)
 ·refine qE ?_
  refine zz0 (gU rfl ax an) (zR4 ?_)
  refine g7 (E:=aa) _ rfl rfl au aj ba (fun V4=>?_)
  refine zz3 rfl rfl au dA (fun V5=>?_)
  refine zR5 ?_
  refine zz0 (aZ rfl rfl) (zR3 ?_)
  rw [← Mc]
  refine bC (k+1,_) (Front.c (Front.c Front.nil)) (zz9 19 rfl) (o:=(by show k+1≤_; omega))
 refine zR6 ?_
 obtain rfl:k=(eG a).toNat:=by omega
 refine zR7 ?_
 exact bV Tryz.results41 rfl rfl fun w' hw=>⟨_,by unfold eF; rw [if_neg (by omega)],hw.b0,by unfold eF uD; rw [if_neg (by omega),hcc]; exact hw.new (.head _)⟩
theorem Iq (a b:VSet) (w:World) :
  Cr Tryz.prog 271 #[.agg (aM.enc a).toArray,.agg (aM.enc b).toArray] w (.bool (mY a b)):=by
 refine enter Tryz.func271 rfl Tryz.ntmps271 rfl (zR2 ?_)
 refine cm rfl rfl (fun b1=>?_)
 refine cm rfl rfl (fun b2=>zR4 ?_)
 refine fE 0 4 ak ?_
 refine aG (aB (bU rfl) ?_)
 refine aB (ac rfl gy (fun w hw=>iF a w)) (aB (bU rfl) ?_)
 refine aB (ac rfl gy (fun w hw=>iF b w)) (eB ?_)
 refine ad aM rfl rfl ab ?_
 refine ad aM rfl rfl ab ?_
 refine zR9 ?_
 apply cE 3 12 15 (fun hF3 hF3'=>?_) ?_; rotate_right
 ·exact zE
 refine zR3 ?_
 refine af rfl (fun h4=>?_) (fun h4=>?_)
 ·refine zR8 ?_
  refine ah o7 rfl (fun w' hw=>?_)
  refine ⟨?_,hw.b0⟩
  unfold mY pS
  repeat' (first|rfl|(exfalso; first|(simp_all; done)|grind)|split)
 refine zR5 ?_
 apply cE 3 19 22 (fun hF5 hF5'=>?_) ?_; rotate_right
 ·exact zE
 refine zR3 ?_
 refine af rfl (fun h6=>?_) (fun h6=>?_)
 ·refine zR8 ?_
  refine ah o7 rfl (fun w' hw=>?_)
  refine ⟨?_,hw.b0⟩
  unfold mY pS
  repeat' (first|rfl|(exfalso; first|(simp_all; done)|grind)|split)
 refine zR8 ?_
 refine zz0 (ac rfl s5 (fun w hw=>ox _ _ w)) (zz0 (ae rfl) ?_)
 apply cj 5 27 32 (fun hT7 hT7'=>?_) ?_; rotate_right
 ·refine zR3 ?_
  refine zz5 hT7 (ac rfl s5 (fun w hw=>ox _ _ w)) ?_
  exact zE
 refine zz0 (ae rfl) ?_
 apply kc
 ·exact (rfl:_=(17,33,50))
 ·exact rfl
 ·intro hT8; have hT8':=hT8
  try simp only [bs] at hT8'
  refine zR2 ?_
  refine zz5 hT8 (fb (n:=0) rfl rfl) (zz5 hT8 (ae rfl) ?_)
  apply lC
  ·exact (rfl:_=(12,37,49))
  ·exact rfl
  ·intro hF9; have hF9':=hF9
   try simp only [bs] at hF9'
   refine zR2 ?_
   refine zz5 hF9 (uQ (n:=0) rfl rfl) (zz5 hF9 (ae rfl) ?_)
   apply kc
   ·exact (rfl:_=(7,41,48))
   ·exact rfl
   ·intro hT10; have hT10':=hT10
    try simp only [bs] at hT10'
    have hb0:=Pe (by assumption:0<(al b).st)
    refine zR4 ?_
    refine zz5 hT10 (qx rfl rfl (by first|decide|assumption)) ?_
    refine zz5 hT10 (fb (n:=0) rfl rfl) (zR3 ?_)
    exact bP (Sub.cons rfl (zz8 7 rfl))
   ·intro hF10
    refine zR9 ?_
    exact bP (Sub.cons rfl (zz8 7 rfl))
   refine zR3 ?_
   exact bP (Sub.cons rfl (zz8 6 rfl))
  ·intro hT9
   refine lN ?_
   exact bP (Sub.cons rfl (zz8 12 rfl))
  refine zR3 ?_
  exact bP (Sub.cons rfl (zz8 6 rfl))
 ·intro hF8
  refine PU ?_
  exact bP (Sub.cons rfl (zz8 17 rfl))
 refine zR4 ?_
 refine ah o7 rfl (fun w' hw=>?_)
 refine ⟨?_,hw.b0⟩
 unfold mY pS
 repeat' (first|rfl|(exfalso; first|(simp_all; done)|grind)|split)
theorem Az (a:VSet) (k:UInt32) (w:World) :
  Cr Tryz.prog 325 #[.agg (aM.enc a).toArray,.int .u32 k.toNat] w (.agg (aM.enc (qL a k)).toArray):=by
 have hmul:=P4 a.hi k
 refine enter Tryz.func325 rfl Tryz.ntmps325 rfl (zR2 ?_)
 refine cm rfl rfl (fun b1=>?_)
 refine bS bI rfl (fun b2=>zR8 ?_)
 apply cE 8 7 15 (fun hF3 hF3'=>?_) ?_; rotate_right
 ·refine zR2 ?_
  refine zz5 hF3 (dx rfl an aO) (zz5 hF3 (ae rfl) (zz5 hF3 (dx rfl an aO) (zz5 hF3 (Ih rfl rfl (by omega)) ?_)))
  exact zE
 refine zR2 ?_
 refine af rfl (fun h4=>?_) (fun h4=>?_)
 ·refine eO (zz0 (ac rfl f9 (fun w hw=>ln w)) ?_)
  refine ad aM rfl rfl ab ?_
  refine zR4 ?_
  refine d6 Tryz.results325 rfl aF ab (fun w' hw=>?_)
  refine ⟨?_,hw.b0⟩
  unfold qL
  repeat' (first|rfl|(exfalso; first|(simp_all; done)|grind)|split)
 refine wK ?_
 refine zz0 (ac rfl dL (fun w hw=>dh _ _ _ w)) ?_
 refine ad aM rfl rfl ab ?_
 refine zR3 ?_
 refine d6 Tryz.results325 rfl aF ab (fun w' hw=>?_)
 refine ⟨?_,hw.b0⟩
 unfold qL
 repeat' (first|rfl|(exfalso; first|(simp_all; done)|grind)|split)
theorem I7 (a:VSet) (n:UInt32) (w:World) :
  Cr Tryz.prog 326 #[.agg (aM.enc a).toArray,.int .u32 n.toNat] w (.agg (aM.enc (uj a n)).toArray):=by
 refine enter Tryz.func326 rfl Tryz.ntmps326 rfl (zR2 ?_)
 refine cm rfl rfl (fun b1=>?_)
 refine bS bI rfl (fun b2=>wK ?_)
 refine af rfl (fun h3=>?_) (fun h3=>?_)
 ·refine zR4 ?_
  refine zz0 (sw rfl rfl) (zR8 ?_)
  refine zz0 (zu rfl) (zz0 (lF rfl rfl) ?_)
  refine zz0 (ac rfl dL (fun w hw=>dh 0 _ (n &&& (0 - n)) w)) ?_
  refine ad aM rfl rfl ab ?_
  refine zR3 ?_
  refine d6 Tryz.results326 rfl aF ab (fun w' hw=>?_)
  refine ⟨?_,hw.b0⟩
  unfold uj
  rw [if_pos (show a.top=false by simp_all)]
  rfl
 refine zR7 ?_
 refine zz0 (zu rfl) (zz0 (lF rfl rfl) ?_)
 refine zz0 (ac rfl dL (fun w hw=>dh 0 _ (n &&& (0 - n)) w)) ?_
 refine ad aM rfl rfl ab ?_
 refine zR3 ?_
 refine d6 Tryz.results326 rfl aF ab (fun w' hw=>?_)
 refine ⟨?_,hw.b0⟩
 unfold uj
 rw [if_neg (show ¬a.top=false by simp_all)]
 rfl
theorem sk (op:Int) (a b:VSet) (w:World) :
  Cr Tryz.prog 303 #[.int .i64 op,.agg (aM.enc a).toArray,.agg (aM.enc b).toArray] w (.agg (aM.enc (gk op a b)).toArray):=by
 have hb1:=(al a).hi.toNat_lt
 have hb2:=(al b).hi.toNat_lt
 refine enter Tryz.func303 rfl Tryz.ntmps303 rfl (zR2 ?_)
 refine cm rfl rfl (fun b1=>?_)
 refine cm rfl rfl (fun b2=>?_)
 refine bS bI rfl (fun b3=>zR3 ?_)
 refine fE 0 4 ak ?_
 refine aG (aB (bU rfl) ?_)
 refine aB (ac rfl gy (fun w hw=>iF a w)) (aB (bU rfl) ?_)
 refine aB (ac rfl gy (fun w hw=>iF b w)) (eB ?_)
 refine ad aM rfl rfl ab ?_
 refine ad aM rfl rfl ab ?_
 refine zR2 ?_
 refine fC (.of (ι:=Unit) (fun u=>gk op a b=iY op (al a) (al b)) (fun _=>Bg.of w) (fun u=>[cellE b3 (aM.enc zeroS) 25,cellE b2 (aM.enc (al b)) 25,cellE b1 (aM.enc (al a)) 25]) (fun u=>[])) ?_ (fun u hi=>?_)
 ·skip
  refine zR6 ?_
  apply cE 3 16 19 (fun hF4 hF4'=>?_) ?_; rotate_right
  ·exact zE
  refine zR3 ?_
  refine af rfl (fun h5=>?_) (fun h5=>?_)
  ·refine eO (zz0 (ac rfl f9 (fun w hw=>ln w)) ?_)
   refine ad aM rfl rfl ab ?_
   refine zR5 ?_
   refine d6 dU rfl aF ab (fun w' hw=>?_)
   try rw [hi]
   refine ⟨?_,hw.b0⟩
   (first|unfold kj|unfold iY|unfold gk iD)
   repeat' (first|rfl|(exfalso; first|(simp_all; done)|grind)|split)
  refine zR5 ?_
  apply cE 3 24 27 (fun hF6 hF6'=>?_) ?_; rotate_right
  ·exact zE
  refine zR3 ?_
  refine af rfl (fun h7=>?_) (fun h7=>?_)
  ·refine eO (zz0 (ac rfl j8 (fun w hw=>lu w)) ?_)
   refine ad aM rfl rfl ab ?_
   refine zR5 ?_
   refine d6 dU rfl aF ab (fun w' hw=>?_)
   try rw [hi]
   refine ⟨?_,hw.b0⟩
   (first|unfold kj|unfold iY|unfold gk iD)
   repeat' (first|rfl|(exfalso; first|(simp_all; done)|grind)|split)
  refine zR3 ?_
  refine zz0 (ac rfl Tryz.call324 (fun w hw=>u5 _ w)) (zz0 (ae rfl) ?_)
  apply cj 3 32 35 (fun hT8 hT8'=>?_) ?_; rotate_right
  ·refine zz5 hT8 (bU rfl) (zz5 hT8 (ac rfl Tryz.call324 (fun w hw=>u5 _ w)) ?_)
   exact zE
  refine zR3 ?_
  refine af rfl (fun h9=>?_) (fun h9=>?_)
  ·refine zR7 ?_
   refine zz0 (ac rfl Tryz.call277 (fun w hw=>zf op (al a).lo (al b).lo w)) (df ?_)
   refine zz0 (ac rfl jq (fun w hw=>kr _ w)) ?_
   refine ad aM rfl rfl ab ?_
   refine zR5 ?_
   refine d6 dU rfl aF ab (fun w' hw=>?_)
   try rw [hi]
   refine ⟨?_,hw.b0⟩
   (first|unfold kj|unfold iY|unfold gk iD)
   repeat' (first|rfl|(exfalso; first|(simp_all; done)|grind)|split)
  refine zR3 ?_
  refine aQ () Front.nil (zz9 15 rfl) (o:=(by show _=_; unfold gk iD; repeat' (first|rfl|(exfalso; first|(simp_all; done)|grind)|split)))
 skip
 refine fC (.of (ι:=Unit) (fun u=>gk op a b=kj op (al a) (al b)) (fun _=>Bg.of w) (fun u=>[cellE b3 (aM.enc zeroS) 25,cellE b2 (aM.enc (al b)) 25,cellE b1 (aM.enc (al a)) 25]) (fun u=>[])) ?_ (fun u hi=>?_)
 ·skip
  refine jz ?_
  apply bN
  ·exact rfl
  ·intro hO10
   try simp only [bs] at hO10
   refine zR6 ?_
   apply bN
   ·exact rfl
   ·intro hO11
    try simp only [bs] at hO11
    refine zR6 ?_
    apply bN
    ·exact rfl
    ·intro hO12
     try simp only [bs] at hO12
     refine zR5 ?_
     exact bZ rfl (zz9 2 rfl)
    refine az ?_
    exact bZ rfl (zz9 3 rfl)
   refine az ?_
   exact bZ rfl (zz9 3 rfl)
  refine az ?_
  refine af rfl (fun h13=>?_) (fun h13=>?_)
  ·refine eO (zz0 (ac rfl dL (fun w hw=>dh 0 1 1 w)) ?_)
   refine ad aM rfl rfl ab ?_
   refine zR5 ?_
   refine d6 dU rfl aF ab (fun w' hw=>?_)
   try rw [hi]
   refine ⟨?_,hw.b0⟩
   (first|unfold kj|unfold iY|unfold gk iD)
   repeat' (first|rfl|(exfalso; first|(simp_all; done)|grind)|split)
  refine zR6 ?_
  refine af rfl (fun h14=>?_) (fun h14=>?_)
  ·refine zR6 ?_
   apply cj 4 59 63 (fun hT15 hT15'=>?_) ?_; rotate_right
   ·exact zE
   refine zz0 (ae rfl) ?_
   apply cj 9 64 73 (fun hT16 hT16'=>?_) ?_; rotate_right
   ·refine zR2 ?_
    refine zz5 hT16 (dx rfl an aO) (zR2 ?_)
    refine zz5 hT16 (dx rfl an aO) (zz5 hT16 (oK rfl rfl (by omega)) ?_)
    exact zE
   refine zR2 ?_
   refine af rfl (fun h17=>?_) (fun h17=>?_)
   ·refine bE (fE 0 16 ak ?_)
    refine aG (zT4 ?_)
    refine aB (gV rfl rfl) (zT4 ?_)
    refine aB (gV rfl rfl) (zT4 ?_)
    refine aB (ac rfl rk (fun w hw=>Cs _ _ w)) ?_
    refine aB (ac rfl dL (fun w hw=>dh _ _ _ w)) (eB ?_)
    refine ad aM rfl rfl ab ?_
    refine zR5 ?_
    refine d6 dU rfl aF ab (fun w' hw=>?_)
    try rw [hi]
    refine ⟨?_,hw.b0⟩
    (first|unfold kj|unfold iY|unfold gk iD)
    repeat' (first|rfl|(exfalso; first|(simp_all; done)|grind)|split)
   refine zR3 ?_
   refine aQ () Front.nil (zz9 13 rfl) (o:=(by show _=_; rw [hi]; unfold iY; repeat' (first|rfl|(exfalso; first|(simp_all; done)|grind)|split)))
  refine zR6 ?_
  refine af rfl (fun h18=>?_) (fun h18=>?_)
  ·refine zR6 ?_
   apply cj 4 95 99 (fun hT19 hT19'=>?_) ?_; rotate_right
   ·exact zE
   refine zz0 (ae rfl) ?_
   apply cj 6 100 106 (fun hT20 hT20'=>?_) ?_; rotate_right
   ·refine zR4 ?_
    refine zz5 hT20 (nP rfl rfl) ?_
    exact zE
   refine zR2 ?_
   refine af rfl (fun h21=>?_) (fun h21=>?_)
   ·refine bE (fE 0 16 ak ?_)
    refine aG (PR ?_)
    refine aB (ac rfl rk (fun w hw=>Cs _ _ w)) ?_
    refine aB (ac rfl dL (fun w hw=>dh _ _ _ w)) (eB ?_)
    refine ad aM rfl rfl ab ?_
    refine zR5 ?_
    refine d6 dU rfl aF ab (fun w' hw=>?_)
    try rw [hi]
    refine ⟨?_,hw.b0⟩
    (first|unfold kj|unfold iY|unfold gk iD)
    repeat' (first|rfl|(exfalso; first|(simp_all; done)|grind)|split)
   refine zR3 ?_
   refine aQ () Front.nil (zz9 15 rfl) (o:=(by show _=_; rw [hi]; unfold iY; repeat' (first|rfl|(exfalso; first|(simp_all; done)|grind)|split)))
  refine zR3 ?_
  refine aQ () Front.nil (zz9 8 rfl) (o:=(by show _=_; rw [hi]; unfold iY; repeat' (first|rfl|(exfalso; first|(simp_all; done)|grind)|split)))
 skip
 refine zR4 ?_
 refine zz0 (ac rfl Tryz.call324 (fun w hw=>u5 _ w)) (zR3 ?_)
 refine af rfl (fun h22=>?_) (fun h22=>?_)
 ·refine eO (zz0 (ac rfl f9 (fun w hw=>ln w)) ?_)
  refine ad aM rfl rfl ab ?_
  refine zR4 ?_
  refine d6 dU rfl aF ab (fun w' hw=>?_)
  try rw [hi]
  refine ⟨?_,hw.b0⟩
  (first|unfold kj|unfold iY|unfold gk iD)
  repeat' (first|rfl|(exfalso; first|(simp_all; done)|grind)|split)
 refine qE ?_
 refine af rfl (fun h23=>?_) (fun h23=>?_)
 ·refine zR5 ?_
  refine zz0 (ac rfl Tryz.call325 (fun w hw=>Az _ _ w)) ?_
  refine ad aM rfl rfl ab ?_
  refine zR5 ?_
  refine d6 dU rfl aF ab (fun w' hw=>?_)
  try rw [hi]
  refine ⟨?_,hw.b0⟩
  (first|unfold kj|unfold iY|unfold gk iD)
  repeat' (first|rfl|(exfalso; first|(simp_all; done)|grind)|split)
 refine zR6 ?_
 refine af rfl (fun h24=>?_) (fun h24=>?_)
 ·refine bE (fE 0 5 ak ?_)
  refine aG (zT3 ?_)
  refine aB (ac rfl Tryz.call306 (fun w hw=>Dw 1 _ w)) ?_
  refine aB (ac rfl Tryz.call325 (fun w hw=>Az _ _ w)) (eB ?_)
  refine ad aM rfl rfl ab ?_
  refine zR5 ?_
  refine d6 dU rfl aF ab (fun w' hw=>?_)
  try rw [hi]
  refine ⟨?_,hw.b0⟩
  (first|unfold kj|unfold iY|unfold gk iD)
  repeat' (first|rfl|(exfalso; first|(simp_all; done)|grind)|split)
 refine zR6 ?_
 refine af rfl (fun h25=>?_) (fun h25=>?_)
 ·refine zR5 ?_
  refine zz0 (ac rfl Tryz.call326 (fun w hw=>I7 _ _ w)) ?_
  refine ad aM rfl rfl ab ?_
  refine zR5 ?_
  refine d6 dU rfl aF ab (fun w' hw=>?_)
  try rw [hi]
  refine ⟨?_,hw.b0⟩
  (first|unfold kj|unfold iY|unfold gk iD)
  repeat' (first|rfl|(exfalso; first|(simp_all; done)|grind)|split)
 refine zR6 ?_
 refine af rfl (fun h26=>?_) (fun h26=>?_)
 ·refine zR7 ?_
  refine af rfl (fun h27=>?_) (fun h27=>?_)
  ·refine bE (fE 0 11 ak ?_)
   refine aG (zT4 ?_)
   refine aB (ac rfl Tryz.call307 (fun w hw=>xU _ _ w)) (zT4 ?_)
   refine aB (ac rfl Tryz.call307 (fun w hw=>xU _ _ w)) ?_
   refine aB (ac rfl dL (fun w hw=>dh (kW (al a).lo (nV (al b).lo)) (kW (al a).hi (nV (al b).lo)) 1 w)) (eB ?_)
   refine ad aM rfl rfl ab ?_
   refine zR5 ?_
   refine d6 dU rfl aF ab (fun w' hw=>?_)
   try rw [hi]
   refine ⟨?_,hw.b0⟩
   (first|unfold kj|unfold iY|unfold gk iD)
   repeat' (first|rfl|(exfalso; first|(simp_all; done)|grind)|split)
  refine zR5 ?_
  refine zz0 (ac rfl f9 (fun w hw=>ln w)) ?_
  refine ad aM rfl rfl ab ?_
  refine lD (jQ (d6 dU rfl aF ab (fun w' hw=>?_)))
  try rw [hi]
  refine ⟨?_,hw.b0⟩
  (first|unfold kj|unfold iY|unfold gk iD)
  repeat' (first|rfl|(exfalso; first|(simp_all; done)|grind)|split)
 refine zR5 ?_
 refine zz0 (ac rfl f9 (fun w hw=>ln w)) ?_
 refine ad aM rfl rfl ab ?_
 refine lD (jQ (d6 dU rfl aF ab (fun w' hw=>?_)))
 try rw [hi]
 refine ⟨?_,hw.b0⟩
 (first|unfold kj|unfold iY|unfold gk iD)
 repeat' (first|rfl|(exfalso; first|(simp_all; done)|grind)|split)
theorem ui (a b:VSet) (w:World) :
  Cr Tryz.prog 300 #[.agg (aM.enc a).toArray,.agg (aM.enc b).toArray] w (.agg (aM.enc (mw a b)).toArray):=by
 refine enter Tryz.func300 rfl Tryz.ntmps300 rfl (zR2 ?_)
 refine cm rfl rfl (fun b1=>?_)
 refine cm rfl rfl (fun b2=>?_)
 refine bS bI rfl (fun b3=>zR3 ?_)
 refine fE 0 4 ak ?_
 refine aG (aB (bU rfl) ?_)
 refine aB (ac rfl gy (fun w hw=>iF a w)) (aB (bU rfl) ?_)
 refine aB (ac rfl gy (fun w hw=>iF b w)) (eB ?_)
 refine ad aM rfl rfl ab ?_
 refine ad aM rfl rfl ab ?_
 refine dy ?_
 refine af rfl (fun h4=>?_) (fun h4=>?_)
 ·refine zR3 ?_
  refine ad aM rfl rfl ab ?_
  refine zR5 ?_
  refine d6 kw rfl aF ab (fun w' hw=>?_)
  try rw [hme]
  refine ⟨?_,hw.b0⟩
  (first|unfold rV we|unfold mw qU)
  repeat' (first|rfl|(exfalso; first|(simp_all; done)|grind)|split)
 refine zR7 ?_
 refine af rfl (fun h5=>?_) (fun h5=>?_)
 ·refine zR3 ?_
  refine ad aM rfl rfl ab ?_
  refine zR5 ?_
  refine d6 kw rfl aF ab (fun w' hw=>?_)
  try rw [hme]
  refine ⟨?_,hw.b0⟩
  (first|unfold rV we|unfold mw qU)
  repeat' (first|rfl|(exfalso; first|(simp_all; done)|grind)|split)
 refine zR3 ?_
 refine ga (ι:=Nat × Nat) (fun ⟨p,q⟩=>True) (fun _=>Bg.of w) (fun ⟨p,q⟩=>[cellE q (aM.enc (al b)) 25,cellE p (aM.enc (al a)) 25,cellE b3 (aM.enc zeroS) 25,cellE b2 (aM.enc (al b)) 25,cellE b1 (aM.enc (al a)) 25]) (fun ⟨p,q⟩=>[(6,.pointer (some ⟨q,0,none⟩)),(5,.pointer (some ⟨p,0,none⟩))]) ?_ (fun i hi=>?_)
 ·skip
  refine aL ([cellE b3 (aM.enc zeroS) 25,cellE b2 (aM.enc (al b)) 25,cellE b1 (aM.enc (al a)) 25]) 6 rfl ak ?_
  refine zz1 0 rfl (bU rfl) ?_
  refine zz1 1 rfl (bU rfl) ?_
  refine lH [2,3] (fun iq hq=>?_)
  rcases List.mem_cons.1 hq with rfl|hq
  ·skip
   refine bY rfl ?_
   refine bS bI rfl (fun b6=>?_)
   refine ay ?_
   refine ao 3 rfl ?_
   refine bS bI rfl (fun b7=>?_)
   refine ay ?_
   refine ao 4 rfl ?_
   refine ad aM rfl rfl ab ?_
   refine ay ?_
   refine ao 5 rfl ?_
   refine ad aM rfl rfl ab ?_
   refine ay ?_
   refine dK (az ?_)
   refine aQ (_,_) (Front.c (Front.c Front.nil)) (zz9 4 rfl) (o:=trivial)
  obtain rfl:=List.mem_singleton.1 hq
  refine bY rfl ?_
  refine bS bI rfl (fun b8=>?_)
  refine ay ?_
  refine ao 2 rfl ?_
  refine bS bI rfl (fun b9=>?_)
  refine ay ?_
  refine ao 4 rfl ?_
  refine ad aM rfl rfl ab ?_
  refine ay ?_
  refine ao 5 rfl ?_
  refine ad aM rfl rfl ab ?_
  refine ay ?_
  refine dK (az ?_)
  refine aQ (_,_) (Front.c (Front.c Front.nil)) (zz9 4 rfl) (o:=trivial)
 obtain ⟨p,q⟩:=i
 replace hi:True:=hi
 change Tr _ _ [cellE q (aM.enc (al b)) 25,cellE p (aM.enc (al a)) 25,cellE b3 (aM.enc zeroS) 25,cellE b2 (aM.enc (al b)) 25,cellE b1 (aM.enc (al a)) 25] ([(6,.pointer (some ⟨q,0,none⟩)),(5,.pointer (some ⟨p,0,none⟩))] ++ _) _
 refine ga (ι:=VSet × VSet) (fun ⟨fe,ot⟩=>(al a).top=false∧mw a b=rV (al a) (al b) fe ot∧(64<eG (al a)∨fe=al a)) (fun _=>Bg.of w) (fun ⟨fe,ot⟩=>[cellE q (aM.enc ot) 25,cellE p (aM.enc fe) 25,cellE b3 (aM.enc zeroS) 25,cellE b2 (aM.enc (al b)) 25,cellE b1 (aM.enc (al a)) 25]) (fun ⟨fe,ot⟩=>[]) ?_ (fun i hi=>?_)
 ·skip
  refine zR3 ?_
  refine zz0 (ac rfl Tryz.call100 (fun w hw=>EH _ w)) (zR3 ?_)
  refine af rfl (fun h10=>?_) (fun h10=>?_)
  ·refine aL ([cellE b3 (aM.enc zeroS) 25,cellE b2 (aM.enc (al b)) 25,cellE b1 (aM.enc (al a)) 25]) 4 rfl ak ?_
   refine zz1 0 rfl (bU rfl) ?_
   refine zz1 1 rfl (bU rfl) ?_
   refine ao 2 rfl ?_
   refine ad aM rfl rfl ab ?_
   refine ay ?_
   refine ao 3 rfl ?_
   refine ad aM rfl rfl ab ?_
   refine ay ?_
   refine dK (az ?_)
   refine aQ (al b,al a) Front.nil (zz9 5 rfl) (o:=⟨by simp_all,by unfold mw qU; (repeat' (first|rfl|(exfalso; first|(simp_all; done)|grind)|split)),.inl (by assumption)⟩)
  refine zR2 ?_
  refine aQ (al a,al b) Front.nil (zz9 3 rfl) (o:=⟨by simp_all,by unfold mw qU; (repeat' (first|rfl|(exfalso; first|(simp_all; done)|grind)|split)),.inr rfl⟩)
 obtain ⟨fe,ot⟩:=i
 replace hi:(al a).top=false∧mw a b=rV (al a) (al b) fe ot∧(64<eG (al a)∨fe=al a):=hi
 change Tr _ _ [cellE q (aM.enc ot) 25,cellE p (aM.enc fe) 25,cellE b3 (aM.enc zeroS) 25,cellE b2 (aM.enc (al b)) 25,cellE b1 (aM.enc (al a)) 25] ([] ++ _) _
 obtain ⟨hat,hme,hfe⟩:=hi
 refine zR4 ?_
 refine ij (fun V=>.tuple #[V,.int .i64 (eF fe).2]) rfl Tryz.call41 (fun w hw=>wt fe w) rfl (fun VE=>zR8 ?_)
 have hel:(eF fe).2=0→(eF fe).1.length≤64:=A8
 refine zR5 ?_
 refine af rfl (fun h11=>?_) (fun h11=>?_)
 ·refine eO (zz0 (ac rfl j8 (fun w hw=>lu w)) ?_)
  refine bS bI rfl (fun b12=>?_)
  refine ad aM rfl rfl ab ?_
  refine zR4 ?_
  have hel2:=hel (by assumption)
  refine zR7 ?_
  refine ed (.of (ι:=Nat) (fun k=>k≤(eF fe).1.length) (fun _=>_) (fun k=>[cellE b12 (aM.enc (my ot ((eF fe).1.take k) emptyS)) 25,rowE VE 23 aa (eF fe).1,cellE q (aM.enc ot) 25,cellE p (aM.enc fe) 25,cellE b3 (aM.enc zeroS) 25,cellE b2 (aM.enc (al b)) 25,cellE b1 (aM.enc (al a)) 25]) (fun k=>[(44,.int .i64 (k:Nat))]) (fun k=>(eF fe).1.length - k)) 0 (Nat.zero_le _) (Front.c Front.nil) (fun k hi m hm=>zR6 ?_)
  refine af rfl (fun h13=>?_) (fun h13=>?_)
  ·refine qE ?_
   refine zz0 (ac rfl s5 (fun w hw=>ox ot _ w)) (zR2 ?_)
   refine af rfl (fun h14=>?_) (fun h14=>?_)
   ·refine fE 0 4 ak ?_
    refine aG (zT2 ?_)
    refine aB (ac rfl jq (fun w hw=>kr _ w)) ?_
    refine aB (ac rfl Tryz.call166 (fun w hw=>Ck _ _ w)) (eB ?_)
    refine ad aM rfl rfl ab ?_
    refine fV (eK (az (aP (zz0 (aZ rfl rfl) (zR3 ?_)))))
    rw [Ld (by omega) (by assumption)]
    refine bC (k+1) (Front.c Front.nil) (zz9 14 rfl) (o:=(by show k+1≤_; omega))
   refine fO (eK (az (aP (zz0 (aZ rfl rfl) (zR3 ?_)))))
   rw [NQ (o:=ot) (k:=k) (by omega) (by assumption)]
   refine bC (k+1) (Front.c Front.nil) (zz9 10 rfl) (o:=(by show k+1≤_; omega))
  refine zR6 ?_
  obtain rfl:k=(eF fe).1.length:=by omega
  rw [List.take_length]
  refine aP (zz0 (bU rfl) (ad aM rfl rfl ab ?_))
  refine zR4 ?_
  refine d6 kw rfl aF ab (fun w' hw=>?_)
  try rw [hme]
  refine ⟨?_,hw.b0⟩
  (first|unfold rV we|unfold mw qU)
  repeat' (first|rfl|(exfalso; first|(simp_all; done)|grind)|split)
 refine zR3 ?_
 have hst0:(al a).st≠0:=LO (ic a) (hfe.elim id (fun e=>e ▸ Mb (by assumption))) hat
 have hfb:=N4 (al a) (ir (al a).lo (al b).lo) hst0
 have hz1:=yl hst0
 have hz2:=(al a).st.toNat_lt
 have hz3:=(ir (al a).lo (al b).lo - (al a).lo).toNat_lt
 have hz4:=(al a).lo.toNat_lt
 refine ip ak (zT4 ?_)
 refine aB (sx rfl rfl) (zT4 ?_)
 refine aB (sw rfl rfl) (zT5 ?_)
 simp only [rU,rX]
 refine ip ak (zT2 ?_)
 refine aB (dx rfl an aO) (zT4 ?_)
 refine aB (dx rfl an aO) (zT2 ?_)
 refine aB (dx rfl an aO) (aB (oK rfl rfl (by omega)) ?_)
 refine aB (xr rfl rfl (by omega)) (zT2 ?_)
 refine aB (dx rfl an aO) (aB (OH rfl rfl (by omega)) (zT2 ?_))
 refine aB (dx rfl an aO) (aB (Ih rfl rfl (by omega)) ?_)
 refine aB (oK rfl rfl (by omega)) (zT5 ?_)
 have hfe1:(al a).lo.toNat+(((ir (al a).lo (al b).lo - (al a).lo).toNat:Int)+(al a).st.toNat - 1) / ((al a).st.toNat:Int) * (al a).st.toNat=oZ (al a) (ir (al a).lo (al b).lo):=rfl
 rw [hfe1]
 refine zR3 ?_
 refine zz0 (dx rfl an aO) (zR3 ?_)
 refine af rfl (fun h15=>?_) (fun h15=>?_)
 ·refine eO (zz0 (ac rfl j8 (fun w hw=>lu w)) ?_)
  refine ad aM rfl rfl ab ?_
  refine zR4 ?_
  refine d6 kw rfl aF ab (fun w' hw=>?_)
  try rw [hme]
  refine ⟨?_,hw.b0⟩
  (first|unfold rV we|unfold mw qU)
  repeat' (first|rfl|(exfalso; first|(simp_all; done)|grind)|split)
 refine zR5 ?_
 refine zz0 (gU rfl aO an) (zR3 ?_)
 refine zz0 (ac rfl dL (fun w hw=>dh _ _ _ w)) ?_
 refine ad aM rfl rfl ab ?_
 refine lD (jQ (d6 kw rfl aF ab (fun w' hw=>?_)))
 try rw [hme]
 refine ⟨?_,hw.b0⟩
 (first|unfold rV we|unfold mw qU)
 repeat' (first|rfl|(exfalso; first|(simp_all; done)|grind)|split)
theorem JZ (a b:VSet) (w:World) :
  Cr Tryz.prog 227 #[.agg (aM.enc a).toArray,.agg (aM.enc b).toArray] w (.agg (aM.enc (lm a b)).toArray):=by
 refine enter Tryz.func227 rfl Tryz.ntmps227 rfl (zR2 ?_)
 refine cm rfl rfl (fun b1=>?_)
 refine cm rfl rfl (fun b2=>?_)
 refine bS bI rfl (fun b3=>zR3 ?_)
 refine fE 0 4 ak ?_
 refine aG (aB (bU rfl) ?_)
 refine aB (ac rfl gy (fun w hw=>iF a w)) (aB (bU rfl) ?_)
 refine aB (ac rfl gy (fun w hw=>iF b w)) (eB ?_)
 refine ad aM rfl rfl ab ?_
 refine ad aM rfl rfl ab ?_
 refine zR8 ?_
 refine zz0 (ac rfl Tryz.call271 (fun w hw=>Iq _ _ w)) (zR3 ?_)
 refine af rfl (fun h4=>?_) (fun h4=>?_)
 ·refine zR3 ?_
  refine ad aM rfl rfl ab ?_
  refine zR5 ?_
  refine d6 gv rfl aF ab (fun w' hw=>?_)
  refine ⟨?_,hw.b0⟩
  unfold lm ma oO
  repeat' (first|rfl|(exfalso; first|(simp_all; done)|grind)|split)
 refine zR7 ?_
 refine af rfl (fun h5=>?_) (fun h5=>?_)
 ·refine zR3 ?_
  refine ad aM rfl rfl ab ?_
  refine zR5 ?_
  refine d6 gv rfl aF ab (fun w' hw=>?_)
  refine ⟨?_,hw.b0⟩
  unfold lm ma oO
  repeat' (first|rfl|(exfalso; first|(simp_all; done)|grind)|split)
 refine zR5 ?_
 apply cE 3 24 27 (fun hF6 hF6'=>?_) ?_; rotate_right
 ·exact zE
 refine zR3 ?_
 refine af rfl (fun h7=>?_) (fun h7=>?_)
 ·refine eO (zz0 (ac rfl f9 (fun w hw=>ln w)) ?_)
  refine ad aM rfl rfl ab ?_
  refine zR5 ?_
  refine d6 gv rfl aF ab (fun w' hw=>?_)
  refine ⟨?_,hw.b0⟩
  unfold lm ma oO
  repeat' (first|rfl|(exfalso; first|(simp_all; done)|grind)|split)
 refine zR7 ?_
 refine zz0 (ac rfl Tryz.call166 (fun w hw=>Ck _ _ w)) ?_
 refine bS bI rfl (fun b8=>?_)
 refine ad aM rfl rfl ab ?_
 refine zR9 ?_
 refine af rfl (fun h9=>?_) (fun h9=>?_)
 ·refine zR3 ?_
  refine ad aM rfl rfl ab ?_
  refine zR4 ?_
  refine d6 gv rfl aF ab (fun w' hw=>?_)
  refine ⟨?_,hw.b0⟩
  unfold lm ma oO
  repeat' (first|rfl|(exfalso; first|(simp_all; done)|grind)|split)
 refine mG (bE (ip ak (Qj ?_)))
 refine af rfl (fun h10=>?_) (fun h10=>?_)
 ·have hst0:=J0 (by assumption) (by assumption) (by simp_all) (by simp_all) (by assumption) (by assumption)
  refine zR4 ?_
  refine zz0 (qx rfl rfl (by first|decide|assumption)) (fu ?_)
  refine af rfl (fun h11=>?_) (fun h11=>?_)
  ·refine df ?_
   refine zz0 (ac rfl dL (fun w hw=>dh ((fM (al a) (al b)).lo % (fM (al a) (al b)).st) 4294967295 (fM (al a) (al b)).st w)) ?_
   refine ad aM rfl rfl ab ?_
   refine lD (jQ (d6 gv rfl aF ab (fun w' hw=>?_)))
   refine ⟨?_,hw.b0⟩
   unfold lm ma oO
   repeat' (first|rfl|(exfalso; first|(simp_all; done)|grind)|split)
  refine zR8 ?_
  refine zz0 (ac rfl dL (fun w hw=>dh ((fM (al a) (al b)).lo % (fM (al a) (al b)).st) (fM (al a) (al b)).hi (fM (al a) (al b)).st w)) ?_
  refine ad aM rfl rfl ab ?_
  refine lD (jQ (d6 gv rfl aF ab (fun w' hw=>?_)))
  refine ⟨?_,hw.b0⟩
  unfold lm ma oO
  repeat' (first|rfl|(exfalso; first|(simp_all; done)|grind)|split)
 refine dy ?_
 refine af rfl (fun h12=>?_) (fun h12=>?_)
 ·refine df ?_
  refine zz0 (ac rfl dL (fun w hw=>dh (fM (al a) (al b)).lo 4294967295 (fM (al a) (al b)).st w)) ?_
  refine ad aM rfl rfl ab ?_
  refine lD (jQ (d6 gv rfl aF ab (fun w' hw=>?_)))
  refine ⟨?_,hw.b0⟩
  unfold lm ma oO
  repeat' (first|rfl|(exfalso; first|(simp_all; done)|grind)|split)
 refine zR8 ?_
 refine zz0 (ac rfl dL (fun w hw=>dh (fM (al a) (al b)).lo (fM (al a) (al b)).hi (fM (al a) (al b)).st w)) ?_
 refine ad aM rfl rfl ab ?_
 refine lD (jQ (d6 gv rfl aF ab (fun w' hw=>?_)))
 refine ⟨?_,hw.b0⟩
 unfold lm ma oO
 repeat' (first|rfl|(exfalso; first|(simp_all; done)|grind)|split)
end Go.Proofs.YtiajjbhcpeadfaaGreat
namespace Go.Proofs.YtiajjbhcpeadfaaGreat
open Go Go.HL Go.RowKit
theorem rJ (w:World) :
  Cr Tryz.prog 162 #[] w (.agg (bQ.enc (zL 8)).toArray):=by
 refine enter Tryz.func162 rfl Tryz.ntmps162 rfl (zR2 ?_)
 refine bS bR rfl (fun b1=>zR4 ?_)
 refine bS bR rfl (fun b2=>zR9 ?_)
 refine ed (.of (ι:=Nat) (fun k=>k≤8) (fun _=>_) (fun k=>[cellE b2 (bQ.enc (zL k)) 37,cellE b1 (bQ.enc kh) 37]) (fun k=>[(3,.int .i64 (k:Nat))]) (fun k=>8 - k)) 0 (Nat.zero_le _) (Front.c Front.nil) (fun k hi m hm=>zR6 ?_)
 refine af rfl (fun h3=>?_) (fun h3=>?_)
 ·refine fu ?_
  refine zz0 (ac rfl f9 (fun w hw=>ln w)) (zz0 (aD rfl) ?_)
  refine zz0 (fX rfl rfl bA ab) ?_
  refine ff rfl rfl ab (by repeat constructor) ((mJ (k:=(k:Int)) ⟨by omega,by omega⟩ (by simp) _).trans (congrArg bQ.enc (J5 (by omega)))) (by rfl) (mL (k:=(k:Int)) ⟨by omega,by omega⟩ (by simp)) (by first|exact Enc.one aM _|exact List.all_eq_true.1 rfl) rfl (zR4 ?_)
  refine zz0 (aZ rfl rfl) (zR3 ?_)
  refine bC (k+1) (Front.c Front.nil) (zz9 10 rfl) (o:=(by show k+1≤_; omega))
 refine zR6 ?_
 obtain rfl:k=8:=by omega
 refine zR2 ?_
 refine ad bQ rfl rfl aI ?_
 refine zR3 ?_
 refine d6 Tryz.results162 rfl dY aI (fun w' hw=>?_)
 exact ⟨rfl,hw.b0⟩
theorem A7 (w:World) :
  Cr Tryz.prog 160 #[] w (.agg (bQ.enc (iJ 8)).toArray):=by
 refine enter Tryz.func160 rfl Tryz.ntmps160 rfl (zR2 ?_)
 refine bS bR rfl (fun b1=>zR4 ?_)
 refine bS bR rfl (fun b2=>zR9 ?_)
 refine ed (.of (ι:=Nat) (fun k=>k≤8) (fun _=>_) (fun k=>[cellE b2 (bQ.enc (iJ k)) 37,cellE b1 (bQ.enc kh) 37]) (fun k=>[(3,.int .i64 (k:Nat))]) (fun k=>8 - k)) 0 (Nat.zero_le _) (Front.c Front.nil) (fun k hi m hm=>zR6 ?_)
 refine af rfl (fun h3=>?_) (fun h3=>?_)
 ·refine fu ?_
  refine zz0 (ac rfl j8 (fun w hw=>lu w)) (zz0 (aD rfl) ?_)
  refine zz0 (fX rfl rfl bA ab) ?_
  refine ff rfl rfl ab (by repeat constructor) ((mJ (k:=(k:Int)) ⟨by omega,by omega⟩ (by simp) _).trans (congrArg bQ.enc (Ma (by omega)))) (by rfl) (mL (k:=(k:Int)) ⟨by omega,by omega⟩ (by simp)) (by first|exact Enc.one aM _|exact List.all_eq_true.1 rfl) rfl (zR4 ?_)
  refine zz0 (aZ rfl rfl) (zR3 ?_)
  refine bC (k+1) (Front.c Front.nil) (zz9 10 rfl) (o:=(by show k+1≤_; omega))
 refine zR6 ?_
 obtain rfl:k=8:=by omega
 refine zR2 ?_
 refine ad bQ rfl rfl aI ?_
 refine zR3 ?_
 refine d6 Tryz.results160 rfl dY aI (fun w' hw=>?_)
 exact ⟨rfl,hw.b0⟩
theorem xP (s:StV) (i:Ins) (w:World) (hB:0≤i.b∧i.b<8) :
  Cr Tryz.prog 302 #[.agg (bQ.enc s).toArray,.agg (am.enc i).toArray] w (.agg (aM.enc (Dp s i)).toArray):=by
 refine enter Tryz.func302 rfl Tryz.ntmps302 rfl (zR2 ?_)
 refine cm rfl rfl (fun b1=>?_)
 refine cm rfl rfl (fun b2=>?_)
 refine bS bI rfl (fun b3=>df ?_)
 refine af rfl (fun h4=>?_) (fun h4=>?_)
 ·refine zR5 ?_
  refine zz0 (fX rfl rfl bA ab) ?_
  refine zz0 (eQ (vs:=aM.enc (s.get i.b)) rfl (by repeat constructor) aF ab (mK hB (by simp)) rfl) ?_
  refine ad aM rfl rfl ab ?_
  refine zR4 ?_
  refine d6 Tryz.results302 rfl aF ab (fun w' hw=>?_)
  refine ⟨?_,hw.b0⟩
  unfold Dp
  repeat' (first|rfl|(exfalso; first|(simp_all; done)|grind)|split)
 refine zR6 ?_
 refine zz0 (ac rfl jq (fun w hw=>kr _ w)) ?_
 refine ad aM rfl rfl ab ?_
 refine zR3 ?_
 refine d6 Tryz.results302 rfl aF ab (fun w' hw=>?_)
 refine ⟨?_,hw.b0⟩
 unfold Dp
 repeat' (first|rfl|(exfalso; first|(simp_all; done)|grind)|split)
theorem I6 (a:VSet) (n:UInt32) (w:World) :
  Cr Tryz.prog 304 #[.agg (aM.enc a).toArray,.int .u32 n.toNat] w (.agg (aM.enc (vg a n)).toArray):=by
 refine enter Tryz.func304 rfl Tryz.ntmps304 rfl (zR2 ?_)
 refine cm rfl rfl (fun b1=>?_)
 refine bS bI rfl (fun b2=>zR6 ?_)
 refine zz0 (qy (n:=2147483648) rfl rfl) (zR2 ?_)
 refine af rfl (fun h3=>?_) (fun h3=>?_)
 ·refine bE (fE 0 4 ak ?_)
  refine aG (zT2 ?_)
  refine aB (ac rfl jq (fun w hw=>kr _ w)) ?_
  refine aB (ac rfl nI (fun w hw=>sk 3 _ _ w)) (eB ?_)
  refine ad aM rfl rfl ab ?_
  refine zR4 ?_
  refine d6 Tryz.results304 rfl aF ab (fun w' hw=>?_)
  refine ⟨?_,hw.b0⟩
  unfold vg
  repeat' (first|rfl|(exfalso; first|(simp_all; done)|grind)|split)
 refine zR3 ?_
 refine fE 0 5 ak ?_
 refine aG (zT2 ?_)
 refine aB (zu rfl) ?_
 refine aB (ac rfl jq (fun w hw=>kr _ w)) ?_
 refine aB (ac rfl nI (fun w hw=>sk 4 _ _ w)) (eB ?_)
 refine ad aM rfl rfl ab ?_
 refine zR3 ?_
 refine d6 Tryz.results304 rfl aF ab (fun w' hw=>?_)
 refine ⟨?_,hw.b0⟩
 unfold vg
 repeat' (first|rfl|(exfalso; first|(simp_all; done)|grind)|split)
theorem wv (a:VSet) (w:World) :
  Cr Tryz.prog 299 #[.agg (aM.enc a).toArray] w (.bool (si a)):=by
 refine enter Tryz.func299 rfl Tryz.ntmps299 rfl (zR2 ?_)
 refine cm rfl rfl (fun b1=>zR6 ?_)
 refine zz0 (ac rfl Tryz.call40 (fun w hw=>xH _ w)) (zz0 (ae rfl) ?_)
 apply cj 4 5 9 (fun hT2 hT2'=>?_) ?_; rotate_right
 ·exact zE
 refine zz0 (ae rfl) ?_
 apply cj 4 10 14 (fun hT3 hT3'=>?_) ?_; rotate_right
 ·exact zE
 refine zR4 ?_
 refine ah Tryz.results299 rfl (fun w' hw=>?_)
 refine ⟨?_,hw.b0⟩
 unfold si
 repeat' (first|rfl|(exfalso; first|(simp_all; done)|grind)|split)
theorem C9 (a:VSet) (n:UInt32) (w:World) :
  Cr Tryz.prog 301 #[.agg (aM.enc a).toArray,.int .u32 n.toNat] w (.agg (aM.enc (mm a n)).toArray):=by
 refine enter Tryz.func301 rfl Tryz.ntmps301 rfl (zR2 ?_)
 refine cm rfl rfl (fun b1=>?_)
 refine bS bI rfl (fun b2=>zR7 ?_)
 refine zz0 (ac rfl Tryz.call299 (fun w hw=>wv _ w)) (zR2 ?_)
 apply lC
 ·exact (rfl:_=(11,9,20))
 ·exact rfl
 ·intro hF3; have hF3':=hF3
  try simp only [bs] at hF3'
  refine zR3 ?_
  refine zz5 hF3 (iQ rfl rfl) (zz5 hF3 (ae rfl) ?_)
  apply kc
  ·exact (rfl:_=(5,14,19))
  ·exact rfl
  ·intro hT4; have hT4':=hT4
   try simp only [bs] at hT4'
   refine zR3 ?_
   refine zz5 hT4 (iQ rfl rfl) (zR3 ?_)
   exact bP (Sub.cons rfl (zz8 5 rfl))
  ·intro hF4
   refine zR7 ?_
   exact bP (Sub.cons rfl (zz8 5 rfl))
  refine zR3 ?_
  exact bP (Sub.cons rfl (zz8 7 rfl))
 ·intro hT3
  refine jz ?_
  exact bP (Sub.cons rfl (zz8 11 rfl))
 refine zR3 ?_
 refine af rfl (fun h5=>?_) (fun h5=>?_)
 ·refine zR3 ?_
  refine ad aM rfl rfl ab ?_
  refine zR5 ?_
  refine d6 me rfl aF ab (fun w' hw=>?_)
  refine ⟨?_,hw.b0⟩
  unfold mm
  repeat' (first|rfl|(exfalso; first|(simp_all; done)|grind)|split)
 refine zR4 ?_
 refine zz0 (fb (n:=0) rfl rfl) (zR3 ?_)
 refine af rfl (fun h6=>?_) (fun h6=>?_)
 ·refine eO (zz0 (ac rfl j8 (fun w hw=>lu w)) ?_)
  refine ad aM rfl rfl ab ?_
  refine zR5 ?_
  refine d6 me rfl aF ab (fun w' hw=>?_)
  refine ⟨?_,hw.b0⟩
  unfold mm
  repeat' (first|rfl|(exfalso; first|(simp_all; done)|grind)|split)
 refine zR9 ?_
 refine af rfl (fun h7=>?_) (fun h7=>?_)
 ·refine dy ?_
  refine zz0 (ac rfl dL (fun w hw=>dh _ _ _ w)) ?_
  refine ad aM rfl rfl ab ?_
  refine zR5 ?_
  refine d6 me rfl aF ab (fun w' hw=>?_)
  refine ⟨?_,hw.b0⟩
  unfold mm
  repeat' (first|rfl|(exfalso; first|(simp_all; done)|grind)|split)
 refine lN ?_
 refine zz0 (ac rfl dL (fun w hw=>dh _ _ _ w)) ?_
 refine ad aM rfl rfl ab ?_
 refine lD (jQ (d6 me rfl aF ab (fun w' hw=>?_)))
 refine ⟨?_,hw.b0⟩
 unfold mm
 repeat' (first|rfl|(exfalso; first|(simp_all; done)|grind)|split)
theorem wu (i:Ins) (w:World) (hI:InsOK i) :
  Cr Tryz.prog 225 #[.agg (am.enc i).toArray] w (.bool (uH i)):=by
 refine enter Tryz.func225 rfl Tryz.ntmps225 rfl (zR2 ?_)
 refine cm rfl rfl (fun b1=>zR9 ?_)
 apply cj 4 6 10 (fun hT2 hT2'=>?_) ?_; rotate_right
 ·exact zE
 refine zz0 (ae rfl) ?_
 apply cj 3 11 14 (fun hT3 hT3'=>?_) ?_; rotate_right
 ·refine zz5 hT3 (bU rfl) (zz5 hT3 (ac rfl lU (fun w hw=>lO i w hI)) ?_)
  exact zE
 refine zR4 ?_
 refine ah Tryz.results225 rfl (fun w' hw=>?_)
 refine ⟨?_,hw.b0⟩
 unfold uH
 repeat' (first|rfl|(exfalso; first|(simp_all; done)|grind)|split)
theorem Cc (cc:Int) (w:World) :
  Cr Tryz.prog 298 #[.int .i64 cc] w (.int .i64 (Cd cc)):=by
 refine enter Tryz.func298 rfl Tryz.ntmps298 rfl (dy ?_)
 apply cE 3 5 8 (fun hF1 hF1'=>?_) ?_; rotate_right
 ·exact zE
 refine zR2 ?_
 refine af rfl (fun h2=>?_) (fun h2=>?_)
 ·refine zR7 ?_
  exact ah Tryz.results298 rfl fun w' hw=>⟨by unfold Cd; rw [if_pos (by omega)],hw.b0⟩
 refine zR3 ?_
 have hsz:({ data:=#[45,99,98,101,100,103,102,105,104,107,106,109,108,111,110] }:ByteArray).size=15:=rfl
 refine zR2 ?_
 refine zz0 (vN rfl rfl iM (by omega)) ?_
 refine zz0 (Ie (n:=97) rfl rfl) ?_
 refine zz0 (jR rfl aU ax) (zR4 ?_)
 exact ah Tryz.results298 rfl fun w' hw=>⟨by rw [KZ (by omega),← NH (by omega)],hw.b0⟩
theorem qY (a b:StV) (w:World) :
  Cr Tryz.prog 110 #[.agg (bQ.enc a).toArray,.agg (bQ.enc b).toArray] w (.agg (bQ.enc (jH a b 8)).toArray):=by
 refine enter Tryz.func110 rfl Tryz.ntmps110 rfl (zR2 ?_)
 refine cm rfl rfl (fun b1=>?_)
 refine cm rfl rfl (fun b2=>?_)
 refine bS bR rfl (fun b3=>zR9 ?_)
 refine ed (.of (ι:=Nat) (fun k=>k≤8) (fun _=>_) (fun k=>[cellE b3 (bQ.enc kh) 37,cellE b2 (bQ.enc b) 37,cellE b1 (bQ.enc (jH a b k)) 37]) (fun k=>[(6,.int .i64 (k:Nat))]) (fun k=>8 - k)) 0 (Nat.zero_le _) (Front.c Front.nil) (fun k hi m hm=>?_)
 have hgk:=AX a b k hi k (Nat.le_refl k)
 refine zR6 ?_
 refine af rfl (fun h4=>?_) (fun h4=>?_)
 ·refine df ?_
  replace hgk:=hgk (by omega)
  refine fE 0 12 ak ?_
  refine aG (zT3 ?_)
  refine aB (fX rfl rfl bA ab) ?_
  refine aB (eQ (vs:=aM.enc ((jH a b k).get (k:Int))) rfl (by repeat constructor) aF ab (mK ⟨by omega,by omega⟩ (by simp)) rfl) (zT2 ?_)
  refine aB (fX rfl rfl bA ab) ?_
  refine aB (eQ (vs:=aM.enc (b.get (k:Int))) rfl (by repeat constructor) aF ab (mK ⟨by omega,by omega⟩ (by simp)) rfl) ?_
  refine aB (ac rfl Tryz.call166 (fun w hw=>Ck _ _ w)) (aB (aD rfl) ?_)
  refine aB (fX rfl rfl bA ab) (eB ?_)
  refine ff rfl rfl ab (by repeat constructor) ((mJ (s:=jH a b k) (k:=(k:Int)) ⟨by omega,by omega⟩ (by simp) (fM ((jH a b k).get (k:Int)) (b.get (k:Int)))).trans (congrArg bQ.enc (show _=jH a b (k+1) by rw [hgk]; rfl))) (by rfl) (mL (k:=(k:Int)) ⟨by omega,by omega⟩ (by simp)) (by first|exact Enc.one aM _|exact List.all_eq_true.1 rfl) rfl (zR4 ?_)
  refine zz0 (aZ rfl rfl) (zR3 ?_)
  refine bC (k+1) (Front.c Front.nil) (zz9 18 rfl) (o:=(by show k+1≤_; omega))
 refine zR6 ?_
 obtain rfl:k=8:=by omega
 refine zR2 ?_
 refine ad bQ rfl rfl aI ?_
 refine zR3 ?_
 refine d6 Tryz.results110 rfl dY aI (fun w' hw=>?_)
 exact ⟨rfl,hw.b0⟩
end Go.Proofs.YtiajjbhcpeadfaaGreat
namespace Go.Proofs.YtiajjbhcpeadfaaGreat
open Go Go.HL Go.RowKit
theorem BN (i:Ins) (s:StV) (w:World) (hI:InsOK i) :
  Cr Tryz.prog 270 #[.agg (am.enc i).toArray,.agg (bQ.enc s).toArray] w (.agg (bQ.enc (js i s)).toArray):=by
 refine enter Tryz.func270 rfl Tryz.ntmps270 rfl (zR2 ?_)
 refine cm rfl rfl (fun b1=>?_)
 refine cm rfl rfl (fun b2=>?_)
 refine bS bR rfl (fun b3=>zR6 ?_)
 refine zz0 (ac rfl lU (fun w hw=>lO i w hI)) (zR3 ?_)
 refine af rfl (fun h4=>?_) (fun h4=>?_)
 ·refine zR3 ?_
  refine ad bQ rfl rfl aI ?_
  refine zR4 ?_
  refine d6 iv rfl dY aI (fun w' hw=>?_)
  refine ⟨?_,hw.b0⟩
  first|(rw [hi]; rfl)|(unfold js; (repeat' split) <;> first|(exfalso; first|(simp_all; done)|grind)|rfl)
 refine zR3 ?_
 have he:fZ i=0:=by simp_all
 obtain ⟨_,hA,hB,_⟩:=jX he
 refine zR4 ?_
 refine zz0 (fX rfl rfl bA ab) ?_
 refine zz0 (eQ (vs:=aM.enc (s.get i.a)) rfl (by repeat constructor) aF ab (mK hA (by simp)) rfl) ?_
 refine bS bI rfl (fun b5=>?_)
 refine ad aM rfl rfl ab ?_
 refine zR2 ?_
 refine fC (.of (ι:=VSet) (fun a1=>js i s=s.set i.a a1) (fun _=>Bg.of w) (fun a1=>[cellE b5 (aM.enc a1) 25,cellE b3 (bQ.enc kh) 37,cellE b2 (bQ.enc s) 37,cellE b1 (am.enc i) 36]) (fun a1=>[])) ?_ (fun a1 hi=>?_)
 ·skip
  refine zR9 ?_
  refine af rfl (fun h6=>?_) (fun h6=>?_)
  ·refine zR3 ?_
   refine zz0 (ac rfl Tryz.call302 (fun w hw=>xP s i w hB)) ?_
   refine ad aM rfl rfl ab ?_
   refine zR3 ?_
   refine aQ _ Front.nil (zz9 7 rfl) (o:=(by show _=_; unfold js; rw [if_pos he]; (repeat' split) <;> first|(exfalso; first|(simp_all; done)|grind)|rfl))
  refine zR6 ?_
  apply cj 4 28 32 (fun hT7 hT7'=>?_) ?_; rotate_right
  ·exact zE
  refine zR3 ?_
  refine af rfl (fun h8=>?_) (fun h8=>?_)
  ·refine eO (zz0 (aK (vs:=[(0,_),(1,_),(2,_),(3,_),(4,_),(5,_),(6,_),(7,_),(8,_)]) rfl rfl (l9 _ _ _ _ _ _ _ _ _)) ?_)
   refine bS Tryz.zeroValue321 rfl (fun b9=>?_)
   refine zz7 rfl rfl Tryz.sizeOf321 ?_
   refine lD (fE 0 10 ak ?_)
   refine aG (zT2 ?_)
   refine aB (dB rfl rfl) ?_
   refine aB (fX rfl rfl Tryz.underlying321 bL) ?_
   refine aB (eZ (v:=.int .i64 (AD i.op)) rfl (by repeat constructor) iP (K3 (by assumption) (by simp))) (zT3 ?_)
   refine aB (ac rfl Tryz.call302 (fun w hw=>xP s i w hB)) ?_
   refine aB (ac rfl nI (fun w hw=>sk (AD i.op) (s.get i.a) (Dp s i) w)) (eB ?_)
   refine ad aM rfl rfl ab ?_
   refine zR3 ?_
   refine aQ _ Front.nil (zz9 22 rfl) (o:=(by show _=_; unfold js; rw [if_pos he]; (repeat' split) <;> first|(exfalso; first|(simp_all; done)|grind)|rfl))
  refine zR6 ?_
  apply cj 4 48 52 (fun hT10 hT10'=>?_) ?_; rotate_right
  ·exact zE
  refine zR3 ?_
  refine af rfl (fun h11=>?_) (fun h11=>?_)
  ·have hwd:=Lj he (by omega)
   refine zR3 ?_
   refine zz0 (kG rfl rfl (by omega)) ?_
   refine zz0 (nL (m:=1) rfl rfl (by omega)) ?_
   refine zz0 (gR (n:=1) rfl rfl) ?_
   refine zz0 (ac rfl dL (fun w hw=>dh 0 (kY 1 (8 * i.width).toNat - 1) 1 w)) ?_
   refine ad aM rfl rfl ab ?_
   refine zR3 ?_
   refine aQ _ Front.nil (zz9 22 rfl) (o:=(by show _=_; unfold js; rw [if_pos he]; (repeat' split) <;> first|(exfalso; first|(simp_all; done)|grind)|rfl))
  refine zR9 ?_
  apply bN
  ·exact rfl
  ·intro hO12
   try simp only [bs] at hO12
   refine zR8 ?_
   apply bN
   ·exact rfl
   ·intro hO13
    try simp only [bs] at hO13
    refine zR7 ?_
    exact bZ rfl (zz9 4 rfl)
   refine az ?_
   exact bZ rfl (zz9 5 rfl)
  refine az ?_
  refine af rfl (fun h14=>?_) (fun h14=>?_)
  ·refine aP (zz0 (ac rfl f9 (fun w hw=>ln w)) ?_)
   refine ad aM rfl rfl ab ?_
   refine zR3 ?_
   refine aQ _ Front.nil (zz9 22 rfl) (o:=(by show _=_; unfold js; rw [if_pos he]; (repeat' split) <;> first|(exfalso; first|(simp_all; done)|grind)|rfl))
  refine zR8 ?_
  refine af rfl (fun h15=>?_) (fun h15=>?_)
  ·refine fE 0 8 ak ?_
   refine aG (zT3 ?_)
   refine aB (fX rfl rfl bA ab) ?_
   refine aB (eQ (vs:=aM.enc (s.get i.b)) rfl (by repeat constructor) aF ab (mK hB (by simp)) rfl) (zT2 ?_)
   refine aB (ac rfl Tryz.call304 (fun w hw=>I6 (s.get i.b) i.imm w)) (eB ?_)
   refine ad aM rfl rfl ab ?_
   refine zR3 ?_
   refine aQ _ Front.nil (zz9 33 rfl) (o:=(by show _=_; unfold js; rw [if_pos he]; (repeat' split) <;> first|(exfalso; first|(simp_all; done)|grind)|rfl))
  refine zR8 ?_
  refine af rfl (fun h16=>?_) (fun h16=>?_)
  ·refine aP (zz0 (ac rfl dL (fun w hw=>dh 0 1 1 w)) ?_)
   refine ad aM rfl rfl ab ?_
   refine zR3 ?_
   refine aQ _ Front.nil (zz9 30 rfl) (o:=(by show _=_; unfold js; rw [if_pos he]; (repeat' split) <;> first|(exfalso; first|(simp_all; done)|grind)|rfl))
  refine zR8 ?_
  refine af rfl (fun h17=>?_) (fun h17=>?_)
  ·refine bE (fE 0 7 ak ?_)
   refine aG (aB (aD rfl) ?_)
   refine aB (fX rfl rfl bA ab) ?_
   refine aB (eQ (vs:=aM.enc (s.get (7:Int))) rfl (by repeat constructor) aF ab (mK ⟨by omega,by omega⟩ (by simp)) rfl) ?_
   refine aB (ac rfl jq (fun w hw=>kr 4 w)) ?_
   refine aB (ac rfl nI (fun w hw=>sk 4 (s.get 7) (gI 4) w)) (aB (aD rfl) ?_)
   refine aB (fX rfl rfl bA ab) (eB ?_)
   refine ff rfl rfl ab (by repeat constructor) (mJ (k:=7) ⟨by omega,by omega⟩ (by simp) _) (by rfl) (mL (k:=7) ⟨by omega,by omega⟩ (by simp)) (by first|exact Enc.one aM _|exact List.all_eq_true.1 rfl) rfl (zR5 ?_)
   refine ad bQ rfl rfl aI ?_
   refine zR5 ?_
   refine d6 iv rfl dY aI (fun w' hw=>?_)
   refine ⟨?_,hw.b0⟩
   first|(rw [hi]; rfl)|(unfold js; (repeat' split) <;> first|(exfalso; first|(simp_all; done)|grind)|rfl)
  refine zR9 ?_
  apply bN
  ·exact rfl
  ·intro hO18
   try simp only [bs] at hO18
   refine zR7 ?_
   exact bZ rfl (zz9 4 rfl)
  refine az ?_
  refine af rfl (fun h19=>?_) (fun h19=>?_)
  ·refine bE (fE 0 7 ak ?_)
   refine aG (aB (aD rfl) ?_)
   refine aB (fX rfl rfl bA ab) ?_
   refine aB (eQ (vs:=aM.enc (s.get (7:Int))) rfl (by repeat constructor) aF ab (mK ⟨by omega,by omega⟩ (by simp)) rfl) ?_
   refine aB (ac rfl jq (fun w hw=>kr 4 w)) ?_
   refine aB (ac rfl nI (fun w hw=>sk 3 (s.get 7) (gI 4) w)) (aB (aD rfl) ?_)
   refine aB (fX rfl rfl bA ab) (eB ?_)
   refine ff rfl rfl ab (by repeat constructor) (mJ (k:=7) ⟨by omega,by omega⟩ (by simp) _) (by rfl) (mL (k:=7) ⟨by omega,by omega⟩ (by simp)) (by first|exact Enc.one aM _|exact List.all_eq_true.1 rfl) rfl (df ?_)
   refine af rfl (fun h20=>?_) (fun h20=>?_)
   ·refine fE 0 5 ak ?_
    refine aG (zT2 ?_)
    refine aB (ac rfl f9 (fun w hw=>ln w)) (aB (aD rfl) ?_)
    refine aB (fX rfl rfl bA ab) (eB ?_)
    refine ff rfl rfl ab (by repeat constructor) (mJ hA (by simp) _) (by rfl) (mL hA (by simp)) (by first|exact Enc.one aM _|exact List.all_eq_true.1 rfl) rfl (zR5 ?_)
    refine ad bQ rfl rfl aI ?_
    refine zR5 ?_
    refine d6 iv rfl dY aI (fun w' hw=>?_)
    refine ⟨?_,hw.b0⟩
    first|(rw [hi]; rfl)|(unfold js; (repeat' split) <;> first|(exfalso; first|(simp_all; done)|grind)|rfl)
   refine oH (zz0 (bU rfl) (ad bQ rfl rfl aI ?_))
   refine zR5 ?_
   refine d6 iv rfl dY aI (fun w' hw=>?_)
   refine ⟨?_,hw.b0⟩
   first|(rw [hi]; rfl)|(unfold js; (repeat' split) <;> first|(exfalso; first|(simp_all; done)|grind)|rfl)
  refine zR9 ?_
  apply bN
  ·exact rfl
  ·intro hO21
   try simp only [bs] at hO21
   refine zR7 ?_
   exact bZ rfl (zz9 4 rfl)
  refine az ?_
  refine af rfl (fun h22=>?_) (fun h22=>?_)
  ·refine eO (zz0 (ac rfl Tryz.call162 (fun w hw=>rJ w)) ?_)
   refine ad bQ rfl rfl aI ?_
   refine zR5 ?_
   refine d6 iv rfl dY aI (fun w' hw=>?_)
   refine ⟨?_,hw.b0⟩
   first|(rw [hi]; rfl)|(unfold js; (repeat' split) <;> first|(exfalso; first|(simp_all; done)|grind)|rfl)
  refine eO (zz0 (bU rfl) (ad bQ rfl rfl aI ?_))
  refine zR5 ?_
  refine d6 iv rfl dY aI (fun w' hw=>?_)
  refine ⟨?_,hw.b0⟩
  first|(rw [hi]; rfl)|(unfold js; (repeat' split) <;> first|(exfalso; first|(simp_all; done)|grind)|rfl)
 skip
 refine zR6 ?_
 refine zz0 (fX rfl rfl bA ab) ?_
 refine ff rfl rfl ab (by repeat constructor) (mJ hA (by simp) _) (by rfl) (mL hA (by simp)) (by first|exact Enc.one aM _|exact List.all_eq_true.1 rfl) rfl (zR5 ?_)
 refine ad bQ rfl rfl aI ?_
 refine lD (jQ (d6 iv rfl dY aI (fun w' hw=>?_)))
 refine ⟨?_,hw.b0⟩
 first|(rw [hi]; rfl)|(unfold js; (repeat' split) <;> first|(exfalso; first|(simp_all; done)|grind)|rfl)
theorem FO (cc:Int) (i:Ins) (s:StV) (tk:Bool) (w:World) (hI:InsOK i) :
  Cr Tryz.prog 269 #[.int .i64 cc,.agg (am.enc i).toArray,.agg (bQ.enc s).toArray,.bool tk] w (.agg (bQ.enc (qQ cc i s tk)).toArray):=by
 refine enter Tryz.func269 rfl Tryz.ntmps269 rfl (zR2 ?_)
 refine cm rfl rfl (fun b1=>?_)
 refine cm rfl rfl (fun b2=>?_)
 refine bS bR rfl (fun b3=>zR6 ?_)
 refine zz0 (ac rfl Tryz.call225 (fun w hw=>wu i w hI)) (zR3 ?_)
 refine af rfl (fun h4=>?_) (fun h4=>?_)
 ·refine zR3 ?_
  refine ad bQ rfl rfl aI ?_
  refine zR4 ?_
  refine d6 o8 rfl dY aI (fun w' hw=>?_)
  refine ⟨?_,hw.b0⟩
  unfold qQ
  rw [if_pos (by simp_all)]
  rfl
 refine zR3 ?_
 have hcm:uH i=true:=by simp_all
 obtain ⟨_,hA,hB,_⟩:=jX (H5 hcm)
 refine aL ([cellE b3 (bQ.enc kh) 37,cellE b2 (bQ.enc s) 37,cellE b1 (am.enc i) 36]) 10 rfl ak ?_
 refine zz1 0 rfl (aD rfl) ?_
 refine zz1 1 rfl (cH rfl) ?_
 refine zz1 2 rfl (aD rfl) ?_
 refine zz1 3 rfl (fX rfl rfl bA ab) ?_
 refine kg 4 rfl (by kernel_rfl) (aC cw) (eQ (vs:=aM.enc (s.get i.a)) rfl (by repeat constructor) aF ab (mK hA (by simp)) rfl) ?_
 refine zz1 5 rfl (aD rfl) ?_
 refine zz1 6 rfl (cH rfl) ?_
 refine ao 7 rfl ?_
 refine bS bI rfl (fun b5=>?_)
 refine ay ?_
 refine ao 8 rfl ?_
 refine ad aM rfl rfl ab ?_
 refine ay ?_
 refine zz1 9 rfl (bh rfl) ?_
 refine dK (az ?_)
 refine fC (.of (ι:=Int) (fun c1=>c1=(if tk=true then cc else Cd cc)) (fun _=>Bg.of w) (fun c1=>[cellE b5 (aM.enc (s.get i.a)) 25,cellE b3 (bQ.enc kh) 37,cellE b2 (bQ.enc s) 37,cellE b1 (am.enc i) 36]) (fun c1=>[(0,.int .i64 c1)])) ?_ (fun c1 hi=>?_)
 ·skip
  refine zR6 ?_
  refine af rfl (fun h6=>?_) (fun h6=>?_)
  ·refine aP (zz0 (ae rfl) (zz0 (ac rfl Tryz.call298 (fun w hw=>Cc cc w)) (zR3 ?_)))
   refine aQ _ (Front.c Front.nil) (zz9 5 rfl) (o:=(by show _=_; rw [if_neg (by simp_all)]))
  refine zR2 ?_
  refine aQ _ (Front.c Front.nil) (zz9 2 rfl) (o:=(by show _=_; rw [if_pos (by simp_all)]))
 skip
 have hrf:qQ cc i s tk=oc c1 i s:=by unfold qQ; rw [if_neg (by rw [hcm]; simp),hi]
 refine fC (.of (ι:=Int) (fun c2=>oc c1 i s=s.set i.a (fJ c2 (s.get i.a) i.imm)) (fun _=>Bg.of w) (fun c2=>[cellE b5 (aM.enc (s.get i.a)) 25,cellE b3 (bQ.enc kh) 37,cellE b2 (bQ.enc s) 37,cellE b1 (am.enc i) 36]) (fun c2=>[(0,.int .i64 c2)])) ?_ (fun c2 hi=>?_)
 ·skip
  refine zR5 ?_
  apply cj 3 29 32 (fun hT7 hT7'=>?_) ?_; rotate_right
  ·exact zE
  refine zR2 ?_
  refine af rfl (fun h8=>?_) (fun h8=>?_)
  ·refine zR4 ?_
   refine zz0 (ac rfl Tryz.call299 (fun w hw=>wv _ w)) (zR2 ?_)
   apply cE 4 36 40 (fun hF9 hF9'=>?_) ?_; rotate_right
   ·refine zR2 ?_
    refine zz5 hF9 (nP (n:=2147483648) rfl rfl) ?_
    exact zE
   refine zz0 (ae rfl) ?_
   apply cE 3 41 44 (fun hF10 hF10'=>?_) ?_; rotate_right
   ·refine zz5 hF10 (ae rfl) (zz5 hF10 (nP (n:=2147483648) rfl rfl) ?_)
    exact zE
   refine zR2 ?_
   refine af rfl (fun h11=>?_) (fun h11=>?_)
   ·refine zR3 ?_
    refine ad bQ rfl rfl aI ?_
    refine zR5 ?_
    refine d6 o8 rfl dY aI (fun w' hw=>?_)
    refine ⟨?_,hw.b0⟩
    rw [hrf]
    unfold oc
    (repeat' split) <;> first|(exfalso; first|(simp_all; done)|grind)|rfl
   refine oH (zz0 (aK (vs:=[(0,_),(1,_),(2,_),(3,_)]) rfl rfl (sE _ _ _ _)) ?_)
   refine bS Tryz.zeroValue319 rfl (fun b12=>?_)
   refine zz7 rfl rfl Tryz.sizeOf319 ?_
   refine zR4 ?_
   refine zz0 (dB rfl rfl) ?_
   refine zz0 (fX rfl rfl Tryz.underlying319 bL) ?_
   refine zz0 (eZ (v:=.int .i64 (c1+4)) rfl (by repeat constructor) iP (Nj (by assumption) (by simp))) (zR3 ?_)
   refine aQ _ (Front.c Front.nil) (zz9 18 rfl) (o:=(by show _=_; unfold oc; (repeat' split) <;> first|(exfalso; first|(simp_all; done)|grind)|rfl))
  refine zR2 ?_
  refine aQ _ (Front.c Front.nil) (zz9 4 rfl) (o:=(by show _=_; unfold oc; (repeat' split) <;> first|(exfalso; first|(simp_all; done)|grind)|rfl))
 skip
 have hi2:=hi
 refine fC (.of (ι:=VSet) (fun a1=>fJ c2 (s.get i.a) i.imm=a1) (fun _=>Bg.of w) (fun a1=>[cellE b5 (aM.enc a1) 25,cellE b3 (bQ.enc kh) 37,cellE b2 (bQ.enc s) 37,cellE b1 (am.enc i) 36]) (fun a1=>[])) ?_ (fun a1 hi=>?_)
 ·skip
  refine fu ?_
  refine af rfl (fun h13=>?_) (fun h13=>?_)
  ·refine fE 0 4 ak ?_
   refine aG (zT2 ?_)
   refine aB (ac rfl jq (fun w hw=>kr i.imm w)) ?_
   refine aB (ac rfl nJ (fun w hw=>ui (s.get i.a) _ w)) (eB ?_)
   refine ad aM rfl rfl ab ?_
   refine zR3 ?_
   refine aQ _ Front.nil (zz9 7 rfl) (o:=(by show _=_; unfold fJ; (repeat' split) <;> first|(exfalso; first|(simp_all; done)|grind)|rfl))
  refine zR6 ?_
  refine af rfl (fun h14=>?_) (fun h14=>?_)
  ·refine zR3 ?_
   refine zz0 (ac rfl Tryz.call301 (fun w hw=>C9 (s.get i.a) i.imm w)) ?_
   refine ad aM rfl rfl ab ?_
   refine zR3 ?_
   refine aQ _ Front.nil (zz9 8 rfl) (o:=(by show _=_; unfold fJ; (repeat' split) <;> first|(exfalso; first|(simp_all; done)|grind)|rfl))
  refine zR6 ?_
  refine af rfl (fun h15=>?_) (fun h15=>?_)
  ·refine bE (fE 0 5 ak ?_)
   refine aG (zT2 ?_)
   refine aB (gR (n:=1) rfl rfl) ?_
   refine aB (ac rfl dL (fun w hw=>dh 0 (i.imm - 1) 1 w)) ?_
   refine aB (ac rfl nJ (fun w hw=>ui (s.get i.a) _ w)) (eB ?_)
   refine ad aM rfl rfl ab ?_
   refine zR5 ?_
   refine zz0 (fb (n:=0) rfl rfl) (zR2 ?_)
   refine af rfl (fun h16=>?_) (fun h16=>?_)
   ·refine aP (zz0 (ac rfl j8 (fun w hw=>lu w)) ?_)
    refine ad aM rfl rfl ab ?_
    refine zR3 ?_
    refine aQ _ Front.nil (zz9 15 rfl) (o:=(by show _=_; unfold fJ; (repeat' split) <;> first|(exfalso; first|(simp_all; done)|grind)|rfl))
   refine zR3 ?_
   refine aQ _ Front.nil (zz9 14 rfl) (o:=(by show _=_; unfold fJ; (repeat' split) <;> first|(exfalso; first|(simp_all; done)|grind)|rfl))
  refine zR6 ?_
  refine af rfl (fun h17=>?_) (fun h17=>?_)
  ·refine fE 0 4 ak ?_
   refine aG (zT2 ?_)
   refine aB (ac rfl dL (fun w hw=>dh 0 i.imm 1 w)) ?_
   refine aB (ac rfl nJ (fun w hw=>ui (s.get i.a) _ w)) (eB ?_)
   refine ad aM rfl rfl ab ?_
   refine zR3 ?_
   refine aQ _ Front.nil (zz9 13 rfl) (o:=(by show _=_; unfold fJ; (repeat' split) <;> first|(exfalso; first|(simp_all; done)|grind)|rfl))
  refine zR6 ?_
  refine af rfl (fun h18=>?_) (fun h18=>?_)
  ·refine fE 0 4 ak ?_
   refine aG (zT2 ?_)
   refine aB (ac rfl dL (fun w hw=>dh i.imm 4294967295 1 w)) ?_
   refine aB (ac rfl nJ (fun w hw=>ui (s.get i.a) _ w)) (eB ?_)
   refine ad aM rfl rfl ab ?_
   refine zR3 ?_
   refine aQ _ Front.nil (zz9 15 rfl) (o:=(by show _=_; unfold fJ; (repeat' split) <;> first|(exfalso; first|(simp_all; done)|grind)|rfl))
  refine zR6 ?_
  refine af rfl (fun h19=>?_) (fun h19=>?_)
  ·refine bE (fE 0 5 ak ?_)
   refine aG (zT2 ?_)
   refine aB (gV (n:=1) rfl rfl) ?_
   refine aB (ac rfl dL (fun w hw=>dh (i.imm+1) 4294967295 1 w)) ?_
   refine aB (ac rfl nJ (fun w hw=>ui (s.get i.a) _ w)) (eB ?_)
   refine ad aM rfl rfl ab ?_
   refine zR5 ?_
   refine zz0 (fb (n:=4294967295) rfl rfl) (zR2 ?_)
   refine af rfl (fun h20=>?_) (fun h20=>?_)
   ·refine aP (zz0 (ac rfl j8 (fun w hw=>lu w)) ?_)
    refine ad aM rfl rfl ab ?_
    refine zR3 ?_
    refine aQ _ Front.nil (zz9 21 rfl) (o:=(by show _=_; unfold fJ; (repeat' split) <;> first|(exfalso; first|(simp_all; done)|grind)|rfl))
   refine zR3 ?_
   refine aQ _ Front.nil (zz9 20 rfl) (o:=(by show _=_; unfold fJ; (repeat' split) <;> first|(exfalso; first|(simp_all; done)|grind)|rfl))
  refine zR3 ?_
  refine aQ _ Front.nil (zz9 13 rfl) (o:=(by show _=_; unfold fJ; (repeat' split) <;> first|(exfalso; first|(simp_all; done)|grind)|rfl))
 skip
 have hi3:=hi
 refine zR6 ?_
 refine zz0 (fX rfl rfl bA ab) ?_
 refine ff rfl rfl ab (by repeat constructor) (mJ hA (by simp) _) (by rfl) (mL hA (by simp)) (by first|exact Enc.one aM _|exact List.all_eq_true.1 rfl) rfl (zR5 ?_)
 refine ad bQ rfl rfl aI ?_
 refine lD (jQ (d6 o8 rfl dY aI (fun w' hw=>?_)))
 refine ⟨?_,hw.b0⟩
 rw [hrf,hi2,hi3]
 rfl
end Go.Proofs.YtiajjbhcpeadfaaGreat
namespace Go.Proofs.YtiajjbhcpeadfaaGreat
open Go Go.HL Go.RowKit Go.Sort
theorem ud (a:UInt32) (w:World) :
  Cr Tryz.prog 151 #[.int .u32 a.toNat] w (.bool false):=by
 refine enter Tryz.func151 rfl Tryz.ntmps151 rfl (zR9 ?_)
 refine zz0 (iQ rfl rfl) (zR4 ?_)
 exact ah Tryz.results151 rfl fun w' hw=>⟨by simp,hw.b0⟩
theorem hZ (a b:UInt32) (w:World) :
  Cr Tryz.prog 260 #[.int .u32 a.toNat,.int .u32 b.toNat] w (.bool (ltW a b)):=by
 refine enter Tryz.func260 rfl Tryz.ntmps260 rfl (zR8 ?_)
 refine zz0 (ac rfl rq (fun w hw=>ud a w)) (zz0 (ae rfl) ?_)
 apply cj 4 7 11 (fun hT1 hT1'=>?_) ?_; rotate_right
 ·refine zz5 hT1 (ae rfl) (zz5 hT1 (ac rfl rq (fun w hw=>ud b w)) ?_)
  exact zE
 refine zz0 (ae rfl) ?_
 apply cE 4 12 16 (fun hF2 hF2'=>?_) ?_; rotate_right
 ·refine zR2 ?_
  refine zz5 hF2 (qy rfl rfl) ?_
  exact zE
 refine zR4 ?_
 exact ah Tryz.results260 rfl fun w' hw=>⟨by simp [ltW],hw.b0⟩
theorem zV (d:Array UInt32) (V:Value) (a:Nat) (b:Nat) (ai:Int) (bi:Int) (ea:ai=((a:Nat):Int)) (eb:bi=((b:Nat):Int)) (w:World) (hr:(rowE V 23 aa d.toList).holds w) (hd:d.size≤1000000) (hab:a≤b) (hb:b≤d.size) :
  Calls Tryz.prog 254 #[V,.int .i64 ai,.int .i64 bi] w (fun e w'=>e=.returned (.tuple #[])∧Mut w w' V∧(rowE V 23 aa (insertionSort ltW d a b).toList).holds w'):=by
 subst ea eb
 refine fy (l:=d.toList) (E:=aa) (T:=23) hr Tryz.func254 rfl Tryz.ntmps254 rfl (zR3 ?_)
 refine zz0 (aZ rfl rfl) (zR4 ?_)
 refine dO (ι:=Nat × Array UInt32) (fun ⟨i,cur⟩=>a+1≤i∧cur.size=d.size∧insOuter ltW a b i cur=insertionSort ltW d a b) (fun _=>_) (fun ⟨i,cur⟩=>[rowE V 23 aa cur.toList]) (fun ⟨i,cur⟩=>[(6,.int .i64 (i:Nat))]) (fun ⟨i,cur⟩=>b - i) (a+1,d) ⟨Nat.le_refl _,rfl,rfl⟩ (Front.c Front.nil) (fun i hi m hm=>?_)
 obtain ⟨i,cur⟩:=i
 dsimp only at hi hm
 change Tr _ _ [rowE V 23 aa cur.toList] ([(6,.int .i64 (i:Nat))] ++ _) _
 obtain ⟨hi1,hi2,hi3⟩:=hi
 have hcl:cur.toList.length=d.size:=by rw [Array.length_toList]; exact hi2
 refine zR8 ?_
 refine af rfl (fun h1=>?_) (fun h1=>?_)
 ·refine dy ?_
  refine dO (ι:=Nat × Array UInt32) (fun ⟨j,c2⟩=>j≤i∧c2.size=d.size∧insInner ltW a j c2=insInner ltW a i cur) (fun _=>_) (fun ⟨j,c2⟩=>[rowE V 23 aa c2.toList]) (fun ⟨j,c2⟩=>[(7,.int .i64 (j:Nat))]) (fun ⟨j,c2⟩=>j) (i,cur) ⟨Nat.le_refl _,hi2,rfl⟩ (Front.c Front.nil) (fun i hi m hm=>?_)
  obtain ⟨j,c2⟩:=i
  dsimp only at hi hm
  change Tr _ _ [rowE V 23 aa c2.toList] ([(7,.int .i64 (j:Nat))] ++ _) _
  obtain ⟨hj1,hj2,hj3⟩:=hi
  have ej:((j:Int) - 1).toNat=j - 1:=by omega
  have hc2:c2.toList.length=d.size:=by rw [Array.length_toList]; exact hj2
  refine bE (bE (ip ak (zT2 ?_)))
  refine aB (rD rfl rfl) (aB (ae rfl) ?_)
  apply eW
  ·exact (rfl:_=(11,19,30))
  ·exact rfl
  ·intro hT2; have hT2':=hT2
   try simp only [bs] at hT2'
   refine zT6 ?_
   refine eI hT2 (dB rfl rfl) (zT2 ?_)
   refine eI hT2 (ac rfl eV (fun w hw=>hZ (c2.toList.getD (j) default) (c2.toList.getD (((j:Int) - 1).toNat) default) w)) (aB (eY rfl hT2 rfl) ?_)
   exact cg (Sub.cons rfl (zz8 11 rfl))
  ·intro hF2
   refine Io ?_
   exact cg (Sub.cons rfl (zz8 11 rfl))
  refine zT2 ?_
  refine af rfl (fun h3=>?_) (fun h3=>?_)
  ·refine zR4 ?_
   refine fE 5 15 ak ?_
   refine dJ rfl ?_
   refine dJ rfl ?_
   refine dJ rfl ?_
   refine dJ rfl ?_
   refine gz (fun _=>dB rfl rfl) (by rfl) rfl ?_
   refine aG (zT2 ?_)
   refine aB (dB rfl rfl) (zT8 ?_)
   refine gg (l:=c2.toList) (i:=j) (c2.toList.getD (((j:Int) - 1).toNat) default) rfl rfl aj ?_
   have hls4:(List.set c2.toList (j) (c2.toList.getD (((j:Int) - 1).toNat) default)).length=(c2.toList).length:=List.length_set
   refine zz0 (kT rfl rfl) (gg (l:=(c2.toList.set (j) (c2.toList.getD (((j:Int) - 1).toNat) default))) (i:=((j:Int) - 1).toNat) (c2.toList.getD (j) default) rfl rfl aj ?_)
   have hls5:(List.set (c2.toList.set (j) (c2.toList.getD (((j:Int) - 1).toNat) default)) (((j:Int) - 1).toNat) (c2.toList.getD (j) default)).length=((c2.toList.set (j) (c2.toList.getD (((j:Int) - 1).toNat) default))).length:=List.length_set
   refine zR5 ?_
   refine zz0 (dB rfl rfl) (zR3 ?_)
   rw [ej,dl,dl,iV]
   refine bC (j - 1,_) (Front.c Front.nil) (zz9 25 rfl) (o:=⟨by omega,by rw [qH]; exact hj2,by rw [← hj3]; exact (wP (d:=c2) (a:=a) (j:=j) (by omega) (by have q:=h3.2; rw [dl,dl,ej] at q; exact q)).symm⟩)
  refine zR8 ?_
  refine zz0 (aZ rfl rfl) (zR3 ?_)
  have hst:insInner ltW a j c2=c2:=ua (by
   rcases h3 with q|q
   ·exact .inl (by omega)
   ·rw [dl,dl,ej] at q; exact .inr q)
  rw [hst] at hj3
  refine bC (i+1,c2) (Front.c Front.nil) (zz9 15 rfl) (o:=⟨by omega,hj2,by rw [hj3,← Ei (by omega)]; exact hi3⟩)
 refine zR4 ?_
 refine dH Tryz.results254 (fun w' hw=>?_)
 rw [Ej (by omega)] at hi3
 exact ⟨rfl,by rw [← hi3]; exact HpOK.mutOwn hw (.head _) rfl⟩
theorem Du (d:Array UInt32) (V:Value) (lo:Nat) (top:Nat) (f:Nat) (loi:Int) (topi:Int) (fi:Int) (elo:loi=((lo:Nat):Int)) (etop:topi=((top:Nat):Int)) (ef:fi=((f:Nat):Int)) (w:World) (hr:(rowE V 23 aa d.toList).holds w) (hd:d.size≤1000000) (hlo:lo≤1000000) (hb:f+top≤d.size) :
  Calls Tryz.prog 293 #[V,.int .i64 loi,.int .i64 topi,.int .i64 fi] w (fun e w'=>e=.returned (.tuple #[])∧Mut w w' V∧(rowE V 23 aa (siftDown ltW top f lo d).toList).holds w'):=by
 subst elo etop ef
 refine fy (l:=d.toList) (E:=aa) (T:=23) hr Tryz.func293 rfl Tryz.ntmps293 rfl (zR7 ?_)
 refine dO (ι:=Nat × Array UInt32) (fun ⟨r,cur⟩=>r≤1000000∧cur.size=d.size∧siftDown ltW top f r cur=siftDown ltW top f lo d) (fun _=>_) (fun ⟨r,cur⟩=>[rowE V 23 aa cur.toList]) (fun ⟨r,cur⟩=>[(8,.int .i64 (r:Nat))]) (fun ⟨r,cur⟩=>top - r) (lo,d) ⟨hlo,rfl,rfl⟩ (Front.c Front.nil) (fun i hi m hm=>?_)
 obtain ⟨r,cur⟩:=i
 dsimp only at hi hm
 change Tr _ _ [rowE V 23 aa cur.toList] ([(8,.int .i64 (r:Nat))] ++ _) _
 obtain ⟨hr1,hr2,hr3⟩:=hi
 have hcl:cur.toList.length=d.size:=by rw [Array.length_toList]; exact hr2
 refine zR4 ?_
 refine zz0 (kG rfl rfl (by omega)) ?_
 refine zz0 (aZ rfl rfl) (dy ?_)
 refine af rfl (fun h1=>?_) (fun h1=>?_)
 ·refine rz (qw (kb rfl (zR2 ?_)))
  refine dH Tryz.results293 (fun w' hw=>?_)
  rw [Dv (by omega)] at hr3
  exact ⟨rfl,by rw [← hr3]; exact HpOK.mutOwn hw (.head _) rfl⟩
 refine zR2 ?_
 refine fC (.of (ι:=Nat) (fun c=>(2 * r+1≤c∧c<top)∧siftDown ltW top f r cur=if ltW cur[f+r]! cur[f+c]! = true then siftDown ltW top f c (swp cur (f+r) (f+c)) else cur) (fun _=>Bg.less w V) (fun c=>[rowE V 23 aa cur.toList]) (fun c=>[(9,.int .i64 (c:Nat))])) ?_ (fun c hi=>?_)
 ·skip
  refine bE (ip ak (aB (ae rfl) ?_))
  refine aB (aZ rfl rfl) (zT3 ?_)
  apply eW
  ·exact (rfl:_=(15,21,36))
  ·exact rfl
  ·intro hT2; have hT2':=hT2
   try simp only [bs] at hT2'
   refine zT3 ?_
   refine eI hT2 (aZ rfl rfl) (zT5 ?_)
   refine eI hT2 (aZ rfl rfl) ?_
   refine eI hT2 (aZ rfl rfl) (zT2 ?_)
   refine eI hT2 (ac rfl eV (fun w hw=>hZ (cur.toList.getD (f+(2 * r+1)) default) (cur.toList.getD (f+(2 * r+1)+1) default) w)) (aB (eY rfl hT2 rfl) ?_)
   exact cg (Sub.cons rfl (zz8 15 rfl))
  ·intro hF2
   refine Qk ?_
   exact cg (Sub.cons rfl (zz8 15 rfl))
  refine zT2 ?_
  refine af rfl (fun h3=>?_) (fun h3=>?_)
  ·refine aP (zz0 (ae rfl) (zz0 (aZ rfl rfl) (zR3 ?_)))
   refine aQ (2 * r+2) (Front.c Front.nil) (zz9 9 rfl) (o:=⟨by omega,Kq (by omega) (by rw [← dl,← dl]; exact h3.2)⟩)
  refine zR2 ?_
  apply dI (2 * r+1)
  ·exact rfl
  ·exact (Front.c Front.nil)
  ·exact zz9 6 rfl
  ·exact (by repeat' constructor)
  exact ⟨by omega,Ks (by omega) (by
   rcases h3 with q|q
   ·exact .inl (by omega)
   ·exact .inr (by rw [← dl,← dl]; exact q))⟩
 skip
 obtain ⟨hc1,hc2⟩:=hi
 refine bE (bE (ip ak (zT3 ?_)))
 refine aB (aZ rfl rfl) (zT5 ?_)
 refine aB (aZ rfl rfl) (zT2 ?_)
 refine aB (ac rfl eV (fun w hw=>hZ (cur.toList.getD (f+r) default) (cur.toList.getD (f+c) default) w)) (zT3 ?_)
 refine af rfl (fun h4=>?_) (fun h4=>?_)
 ·refine zR5 ?_
  refine nj Tryz.results293 (fun w' hw=>?_)
  rw [if_neg (by rw [← dl,← dl]; simp_all)] at hc2
  exact ⟨rfl,by rw [← hr3,hc2]; exact HpOK.mutOwn hw (.head _) rfl⟩
 refine mG (bE (fE 8 21 ak ?_))
 refine dJ rfl ?_
 refine dJ rfl ?_
 refine dJ rfl ?_
 refine gz (fun _=>aZ rfl rfl) (by rfl) rfl ?_
 refine dJ rfl ?_
 refine dJ rfl ?_
 refine dJ rfl ?_
 refine gz (fun _=>aZ rfl rfl) (by rfl) rfl ?_
 refine aG (zT3 ?_)
 refine aB (aZ rfl rfl) (zT5 ?_)
 refine aB (aZ rfl rfl) (zT4 ?_)
 refine gg (l:=cur.toList) (i:=f+r) (cur.toList.getD (f+c) default) rfl rfl aj ?_
 have hls5:(List.set cur.toList (f+r) (cur.toList.getD (f+c) default)).length=(cur.toList).length:=List.length_set
 refine zz0 (kU rfl rfl) (gg (l:=(cur.toList.set (f+r) (cur.toList.getD (f+c) default))) (i:=f+c) (cur.toList.getD (f+r) default) rfl rfl aj ?_)
 have hls6:(List.set (cur.toList.set (f+r) (cur.toList.getD (f+c) default)) (f+c) (cur.toList.getD (f+r) default)).length=((cur.toList.set (f+r) (cur.toList.getD (f+c) default))).length:=List.length_set
 refine zR8 ?_
 rw [dl,dl,iV]
 have hst:=hc2
 rw [if_pos (by rw [← dl,← dl]; simp_all)] at hst
 refine bC (c,_) (Front.c Front.nil) (zz9 47 rfl) (o:=⟨by omega,by rw [qH]; exact hr2,by rw [← hr3]; exact hst.symm⟩)
theorem Lt (d:Array UInt32) (V:Value) (a:Nat) (b:Nat) (ai:Int) (bi:Int) (ea:ai=((a:Nat):Int)) (eb:bi=((b:Nat):Int)) (w:World) (hr:(rowE V 23 aa d.toList).holds w) (hd:d.size≤1000000) (hab:a<b) (hb:b≤d.size) :
  Calls Tryz.prog 255 #[V,.int .i64 ai,.int .i64 bi] w (fun e w'=>e=.returned (.tuple #[])∧Mut w w' V∧(rowE V 23 aa (heapSort ltW d a b).toList).holds w'):=by
 subst ea eb
 obtain ⟨n,hn⟩:∃ n,n=b - a:=⟨_,rfl⟩
 obtain ⟨d0,hd0⟩:∃ x,x=heapBuild ltW n a ((n - 1) / 2+1) d:=⟨_,rfl⟩
 have hhs:heapSort ltW d a b=heapPop ltW a n d0:=by rw [hd0,hn]; rfl
 refine fy (l:=d.toList) (E:=aa) (T:=23) hr Tryz.func255 rfl Tryz.ntmps255 rfl (qE ?_)
 refine zz0 (dB rfl rfl) (zR5 ?_)
 rw [show ((b:Nat):Int) - ((a:Nat):Int)=((n:Nat):Int) by omega]
 refine zR2 ?_
 refine zz0 (dB rfl rfl) ?_
 refine zz0 (rC rfl rfl (by omega)) (zR4 ?_)
 refine dO (ι:=Nat × Array UInt32) (fun ⟨k,cur⟩=>k≤(n - 1) / 2+1∧cur.size=d.size∧heapBuild ltW n a k cur=d0) (fun _=>_) (fun ⟨k,cur⟩=>[rowE V 23 aa cur.toList]) (fun ⟨k,cur⟩=>[(9,.int .i64 ((k:Int) - 1))]) (fun ⟨k,cur⟩=>k) ((n - 1) / 2+1,d) ⟨Nat.le_refl _,rfl,hd0.symm⟩ (Front.c Front.nil) (fun i hi m hm=>?_)
 obtain ⟨k,cur⟩:=i
 dsimp only at hi hm
 change Tr _ _ [rowE V 23 aa cur.toList] ([(9,.int .i64 ((k:Int) - 1))] ++ _) _
 obtain ⟨hk1,hk2,hk3⟩:=hi
 have hcl:cur.toList.length=d.size:=by rw [Array.length_toList]; exact hk2
 refine zR7 ?_
 refine af rfl (fun h1=>?_) (fun h1=>?_)
 ·refine zR9 ?_
  refine dz rfl Tryz.call293 (by repeat constructor) (fun w hw=>Du cur V (k - 1) n a _ _ _ (by omega) (by omega) (by omega) w (hw.ent _ (.head _)) (by omega) (by omega) (by omega)) rfl (zR5 ?_)
  refine zz0 (dB rfl rfl) (zR3 ?_)
  have hst:heapBuild ltW n a (k - 1) (siftDown ltW n a (k - 1) cur)=d0:=by
   obtain ⟨q,rfl⟩:∃ q,k=q+1:=⟨k - 1,by omega⟩
   exact hk3
  refine bC (k - 1,_) (Front.c Front.nil) (zz9 11 rfl) (o:=⟨by omega,by rw [OQ]; exact hk2,hst⟩)
 refine zR6 ?_
 obtain rfl:k=0:=by omega
 have hd1:cur=d0:=hk3
 subst hd1
 refine zR2 ?_
 refine zz0 (dB rfl rfl) (zR4 ?_)
 refine dO (ι:=Nat × Array UInt32) (fun ⟨k,cur⟩=>k≤n∧cur.size=d.size∧heapPop ltW a k cur=heapSort ltW d a b) (fun _=>_) (fun ⟨k,cur⟩=>[rowE V 23 aa cur.toList]) (fun ⟨k,cur⟩=>[(10,.int .i64 ((k:Int) - 1))]) (fun ⟨k,cur⟩=>k) (n,_) ⟨Nat.le_refl _,hk2,hhs.symm⟩ (Front.c Front.nil) (fun i hi m hm=>?_)
 obtain ⟨k,cur⟩:=i
 dsimp only at hi hm
 change Tr _ _ [rowE V 23 aa cur.toList] ([(10,.int .i64 ((k:Int) - 1))] ++ _) _
 obtain ⟨hk1,hk2,hk3⟩:=hi
 have hcl:cur.toList.length=d.size:=by rw [Array.length_toList]; exact hk2
 have ek:((a:Int)+((k:Int) - 1)).toNat=a+(k - 1)∨k=0:=by omega
 refine zR7 ?_
 refine af rfl (fun h2=>?_) (fun h2=>?_)
 ·refine zR5 ?_
  refine fE 6 17 ak ?_
  refine dJ rfl ?_
  refine dJ rfl ?_
  refine dJ rfl ?_
  refine dJ rfl ?_
  refine dJ rfl ?_
  refine gz (fun _=>aZ rfl rfl) (by rfl) rfl ?_
  refine aG (zT3 ?_)
  refine aB (aZ rfl rfl) (zT8 ?_)
  refine gg (l:=cur.toList) (i:=a) (cur.toList.getD (((a:Int)+((k:Int) - 1)).toNat) default) rfl rfl aj ?_
  have hls3:(List.set cur.toList (a) (cur.toList.getD (((a:Int)+((k:Int) - 1)).toNat) default)).length=(cur.toList).length:=List.length_set
  refine zz0 (kT rfl rfl) (gg (l:=(cur.toList.set (a) (cur.toList.getD (((a:Int)+((k:Int) - 1)).toNat) default))) (i:=((a:Int)+((k:Int) - 1)).toNat) (cur.toList.getD (a) default) rfl rfl aj ?_)
  have hls4:(List.set (cur.toList.set (a) (cur.toList.getD (((a:Int)+((k:Int) - 1)).toNat) default)) (((a:Int)+((k:Int) - 1)).toNat) (cur.toList.getD (a) default)).length=((cur.toList.set (a) (cur.toList.getD (((a:Int)+((k:Int) - 1)).toNat) default))).length:=List.length_set
  rw [ek.resolve_right (by omega),dl,dl,iV]
  refine zR7 ?_
  refine dz rfl Tryz.call293 (by repeat constructor) (fun w hw=>Du (swp cur a (a+(k - 1))) V 0 (k - 1) a _ _ _ (by omega) (by omega) (by omega) w (hw.ent _ (.head _)) (by rw [qH]; omega) (by omega) (by rw [qH]; omega)) rfl (zR5 ?_)
  refine zz0 (dB rfl rfl) (zR3 ?_)
  have hst:heapPop ltW a (k - 1) (siftDown ltW (k - 1) a 0 (swp cur a (a+(k - 1))))=heapSort ltW d a b:=by
   obtain ⟨q,rfl⟩:∃ q,k=q+1:=⟨k - 1,by omega⟩
   exact hk3
  refine bC (k - 1,_) (Front.c Front.nil) (zz9 29 rfl) (o:=⟨by omega,by rw [OQ,qH]; exact hk2,hst⟩)
 refine zR4 ?_
 refine dH Tryz.results255 (fun w' hw=>?_)
 obtain rfl:k=0:=by omega
 exact ⟨rfl,by rw [← hk3]; exact HpOK.mutOwn hw (.head _) rfl⟩
theorem DG (d:Array UInt32) (V:Value) (a:Nat) (b:Nat) (ai:Int) (bi:Int) (ea:ai=((a:Nat):Int)) (eb:bi=((b:Nat):Int)) (w:World) (hr:(rowE V 23 aa d.toList).holds w) (hd:d.size≤1000000) (hab:a<b) (hb:b≤d.size) :
  Calls Tryz.prog 258 #[V,.int .i64 ai,.int .i64 bi] w (fun e w'=>e=.returned (.tuple #[])∧Mut w w' V∧(rowE V 23 aa (reverseRange d a b).toList).holds w'):=by
 subst ea eb
 refine fy (l:=d.toList) (E:=aa) (T:=23) hr Tryz.func258 rfl Tryz.ntmps258 rfl (zR9 ?_)
 refine zz0 (dB rfl rfl) (zR4 ?_)
 refine dO (ι:=Nat × Nat × Array UInt32) (fun ⟨i,j,cur⟩=>(a≤i∧j<b)∧cur.size=d.size∧reverseLoop i j cur=reverseRange d a b) (fun _=>_) (fun ⟨i,j,cur⟩=>[rowE V 23 aa cur.toList]) (fun ⟨i,j,cur⟩=>[(6,.int .i64 (i:Nat)),(7,.int .i64 (j:Nat))]) (fun ⟨i,j,cur⟩=>j - i) (a,b - 1,d) ⟨⟨Nat.le_refl _,by omega⟩,rfl,rfl⟩ (Front.c (Front.c Front.nil)) (fun i hi m hm=>?_)
 obtain ⟨i,j,cur⟩:=i
 dsimp only at hi hm
 change Tr _ _ [rowE V 23 aa cur.toList] ([(6,.int .i64 (i:Nat)),(7,.int .i64 (j:Nat))] ++ _) _
 obtain ⟨hi1,hi2,hi3⟩:=hi
 have hcl:cur.toList.length=d.size:=by rw [Array.length_toList]; exact hi2
 refine zR8 ?_
 refine af rfl (fun h1=>?_) (fun h1=>?_)
 ·refine zR4 ?_
  refine fE 4 13 ak ?_
  refine dJ rfl ?_
  refine dJ rfl ?_
  refine dJ rfl ?_
  refine dJ rfl ?_
  refine aG (wJ ?_)
  refine gg (l:=cur.toList) (i:=i) (cur.toList.getD (j) default) rfl rfl aj ?_
  have hls2:(List.set cur.toList (i) (cur.toList.getD (j) default)).length=(cur.toList).length:=List.length_set
  refine zz0 (kU rfl rfl) (gg (l:=(cur.toList.set (i) (cur.toList.getD (j) default))) (i:=j) (cur.toList.getD (i) default) rfl rfl aj ?_)
  have hls3:(List.set (cur.toList.set (i) (cur.toList.getD (j) default)) (j) (cur.toList.getD (i) default)).length=((cur.toList.set (i) (cur.toList.getD (j) default))).length:=List.length_set
  refine zR5 ?_
  refine zz0 (aZ rfl rfl) (zR5 ?_)
  refine zz0 (dB rfl rfl) (zR4 ?_)
  rw [dl,dl,iV]
  refine bC (i+1,j - 1,_) (Front.c (Front.c Front.nil)) (zz9 25 rfl) (o:=⟨⟨by omega,by omega⟩,by rw [qH]; exact hi2,by rw [← O8 (by omega)]; exact hi3⟩)
 refine zR4 ?_
 refine dH Tryz.results258 (fun w' hw=>?_)
 rw [KE (by omega)] at hi3
 exact ⟨rfl,by rw [← hi3]; exact HpOK.mutOwn hw (.head _) rfl⟩
theorem zP (d:Array UInt32) (V:Value) (a:Nat) (b:Nat) (p:Nat) (ai:Int) (bi:Int) (pi:Int) (ea:ai=((a:Nat):Int)) (eb:bi=((b:Nat):Int)) (ep:pi=((p:Nat):Int)) (w:World) (hr:(rowE V 23 aa d.toList).holds w) (hd:d.size≤1000000) (hab:a+1<b) (hb:b≤d.size) (hp:p<b) :
  Calls Tryz.prog 262 #[V,.int .i64 ai,.int .i64 bi,.int .i64 pi] w (fun e w'=>e=.returned (.tuple #[.int .i64 ((partition ltW d a b p).1:Nat),.bool (partition ltW d a b p).2.1])∧Mut w w' V∧(rowE V 23 aa (partition ltW d a b p).2.2.toList).holds w'):=by
 subst ea eb ep
 obtain ⟨d1,hd1⟩:∃ x,x=swp d a p:=⟨_,rfl⟩
 have hs1:d1.size=d.size:=by rw [hd1,qH]
 have hl0:d.toList.length=d.size:=Array.length_toList
 have hl1:d1.toList.length=d.size:=by rw [Array.length_toList]; exact hs1
 obtain ⟨P,hP⟩:∃ P:UInt32→Bool,P=fun x=>ltW x d1[a]! := ⟨_,rfl⟩
 refine fy (l:=d.toList) (E:=aa) (T:=23) hr Tryz.func262 rfl Tryz.ntmps262 rfl (zR7 ?_)
 refine fE 4 13 ak ?_
 refine dJ rfl ?_
 refine dJ rfl ?_
 refine dJ rfl ?_
 refine dJ rfl ?_
 refine aG (wJ ?_)
 refine gg (l:=d.toList) (i:=a) (d.toList.getD (p) default) rfl rfl aj ?_
 have hls1:(List.set d.toList (a) (d.toList.getD (p) default)).length=(d.toList).length:=List.length_set
 refine zz0 (kU rfl rfl) (gg (l:=(d.toList.set (a) (d.toList.getD (p) default))) (i:=p) (d.toList.getD (a) default) rfl rfl aj ?_)
 have hls2:(List.set (d.toList.set (a) (d.toList.getD (p) default)) (p) (d.toList.getD (a) default)).length=((d.toList.set (a) (d.toList.getD (p) default))).length:=List.length_set
 rw [dl,dl,iV,← hd1]
 refine zR5 ?_
 refine zz0 (aZ rfl rfl) (zz0 (ae rfl) ?_)
 refine zz0 (dB rfl rfl) (zR6 ?_)
 refine ed (.of (ι:=Nat) (fun i=>a+1≤i∧i≤b∧scanUp (fun x=>ltW x d1[a]!) d1 (b - 1) i=scanUp (fun x=>ltW x d1[a]!) d1 (b - 1) (a+1)) (fun _=>_) (fun i=>[rowE V 23 aa d1.toList]) (fun i=>[(10,.int .i64 (i:Nat)),(11,.int .i64 ((b:Int) - 1))]) (fun i=>b - i)) (a+1) ⟨Nat.le_refl _,by omega,rfl⟩ (Front.c (Front.c Front.nil)) (fun i hi m hm=>?_)
 obtain ⟨hi1,hi2,hi3⟩:=hi
 refine bE (bE (ip ak (zT4 ?_)))
 apply eW
 ·exact (rfl:_=(10,33,43))
 ·exact rfl
 ·intro hT3; have hT3':=hT3
  try simp only [bs] at hT3'
  refine zT8 ?_
  refine eI hT3 (ac rfl eV (fun w hw=>hZ (d1.toList.getD (i) default) (d1.toList.getD (a) default) w)) (aB (eY rfl hT3 rfl) ?_)
  exact cg (Sub.cons rfl (zz8 10 rfl))
 ·intro hF3
  refine wJ ?_
  exact cg (Sub.cons rfl (zz8 10 rfl))
 refine zT2 ?_
 refine af rfl (fun h4=>?_) (fun h4=>?_)
 ·refine zR5 ?_
  refine zz0 (aZ rfl rfl) (zR4 ?_)
  refine bC (i+1) (Front.c (Front.c Front.nil)) (zz9 10 rfl) (o:=⟨by omega,by omega,by rw [← hi3]; exact (J4 (by omega) (by rw [← dl,← dl]; exact h4.2)).symm⟩)
 refine zR7 ?_
 refine ed (.of (ι:=Nat) (fun j=>j<b∧i≤j+1∧scanDown (fun x=>!ltW x d1[a]!) d1 i j=scanDown (fun x=>!ltW x d1[a]!) d1 i (b - 1)) (fun _=>_) (fun j=>[rowE V 23 aa d1.toList]) (fun j=>[(10,.int .i64 (i:Nat)),(11,.int .i64 (j:Nat))]) (fun j=>j)) (b - 1) ⟨by omega,by omega,rfl⟩ (Front.c (Front.c Front.nil)) (fun j hi m hm=>?_)
 obtain ⟨hj1,hj2,hj3⟩:=hi
 refine bE (bE (ip ak (zT4 ?_)))
 apply eW
 ·exact (rfl:_=(11,49,60))
 ·exact rfl
 ·intro hT5; have hT5':=hT5
  try simp only [bs] at hT5'
  refine zT8 ?_
  refine eI hT5 (ac rfl eV (fun w hw=>hZ (d1.toList.getD (j) default) (d1.toList.getD (a) default) w)) (zT2 ?_)
  exact cg (Sub.cons rfl (zz8 11 rfl))
 ·intro hF5
  refine Io ?_
  exact cg (Sub.cons rfl (zz8 11 rfl))
 refine zT2 ?_
 refine af rfl (fun h6=>?_) (fun h6=>?_)
 ·refine zR5 ?_
  refine zz0 (dB rfl rfl) (zR4 ?_)
  refine bC (j - 1) (Front.c (Front.c Front.nil)) (zz9 10 rfl) (o:=⟨by omega,by omega,by rw [← hj3]; exact (Cu (by omega) (by omega) (by rw [← dl,← dl]; simp_all)).symm⟩)
 refine zR7 ?_
 have hI:scanUp (fun x=>ltW x d1[a]!) d1 (b - 1) (a+1)=i:=by
  rw [← hi3]; exact BL (by
   rcases h4 with q|q
   ·exact .inl (by omega)
   ·exact .inr (by rw [← dl,← dl]; exact q))
 have hJ:scanDown (fun x=>!ltW x d1[a]!) d1 i (b - 1)=j:=by
  rw [← hj3]; exact vC (by
   rcases h6 with q|q
   ·exact .inl (by omega)
   ·exact .inr (by rw [← dl,← dl,q]; rfl))
 refine zR6 ?_
 refine af rfl (fun h7=>?_) (fun h7=>?_)
 ·refine bE (fE 4 13 ak ?_)
  refine dJ rfl ?_
  refine dJ rfl ?_
  refine dJ rfl ?_
  refine dJ rfl ?_
  refine aG (wJ ?_)
  refine gg (l:=d1.toList) (i:=j) (d1.toList.getD (a) default) rfl rfl aj ?_
  have hls8:(List.set d1.toList (j) (d1.toList.getD (a) default)).length=(d1.toList).length:=List.length_set
  refine zz0 (kU rfl rfl) (gg (l:=(d1.toList.set (j) (d1.toList.getD (a) default))) (i:=a) (d1.toList.getD (j) default) rfl rfl aj ?_)
  have hls9:(List.set (d1.toList.set (j) (d1.toList.getD (a) default)) (a) (d1.toList.getD (j) default)).length=((d1.toList.set (j) (d1.toList.getD (a) default))).length:=List.length_set
  rw [dl,dl,iV]
  refine dy ?_
  refine bV Tryz.results262 rfl rfl (fun w' hw=>?_)
  have hpt:partition ltW d a b p=(j,true,swp d1 j a):=by
   unfold partition; simp only [← hd1,hI,hJ]; rw [if_pos (by omega)]
  exact ⟨by rw [hpt],by rw [hpt]; exact HpOK.mutOwn hw (.head _) rfl⟩
 refine zR3 ?_
 have hij:i<j:=by
  rcases Nat.lt_or_ge i j with q|q
  ·exact q
  ·exfalso
   have e:i=j:=by omega
   rcases h4 with g1|g1
   ·omega
   ·rcases h6 with g2|g2
    ·omega
    ·rw [e,g2] at g1; cases g1
 refine fE 4 13 ak ?_
 refine dJ rfl ?_
 refine dJ rfl ?_
 refine dJ rfl ?_
 refine dJ rfl ?_
 refine aG (wJ ?_)
 refine gg (l:=d1.toList) (i:=i) (d1.toList.getD (j) default) rfl rfl aj ?_
 have hls10:(List.set d1.toList (i) (d1.toList.getD (j) default)).length=(d1.toList).length:=List.length_set
 refine zz0 (kU rfl rfl) (gg (l:=(d1.toList.set (i) (d1.toList.getD (j) default))) (i:=j) (d1.toList.getD (i) default) rfl rfl aj ?_)
 have hls11:(List.set (d1.toList.set (i) (d1.toList.getD (j) default)) (j) (d1.toList.getD (i) default)).length=((d1.toList.set (i) (d1.toList.getD (j) default))).length:=List.length_set
 rw [dl,dl,iV]
 refine zR5 ?_
 refine zz0 (aZ rfl rfl) (zR6 ?_)
 refine zz0 (dB rfl rfl) (zR5 ?_)
 refine dO (ι:=Nat × Nat × Array UInt32) (fun ⟨i3,j3,cur⟩=>(a+1≤i3∧i3≤j3+1∧j3<b)∧cur.size=d.size∧partLoop ltW a i3 j3 cur=partLoop ltW a (i+1) (j - 1) (swp d1 i j)) (fun _=>_) (fun ⟨i3,j3,cur⟩=>[rowE V 23 aa cur.toList]) (fun ⟨i3,j3,cur⟩=>[(10,.int .i64 (i3:Nat)),(11,.int .i64 (j3:Nat))]) (fun ⟨i3,j3,cur⟩=>j3+1 - i3) (i+1,j - 1,swp d1 i j) ⟨by omega,by rw [qH]; exact hs1,rfl⟩ (Front.c (Front.c Front.nil)) (fun i hi m hm=>?_)
 obtain ⟨i3,j3,cur⟩:=i
 dsimp only at hi hm
 change Tr _ _ [rowE V 23 aa cur.toList] ([(10,.int .i64 (i3:Nat)),(11,.int .i64 (j3:Nat))] ++ _) _
 obtain ⟨hk1,hk2,hk3⟩:=hi
 have hcl:cur.toList.length=d.size:=by rw [Array.length_toList]; exact hk2
 refine su (bE (su (ed (.of (ι:=Nat) (fun x=>i3≤x∧x≤j3+1∧scanUp (fun z=>ltW z cur[a]!) cur j3 x=scanUp (fun z=>ltW z cur[a]!) cur j3 i3) (fun _=>_) (fun x=>[rowE V 23 aa cur.toList]) (fun x=>[(10,.int .i64 (x:Nat)),(11,.int .i64 (j3:Nat))]) (fun x=>j3+1 - x)) i3 ⟨Nat.le_refl _,by omega,rfl⟩ (Front.c (Front.c Front.nil)) (fun x hi m hm=>?_))))
 obtain ⟨hx1,hx2,hx3⟩:=hi
 refine bE (bE (ip ak (zT4 ?_)))
 apply eW
 ·exact (rfl:_=(10,102,112))
 ·exact rfl
 ·intro hT12; have hT12':=hT12
  try simp only [bs] at hT12'
  refine zT8 ?_
  refine eI hT12 (ac rfl eV (fun w hw=>hZ (cur.toList.getD (x) default) (cur.toList.getD (a) default) w)) (aB (eY rfl hT12 rfl) ?_)
  exact cg (Sub.cons rfl (zz8 10 rfl))
 ·intro hF12
  refine wJ ?_
  exact cg (Sub.cons rfl (zz8 10 rfl))
 refine zT2 ?_
 refine af rfl (fun h13=>?_) (fun h13=>?_)
 ·refine zR5 ?_
  refine zz0 (aZ rfl rfl) (zR4 ?_)
  refine bC (x+1) (Front.c (Front.c Front.nil)) (zz9 10 rfl) (o:=⟨by omega,by omega,by rw [← hx3]; exact (J4 (by omega) (by rw [← dl,← dl]; simp_all)).symm⟩)
 refine zR7 ?_
 refine ed (.of (ι:=Nat) (fun y=>y≤j3∧x≤y+1∧scanDown (fun z=>!ltW z cur[a]!) cur x y=scanDown (fun z=>!ltW z cur[a]!) cur x j3) (fun _=>_) (fun y=>[rowE V 23 aa cur.toList]) (fun y=>[(10,.int .i64 (x:Nat)),(11,.int .i64 (y:Nat))]) (fun y=>y)) j3 ⟨Nat.le_refl _,by omega,rfl⟩ (Front.c (Front.c Front.nil)) (fun y hi m hm=>?_)
 obtain ⟨hy1,hy2,hy3⟩:=hi
 refine bE (bE (ip ak (zT4 ?_)))
 apply eW
 ·exact (rfl:_=(11,118,129))
 ·exact rfl
 ·intro hT14; have hT14':=hT14
  try simp only [bs] at hT14'
  refine zT8 ?_
  refine eI hT14 (ac rfl eV (fun w hw=>hZ (cur.toList.getD (y) default) (cur.toList.getD (a) default) w)) (zT2 ?_)
  exact cg (Sub.cons rfl (zz8 11 rfl))
 ·intro hF14
  refine Io ?_
  exact cg (Sub.cons rfl (zz8 11 rfl))
 refine zT2 ?_
 refine af rfl (fun h15=>?_) (fun h15=>?_)
 ·refine zR5 ?_
  refine zz0 (dB rfl rfl) (zR4 ?_)
  refine bC (y - 1) (Front.c (Front.c Front.nil)) (zz9 10 rfl) (o:=⟨by omega,by omega,by rw [← hy3]; exact (Cu (by omega) (by omega) (by rw [← dl,← dl]; simp_all)).symm⟩)
 refine zR7 ?_
 have hX:scanUp (fun z=>ltW z cur[a]!) cur j3 i3=x:=by
  rw [← hx3]; exact BL (by
   rcases h13 with q|q
   ·exact .inl (by omega)
   ·exact .inr (by rw [← dl,← dl]; exact q))
 have hY:scanDown (fun z=>!ltW z cur[a]!) cur x j3=y:=by
  rw [← hy3]; exact vC (by
   rcases h15 with q|q
   ·exact .inl (by omega)
   ·exact .inr (by rw [← dl,← dl,q]; rfl))
 refine zR6 ?_
 refine af rfl (fun h16=>?_) (fun h16=>?_)
 ·refine rz (qw (kb rfl (zR4 ?_)))
  refine fE 4 13 ak ?_
  refine dJ rfl ?_
  refine dJ rfl ?_
  refine dJ rfl ?_
  refine dJ rfl ?_
  refine aG (wJ ?_)
  refine gg (l:=cur.toList) (i:=y) (cur.toList.getD (a) default) rfl rfl aj ?_
  have hls17:(List.set cur.toList (y) (cur.toList.getD (a) default)).length=(cur.toList).length:=List.length_set
  refine zz0 (kU rfl rfl) (gg (l:=(cur.toList.set (y) (cur.toList.getD (a) default))) (i:=a) (cur.toList.getD (y) default) rfl rfl aj ?_)
  have hls18:(List.set (cur.toList.set (y) (cur.toList.getD (a) default)) (a) (cur.toList.getD (y) default)).length=((cur.toList.set (y) (cur.toList.getD (a) default))).length:=List.length_set
  rw [dl,dl,iV]
  refine df ?_
  refine bV Tryz.results262 rfl rfl (fun w' hw=>?_)
  have he:=KX hX hY (by omega)
  have hpt:partition ltW d a b p=(y,false,swp cur y a):=by
   unfold partition; simp only [← hd1,hI,hJ]; rw [if_neg (by omega),← hk3,he]
  exact ⟨by rw [hpt],by rw [hpt]; exact HpOK.mutOwn hw (.head _) rfl⟩
 refine zR3 ?_
 have hxy:x<y:=by
  rcases Nat.lt_or_ge x y with q|q
  ·exact q
  ·exfalso
   have e:x=y:=by omega
   rcases h13 with g1|g1
   ·omega
   ·rcases h15 with g2|g2
    ·omega
    ·rw [e,g2] at g1; cases g1
 refine fE 4 13 ak ?_
 refine dJ rfl ?_
 refine dJ rfl ?_
 refine dJ rfl ?_
 refine dJ rfl ?_
 refine aG (wJ ?_)
 refine gg (l:=cur.toList) (i:=x) (cur.toList.getD (y) default) rfl rfl aj ?_
 have hls19:(List.set cur.toList (x) (cur.toList.getD (y) default)).length=(cur.toList).length:=List.length_set
 refine zz0 (kU rfl rfl) (gg (l:=(cur.toList.set (x) (cur.toList.getD (y) default))) (i:=y) (cur.toList.getD (x) default) rfl rfl aj ?_)
 have hls20:(List.set (cur.toList.set (x) (cur.toList.getD (y) default)) (y) (cur.toList.getD (x) default)).length=((cur.toList.set (x) (cur.toList.getD (y) default))).length:=List.length_set
 refine zR5 ?_
 refine zz0 (aZ rfl rfl) (zR5 ?_)
 refine zz0 (dB rfl rfl) (zR4 ?_)
 rw [dl,dl,iV]
 refine bC (x+1,y - 1,_) (Front.c (Front.c Front.nil)) (zz9 39 rfl) (o:=⟨by omega,by rw [qH]; exact hk2,by rw [← hk3]; exact (DV hX hY hxy hx1 hy1).symm⟩)
theorem wO (d:Array UInt32) (V:Value) (a:Nat) (b:Nat) (p:Nat) (ai:Int) (bi:Int) (pi:Int) (ea:ai=((a:Nat):Int)) (eb:bi=((b:Nat):Int)) (ep:pi=((p:Nat):Int)) (w:World) (hr:(rowE V 23 aa d.toList).holds w) (hd:d.size≤1000000) (hab:a+1<b) (hb:b≤d.size) (hp:p<b) :
  Calls Tryz.prog 261 #[V,.int .i64 ai,.int .i64 bi,.int .i64 pi] w (fun e w'=>e=.returned (.int .i64 ((partitionEqual ltW d a b p).1:Nat))∧Mut w w' V∧(rowE V 23 aa (partitionEqual ltW d a b p).2.toList).holds w'):=by
 subst ea eb ep
 obtain ⟨d1,hd1⟩:∃ x,x=swp d a p:=⟨_,rfl⟩
 have hs1:d1.size=d.size:=by rw [hd1,qH]
 have hl0:d.toList.length=d.size:=Array.length_toList
 have hl1:d1.toList.length=d.size:=by rw [Array.length_toList]; exact hs1
 refine fy (l:=d.toList) (E:=aa) (T:=23) hr Tryz.func261 rfl Tryz.ntmps261 rfl (zR6 ?_)
 refine fE 4 13 ak ?_
 refine dJ rfl ?_
 refine dJ rfl ?_
 refine dJ rfl ?_
 refine dJ rfl ?_
 refine aG (wJ ?_)
 refine gg (l:=d.toList) (i:=a) (d.toList.getD (p) default) rfl rfl aj ?_
 have hls1:(List.set d.toList (a) (d.toList.getD (p) default)).length=(d.toList).length:=List.length_set
 refine zz0 (kU rfl rfl) (gg (l:=(d.toList.set (a) (d.toList.getD (p) default))) (i:=p) (d.toList.getD (a) default) rfl rfl aj ?_)
 have hls2:(List.set (d.toList.set (a) (d.toList.getD (p) default)) (p) (d.toList.getD (a) default)).length=((d.toList.set (a) (d.toList.getD (p) default))).length:=List.length_set
 rw [dl,dl,iV,← hd1]
 refine zR5 ?_
 refine zz0 (aZ rfl rfl) (zz0 (ae rfl) ?_)
 refine zz0 (dB rfl rfl) (zR6 ?_)
 refine dO (ι:=Nat × Nat × Array UInt32) (fun ⟨i3,j3,cur⟩=>(a+1≤i3∧i3≤j3+1∧j3<b)∧cur.size=d.size∧partEqLoop ltW a i3 j3 cur=partitionEqual ltW d a b p) (fun _=>_) (fun ⟨i3,j3,cur⟩=>[rowE V 23 aa cur.toList]) (fun ⟨i3,j3,cur⟩=>[(9,.int .i64 (i3:Nat)),(10,.int .i64 (j3:Nat))]) (fun ⟨i3,j3,cur⟩=>j3+1 - i3) (a+1,b - 1,d1) ⟨by omega,hs1,by rw [hd1]; rfl⟩ (Front.c (Front.c Front.nil)) (fun i hi m hm=>?_)
 obtain ⟨i3,j3,cur⟩:=i
 dsimp only at hi hm
 change Tr _ _ [rowE V 23 aa cur.toList] ([(9,.int .i64 (i3:Nat)),(10,.int .i64 (j3:Nat))] ++ _) _
 obtain ⟨hk1,hk2,hk3⟩:=hi
 have hcl:cur.toList.length=d.size:=by rw [Array.length_toList]; exact hk2
 refine su (bE (su (ed (.of (ι:=Nat) (fun x=>i3≤x∧x≤j3+1∧scanUp (fun z=>!ltW cur[a]! z) cur j3 x=scanUp (fun z=>!ltW cur[a]! z) cur j3 i3) (fun _=>_) (fun x=>[rowE V 23 aa cur.toList]) (fun x=>[(9,.int .i64 (x:Nat)),(10,.int .i64 (j3:Nat))]) (fun x=>j3+1 - x)) i3 ⟨Nat.le_refl _,by omega,rfl⟩ (Front.c (Front.c Front.nil)) (fun x hi m hm=>?_))))
 obtain ⟨hx1,hx2,hx3⟩:=hi
 refine bE (bE (ip ak (zT4 ?_)))
 apply eW
 ·exact (rfl:_=(11,32,43))
 ·exact rfl
 ·intro hT3; have hT3':=hT3
  try simp only [bs] at hT3'
  refine zT8 ?_
  refine eI hT3 (ac rfl eV (fun w hw=>hZ (cur.toList.getD (a) default) (cur.toList.getD (x) default) w)) (zT2 ?_)
  exact cg (Sub.cons rfl (zz8 11 rfl))
 ·intro hF3
  refine Io ?_
  exact cg (Sub.cons rfl (zz8 11 rfl))
 refine zT2 ?_
 refine af rfl (fun h4=>?_) (fun h4=>?_)
 ·refine zR5 ?_
  refine zz0 (aZ rfl rfl) (zR4 ?_)
  refine bC (x+1) (Front.c (Front.c Front.nil)) (zz9 10 rfl) (o:=⟨by omega,by omega,by rw [← hx3]; exact (J4 (by omega) (by rw [← dl,← dl]; simp_all)).symm⟩)
 refine zR7 ?_
 refine ed (.of (ι:=Nat) (fun y=>y≤j3∧x≤y+1∧scanDown (fun z=>ltW cur[a]! z) cur x y=scanDown (fun z=>ltW cur[a]! z) cur x j3) (fun _=>_) (fun y=>[rowE V 23 aa cur.toList]) (fun y=>[(9,.int .i64 (x:Nat)),(10,.int .i64 (y:Nat))]) (fun y=>y)) j3 ⟨Nat.le_refl _,by omega,rfl⟩ (Front.c (Front.c Front.nil)) (fun y hi m hm=>?_)
 obtain ⟨hy1,hy2,hy3⟩:=hi
 refine bE (bE (ip ak (zT4 ?_)))
 apply eW
 ·exact (rfl:_=(10,49,59))
 ·exact rfl
 ·intro hT5; have hT5':=hT5
  try simp only [bs] at hT5'
  refine zT8 ?_
  refine eI hT5 (ac rfl eV (fun w hw=>hZ (cur.toList.getD (a) default) (cur.toList.getD (y) default) w)) (aB (eY rfl hT5 rfl) ?_)
  exact cg (Sub.cons rfl (zz8 10 rfl))
 ·intro hF5
  refine wJ ?_
  exact cg (Sub.cons rfl (zz8 10 rfl))
 refine zT2 ?_
 refine af rfl (fun h6=>?_) (fun h6=>?_)
 ·refine zR5 ?_
  refine zz0 (dB rfl rfl) (zR4 ?_)
  refine bC (y - 1) (Front.c (Front.c Front.nil)) (zz9 10 rfl) (o:=⟨by omega,by omega,by rw [← hy3]; exact (Cu (by omega) (by omega) (by rw [← dl,← dl]; simp_all)).symm⟩)
 refine zR7 ?_
 have hX:scanUp (fun z=>!ltW cur[a]! z) cur j3 i3=x:=by
  rw [← hx3]; exact BL (by
   rcases h4 with q|q
   ·exact .inl (by omega)
   ·exact .inr (by rw [← dl,← dl,q]; rfl))
 have hY:scanDown (fun z=>ltW cur[a]! z) cur x j3=y:=by
  rw [← hy3]; exact vC (by
   rcases h6 with q|q
   ·exact .inl (by omega)
   ·exact .inr (by rw [← dl,← dl]; exact q))
 refine zR6 ?_
 refine af rfl (fun h7=>?_) (fun h7=>?_)
 ·refine rz (qw (kb rfl (df ?_)))
  refine ah Tryz.results261 rfl (fun w' hw=>?_)
  have he:=FR hX hY (by omega)
  rw [he] at hk3
  exact ⟨by rw [← hk3],by rw [← hk3]; exact HpOK.mutOwn hw (.head _) rfl⟩
 refine zR3 ?_
 have hxy:x<y:=by
  rcases Nat.lt_or_ge x y with q|q
  ·exact q
  ·exfalso
   have e:x=y:=by omega
   rcases h4 with g1|g1
   ·omega
   ·rcases h6 with g2|g2
    ·omega
    ·rw [e,g2] at g1; cases g1
 refine fE 4 13 ak ?_
 refine dJ rfl ?_
 refine dJ rfl ?_
 refine dJ rfl ?_
 refine dJ rfl ?_
 refine aG (wJ ?_)
 refine gg (l:=cur.toList) (i:=x) (cur.toList.getD (y) default) rfl rfl aj ?_
 have hls8:(List.set cur.toList (x) (cur.toList.getD (y) default)).length=(cur.toList).length:=List.length_set
 refine zz0 (kU rfl rfl) (gg (l:=(cur.toList.set (x) (cur.toList.getD (y) default))) (i:=y) (cur.toList.getD (x) default) rfl rfl aj ?_)
 have hls9:(List.set (cur.toList.set (x) (cur.toList.getD (y) default)) (y) (cur.toList.getD (x) default)).length=((cur.toList.set (x) (cur.toList.getD (y) default))).length:=List.length_set
 refine zR5 ?_
 refine zz0 (aZ rfl rfl) (zR5 ?_)
 refine zz0 (dB rfl rfl) (zR4 ?_)
 rw [dl,dl,iV]
 refine bC (x+1,y - 1,_) (Front.c (Front.c Front.nil)) (zz9 39 rfl) (o:=⟨by omega,by rw [qH]; exact hk2,by rw [← hk3]; exact (IZ hX hY hxy hx1 hy1).symm⟩)
theorem yd (d:Array UInt32) (V:Value) (a:Nat) (b:Nat) (ai:Int) (bi:Int) (ea:ai=((a:Nat):Int)) (eb:bi=((b:Nat):Int)) (w:World) (hr:(rowE V 23 aa d.toList).holds w) (hd:d.size≤1000000) (hab:a+1<b) (hb:b≤d.size) :
  Calls Tryz.prog 259 #[V,.int .i64 ai,.int .i64 bi] w (fun e w'=>e=.returned (.bool (partialInsertionSort ltW d a b).2)∧Mut w w' V∧(rowE V 23 aa (partialInsertionSort ltW d a b).1.toList).holds w'):=by
 subst ea eb
 refine fy (l:=d.toList) (E:=aa) (T:=23) hr Tryz.func259 rfl Tryz.ntmps259 rfl (zR8 ?_)
 refine zz0 (aZ rfl rfl) (df ?_)
 refine dO (ι:=Nat × Nat × Array UInt32) (fun ⟨s,i,cur⟩=>(s≤5∧a+1≤i∧i≤b)∧cur.size=d.size∧partialIns ltW a b (5 - s) i cur=partialInsertionSort ltW d a b) (fun _=>_) (fun ⟨s,i,cur⟩=>[rowE V 23 aa cur.toList]) (fun ⟨s,i,cur⟩=>[(8,.int .i64 (s:Nat)),(7,.int .i64 (i:Nat))]) (fun ⟨s,i,cur⟩=>5 - s) (0,a+1,d) ⟨by omega,rfl,rfl⟩ (Front.c (Front.c Front.nil)) (fun i hi m hm=>?_)
 obtain ⟨s,i,cur⟩:=i
 dsimp only at hi hm
 change Tr _ _ [rowE V 23 aa cur.toList] ([(8,.int .i64 (s:Nat)),(7,.int .i64 (i:Nat))] ++ _) _
 obtain ⟨hk1,hk2,hk3⟩:=hi
 have hcl:cur.toList.length=d.size:=by rw [Array.length_toList]; exact hk2
 refine zR7 ?_
 refine af rfl (fun h1=>?_) (fun h1=>?_)
 ·refine zR6 ?_
  refine ed (.of (ι:=Nat) (fun x=>i≤x∧x≤b∧scanSorted ltW cur b x=scanSorted ltW cur b i) (fun _=>_) (fun x=>[rowE V 23 aa cur.toList]) (fun x=>[(7,.int .i64 (x:Nat)),(8,.int .i64 (s:Nat))]) (fun x=>b - x)) i ⟨Nat.le_refl _,by omega,rfl⟩ (Front.c (Front.c Front.nil)) (fun x hi m hm=>?_)
  obtain ⟨hx1,hx2,hx3⟩:=hi
  have ex:((x:Int) - 1).toNat=x - 1:=by omega
  refine bE (bE (ip ak (zT4 ?_)))
  apply eW
  ·exact (rfl:_=(12,20,32))
  ·exact rfl
  ·intro hT2; have hT2':=hT2
   try simp only [bs] at hT2'
   refine zT6 ?_
   refine eI hT2 (dB rfl rfl) (zT2 ?_)
   refine eI hT2 (ac rfl eV (fun w hw=>hZ (cur.toList.getD (x) default) (cur.toList.getD (((x:Int) - 1).toNat) default) w)) (zT2 ?_)
   exact cg (Sub.cons rfl (zz8 12 rfl))
  ·intro hF2
   refine OZ ?_
   exact cg (Sub.cons rfl (zz8 12 rfl))
  refine zT2 ?_
  refine af rfl (fun h3=>?_) (fun h3=>?_)
  ·refine zR5 ?_
   refine zz0 (aZ rfl rfl) (zR4 ?_)
   refine bC (x+1) (Front.c (Front.c Front.nil)) (zz9 10 rfl) (o:=⟨by omega,by omega,by rw [← hx3]; exact (PY (by omega) (by rw [← dl,← dl,← ex]; simp_all)).symm⟩)
  refine zR7 ?_
  have hX:scanSorted ltW cur b i=x:=by
   rw [← hx3]; exact Nq (by
    rcases h3 with q|q
    ·exact .inl (by omega)
    ·exact .inr (by rw [← dl,← dl,← ex]; exact q))
  refine zR6 ?_
  refine af rfl (fun h4=>?_) (fun h4=>?_)
  ·refine fu ?_
   refine ah o9 rfl (fun w' hw=>?_)
   rw [show 5 - s=(4 - s)+1 by omega,FT hX (by omega)] at hk3
   exact ⟨by rw [← hk3],by rw [← hk3]; exact HpOK.mutOwn hw (.head _) rfl⟩
  refine zR7 ?_
  refine zz0 (dB rfl rfl) (zR3 ?_)
  refine af rfl (fun h5=>?_) (fun h5=>?_)
  ·refine fu ?_
   refine ah o9 rfl (fun w' hw=>?_)
   rw [show 5 - s=(4 - s)+1 by omega,Pf hX (by omega) (by omega)] at hk3
   exact ⟨by rw [← hk3],by rw [← hk3]; exact HpOK.mutOwn hw (.head _) rfl⟩
  refine mG (bE (fE 5 15 ak ?_))
  refine dJ rfl ?_
  refine dJ rfl ?_
  refine dJ rfl ?_
  refine dJ rfl ?_
  refine gz (fun _=>dB rfl rfl) (by rfl) rfl ?_
  refine aG (zT2 ?_)
  refine aB (dB rfl rfl) (zT8 ?_)
  refine gg (l:=cur.toList) (i:=x) (cur.toList.getD (((x:Int) - 1).toNat) default) rfl rfl aj ?_
  have hls6:(List.set cur.toList (x) (cur.toList.getD (((x:Int) - 1).toNat) default)).length=(cur.toList).length:=List.length_set
  refine zz0 (kT rfl rfl) (gg (l:=(cur.toList.set (x) (cur.toList.getD (((x:Int) - 1).toNat) default))) (i:=((x:Int) - 1).toNat) (cur.toList.getD (x) default) rfl rfl aj ?_)
  have hls7:(List.set (cur.toList.set (x) (cur.toList.getD (((x:Int) - 1).toNat) default)) (((x:Int) - 1).toNat) (cur.toList.getD (x) default)).length=((cur.toList.set (x) (cur.toList.getD (((x:Int) - 1).toNat) default))).length:=List.length_set
  rw [ex,dl,dl,iV]
  refine zR2 ?_
  refine fC (.of (ι:=Array UInt32) (fun d3=>d3.size=d.size∧d3=if x - a ≥ 2 then shiftDown ltW (x - 1) (swp cur x (x - 1)) else swp cur x (x - 1)) (fun _=>Bg.less w V) (fun d3=>[rowE V 23 aa d3.toList]) (fun d3=>[])) ?_ (fun d3 hi=>?_)
  ·skip
   refine zR4 ?_
   refine zz0 (dB rfl rfl) (zR3 ?_)
   refine af rfl (fun h8=>?_) (fun h8=>?_)
   ·refine zR3 ?_
    refine zz0 (dB rfl rfl) (zR4 ?_)
    refine dO (ι:=Nat × Array UInt32) (fun ⟨y,c3⟩=>y<x∧c3.size=d.size∧shiftDown ltW y c3=shiftDown ltW (x - 1) (swp cur x (x - 1))) (fun _=>_) (fun ⟨y,c3⟩=>[rowE V 23 aa c3.toList]) (fun ⟨y,c3⟩=>[(9,.int .i64 (y:Nat))]) (fun ⟨y,c3⟩=>y) (x - 1,_) ⟨by omega,by rw [qH]; exact hk2,rfl⟩ (Front.c Front.nil) (fun i hi m hm=>?_)
    obtain ⟨y,c3⟩:=i
    dsimp only at hi hm
    change Tr _ _ [rowE V 23 aa c3.toList] ([(9,.int .i64 (y:Nat))] ++ _) _
    obtain ⟨hy1,hy2,hy3⟩:=hi
    have ey:((y:Int) - 1).toNat=y - 1∨y=0:=by omega
    have hc3:c3.toList.length=d.size:=by rw [Array.length_toList]; exact hy2
    refine zR7 ?_
    refine af rfl (fun h9=>?_) (fun h9=>?_)
    ·refine zR6 ?_
     refine ip ak (zT6 ?_)
     refine aB (dB rfl rfl) (zT2 ?_)
     refine aB (ac rfl eV (fun w hw=>hZ (c3.toList.getD (y) default) (c3.toList.getD (((y:Int) - 1).toNat) default) w)) (zT3 ?_)
     refine af rfl (fun h10=>?_) (fun h10=>?_)
     ·refine rz (qw (kb rfl (zR4 ?_)))
      refine aQ c3 Front.nil (zz9 21 rfl) (o:=⟨hy2,by rw [if_pos (by omega),← hy3]; exact (Hq (by first|exact .inl (by omega)|exact .inr (by have e:=ey.resolve_right (by omega); rw [← dl,← dl,← e]; assumption))).symm⟩)
     refine mG (fE 5 15 ak ?_)
     refine dJ rfl ?_
     refine dJ rfl ?_
     refine dJ rfl ?_
     refine dJ rfl ?_
     refine gz (fun _=>dB rfl rfl) (by rfl) rfl ?_
     refine aG (zT2 ?_)
     refine aB (dB rfl rfl) (zT8 ?_)
     refine gg (l:=c3.toList) (i:=y) (c3.toList.getD (((y:Int) - 1).toNat) default) rfl rfl aj ?_
     have hls11:(List.set c3.toList (y) (c3.toList.getD (((y:Int) - 1).toNat) default)).length=(c3.toList).length:=List.length_set
     refine zz0 (kT rfl rfl) (gg (l:=(c3.toList.set (y) (c3.toList.getD (((y:Int) - 1).toNat) default))) (i:=((y:Int) - 1).toNat) (c3.toList.getD (y) default) rfl rfl aj ?_)
     have hls12:(List.set (c3.toList.set (y) (c3.toList.getD (((y:Int) - 1).toNat) default)) (((y:Int) - 1).toNat) (c3.toList.getD (y) default)).length=((c3.toList.set (y) (c3.toList.getD (((y:Int) - 1).toNat) default))).length:=List.length_set
     refine zR5 ?_
     refine zz0 (dB rfl rfl) (zR3 ?_)
     rw [ey.resolve_right (by omega),dl,dl,iV]
     refine bC (y - 1,_) (Front.c Front.nil) (zz9 33 rfl) (o:=⟨by omega,by rw [qH]; exact hy2,by rw [← hy3]; exact (PZ (by omega) (by have e:=ey.resolve_right (by omega); rw [← dl,← dl,← e]; assumption)).symm⟩)
    refine zR5 ?_
    refine aQ c3 Front.nil (zz9 10 rfl) (o:=⟨hy2,by rw [if_pos (by omega),← hy3]; exact (Hq (by first|exact .inl (by omega)|exact .inr (by have e:=ey.resolve_right (by omega); rw [← dl,← dl,← e]; assumption))).symm⟩)
   refine zR2 ?_
   refine aQ _ Front.nil (zz9 4 rfl) (o:=⟨by rw [qH]; exact hk2,by rw [if_neg (by omega)]⟩)
  skip
  have hd3:=hi
  have hl3:d3.toList.length=d.size:=by rw [Array.length_toList]; exact hi.1
  refine zR4 ?_
  refine zz0 (dB rfl rfl) (zR3 ?_)
  refine af rfl (fun h13=>?_) (fun h13=>?_)
  ·refine zR3 ?_
   refine zz0 (aZ rfl rfl) (zR4 ?_)
   refine dO (ι:=Nat × Array UInt32) (fun ⟨z,c4⟩=>x<z∧c4.size=d.size∧shiftUp ltW b z c4=shiftUp ltW b (x+1) d3) (fun _=>_) (fun ⟨z,c4⟩=>[rowE V 23 aa c4.toList]) (fun ⟨z,c4⟩=>[(10,.int .i64 (z:Nat))]) (fun ⟨z,c4⟩=>b - z) (x+1,d3) ⟨by omega,hd3.1,rfl⟩ (Front.c Front.nil) (fun i hi m hm=>?_)
   obtain ⟨z,c4⟩:=i
   dsimp only at hi hm
   change Tr _ _ [rowE V 23 aa c4.toList] ([(10,.int .i64 (z:Nat))] ++ _) _
   obtain ⟨hz1,hz2,hz3⟩:=hi
   have ez:((z:Int) - 1).toNat=z - 1:=by omega
   have hc4:c4.toList.length=d.size:=by rw [Array.length_toList]; exact hz2
   refine zR8 ?_
   refine af rfl (fun h14=>?_) (fun h14=>?_)
   ·refine zR6 ?_
    refine ip ak (zT6 ?_)
    refine aB (dB rfl rfl) (zT2 ?_)
    refine aB (ac rfl eV (fun w hw=>hZ (c4.toList.getD (z) default) (c4.toList.getD (((z:Int) - 1).toNat) default) w)) (zT3 ?_)
    refine af rfl (fun h15=>?_) (fun h15=>?_)
    ·refine rz (qw (kb rfl (zR7 ?_)))
     refine zz0 (aZ rfl rfl) (zR3 ?_)
     refine bC (s+1,x,c4) (Front.c (Front.c Front.nil)) (zz9 59 rfl) (o:=⟨by omega,hz2,by rw [← hk3,show 5 - s=(5 - (s+1))+1 by omega]; exact (vc hX (by omega) (by omega) hd3.2 (by rw [if_pos (by omega),← hz3]; exact (Hg (by first|exact .inl (by omega)|exact .inr (by rw [← dl,← dl,← ez]; assumption))).symm)).symm⟩)
    refine mG (fE 5 15 ak ?_)
    refine dJ rfl ?_
    refine dJ rfl ?_
    refine dJ rfl ?_
    refine dJ rfl ?_
    refine gz (fun _=>dB rfl rfl) (by rfl) rfl ?_
    refine aG (zT2 ?_)
    refine aB (dB rfl rfl) (zT8 ?_)
    refine gg (l:=c4.toList) (i:=z) (c4.toList.getD (((z:Int) - 1).toNat) default) rfl rfl aj ?_
    have hls16:(List.set c4.toList (z) (c4.toList.getD (((z:Int) - 1).toNat) default)).length=(c4.toList).length:=List.length_set
    refine zz0 (kT rfl rfl) (gg (l:=(c4.toList.set (z) (c4.toList.getD (((z:Int) - 1).toNat) default))) (i:=((z:Int) - 1).toNat) (c4.toList.getD (z) default) rfl rfl aj ?_)
    have hls17:(List.set (c4.toList.set (z) (c4.toList.getD (((z:Int) - 1).toNat) default)) (((z:Int) - 1).toNat) (c4.toList.getD (z) default)).length=((c4.toList.set (z) (c4.toList.getD (((z:Int) - 1).toNat) default))).length:=List.length_set
    refine zR5 ?_
    refine zz0 (aZ rfl rfl) (zR3 ?_)
    rw [ez,dl,dl,iV]
    refine bC (z+1,_) (Front.c Front.nil) (zz9 34 rfl) (o:=⟨by omega,by rw [qH]; exact hz2,by rw [← hz3]; exact (PX (by omega) (by rw [← dl,← dl,← ez]; assumption)).symm⟩)
   refine zR8 ?_
   refine zz0 (aZ rfl rfl) (zR3 ?_)
   refine bC (s+1,x,c4) (Front.c (Front.c Front.nil)) (zz9 48 rfl) (o:=⟨by omega,hz2,by rw [← hk3,show 5 - s=(5 - (s+1))+1 by omega]; exact (vc hX (by omega) (by omega) hd3.2 (by rw [if_pos (by omega),← hz3]; exact (Hg (by first|exact .inl (by omega)|exact .inr (by rw [← dl,← dl,← ez]; assumption))).symm)).symm⟩)
  refine zR5 ?_
  refine zz0 (aZ rfl rfl) (zR3 ?_)
  refine bC (s+1,x,d3) (Front.c (Front.c Front.nil)) (zz9 41 rfl) (o:=⟨by omega,hd3.1,by rw [← hk3,show 5 - s=(5 - (s+1))+1 by omega]; exact (vc hX (by omega) (by omega) hd3.2 (by rw [if_neg (by omega)])).symm⟩)
 refine dy ?_
 refine ah o9 rfl (fun w' hw=>?_)
 obtain rfl:s=5:=by omega
 have hk4:(cur,false)=partialInsertionSort ltW d a b:=hk3
 exact ⟨by rw [← hk4],by rw [← hk4]; exact HpOK.mutOwn hw (.head _) rfl⟩
end Go.Proofs.YtiajjbhcpeadfaaGreat
namespace Go.Proofs.YtiajjbhcpeadfaaGreat
open Go Go.HL Go.RowKit Go.Sort
theorem NU (x:Nat) (hx:x<4294967296) (w:World) :
  Cr Tryz.prog 209 #[.int .u64 (x:Nat)] w (.int .i64 (bitsLen x:Nat)):=by
 refine enter Tryz.func209 rfl Tryz.ntmps209 rfl (fu ?_)
 refine dw rfl ?_ ?_ <;> intro h1 <;> try simp only [bs] at h1
 ·first|contradiction|(exfalso; omega)|simp_all
 refine zR2 ?_
 refine ga (ι:=Nat × Nat) (fun ⟨y,n⟩=>y<65536∧n≤16∧bitsLen x=n+bitsLen y) (fun _=>Bg.of w) (fun ⟨y,n⟩=>[]) (fun ⟨y,n⟩=>[(0,.int .u64 (y:Nat)),(2,.int .i64 (n:Nat))]) ?_ (fun i hi=>?_)
 ·skip
  refine zR6 ?_
  refine af rfl (fun h2=>?_) (fun h2=>?_)
  ·refine zR3 ?_
   refine zz0 (If 16 rfl rfl (by decide)) (zR5 ?_)
   refine zz0 (aZ rfl rfl) (zR3 ?_)
   refine aQ (x / 2 ^ 16,16) (Front.c (Front.c Front.nil)) (zz9 8 rfl) (o:=⟨by omega,by omega,P7 (by omega)⟩)
  refine zR2 ?_
  refine aQ (x,0) (Front.c (Front.c Front.nil)) (zz9 2 rfl) (o:=⟨by omega,by omega,by omega⟩)
 obtain ⟨y,n⟩:=i
 replace hi:y<65536∧n≤16∧bitsLen x=n+bitsLen y:=hi
 change Tr _ _ [] ([(0,.int .u64 (y:Nat)),(2,.int .i64 (n:Nat))] ++ _) _
 obtain ⟨hy1,hy2,hy3⟩:=hi
 refine ga (ι:=Nat × Nat) (fun ⟨z,k⟩=>z<256∧k≤24∧bitsLen x=k+bitsLen z) (fun _=>Bg.of w) (fun ⟨z,k⟩=>[]) (fun ⟨z,k⟩=>[(0,.int .u64 (z:Nat)),(2,.int .i64 (k:Nat))]) ?_ (fun i hi=>?_)
 ·skip
  refine zR6 ?_
  refine af rfl (fun h3=>?_) (fun h3=>?_)
  ·refine zR3 ?_
   refine zz0 (If 8 rfl rfl (by decide)) (zR5 ?_)
   refine zz0 (aZ rfl rfl) (zR3 ?_)
   refine aQ (y / 2 ^ 8,n+8) (Front.c (Front.c Front.nil)) (zz9 8 rfl) (o:=⟨by omega,by omega,by have:=len8 (x:=y) (by omega); omega⟩)
  refine zR2 ?_
  refine aQ (y,n) (Front.c (Front.c Front.nil)) (zz9 2 rfl) (o:=⟨by omega,by omega,by omega⟩)
 obtain ⟨z,k⟩:=i
 replace hi:z<256∧k≤24∧bitsLen x=k+bitsLen z:=hi
 change Tr _ _ [] ([(0,.int .u64 (z:Nat)),(2,.int .i64 (k:Nat))] ++ _) _
 obtain ⟨hz1,hz2,hz3⟩:=hi
 have hz8:=Bn hz1
 refine zR4 ?_
 refine zz0 (dQ rfl aO aU (by rw [IntKind.wrap_u8]; omega)) ?_
 refine zz0 (JP rfl rfl iM (by kernel_rfl) (by omega)) ?_
 refine zz0 (dQ rfl aU ax (IntWalk.i64_in _ (by omega))) ?_
 refine zz0 (aZ rfl rfl) (zR4 ?_)
 exact ah Tryz.results209 rfl fun w' hw=>⟨by rw [hz3]; simp,hw.b0⟩
theorem P6 (x:Nat) (xi:Int) (ex:xi=((x:Nat):Int)) (hx:x<4294967296) (w:World) :
  Cr Tryz.prog 150 #[.int .u64 xi] w (.int .i64 (bitsLen x:Nat)):=by
 subst ex
 refine enter Tryz.func150 rfl Tryz.ntmps150 rfl (zR6 ?_)
 refine dw rfl ?_ ?_ <;> intro h1 <;> try simp only [bs] at h1
 ·first|contradiction|(exfalso; omega)|simp_all
 refine zR5 ?_
 refine zz0 (ac rfl Tryz.call209 (fun w hw=>NU x hx w)) (zR4 ?_)
 exact ah Tryz.results150 rfl fun w' hw=>⟨rfl,hw.b0⟩
theorem I3 (n:Nat) (ni:Int) (en:ni=((n:Nat):Int)) (hn:n≤1000000) (w:World) :
  Cr Tryz.prog 265 #[.int .i64 ni] w (.int .u64 ((1 <<< bitsLen n:Nat):Int)):=by
 subst en
 have hb:bitsLen n≤20:=(bitsLen_le_iff n 20).2 (by omega)
 refine enter Tryz.func265 rfl Tryz.ntmps265 rfl (zR8 ?_)
 refine zz0 (dQ rfl ax dq (IntWalk.u64_in _ (by omega))) ?_
 refine zz0 (ac rfl Tryz.call150 (fun w hw=>P6 n _ rfl (by omega) w)) ?_
 refine zz0 (JK rfl rfl (by omega)) (zR4 ?_)
 exact ah Tryz.results265 rfl fun w' hw=>⟨rfl,hw.b0⟩
theorem Pk (r:UInt64) (bs:Nat) (w:World) (ho:OwnAt w [cellE bs [.int .u64 ((r).toNat:Int)] 292]) :
  Calls Tryz.prog 266 #[.pointer (some ⟨bs,0,none⟩)] w (fun e w'=>∃ i:Unit,e=.returned (.int .u64 ((xorNext r).toNat:Nat))∧Upd w.drawn w w' (aT [cellE bs [.int .u64 ((r).toNat:Int)] 292]) ([cellE bs [.int .u64 ((xorNext r).toNat:Int)] 292])∧True):=by
 refine iW (L:=[cellE bs [.int .u64 ((r).toNat:Int)] 292]) ho rfl (Nat.le_refl _) Tryz.func266 rfl Tryz.ntmps266 rfl (zR6 ?_)
 refine fE 0 9 ak ?_
 refine aG (zT6 ?_)
 refine aB (Fh 13 rfl rfl (by decide)) ?_
 refine aB (zp rfl rfl) (zT2 ?_)
 refine zz7 rfl rfl na ?_
 refine zR3 ?_
 refine fE 0 9 ak ?_
 refine aG (zT6 ?_)
 refine aB (M3 7 rfl rfl (by decide)) ?_
 refine aB (zp rfl rfl) (zT2 ?_)
 refine zz7 rfl rfl na ?_
 refine zR3 ?_
 refine fE 0 9 ak ?_
 refine aG (zT6 ?_)
 refine aB (Fh 17 rfl rfl (by decide)) ?_
 refine aB (zp rfl rfl) (zT2 ?_)
 refine zz7 rfl rfl na ?_
 refine dy ?_
 exact ah Tryz.results266 rfl fun w' hw=>⟨(),rfl,hw.upd (Bg.le.refl _) (by repeat' constructor),trivial⟩
theorem tw (d:Array UInt32) (V:Value) (bs:Nat) (a b s:Nat) (ai bi:Int) (ea:ai=((a:Nat):Int)) (eb:bi=((b:Nat):Int)) (w:World) (ho:OwnAt w [rowE V 23 aa d.toList,cellE bs [.int .i64 ((s:Nat):Int)] 3]) (hd:d.size≤1000000) (ha:a<d.size) (hb:b<d.size) (hs:s≤100:=by omega) :
  Calls Tryz.prog 323 #[V,.int .i64 ai,.int .i64 bi,.pointer (some ⟨bs,0,none⟩)] w (fun e w'=>∃ i:Nat × Nat × Nat,e=.returned ((fun i:Nat × Nat × Nat=>.tuple #[.int .i64 (i.1:Nat),.int .i64 (i.2.1:Nat)]) i)∧Upd w.drawn w w' (aT [rowE V 23 aa d.toList,cellE bs [.int .i64 ((s:Nat):Int)] 3]) ([rowE V 23 aa d.toList,cellE bs [.int .i64 (i.2.2:Nat)] 3])∧i=order2 ltW d a b s):=by
 subst ea eb
 have hdl:d.toList.length=d.size:=Array.length_toList
 refine iW (L:=[rowE V 23 aa d.toList,cellE bs [.int .i64 ((s:Nat):Int)] 3]) ho rfl (Nat.le_refl _) Tryz.func323 rfl Tryz.ntmps323 rfl (zR8 ?_)
 refine ip ak (zT8 ?_)
 refine aB (ac rfl eV (fun w hw=>hZ (d.toList.getD (b) default) (d.toList.getD (a) default) w)) (zT2 ?_)
 refine af rfl (fun h1=>?_) (fun h1=>?_)
 ·refine zR5 ?_
  refine zz0 (aZ rfl rfl) (zz0 (aA rfl) ?_)
  refine ka rfl rfl bL (by repeat constructor) (by rfl) (by rfl) (by first|exact List.all_eq_true.1 rfl|exact Enc.one _ _|exact Enc.one aN _|(intro u hu; simp [Value.cells] at hu; simp_all [Value.oneCell'])) rfl (fu ?_)
  refine bV Tryz.results323 rfl rfl (fun w' hw=>?_)
  refine ⟨(b,a,s+1),rfl,hw.upd (Bg.le.refl _) (by repeat' constructor),?_⟩
  unfold order2
  rw [if_pos (by rw [← dl,← dl]; simp_all)]
 refine dy ?_
 refine bV Tryz.results323 rfl rfl (fun w' hw=>?_)
 refine ⟨(a,b,s),rfl,hw.upd (Bg.le.refl _) (by repeat' constructor),?_⟩
 unfold order2
 rw [if_neg (by rw [← dl,← dl]; simp_all)]
theorem yv (d:Array UInt32) (V:Value) (bs:Nat) (a b c s:Nat) (ai bi ci:Int) (ea:ai=((a:Nat):Int)) (eb:bi=((b:Nat):Int)) (ec:ci=((c:Nat):Int)) (w:World) (ho:OwnAt w [rowE V 23 aa d.toList,cellE bs [.int .i64 ((s:Nat):Int)] 3]) (hd:d.size≤1000000) (ha:a<d.size) (hb:b<d.size) (hc:c<d.size) (hs:s≤90:=by omega) :
  Calls Tryz.prog 295 #[V,.int .i64 ai,.int .i64 bi,.int .i64 ci,.pointer (some ⟨bs,0,none⟩)] w (fun e w'=>∃ i:Nat × Nat,e=.returned ((fun i:Nat × Nat=>.int .i64 (i.1:Nat)) i)∧Upd w.drawn w w' (aT [rowE V 23 aa d.toList,cellE bs [.int .i64 ((s:Nat):Int)] 3]) ([rowE V 23 aa d.toList,cellE bs [.int .i64 (i.2:Nat)] 3])∧i=median ltW d a b c s):=by
 subst ea eb ec
 refine iW (L:=[rowE V 23 aa d.toList,cellE bs [.int .i64 ((s:Nat):Int)] 3]) ho rfl (Nat.le_refl _) Tryz.func295 rfl Tryz.ntmps295 rfl (dy ?_)
 refine db (fun i:Nat × Nat × Nat=>.tuple #[.int .i64 (i.1:Nat),.int .i64 (i.2.1:Nat)]) [rowE V 23 aa d.toList,cellE bs [.int .i64 ((s:Nat):Int)] 3] (fun i:Nat × Nat × Nat=>[rowE V 23 aa d.toList,cellE bs [.int .i64 (i.2.2:Nat)] 3]) (ok:=fun i=>i=order2 ltW d a b s) (dd:=fun w=>w.drawn) rfl Tryz.call323 (by repeat' constructor) (fun w hw=>hw.dr) (fun w hw=>tw d V bs a b s _ _ rfl rfl w (hw.own (by repeat' constructor)) hd (by omega) (by omega)) rfl (fun p hp=>?_)
 obtain ⟨bp1,bp2,bp3⟩:=vd hp (n:=d.size) (by omega) (by omega)
 obtain ⟨x1,y1,s1⟩:=p
 dsimp only at bp1 bp2 bp3
 change Tr _ _ [rowE V 23 aa d.toList,cellE bs [.int .i64 ((s1:Nat):Int)] 3] _ _
 refine jz ?_
 refine db (fun i:Nat × Nat × Nat=>.tuple #[.int .i64 (i.1:Nat),.int .i64 (i.2.1:Nat)]) [rowE V 23 aa d.toList,cellE bs [.int .i64 ((s1:Nat):Int)] 3] (fun i:Nat × Nat × Nat=>[rowE V 23 aa d.toList,cellE bs [.int .i64 (i.2.2:Nat)] 3]) (ok:=fun i=>i=order2 ltW d y1 c s1) (dd:=fun w=>w.drawn) rfl Tryz.call323 (by repeat' constructor) (fun w hw=>hw.dr) (fun w hw=>tw d V bs y1 c s1 _ _ rfl rfl w (hw.own (by repeat' constructor)) hd (by omega) (by omega)) rfl (fun q hq=>?_)
 obtain ⟨bq1,bq2,bq3⟩:=vd hq (n:=d.size) (by omega) (by omega)
 obtain ⟨x2,y2,s2⟩:=q
 dsimp only at bq1 bq2 bq3
 change Tr _ _ [rowE V 23 aa d.toList,cellE bs [.int .i64 ((s2:Nat):Int)] 3] _ _
 refine jz ?_
 refine db (fun i:Nat × Nat × Nat=>.tuple #[.int .i64 (i.1:Nat),.int .i64 (i.2.1:Nat)]) [rowE V 23 aa d.toList,cellE bs [.int .i64 ((s2:Nat):Int)] 3] (fun i:Nat × Nat × Nat=>[rowE V 23 aa d.toList,cellE bs [.int .i64 (i.2.2:Nat)] 3]) (ok:=fun i=>i=order2 ltW d x1 x2 s2) (dd:=fun w=>w.drawn) rfl Tryz.call323 (by repeat' constructor) (fun w hw=>hw.dr) (fun w hw=>tw d V bs x1 x2 s2 _ _ rfl rfl w (hw.own (by repeat' constructor)) hd (by omega) (by omega)) rfl (fun r hr=>?_)
 obtain ⟨br1,br2,br3⟩:=vd hr (n:=d.size) (by omega) (by omega)
 obtain ⟨x3,y3,s3⟩:=r
 dsimp only at br1 br2 br3
 change Tr _ _ [rowE V 23 aa d.toList,cellE bs [.int .i64 ((s3:Nat):Int)] 3] _ _
 refine lN ?_
 exact ah Tryz.results295 rfl fun w' hw=>⟨(y3,s3),rfl,hw.upd (Bg.le.refl _) (by repeat' constructor),by unfold median; simp only []; rw [← hp]; dsimp only; rw [← hq]; dsimp only; rw [← hr]⟩
theorem CP (d:Array UInt32) (V:Value) (bs:Nat) (a s:Nat) (ai:Int) (ea:ai=((a:Nat):Int)) (w:World) (ho:OwnAt w [rowE V 23 aa d.toList,cellE bs [.int .i64 ((s:Nat):Int)] 3]) (hd:d.size≤1000000) (ha:a+1<d.size) (h1:1≤a) (hs:s≤80:=by omega) :
  Calls Tryz.prog 294 #[V,.int .i64 ai,.pointer (some ⟨bs,0,none⟩)] w (fun e w'=>∃ i:Nat × Nat,e=.returned ((fun i:Nat × Nat=>.int .i64 (i.1:Nat)) i)∧Upd w.drawn w w' (aT [rowE V 23 aa d.toList,cellE bs [.int .i64 ((s:Nat):Int)] 3]) ([rowE V 23 aa d.toList,cellE bs [.int .i64 (i.2:Nat)] 3])∧i=medianAdjacent ltW d a s):=by
 subst ea
 refine iW (L:=[rowE V 23 aa d.toList,cellE bs [.int .i64 ((s:Nat):Int)] 3]) ho rfl (Nat.le_refl _) Tryz.func294 rfl Tryz.ntmps294 rfl (zR9 ?_)
 refine zz0 (dB rfl rfl) (zR2 ?_)
 refine zz0 (aZ rfl rfl) (zz0 (ae rfl) ?_)
 refine db (fun i:Nat × Nat=>.int .i64 (i.1:Nat)) [rowE V 23 aa d.toList,cellE bs [.int .i64 ((s:Nat):Int)] 3] (fun i:Nat × Nat=>[rowE V 23 aa d.toList,cellE bs [.int .i64 (i.2:Nat)] 3]) (ok:=fun zz=>zz=median ltW d (a - 1) a (a+1) s) (dd:=fun w=>w.drawn) rfl Tryz.call295 (by repeat' constructor) (fun w hw=>hw.dr) (fun w hw=>yv d V bs (a - 1) a (a+1) s _ _ _ (by omega) (by omega) (by omega) w (hw.own (by repeat' constructor)) hd (by omega) (by omega) (by omega)) rfl (fun p hp=>?_)
 obtain ⟨x,s1⟩:=p
 change Tr _ _ [rowE V 23 aa d.toList,cellE bs [.int .i64 ((s1:Nat):Int)] 3] _ _
 refine zR4 ?_
 exact ah Tryz.results294 rfl fun w' hw=>⟨(x,s1),rfl,hw.upd (Bg.le.refl _) (by repeat' constructor),hp⟩
theorem wW (d:Array UInt32) (V:Value) (a:Nat) (b:Nat) (ai:Int) (bi:Int) (ea:ai=((a:Nat):Int)) (eb:bi=((b:Nat):Int)) (w:World) (hr:(rowE V 23 aa d.toList).holds w) (hd:d.size≤1000000) (hab:a<b) (hb:b≤d.size) :
  Calls Tryz.prog 257 #[V,.int .i64 ai,.int .i64 bi] w (fun e w'=>e=.returned (.tuple #[.int .i64 ((choosePivot ltW d a b).1:Nat),.int .i64 (hintCode (choosePivot ltW d a b).2)])∧Mut w w' V∧(rowE V 23 aa d.toList).holds w'):=by
 subst ea eb
 refine fy (l:=d.toList) (E:=aa) (T:=23) hr Tryz.func257 rfl Tryz.ntmps257 rfl (df ?_)
 refine zz0 (dB rfl rfl) (zR5 ?_)
 refine bS jk rfl (fun b1=>zR6 ?_)
 refine zz0 (rC rfl rfl (by omega)) ?_
 refine zz0 (kG rfl rfl (by omega)) ?_
 refine zz0 (aZ rfl rfl) (zR7 ?_)
 refine zz0 (rC rfl rfl (by omega)) ?_
 refine zz0 (kG rfl rfl (by omega)) ?_
 refine zz0 (aZ rfl rfl) (zR7 ?_)
 refine zz0 (rC rfl rfl (by omega)) ?_
 refine zz0 (kG rfl rfl (by omega)) ?_
 refine zz0 (aZ rfl rfl) (zR3 ?_)
 refine ga (ι:=Nat × Nat × Nat × Nat) (fun ⟨i,j,k,s⟩=>(j<d.size∧s≤12)∧(j,s)=rawPivot ltW d a b) (fun _=>Bg.less w V) (fun ⟨i,j,k,s⟩=>[rowE V 23 aa d.toList,cellE b1 [.int .i64 ((s:Nat):Int)] 3]) (fun ⟨i,j,k,s⟩=>[(10,.int .i64 (i:Nat)),(11,.int .i64 (j:Nat)),(12,.int .i64 (k:Nat))]) ?_ (fun i hi=>?_)
 ·skip
  refine zR6 ?_
  refine af rfl (fun h2=>?_) (fun h2=>?_)
  ·refine ga (ι:=Nat × Nat × Nat × Nat) (fun ⟨i,j,k,s⟩=>(i<d.size∧j<d.size∧k<d.size∧s≤9)∧median ltW d i j k s=rawPivot ltW d a b) (fun _=>Bg.less w V) (fun ⟨i,j,k,s⟩=>[rowE V 23 aa d.toList,cellE b1 [.int .i64 ((s:Nat):Int)] 3]) (fun ⟨i,j,k,s⟩=>[(10,.int .i64 (i:Nat)),(11,.int .i64 (j:Nat)),(12,.int .i64 (k:Nat))]) ?_ (fun i hi=>?_)
   ·skip
    refine zR6 ?_
    refine af rfl (fun h3=>?_) (fun h3=>?_)
    ·refine zR4 ?_
     refine db (fun i:Nat × Nat=>.int .i64 (i.1:Nat)) [rowE V 23 aa d.toList,cellE b1 [.int .i64 ((0:Nat):Int)] 3] (fun i:Nat × Nat=>[rowE V 23 aa d.toList,cellE b1 [.int .i64 (i.2:Nat)] 3]) (ok:=fun zz=>zz=medianAdjacent ltW d (a+(b - a) / 4 * 1) 0) (dd:=fun w=>w.drawn) rfl Tryz.call294 (by repeat' constructor) (fun w hw=>hw.dr) (fun w hw=>CP d V b1 (a+(b - a) / 4 * 1) 0 _ (by omega) w (hw.own (by repeat' constructor)) hd (by omega) (by omega)) rfl (fun p hp=>?_)
     have bp:=GO hp (n:=d.size) (by omega)
     obtain ⟨x1,s1⟩:=p
     dsimp only at bp
     change Tr _ _ [rowE V 23 aa d.toList,cellE b1 [.int .i64 ((s1:Nat):Int)] 3] _ _
     refine zR7 ?_
     refine db (fun i:Nat × Nat=>.int .i64 (i.1:Nat)) [rowE V 23 aa d.toList,cellE b1 [.int .i64 ((s1:Nat):Int)] 3] (fun i:Nat × Nat=>[rowE V 23 aa d.toList,cellE b1 [.int .i64 (i.2:Nat)] 3]) (ok:=fun zz=>zz=medianAdjacent ltW d (a+(b - a) / 4 * 2) s1) (dd:=fun w=>w.drawn) rfl Tryz.call294 (by repeat' constructor) (fun w hw=>hw.dr) (fun w hw=>CP d V b1 (a+(b - a) / 4 * 2) s1 _ (by omega) w (hw.own (by repeat' constructor)) hd (by omega) (by omega)) rfl (fun q hq=>?_)
     have bq:=GO hq (n:=d.size) (by omega)
     obtain ⟨x2,s2⟩:=q
     dsimp only at bq
     change Tr _ _ [rowE V 23 aa d.toList,cellE b1 [.int .i64 ((s2:Nat):Int)] 3] _ _
     refine zR6 ?_
     refine db (fun i:Nat × Nat=>.int .i64 (i.1:Nat)) [rowE V 23 aa d.toList,cellE b1 [.int .i64 ((s2:Nat):Int)] 3] (fun i:Nat × Nat=>[rowE V 23 aa d.toList,cellE b1 [.int .i64 (i.2:Nat)] 3]) (ok:=fun zz=>zz=medianAdjacent ltW d (a+(b - a) / 4 * 3) s2) (dd:=fun w=>w.drawn) rfl Tryz.call294 (by repeat' constructor) (fun w hw=>hw.dr) (fun w hw=>CP d V b1 (a+(b - a) / 4 * 3) s2 _ (by omega) w (hw.own (by repeat' constructor)) hd (by omega) (by omega)) rfl (fun r hr=>?_)
     have br:=GO hr (n:=d.size) (by omega)
     obtain ⟨x3,s3⟩:=r
     dsimp only at br
     change Tr _ _ [rowE V 23 aa d.toList,cellE b1 [.int .i64 ((s3:Nat):Int)] 3] _ _
     refine zR3 ?_
     refine aQ (x1,x2,x3,s3) (Front.c (Front.c (Front.c Front.nil))) (zz9 14 rfl) (o:=⟨by omega,ND (by omega) hp hq hr rfl⟩)
    refine zR2 ?_
    refine aQ (a+(b - a) / 4 * 1,a+(b - a) / 4 * 2,a+(b - a) / 4 * 3,0) (Front.c (Front.c (Front.c Front.nil))) (zz9 2 rfl) (o:=⟨by omega,NC (by omega) (by omega) rfl⟩)
   obtain ⟨i,j,k,s⟩:=i
   replace hi:(i<d.size∧j<d.size∧k<d.size∧s≤9)∧median ltW d i j k s=rawPivot ltW d a b:=hi
   change Tr _ _ [rowE V 23 aa d.toList,cellE b1 [.int .i64 ((s:Nat):Int)] 3] ([(10,.int .i64 (i:Nat)),(11,.int .i64 (j:Nat)),(12,.int .i64 (k:Nat))] ++ _) _
   obtain ⟨hi1,hi2⟩:=hi
   refine zR5 ?_
   refine db (fun i:Nat × Nat=>.int .i64 (i.1:Nat)) [rowE V 23 aa d.toList,cellE b1 [.int .i64 ((s:Nat):Int)] 3] (fun i:Nat × Nat=>[rowE V 23 aa d.toList,cellE b1 [.int .i64 (i.2:Nat)] 3]) (ok:=fun zz=>zz=median ltW d i j k s) (dd:=fun w=>w.drawn) rfl Tryz.call295 (by repeat' constructor) (fun w hw=>hw.dr) (fun w hw=>yv d V b1 i j k s _ _ _ rfl rfl rfl w (hw.own (by repeat' constructor)) hd (by omega) (by omega) (by omega)) rfl (fun z hz=>?_)
   have bz:=AP hz (n:=d.size) (by omega) (by omega) (by omega)
   obtain ⟨x4,s4⟩:=z
   dsimp only at bz
   change Tr _ _ [rowE V 23 aa d.toList,cellE b1 [.int .i64 ((s4:Nat):Int)] 3] _ _
   refine zR3 ?_
   refine aQ (i,x4,k,s4) (Front.c (Front.c (Front.c Front.nil))) (zz9 11 rfl) (o:=⟨by omega,by rw [← hi2]; exact hz⟩)
  refine zR2 ?_
  refine aQ (a+(b - a) / 4 * 1,a+(b - a) / 4 * 2,a+(b - a) / 4 * 3,0) (Front.c (Front.c (Front.c Front.nil))) (zz9 2 rfl) (o:=⟨by omega,KO (by omega)⟩)
 obtain ⟨i,j,k,s⟩:=i
 replace hi:(j<d.size∧s≤12)∧(j,s)=rawPivot ltW d a b:=hi
 change Tr _ _ [rowE V 23 aa d.toList,cellE b1 [.int .i64 ((s:Nat):Int)] 3] ([(10,.int .i64 (i:Nat)),(11,.int .i64 (j:Nat)),(12,.int .i64 (k:Nat))] ++ _) _
 obtain ⟨hj1,hj2⟩:=hi
 refine fu ?_
 refine af rfl (fun h4=>?_) (fun h4=>?_)
 ·refine zR9 ?_
  refine bV pg rfl rfl (fun w' hw=>?_)
  obtain rfl:s=0:=by omega
  exact ⟨by rw [choosePivot_eq,← hj2]; rfl,HpOK.mutOwn hw (.head _) rfl⟩
 refine zR6 ?_
 refine af rfl (fun h5=>?_) (fun h5=>?_)
 ·refine zR9 ?_
  refine bV pg rfl rfl (fun w' hw=>?_)
  obtain rfl:s=12:=by omega
  exact ⟨by rw [choosePivot_eq,← hj2]; rfl,HpOK.mutOwn hw (.head _) rfl⟩
 refine zR9 ?_
 exact bV pg rfl rfl fun w' hw=>⟨by rw [choosePivot_eq,← hj2]; simp only [hintOf]; rw [if_neg (by omega),if_neg (by omega)]; rfl,HpOK.mutOwn hw (.head _) rfl⟩
theorem JE (d:Array UInt32) (V:Value) (a:Nat) (b:Nat) (ai:Int) (bi:Int) (ea:ai=((a:Nat):Int)) (eb:bi=((b:Nat):Int)) (w:World) (hr:(rowE V 23 aa d.toList).holds w) (hd:d.size≤1000000) (hab:a≤b) (hb:b≤d.size) :
  Calls Tryz.prog 256 #[V,.int .i64 ai,.int .i64 bi] w (fun e w'=>e=.returned (.tuple #[])∧Mut w w' V∧(rowE V 23 aa (breakPatterns d a b).toList).holds w'):=by
 subst ea eb
 obtain ⟨md,hmd⟩:∃ md,md=1 <<< bitsLen (b - a):=⟨_,rfl⟩
 obtain ⟨i0,hi0⟩:∃ i,i=a+(b - a) / 4 * 2 - 1:=⟨_,rfl⟩
 refine fy (l:=d.toList) (E:=aa) (T:=23) hr Tryz.func256 rfl Tryz.ntmps256 rfl (zR4 ?_)
 refine zz0 (dB rfl rfl) (zR9 ?_)
 refine af rfl (fun h1=>?_) (fun h1=>?_)
 ·refine zR3 ?_
  refine zz0 (Ha (b - a) rfl ax Tryz.underlying292 (by omega) (by omega)) ?_
  refine bS Tryz.zeroValue292 rfl (fun b2=>?_)
  refine ka rfl rfl na (by repeat constructor) (by rfl) (by rfl) (by first|exact List.all_eq_true.1 rfl|exact Enc.one _ _) rfl (zR5 ?_)
  refine zz0 (ac rfl Tryz.call265 (fun w hw=>I3 (b - a) _ (by omega) (by omega) w)) ?_
  rw [← hmd]
  have hmb:=Pm (n:=b - a) (by omega)
  rw [← hmd] at hmb
  refine zR7 ?_
  refine zz0 (rC rfl rfl (by omega)) ?_
  refine zz0 (kG rfl rfl (by omega)) ?_
  refine zz0 (aZ rfl rfl) ?_
  refine zz0 (dB rfl rfl) (zR4 ?_)
  refine dO (ι:=Nat × UInt64 × Array UInt32) (fun ⟨t,r,cur⟩=>t≤3∧cur.size=d.size∧vH a (b - a) md i0 t (UInt64.ofNat (b - a),d)=(r,cur)) (fun _=>_) (fun ⟨t,r,cur⟩=>[rowE V 23 aa cur.toList,cellE b2 [.int .u64 (r.toNat:Int)] 292]) (fun ⟨t,r,cur⟩=>[(9,.int .i64 ((i0+t:Nat):Int))]) (fun ⟨t,r,cur⟩=>3 - t) (0,UInt64.ofNat (b - a),d) ⟨by omega,rfl,rfl⟩ (Front.c Front.nil) (fun i hi m hm=>?_)
  obtain ⟨t,r,cur⟩:=i
  dsimp only at hi hm
  change Tr _ _ [rowE V 23 aa cur.toList,cellE b2 [.int .u64 (r.toNat:Int)] 292] ([(9,.int .i64 ((i0+t:Nat):Int))] ++ _) _
  obtain ⟨hk1,hk2,hk3⟩:=hi
  have hcl:cur.toList.length=d.size:=by rw [Array.length_toList]; exact hk2
  refine zR6 ?_
  refine zz0 (rC rfl rfl (by omega)) ?_
  refine zz0 (kG rfl rfl (by omega)) ?_
  refine zz0 (aZ rfl rfl) ?_
  refine zz0 (aZ rfl rfl) (zR3 ?_)
  refine af rfl (fun h3=>?_) (fun h3=>?_)
  ·refine zR6 ?_
   refine db (fun _:Unit=>.int .u64 ((xorNext r).toNat:Nat)) [cellE b2 [.int .u64 ((r).toNat:Int)] 292] (fun _=>[cellE b2 [.int .u64 ((xorNext r).toNat:Int)] 292]) (ok:=fun _=>True) (dd:=fun w=>w.drawn) rfl Tryz.call266 (by repeat' constructor) (fun w hw=>hw.dr) (fun w hw=>Pk r b2 w (hw.own (by repeat' constructor))) rfl (fun i hi=>zz0 (ae rfl) ?_)
   refine zz0 (MY (n:=1) rfl rfl (by omega) (by omega)) ?_
   refine zz0 (Na rfl rfl (by have:=(xorNext r).toNat_lt; omega) (by omega)) ?_
   have hand:(xorNext r).toNat &&& (md - 1)≤md - 1:=Nat.and_le_right
   change Tr _ _ [cellE b2 [.int .u64 ((xorNext r).toNat:Int)] 292,rowE V 23 aa cur.toList] _ _
   refine zz0 (dQ rfl dq ax (IntWalk.i64_in _ (by omega))) (zR3 ?_)
   refine fC (.of (ι:=Nat) (fun o=>o<b - a∧o=if b - a≤((xorNext r).toNat &&& (md - 1)) then ((xorNext r).toNat &&& (md - 1)) - (b - a) else ((xorNext r).toNat &&& (md - 1))) (fun _=>Bg.less w V) (fun o=>[rowE V 23 aa cur.toList,cellE b2 [.int .u64 ((xorNext r).toNat:Int)] 292]) (fun o=>[(10,.int .i64 (o:Nat))])) ?_ (fun o hi=>?_)
   ·skip
    refine zR7 ?_
    refine af rfl (fun h4=>?_) (fun h4=>?_)
    ·refine zR3 ?_
     refine zz0 (dB rfl rfl) (zR3 ?_)
     refine aQ (((xorNext r).toNat &&& (md - 1)) - (b - a)) (Front.c Front.nil) (zz9 7 rfl) (o:=⟨by omega,by rw [if_pos (by omega)]⟩)
    refine zR2 ?_
    refine aQ ((xorNext r).toNat &&& (md - 1)) (Front.c Front.nil) (zz9 3 rfl) (o:=⟨by omega,by rw [if_neg (by omega)]⟩)
   skip
   obtain ⟨ho1,ho2⟩:=hi
   refine fE 6 17 ak ?_
   refine dJ rfl ?_
   refine dJ rfl ?_
   refine dJ rfl ?_
   refine dJ rfl ?_
   refine dJ rfl ?_
   refine gz (fun _=>aZ rfl rfl) (by rfl) rfl ?_
   refine aG (zT3 ?_)
   refine aB (aZ rfl rfl) (zT8 ?_)
   refine gg (l:=cur.toList) (i:=(i0+t)) (cur.toList.getD ((a+o)) default) rfl rfl aj ?_
   have hls5:(List.set cur.toList ((i0+t)) (cur.toList.getD ((a+o)) default)).length=(cur.toList).length:=List.length_set
   refine zz0 (kU rfl rfl) (gg (l:=(cur.toList.set ((i0+t)) (cur.toList.getD ((a+o)) default))) (i:=(a+o)) (cur.toList.getD ((i0+t)) default) rfl rfl aj ?_)
   have hls6:(List.set (cur.toList.set ((i0+t)) (cur.toList.getD ((a+o)) default)) ((a+o)) (cur.toList.getD ((i0+t)) default)).length=((cur.toList.set ((i0+t)) (cur.toList.getD ((a+o)) default))).length:=List.length_set
   rw [dl,dl,iV]
   refine zR5 ?_
   refine zz0 (aZ rfl rfl) (zR3 ?_)
   refine bC (t+1,xorNext r,_) (Front.c Front.nil) (zz9 37 rfl) (o:=⟨by omega,by rw [qH]; exact hk2,MA hk3 ho2⟩)
  refine zR4 ?_
  refine dH Tryz.results256 (fun w' hw=>?_)
  obtain rfl:t=3:=by omega
  have hq:breakPatterns d a b=cur:=by rw [MC (by omega),← hmd,← hi0,hk3]
  exact ⟨rfl,by rw [hq]; exact HpOK.mutOwn hw (.head _) rfl⟩
 exact fO (dH Tryz.results256 fun w' hw=>⟨rfl,by rw [MB (by omega)]; exact HpOK.mutOwn hw (.head _) rfl⟩)
theorem KV (V:Value) (n:Nat) (ih:∀ (d:Array UInt32) (a b limit:Nat) (ai bi li:Int) (w:World),ai=((a:Nat):Int)→bi=((b:Nat):Int)→li=((limit:Nat):Int)→(rowE V 23 aa d.toList).holds w→d.size≤1000000→a≤b→b≤d.size→limit≤64→b - a<n→Calls Tryz.prog 198 #[V,.int .i64 ai,.int .i64 bi,.int .i64 li] w (fun e w'=>e=.returned (.tuple #[])∧Mut w w' V∧(rowE V 23 aa (pdq ltW d a b limit true true).toList).holds w')) (d:Array UInt32) (a:Nat) (b:Nat) (limit:Nat) (ai:Int) (bi:Int) (limiti:Int) (ea:ai=((a:Nat):Int)) (eb:bi=((b:Nat):Int)) (elimit:limiti=((limit:Nat):Int)) (w:World) (hr:(rowE V 23 aa d.toList).holds w) (hd:d.size≤1000000) (hab:a≤b) (hb:b≤d.size) (hl:limit≤64) (hn:b - a≤n) :
  Calls Tryz.prog 198 #[V,.int .i64 ai,.int .i64 bi,.int .i64 limiti] w (fun e w'=>e=.returned (.tuple #[])∧Mut w w' V∧(rowE V 23 aa (pdq ltW d a b limit true true).toList).holds w'):=by
 subst ea eb elimit
 refine fy (l:=d.toList) (E:=aa) (T:=23) hr Tryz.func198 rfl Tryz.ntmps198 rfl (dy ?_)
 refine dO (ι:=Nat × Nat × Nat × Bool × Bool × Array UInt32) (fun ⟨a1,b1,l1,wb,wp,cur⟩=>(a≤a1∧a1≤b1∧b1≤b∧l1≤64)∧cur.size=d.size∧pdq ltW cur a1 b1 l1 wb wp=pdq ltW d a b limit true true) (fun _=>_) (fun ⟨a1,b1,l1,wb,wp,cur⟩=>[rowE V 23 aa cur.toList]) (fun ⟨a1,b1,l1,wb,wp,cur⟩=>[(1,.int .i64 (a1:Nat)),(2,.int .i64 (b1:Nat)),(3,.int .i64 (l1:Nat)),(8,.bool wb),(9,.bool wp)]) (fun ⟨a1,b1,l1,wb,wp,cur⟩=>b1 - a1) (a,b,limit,true,true,d) ⟨⟨Nat.le_refl _,hab,Nat.le_refl _,hl⟩,rfl,rfl⟩ (.cons (by first|rfl|exact bH rfl (by omega)|exact cP rfl (decide_eq_decide.2 (by omega))|exact bH rfl (by simp)|exact cP rfl (by simp)) (.cons (by first|rfl|exact bH rfl (by omega)|exact cP rfl (decide_eq_decide.2 (by omega))|exact bH rfl (by simp)|exact cP rfl (by simp)) (.cons (by first|rfl|exact bH rfl (by omega)|exact cP rfl (decide_eq_decide.2 (by omega))|exact bH rfl (by simp)|exact cP rfl (by simp)) (.cons (by first|rfl|exact bH rfl (by omega)|exact cP rfl (decide_eq_decide.2 (by omega))|exact bH rfl (by simp)|exact cP rfl (by simp)) (.cons (by first|rfl|exact bH rfl (by omega)|exact cP rfl (decide_eq_decide.2 (by omega))|exact bH rfl (by simp)|exact cP rfl (by simp)) Front.nil))))) (fun i hi m hm=>?_)
 obtain ⟨a1,b1,l1,wb,wp,cur⟩:=i
 dsimp only at hi hm
 change Tr _ _ [rowE V 23 aa cur.toList] ([(1,.int .i64 (a1:Nat)),(2,.int .i64 (b1:Nat)),(3,.int .i64 (l1:Nat)),(8,.bool wb),(9,.bool wp)] ++ _) _
 obtain ⟨hk1,hk2,hk3⟩:=hi
 have hcl:cur.toList.length=d.size:=by rw [Array.length_toList]; exact hk2
 refine zR5 ?_
 refine zz0 (dB rfl rfl) (df ?_)
 refine af rfl (fun h1=>?_) (fun h1=>?_)
 ·refine zR5 ?_
  refine dz rfl Tryz.call254 (by repeat constructor) (fun w hw=>zV cur V a1 b1 _ _ rfl rfl w (hw.ent _ (.head _)) (by omega) (by omega) (by omega)) rfl (zR7 ?_)
  exact nj pw fun w' hw=>⟨rfl,by rw [← hk3,zQ (by omega)]; exact HpOK.mutOwn hw (.head _) rfl⟩
 refine zR9 ?_
 refine af rfl (fun h2=>?_) (fun h2=>?_)
 ·refine zR5 ?_
  refine dz rfl Tryz.call255 (by repeat constructor) (fun w hw=>Lt cur V a1 b1 _ _ rfl rfl w (hw.ent _ (.head _)) (by omega) (by omega) (by omega)) rfl (zR7 ?_)
  exact nj pw fun w' hw=>⟨rfl,by rw [← hk3,B8 (by omega) (by omega)]; exact HpOK.mutOwn hw (.head _) rfl⟩
 refine zR2 ?_
 refine ga (ι:=Nat × Array UInt32) (fun ⟨l2,d1⟩=>(d1.size=d.size∧l2≤64)∧l2=(if !wb then l1 - 1 else l1)∧d1=(if !wb then breakPatterns cur a1 b1 else cur)) (fun _=>Bg.less w V) (fun ⟨l2,d1⟩=>[rowE V 23 aa d1.toList]) (fun ⟨l2,d1⟩=>[(3,.int .i64 (l2:Nat))]) ?_ (fun i hi=>?_)
 ·skip
  refine zR6 ?_
  refine af rfl (fun h3=>?_) (fun h3=>?_)
  ·refine zR5 ?_
   refine dz rfl Tryz.call256 (by repeat constructor) (fun w hw=>JE cur V a1 b1 _ _ rfl rfl w (hw.ent _ (.head _)) (by omega) (by omega) (by omega)) rfl ?_
   refine lZ hr (.head _) (fun hq=>?_)
   have hz1:(breakPatterns cur a1 b1).size=d.size:=by rw [← Array.length_toList,← Array.length_toList]; exact hq
   refine zR4 ?_
   refine zz0 (dB rfl rfl) (zR3 ?_)
   refine aQ (l1 - 1,breakPatterns cur a1 b1) (.cons (by first|rfl|exact bH rfl (by omega)|exact cP rfl (decide_eq_decide.2 (by omega))|exact bH rfl (by simp)|exact cP rfl (by simp)) Front.nil) (zz9 9 rfl) (o:=⟨⟨hz1,by omega⟩,by simp_all,by simp_all⟩)
  refine zR2 ?_
  refine aQ (l1,cur) (.cons (by first|rfl|exact bH rfl (by omega)|exact cP rfl (decide_eq_decide.2 (by omega))|exact bH rfl (by simp)|exact cP rfl (by simp)) Front.nil) (zz9 2 rfl) (o:=⟨⟨hk2,by omega⟩,by simp_all,by simp_all⟩)
 obtain ⟨l2,d1⟩:=i
 replace hi:(d1.size=d.size∧l2≤64)∧l2=(if !wb then l1 - 1 else l1)∧d1=(if !wb then breakPatterns cur a1 b1 else cur):=hi
 change Tr _ _ [rowE V 23 aa d1.toList] ([(3,.int .i64 (l2:Nat))] ++ _) _
 obtain ⟨hd1,hl2,hd1e⟩:=hi
 refine zR5 ?_
 refine dz rfl Tryz.call257 (by repeat constructor) (fun w hw=>wW d1 V a1 b1 _ _ rfl rfl w (hw.ent _ (.head _)) (by omega) (by omega) (by omega)) rfl ?_
 obtain ⟨c,hc⟩:∃ c,c=choosePivot ltW d1 a1 b1:=⟨_,rfl⟩
 rw [← hc]
 have hcr:=choosePivot_holds ltW d1 a1 b1 (by omega)
 rw [← hc] at hcr
 refine zR7 ?_
 refine ga (ι:=Nat × Hint × Array UInt32) (fun ⟨pv,hint,d2⟩=>(a1≤pv∧pv<b1∧d2.size=d.size)∧d2=(if c.2=.decreasing then reverseRange d1 a1 b1 else d1)∧pv=(if c.2=.decreasing then (b1 - 1) - (c.1 - a1) else c.1)∧hint=(if c.2=.decreasing then Hint.increasing else c.2)) (fun _=>Bg.less w V) (fun ⟨pv,hint,d2⟩=>[rowE V 23 aa d2.toList]) (fun ⟨pv,hint,d2⟩=>[(11,.int .i64 (pv:Nat)),(12,.int .i64 (hintCode hint))]) ?_ (fun i hi=>?_)
 ·skip
  refine zR6 ?_
  refine af rfl (fun h4=>?_) (fun h4=>?_)
  ·refine zR5 ?_
   refine dz rfl Tryz.call258 (by repeat constructor) (fun w hw=>DG d1 V a1 b1 _ _ rfl rfl w (hw.ent _ (.head _)) (by omega) (by omega) (by omega)) rfl ?_
   refine lZ hr (.head _) (fun hq=>?_)
   have hz2:(reverseRange d1 a1 b1).size=d.size:=by rw [← Array.length_toList,← Array.length_toList]; exact hq
   refine zR5 ?_
   refine zz0 (dB rfl rfl) (zR2 ?_)
   refine zz0 (dB rfl rfl) ?_
   refine zz0 (dB rfl rfl) (zR7 ?_)
   have hx:c.2=.decreasing:=(uo c.2).1 (by assumption)
   refine aQ (b1 - 1 - (c.1 - a1),.increasing,reverseRange d1 a1 b1) (.cons (by first|rfl|exact bH rfl (by omega)|exact cP rfl (decide_eq_decide.2 (by omega))|exact bH rfl (by simp)|exact cP rfl (by simp)) (.cons (by first|rfl|exact bH rfl (by omega)|exact cP rfl (decide_eq_decide.2 (by omega))|exact bH rfl (by simp)|exact cP rfl (by simp)) Front.nil)) (zz9 14 rfl) (o:=⟨⟨by omega,by omega,hz2⟩,by rw [if_pos hx],by rw [if_pos hx],by rw [if_pos hx]⟩)
  refine zR2 ?_
  have hx:¬ c.2=.decreasing:=fun e=>absurd ((uo c.2).2 e) (by assumption)
  refine aQ (c.1,c.2,d1) (.cons (by first|rfl|exact bH rfl (by omega)|exact cP rfl (decide_eq_decide.2 (by omega))|exact bH rfl (by simp)|exact cP rfl (by simp)) (.cons (by first|rfl|exact bH rfl (by omega)|exact cP rfl (decide_eq_decide.2 (by omega))|exact bH rfl (by simp)|exact cP rfl (by simp)) Front.nil)) (zz9 2 rfl) (o:=⟨⟨by omega,by omega,hd1.1⟩,by rw [if_neg hx],by rw [if_neg hx],by rw [if_neg hx]⟩)
 obtain ⟨pv,hint,d2⟩:=i
 replace hi:(a1≤pv∧pv<b1∧d2.size=d.size)∧d2=(if c.2=.decreasing then reverseRange d1 a1 b1 else d1)∧pv=(if c.2=.decreasing then (b1 - 1) - (c.1 - a1) else c.1)∧hint=(if c.2=.decreasing then Hint.increasing else c.2):=hi
 change Tr _ _ [rowE V 23 aa d2.toList] ([(11,.int .i64 (pv:Nat)),(12,.int .i64 (hintCode hint))] ++ _) _
 obtain ⟨hpv,hd2,hpve,hhint⟩:=hi
 have hdl2:d2.toList.length=d.size:=by rw [Array.length_toList]; exact hpv.2.2
 refine fC (.of (ι:=Array UInt32) (fun d3=>d3.size=d.size∧(if wb && wp && hint=.increasing then partialInsertionSort ltW d2 a1 b1 else (d2,false))=(d3,false)) (fun _=>Bg.less w V) (fun d3=>[rowE V 23 aa d3.toList]) (fun d3=>[])) ?_ (fun d3 hi=>?_)
 ·skip
  refine zR4 ?_
  apply cj 2 62 64 (fun hT5 hT5'=>?_) ?_; rotate_right
  ·exact zE
  refine zz0 (ae rfl) ?_
  apply cj 3 65 68 (fun hT6 hT6'=>?_) ?_; rotate_right
  ·exact zE
  refine zR2 ?_
  refine af rfl (fun h7=>?_) (fun h7=>?_)
  ·refine zR5 ?_
   refine dz rfl Tryz.call259 (by repeat constructor) (fun w hw=>yd d2 V a1 b1 _ _ rfl rfl w (hw.ent _ (.head _)) (by omega) (by omega) (by omega)) rfl ?_
   obtain ⟨p,hp⟩:∃ p,p=partialInsertionSort ltW d2 a1 b1:=⟨_,rfl⟩
   rw [← hp]
   refine lZ hr (.head _) (fun hq=>?_)
   have hz3:p.1.size=d.size:=by rw [← Array.length_toList,← Array.length_toList]; exact hq
   refine zR2 ?_
   refine af rfl (fun h8=>?_) (fun h8=>?_)
   ·refine zR5 ?_
    refine nj pw (fun w' hw=>?_)
    have hfin:pdq ltW cur a1 b1 l1 wb wp=p.1:=B9 (by omega) (by omega) hd1e hc hd2 hhint (by rw [if_pos (KU h7),← hp]; exact Prod.ext rfl (by assumption))
    exact ⟨rfl,by rw [← hk3,hfin]; exact HpOK.mutOwn hw (.head _) rfl⟩
   refine zR2 ?_
   refine aQ p.1 Front.nil (zz9 9 rfl) (o:=⟨hz3,by rw [if_pos (KU h7)]; exact Prod.ext rfl (by assumption)⟩)
  refine zR2 ?_
  refine aQ d2 Front.nil (zz9 5 rfl) (o:=⟨hpv.2.2,by rw [if_neg (P2 h7)]⟩)
 skip
 obtain ⟨hd3,hd3e⟩:=hi
 have hdl3:d3.toList.length=d.size:=by rw [Array.length_toList]; exact hd3
 have hR:Rnd cur a1 b1 l1 wb wp l2 pv d3:=⟨d1,d2,c,hint,hd1e,hl2,hc,hd2,hpve,hhint,hd3e⟩
 have ea1:((a1:Int) - 1).toNat=a1 - 1∨a1=0:=by omega
 refine bE (bE (ip ak (aB (ae rfl) ?_)))
 refine aB (rD rfl rfl) (aB (ae rfl) ?_)
 apply eW
 ·exact (rfl:_=(12,75,87))
 ·exact rfl
 ·intro hT9; have hT9':=hT9
  try simp only [bs] at hT9'
  refine zT2 ?_
  refine eI hT9 (dB rfl rfl) (zT6 ?_)
  refine eI hT9 (ac rfl eV (fun w hw=>hZ (d3.toList.getD (((a1:Int) - 1).toNat) default) (d3.toList.getD (pv) default) w)) (zT2 ?_)
  exact cg (Sub.cons rfl (zz8 12 rfl))
 ·intro hF9
  refine OZ ?_
  exact cg (Sub.cons rfl (zz8 12 rfl))
 refine zT2 ?_
 refine af rfl (fun h10=>?_) (fun h10=>?_)
 ·refine zR6 ?_
  refine dz rfl Tryz.call261 (by repeat constructor) (fun w hw=>wO d3 V a1 b1 pv _ _ _ rfl rfl rfl w (hw.ent _ (.head _)) (by omega) (by omega) (by omega) (by omega)) rfl ?_
  obtain ⟨p,hpe⟩:∃ p,p=partitionEqual ltW d3 a1 b1 pv:=⟨_,rfl⟩
  have hpr:=FS (d:=d3) (pv:=pv) (show a1+1<b1 by omega) (by omega)
  rw [← hpe] at hpr
  rw [← hpe]
  obtain ⟨mid,d4⟩:=p
  dsimp only at hpr ⊢
  refine lZ hr (.head _) (fun hq=>?_)
  have hz4:d4.size=d.size:=by rw [← Array.length_toList,← Array.length_toList]; exact hq
  refine jz ?_
  apply fW (mid,b1,l2,wb,wp,d4)
  ·exact rfl
  ·exact (.cons (by first|rfl|exact bH rfl (by omega)|exact cP rfl (decide_eq_decide.2 (by omega))|exact bH rfl (by simp)|exact cP rfl (by simp)) (.cons (by first|rfl|exact bH rfl (by omega)|exact cP rfl (decide_eq_decide.2 (by omega))|exact bH rfl (by simp)|exact cP rfl (by simp)) (.cons (by first|rfl|exact bH rfl (by omega)|exact cP rfl (decide_eq_decide.2 (by omega))|exact bH rfl (by simp)|exact cP rfl (by simp)) (.cons (by first|rfl|exact bH rfl (by omega)|exact cP rfl (decide_eq_decide.2 (by omega))|exact bH rfl (by simp)|exact cP rfl (by simp)) (.cons (by first|rfl|exact bH rfl (by omega)|exact cP rfl (decide_eq_decide.2 (by omega))|exact bH rfl (by simp)|exact cP rfl (by simp)) Front.nil)))))
  ·exact zz9 37 rfl
  ·exact (by repeat' constructor)
  ·exact ⟨by show a≤mid∧mid≤b1∧b1≤b∧l2≤64; omega,hz4,by rw [← hk3]; exact (NE (by omega) (by omega) hR (by omega) (by rw [← dl,← dl,← ea1.resolve_right (by omega)]; simp_all) hpe.symm (by omega)).symm⟩
  exact (by show b1 - mid<m; omega)
 refine zR3 ?_
 have hcond:a1=0∨ltW d3[a1 - 1]! d3[pv]! = true:=by
  rcases Nat.eq_zero_or_pos a1 with q|q
  ·exact .inl q
  ·right
   rw [← dl,← dl,← ea1.resolve_right (by omega)]
   simp_all
 refine zR5 ?_
 refine dz rfl Tryz.call262 (by repeat constructor) (fun w hw=>zP d3 V a1 b1 pv _ _ _ rfl rfl rfl w (hw.ent _ (.head _)) (by omega) (by omega) (by omega) (by omega)) rfl ?_
 obtain ⟨p,hpt⟩:∃ p,p=partition ltW d3 a1 b1 pv:=⟨_,rfl⟩
 have hpr:=KW (d:=d3) (a:=a1) (b:=b1) (pv:=pv) (by omega) (by omega) (by omega)
 rw [← hpt] at hpr
 rw [← hpt]
 obtain ⟨mid,ap,d4⟩:=p
 dsimp only at hpr ⊢
 refine lZ hr (.head _) (fun hq=>?_)
 have hz4:d4.size=d.size:=by rw [← Array.length_toList,← Array.length_toList]; exact hq
 refine xz ?_
 refine zz0 (dB rfl rfl) (zR2 ?_)
 refine zz0 (dB rfl rfl) (zR7 ?_)
 refine zz0 (rC rfl rfl (by omega)) (df ?_)
 refine af rfl (fun h11=>?_) (fun h11=>?_)
 ·refine lN ?_
  refine dz rfl Tryz.call198 (by repeat constructor) (fun w hw=>ih d4 a1 mid l2 _ _ _ w rfl rfl rfl (hw.ent _ (.head _)) (by omega) (by omega) (by omega) (by omega) (by omega)) rfl ?_
  refine lZ hr (.head _) (fun hq=>?_)
  have hz5:(pdq ltW d4 a1 mid l2 true true).size=d.size:=by rw [← Array.length_toList,← Array.length_toList]; exact hq
  refine zR4 ?_
  refine zz0 (aZ rfl rfl) (zR4 ?_)
  apply fW (mid+1,b1,l2,decide (mid - a1 ≥ (b1 - a1) / 8),ap,pdq ltW d4 a1 mid l2 true true)
  ·exact rfl
  ·exact (.cons (by first|rfl|exact bH rfl (by omega)|exact cP rfl (decide_eq_decide.2 (by omega))|exact bH rfl (by simp)|exact cP rfl (by simp)) (.cons (by first|rfl|exact bH rfl (by omega)|exact cP rfl (decide_eq_decide.2 (by omega))|exact bH rfl (by simp)|exact cP rfl (by simp)) (.cons (by first|rfl|exact bH rfl (by omega)|exact cP rfl (decide_eq_decide.2 (by omega))|exact bH rfl (by simp)|exact cP rfl (by simp)) (.cons (by first|rfl|exact bH rfl (by omega)|exact cP rfl (decide_eq_decide.2 (by omega))|exact bH rfl (by simp)|exact cP rfl (by simp)) (.cons (by first|rfl|exact bH rfl (by omega)|exact cP rfl (decide_eq_decide.2 (by omega))|exact bH rfl (by simp)|exact cP rfl (by simp)) Front.nil)))))
  ·exact zz9 67 rfl
  ·exact (by repeat' constructor)
  ·exact ⟨by show a≤mid+1∧mid+1≤b1∧b1≤b∧l2≤64; omega,hz5,by rw [← hk3]; exact (B7 (by omega) (by omega) hR hcond hpt.symm (by omega) (by omega)).symm⟩
  exact (by show b1 - (mid+1)<m; omega)
 refine fu ?_
 refine zz0 (aZ rfl rfl) (zR2 ?_)
 refine dz rfl Tryz.call198 (by repeat constructor) (fun w hw=>ih d4 (mid+1) b1 l2 _ _ _ w (by omega) rfl rfl (hw.ent _ (.head _)) (by omega) (by omega) (by omega) (by omega) (by omega)) rfl ?_
 refine lZ hr (.head _) (fun hq=>?_)
 have hz5:(pdq ltW d4 (mid+1) b1 l2 true true).size=d.size:=by rw [← Array.length_toList,← Array.length_toList]; exact hq
 refine zR8 ?_
 apply fW (a1,mid,l2,decide (b1 - mid ≥ (b1 - a1) / 8),ap,pdq ltW d4 (mid+1) b1 l2 true true)
 ·exact rfl
 ·exact (.cons (by first|rfl|exact bH rfl (by omega)|exact cP rfl (decide_eq_decide.2 (by omega))|exact bH rfl (by simp)|exact cP rfl (by simp)) (.cons (by first|rfl|exact bH rfl (by omega)|exact cP rfl (decide_eq_decide.2 (by omega))|exact bH rfl (by simp)|exact cP rfl (by simp)) (.cons (by first|rfl|exact bH rfl (by omega)|exact cP rfl (decide_eq_decide.2 (by omega))|exact bH rfl (by simp)|exact cP rfl (by simp)) (.cons (by first|rfl|exact bH rfl (by omega)|exact cP rfl (decide_eq_decide.2 (by omega))|exact bH rfl (by simp)|exact cP rfl (by simp)) (.cons (by first|rfl|exact bH rfl (by omega)|exact cP rfl (decide_eq_decide.2 (by omega))|exact bH rfl (by simp)|exact cP rfl (by simp)) Front.nil)))))
 ·exact zz9 67 rfl
 ·exact (by repeat' constructor)
 ·exact ⟨by show a≤a1∧a1≤mid∧mid≤b∧l2≤64; omega,hz5,by rw [← hk3]; exact (zR (by omega) (by omega) hR hcond hpt.symm (by omega) (by omega)).symm⟩
 exact (by show mid - a1<m; omega)
theorem Hv (V:Value):∀ (n:Nat) (d:Array UInt32) (a b limit:Nat) (ai bi li:Int) (w:World),ai=((a:Nat):Int)→bi=((b:Nat):Int)→li=((limit:Nat):Int)→(rowE V 23 aa d.toList).holds w→d.size≤1000000→a≤b→b≤d.size→limit≤64→b - a<n→Calls Tryz.prog 198 #[V,.int .i64 ai,.int .i64 bi,.int .i64 li] w (fun e w'=>e=.returned (.tuple #[])∧Mut w w' V∧(rowE V 23 aa (pdq ltW d a b limit true true).toList).holds w')
 | 0,_,_,_,_,_,_,_,_,_,_,_,_,_,_,_,_,h=>absurd h (Nat.not_lt_zero _)
 | n+1,d,a,b,limit,ai,bi,li,w,e1,e2,e3,hr,hd,hab,hb,hl,h=>KV V n (Hv V n) d a b limit ai bi li e1 e2 e3 w hr hd hab hb hl (Nat.le_of_lt_succ h)
theorem Ax (d:Array UInt32) (V:Value) (w:World) (hr:(rowE V 23 aa d.toList).holds w) (hd:d.size≤1000000) :
  Calls Tryz.prog 141 #[V] w (fun e w'=>e=.returned (.tuple #[])∧Mut w w' V∧(rowE V 23 aa (sort ltW d).toList).holds w'):=by
 have hdl:d.toList.length=d.size:=Array.length_toList
 have hb20:bitsLen d.size≤20:=(bitsLen_le_iff _ 20).2 (by omega)
 refine fy (l:=d.toList) (E:=aa) (T:=23) hr Tryz.func141 rfl Tryz.ntmps141 rfl (dy ?_)
 refine zz0 (dQ rfl ax dq (IntWalk.u64_in _ (by omega))) ?_
 refine zz0 (ac rfl Tryz.call150 (fun w hw=>P6 d.size _ (by omega) (by omega) w)) ?_
 refine dz rfl Tryz.call198 (by repeat constructor) (fun w hw=>Hv V _ d 0 d.size (bitsLen d.size) _ _ _ w rfl (by omega) rfl (hw.ent _ (.head _)) hd (by omega) (by omega) (by omega) (Nat.lt_succ_self _)) rfl (fV ?_)
 exact dH Tryz.results141 fun w' hw=>⟨rfl,HpOK.mutOwn hw (.head _) rfl⟩
end Go.Proofs.YtiajjbhcpeadfaaGreat
namespace Go.Proofs.YtiajjbhcpeadfaaGreat
open Go Go.HL Go.RowKit
theorem Dq (l:List UInt32):(Go.Sort.sort ltW l.toArray).toList=gh l:=by
 rw [Ko,List.toList_toArray]
 unfold gh
 congr 1
 funext x y
 simp only [ltW]
 by_cases h:x≤y
 ·rw [decide_eq_true h,decide_eq_false (by rw [UInt32.lt_iff_toNat_lt]; rw [UInt32.le_iff_toNat_le] at h; omega)]; rfl
 rw [decide_eq_false h,decide_eq_true (by rw [UInt32.lt_iff_toNat_lt]; rw [UInt32.le_iff_toNat_le] at h; omega)]; rfl
theorem Jb (b:Nat) (w:World) :
  Calls Tryz.prog 139 #[.map (some b)] w (fun e w'=>∃ i:Nat,e=.returned (.func (.func 196) #[] #[.pointer (some ⟨i,0,none⟩)])∧Ext w w'∧CellsIn (AE w w') i [.map (some b)]):=by
 refine enter Tryz.func139 rfl Tryz.ntmps139 rfl (zR2 ?_)
 refine cm rfl rfl (fun b1=>zR5 ?_)
 refine zz0 (eP rfl rfl) (zR4 ?_)
 exact ah Tryz.results139 rfl fun w' hw=>⟨b1,rfl,hw.b0,hw.cellNew rfl (by repeat constructor)⟩
theorem Gh {α:Type} {f:α→Value} {l:List (UInt32 × α)} (b Bm:Nat) (es:Array MapEntry) (ck:Nat) (hmI:MapIs f l es ck) (w:World) (c1:CellsIn (hp w) Bm [.map (some b)]) (hb:w.heap[b]?=some (.map es ck)) (lv B:Nat) (hB:B≤w.heap.size) (J Jx:List UInt32→World→Prop) (hJ:AbidesFrom B J) (hJx:AbidesFrom B Jx) (hY:∀ pre x W1,J pre W1→pre.length<l.length→YieldAt Fence.wide 1 Tryz.prog lv #[.int .u32 x.toNat] W1 fun e W'=>(e=.returned (.bool true)∧J (pre ++ [x]) W'∧KeepsWalks W1 W')∨(e=.returned (.bool false)∧Jx (pre ++ [x]) W')) (h0:J [] w) :
  Calls Tryz.prog 196 #[.func (.yield lv) #[] #[],.pointer (some ⟨Bm,0,none⟩)] w (fun e W'=>(∃ v,e=.returned v)∧((∃ xs,xs.Perm (l.map (·.1))∧J xs W')∨(∃ pre,True∧Jx pre W'))):=by
 have c1':CellsIn (Bg.of0 w).blk Bm [.map (some b)]:=c1
 refine lT Tryz.func196 rfl Tryz.ntmps196 rfl (zR2 ?_)
 refine zz0 (eh rfl c1' fU (by rfl)) ?_
 refine Bt rfl hmI hb dF rfl (fun W1 r hg1 hr1 hI1=>zR3 ?_)
 refine dO (ι:=World × List UInt32) (fun ⟨Ws,done⟩=>IterAt Ws b r es ck done∧done.Nodup∧(∀ k∈done,k∈l.map (·.1))∧J done Ws) (fun ⟨Ws,done⟩=>Bg.of0 Ws) (fun ⟨Ws,done⟩=>[]) (fun ⟨Ws,done⟩=>[]) (fun ⟨Ws,done⟩=>l.length - done.length) (W1,[]) ⟨hI1,List.nodup_nil,fun k h=>(by cases h),hJ [] w W1 none h0 hg1 (fun r e=>by cases e)⟩ Front.nil (fun i hi m hm=>?_)
 obtain ⟨Ws,done⟩:=i
 dsimp only at hi hm
 change Tr _ (Bg.of0 Ws) [] ([] ++ _) _
 obtain ⟨q1,q2,q3,q4⟩:=hi
 refine bE ?_
 refine E9 (l:=l) rfl hmI q1 rfl rfl (fun k x W2 W3 hx2 hk1 hk2 g1 g2 i1 i2=>?_) (fun hall=>?_)
 ·skip
  have hlen:done.length<l.length:=HC q2 q3 hk1 hk2
  have hJ3:J done W3:=hJ done W2 W3 (some r) (hJ done Ws W2 none q4 g1 (fun r e=>by cases e)) g2 (fun r' e=>by cases e; exact ⟨by omega,i1.walk⟩)
  refine zR2 ?_
  refine dw rfl ?_ ?_ <;> intro h1 <;> try simp only [bs] at h1
  ·refine zR5 ?_
   refine zz0 (BC rfl hmI i2 (by simp) hx2) (zR5 ?_)
   refine E3 (x:=k) (fun x:UInt32=>.int .u32 x.toNat) rfl rfl rfl rfl hJ3 hJ (fun W4 h=>hY done k W4 h hlen) rfl rfl rfl rfl (fun W4 W' y1 y2 y3=>?_) (fun W' y1=>?_)
   ·skip
    refine az ?_
    refine dw rfl ?_ ?_ <;> intro h2 <;> try simp only [bs] at h2
    ·first|contradiction|(exfalso; omega)|simp_all
    refine zR3 ?_
    have hdl:(done ++ [k]).length=done.length+1:=by simp
    apply fW (W',done ++ [k])
    ·exact rfl
    ·exact Front.nil
    ·exact zz9 9 rfl
    ·exact (by repeat' constructor)
    ·exact ⟨(i2.grown y1.grown).keeps y2,yj q2 hk2,fun j hj=>(List.mem_append.1 hj).elim (q3 j) (fun h=>(List.mem_singleton.1 h) ▸ hk1),y3⟩
    exact (by show l.length - (done ++ [k]).length<m; omega)
   skip
   refine az ?_
   refine dw rfl ?_ ?_ <;> intro h3 <;> try simp only [bs] at h3
   ·exact jQ (zl (zj (zl (nj Tryz.results196 fun w' hw=>⟨⟨_,rfl⟩,.inr ⟨_,trivial,hJx _ W' _ none y1 hw.grown (fun r e=>by cases e)⟩⟩))))
   first|contradiction|(exfalso; omega)|simp_all
  first|contradiction|(exfalso; omega)|simp_all
 skip
 refine zR2 ?_
 refine dw rfl ?_ ?_ <;> intro h4 <;> try simp only [bs] at h4
 ·first|contradiction|(exfalso; omega)|simp_all
 refine zR4 ?_
 exact dH Tryz.results196 fun w' hw=>⟨⟨_,rfl⟩,.inl ⟨done,D8 hmI.nodup q2 q3 hall,hJ done Ws _ none q4 hw.grown (fun r e=>by cases e)⟩⟩
theorem wR {α:Type} {f:α→Value} {l:List (UInt32 × α)} (b Bm:Nat) (w:World) (hm:MapIn (hp w) b f l) (c1:CellsIn (hp w) Bm [.map (some b)]) :
  SeqStopsK Fence.wide 2 Tryz.prog 196 [.pointer (some ⟨Bm,0,none⟩)].toArray (fun x:UInt32=>#[.int .u32 x.toNat]) KeepsWalks (fun xs=>xs.Perm (l.map (·.1))) (fun _=>True) l.length w:=by
 obtain ⟨es,ck,hb,hm⟩:=hm
 intro lv J Jx W hBel hJ hJx hY h0
 have hle:Hp.le (hp w) (hp W):=fun k o e=>(hBel.block k (Array.getElem?_eq_some_iff.1 (show w.heap[k]?=some o from e)).1).trans e
 exact callsIn_wide.2 (Gh b Bm es ck hm W (c1.mono hle) (hle b _ hb) lv W.heap.size (Nat.le_refl _) J Jx hJ hJx hY h0)
theorem Lm (b:Nat) (w:World) :
  Calls Tryz.prog 72 #[.map (some b)] w (fun e w'=>∃ i:Nat,e=.returned (.func (.func 142) #[] #[.pointer (some ⟨i,0,none⟩)])∧Ext w w'∧CellsIn (AE w w') i [.map (some b)]):=by
 refine enter Tryz.func72 rfl Tryz.ntmps72 rfl (zR2 ?_)
 refine cm rfl rfl (fun b1=>zR5 ?_)
 refine zz0 (eP rfl rfl) (zR4 ?_)
 exact ah Tryz.results72 rfl fun w' hw=>⟨b1,rfl,hw.b0,hw.cellNew rfl (by repeat constructor)⟩
theorem Jc {α:Type} {f:α→Value} {l:List (UInt32 × α)} (b Bm:Nat) (es:Array MapEntry) (ck:Nat) (hmI:MapIs f l es ck) (w:World) (c1:CellsIn (hp w) Bm [.map (some b)]) (hb:w.heap[b]?=some (.map es ck)) (lv B:Nat) (hB:B≤w.heap.size) (J Jx:List UInt32→World→Prop) (hJ:AbidesFrom B J) (hJx:AbidesFrom B Jx) (hY:∀ pre x W1,J pre W1→pre.length<l.length→YieldAt Fence.wide 1 Tryz.prog lv #[.int .u32 x.toNat] W1 fun e W'=>(e=.returned (.bool true)∧J (pre ++ [x]) W'∧KeepsWalks W1 W')∨(e=.returned (.bool false)∧Jx (pre ++ [x]) W')) (h0:J [] w) :
  Calls Tryz.prog 142 #[.func (.yield lv) #[] #[],.pointer (some ⟨Bm,0,none⟩)] w (fun e W'=>(∃ v,e=.returned v)∧((∃ xs,xs.Perm (l.map (·.1))∧J xs W')∨(∃ pre,True∧Jx pre W'))):=by
 have c1':CellsIn (Bg.of0 w).blk Bm [.map (some b)]:=c1
 refine lT Tryz.func142 rfl Tryz.ntmps142 rfl (zR2 ?_)
 refine zz0 (eh rfl c1' jP (by rfl)) ?_
 refine Bt rfl hmI hb fL rfl (fun W1 r hg1 hr1 hI1=>zR3 ?_)
 refine dO (ι:=World × List UInt32) (fun ⟨Ws,done⟩=>IterAt Ws b r es ck done∧done.Nodup∧(∀ k∈done,k∈l.map (·.1))∧J done Ws) (fun ⟨Ws,done⟩=>Bg.of0 Ws) (fun ⟨Ws,done⟩=>[]) (fun ⟨Ws,done⟩=>[]) (fun ⟨Ws,done⟩=>l.length - done.length) (W1,[]) ⟨hI1,List.nodup_nil,fun k h=>(by cases h),hJ [] w W1 none h0 hg1 (fun r e=>by cases e)⟩ Front.nil (fun i hi m hm=>?_)
 obtain ⟨Ws,done⟩:=i
 dsimp only at hi hm
 change Tr _ (Bg.of0 Ws) [] ([] ++ _) _
 obtain ⟨q1,q2,q3,q4⟩:=hi
 refine bE ?_
 refine E9 (l:=l) rfl hmI q1 rfl rfl (fun k x W2 W3 hx2 hk1 hk2 g1 g2 i1 i2=>?_) (fun hall=>?_)
 ·skip
  have hlen:done.length<l.length:=HC q2 q3 hk1 hk2
  have hJ3:J done W3:=hJ done W2 W3 (some r) (hJ done Ws W2 none q4 g1 (fun r e=>by cases e)) g2 (fun r' e=>by cases e; exact ⟨by omega,i1.walk⟩)
  refine zR2 ?_
  refine dw rfl ?_ ?_ <;> intro h1 <;> try simp only [bs] at h1
  ·refine zR5 ?_
   refine zz0 (BC rfl hmI i2 (by simp) hx2) (zR5 ?_)
   refine E3 (x:=k) (fun x:UInt32=>.int .u32 x.toNat) rfl rfl rfl rfl hJ3 hJ (fun W4 h=>hY done k W4 h hlen) rfl rfl rfl rfl (fun W4 W' y1 y2 y3=>?_) (fun W' y1=>?_)
   ·skip
    refine az ?_
    refine dw rfl ?_ ?_ <;> intro h2 <;> try simp only [bs] at h2
    ·first|contradiction|(exfalso; omega)|simp_all
    refine zR3 ?_
    have hdl:(done ++ [k]).length=done.length+1:=by simp
    apply fW (W',done ++ [k])
    ·exact rfl
    ·exact Front.nil
    ·exact zz9 9 rfl
    ·exact (by repeat' constructor)
    ·exact ⟨(i2.grown y1.grown).keeps y2,yj q2 hk2,fun j hj=>(List.mem_append.1 hj).elim (q3 j) (fun h=>(List.mem_singleton.1 h) ▸ hk1),y3⟩
    exact (by show l.length - (done ++ [k]).length<m; omega)
   skip
   refine az ?_
   refine dw rfl ?_ ?_ <;> intro h3 <;> try simp only [bs] at h3
   ·exact jQ (zl (zj (zl (nj Tryz.results142 fun w' hw=>⟨⟨_,rfl⟩,.inr ⟨_,trivial,hJx _ W' _ none y1 hw.grown (fun r e=>by cases e)⟩⟩))))
   first|contradiction|(exfalso; omega)|simp_all
  first|contradiction|(exfalso; omega)|simp_all
 skip
 refine zR2 ?_
 refine dw rfl ?_ ?_ <;> intro h4 <;> try simp only [bs] at h4
 ·first|contradiction|(exfalso; omega)|simp_all
 refine zR4 ?_
 exact dH Tryz.results142 fun w' hw=>⟨⟨_,rfl⟩,.inl ⟨done,D8 hmI.nodup q2 q3 hall,hJ done Ws _ none q4 hw.grown (fun r e=>by cases e)⟩⟩
theorem yz {α:Type} {f:α→Value} {l:List (UInt32 × α)} (b Bm:Nat) (w:World) (hm:MapIn (hp w) b f l) (c1:CellsIn (hp w) Bm [.map (some b)]) :
  SeqStopsK Fence.wide 2 Tryz.prog 142 [.pointer (some ⟨Bm,0,none⟩)].toArray (fun x:UInt32=>#[.int .u32 x.toNat]) KeepsWalks (fun xs=>xs.Perm (l.map (·.1))) (fun _=>True) l.length w:=by
 obtain ⟨es,ck,hb,hm⟩:=hm
 intro lv J Jx W hBel hJ hJx hY h0
 have hle:Hp.le (hp w) (hp W):=fun k o e=>(hBel.block k (Array.getElem?_eq_some_iff.1 (show w.heap[k]?=some o from e)).1).trans e
 exact callsIn_wide.2 (Jc b Bm es ck hm W (c1.mono hle) (hle b _ hb) lv W.heap.size (Nat.le_refl _) J Jx hJ hJx hY h0)
attribute [local semireducible] Go.HL.Tr Go.HL.TrQ in
theorem Ah (g:Nat) (lb:List Value) (keys:List UInt32) (Nm:Nat) (hN:Nm≤1000000) (eg:∀ (args:Array Value) (w:World),(callFunc g args).run Tryz.prog w=.ok (.enter g args) w) (w:World) (hseq:SeqStopsK Fence.wide 2 Tryz.prog g lb.toArray (fun x:UInt32=>#[.int .u32 x.toNat]) KeepsWalks (fun xs=>xs.Perm keys) (fun _=>True) Nm w) :
  Calls Tryz.prog 197 #[.slice none 0 0,.func (.func g) #[] lb.toArray] w (fun e w'=>∃ i:Value × List UInt32,e=.returned i.1∧Below w.heap.size w w'∧NewEnts w w' [rowE i.1 23 aa i.2]∧i.2.Perm keys):=by
 refine PC Tryz.func197 rfl Tryz.ntmps197 rfl (zR2 ?_)
 refine cm rfl rfl (fun b1=>df ?_)
 refine aR 23 aa ?_
 refine GX (α:=UInt32) (ι:=Value × List UInt32) (lb:=lb) (fun x=>.int .u32 x.toNat) (fun xs=>xs.Perm keys) (fun pre j=>j.2=pre) (fun j=>[cellE b1 [j.1] 31,rowE j.1 23 aa j.2]) Nm (.slice none 0 0,[]) rfl rfl rfl eg rfl rfl (by repeat' constructor) rfl (fun j=>.cell (.row .nil)) ?_ ?_ ?_
 ·exact fun w2 F1 hf h1=>SeqStopsK.later hseq (h1.below0 hf)
 ·intro pre x j l0 F1 hF1 hok hlen
  obtain ⟨V,xs⟩:=j
  replace hok:xs=pre:=hok
  subst hok
  change Tr _ _ [cellE b1 [V] 31,rowE V 23 aa xs] _ _
  refine G0 ?_
  refine GW (Qn K4) rfl (zR2 ?_)
  refine g7 (E:=aa) x rfl rfl au aj ba (fun V2=>?_)
  refine zz3 rfl rfl au dA (fun V3=>?_)
  refine cG (.head _) (fun pa pc hpv=>?_)
  subst hpv
  refine ka rfl rfl fS (by repeat constructor) (by rfl) (by rfl) (by first|exact List.all_eq_true.1 rfl|exact Enc.one _ _) rfl (zR2 ?_)
  exact fun a w ha hw=>⟨rfl,(.slice pa (xs ++ [x]).length pc,xs ++ [x]),rfl,Pick.heap (L':=[cellE b1 [.slice pa (xs ++ [x]).length pc] 31,rowE (.slice pa (xs ++ [x]).length pc) 23 aa (xs ++ [x])]) (by repeat' constructor) hw⟩
 intro xs j D F1 hF1 hS hok
 obtain ⟨V,ys⟩:=j
 replace hok:ys=xs:=hok
 subst hok
 change Tr _ _ [Lg D,cellE b1 [V] 31,rowE V 23 aa ys] _ _
 refine zR9 ?_
 refine MI (D:=D) Tryz.results197 rfl (by (repeat rw [cx,if_neg (by unfold mk0; omega)]); exact Ja) (by repeat constructor) (fun w' hw=>?_)
 exact ⟨(V,ys),rfl,hw.below0 hF1,hw.ents0 hF1.lo (by repeat' constructor),hS⟩
theorem EP (g:Nat) (lb:List Value) (keys:List UInt32) (Nm:Nat) (hN:Nm≤1000000) (eg:∀ (args:Array Value) (w:World),(callFunc g args).run Tryz.prog w=.ok (.enter g args) w) (w:World) (hseq:SeqStopsK Fence.wide 2 Tryz.prog g lb.toArray (fun x:UInt32=>#[.int .u32 x.toNat]) KeepsWalks (fun xs=>xs.Perm keys) (fun _=>True) Nm w) :
  Calls Tryz.prog 140 #[.func (.func g) #[] lb.toArray] w (fun e w'=>∃ i:Value × List UInt32,e=.returned i.1∧Below w.heap.size w w'∧NewEnts w w' [rowE i.1 23 aa i.2]∧i.2.Perm keys):=by
 refine lT Tryz.func140 rfl Tryz.ntmps140 rfl (zR8 ?_)
 refine dC (fun i:Value × List UInt32=>i.1) (fun i=>[rowE i.1 23 aa i.2]) (ok:=fun i=>i.2.Perm keys) rfl rfl Tryz.call197 (fun w hw=>Ah g lb keys Nm hN eg w (SeqStopsK.later hseq (hw.below0 (Bg.le.refl _)))) rfl (fun i hi=>?_)
 obtain ⟨V,ys⟩:=i
 change Tr _ _ [rowE V 23 aa ys] _ _
 refine zR4 ?_
 exact ah Tryz.results140 rfl fun w' hw=>⟨(V,ys),rfl,hw.below0 (Bg.le.refl _),hw.ents0 rfl (by repeat' constructor),hi⟩
theorem xQ (g:Nat) (lb:List Value) (keys:List UInt32) (Nm:Nat) (hN:Nm≤1000000) (eg:∀ (args:Array Value) (w:World),(callFunc g args).run Tryz.prog w=.ok (.enter g args) w) (hK:keys.length≤1000000) (w:World) (hseq:SeqStopsK Fence.wide 2 Tryz.prog g lb.toArray (fun x:UInt32=>#[.int .u32 x.toNat]) KeepsWalks (fun xs=>xs.Perm keys) (fun _=>True) Nm w) :
  Calls Tryz.prog 71 #[.func (.func g) #[] lb.toArray] w (fun e w'=>∃ V:Value,e=.returned V∧Below w.heap.size w w'∧NewEnts w w' [rowE V 23 aa (gh keys)]∧True):=by
 refine lT Tryz.func71 rfl Tryz.ntmps71 rfl (zR8 ?_)
 refine dC (fun i:Value × List UInt32=>i.1) (fun i=>[rowE i.1 23 aa i.2]) (ok:=fun i=>i.2.Perm keys) rfl rfl Tryz.call140 (fun w hw=>EP g lb keys Nm hN eg w (SeqStopsK.later hseq (hw.below0 (Bg.le.refl _)))) rfl (fun i hi=>?_)
 obtain ⟨V,ys⟩:=i
 replace hi:ys.Perm keys:=hi
 have hyl:=hi.length_eq
 change Tr _ _ [rowE V 23 aa ys] _ _
 refine zR6 ?_
 refine dz rfl Tryz.call141 (by repeat constructor) (fun w hw=>Ax ys.toArray V w (hw.ent _ (.head _)) (by rw [List.size_toArray]; omega)) rfl ?_
 rw [Dq,BV hi]
 refine zR9 ?_
 exact ah Tryz.results71 rfl fun w' hw=>⟨V,rfl,hw.below0 (Bg.le.refl _),hw.ents0 rfl (by repeat' constructor),trivial⟩
theorem k6 (l:List (UInt32 × Bool)) (b:Nat) (w:World) (hm:MapIn (hp w) b cL l) (hl:l.length≤1000000) :
  Calls Tryz.prog 70 #[.map (some b)] w (fun e w'=>∃ V:Value,e=.returned V∧Below w.heap.size w w'∧NewEnts w w' [rowE V 23 aa (gh (l.map (·.1)))]∧True):=by
 have hm':MapIn (Bg.of0 w).blk b cL l:=hm
 refine lT Tryz.func70 rfl Tryz.ntmps70 rfl (zR8 ?_)
 refine Bu (fun i:Nat=>.func (.func 196) #[] #[.pointer (some ⟨i,0,none⟩)]) (R:=fun h i=>CellsIn h i [.map (some b)]) (fun h h' i hh r=>r.mono hh) rfl Tryz.call139 (fun w hw=>Jb b w) rfl (fun i7 F7 hF7 hR7=>?_)
 refine dC (fun V:Value=>V) (fun V=>[rowE V 23 aa (gh (l.map (·.1)))]) (ok:=fun _=>True) (hF7.dr) rfl Tryz.call71 (fun w hw=>xQ _ _ (l.map (·.1)) l.length hl Tryz.call196 (by rw [List.length_map]; exact hl) w (wR b i7 w ((hm'.mono hF7.blk).mono hw.bg) (hR7.mono hw.bg))) rfl (fun V7 _=>zR4 ?_)
 exact ah Tryz.results70 rfl fun w' hw=>⟨V7,rfl,hw.below0 hF7,hw.ents0 hF7.lo (by repeat' constructor),trivial⟩
end Go.Proofs.YtiajjbhcpeadfaaGreat
namespace Go.Proofs.YtiajjbhcpeadfaaGreat
open Go Go.HL Go.RowKit
theorem EU (a b:UInt32) (w:World) :
  Cr Tryz.prog 84 #[.int .u32 a.toNat,.int .u32 b.toNat] w (.int .i64 (zd a b)):=by
 refine enter Tryz.func84 rfl Tryz.ntmps84 rfl (zR8 ?_)
 refine zz0 (ac rfl rq (fun w hw=>ud a w)) (zR6 ?_)
 refine zz0 (ac rfl rq (fun w hw=>ud b w)) (zR9 ?_)
 refine dw rfl ?_ ?_ <;> intro h1 <;> try simp only [bs] at h1
 ·first|contradiction|(exfalso; omega)|simp_all
 refine zR8 ?_
 refine dw rfl ?_ ?_ <;> intro h2 <;> try simp only [bs] at h2
 ·first|contradiction|(exfalso; omega)|simp_all
 refine df ?_
 refine af rfl (fun h3=>?_) (fun h3=>?_)
 ·refine zR7 ?_
  exact ah Tryz.results84 rfl fun w' hw=>⟨by rw [zd,if_pos (by assumption)],hw.b0⟩
 refine df ?_
 refine af rfl (fun h4=>?_) (fun h4=>?_)
 ·refine zR7 ?_
  exact ah Tryz.results84 rfl fun w' hw=>⟨by rw [zd,if_neg (by assumption),if_pos (by assumption)],hw.b0⟩
 refine zR8 ?_
 exact ah Tryz.results84 rfl fun w' hw=>⟨by rw [zd,if_neg (by assumption),if_neg (by assumption)],hw.b0⟩
theorem DY (a:Int) (w:World) :
  Cr Tryz.prog 147 #[.int .i64 a] w (.bool false):=by
 refine enter Tryz.func147 rfl Tryz.ntmps147 rfl (lN ?_)
 exact ah Tryz.results147 rfl fun w' hw=>⟨by simp,hw.b0⟩
theorem Mt (a b:Int) (w:World) :
  Cr Tryz.prog 80 #[.int .i64 a,.int .i64 b] w (.int .i64 (GB a b)):=by
 refine enter Tryz.func80 rfl Tryz.ntmps80 rfl (zR8 ?_)
 refine zz0 (ac rfl Tryz.call147 (fun w hw=>DY a w)) (zR6 ?_)
 refine zz0 (ac rfl Tryz.call147 (fun w hw=>DY b w)) (zR9 ?_)
 refine dw rfl ?_ ?_ <;> intro h1 <;> try simp only [bs] at h1
 ·first|contradiction|(exfalso; omega)|simp_all
 refine zR8 ?_
 refine dw rfl ?_ ?_ <;> intro h2 <;> try simp only [bs] at h2
 ·first|contradiction|(exfalso; omega)|simp_all
 refine df ?_
 refine af rfl (fun h3=>?_) (fun h3=>?_)
 ·refine zR7 ?_
  exact ah Tryz.results80 rfl fun w' hw=>⟨by rw [GB,if_pos (by assumption)],hw.b0⟩
 refine df ?_
 refine af rfl (fun h4=>?_) (fun h4=>?_)
 ·refine zR7 ?_
  exact ah Tryz.results80 rfl fun w' hw=>⟨by rw [GB,if_neg (by assumption),if_pos (by assumption)],hw.b0⟩
 refine zR8 ?_
 exact ah Tryz.results80 rfl fun w' hw=>⟨by rw [GB,if_neg (by assumption),if_neg (by assumption)],hw.b0⟩
theorem A0 (l:List UInt32) (V:Value) (a:UInt32) (w:World) (hV:Sl (hp w) aa l V) :
  Cr Tryz.prog 145 #[V,.int .u32 a.toNat] w (.int .i64 (bK (fun x=>decide (a=x)) 0 l)):=by
 have hV':Sl (Bg.of w).blk aa l V:=hV
 have hlen:=hV.len_le
 refine enter Tryz.func145 rfl Tryz.ntmps145 rfl (lN ?_)
 refine ed (.of (ι:=Nat) (fun k=>k≤l.length∧bK (fun x=>decide (a=x)) k (l.drop k)=bK (fun x=>decide (a=x)) 0 l) (fun _=>_) (fun k=>[]) (fun k=>[(8,.int .i64 (k:Nat))]) (fun k=>l.length - k)) 0 ⟨Nat.zero_le _,rfl⟩ (Front.c Front.nil) (fun k hi m hm=>?_)
 obtain ⟨hk1,hk2⟩:=hi
 refine zR6 ?_
 refine af rfl (fun h1=>?_) (fun h1=>?_)
 ·refine PT ?_
  refine af rfl (fun h2=>?_) (fun h2=>?_)
  ·refine fu ?_
   exact ah Tryz.results145 rfl fun w' hw=>⟨by rw [← hk2,drop_cons (k:=k) (by omega),bK,if_pos (by simp_all)],hw.b0⟩
  refine zR4 ?_
  refine zz0 (aZ rfl rfl) (zR3 ?_)
  refine bC (k+1) (Front.c Front.nil) (zz9 12 rfl) (o:=⟨by omega,by rw [← hk2,drop_cons (k:=k) (by omega),bK,if_neg (by simp_all)]⟩)
 refine dy ?_
 exact ah Tryz.results145 rfl fun w' hw=>⟨by rw [← hk2,List.drop_of_length_le (by omega)]; rfl,hw.b0⟩
theorem Cw (l:List UInt32) (V:Value) (a:UInt32) (w:World) (hV:Sl (hp w) aa l V) :
  Cr Tryz.prog 76 #[V,.int .u32 a.toNat] w (.bool (Gm l a)):=by
 have hV':Sl (Bg.of w).blk aa l V:=hV
 have hlen:=hV.len_le
 refine enter Tryz.func76 rfl Tryz.ntmps76 rfl (zR9 ?_)
 refine zz0 (ac rfl Tryz.call145 (fun w hw=>A0 l V a w (hw.slF hV'))) (zR5 ?_)
 exact ah Tryz.results76 rfl fun w' hw=>⟨by rw [um]; rfl,hw.b0⟩
theorem jY (l:List UInt32) (V:Value) (w:World) (hV:Sl (hp w) aa l V) (hb:l.length≤1000000) :
  Calls Tryz.prog 57 #[V] w (fun e w'=>∃ V',e=.returned V'∧Ext w w'∧je w w' 23 aa (l) V'):=by
 have hV':Sl (Bg.of w).blk aa l V:=hV
 refine enter Tryz.func57 rfl Tryz.ntmps57 rfl (zR9 ?_)
 refine zz0 (rE rfl (by assumption) au) (zR2 ?_)
 refine af rfl (fun h1=>?_) (fun h1=>?_)
 ·refine zR7 ?_
  exact ah Tryz.results57 rfl fun w' hw=>⟨_,rfl,hw.b0,eS (hV.isNil h1)⟩
 refine oH (xq aa au aj rfl (fun V2=>zz0 (ae rfl) ?_))
 refine Fy rfl rfl (by repeat constructor) (fun w hw=>hw.slF (by assumption)) au dA (fun V3=>?_)
 refine zR4 ?_
 exact ah Tryz.results57 rfl fun w' hw=>⟨_,rfl,hw.b0,hw.new (.head _)⟩
theorem Be (l:List Ins) (V:Value) (w:World) (hV:Sl (hp w) am l V) (hb:l.length≤1000000) :
  Calls Tryz.prog 77 #[V] w (fun e w'=>∃ V',e=.returned V'∧Ext w w'∧je w w' 36 am (l) V'):=by
 have hV':Sl (Bg.of w).blk am l V:=hV
 refine enter Tryz.func77 rfl Tryz.ntmps77 rfl (zR9 ?_)
 refine zz0 (rE rfl (by assumption) cC) (zR2 ?_)
 refine af rfl (fun h1=>?_) (fun h1=>?_)
 ·refine zR7 ?_
  exact ah Tryz.results77 rfl fun w' hw=>⟨_,rfl,hw.b0,eS (hV.isNil h1)⟩
 refine oH (xq am cC aw rfl (fun V2=>zz0 (ae rfl) ?_))
 refine Fy rfl rfl (by repeat constructor) (fun w hw=>hw.slF (by assumption)) cC l7 (fun V3=>?_)
 refine zR4 ?_
 exact ah Tryz.results77 rfl fun w' hw=>⟨_,rfl,hw.b0,hw.new (.head _)⟩
theorem tf (l:List Ins) (V:Value) (g:FuncId) (cb:List Value) (w:World) (hV:Sl (hp w) am l V) (eg:∀ args w,(callFunc g args).run Tryz.prog w=.ok (.enter g args) w) (p:Ins→Bool) (hp:∀ x,x∈l→∀ w',Ext w w'→Calls Tryz.prog g ([Value.agg (am.enc x).toArray] ++ cb).toArray w' fun e w''=>e=.returned (.bool (p x))∧Ext w' w'') :
  Cr Tryz.prog 152 #[V,.func (.func g) #[] cb.toArray] w (.int .i64 (bK p 0 l)):=by
 have hV':Sl (Bg.of w).blk am l V:=hV
 have hlen:=hV.len_le
 refine enter Tryz.func152 rfl Tryz.ntmps152 rfl (lN ?_)
 refine ed (.of (ι:=Nat) (fun k=>k≤l.length∧bK p k (l.drop k)=bK p 0 l) (fun _=>_) (fun k=>[]) (fun k=>[(8,.int .i64 (k:Nat))]) (fun k=>l.length - k)) 0 ⟨Nat.zero_le _,rfl⟩ (Front.c Front.nil) (fun k hi m hm=>?_)
 obtain ⟨hk1,hk2⟩:=hi
 refine zR6 ?_
 refine af rfl (fun h1=>?_) (fun h1=>?_)
 ·refine xz ?_
  refine zz0 (iS rfl rfl eg (fun w hw=>hp _ (bB (by omega)) w (hw.b0))) (zR2 ?_)
  refine af rfl (fun h2=>?_) (fun h2=>?_)
  ·refine fu ?_
   exact ah Tryz.results152 rfl fun w' hw=>⟨by rw [← hk2,drop_cons (k:=k) (by omega),bK,if_pos (by assumption)],hw.b0⟩
  refine zR4 ?_
  refine zz0 (aZ rfl rfl) (zR3 ?_)
  refine bC (k+1) (Front.c Front.nil) (zz9 12 rfl) (o:=⟨by omega,by rw [← hk2,drop_cons (k:=k) (by omega),bK,if_neg (by simp_all)]⟩)
 refine dy ?_
 exact ah Tryz.results152 rfl fun w' hw=>⟨by rw [← hk2,List.drop_of_length_le (by omega)]; rfl,hw.b0⟩
theorem qn (l:List Ins) (V:Value) (g:FuncId) (cb:List Value) (w:World) (hV:Sl (hp w) am l V) (eg:∀ args w,(callFunc g args).run Tryz.prog w=.ok (.enter g args) w) (p:Ins→Bool) (hp:∀ x,x∈l→∀ w',Ext w w'→Calls Tryz.prog g ([Value.agg (am.enc x).toArray] ++ cb).toArray w' fun e w''=>e=.returned (.bool (p x))∧Ext w' w'') :
  Cr Tryz.prog 86 #[V,.func (.func g) #[] cb.toArray] w (.bool (l.any p)):=by
 have hV':Sl (Bg.of w).blk am l V:=hV
 refine enter Tryz.func86 rfl Tryz.ntmps86 rfl (zR9 ?_)
 refine zz0 (ac rfl Tryz.call152 (fun w hw=>tf l V g cb w (hw.slF hV') eg p (fun x hx w'' h=>hp x hx w'' ((hw.b0).trans h)))) (zR5 ?_)
 exact ah Tryz.results86 rfl fun w' hw=>⟨by rw [um],hw.b0⟩
theorem sF (a b:List UInt32) (V W:Value) (w:World) (hV:Sl (hp w) aa a V) (hW:Sl (hp w) aa b W) :
  Cr Tryz.prog 22 #[V,W] w (.bool (decide (a=b))):=by
 have hV':Sl (Bg.of w).blk aa a V:=hV
 have hW':Sl (Bg.of w).blk aa b W:=hW
 have hl1:=hV.len_le
 have hl2:=hW.len_le
 refine enter Tryz.func22 rfl Tryz.ntmps22 rfl (qE ?_)
 refine af rfl (fun h1=>?_) (fun h1=>?_)
 ·refine zR7 ?_
  exact ah Tryz.results22 rfl fun w' hw=>⟨by rw [decide_eq_false (fun e=>by subst e; omega)],hw.b0⟩
 refine zR9 ?_
 refine ed (.of (ι:=Nat) (fun k=>k≤a.length∧a.take k=b.take k) (fun _=>_) (fun k=>[]) (fun k=>[(5,.int .i64 (k:Nat))]) (fun k=>a.length - k)) 0 ⟨by omega,rfl⟩ (Front.c Front.nil) (fun k hi m hm=>?_)
 obtain ⟨hk1,hk3⟩:=hi
 refine zR9 ?_
 refine af rfl (fun h2=>?_) (fun h2=>?_)
 ·refine zR5 ?_
  refine ip ak (Io ?_)
  refine af rfl (fun h3=>?_) (fun h3=>?_)
  ·refine dy ?_
   exact ah Tryz.results22 rfl fun w' hw=>⟨by rw [decide_eq_false (fun e=>by subst e; simp_all)],hw.b0⟩
  refine zR5 ?_
  refine zz0 (aZ rfl rfl) (zR3 ?_)
  refine bC (k+1) (Front.c Front.nil) (zz9 17 rfl) (o:=⟨by omega,by rw [bX (by omega),bX (by omega),hk3]; congr 2⟩)
 refine dy ?_
 exact ah Tryz.results22 rfl fun w' hw=>⟨by rw [decide_eq_true (show a=b by rw [← List.take_of_length_le (show a.length≤k by omega),hk3,List.take_of_length_le (by omega)])],hw.b0⟩
theorem Jn (l:List UInt32) (V:Value) (a:UInt32) (w:World) (hV:Sl (hp w) aa l V) :
  Cr Tryz.prog 32 #[V,.int .u32 a.toNat] w (.bool (Gm l a)):=by
 have hV':Sl (Bg.of w).blk aa l V:=hV
 have hlen:=hV.len_le
 refine enter Tryz.func32 rfl Tryz.ntmps32 rfl (fu ?_)
 refine ed (.of (ι:=Nat) (fun k=>k≤l.length∧(l.take k).any (fun x=>decide (a=x))=false) (fun _=>_) (fun k=>[]) (fun k=>[(5,.int .i64 (k:Nat))]) (fun k=>l.length - k)) 0 ⟨Nat.zero_le _,rfl⟩ (Front.c Front.nil) (fun k hi m hm=>?_)
 obtain ⟨hk1,hk2⟩:=hi
 refine zR9 ?_
 refine af rfl (fun h1=>?_) (fun h1=>?_)
 ·refine lN ?_
  refine af rfl (fun h2=>?_) (fun h2=>?_)
  ·refine dy ?_
   exact ah Tryz.results32 rfl fun w' hw=>⟨by rw [Gm,List.any_eq_true.2 ⟨_,bB (k:=k) (by omega),by simp_all⟩],hw.b0⟩
  refine zR5 ?_
  refine zz0 (aZ rfl rfl) (zR3 ?_)
  refine bC (k+1) (Front.c Front.nil) (zz9 14 rfl) (o:=⟨by omega,by rw [any_take_succ (by omega),hk2,Bool.false_or]; exact decide_eq_false (fun e=>by simp_all)⟩)
 refine dy ?_
 exact ah Tryz.results32 rfl fun w' hw=>⟨by rw [Gm,← hk2,List.take_of_length_le (by omega)],hw.b0⟩
end Go.Proofs.YtiajjbhcpeadfaaGreat
namespace Go.Proofs.YtiajjbhcpeadfaaGreat
open Go Go.HL Go.RowKit
theorem Dh (i:Ins) (w:World) (hI:InsOK i) :
  Calls Tryz.prog 224 #[.agg (am.enc i).toArray] w (fun e w'=>∃ V',e=.returned V'∧Ext w w'∧je w w' 23 aa (co i) V'):=by
 refine enter Tryz.func224 rfl Tryz.ntmps224 rfl (zR2 ?_)
 refine cm rfl rfl (fun b1=>zR7 ?_)
 refine zz0 (ac rfl lU (fun w hw=>lO i w hI)) (zR3 ?_)
 refine af rfl (fun h2=>?_) (fun h2=>?_)
 ·refine bE (aR 23 aa (zR6 ?_))
  exact ah Tryz.results224 rfl fun w' hw=>⟨_,rfl,hw.b0,by rw [show co i=[] by unfold co; rw [if_neg (by simp_all)]]; exact hw.new (.head _)⟩
 refine zR3 ?_
 refine aR 23 aa (zR4 ?_)
 refine fC (.of (ι:=Value) (fun V1=>True) (fun _=>Bg.of w) (fun V1=>[rowE V1 23 aa (if (bW i).2=true then [(bW i).1] else []),cellE b1 (am.enc i) 36]) (fun V1=>[(3,V1)])) ?_ (fun V1 hi=>?_)
 ·skip
  refine zR3 ?_
  refine zz0 (ac rfl Tryz.call144 (fun w hw=>tl i w)) (fu ?_)
  refine af rfl (fun h3=>?_) (fun h3=>?_)
  ·refine zR3 ?_
   refine g7 (E:=aa) (bW i).1 rfl rfl au aj ba (fun V4=>?_)
   refine zz3 rfl rfl au dA (fun V5=>?_)
   refine zR3 ?_
   refine fD (l':=if (bW i).2=true then [(bW i).1] else []) (by rw [if_pos (by assumption)]; rfl) ?_
   refine aQ _ (Front.c Front.nil) (zz9 13 rfl) (o:=trivial)
  refine mG (fD (l':=if (bW i).2=true then [(bW i).1] else []) (by rw [if_neg (by simp_all)]) ?_)
  refine aQ _ (Front.c Front.nil) (zz9 8 rfl) (o:=trivial)
 skip
 have htl:(if (bW i).2=true then [(bW i).1] else []).length≤1:=by split <;> simp
 refine fC (.of (ι:=Value) (fun V2=>True) (fun _=>Bg.of w) (fun V2=>[rowE V2 23 aa ((if (bW i).2=true then [(bW i).1] else []) ++ (if ke i=true then [] else [aV i])),cellE b1 (am.enc i) 36]) (fun V2=>[(3,V2)])) ?_ (fun V2 hi=>?_)
 ·skip
  refine zR3 ?_
  refine zz0 (ac rfl Tryz.call195 (fun w hw=>EE i w)) (zR3 ?_)
  refine af rfl (fun h6=>?_) (fun h6=>?_)
  ·refine zR3 ?_
   refine zz0 (ac rfl lX (fun w hw=>nw i w hI)) ?_
   refine g7 (E:=aa) (aV i) rfl rfl au aj ba (fun V7=>?_)
   refine zz3 rfl rfl au dA (fun V8=>?_)
   refine zR3 ?_
   refine fD (l':=(if (bW i).2=true then [(bW i).1] else []) ++ (if ke i=true then [] else [aV i])) (by rw [if_neg (c:=ke i=true) (by simp_all)]) ?_
   refine aQ _ (Front.c Front.nil) (zz9 9 rfl) (o:=trivial)
  refine mG (fD (l':=(if (bW i).2=true then [(bW i).1] else []) ++ (if ke i=true then [] else [aV i])) (by rw [if_pos (c:=ke i=true) (by simp_all),List.append_nil]) ?_)
  refine aQ _ (Front.c Front.nil) (zz9 3 rfl) (o:=trivial)
 skip
 refine zR7 ?_
 exact ah Tryz.results224 rfl fun w' hw=>⟨_,rfl,hw.b0,by rw [show co i=_ by unfold co; rw [if_pos (by simp_all)]]; exact hw.new (.head _)⟩
theorem EY (i:Ins) (a:UInt32) (b:Nat) (w:World) (hc:Cell (hp w) b 0 (.int .u32 a.toNat)) :
  Cr Tryz.prog 165 #[.agg (am.enc i).toArray,.pointer (some ⟨b,0,none⟩)] w (.bool (decide (i.addr=a))):=by
 have hc':Cell (Bg.of w).blk b 0 (.int .u32 a.toNat):=hc
 refine enter Tryz.func165 rfl Tryz.ntmps165 rfl (zR2 ?_)
 refine cm rfl rfl (fun b1=>zR7 ?_)
 refine zz0 (qA rfl (by assumption) dG) (zR5 ?_)
 exact ah Tryz.results165 rfl fun w' hw=>⟨rfl,hw.b0⟩
theorem GK (l:List Ins) (st:List StV) (a:UInt32) (V VS:Value) (w:World) (hV:Sl (hp w) am l V) (hS:Sl (hp w) bQ st VS) :
  Cr Tryz.prog 109 #[V,VS,.int .u32 a.toNat] w (.tuple #[.agg (bQ.enc (jy l st a).1).toArray,.bool (jy l st a).2]):=by
 have hV':Sl (Bg.of w).blk am l V:=hV
 have hS':Sl (Bg.of w).blk bQ st VS:=hS
 have hlS:=hS'.len_le
 have hix:=gi (fun i:Ins=>decide (i.addr=a)) l 0
 refine enter Tryz.func109 rfl Tryz.ntmps109 rfl (zR2 ?_)
 refine cm rfl rfl (fun b1=>?_)
 refine bS bR rfl (fun b2=>zR6 ?_)
 refine zz0 (eP rfl rfl) ?_
 refine zz0 (ac rfl Tryz.call152 (fun w hw=>tf l V _ _ w (hw.slF hV') Tryz.call165 (fun i=>decide (i.addr=a)) (fun x hx w'' h=>EY x a _ w'' (cellE.cell (hw.ent _ (by repeat constructor)) h rfl)))) (zR9 ?_)
 apply cE 5 14 19 (fun hF3 hF3'=>?_) ?_; rotate_right
 ·exact zE
 refine zR2 ?_
 refine af rfl (fun h4=>?_) (fun h4=>?_)
 ·refine eO (zz0 (aK (vs:=[]) rfl rfl (wI)) ?_)
  refine ad bQ rfl rfl aI ?_
  refine zR5 ?_
  refine kJ Tryz.results109 rfl rfl dY aI (fun w' hw=>?_)
  refine ⟨?_,hw.b0⟩
  unfold jy
  (repeat' split) <;> first|(exfalso; first|(simp_all; done)|grind)|rfl
 refine zR8 ?_
 refine ad bQ rfl rfl aI ?_
 refine zR4 ?_
 refine kJ Tryz.results109 rfl rfl dY aI (fun w' hw=>?_)
 refine ⟨?_,hw.b0⟩
 unfold jy
 (repeat' split) <;> first|(exfalso; first|(simp_all; done)|grind)|rfl
end Go.Proofs.YtiajjbhcpeadfaaGreat
namespace Go.Proofs.YtiajjbhcpeadfaaGreat
open Go Go.HL Go.RowKit
theorem Br (l:List Ins) (st:List StV) (gd:List Int) (bx bm:Nat) (VI VEd VG VB VV VM:Value) (k:Nat) (ee:Int × Bool) (w:World) (hx:CellsIn (hp w) bx [VI,.map (some bm),VEd,VG,VB,VV,VM]) (hI:Sl (hp w) am l VI) (hG:Sl (hp w) aN gd VG) (hB:Sl (hp w) bQ st VB) (hIO:∀ x∈l,InsOK x) (hgl:gd.length=l.length) (hsl:st.length=l.length) (hgd:∀ j,j<gd.length→gd.getD j default<(l.length:Int)) (hk:k<l.length) :
  Cr Tryz.prog 226 #[.pointer (some ⟨bx,0,none⟩),.int .i64 (k:Nat),.agg (ei.enc ee).toArray] w (.agg (bQ.enc (fR l st gd k ee)).toArray):=by
 have hx':CellsIn (Bg.of w).blk bx [VI,.map (some bm),VEd,VG,VB,VV,VM]:=hx
 have hI':Sl (Bg.of w).blk am l VI:=hI
 have hG':Sl (Bg.of w).blk aN gd VG:=hG
 have hB':Sl (Bg.of w).blk bQ st VB:=hB
 have hlI:=hI'.len_le
 have hgk:=hgd k (by omega)
 have hio:=hIO _ (bB hk)
 refine enter Tryz.func226 rfl Tryz.ntmps226 rfl (zR2 ?_)
 refine cm rfl rfl (fun b1=>?_)
 refine bS bR rfl (fun b2=>zR2 ?_)
 refine ga (ι:=Nat × Nat) (fun ⟨p,q⟩=>True) (fun _=>Bg.of w) (fun ⟨p,q⟩=>[cellE q (bQ.enc (st.getD k default)) 37,cellE p (am.enc (l.getD k default)) 36,cellE b2 (bQ.enc kh) 37,cellE b1 (ei.enc ee) 274]) (fun ⟨p,q⟩=>[(8,.pointer (some ⟨q,0,none⟩)),(7,.pointer (some ⟨p,0,none⟩))]) ?_ (fun i hi=>?_)
 ·skip
  refine aL ([cellE b2 (bQ.enc kh) 37,cellE b1 (ei.enc ee) 274]) 18 rfl ak ?_
  refine zz1 0 rfl (ae rfl) ?_
  refine zz1 1 rfl (aA rfl) ?_
  refine zz1 2 rfl (aD rfl) ?_
  refine zz1 3 rfl (lh rfl Tryz.isAgg50) ?_
  refine zz1 4 rfl (ae rfl) ?_
  refine zz1 5 rfl (nO rfl rfl) ?_
  refine zz1 6 rfl (tQ rfl) ?_
  refine zz1 7 rfl (ae rfl) ?_
  refine zz1 8 rfl (aA rfl) ?_
  refine zz1 9 rfl (aD rfl) ?_
  refine zz1 10 rfl (lh rfl mF) ?_
  refine zz1 11 rfl (ae rfl) ?_
  refine zz1 12 rfl (nO rfl rfl) ?_
  refine zz1 13 rfl (tQ rfl) ?_
  refine lH [14,15] (fun iq hq=>?_)
  rcases List.mem_cons.1 hq with rfl|hq
  ·skip
   refine bY rfl ?_
   refine bS aJ rfl (fun b3=>?_)
   refine ay ?_
   refine ao 15 rfl ?_
   refine bS bR rfl (fun b4=>?_)
   refine ay ?_
   refine ao 16 rfl ?_
   refine ad am rfl rfl aw ?_
   refine ay ?_
   refine ao 17 rfl ?_
   refine ad bQ rfl rfl aI ?_
   refine ay ?_
   refine dK (az ?_)
   refine aQ (_,_) (Front.c (Front.c Front.nil)) (zz9 16 rfl) (o:=trivial)
  obtain rfl:=List.mem_singleton.1 hq
  refine bY rfl ?_
  refine bS bR rfl (fun b5=>?_)
  refine ay ?_
  refine ao 14 rfl ?_
  refine bS aJ rfl (fun b6=>?_)
  refine ay ?_
  refine ao 16 rfl ?_
  refine ad am rfl rfl aw ?_
  refine ay ?_
  refine ao 17 rfl ?_
  refine ad bQ rfl rfl aI ?_
  refine ay ?_
  refine dK (az ?_)
  refine aQ (_,_) (Front.c (Front.c Front.nil)) (zz9 16 rfl) (o:=trivial)
 obtain ⟨p,q⟩:=i
 replace hi:True:=hi
 change Tr _ _ [cellE q (bQ.enc (st.getD k default)) 37,cellE p (am.enc (l.getD k default)) 36,cellE b2 (bQ.enc kh) 37,cellE b1 (ei.enc ee) 274] ([(8,.pointer (some ⟨q,0,none⟩)),(7,.pointer (some ⟨p,0,none⟩))] ++ _) _
 refine zR8 ?_
 apply cE 4 27 31 (fun hF7 hF7'=>?_) ?_; rotate_right
 ·exact zE
 refine zR3 ?_
 refine af rfl (fun h8=>?_) (fun h8=>?_)
 ·refine eO (zz0 (ac rfl Tryz.call162 (fun w hw=>rJ w)) ?_)
  refine ad bQ rfl rfl aI ?_
  refine zR5 ?_
  refine d6 pj rfl dY aI (fun w' hw=>?_)
  refine ⟨?_,hw.b0⟩
  unfold fR
  (repeat' split) <;> first|(exfalso; first|(simp_all; done)|grind)|rfl
 refine zR6 ?_
 apply cj 9 37 46 (fun hT9 hT9'=>?_) ?_; rotate_right
 ·refine zR3 ?_
  refine zz5 hT9 (lh rfl oD) (zz5 hT9 (ae rfl) ?_)
  refine zz5 hT9 (nO rfl rfl) ?_
  refine zz5 hT9 (pP rfl) ?_
  exact zE
 refine zR3 ?_
 refine af rfl (fun h10=>?_) (fun h10=>?_)
 ·refine bE (fE 0 19 ak ?_)
  refine aG (zT5 ?_)
  refine aB (lh rfl Tryz.isAgg50) (zT3 ?_)
  refine aB (lh rfl oD) (zT3 ?_)
  refine aB (pO rfl rfl) ?_
  refine aB (tQ rfl) (zT3 ?_)
  refine aB (ac rfl Tryz.call269 (fun w hw=>FO (l.getD k default).cc (l.getD (gd.getD k default).toNat default) (st.getD k default) ee.2 w (hIO _ (bB (by omega))))) (eB ?_)
  refine ad bQ rfl rfl aI ?_
  refine zR5 ?_
  refine d6 pj rfl dY aI (fun w' hw=>?_)
  refine ⟨?_,hw.b0⟩
  unfold fR
  (repeat' split) <;> first|(exfalso; first|(simp_all; done)|grind)|rfl
 refine zR7 ?_
 refine zz0 (ac rfl Tryz.call270 (fun w hw=>BN (l.getD k default) (st.getD k default) w hio)) ?_
 refine ad bQ rfl rfl aI ?_
 refine lD (jQ (d6 pj rfl dY aI (fun w' hw=>?_)))
 refine ⟨?_,hw.b0⟩
 unfold fR
 (repeat' split) <;> first|(exfalso; first|(simp_all; done)|grind)|rfl
end Go.Proofs.YtiajjbhcpeadfaaGreat
namespace Go.Proofs.YtiajjbhcpeadfaaGreat
open Go Go.HL Go.RowKit
theorem Qm:StTy Tryz.prog 37 :=
 ⟨⟨26,25,_,_,Tryz.underlying37,by decide,rfl,rfl,by kernel_rfl,bA,Tryz.isAgg26,Tryz.sizeOf26,g9,sC _ g9,rfl,tU,aF,ab⟩⟩
theorem Qc:Tryz.prog.eqGuardType Tryz.prog.depth 37=false:=by kernel_rfl
theorem Is (l:List Ins) (gd:List Int) (eds:List EdV) (s:VSt) (bx bm k:Nat) (VI VEd VG VB VV VM:Value) (w:World) (ho:OwnAt w [rowE VB 37 bQ s.st,rowE VV 3 aN s.vs,rowE VM 4 bO s.mb]) (hx:CellsIn (Bg.lessB w (aT [rowE VB 37 bQ s.st,rowE VV 3 aN s.vs,rowE VM 4 bO s.mb]) 0).blk bx [VI,.map (some bm),VEd,VG,VB,VV,VM]) (hI:Sl (Bg.lessB w (aT [rowE VB 37 bQ s.st,rowE VV 3 aN s.vs,rowE VM 4 bO s.mb]) 0).blk am l VI) (hG:Sl (Bg.lessB w (aT [rowE VB 37 bQ s.st,rowE VV 3 aN s.vs,rowE VM 4 bO s.mb]) 0).blk aN gd VG) (hE:Sl (Bg.lessB w (aT [rowE VB 37 bQ s.st,rowE VV 3 aN s.vs,rowE VM 4 bO s.mb]) 0).blk g5 eds VEd) (hEI:Qq (Bg.lessB w (aT [rowE VB 37 bQ s.st,rowE VV 3 aN s.vs,rowE VM 4 bO s.mb]) 0).blk eds) (hIO:∀ x∈l,InsOK x) (hgl:gd.length=l.length) (hsl:s.st.length=l.length) (hvl:s.vs.length=l.length) (hml:s.mb.length=l.length) (hel:eds.length=l.length) (hgd:∀ j,j<gd.length→gd.getD j default<(l.length:Int)) (heb:∀ e∈(eds.getD k default).data,0≤e.1∧e.1<(l.length:Int)) (hvb:∀ v∈s.vs,0≤v∧v≤1000000) (hk:k<l.length) :
  Calls Tryz.prog 164 #[.pointer (some ⟨bx,0,none⟩),.int .i64 (k:Nat)] w (fun e w'=>∃ _:Unit,e=.returned (.tuple #[])∧Upd 0 w w' (aT [rowE VB 37 bQ s.st,rowE VV 3 aN s.vs,rowE VM 4 bO s.mb]) [rowE VB 37 bQ (jE l gd (eds.getD k default).data k s).st,rowE VV 3 aN (jE l gd (eds.getD k default).data k s).vs,rowE VM 4 bO (jE l gd (eds.getD k default).data k s).mb]∧True):=by
 have hvk:=hvb _ (bB (k:=k) (by omega))
 have hEk:=hEI _ (bB (k:=k) (by omega))
 have hlI:=hI.len_le
 have hEl:=hEk.len_le
 refine iW (L:=[rowE VB 37 bQ s.st,rowE VV 3 aN s.vs,rowE VM 4 bO s.mb]) ho rfl (Nat.zero_le _) Tryz.func164 rfl Tryz.ntmps164 rfl (zR5 ?_)
 refine zz0 (lh rfl oC) (zR2 ?_)
 refine gg (l:=s.mb) (i:=k) (false) rfl rfl iu ?_
 have hls1:(List.set s.mb (k) (false)).length=(s.mb).length:=List.length_set
 refine zR7 ?_
 refine zz0 (lh rfl oD) (zR3 ?_)
 refine zz0 (aZ rfl rfl) (zz0 (kU rfl rfl) ?_)
 refine gg (l:=s.vs) (i:=k) ((s.vs.getD k default+1)) rfl rfl bL ?_
 have hls2:(List.set s.vs (k) ((s.vs.getD k default+1))).length=(s.vs).length:=List.length_set
 refine zR7 ?_
 refine zz0 (lh rfl Tryz.isAgg226) (zR8 ?_)
 change Tr _ _ [rowE VB 37 bQ (((eds.getD k default).data.take 0).foldl (cY l gd k) (fG k s)).st,rowE VV 3 aN (((eds.getD k default).data.take 0).foldl (cY l gd k) (fG k s)).vs,rowE VM 4 bO (((eds.getD k default).data.take 0).foldl (cY l gd k) (fG k s)).mb] _ _
 refine ed (.of (ι:=Nat) (fun j=>j≤(eds.getD k default).data.length) (fun _=>(Bg.lessB w (aT [rowE VB 37 bQ s.st,rowE VV 3 aN s.vs,rowE VM 4 bO s.mb]) 0)) (fun j=>[rowE VB 37 bQ (((eds.getD k default).data.take j).foldl (cY l gd k) (fG k s)).st,rowE VV 3 aN (((eds.getD k default).data.take j).foldl (cY l gd k) (fG k s)).vs,rowE VM 4 bO (((eds.getD k default).data.take j).foldl (cY l gd k) (fG k s)).mb]) (fun j=>[(32,.int .i64 (j:Nat))]) (fun j=>(eds.getD k default).data.length - j)) 0 (Nat.zero_le _) (Front.c Front.nil) (fun j hi m hm=>?_)
 obtain ⟨S,hS⟩:∃ S,S=(((eds.getD k default).data.take j).foldl (cY l gd k) (fG k s)):=⟨_,rfl⟩
 rw [← hS]
 have hvf:=ns l gd k ((eds.getD k default).data.take j) (fG k s)
 rw [← hS] at hvf
 have hSt:S.st.length=l.length:=hvf.1.trans hsl
 have hSm:S.mb.length=l.length:=hvf.2.2.trans (List.length_set.trans hml)
 have hSv:S.vs.length=l.length:=(congrArg List.length hvf.2.1).trans (List.length_set.trans hvl)
 refine zR6 ?_
 refine af rfl (fun h3=>?_) (fun h3=>?_)
 ·refine zR5 ?_
  have hej:=heb _ (bB (k:=j) (by omega))
  refine zR3 ?_
  refine bS mQ rfl (fun b4=>?_)
  refine ad ei rfl rfl Tryz.sizeOf274 ?_
  refine zR2 ?_
  refine fC (.of (ι:=Nat) (fun bo=>True) (fun _=>(Bg.lessB w (aT [rowE VB 37 bQ s.st,rowE VV 3 aN s.vs,rowE VM 4 bO s.mb]) 0)) (fun bo=>[cellE bo (bQ.enc (S.st.getD ((eds.getD k default).data.getD j default).1.toNat default)) 37,cellE b4 (ei.enc ((eds.getD k default).data.getD j default)) 274,rowE VB 37 bQ S.st,rowE VV 3 aN S.vs,rowE VM 4 bO S.mb]) (fun bo=>[(6,.pointer (some ⟨bo,0,none⟩))])) ?_ (fun bo hi=>?_)
  ·skip
   refine aL ([cellE b4 (ei.enc ((eds.getD k default).data.getD j default)) 274,rowE VB 37 bQ S.st,rowE VV 3 aN S.vs,rowE VM 4 bO S.mb]) 10 rfl ak ?_
   refine zz1 0 rfl (ae rfl) ?_
   refine zz1 1 rfl (aA rfl) ?_
   refine zz1 2 rfl (aD rfl) ?_
   refine zz1 3 rfl (lh rfl mF) ?_
   refine zz1 4 rfl (aD rfl) ?_
   refine zz1 5 rfl (cH rfl) ?_
   refine zz1 6 rfl (kT rfl rfl) ?_
   refine zz1 7 rfl (zC rfl) ?_
   refine ao 8 rfl ?_
   refine bS bR rfl (fun b5=>?_)
   refine ay ?_
   refine ao 9 rfl ?_
   refine ad bQ rfl rfl aI ?_
   refine ay ?_
   refine dK (az ?_)
   refine aQ _ (Front.c Front.nil) (zz9 9 rfl) (o:=trivial)
  skip
  refine fC (.of (ι:=Nat) (fun bn=>True) (fun _=>(Bg.lessB w (aT [rowE VB 37 bQ s.st,rowE VV 3 aN s.vs,rowE VM 4 bO s.mb]) 0)) (fun bn=>[cellE bn (bQ.enc (jH (S.st.getD ((eds.getD k default).data.getD j default).1.toNat default) (fR l S.st gd k ((eds.getD k default).data.getD j default)) 8)) 37,cellE bo (bQ.enc (S.st.getD ((eds.getD k default).data.getD j default).1.toNat default)) 37,cellE b4 (ei.enc ((eds.getD k default).data.getD j default)) 274,rowE VB 37 bQ S.st,rowE VV 3 aN S.vs,rowE VM 4 bO S.mb]) (fun bn=>[(7,.pointer (some ⟨bn,0,none⟩))])) ?_ (fun bn hi=>?_)
  ·skip
   refine aL ([cellE bo (bQ.enc (S.st.getD ((eds.getD k default).data.getD j default).1.toNat default)) 37,cellE b4 (ei.enc ((eds.getD k default).data.getD j default)) 274,rowE VB 37 bQ S.st,rowE VV 3 aN S.vs,rowE VM 4 bO S.mb]) 8 rfl ak ?_
   refine zz1 0 rfl (bU rfl) ?_
   refine zz1 1 rfl (ae rfl) ?_
   refine zz1 2 rfl (ae rfl) ?_
   refine zz1 3 rfl (bU rfl) ?_
   refine lH [4,6] (fun iq hq=>?_)
   rcases List.mem_cons.1 hq with rfl|hq
   ·skip
    refine bY rfl ?_
    refine zz0 (ac rfl Tryz.call226 (fun w hw=>Br l _ gd bx bm VI VEd VG VB VV VM k _ w (hx.mono hw.bg) (hw.slF hI) (hw.slF hG) (hw.row (by repeat constructor)) hIO hgl (by omega) hgd hk)) ?_
    refine ay ?_
    refine lH [5,6] (fun iq hq=>?_)
    rcases List.mem_cons.1 hq with rfl|hq
    ·skip
     refine bY rfl ?_
     refine zz0 (ac rfl ru (fun w hw=>qY _ _ w)) ?_
     refine ay ?_
     refine ao 6 rfl ?_
     refine bS bR rfl (fun b6=>?_)
     refine ay ?_
     refine ao 7 rfl ?_
     refine ad bQ rfl rfl aI ?_
     refine ay ?_
     refine dK (az ?_)
     refine aQ _ (Front.c Front.nil) (zz9 7 rfl) (o:=trivial)
    obtain rfl:=List.mem_singleton.1 hq
    refine bY rfl ?_
    refine bS bR rfl (fun b7=>?_)
    refine ay ?_
    refine ao 5 rfl ?_
    refine zz0 (ac rfl ru (fun w hw=>qY _ _ w)) ?_
    refine ay ?_
    refine ao 7 rfl ?_
    refine ad bQ rfl rfl aI ?_
    refine ay ?_
    refine dK (az ?_)
    refine aQ _ (Front.c Front.nil) (zz9 7 rfl) (o:=trivial)
   obtain rfl:=List.mem_singleton.1 hq
   refine bY rfl ?_
   refine bS bR rfl (fun b8=>?_)
   refine ay ?_
   refine ao 4 rfl ?_
   refine zz0 (ac rfl Tryz.call226 (fun w hw=>Br l _ gd bx bm VI VEd VG VB VV VM k _ w (hx.mono hw.bg) (hw.slF hI) (hw.slF hG) (hw.row (by repeat constructor)) hIO hgl (by omega) hgd hk)) ?_
   refine ay ?_
   refine ao 5 rfl ?_
   refine zz0 (ac rfl ru (fun w hw=>qY _ _ w)) ?_
   refine ay ?_
   refine ao 7 rfl ?_
   refine ad bQ rfl rfl aI ?_
   refine ay ?_
   refine dK (az ?_)
   refine aQ _ (Front.c Front.nil) (zz9 7 rfl) (o:=trivial)
  skip
  refine fC (.of (ι:=StV) (fun x1=>x1=qh l gd k S ((eds.getD k default).data.getD j default)) (fun _=>(Bg.lessB w (aT [rowE VB 37 bQ s.st,rowE VV 3 aN s.vs,rowE VM 4 bO s.mb]) 0)) (fun x1=>[cellE bn (bQ.enc x1) 37,cellE bo (bQ.enc (S.st.getD ((eds.getD k default).data.getD j default).1.toNat default)) 37,cellE b4 (ei.enc ((eds.getD k default).data.getD j default)) 274,rowE VB 37 bQ S.st,rowE VV 3 aN S.vs,rowE VM 4 bO S.mb]) (fun x1=>[])) ?_ (fun x1 hi=>?_)
  ·skip
   refine bE (ip ak (zT3 ?_))
   refine aB (lh rfl oD) (zT4 ?_)
   refine aB (vR rfl rfl) (zT2 ?_)
   refine af rfl (fun h9=>?_) (fun h9=>?_)
   ·refine zR6 ?_
    refine ed (.of (ι:=Nat) (fun r=>r≤8) (fun _=>(Bg.lessB w (aT [rowE VB 37 bQ s.st,rowE VV 3 aN s.vs,rowE VM 4 bO s.mb]) 0)) (fun r=>[cellE bn (bQ.enc (wL (S.st.getD ((eds.getD k default).data.getD j default).1.toNat default) (jH (S.st.getD ((eds.getD k default).data.getD j default).1.toNat default) (fR l S.st gd k ((eds.getD k default).data.getD j default)) 8) r)) 37,cellE bo (bQ.enc (S.st.getD ((eds.getD k default).data.getD j default).1.toNat default)) 37,cellE b4 (ei.enc ((eds.getD k default).data.getD j default)) 274,rowE VB 37 bQ S.st,rowE VV 3 aN S.vs,rowE VM 4 bO S.mb]) (fun r=>[(59,.int .i64 (r:Nat))]) (fun r=>8 - r)) 0 (Nat.zero_le _) (Front.c Front.nil) (fun r hi m hm=>?_)
    have hgr:=Dc (S.st.getD ((eds.getD k default).data.getD j default).1.toNat default) (jH (S.st.getD ((eds.getD k default).data.getD j default).1.toNat default) (fR l S.st gd k ((eds.getD k default).data.getD j default)) 8) r hi r (Nat.le_refl _)
    refine zR6 ?_
    refine af rfl (fun h10=>?_) (fun h10=>?_)
    ·refine df ?_
     refine fE 0 12 ak ?_
     refine aG (zT3 ?_)
     refine aB (fX rfl rfl bA ab) ?_
     refine aB (eQ (vs:=aM.enc ((S.st.getD ((eds.getD k default).data.getD j default).1.toNat default).get (r:Int))) rfl (by repeat constructor) aF ab (mK ⟨by omega,by omega⟩ (by simp)) rfl) (zT2 ?_)
     refine aB (fX rfl rfl bA ab) ?_
     refine aB (eQ (vs:=aM.enc ((wL (S.st.getD ((eds.getD k default).data.getD j default).1.toNat default) (jH (S.st.getD ((eds.getD k default).data.getD j default).1.toNat default) (fR l S.st gd k ((eds.getD k default).data.getD j default)) 8) r).get (r:Int))) rfl (by repeat constructor) aF ab (mK ⟨by omega,by omega⟩ (by simp)) rfl) ?_
     refine aB (ac rfl Tryz.call227 (fun w hw=>JZ _ _ w)) (aB (aD rfl) ?_)
     refine aB (fX rfl rfl bA ab) (eB ?_)
     refine ff rfl rfl ab (by repeat constructor) ((mJ (s:=wL (S.st.getD ((eds.getD k default).data.getD j default).1.toNat default) (jH (S.st.getD ((eds.getD k default).data.getD j default).1.toNat default) (fR l S.st gd k ((eds.getD k default).data.getD j default)) 8) r) (k:=(r:Int)) ⟨by omega,by omega⟩ (by simp) (lm ((S.st.getD ((eds.getD k default).data.getD j default).1.toNat default).get (r:Int)) ((wL (S.st.getD ((eds.getD k default).data.getD j default).1.toNat default) (jH (S.st.getD ((eds.getD k default).data.getD j default).1.toNat default) (fR l S.st gd k ((eds.getD k default).data.getD j default)) 8) r).get (r:Int)))).trans (congrArg bQ.enc (show _=wL (S.st.getD ((eds.getD k default).data.getD j default).1.toNat default) (jH (S.st.getD ((eds.getD k default).data.getD j default).1.toNat default) (fR l S.st gd k ((eds.getD k default).data.getD j default)) 8) (r+1) by rw [hgr (by omega)]; rfl))) (by rfl) (mL (k:=(r:Int)) ⟨by omega,by omega⟩ (by simp)) (by first|exact Enc.one aM _|exact List.all_eq_true.1 rfl) rfl (zR4 ?_)
     refine zz0 (aZ rfl rfl) (zR3 ?_)
     refine bC (r+1) (Front.c Front.nil) (zz9 18 rfl) (o:=(by show r+1≤_; omega))
    refine zR5 ?_
    refine aQ _ Front.nil (zz9 12 rfl) (o:=(by show _=_; unfold qh; rw [if_pos (by assumption),show r=8 by omega]))
   refine zR2 ?_
   refine aQ _ Front.nil (zz9 9 rfl) (o:=(by show _=_; unfold qh; rw [if_neg (by assumption)]))
  skip
  have hx1:=hi
  refine zR4 ?_
  refine zz0 (M5 rfl rfl Qm Qc) (zR2 ?_)
  refine af rfl (fun h11=>?_) (fun h11=>?_)
  ·refine bE (fE 0 8 ak ?_)
   refine aG (zT3 ?_)
   refine aB (lh rfl mF) (zT5 ?_)
   refine gg (l:=S.st) (i:=((eds.getD k default).data.getD j default).1.toNat) (x1) rfl rfl aI ?_
   have hls12:(List.set S.st (((eds.getD k default).data.getD j default).1.toNat) (x1)).length=(S.st).length:=List.length_set
   refine lD (fE 0 7 ak ?_)
   refine aG (zT3 ?_)
   refine aB (lh rfl oC) (zT4 ?_)
   refine gg (l:=S.mb) (i:=((eds.getD k default).data.getD j default).1.toNat) (true) rfl rfl iu ?_
   have hls13:(List.set S.mb (((eds.getD k default).data.getD j default).1.toNat) (true)).length=(S.mb).length:=List.length_set
   refine fV (eK (az (aP (zz0 (aZ rfl rfl) (zR3 ?_)))))
   have hne:qh l gd k S ((eds.getD k default).data.getD j default)≠(S.st.getD ((eds.getD k default).data.getD j default).1.toNat default):=by rw [← hx1]; assumption
   have hfy:=LG (by omega) hS hne
   rw [← hx1] at hfy
   apply fW (j+1)
   ·exact rfl
   ·exact (Front.c Front.nil)
   ·exact zz9 27 rfl
   ·exact (by show Pick _ [rowE VB 37 bQ (((eds.getD k default).data.take (j+1)).foldl (cY l gd k) (fG k s)).st,rowE VV 3 aN (((eds.getD k default).data.take (j+1)).foldl (cY l gd k) (fG k s)).vs,rowE VM 4 bO (((eds.getD k default).data.take (j+1)).foldl (cY l gd k) (fG k s)).mb]; rw [hfy]; repeat' (first|exact Pick.nil _|exact Del.here _|apply Pick.cons|apply Del.there))
   ·exact (by show j+1≤_; omega)
   exact (by (try dsimp only); omega)
  refine fO (eK (az (aP (zz0 (aZ rfl rfl) (zR3 ?_)))))
  have hne:qh l gd k S ((eds.getD k default).data.getD j default)=(S.st.getD ((eds.getD k default).data.getD j default).1.toNat default):=by rw [← hx1]; assumption
  have hfn:=NY (by omega) hS hne
  apply fW (j+1)
  ·exact rfl
  ·exact (Front.c Front.nil)
  ·exact zz9 12 rfl
  ·exact (by show Pick _ [rowE VB 37 bQ (((eds.getD k default).data.take (j+1)).foldl (cY l gd k) (fG k s)).st,rowE VV 3 aN (((eds.getD k default).data.take (j+1)).foldl (cY l gd k) (fG k s)).vs,rowE VM 4 bO (((eds.getD k default).data.take (j+1)).foldl (cY l gd k) (fG k s)).mb]; rw [hfn]; repeat' (first|exact Pick.nil _|exact Del.here _|apply Pick.cons|apply Del.there))
  ·exact (by show j+1≤_; omega)
  exact (by (try dsimp only); omega)
 refine zR4 ?_
 refine dH Tryz.results164 (fun w' hw=>?_)
 have hSS:jE l gd (eds.getD k default).data k s=S:=by rw [hS,show j=(eds.getD k default).data.length by omega,List.take_length]; rfl
 rw [hSS]
 exact ⟨(),rfl,hw.upd (Bg.le.refl _) (by repeat' constructor),trivial⟩
end Go.Proofs.YtiajjbhcpeadfaaGreat
namespace Go.Proofs.YtiajjbhcpeadfaaGreat
open Go Go.HL Go.RowKit
theorem EK (l:List Ins) (e bx bm:Nat) (VI VB VV VM:Value) (w:World) (ho:OwnAt w [cellE bx [VI,.map (some bm),.slice none 0 0,.slice none 0 0,VB,VV,VM] 228]) (hI:Sl (Bg.lessB w [bx] 0).blk am l VI) (hA:MapIn (Bg.lessB w [bx] 0).blk bm jw (atK l l.length)) (hIO:∀ x∈l,InsOK x) (he:e<l.length) (hll:l.length≤4096) :
  Calls Tryz.prog 161 #[.pointer (some ⟨bx,0,none⟩),.int .i64 (e:Nat)] w (fun e' w'=>∃ i:Value × Value × List EdV,e'=.returned (.tuple #[])∧Upd 0 w w' (aT [cellE bx [VI,.map (some bm),.slice none 0 0,.slice none 0 0,VB,VV,VM] 228]) (cellE bx [VI,.map (some bm),i.1,i.2.1,VB,VV,VM] 228 :: rowE i.2.1 3 aN (dR l e) :: rowE i.1 272 g5 i.2.2 :: i.2.2.map (rvE 274 ei))∧i.2.2.map (·.data)=kO l):=by
 refine iW (L:=[cellE bx [VI,.map (some bm),.slice none 0 0,.slice none 0 0,VB,VV,VM] 228]) ho rfl (Nat.zero_le _) Tryz.func161 rfl Tryz.ntmps161 rfl (zR7 ?_)
 refine ja (E:=(cK (α:=Int))) default rfl rfl Tryz.underlying271 Fw rfl rfl rfl (by constructor <;> omega) rfl (fun b1=>?_)
 obtain ⟨VQ,hVQ⟩:∃ V,V=Value.slice (some ⟨b1,0,none⟩) (List.replicate l.length (default:RV Int)).length l.length:=⟨_,rfl⟩
 rw [← hVQ]
 refine dy ?_
 refine ja (E:=g5) default rfl rfl j2 Fv rfl rfl rfl (by constructor <;> omega) rfl (fun b2=>zR2 ?_)
 refine zz4 rfl rfl Tryz.sizeOf226 rfl ?_
 refine df ?_
 refine ja (E:=aN) 0 rfl rfl dT l8 rfl rfl rfl (by constructor <;> omega) rfl (fun b3=>zR2 ?_)
 refine zz4 rfl rfl Tryz.sizeOf224 rfl ?_
 change Tr _ _ [rowE (Value.slice (some ⟨b3,0,none⟩) (List.replicate l.length (0:Int)).length l.length) 3 aN (List.replicate l.length 0),rowE (Value.slice (some ⟨b2,0,none⟩) (List.replicate l.length (default:EdV)).length l.length) 272 g5 (List.replicate l.length default),rowE VQ 224 cK (List.replicate l.length default),cellE bx [VI,.map (some bm),Value.slice (some ⟨b2,0,none⟩) (List.replicate l.length (default:EdV)).length l.length,Value.slice (some ⟨b3,0,none⟩) (List.replicate l.length (0:Int)).length l.length,VB,VV,VM] 228] _ _
 obtain ⟨VE,hVE⟩:∃ V,V=Value.slice (some ⟨b2,0,none⟩) (List.replicate l.length (default:EdV)).length l.length:=⟨_,rfl⟩
 rw [← hVE]
 obtain ⟨VG,hVG⟩:∃ V,V=Value.slice (some ⟨b3,0,none⟩) (List.replicate l.length (0:Int)).length l.length:=⟨_,rfl⟩
 rw [← hVG]
 refine lN ?_
 refine MO 274 3 ei aN l.length ?_
 refine dO (ι:=Nat × List EdV × List (RV Int) × List Int) (fun ⟨k,rs,qs,gd⟩=>k≤l.length∧(rs.map (·.data)=(iy l k).es∧qs.map (·.data)=(iy l k).into)∧gd.length=l.length∧∀ j,j<k→gd.getD j default=-1) (fun _=>(Bg.lessB w [bx] 0)) (fun ⟨k,rs,qs,gd⟩=>(cellE bx [VI,.map (some bm),VE,VG,VB,VV,VM] 228 :: rowE VG 3 aN gd :: rowE VE 272 g5 rs :: rowE VQ 224 cK qs :: (rs.map (rvE 274 ei) ++ (qs.map (rvE 3 aN) ++ [])))) (fun ⟨k,rs,qs,gd⟩=>[(42,.int .i64 (k:Nat))]) (fun ⟨k,rs,qs,gd⟩=>l.length - k) (0,List.replicate l.length default,List.replicate l.length default,List.replicate l.length 0) ⟨Nat.zero_le _,⟨List.map_replicate,List.map_replicate⟩,List.length_replicate,fun j hj=>absurd hj (Nat.not_lt_zero _)⟩ (Front.c Front.nil) (hL:=(by repeat' (first|exact Pick.refl _|exact Del.here _|apply Pick.cons|apply Del.there|apply Pick.skip|exact Pick.nil _))) (fun i hi m hm=>?_)
 obtain ⟨k,rs,qs,gd⟩:=i
 dsimp only at hi hm
 change Tr _ _ (cellE bx [VI,.map (some bm),VE,VG,VB,VV,VM] 228 :: rowE VG 3 aN gd :: rowE VE 272 g5 rs :: rowE VQ 224 cK qs :: (rs.map (rvE 274 ei) ++ (qs.map (rvE 3 aN) ++ []))) ([(42,.int .i64 (k:Nat))] ++ _) _
 obtain ⟨hk,⟨hrs,hqs⟩,hgl,hgm⟩:=hi
 have hco:=ra l hk
 have hrl:rs.length=l.length:=by have:=congrArg List.length hrs; rw [List.length_map,hco.le] at this; exact this
 have hql:qs.length=l.length:=by have:=congrArg List.length hqs; rw [List.length_map,hco.li] at this; exact this
 refine zR6 ?_
 refine af rfl (fun h4=>?_) (fun h4=>?_)
 ·refine zR9 ?_
  refine bS aJ rfl (fun b5=>zz0 (bh rfl) ?_)
  refine ad am rfl rfl aw ?_
  refine df ?_
  refine gg (l:=gd) (i:=k) ((-1)) rfl rfl bL ?_
  have hls6:(List.set gd (k) ((-1))).length=(gd).length:=List.length_set
  refine zR4 ?_
  refine ip ak (zT6 ?_)
  refine aB (JL rfl rfl hA iO an jk) ?_
  rw [GM,if_neg (by have:=uz (l:=l) (k:=k) (by omega); omega),Option.getD_some]
  refine aB (ae rfl) (aB (zt rfl rfl) (zT2 ?_))
  refine af rfl (fun h7=>?_) (fun h7=>?_)
  ·refine zR5 ?_
   refine zz0 (aZ rfl rfl) (zR3 ?_)
   refine rA (k+1,rs,qs,gd.set k (-1)) (Front.c Front.nil) (zz9 24 rfl) (o:=⟨by omega,⟨by rw [H2 (by assumption)]; exact hrs,by rw [H2 (by assumption)]; exact hqs⟩,List.length_set.trans hgl,Pw (f:=fun _=>-1) hgl hgm (by omega)⟩)
  refine zR3 ?_
  have hne0:((iy l k).es.getD k []).length=0:=by rw [(y8 l k hk).2 k (Nat.le_refl _)]; rfl
  refine aP (zz0 (bU rfl) (dj rfl Tryz.call224 (fun w hw=>Dh (l.getD k default) w (hIO _ (bB (by omega)))) rfl (fun V8=>zR5 ?_)))
  refine dO (ι:=Nat × List EdV × List (RV Int)) (fun ⟨j,rs',qs'⟩=>j≤(co (l.getD k default)).length∧rs'.map (·.data)=(g6 l k (iy l k) j).es∧qs'.map (·.data)=(g6 l k (iy l k) j).into) (fun _=>(Bg.lessB w [bx] 0)) (fun ⟨j,rs',qs'⟩=>(rowE V8 23 aa (co (l.getD k default)) :: cellE b5 (am.enc (l.getD k default)) 36 :: cellE bx [VI,.map (some bm),VE,VG,VB,VV,VM] 228 :: rowE VG 3 aN (gd.set k (-1)) :: rowE VE 272 g5 rs' :: rowE VQ 224 cK qs' :: (rs'.map (rvE 274 ei) ++ (qs'.map (rvE 3 aN) ++ [])))) (fun ⟨j,rs',qs'⟩=>[(65,.int .i64 (j:Nat))]) (fun ⟨j,rs',qs'⟩=>(co (l.getD k default)).length - j) (0,rs,qs) ⟨Nat.zero_le _,hrs,hqs⟩ (Front.c Front.nil) (hL:=(by repeat' (first|exact Pick.refl _|exact Del.here _|apply Pick.cons|apply Del.there|apply Pick.skip|exact Pick.nil _))) (fun i hi m hm=>?_)
  obtain ⟨j,rs',qs'⟩:=i
  dsimp only at hi hm
  change Tr _ _ (rowE V8 23 aa (co (l.getD k default)) :: cellE b5 (am.enc (l.getD k default)) 36 :: cellE bx [VI,.map (some bm),VE,VG,VB,VV,VM] 228 :: rowE VG 3 aN (gd.set k (-1)) :: rowE VE 272 g5 rs' :: rowE VQ 224 cK qs' :: (rs'.map (rvE 274 ei) ++ (qs'.map (rvE 3 aN) ++ []))) ([(65,.int .i64 (j:Nat))] ++ _) _
  obtain ⟨hj,hrs',hqs'⟩:=hi
  have hjs0:=lr (l.getD k default)
  have hrl':rs'.length=l.length:=by have:=congrArg List.length hrs'; rw [List.length_map,(sh (by omega) hco hne0 j (Nat.le_trans hj (lr _))).1] at this; exact this
  have hql':qs'.length=l.length:=by have:=congrArg List.length hqs'; rw [List.length_map,(sh (by omega) hco hne0 j (Nat.le_trans hj (lr _))).2.1] at this; exact this
  refine zR6 ?_
  refine af rfl (fun h9=>?_) (fun h9=>?_)
  ·refine PT ?_
   refine zz0 (Fj rfl rfl hA iO an jk) ?_
   rw [GM]
   obtain ⟨to,hto⟩:∃ to,to=(bv l ((co (l.getD k default)).getD j default)):=⟨_,rfl⟩
   rw [← hto]
   refine fu ?_
   refine af rfl (fun h10=>?_) (fun h10=>?_)
   ·have hok:=sh (by omega) hco hne0 j (Nat.le_trans hj (lr _))
    have hdl:(rs'.getD k default).data.length≤2:=by rw [oa hrs' k]; exact Nat.le_trans (hok.2.2.2.2.1 k) (by split <;> (have:=lr (l.getD k default); omega))
    have hdq:(qs'.getD to.toNat default).data.length≤2 * k+j:=by rw [oa hqs']; exact hok.2.2.2.2.2.1 _
    have hjs:=lr (l.getD k default)
    have ht1:(if to<0 then none else some to).isSome=true:=by assumption
    have ht0:¬ to<0:=fun q=>by rw [if_pos q] at ht1; simp at ht1
    have htl:=(iI l ((co (l.getD k default)).getD j default)).2
    rw [← hto] at htl
    rw [if_neg ht0,Option.getD_some]
    refine ga (ι:=Option Addr × Nat) (fun ⟨pe,ce⟩=>True) (fun _=>(Bg.lessB w [bx] 0)) (fun ⟨pe,ce⟩=>(rowE V8 23 aa (co (l.getD k default)) :: cellE b5 (am.enc (l.getD k default)) 36 :: cellE bx [VI,.map (some bm),VE,VG,VB,VV,VM] 228 :: rowE VG 3 aN (gd.set k (-1)) :: rowE VE 272 g5 (rs'.set k ⟨(rs'.getD k default).data ++ [(to,decide ((j:Int)=0))],pe,ce⟩) :: rowE VQ 224 cK qs' :: ((rs'.set k ⟨(rs'.getD k default).data ++ [(to,decide ((j:Int)=0))],pe,ce⟩).map (rvE 274 ei) ++ (qs'.map (rvE 3 aN) ++ [])))) (fun ⟨pe,ce⟩=>[]) ?_ (fun i hi=>?_)
    ·skip
     refine E7 (A:=[rowE V8 23 aa (co (l.getD k default)),cellE b5 (am.enc (l.getD k default)) 36,cellE bx [VI,.map (some bm),VE,VG,VB,VV,VM] 228,rowE VG 3 aN (gd.set k (-1)),rowE VE 272 g5 rs',rowE VQ 224 cK qs']) (f:=(rvE 274 ei)) (rs:=rs') k (by omega) ?_
     change Tr _ _ ((rvE 274 ei) (rs'.getD k default) :: rowE V8 23 aa (co (l.getD k default)) :: cellE b5 (am.enc (l.getD k default)) 36 :: cellE bx [VI,.map (some bm),VE,VG,VB,VV,VM] 228 :: rowE VG 3 aN (gd.set k (-1)) :: rowE VE 272 g5 rs' :: rowE VQ 224 cK qs' :: ((rs'.eraseIdx k).map (rvE 274 ei) ++ (qs'.map (rvE 3 aN) ++ []))) _ _
     refine aL ([cellE bx [VI,.map (some bm),VE,VG,VB,VV,VM] 228]) 20 rfl ak ?_
     refine zz1 0 rfl (ae rfl) ?_
     refine zz1 1 rfl (aA rfl) ?_
     refine zz1 2 rfl (aD rfl) ?_
     refine zz1 3 rfl (dP rfl) ?_
     refine zz1 4 rfl (ae rfl) ?_
     refine zz1 5 rfl (ae rfl) ?_
     refine zz1 6 rfl (aA rfl) ?_
     refine zz1 7 rfl (aD rfl) ?_
     refine zz1 8 rfl (dP rfl) ?_
     refine zz1 9 rfl (ae rfl) ?_
     refine kg 10 rfl (by kernel_rfl) (aC (cN (aC (aC (cN (cN (aC (aC (cN (aC cw)))))))))) (C2 rfl rfl hVE j2 lA (by rw [List.length_replicate]; omega)) ?_
     refine zz1 12 rfl (ae rfl) ?_
     refine zz1 13 rfl (ae rfl) ?_
     refine zz1 14 rfl (lE rfl rfl) ?_
     refine zz1 15 rfl (aK (vs:=[(0,_),(1,_)]) rfl rfl (vS _ _)) ?_
     refine lH [11,16] (fun iq hq=>?_)
     rcases List.mem_cons.1 hq with rfl|hq
     ·skip
      refine bY rfl ?_
      refine zz0 (PQ (V:=VE) (E:=g5) (l:=rs') (i:=k) rfl Tryz.isAgg272) ?_
      refine ay ?_
      refine ao 16 rfl ?_
      refine g7 (E:=ei) (to,decide ((j:Int)=0)) rfl rfl jZ Tryz.sizeOf274 mQ (fun V11=>?_)
      refine ay ?_
      refine ao 17 rfl ?_
      refine zz3 rfl rfl jZ wG (fun V12=>?_)
      refine cG (.head _) (fun pe ce hpv=>?_)
      subst hpv
      refine ay ?_
      refine kg 18 rfl (by kernel_rfl) (aC (cN (aC (aC (cN (cN (aC (aC (cN (aC cw)))))))))) (C2 rfl rfl hVE j2 lA (by rw [List.length_replicate]; omega)) ?_
      refine ao 19 rfl ?_
      refine gg (l:=rs') (i:=k) (⟨(rs'.getD k default).data ++ [(to,decide ((j:Int)=0))],pe,ce⟩) rfl rfl lA ?_
      have hls13:(List.set rs' (k) (⟨(rs'.getD k default).data ++ [(to,decide ((j:Int)=0))],pe,ce⟩)).length=(rs').length:=List.length_set
      refine CU (A:=[rowE V8 23 aa (co (l.getD k default)),cellE b5 (am.enc (l.getD k default)) 36,cellE bx [VI,.map (some bm),VE,VG,VB,VV,VM] 228,rowE VG 3 aN (gd.set k (-1)),rowE VE 272 g5 (rs'.set k ⟨(rs'.getD k default).data ++ [(to,decide ((j:Int)=0))],pe,ce⟩),rowE VQ 224 cK qs']) (f:=(rvE 274 ei)) (rs:=rs') k ⟨(rs'.getD k default).data ++ [(to,decide ((j:Int)=0))],pe,ce⟩ (by omega) ?_
      change Tr _ _ (rowE V8 23 aa (co (l.getD k default)) :: cellE b5 (am.enc (l.getD k default)) 36 :: cellE bx [VI,.map (some bm),VE,VG,VB,VV,VM] 228 :: rowE VG 3 aN (gd.set k (-1)) :: rowE VE 272 g5 (rs'.set k ⟨(rs'.getD k default).data ++ [(to,decide ((j:Int)=0))],pe,ce⟩) :: rowE VQ 224 cK qs' :: ((rs'.set k ⟨(rs'.getD k default).data ++ [(to,decide ((j:Int)=0))],pe,ce⟩).map (rvE 274 ei) ++ (qs'.map (rvE 3 aN) ++ []))) _ _
      refine ay ?_
      refine dK (az ?_)
      apply dI (pe,ce)
      ·exact rfl
      ·exact Front.nil
      ·exact zz9 19 rfl
      ·exact (Pick.refl _)
      exact trivial
     obtain rfl:=List.mem_singleton.1 hq
     refine bY rfl ?_
     refine g7 (E:=ei) (to,decide ((j:Int)=0)) rfl rfl jZ Tryz.sizeOf274 mQ (fun V14=>?_)
     refine ay ?_
     refine ao 11 rfl ?_
     refine zz0 (PQ (V:=VE) (E:=g5) (l:=rs') (i:=k) rfl Tryz.isAgg272) ?_
     refine ay ?_
     refine ao 17 rfl ?_
     refine zz3 rfl rfl jZ wG (fun V15=>?_)
     refine cG (.head _) (fun pe ce hpv=>?_)
     subst hpv
     refine ay ?_
     refine kg 18 rfl (by kernel_rfl) (aC (cN (aC (aC (cN (cN (aC (aC (cN (aC cw)))))))))) (C2 rfl rfl hVE j2 lA (by rw [List.length_replicate]; omega)) ?_
     refine ao 19 rfl ?_
     refine gg (l:=rs') (i:=k) (⟨(rs'.getD k default).data ++ [(to,decide ((j:Int)=0))],pe,ce⟩) rfl rfl lA ?_
     have hls16:(List.set rs' (k) (⟨(rs'.getD k default).data ++ [(to,decide ((j:Int)=0))],pe,ce⟩)).length=(rs').length:=List.length_set
     refine CU (A:=[rowE V8 23 aa (co (l.getD k default)),cellE b5 (am.enc (l.getD k default)) 36,cellE bx [VI,.map (some bm),VE,VG,VB,VV,VM] 228,rowE VG 3 aN (gd.set k (-1)),rowE VE 272 g5 (rs'.set k ⟨(rs'.getD k default).data ++ [(to,decide ((j:Int)=0))],pe,ce⟩),rowE VQ 224 cK qs']) (f:=(rvE 274 ei)) (rs:=rs') k ⟨(rs'.getD k default).data ++ [(to,decide ((j:Int)=0))],pe,ce⟩ (by omega) ?_
     change Tr _ _ (rowE V8 23 aa (co (l.getD k default)) :: cellE b5 (am.enc (l.getD k default)) 36 :: cellE bx [VI,.map (some bm),VE,VG,VB,VV,VM] 228 :: rowE VG 3 aN (gd.set k (-1)) :: rowE VE 272 g5 (rs'.set k ⟨(rs'.getD k default).data ++ [(to,decide ((j:Int)=0))],pe,ce⟩) :: rowE VQ 224 cK qs' :: ((rs'.set k ⟨(rs'.getD k default).data ++ [(to,decide ((j:Int)=0))],pe,ce⟩).map (rvE 274 ei) ++ (qs'.map (rvE 3 aN) ++ []))) _ _
     refine ay ?_
     refine dK (az ?_)
     apply dI (pe,ce)
     ·exact rfl
     ·exact Front.nil
     ·exact zz9 19 rfl
     ·exact (Pick.refl _)
     exact trivial
    obtain ⟨pe,ce⟩:=i
    replace hi:True:=hi
    change Tr _ _ (rowE V8 23 aa (co (l.getD k default)) :: cellE b5 (am.enc (l.getD k default)) 36 :: cellE bx [VI,.map (some bm),VE,VG,VB,VV,VM] 228 :: rowE VG 3 aN (gd.set k (-1)) :: rowE VE 272 g5 (rs'.set k ⟨(rs'.getD k default).data ++ [(to,decide ((j:Int)=0))],pe,ce⟩) :: rowE VQ 224 cK qs' :: ((rs'.set k ⟨(rs'.getD k default).data ++ [(to,decide ((j:Int)=0))],pe,ce⟩).map (rvE 274 ei) ++ (qs'.map (rvE 3 aN) ++ []))) ([] ++ _) _
    refine MN (A:=[rowE V8 23 aa (co (l.getD k default)),cellE b5 (am.enc (l.getD k default)) 36,cellE bx [VI,.map (some bm),VE,VG,VB,VV,VM] 228,rowE VG 3 aN (gd.set k (-1)),rowE VE 272 g5 (rs'.set k ⟨(rs'.getD k default).data ++ [(to,decide ((j:Int)=0))],pe,ce⟩),rowE VQ 224 cK qs']) (B:=(rs'.set k ⟨(rs'.getD k default).data ++ [(to,decide ((j:Int)=0))],pe,ce⟩).map (rvE 274 ei)) (f:=(rvE 3 aN)) (rs:=qs') to.toNat (by omega) ?_
    change Tr _ _ ((rvE 3 aN) (qs'.getD to.toNat default) :: rowE V8 23 aa (co (l.getD k default)) :: cellE b5 (am.enc (l.getD k default)) 36 :: cellE bx [VI,.map (some bm),VE,VG,VB,VV,VM] 228 :: rowE VG 3 aN (gd.set k (-1)) :: rowE VE 272 g5 (rs'.set k ⟨(rs'.getD k default).data ++ [(to,decide ((j:Int)=0))],pe,ce⟩) :: rowE VQ 224 cK qs' :: ((rs'.set k ⟨(rs'.getD k default).data ++ [(to,decide ((j:Int)=0))],pe,ce⟩).map (rvE 274 ei) ++ ((qs'.eraseIdx to.toNat).map (rvE 3 aN) ++ []))) _ _
    refine zR8 ?_
    refine g7 (E:=aN) (k:Int) rfl rfl dT bL jk (fun V17=>?_)
    refine zz3 rfl rfl dT l8 (fun V18=>?_)
    refine cG (.head _) (fun pq cq hpv=>?_)
    subst hpv
    refine zz0 (kT rfl rfl) (gg (l:=qs') (i:=to.toNat) (⟨(qs'.getD to.toNat default).data ++ [(k:Int)],pq,cq⟩) rfl rfl Tryz.sizeOf224 ?_)
    have hls19:(List.set qs' (to.toNat) (⟨(qs'.getD to.toNat default).data ++ [(k:Int)],pq,cq⟩)).length=(qs').length:=List.length_set
    refine MM (A:=[rowE V8 23 aa (co (l.getD k default)),cellE b5 (am.enc (l.getD k default)) 36,cellE bx [VI,.map (some bm),VE,VG,VB,VV,VM] 228,rowE VG 3 aN (gd.set k (-1)),rowE VE 272 g5 (rs'.set k ⟨(rs'.getD k default).data ++ [(to,decide ((j:Int)=0))],pe,ce⟩),rowE VQ 224 cK (qs'.set to.toNat ⟨(qs'.getD to.toNat default).data ++ [(k:Int)],pq,cq⟩)]) (B:=(rs'.set k ⟨(rs'.getD k default).data ++ [(to,decide ((j:Int)=0))],pe,ce⟩).map (rvE 274 ei)) (f:=(rvE 3 aN)) (rs:=qs') to.toNat ⟨(qs'.getD to.toNat default).data ++ [(k:Int)],pq,cq⟩ (by omega) ?_
    change Tr _ _ (rowE V8 23 aa (co (l.getD k default)) :: cellE b5 (am.enc (l.getD k default)) 36 :: cellE bx [VI,.map (some bm),VE,VG,VB,VV,VM] 228 :: rowE VG 3 aN (gd.set k (-1)) :: rowE VE 272 g5 (rs'.set k ⟨(rs'.getD k default).data ++ [(to,decide ((j:Int)=0))],pe,ce⟩) :: rowE VQ 224 cK (qs'.set to.toNat ⟨(qs'.getD to.toNat default).data ++ [(k:Int)],pq,cq⟩) :: ((rs'.set k ⟨(rs'.getD k default).data ++ [(to,decide ((j:Int)=0))],pe,ce⟩).map (rvE 274 ei) ++ ((qs'.set to.toNat ⟨(qs'.getD to.toNat default).data ++ [(k:Int)],pq,cq⟩).map (rvE 3 aN) ++ []))) _ _
    refine fV (eK (az (aP (zz0 (aZ rfl rfl) (zR3 ?_)))))
    refine rA (j+1,(rs'.set k ⟨(rs'.getD k default).data ++ [(to,decide ((j:Int)=0))],pe,ce⟩),(qs'.set to.toNat ⟨(qs'.getD to.toNat default).data ++ [(k:Int)],pq,cq⟩)) (Front.c Front.nil) (zz9 31 rfl) (o:=⟨by omega,by rw [Bb (by rw [← hto]; exact ht0),← hto]; exact Ky hrs' k _ _ _,by rw [Bb (by rw [← hto]; exact ht0),← hto]; exact Ky hqs' _ _ _ _⟩)
   refine fO (eK (az (aP (zz0 (aZ rfl rfl) (zR3 ?_)))))
   have hlt0:(bv l ((co (l.getD k default)).getD j default))<0:=by
    rw [← hto]
    by_cases q:to<0
    ·exact q
    ·have ht1:(if to<0 then none else some to).isSome=false:=by first|assumption|simp_all
     rw [if_neg q] at ht1; simp at ht1
   refine rA (j+1,rs',qs') (Front.c Front.nil) (zz9 21 rfl) (o:=⟨by omega,by rw [EN hlt0]; exact hrs',by rw [EN hlt0]; exact hqs'⟩)
  refine zR7 ?_
  refine zz0 (aZ rfl rfl) (zR3 ?_)
  have hje:j=(co (l.getD k default)).length:=by omega
  refine rA (k+1,rs',qs',gd.set k (-1)) (Front.c Front.nil) (zz9 30 rfl) (o:=⟨by omega,⟨by rw [EL (by assumption),← hje]; exact hrs',by rw [EL (by assumption),← hje]; exact hqs'⟩,List.length_set.trans hgl,Pw (f:=fun _=>-1) hgl hgm (by omega)⟩)
 refine zR6 ?_
 obtain rfl:k=l.length:=by omega
 refine Al (A:=[cellE bx [VI,.map (some bm),VE,VG,VB,VV,VM] 228,rowE VG 3 aN gd,rowE VE 272 g5 rs,rowE VQ 224 cK qs]) (B:=rs.map (rvE 274 ei)) qs (fun F8 hF8 hQ8=>?_)
 change Tr _ _ (cellE bx [VI,.map (some bm),VE,VG,VB,VV,VM] 228 :: rowE VG 3 aN gd :: rowE VE 272 g5 rs :: rowE VQ 224 cK qs :: (rs.map (rvE 274 ei) ++ [])) _ _
 refine l4 (V:=VQ) (T:=224) (E:=cK) (l:=qs) (.there _ (.there _ (.there _ (.here _)))) (fun F9 hF89 hSQ=>?_)
 have hF9:=hF8.trans hF89
 have hQ9:=hQ8.mono hF89.blk
 have hI9:=hI.mono hF9.blk
 refine df ?_
 refine dO (ι:=Nat × List Int) (fun ⟨k,gd⟩=>k≤l.length∧gd.length=l.length∧(∀ j,j<k→gd.getD j default=nD l e (iy l l.length).into j)∧∀ j,k≤j→j<l.length→gd.getD j default=-1) (fun _=>F9) (fun ⟨k,gd⟩=>(cellE bx [VI,.map (some bm),VE,VG,VB,VV,VM] 228 :: rowE VG 3 aN gd :: rowE VE 272 g5 rs :: (rs.map (rvE 274 ei) ++ []))) (fun ⟨k,gd⟩=>[(116,.int .i64 (k:Nat))]) (fun ⟨k,gd⟩=>l.length - k) (0,gd) ⟨Nat.zero_le _,hgl,fun j hj=>absurd hj (Nat.not_lt_zero _),fun j _ hj=>hgm j hj⟩ (Front.c Front.nil) (hL:=(by repeat' (first|exact Pick.refl _|exact Del.here _|apply Pick.cons|apply Del.there|apply Pick.skip|exact Pick.nil _))) (fun i hi m hm=>?_)
 obtain ⟨k,gd⟩:=i
 dsimp only at hi hm
 change Tr _ _ (cellE bx [VI,.map (some bm),VE,VG,VB,VV,VM] 228 :: rowE VG 3 aN gd :: rowE VE 272 g5 rs :: (rs.map (rvE 274 ei) ++ [])) ([(116,.int .i64 (k:Nat))] ++ _) _
 obtain ⟨hk2,hgl2,hgm2,hgm3⟩:=hi
 refine zR6 ?_
 refine af rfl (fun h20=>?_) (fun h20=>?_)
 ·refine zR9 ?_
  refine bS aJ rfl (fun b21=>zz0 (bh rfl) ?_)
  refine ad am rfl rfl aw ?_
  refine zR3 ?_
  have hqk:Sl F9.blk aN (qs.getD k default).data (.slice (qs.getD k default).dp (qs.getD k default).data.length (qs.getD k default).dc):=hQ9 _ (bB (by omega))
  have hib:∀ x∈(qs.getD k default).data,0≤x∧x<(l.length:Int):=fun x hx=>by
   rw [oa hqs k] at hx
   exact (ra l (Nat.le_refl _)).i _ (getD_mem hx) x hx
  refine ip ak (zT2 ?_)
  refine aB (lE rfl rfl) (aB (ae rfl) ?_)
  apply eW
  ·exact (rfl:_=(3,124,127))
  ·exact rfl
  ·intro hT22; have hT22':=hT22
   try simp only [bs] at hT22'
   refine eI hT22 (bU rfl) (eI hT22 (ac rfl lU (fun w hw=>lO _ w (hIO _ (bB (by omega))))) (aB (eY rfl hT22 rfl) ?_))
   exact cg (Sub.cons rfl (zz8 3 rfl))
  ·intro hF22
   refine zT3 ?_
   exact cg (Sub.cons rfl (zz8 3 rfl))
  refine aB (ae rfl) ?_
  apply eW
  ·exact (rfl:_=(12,128,140))
  ·exact rfl
  ·intro hT23; have hT23':=hT23
   try simp only [bs] at hT23'
   refine zT3 ?_
   refine eI hT23 (aA rfl) (eI hT23 (aD rfl) ?_)
   refine eI hT23 (dP rfl) (zT3 ?_)
   refine eI hT23 (l6 rfl (by assumption) dG (by omega) (by rfl)) ?_
   refine eI hT23 (iQ rfl rfl) (aB (eY rfl hT23 rfl) ?_)
   exact cg (Sub.cons rfl (zz8 12 rfl))
  ·intro hF23
   refine OZ ?_
   exact cg (Sub.cons rfl (zz8 12 rfl))
  refine aB (ae rfl) ?_
  apply eW
  ·exact (rfl:_=(7,141,148))
  ·exact rfl
  ·intro hT24; have hT24':=hT24
   try simp only [bs] at hT24'
   refine zT4 ?_
   refine eI hT24 (zA rfl) ?_
   refine eI hT24 (lE rfl rfl) (aB (eY rfl hT24 rfl) ?_)
   exact cg (Sub.cons rfl (zz8 7 rfl))
  ·intro hF24
   refine zT7 ?_
   exact cg (Sub.cons rfl (zz8 7 rfl))
  refine aB (ae rfl) ?_
  apply eW
  ·exact (rfl:_=(14,149,163))
  ·exact rfl
  ·intro hT25; have hT25':=hT25
   try simp only [bs] at hT25'
   have hx0:=hib _ (bB (k:=0) (by omega))
   refine eI hT25 (ae rfl) (eI hT25 (aA rfl) (eI hT25 (aD rfl) ?_))
   refine eI hT25 (dP rfl) (zT4 ?_)
   refine eI hT25 (xw (i:=0) rfl rfl hqk dT bL (by rfl) (by omega)) (eI hT25 (pP rfl) ?_)
   refine eI hT25 (pO rfl rfl) ?_
   refine eI hT25 (tQ rfl) ?_
   refine eI hT25 (ac rfl Tryz.call225 (fun w hw=>wu _ w (hIO _ (bB (by omega))))) (aB (eY rfl hT25 rfl) ?_)
   exact cg (Sub.cons rfl (zz8 14 rfl))
  ·intro hF25
   refine PR ?_
   exact cg (Sub.cons rfl (zz8 14 rfl))
  refine zT2 ?_
  refine af rfl (fun h26=>?_) (fun h26=>?_)
  ·have hgq:=h26
   refine fE 0 12 ak ?_
   refine aG (zT9 ?_)
   refine aB (xw (i:=0) rfl rfl hqk dT bL (by rfl) (by omega)) (zT3 ?_)
   refine gg (l:=gd) (i:=k) (((qs.getD k default).data.getD 0 default)) rfl rfl bL ?_
   have hls27:(List.set gd (k) (((qs.getD k default).data.getD 0 default))).length=(gd).length:=List.length_set
   refine fV (eK (az (aP (zz0 (aZ rfl rfl) (zR3 ?_)))))
   have hgv:nD l e (iy l l.length).into k=((qs.getD k default).data.getD 0 default):=by
    unfold nD
    rw [← oa hqs k]
    exact if_pos ⟨hgq.1.1.1.1,hgq.1.1.1.2,hgq.1.1.2,by omega,hgq.2⟩
   have hgy:=Pw (n:=l.length) hgl2 hgm2 (by omega)
   rw [hgv] at hgy
   refine rA (k+1,gd.set k ((qs.getD k default).data.getD 0 default)) (Front.c Front.nil) (zz9 32 rfl) (o:=⟨by omega,List.length_set.trans hgl2,hgy,P9 hgm3⟩)
  have hgq:=h26
  refine fO (eK (az (aP (zz0 (aZ rfl rfl) (zR3 ?_)))))
  have hgv:nD l e (iy l l.length).into k=-1:=by
   unfold nD
   rw [← oa hqs k]
   refine if_neg (fun hq=>?_)
   rcases hgq with (((q|q)|q)|q)|q
   ·exact q hq.1
   ·exact q hq.2.1
   ·exact hq.2.2.1 q
   ·exact q (by omega)
   ·rw [hq.2.2.2.2] at q; cases q
  refine rA (k+1,gd) (Front.c Front.nil) (zz9 20 rfl) (o:=⟨by omega,hgl2,Qa hgl2 hgm2 ((hgm3 k (Nat.le_refl _) (by omega)).trans hgv.symm),fun j h1 h2=>hgm3 j (by omega) h2⟩)
 refine zR4 ?_
 refine dH Tryz.results161 (fun w' hw=>?_)
 have hgg:=Jq hgl2 (fun j hj=>hgm2 j (by omega))
 rw [hgg,List.append_nil] at hw
 exact ⟨(VE,VG,rs),rfl,hw.upd hF9 (by repeat' (first|exact Pick.refl _|exact Del.here _|apply Pick.cons|apply Del.there|apply Pick.skip|exact Pick.nil _)),hrs⟩
end Go.Proofs.YtiajjbhcpeadfaaGreat
namespace Go.Proofs.YtiajjbhcpeadfaaGreat
open Go Go.HL Go.RowKit
theorem Gj (l:List Bool) (V:Value) (a:Bool) (w:World) (hV:Sl (hp w) bO l V) :
  Cr Tryz.prog 163 #[V,.bool a] w (.int .i64 (bK (fun x=>decide (a=x)) 0 l)):=by
 have hV':Sl (Bg.of w).blk bO l V:=hV
 have hlV:=hV'.len_le
 refine enter Tryz.func163 rfl Tryz.ntmps163 rfl (lN ?_)
 refine ed (.of (ι:=Nat) (fun k=>k≤l.length∧bK (fun x=>decide (a=x)) k (l.drop k)=bK (fun x=>decide (a=x)) 0 l) (fun _=>_) (fun k=>[]) (fun k=>[(8,.int .i64 (k:Nat))]) (fun k=>l.length - k)) 0 ⟨Nat.zero_le _,rfl⟩ (Front.c Front.nil) (fun k hi m hm=>?_)
 obtain ⟨hk1,hk2⟩:=hi
 refine zR6 ?_
 refine af rfl (fun h1=>?_) (fun h1=>?_)
 ·refine xz ?_
  refine zz0 (Ft rfl rfl Tryz.underlying4) (zR2 ?_)
  refine af rfl (fun h2=>?_) (fun h2=>?_)
  ·refine fu ?_
   exact ah Tryz.results163 rfl fun w' hw=>⟨by rw [← hk2,drop_cons (k:=k) (by omega),bK,if_pos (by simp_all)],hw.b0⟩
  refine zR4 ?_
  refine zz0 (aZ rfl rfl) (zR3 ?_)
  refine bC (k+1) (Front.c Front.nil) (zz9 12 rfl) (o:=⟨by omega,by rw [← hk2,drop_cons (k:=k) (by omega),bK,if_neg (by simp_all)]⟩)
 refine dy ?_
 exact ah Tryz.results163 rfl fun w' hw=>⟨by rw [← hk2,List.drop_of_length_le (by omega)]; rfl,hw.b0⟩
theorem E1 (l:List Ins) (entry:UInt32) (rounds:Nat) (V:Value) (w:World) (hI:Sl (hp w) am l V) (hIO:∀ x∈l,InsOK x) (hrd:rounds≤100000) :
  Calls Tryz.prog 107 #[V,.int .u32 entry.toNat,.int .i64 (rounds:Nat)] w (fun e w'=>∃ V:Value,e=.returned (.tuple #[V,.int .i64 (cR l entry rounds).2])∧Below w.heap.size w w'∧NewEnts w w' [rowE V 37 bQ (cR l entry rounds).1]):=by
 obtain ⟨pV,cV,hvp,_⟩:=hI.shape
 subst hvp
 have hI0:Sl (Bg.of0 w).blk am l (.slice pV l.length cV):=hI
 have hlI:=hI0.len_le
 refine lT Tryz.func107 rfl Tryz.ntmps107 rfl (lN ?_)
 refine af rfl (fun h1=>?_) (fun h1=>?_)
 ·refine bE (aR 37 bQ (zR7 ?_))
  refine bV mj rfl rfl (fun w' hw=>?_)
  have e:cR l entry rounds=([],6):=if_pos (by omega)
  refine ⟨.slice none 0 0,by rw [e],hw.below0 (Bg.le.refl _),by rw [e]; exact hw.ents0 rfl (by repeat' constructor)⟩
 refine zR2 ?_
 refine ga (ι:=Nat × Nat × Nat × Nat) (fun ⟨bm,bvv,bww,bq⟩=>True) (fun _=>(Bg.of0 w)) (fun ⟨bm,bvv,bww,bq⟩=>[cellE bq [(.slice pV l.length cV),.map (some bm),.slice none 0 0,.slice none 0 0,.slice none 0 0,.slice (some ⟨bvv,0,none⟩) (List.replicate l.length (0:Int)).length l.length,.slice (some ⟨bww,0,none⟩) (List.replicate l.length false).length l.length] 228,mapE bm jw [],rowE (.slice (some ⟨bvv,0,none⟩) (List.replicate l.length (0:Int)).length l.length) 3 aN (List.replicate l.length 0),rowE (.slice (some ⟨bww,0,none⟩) (List.replicate l.length false).length l.length) 4 bO (List.replicate l.length false)]) (fun ⟨bm,bvv,bww,bq⟩=>[(8,.pointer (some ⟨bq,0,none⟩))]) ?_ (fun i hi=>?_)
 ·skip
  refine aL ([]) 11 rfl ak ?_
  refine zz1 0 rfl (ae rfl) ?_
  refine zz1 2 rfl (ae rfl) ?_
  refine Ia 3 rfl (by kernel_rfl) (aC cw) rfl cC ?_
  refine zz1 5 rfl (ae rfl) ?_
  refine Ia 6 rfl (by kernel_rfl) (aC cw) rfl cC ?_
  refine lH [1,4,7] (fun iq hq=>?_)
  rcases List.mem_cons.1 hq with rfl|hq
  ·skip
   refine bY rfl ?_
   refine gm jw rfl (fun bm=>?_)
   refine ay ?_
   refine lH [4,7] (fun iq hq=>?_)
   rcases List.mem_cons.1 hq with rfl|hq
   ·skip
    refine bY rfl ?_
    refine ja (E:=aN) 0 rfl rfl dT l8 rfl rfl rfl (by constructor <;> omega) rfl (fun bvv=>?_)
    refine ay ?_
    refine ao 7 rfl ?_
    refine ja (E:=bO) false rfl rfl iN qC rfl rfl rfl (by constructor <;> omega) rfl (fun bww=>?_)
    refine ay ?_
    refine zz1 8 rfl (lG (vs:=[(0,_),(1,_),(5,_),(6,_)]) (cs:=#[(.slice pV l.length cV),.map (some bm),.slice none 0 0,.slice none 0 0,.slice none 0 0,.slice (some ⟨bvv,0,none⟩) (List.replicate l.length (0:Int)).length l.length,.slice (some ⟨bww,0,none⟩) (List.replicate l.length false).length l.length]) rfl rfl) ?_
    refine ao 9 rfl ?_
    refine cm (cs:=[(.slice pV l.length cV),.map (some bm),.slice none 0 0,.slice none 0 0,.slice none 0 0,.slice (some ⟨bvv,0,none⟩) (List.replicate l.length (0:Int)).length l.length,.slice (some ⟨bww,0,none⟩) (List.replicate l.length false).length l.length]) rfl rfl (fun bq=>?_)
    refine ay ?_
    refine zz1 10 rfl (bh rfl) ?_
    refine dK (az ?_)
    refine aQ (_,_,_,_) (Front.c Front.nil) (zz9 11 rfl) (o:=trivial)
   obtain rfl:=List.mem_singleton.1 hq
   refine bY rfl ?_
   refine ja (E:=bO) false rfl rfl iN qC rfl rfl rfl (by constructor <;> omega) rfl (fun bww=>?_)
   refine ay ?_
   refine ao 4 rfl ?_
   refine ja (E:=aN) 0 rfl rfl dT l8 rfl rfl rfl (by constructor <;> omega) rfl (fun bvv=>?_)
   refine ay ?_
   refine zz1 8 rfl (lG (vs:=[(0,_),(1,_),(5,_),(6,_)]) (cs:=#[(.slice pV l.length cV),.map (some bm),.slice none 0 0,.slice none 0 0,.slice none 0 0,.slice (some ⟨bvv,0,none⟩) (List.replicate l.length (0:Int)).length l.length,.slice (some ⟨bww,0,none⟩) (List.replicate l.length false).length l.length]) rfl rfl) ?_
   refine ao 9 rfl ?_
   refine cm (cs:=[(.slice pV l.length cV),.map (some bm),.slice none 0 0,.slice none 0 0,.slice none 0 0,.slice (some ⟨bvv,0,none⟩) (List.replicate l.length (0:Int)).length l.length,.slice (some ⟨bww,0,none⟩) (List.replicate l.length false).length l.length]) rfl rfl (fun bq=>?_)
   refine ay ?_
   refine zz1 10 rfl (bh rfl) ?_
   refine dK (az ?_)
   refine aQ (_,_,_,_) (Front.c Front.nil) (zz9 11 rfl) (o:=trivial)
  rcases List.mem_cons.1 hq with rfl|hq
  ·skip
   refine bY rfl ?_
   refine ja (E:=aN) 0 rfl rfl dT l8 rfl rfl rfl (by constructor <;> omega) rfl (fun bvv=>?_)
   refine ay ?_
   refine lH [1,7] (fun iq hq=>?_)
   rcases List.mem_cons.1 hq with rfl|hq
   ·skip
    refine bY rfl ?_
    refine gm jw rfl (fun bm=>?_)
    refine ay ?_
    refine ao 7 rfl ?_
    refine ja (E:=bO) false rfl rfl iN qC rfl rfl rfl (by constructor <;> omega) rfl (fun bww=>?_)
    refine ay ?_
    refine zz1 8 rfl (lG (vs:=[(0,_),(1,_),(5,_),(6,_)]) (cs:=#[(.slice pV l.length cV),.map (some bm),.slice none 0 0,.slice none 0 0,.slice none 0 0,.slice (some ⟨bvv,0,none⟩) (List.replicate l.length (0:Int)).length l.length,.slice (some ⟨bww,0,none⟩) (List.replicate l.length false).length l.length]) rfl rfl) ?_
    refine ao 9 rfl ?_
    refine cm (cs:=[(.slice pV l.length cV),.map (some bm),.slice none 0 0,.slice none 0 0,.slice none 0 0,.slice (some ⟨bvv,0,none⟩) (List.replicate l.length (0:Int)).length l.length,.slice (some ⟨bww,0,none⟩) (List.replicate l.length false).length l.length]) rfl rfl (fun bq=>?_)
    refine ay ?_
    refine zz1 10 rfl (bh rfl) ?_
    refine dK (az ?_)
    refine aQ (_,_,_,_) (Front.c Front.nil) (zz9 11 rfl) (o:=trivial)
   obtain rfl:=List.mem_singleton.1 hq
   refine bY rfl ?_
   refine ja (E:=bO) false rfl rfl iN qC rfl rfl rfl (by constructor <;> omega) rfl (fun bww=>?_)
   refine ay ?_
   refine ao 1 rfl ?_
   refine gm jw rfl (fun bm=>?_)
   refine ay ?_
   refine zz1 8 rfl (lG (vs:=[(0,_),(1,_),(5,_),(6,_)]) (cs:=#[(.slice pV l.length cV),.map (some bm),.slice none 0 0,.slice none 0 0,.slice none 0 0,.slice (some ⟨bvv,0,none⟩) (List.replicate l.length (0:Int)).length l.length,.slice (some ⟨bww,0,none⟩) (List.replicate l.length false).length l.length]) rfl rfl) ?_
   refine ao 9 rfl ?_
   refine cm (cs:=[(.slice pV l.length cV),.map (some bm),.slice none 0 0,.slice none 0 0,.slice none 0 0,.slice (some ⟨bvv,0,none⟩) (List.replicate l.length (0:Int)).length l.length,.slice (some ⟨bww,0,none⟩) (List.replicate l.length false).length l.length]) rfl rfl (fun bq=>?_)
   refine ay ?_
   refine zz1 10 rfl (bh rfl) ?_
   refine dK (az ?_)
   refine aQ (_,_,_,_) (Front.c Front.nil) (zz9 11 rfl) (o:=trivial)
  obtain rfl:=List.mem_singleton.1 hq
  refine bY rfl ?_
  refine ja (E:=bO) false rfl rfl iN qC rfl rfl rfl (by constructor <;> omega) rfl (fun bww=>?_)
  refine ay ?_
  refine lH [1,4] (fun iq hq=>?_)
  rcases List.mem_cons.1 hq with rfl|hq
  ·skip
   refine bY rfl ?_
   refine gm jw rfl (fun bm=>?_)
   refine ay ?_
   refine ao 4 rfl ?_
   refine ja (E:=aN) 0 rfl rfl dT l8 rfl rfl rfl (by constructor <;> omega) rfl (fun bvv=>?_)
   refine ay ?_
   refine zz1 8 rfl (lG (vs:=[(0,_),(1,_),(5,_),(6,_)]) (cs:=#[(.slice pV l.length cV),.map (some bm),.slice none 0 0,.slice none 0 0,.slice none 0 0,.slice (some ⟨bvv,0,none⟩) (List.replicate l.length (0:Int)).length l.length,.slice (some ⟨bww,0,none⟩) (List.replicate l.length false).length l.length]) rfl rfl) ?_
   refine ao 9 rfl ?_
   refine cm (cs:=[(.slice pV l.length cV),.map (some bm),.slice none 0 0,.slice none 0 0,.slice none 0 0,.slice (some ⟨bvv,0,none⟩) (List.replicate l.length (0:Int)).length l.length,.slice (some ⟨bww,0,none⟩) (List.replicate l.length false).length l.length]) rfl rfl (fun bq=>?_)
   refine ay ?_
   refine zz1 10 rfl (bh rfl) ?_
   refine dK (az ?_)
   refine aQ (_,_,_,_) (Front.c Front.nil) (zz9 11 rfl) (o:=trivial)
  obtain rfl:=List.mem_singleton.1 hq
  refine bY rfl ?_
  refine ja (E:=aN) 0 rfl rfl dT l8 rfl rfl rfl (by constructor <;> omega) rfl (fun bvv=>?_)
  refine ay ?_
  refine ao 1 rfl ?_
  refine gm jw rfl (fun bm=>?_)
  refine ay ?_
  refine zz1 8 rfl (lG (vs:=[(0,_),(1,_),(5,_),(6,_)]) (cs:=#[(.slice pV l.length cV),.map (some bm),.slice none 0 0,.slice none 0 0,.slice none 0 0,.slice (some ⟨bvv,0,none⟩) (List.replicate l.length (0:Int)).length l.length,.slice (some ⟨bww,0,none⟩) (List.replicate l.length false).length l.length]) rfl rfl) ?_
  refine ao 9 rfl ?_
  refine cm (cs:=[(.slice pV l.length cV),.map (some bm),.slice none 0 0,.slice none 0 0,.slice none 0 0,.slice (some ⟨bvv,0,none⟩) (List.replicate l.length (0:Int)).length l.length,.slice (some ⟨bww,0,none⟩) (List.replicate l.length false).length l.length]) rfl rfl (fun bq=>?_)
  refine ay ?_
  refine zz1 10 rfl (bh rfl) ?_
  refine dK (az ?_)
  refine aQ (_,_,_,_) (Front.c Front.nil) (zz9 11 rfl) (o:=trivial)
 obtain ⟨bm,bvv,bww,bq⟩:=i
 replace hi:True:=hi
 change Tr _ _ [cellE bq [(.slice pV l.length cV),.map (some bm),.slice none 0 0,.slice none 0 0,.slice none 0 0,.slice (some ⟨bvv,0,none⟩) (List.replicate l.length (0:Int)).length l.length,.slice (some ⟨bww,0,none⟩) (List.replicate l.length false).length l.length] 228,mapE bm jw [],rowE (.slice (some ⟨bvv,0,none⟩) (List.replicate l.length (0:Int)).length l.length) 3 aN (List.replicate l.length 0),rowE (.slice (some ⟨bww,0,none⟩) (List.replicate l.length false).length l.length) 4 bO (List.replicate l.length false)] ([(8,.pointer (some ⟨bq,0,none⟩))] ++ _) _
 obtain ⟨VV,hVV⟩:∃ V,V=Value.slice (some ⟨bvv,0,none⟩) (List.replicate l.length (0:Int)).length l.length:=⟨_,rfl⟩
 obtain ⟨VM,hVM⟩:∃ V,V=Value.slice (some ⟨bww,0,none⟩) (List.replicate l.length false).length l.length:=⟨_,rfl⟩
 rw [← hVV,← hVM]
 refine zR9 ?_
 refine aR 37 bQ ?_
 refine dO (ι:=Nat × Value) (fun ⟨k,Vb⟩=>k≤l.length) (fun _=>_) (fun ⟨k,Vb⟩=>[cellE bq [(.slice pV l.length cV),.map (some bm),.slice none 0 0,.slice none 0 0,Vb,VV,VM] 228,rowE Vb 37 bQ (List.replicate k (iJ 8)),mapE bm jw (atK l k),rowE VV 3 aN (List.replicate l.length 0),rowE VM 4 bO (List.replicate l.length false)]) (fun ⟨k,Vb⟩=>[(32,.int .i64 (k:Nat))]) (fun ⟨k,Vb⟩=>l.length - k) (0,_) (Nat.zero_le _) (Front.c Front.nil) (fun i hi m hm=>?_)
 obtain ⟨k,Vb⟩:=i
 dsimp only at hi hm
 change Tr _ _ [cellE bq [(.slice pV l.length cV),.map (some bm),.slice none 0 0,.slice none 0 0,Vb,VV,VM] 228,rowE Vb 37 bQ (List.replicate k (iJ 8)),mapE bm jw (atK l k),rowE VV 3 aN (List.replicate l.length 0),rowE VM 4 bO (List.replicate l.length false)] ([(32,.int .i64 (k:Nat))] ++ _) _
 have hrk:(List.replicate k (iJ 8)).length=k:=List.length_replicate
 refine zR6 ?_
 refine af rfl (fun h2=>?_) (fun h2=>?_)
 ·refine zR9 ?_
  refine bS aJ rfl (fun b3=>zz0 (bh rfl) ?_)
  refine ad am rfl rfl aw ?_
  refine zR2 ?_
  refine fC (.of (ι:=List (UInt32 × Int)) (fun m1=>m1=atK l (k+1)) (fun _=>(Bg.of0 w)) (fun m1=>[cellE b3 (am.enc (l.getD k default)) 36,cellE bq [(.slice pV l.length cV),.map (some bm),.slice none 0 0,.slice none 0 0,Vb,VV,VM] 228,rowE Vb 37 bQ (List.replicate k (iJ 8)),mapE bm jw m1,rowE VV 3 aN (List.replicate l.length 0),rowE VM 4 bO (List.replicate l.length false)]) (fun m1=>[])) ?_ (fun m1 hi=>?_)
  ·skip
   refine bE (ip ak (zT6 ?_))
   refine aB (zx rfl rfl (by repeat constructor) iO an jk) (aB (ae rfl) ?_)
   refine aB (eo rfl rfl) (aB (eo rfl rfl) (wJ ?_))
   refine af rfl (fun h4=>?_) (fun h4=>?_)
   ·refine fE 0 7 ak ?_
    refine aG (zT8 ?_)
    refine fP (k:Int) rfl rfl rfl (by repeat constructor) iO an rfl (zR2 ?_)
    refine aQ _ Front.nil (zz9 21 rfl) (o:=(show _=atK l (k+1) from (if_neg (by simp_all)).symm))
   refine zR2 ?_
   refine aQ _ Front.nil (zz9 14 rfl) (o:=(show _=atK l (k+1) from (if_pos (by simp_all)).symm))
  skip
  subst hi
  refine aL ([]) 11 rfl ak ?_
  refine zz1 0 rfl (ae rfl) ?_
  refine zz1 1 rfl (ae rfl) ?_
  refine zz1 2 rfl (aA rfl) ?_
  refine zz1 3 rfl (aD rfl) ?_
  refine lH [4,5] (fun iq hq=>?_)
  rcases List.mem_cons.1 hq with rfl|hq
  ·skip
   refine bY rfl (zz0 (dP rfl) ?_)
   refine ay ?_
   refine ao 5 rfl ?_
   refine zz0 (ac rfl Tryz.call160 (fun w hw=>A7 w)) ?_
   refine ay ?_
   refine ao 6 rfl ?_
   refine g7 (E:=bQ) (iJ 8) rfl rfl gx aI bR (fun V5=>?_)
   refine ay ?_
   refine ao 7 rfl ?_
   refine zz3 rfl rfl gx tR (fun V6=>?_)
   refine cG (.head _) (fun pb cb hpb=>?_)
   subst hpb
   refine ay ?_
   refine zz1 8 rfl (aA rfl) ?_
   refine zz1 9 rfl (aD rfl) ?_
   refine ao 10 rfl ?_
   refine zz4 rfl rfl nc rfl ?_
   change Tr _ _ [rowE (.slice pb ((List.replicate k (iJ 8)) ++ [iJ 8]).length cb) 37 bQ ((List.replicate k (iJ 8)) ++ [iJ 8]),cellE b3 (am.enc (l.getD k default)) 36,cellE bq [(.slice pV l.length cV),.map (some bm),.slice none 0 0,.slice none 0 0,(.slice pb ((List.replicate k (iJ 8)) ++ [iJ 8]).length cb),VV,VM] 228,mapE bm jw (atK l (k+1)),rowE VV 3 aN (List.replicate l.length 0),rowE VM 4 bO (List.replicate l.length false)] _ _
   refine ay ?_
   refine dK (zR3 ?_)
   refine zz0 (aZ rfl rfl) (zR3 ?_)
   rw [← List.replicate_succ']
   refine bC (k+1,_) (Front.c Front.nil) (zz9 19 rfl) (o:=(by show k+1≤_; omega))
  obtain rfl:=List.mem_singleton.1 hq
  refine bY rfl ?_
  refine zz0 (ac rfl Tryz.call160 (fun w hw=>A7 w)) ?_
  refine ay ?_
  refine lH [4,6] (fun iq hq=>?_)
  rcases List.mem_cons.1 hq with rfl|hq
  ·skip
   refine bY rfl (zz0 (dP rfl) ?_)
   refine ay ?_
   refine ao 6 rfl ?_
   refine g7 (E:=bQ) (iJ 8) rfl rfl gx aI bR (fun V7=>?_)
   refine ay ?_
   refine ao 7 rfl ?_
   refine zz3 rfl rfl gx tR (fun V8=>?_)
   refine cG (.head _) (fun pb cb hpb=>?_)
   subst hpb
   refine ay ?_
   refine zz1 8 rfl (aA rfl) ?_
   refine zz1 9 rfl (aD rfl) ?_
   refine ao 10 rfl ?_
   refine zz4 rfl rfl nc rfl ?_
   change Tr _ _ [rowE (.slice pb ((List.replicate k (iJ 8)) ++ [iJ 8]).length cb) 37 bQ ((List.replicate k (iJ 8)) ++ [iJ 8]),cellE b3 (am.enc (l.getD k default)) 36,cellE bq [(.slice pV l.length cV),.map (some bm),.slice none 0 0,.slice none 0 0,(.slice pb ((List.replicate k (iJ 8)) ++ [iJ 8]).length cb),VV,VM] 228,mapE bm jw (atK l (k+1)),rowE VV 3 aN (List.replicate l.length 0),rowE VM 4 bO (List.replicate l.length false)] _ _
   refine ay ?_
   refine dK (zR3 ?_)
   refine zz0 (aZ rfl rfl) (zR3 ?_)
   rw [← List.replicate_succ']
   refine bC (k+1,_) (Front.c Front.nil) (zz9 19 rfl) (o:=(by show k+1≤_; omega))
  obtain rfl:=List.mem_singleton.1 hq
  refine bY rfl ?_
  refine g7 (E:=bQ) (iJ 8) rfl rfl gx aI bR (fun V9=>?_)
  refine ay ?_
  refine ao 4 rfl (zz0 (dP rfl) ?_)
  refine ay ?_
  refine ao 7 rfl ?_
  refine zz3 rfl rfl gx tR (fun V10=>?_)
  refine cG (.head _) (fun pb cb hpb=>?_)
  subst hpb
  refine ay ?_
  refine zz1 8 rfl (aA rfl) ?_
  refine zz1 9 rfl (aD rfl) ?_
  refine ao 10 rfl ?_
  refine zz4 rfl rfl nc rfl ?_
  change Tr _ _ [rowE (.slice pb ((List.replicate k (iJ 8)) ++ [iJ 8]).length cb) 37 bQ ((List.replicate k (iJ 8)) ++ [iJ 8]),cellE b3 (am.enc (l.getD k default)) 36,cellE bq [(.slice pV l.length cV),.map (some bm),.slice none 0 0,.slice none 0 0,(.slice pb ((List.replicate k (iJ 8)) ++ [iJ 8]).length cb),VV,VM] 228,mapE bm jw (atK l (k+1)),rowE VV 3 aN (List.replicate l.length 0),rowE VM 4 bO (List.replicate l.length false)] _ _
  refine ay ?_
  refine dK (zR3 ?_)
  refine zz0 (aZ rfl rfl) (zR3 ?_)
  rw [← List.replicate_succ']
  refine bC (k+1,_) (Front.c Front.nil) (zz9 19 rfl) (o:=(by show k+1≤_; omega))
 refine zR6 ?_
 obtain rfl:k=l.length:=by omega
 refine zR6 ?_
 refine zz0 (zx rfl rfl (by repeat constructor) iO an jk) ?_
 rw [GM]
 obtain ⟨fe,hfe⟩:∃ fe,fe=bv l entry:=⟨_,rfl⟩
 rw [← hfe]
 refine lN ?_
 refine af rfl (fun h11=>?_) (fun h11=>?_)
 ·refine bE (aR 37 bQ (zR7 ?_))
  refine bV mj rfl rfl (fun w' hw=>?_)
  have ht1:(if fe<0 then none else some fe).isSome=false:=by first|assumption|simp_all
  have ht0:fe<0:=by
   by_cases q:fe<0
   ·exact q
   ·rw [if_neg q] at ht1; simp at ht1
  have e:cR l entry rounds=([],9):=by unfold cR; rw [if_neg (by omega),if_pos (by rw [← hfe]; exact ht0)]
  refine ⟨.slice none 0 0,by rw [e],hw.below0 (Bg.le.refl _),by rw [e]; exact hw.ents0 rfl (by repeat' constructor)⟩
 refine zR3 ?_
 have ht1:(if fe<0 then none else some fe).isSome=true:=by first|assumption|simp_all
 have ht0:¬ fe<0:=fun q=>by rw [if_pos q] at ht1; simp at ht1
 have htl:=(iI l entry).2
 rw [← hfe] at htl
 rw [if_neg ht0,Option.getD_some]
 obtain ⟨fn,hfn⟩:∃ fn:Nat,fe=(fn:Int):=⟨fe.toNat,by omega⟩
 subst hfn
 refine nK (b:=bm) (by repeat constructor) (fun F1 hF1 hA1=>zR3 ?_)
 refine db (fun _:Value × Value × List EdV=>.tuple #[]) [cellE bq [(.slice pV l.length cV),.map (some bm),.slice none 0 0,.slice none 0 0,Vb,VV,VM] 228] (fun i:Value × Value × List EdV=>cellE bq [(.slice pV l.length cV),.map (some bm),i.1,i.2.1,Vb,VV,VM] 228 :: rowE i.2.1 3 aN (dR l fn) :: rowE i.1 272 g5 i.2.2 :: i.2.2.map (rvE 274 ei)) (ok:=fun i=>i.2.2.map (·.data)=kO l) (dd:=fun _=>0) rfl Tryz.call161 (by repeat' constructor) (fun w hw=>Nat.le_of_eq hF1.dr) (fun w hw=>EK l fn bq bm (.slice pV l.length cV) Vb VV VM w (hw.own (by repeat' constructor)) ((hI0.mono hF1.blk).mono (show Hp.le F1.blk (Bg.lessB w [bq] 0).blk from hw.lessB (Lo:=[cellE bq [(.slice pV l.length cV),.map (some bm),.slice none 0 0,.slice none 0 0,Vb,VV,VM] 228]) (by repeat' constructor))) (hA1.mono (show Hp.le F1.blk (Bg.lessB w [bq] 0).blk from hw.lessB (Lo:=[cellE bq [(.slice pV l.length cV),.map (some bm),.slice none 0 0,.slice none 0 0,Vb,VV,VM] 228]) (by repeat' constructor))) hIO (by omega) (by omega)) rfl (fun i15 hrs=>?_)
 obtain ⟨VE,VG,rs⟩:=i15
 replace hrs:rs.map (·.data)=kO l:=hrs
 refine CW (A:=[cellE bq [(.slice pV l.length cV),.map (some bm),VE,VG,Vb,VV,VM] 228,rowE VG 3 aN (dR l fn),rowE VE 272 g5 rs]) rs (fun F2 hF2 hEI2=>?_)
 change Tr _ _ [cellE bq [(.slice pV l.length cV),.map (some bm),VE,VG,Vb,VV,VM] 228,rowE VG 3 aN (dR l fn),rowE VE 272 g5 rs,rowE Vb 37 bQ (List.replicate l.length (iJ 8)),rowE VV 3 aN (List.replicate l.length 0),rowE VM 4 bO (List.replicate l.length false)] _ _
 refine zn (b:=bq) (.here _) (fun F3 hF3 hcx3=>?_)
 refine l4 (V:=VG) (T:=3) (E:=aN) (.here _) (fun F4 hF4 hG4=>?_)
 refine l4 (V:=VE) (T:=272) (E:=g5) (.here _) (fun F5 hF5 hE5=>?_)
 have hF15:=hF2.trans (hF3.trans (hF4.trans hF5))
 have hF05:=hF1.trans hF15
 have hEI5:=hEI2.mono (hF3.trans (hF4.trans hF5)).blk
 have hcx5:=hcx3.mono (hF4.trans hF5).blk
 have hG5:=hG4.mono hF5.blk
 have hI5:=hI0.mono hF05.blk
 have hdr5:F5.dr=0:=hF05.dr
 refine zR3 ?_
 have hr1:(List.replicate l.length (iJ 8)).length=l.length:=List.length_replicate
 have hr2:(List.replicate l.length false).length=l.length:=List.length_replicate
 refine fE 0 7 ak ?_
 refine aG (zT3 ?_)
 refine aB (eh rfl hcx5 mF (by rfl)) (aB (ae rfl) ?_)
 refine aB (ac rfl Tryz.call162 (fun w hw=>rJ w)) (zT2 ?_)
 refine gg (l:=(List.replicate l.length (iJ 8))) (i:=fn) ((zL 8)) rfl rfl aI ?_
 have hls12:(List.set (List.replicate l.length (iJ 8)) (fn) ((zL 8))).length=((List.replicate l.length (iJ 8))).length:=List.length_set
 refine zR7 ?_
 refine zz0 (eh rfl hcx5 oC (by rfl)) (zR2 ?_)
 refine gg (l:=(List.replicate l.length false)) (i:=fn) (true) rfl rfl iu ?_
 have hls13:(List.set (List.replicate l.length false) (fn) (true)).length=((List.replicate l.length false)).length:=List.length_set
 refine zR8 ?_
 refine dO (ι:=Nat × VSt) (fun ⟨n,s⟩=>(n≤rounds∧iL l (dR l fn) (kO l) (rounds - n) s=iL l (dR l fn) (kO l) rounds (oR l fn))∧(s.st.length=l.length∧s.vs.length=l.length∧s.mb.length=l.length)∧∀ v∈s.vs,0≤v∧v≤(n:Int)) (fun _=>F5) (fun ⟨n,s⟩=>[rowE Vb 37 bQ s.st,rowE VV 3 aN s.vs,rowE VM 4 bO s.mb]) (fun ⟨n,s⟩=>[(15,.int .i64 (n:Nat))]) (fun ⟨n,s⟩=>rounds - n) (0,(oR l fn)) ⟨⟨Nat.zero_le _,by rw [Nat.sub_zero]⟩,⟨by simp [oR],by simp [oR],by simp [oR]⟩,fun v hv=>by rw [(List.mem_replicate.1 hv).2]; omega⟩ (Front.c Front.nil) (fun i hi m hm=>?_)
 obtain ⟨n,s⟩:=i
 dsimp only at hi hm
 change Tr _ _ [rowE Vb 37 bQ s.st,rowE VV 3 aN s.vs,rowE VM 4 bO s.mb] ([(15,.int .i64 (n:Nat))] ++ _) _
 obtain ⟨⟨hnr,han⟩,⟨hst,hvt,hmt⟩,hvn⟩:=hi
 refine zR7 ?_
 refine zz0 (eh rfl hcx5 oC (by rfl)) ?_
 refine zz0 (ac rfl Tryz.call163 (fun w hw=>Gj s.mb VM true w (hw.row (by repeat constructor)))) (df ?_)
 refine af rfl (fun h14=>?_) (fun h14=>?_)
 ·refine zR5 ?_
  refine zz0 (eh rfl hcx5 mF (by rfl)) (df ?_)
  refine bV mj rfl rfl (fun w' hw=>?_)
  have e:cR l entry rounds=(s.st,0):=by
   unfold cR
   rw [if_neg (by omega),if_neg (by rw [← hfe]; exact ht0),← hfe,Int.toNat_natCast,← han]
   exact Aj (by show bK _ _ _<0; assumption)
  refine ⟨Vb,by rw [e],hw.below0 hF05,by rw [e]; exact hw.ents0 hF05.lo (by repeat' constructor)⟩
 refine df ?_
 refine af rfl (fun h15=>?_) (fun h15=>?_)
 ·refine bE (aR 37 bQ (dy ?_))
  refine bV mj rfl rfl (fun w' hw=>?_)
  have e:cR l entry rounds=([],15):=by
   unfold cR
   rw [if_neg (by omega),if_neg (by rw [← hfe]; exact ht0),← hfe,Int.toNat_natCast,← han,show rounds - n=0 by omega]
   exact CN (by show ¬ bK _ _ _<0; omega)
  refine ⟨.slice none 0 0,by rw [e],hw.below0 hF05,by rw [e]; exact hw.ents0 hF05.lo (by repeat' constructor)⟩
 refine zR2 ?_
 obtain ⟨km,hkm⟩:∃ km:Nat,bK (fun x=>decide (true=x)) 0 s.mb=(km:Int):=⟨_,(Int.toNat_of_nonneg (by omega)).symm⟩
 rw [hkm]
 have hkl:=gi (fun x=>decide (true=x)) s.mb 0
 refine zR3 ?_
 refine db (fun _:Unit=>.tuple #[]) [rowE Vb 37 bQ s.st,rowE VV 3 aN s.vs,rowE VM 4 bO s.mb] (fun _=>[rowE Vb 37 bQ (jE l (dR l fn) (rs.getD km default).data km s).st,rowE VV 3 aN (jE l (dR l fn) (rs.getD km default).data km s).vs,rowE VM 4 bO (jE l (dR l fn) (rs.getD km default).data km s).mb]) (ok:=fun _=>True) (dd:=fun _=>0) rfl Tryz.call164 (by repeat' constructor) (fun w hw=>Nat.le_of_eq hdr5) (fun w hw=>Is l (dR l fn) rs s bq bm km (.slice pV l.length cV) VE VG Vb VV VM w (hw.own (by repeat' constructor)) (hcx5.mono (show Hp.le F5.blk (Bg.lessB w (aT [rowE Vb 37 bQ s.st,rowE VV 3 aN s.vs,rowE VM 4 bO s.mb]) 0).blk from hw.lessB (Lo:=[rowE Vb 37 bQ s.st,rowE VV 3 aN s.vs,rowE VM 4 bO s.mb]) (by repeat' constructor))) (hI5.mono (show Hp.le F5.blk (Bg.lessB w (aT [rowE Vb 37 bQ s.st,rowE VV 3 aN s.vs,rowE VM 4 bO s.mb]) 0).blk from hw.lessB (Lo:=[rowE Vb 37 bQ s.st,rowE VV 3 aN s.vs,rowE VM 4 bO s.mb]) (by repeat' constructor))) (hG5.mono (show Hp.le F5.blk (Bg.lessB w (aT [rowE Vb 37 bQ s.st,rowE VV 3 aN s.vs,rowE VM 4 bO s.mb]) 0).blk from hw.lessB (Lo:=[rowE Vb 37 bQ s.st,rowE VV 3 aN s.vs,rowE VM 4 bO s.mb]) (by repeat' constructor))) (hE5.mono (show Hp.le F5.blk (Bg.lessB w (aT [rowE Vb 37 bQ s.st,rowE VV 3 aN s.vs,rowE VM 4 bO s.mb]) 0).blk from hw.lessB (Lo:=[rowE Vb 37 bQ s.st,rowE VV 3 aN s.vs,rowE VM 4 bO s.mb]) (by repeat' constructor))) (hEI5.mono (show Hp.le F5.blk (Bg.lessB w (aT [rowE Vb 37 bQ s.st,rowE VV 3 aN s.vs,rowE VM 4 bO s.mb]) 0).blk from hw.lessB (Lo:=[rowE Vb 37 bQ s.st,rowE VV 3 aN s.vs,rowE VM 4 bO s.mb]) (by repeat' constructor))) hIO (yO _ _) hst hvt hmt (Ju hrs) (Jo _ _) (Ol hrs km) (fun v hv=>by have:=hvn v hv; omega) (by omega)) rfl (fun _ _=>zR5 ?_)
 refine zz0 (aZ rfl rfl) (zR3 ?_)
 have hfm:lR s.mb=(km:Int):=hkm
 have hstep:iL l (dR l fn) (kO l) (rounds - n) s=iL l (dR l fn) (kO l) (rounds - (n+1)) (jE l (dR l fn) (rs.getD km default).data km s):=by
  rw [show rounds - n=rounds - (n+1)+1 by omega,Ai (by rw [hfm]; omega),hfm,Int.toNat_natCast,oa hrs km]
 have hvl:=FA l (dR l fn) (rs.getD km default).data km s
 have hvv:=J2 (l:=l) (gd:=(dR l fn)) (es:=(rs.getD km default).data) (k:=km) (by omega) hvn
 refine bC (n+1,jE l (dR l fn) (rs.getD km default).data km s) (Front.c Front.nil) (zz9 18 rfl) (o:=⟨⟨by omega,hstep.symm.trans han⟩,⟨hvl.1.trans hst,hvl.2.1.trans hvt,hvl.2.2.trans hmt⟩,hvv⟩)
end Go.Proofs.YtiajjbhcpeadfaaGreat
namespace Go.Proofs.YtiajjbhcpeadfaaGreat
open Go Go.HL Go.RowKit
theorem Nh (l:List SecV) (pV:Option Addr) (cV:Nat) (a:UInt32) (w:World) (hV:Sl (hp w) cD l (.slice pV l.length cV)) (hB:SecB l) (hD:DataIn (hp w) l) :
  Cr Tryz.prog 104 #[.agg #[(.slice pV l.length cV)],.int .u32 a.toNat] w (.tuple #[.int .u32 (pR l a).1.toNat,.bool (pR l a).2]):=by
 have hV':Sl (Bg.of w).blk cD l (.slice pV l.length cV):=hV
 have hff:=gC (l:=l) (a:=a)
 have hD':DataIn (Bg.of w).blk l:=hD
 refine enter Tryz.func104 rfl Tryz.ntmps104 rfl (zR2 ?_)
 refine cm rfl rfl (fun b1=>zR9 ?_)
 refine ij (fun V=>.tuple #[V,.int .i64 (jx l a 4).2]) rfl Tryz.call157 (fun w hw=>KL l (.slice pV l.length cV) a 4 w (hw.slF hV') hB (hD'.mono hw.bg) (by omega)) rfl (fun V2=>jz ?_)
 apply cE 4 18 22 (fun hF3 hF3'=>?_) ?_; rotate_right
 ·refine zz5 hF3 (ae rfl) (zz5 hF3 (nN rfl) ?_)
  exact zE
 refine zR2 ?_
 refine af rfl (fun h4=>?_) (fun h4=>?_)
 ·have hq1:=h4
  refine zR8 ?_
  exact bV pM rfl rfl fun w' hw=>⟨by unfold pR; rw [if_pos (by omega)]; rfl,hw.b0⟩
 have hq1:=h4
 refine zR7 ?_
 refine zz0 (ac rfl rx (fun w hw=>uA l (.slice pV l.length cV) a w (hw.slF hV') hB)) (zR9 ?_)
 apply cE 7 29 36 (fun hF5 hF5'=>?_) ?_; rotate_right
 ·refine zR3 ?_
  refine zz5 hF5 (pO rfl rfl) (zz5 hF5 (aD rfl) ?_)
  refine zz5 hF5 (l6 rfl (by assumption) k7 (by omega) (by rfl)) ?_
  exact zE
 refine zR2 ?_
 refine af rfl (fun h6=>?_) (fun h6=>?_)
 ·have hq2:=h6
  refine zR8 ?_
  exact bV pM rfl rfl fun w' hw=>⟨by unfold pR; rw [if_neg (by omega),if_pos hq2]; rfl,hw.b0⟩
 have hq2:=h6
 refine mG (bE (ip ak (aB (ae rfl) ?_)))
 refine aB (Nb (E:=cX) (l:=(jx l a 4).1) (i:=0) rfl rfl aS eJ) (aB (sB rfl) ?_)
 refine aB (iU rfl aU an) (aB (ae rfl) (aB (Nb (E:=cX) (l:=(jx l a 4).1) (i:=1) rfl rfl aS eJ) (aB (sB rfl) ?_)))
 refine aB (iU rfl aU an) (aB (nL rfl rfl (by omega)) ?_)
 refine aB (s7 rfl rfl) (aB (ae rfl) ?_)
 refine aB (Nb (E:=cX) (l:=(jx l a 4).1) (i:=2) rfl rfl aS eJ) (aB (sB rfl) ?_)
 refine aB (iU rfl aU an) (aB (nL rfl rfl (by omega)) ?_)
 refine aB (s7 rfl rfl) (aB (ae rfl) ?_)
 refine aB (Nb (E:=cX) (l:=(jx l a 4).1) (i:=3) rfl rfl aS eJ) (aB (sB rfl) ?_)
 refine aB (iU rfl aU an) (aB (nL rfl rfl (by omega)) ?_)
 refine aB (s7 rfl rfl) (zT5 ?_)
 refine bV pM rfl rfl (fun w' hw=>?_)
 refine ⟨?_,hw.b0⟩
 unfold pR
 rw [if_neg (by omega),if_neg (fun q=>q.elim (fun q=>hq2.1 q) (fun q=>by rw [hq2.2] at q; cases q))]
 exact congrArg (fun x:UInt32=>Ending.returned (.tuple #[.int .u32 x.toNat,.bool true])) (Pr (by omega))
theorem Ar (l:List SecV) (pV:Option Addr) (cV:Nat) (a:UInt32) (w:World) (hV:Sl (hp w) cD l (.slice pV l.length cV)) (hB:SecB l) :
  Cr Tryz.prog 44 #[.agg #[(.slice pV l.length cV)],.int .u32 a.toNat] w (.bool (Ka l a)):=by
 have hV':Sl (Bg.of w).blk cD l (.slice pV l.length cV):=hV
 have hff:=gC (l:=l) (a:=a)
 refine enter Tryz.func44 rfl Tryz.ntmps44 rfl (zR2 ?_)
 refine cm rfl rfl (fun b1=>zR8 ?_)
 refine zz0 (ac rfl rx (fun w hw=>uA l (.slice pV l.length cV) a w (hw.slF hV') hB)) (zR8 ?_)
 apply cj 7 12 19 (fun hT2 hT2'=>?_) ?_; rotate_right
 ·refine zR3 ?_
  refine zz5 hT2 (pO rfl rfl) (zz5 hT2 (aD rfl) ?_)
  refine zz5 hT2 (l6 rfl (by assumption) k7 (by omega) (by rfl)) ?_
  exact zE
 refine zR4 ?_
 exact ah Tryz.results44 rfl fun w' hw=>⟨rfl,hw.b0⟩
theorem ED (l:List SecV) (pV:Option Addr) (cV:Nat) (t j:UInt32) (w:World) (hV:Sl (hp w) cD l (.slice pV l.length cV)) (hB:SecB l) (hD:DataIn (hp w) l) :
  Cr Tryz.prog 45 #[.agg #[(.slice pV l.length cV)],.int .u32 t.toNat,.int .u32 j.toNat] w (.tuple #[.int .u32 (jI l t j).1.toNat,.bool (jI l t j).2]):=by
 have hV':Sl (Bg.of w).blk cD l (.slice pV l.length cV):=hV
 have hD':DataIn (Bg.of w).blk l:=hD
 refine enter Tryz.func45 rfl Tryz.ntmps45 rfl (zR2 ?_)
 refine cm rfl rfl (fun b1=>zR9 ?_)
 refine zz0 (zw (m:=4) rfl rfl) (zz0 (gV rfl rfl) ?_)
 refine zz0 (ac rfl Tryz.call104 (fun w hw=>Nh l pV cV (t+4 * j) w (hw.slF hV') hB (hD'.mono hw.bg))) (fu ?_)
 apply cj 4 21 25 (fun hT2 hT2'=>?_) ?_; rotate_right
 ·refine zR2 ?_
  refine zz5 hT2 (ac rfl Tryz.call44 (fun w hw=>Ar l pV cV (pR l (t+4 * j)).1 w (hw.slF hV') hB)) ?_
  exact zE
 refine zR5 ?_
 exact bV Tryz.results45 rfl rfl fun w' hw=>⟨rfl,hw.b0⟩
theorem wm (i:Ins) (w:World) (hI:InsOK i) :
  Cr Tryz.prog 38 #[.agg (am.enc i).toArray] w (.bool (kL i)):=by
 refine enter Tryz.func38 rfl Tryz.ntmps38 rfl (zR2 ?_)
 refine cm rfl rfl (fun b1=>zR6 ?_)
 refine zz0 (ac rfl lU (fun w hw=>lO i w hI)) (zz0 (ae rfl) ?_)
 apply kc
 ·exact (rfl:_=(14,5,19))
 ·exact rfl
 ·intro hT2; have hT2':=hT2
  try simp only [bs] at hT2'
  refine zR4 ?_
  apply lC
  ·exact (rfl:_=(4,9,13))
  ·exact rfl
  ·intro hF3; have hF3':=hF3
   try simp only [bs] at hF3'
   refine zR6 ?_
   exact bP (Sub.cons rfl (zz8 4 rfl))
  ·intro hT3
   refine zR6 ?_
   exact bP (Sub.cons rfl (zz8 4 rfl))
  refine zz5 hT2 (ae rfl) ?_
  apply lC
  ·exact (rfl:_=(4,14,18))
  ·exact rfl
  ·intro hF4; have hF4':=hF4
   try simp only [bs] at hF4'
   refine zR6 ?_
   exact bP (Sub.cons rfl (zz8 4 rfl))
  ·intro hT4
   refine zR6 ?_
   exact bP (Sub.cons rfl (zz8 4 rfl))
  refine zR3 ?_
  exact bP (Sub.cons rfl (zz8 8 rfl))
 ·intro hF2
  refine wK ?_
  exact bP (Sub.cons rfl (zz8 14 rfl))
 refine zR4 ?_
 exact ah Tryz.results38 rfl fun w' hw=>⟨by unfold kL s8; congr 2; rw [Bool.eq_iff_iff]; simp only [Bool.and_eq_true,Bool.or_eq_true,decide_eq_true_eq]; omega,hw.b0⟩
theorem zW (l:List UInt32) (V:Value) (g:FuncId) (cb:List Value) (w:World) (hV:Sl (hp w) aa l V) (eg:∀ (args:Array Value) (w:World),(callFunc g args).run Tryz.prog w=.ok (.enter g args) w) (p:UInt32→Bool) (hp:∀ x∈l,∀ w',Ext w w'→Calls Tryz.prog g ([Value.int .u32 x.toNat] ++ cb).toArray w' fun e w''=>e=.returned (.bool (p x))∧Ext w' w'') :
  Cr Tryz.prog 101 #[V,.func (.func g) #[] cb.toArray] w (.int .i64 (bK p 0 l)):=by
 have hV':Sl (Bg.of w).blk aa l V:=hV
 have hlen:=hV.len_le
 refine enter Tryz.func101 rfl Tryz.ntmps101 rfl (lN ?_)
 refine ed (.of (ι:=Nat) (fun k=>k≤l.length∧bK p k (l.drop k)=bK p 0 l) (fun _=>_) (fun k=>[]) (fun k=>[(8,.int .i64 (k:Nat))]) (fun k=>l.length - k)) 0 ⟨Nat.zero_le _,rfl⟩ (Front.c Front.nil) (fun k hi m hm=>?_)
 obtain ⟨hk1,hk2⟩:=hi
 refine zR6 ?_
 refine af rfl (fun h1=>?_) (fun h1=>?_)
 ·refine xz ?_
  refine zz0 (iS rfl rfl eg (fun w hw=>hp _ (bB (by omega)) w (hw.b0))) (zR2 ?_)
  refine af rfl (fun h2=>?_) (fun h2=>?_)
  ·refine fu ?_
   exact ah Tryz.results101 rfl fun w' hw=>⟨by rw [← hk2,drop_cons (k:=k) (by omega),bK,if_pos (by assumption)],hw.b0⟩
  refine zR4 ?_
  refine zz0 (aZ rfl rfl) (zR3 ?_)
  refine bC (k+1) (Front.c Front.nil) (zz9 12 rfl) (o:=⟨by omega,by rw [← hk2,drop_cons (k:=k) (by omega),bK,if_neg (by simp_all)]⟩)
 refine dy ?_
 exact ah Tryz.results101 rfl fun w' hw=>⟨by rw [← hk2,List.drop_of_length_le (by omega)]; rfl,hw.b0⟩
theorem vD (l:List UInt32) (V:Value) (g:FuncId) (cb:List Value) (w:World) (hV:Sl (hp w) aa l V) (eg:∀ (args:Array Value) (w:World),(callFunc g args).run Tryz.prog w=.ok (.enter g args) w) (p:UInt32→Bool) (hp:∀ x∈l,∀ w',Ext w w'→Calls Tryz.prog g ([Value.int .u32 x.toNat] ++ cb).toArray w' fun e w''=>e=.returned (.bool (p x))∧Ext w' w'') :
  Cr Tryz.prog 42 #[V,.func (.func g) #[] cb.toArray] w (.bool (l.any p)):=by
 have hV':Sl (Bg.of w).blk aa l V:=hV
 refine enter Tryz.func42 rfl Tryz.ntmps42 rfl (zR9 ?_)
 refine zz0 (ac rfl Tryz.call101 (fun w hw=>zW l V g cb w (hw.slF hV') eg p (fun x hx w'' h=>hp x hx w'' ((hw.b0).trans h)))) (zR5 ?_)
 exact ah Tryz.results42 rfl fun w' hw=>⟨by rw [um],hw.b0⟩
theorem Pj (l:List SecV) (pV:Option Addr) (cV:Nat) (w:World) :
  Calls Tryz.prog 43 #[.func (.func 44) #[.agg #[(.slice pV l.length cV)]] #[]] w (fun e w'=>∃ b:Nat,e=.returned (.func (.func 102) #[] #[.pointer (some ⟨b,0,none⟩)])∧Ext w w'∧NewEnts w w' [cellE b [.func (.func 44) #[.agg #[(.slice pV l.length cV)]] #[]] 95]∧True):=by
 refine enter Tryz.func43 rfl Tryz.ntmps43 rfl (zR2 ?_)
 refine cm rfl rfl (fun b1=>zR5 ?_)
 refine zz0 (eP rfl rfl) (zR4 ?_)
 exact ah Tryz.results43 rfl fun w' hw=>⟨_,rfl,hw.b0,hw.ents (Bg.le.refl _) (Pick.refl _),trivial⟩
theorem NI (l:List SecV) (pV:Option Addr) (cV:Nat) (a:UInt32) (b:Nat) (w:World) (hV:Sl (hp w) cD l (.slice pV l.length cV)) (hB:SecB l) (hc:Cell (hp w) b 0 (.func (.func 44) #[.agg #[(.slice pV l.length cV)]] #[])) :
  Cr Tryz.prog 102 #[.int .u32 a.toNat,.pointer (some ⟨b,0,none⟩)] w (.bool (!Ka l a)):=by
 have hV':Sl (Bg.of w).blk cD l (.slice pV l.length cV):=hV
 have hc':Cell (Bg.of w).blk b 0 (.func (.func 44) #[.agg #[(.slice pV l.length cV)]] #[]):=hc
 refine enter Tryz.func102 rfl Tryz.ntmps102 rfl (zR7 ?_)
 refine zz0 (qA rfl (by assumption) Tryz.isAgg95) (zz0 (ae rfl) ?_)
 refine zz0 (JV (us:=[.agg #[(.slice pV l.length cV)]]) rfl rfl Tryz.call44 (fun w hw=>Ar l pV cV a w (hw.slF hV') hB)) (zR5 ?_)
 exact ah Tryz.results102 rfl fun w' hw=>⟨rfl,hw.b0⟩
end Go.Proofs.YtiajjbhcpeadfaaGreat
namespace Go.Proofs.YtiajjbhcpeadfaaGreat
open Go Go.HL Go.RowKit
theorem nv (l:List SecV) (pV:Option Addr) (cV:Nat) (i:Ins) (s:StV) (w:World) (hV:Sl (hp w) cD l (.slice pV l.length cV)) (hB:SecB l) (hD:DataIn (hp w) l) (hN:∀ s∈l,s.name.size≤140737488351232) (hI:InsOK i) :
  Calls Tryz.prog 12 #[(.slice pV l.length cV),.agg (am.enc i).toArray,.agg (bQ.enc s).toArray] w (fun e w'=>∃ V':Value,e=.returned (.tuple #[V',.int .i64 (bF l i (s.get i.a)).2])∧Ext w w'∧je w w' 23 aa (bF l i (s.get i.a)).1 V'):=by
 have hV':Sl (Bg.of w).blk cD l (.slice pV l.length cV):=hV
 have hD':DataIn (Bg.of w).blk l:=hD
 refine enter Tryz.func12 rfl Tryz.ntmps12 rfl (zR2 ?_)
 refine cm rfl rfl (fun b1=>?_)
 refine cm rfl rfl (fun b2=>zR8 ?_)
 refine zz0 (ac rfl Tryz.call38 (fun w hw=>wm i w hI)) (zR3 ?_)
 refine af rfl (fun h3=>?_) (fun h3=>?_)
 ·have hq1:kL i=false:=h3
  refine zR8 ?_
  refine bV ig rfl rfl (fun w' hw=>?_)
  have e:bF l i (s.get i.a)=([],2):=by
   unfold bF
   rw [if_pos hq1]
  exact ⟨.slice none 0 0,by rw [e],hw.b0,by rw [e]; exact eS rfl⟩
 have hq1:kL i=true:=by simpa using h3
 refine zR6 ?_
 refine zz0 (ac rfl sX (fun w hw=>sT l (.slice pV l.length cV) w (hw.slF hV') hB (fun s hs=>by have:=hN s hs; omega))) (zR9 ?_)
 refine af rfl (fun h4=>?_) (fun h4=>?_)
 ·have hq2:cF l≠0:=h4
  refine zR9 ?_
  refine bV ig rfl rfl (fun w' hw=>?_)
  have e:bF l i (s.get i.a)=([],cF l):=by
   unfold bF
   rw [if_neg (by rw [hq1]; simp)]
   rw [if_pos hq2]
  exact ⟨.slice none 0 0,by rw [e],hw.b0,by rw [e]; exact eS rfl⟩
 have hq2:cF l=0:=by simpa using h4
 refine zR3 ?_
 have hA:=jX (show fZ i=0 by unfold kL at hq1; simp at hq1; exact hq1.1)
 refine zR4 ?_
 refine zz0 (fX rfl rfl bA ab) ?_
 refine zz0 (eQ (vs:=aM.enc (s.get i.a)) rfl (by repeat constructor) aF ab (mK ⟨by omega,by omega⟩ (by simp)) rfl) ?_
 obtain ⟨x,hx⟩:∃ x,x=s.get i.a:=⟨_,rfl⟩
 rw [← hx]
 refine bS bI rfl (fun b5=>?_)
 refine ad aM rfl rfl ab ?_
 refine zR6 ?_
 refine zz0 (ac rfl Tryz.call40 (fun w hw=>xH _ w)) (zR2 ?_)
 apply cE 3 34 37 (fun hF6 hF6'=>?_) ?_; rotate_right
 ·exact zE
 refine zz0 (ae rfl) ?_
 apply cE 3 38 41 (fun hF7 hF7'=>?_) ?_; rotate_right
 ·exact zE
 refine zR2 ?_
 refine af rfl (fun h8=>?_) (fun h8=>?_)
 ·have hq3:=h8
  refine zR8 ?_
  refine bV ig rfl rfl (fun w' hw=>?_)
  have e:bF l i x=([],19):=by
   unfold bF
   rw [if_neg (by rw [hq1]; simp)]
   rw [if_neg (fun q=>q hq2)]
   rw [if_pos (by rcases hq3 with (q|q)|q <;> simp_all)]
  exact ⟨.slice none 0 0,by rw [e],hw.b0,by rw [e]; exact eS rfl⟩
 have hq3:=h8
 refine zR5 ?_
 refine zz0 (aK (vs:=[(0,_)]) rfl rfl rfl) ?_
 refine bS Tryz.zeroValue92 rfl (fun b9=>?_)
 refine zz7 rfl rfl Tryz.sizeOf92 ?_
 refine df ?_
 refine af rfl (fun h10=>?_) (fun h10=>?_)
 ·have hqo:i.op≠22:=h10
  refine zR3 ?_
  refine ij (fun V=>.tuple #[V,.int .i64 (eF x).2]) rfl Tryz.call41 (fun w hw=>wt x w) rfl (fun VE=>jz ?_)
  apply cE 6 54 60 (fun hF11 hF11'=>?_) ?_; rotate_right
  ·refine zR2 ?_
   refine zz5 hF11 (eP rfl rfl) ?_
   refine zm rfl rfl hF11 ?_
   refine il (fun b:Nat=>.func (.func 102) #[] #[.pointer (some ⟨b,0,none⟩)]) (fun b=>[cellE b [.func (.func 44) #[.agg #[(.slice pV l.length cV)]] #[]] 95]) (ok:=fun _=>True) rfl Tryz.call43 (fun w hw=>Pj l pV cV w) rfl (fun bf _=>?_)
   refine zz5 hF11 (ac rfl Tryz.call42 (fun w hw=>vD (eF x).1 VE _ [.pointer (some ⟨bf,0,none⟩)] w (hw.row (by repeat constructor)) Tryz.call102 (fun a=>!Ka l a) (fun y hy w'' h=>NI l pV cV y bf w'' ((hw.slF hV').mono h.hp) hB (cellE.cell (hw.ent _ (by repeat constructor)) h rfl)))) ?_
   exact zE
  refine zR2 ?_
  refine af rfl (fun h12=>?_) (fun h12=>?_)
  ·have hq6:=h12
   refine zR9 ?_
   refine bV ig rfl rfl (fun w' hw=>?_)
   have e:bF l i x=([],19):=by
    unfold bF
    rw [if_neg (by rw [hq1]; simp)]
    rw [if_neg (fun q=>q hq2)]
    rw [if_neg (show ¬((eD x=false∨x.em=true)∨x.top=true) from fun q=>by rcases q with (q|q)|q <;> simp_all)]
    rw [if_pos hqo,if_pos (by rcases hq6 with q|q <;> simp_all)]
   exact ⟨.slice none 0 0,by rw [e],hw.b0,by rw [e]; exact eS rfl⟩
  have hq6:=h12
  refine dy ?_
  refine bV ig rfl rfl (fun w' hw=>?_)
  have e:bF l i x=((eF x).1,0):=by
   unfold bF
   rw [if_neg (by rw [hq1]; simp)]
   rw [if_neg (fun q=>q hq2)]
   rw [if_neg (show ¬((eD x=false∨x.em=true)∨x.top=true) from fun q=>by rcases q with (q|q)|q <;> simp_all)]
   rw [if_pos hqo,if_neg (by simp_all)]
  exact ⟨VE,by rw [e]; rfl,hw.b0,by rw [e]; exact hw.new (by repeat constructor)⟩
 have hqo:i.op=22:=by simpa using h10
 refine zR7 ?_
 refine zz0 (nP (n:=64) rfl rfl) (zR2 ?_)
 refine af rfl (fun h13=>?_) (fun h13=>?_)
 ·have hq4:64≤x.hi:=h13
  refine zR8 ?_
  refine bV ig rfl rfl (fun w' hw=>?_)
  have e:bF l i x=([],19):=by
   unfold bF
   rw [if_neg (by rw [hq1]; simp)]
   rw [if_neg (fun q=>q hq2)]
   rw [if_neg (show ¬((eD x=false∨x.em=true)∨x.top=true) from fun q=>by rcases q with (q|q)|q <;> simp_all)]
   rw [if_neg (fun q=>q hqo),if_pos hq4]
  exact ⟨.slice none 0 0,by rw [e],hw.b0,by rw [e]; exact eS rfl⟩
 have hq4:x.hi<64:=by have:=h13; rw [UInt32.not_le] at this; exact this
 refine fu ?_
 refine zz0 (gV (n:=1) rfl rfl) (zR4 ?_)
 refine aR 23 aa ?_
 refine dO (ι:=Nat × List UInt32 × Value) (fun ⟨j,out,Vo⟩=>j≤x.hi.toNat+1∧pW l i.imm x j=some out) (fun _=>_) (fun ⟨j,out,Vo⟩=>[rowE Vo 23 aa out,cellE b9 [(.slice pV l.length cV)] 92,cellE b5 (aM.enc x) 25,cellE b2 (bQ.enc s) 37,cellE b1 (am.enc i) 36]) (fun ⟨j,out,Vo⟩=>[(68,.int .u32 (u32 (j:Int)).toNat),(13,Vo)]) (fun ⟨j,out,Vo⟩=>65 - j) (0,[],_) ⟨Nat.zero_le _,rfl⟩ (Front.c (Front.c Front.nil)) (fun i hi m hm=>?_)
 obtain ⟨j,out,Vo⟩:=i
 dsimp only at hi hm
 change Tr _ _ [rowE Vo 23 aa out,cellE b9 [(.slice pV l.length cV)] 92,cellE b5 (aM.enc x) 25,cellE b2 (bQ.enc s) 37,cellE b1 (am.enc i) 36] ([(68,.int .u32 (u32 (j:Int)).toNat),(13,Vo)] ++ _) _
 obtain ⟨hj,hto⟩:=hi
 have hol:=rL hto
 have h64:x.hi.toNat<64:=by rw [UInt32.lt_iff_toNat_lt] at hq4; exact hq4
 refine zR6 ?_
 refine af rfl (fun h14=>?_) (fun h14=>?_)
 ·have hq5:=h14
  refine zR5 ?_
  have hhs:=HH hq4
  have hju:=pU (x:=(j:Int)) (by omega)
  rw [UInt32.lt_iff_toNat_lt] at hq5
  refine dy ?_
  refine fC (.of (ι:=UInt32) (fun k1=>k1=wM x (u32 (j:Int))) (fun _=>Bg.of w) (fun k1=>[rowE Vo 23 aa out,cellE b9 [(.slice pV l.length cV)] 92,cellE b5 (aM.enc x) 25,cellE b2 (bQ.enc s) 37,cellE b1 (am.enc i) 36]) (fun k1=>[(15,.int .u32 k1.toNat)])) ?_ (fun k1 hi=>?_)
  ·skip
   refine zR4 ?_
   refine zz0 (ac rfl s5 (fun w hw=>ox x _ w)) (zR3 ?_)
   refine af rfl (fun h15=>?_) (fun h15=>?_)
   ·refine zR6 ?_
    refine aQ _ (Front.c Front.nil) (zz9 7 rfl) (o:=(by show _=_; unfold wM; rw [if_neg (by simp_all)]))
   refine zR2 ?_
   refine aQ _ (Front.c Front.nil) (zz9 4 rfl) (o:=(by show _=_; unfold wM; rw [if_pos (by simp_all)]))
  skip
  refine zR6 ?_
  refine zz0 (ac rfl Tryz.call45 (fun w hw=>ED l pV cV i.imm k1 w (hw.slF hV') hB (hD'.mono hw.bg))) (lN ?_)
  refine af rfl (fun h16=>?_) (fun h16=>?_)
  ·have hq7:(jI l i.imm k1).2=false:=h16
   refine jz ?_
   refine bV ig rfl rfl (fun w' hw=>?_)
   have htn:=Iz (Np hto (by rw [← hi]; exact hq7)) (x.hi.toNat+1) (by omega)
   have e:bF l i x=([],19):=by
    unfold bF
    rw [if_neg (by rw [hq1]; simp)]
    rw [if_neg (fun q=>q hq2)]
    rw [if_neg (show ¬((eD x=false∨x.em=true)∨x.top=true) from fun q=>by rcases q with (q|q)|q <;> simp_all)]
    rw [if_neg (fun q=>q hqo),if_neg (by rw [UInt32.not_le]; exact hq4),htn]
   exact ⟨.slice none 0 0,by rw [e],hw.b0,by rw [e]; exact eS rfl⟩
  have hq7:(jI l i.imm k1).2=true:=by simpa using h16
  refine zR5 ?_
  refine g7 (E:=aa) (jI l i.imm k1).1 rfl rfl au aj ba (fun V17=>?_)
  refine zz3 rfl rfl au dA (fun V18=>?_)
  refine zR5 ?_
  refine zz0 (gV (n:=1) rfl rfl) (zR3 ?_)
  rw [J9 (by omega)]
  refine bC (j+1,out ++ [(jI l i.imm k1).1],_) (Front.c (Front.c Front.nil)) (zz9 27 rfl) (o:=⟨by omega,by rw [hi]; exact Kf hto (by rw [← hi]; exact hq7)⟩)
 have hq5:=h14
 refine zR6 ?_
 have hhs:=HH hq4
 have hju:=pU (x:=(j:Int)) (by omega)
 rw [UInt32.lt_iff_toNat_lt] at hq5
 obtain rfl:j=x.hi.toNat+1:=by omega
 refine zR7 ?_
 refine bV ig rfl rfl (fun w' hw=>?_)
 have e:bF l i x=(out,0):=by
  unfold bF
  rw [if_neg (by rw [hq1]; simp)]
  rw [if_neg (fun q=>q hq2)]
  rw [if_neg (show ¬((eD x=false∨x.em=true)∨x.top=true) from fun q=>by rcases q with (q|q)|q <;> simp_all)]
  rw [if_neg (fun q=>q hqo),if_neg (by rw [UInt32.not_le]; exact hq4),hto]
 exact ⟨Vo,by rw [e],hw.b0,by rw [e]; exact hw.new (by repeat constructor)⟩
theorem yC (l:List SecV) (pV:Option Addr) (cV:Nat) (a:UInt32) (n:Int) (w:World) (hV:Sl (hp w) cD l (.slice pV l.length cV)) (hB:SecB l) (hD:DataIn (hp w) l) (hN:∀ s∈l,s.name.size≤140737488351232) :
  Cr Tryz.prog 23 #[(.slice pV l.length cV),.int .u32 a.toNat,.int .i64 n] w (.bool (vq l a n)):=by
 have hV':Sl (Bg.of w).blk cD l (.slice pV l.length cV):=hV
 have hD':DataIn (Bg.of w).blk l:=hD
 refine enter Tryz.func23 rfl Tryz.ntmps23 rfl (dy ?_)
 apply cE 3 13 16 (fun hF1 hF1'=>?_) ?_; rotate_right
 ·exact zE
 refine zz0 (ae rfl) ?_
 apply cE 4 17 21 (fun hF2 hF2'=>?_) ?_; rotate_right
 ·refine zz5 hF2 (ae rfl) (zz5 hF2 (ac rfl sX (fun w hw=>sT l (.slice pV l.length cV) w (hw.slF hV') hB (fun s hs=>by have:=hN s hs; omega))) ?_)
  exact zE
 refine zR2 ?_
 refine af rfl (fun h3=>?_) (fun h3=>?_)
 ·have hq1:=h3
  refine zR7 ?_
  exact ah Tryz.results23 rfl fun w' hw=>⟨by unfold vq; rw [if_pos (by omega)],hw.b0⟩
 have hq1:=h3
 refine zR5 ?_
 refine zz0 (aK (vs:=[(0,_)]) rfl rfl rfl) ?_
 refine bS Tryz.zeroValue92 rfl (fun b4=>?_)
 refine zz7 rfl rfl Tryz.sizeOf92 ?_
 refine df ?_
 refine ed (.of (ι:=Nat) (fun j=>(j:Int)≤n∧qZ l a j=true) (fun _=>_) (fun j=>[cellE b4 [(.slice pV l.length cV)] 92]) (fun j=>[(25,.int .i64 (j:Nat))]) (fun j=>n.toNat - j)) 0 ⟨by omega,rfl⟩ (Front.c Front.nil) (fun j hi m hm=>?_)
 obtain ⟨hj,hto⟩:=hi
 refine zR6 ?_
 refine af rfl (fun h5=>?_) (fun h5=>?_)
 ·refine qE ?_
  refine zz0 (gU rfl ax an) (zz0 (ac rfl Tryz.call45 (fun w hw=>ED l pV cV a _ w (hw.slF hV') hB (hD'.mono hw.bg))) (jz ?_))
  refine af rfl (fun h6=>?_) (fun h6=>?_)
  ·have hq2:(jI l a (u32 (j:Int))).2=false:=h6
   refine dy ?_
   refine ah Tryz.results23 rfl (fun w' hw=>?_)
   have hf:=Eg (show qZ l a (j+1)=false by simp only [qZ,hq2,Bool.and_false]) n.toNat (by omega)
   exact ⟨by unfold vq; rw [if_neg (by omega),hf],hw.b0⟩
  have hq2:(jI l a (u32 (j:Int))).2=true:=by simpa using h6
  refine fO (eK (az (aP (zz0 (aZ rfl rfl) (zR3 ?_)))))
  refine bC (j+1) (Front.c Front.nil) (zz9 18 rfl) (o:=⟨by omega,by simp only [qZ,hto,hq2,Bool.and_self]⟩)
 refine dy ?_
 exact ah Tryz.results23 rfl fun w' hw=>⟨by unfold vq; rw [if_neg (by omega),show n.toNat=j by omega,hto],hw.b0⟩
end Go.Proofs.YtiajjbhcpeadfaaGreat
