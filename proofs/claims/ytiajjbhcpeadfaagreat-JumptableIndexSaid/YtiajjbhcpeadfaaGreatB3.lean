/- Own rules and walks, part 3. -/
import Derived.Test.YtiajjbhcpeadfaaGreatB2
set_option linter.unusedSimpArgs false
set_option linter.unusedVariables false
set_option linter.unusedSectionVars false
set_option maxRecDepth 100000
set_option maxHeartbeats 16000000
namespace Go.Proofs.YtiajjbhcpeadfaaGreat
open Go Go.HL Go.RowKit
theorem jP (n : UInt32) (w : World) :
  Calls Tryz.prog 36 #[.int .u32 n.toNat] w (fun e w' => e = .returned (.agg (bQ.enc (ia n)).toArray) ∧ Ext w w') := by
 refine enter Tryz.func36 rfl Tryz.ntmps36 rfl ?_
 refine af ?_
 refine dB cN rfl (fun b1 => ?_)
 refine aH (zz0 (aa rfl) (zz0 (aa rfl) (zz0 (bG (vs := [(2, _), (3, _)]) rfl rfl (uk _ _)) ?_)))
 refine az bQ rfl rfl aj ?_
 refine ad (aB ?_)
 refine eY Tryz.results36 rfl aK aj (fun w' hw => ?_)
 exact ⟨rfl, hw.b0⟩
theorem kh (w : World) :
  Calls Tryz.prog 37 #[] w (fun e w' => e = .returned (.agg (bQ.enc o9).toArray) ∧ Ext w w') := by
 refine enter Tryz.func37 rfl Tryz.ntmps37 rfl ?_
 refine af ?_
 refine dB cN rfl (fun b1 => ?_)
 refine aH (zz0 (bG (vs := [(1, _)]) rfl rfl (wx _)) ?_)
 refine az bQ rfl rfl aj ?_
 refine ad (aB ?_)
 refine eY Tryz.results37 rfl aK aj (fun w' hw => ?_)
 exact ⟨rfl, hw.b0⟩
theorem ko (w : World) :
  Calls Tryz.prog 91 #[] w (fun e w' => e = .returned (.agg (bQ.enc emptyS).toArray) ∧ Ext w w') := by
 refine enter Tryz.func91 rfl Tryz.ntmps91 rfl ?_
 refine af ?_
 refine dB cN rfl (fun b1 => ?_)
 refine aH (zz0 (bG (vs := [(0, _)]) rfl rfl (wy _)) ?_)
 refine az bQ rfl rfl aj ?_
 refine ad (aB ?_)
 refine eY Tryz.results91 rfl aK aj (fun w' hw => ?_)
 exact ⟨rfl, hw.b0⟩
theorem dU (lo hi st : UInt32) (w : World) :
  Calls Tryz.prog 35 #[.int .u32 lo.toNat, .int .u32 hi.toNat, .int .u32 st.toNat] w (fun e w' => e = .returned (.agg (bQ.enc (eK lo hi st)).toArray) ∧ Ext w w') := by
 refine enter Tryz.func35 rfl Tryz.ntmps35 rfl ?_
 refine af ?_
 refine dB cN rfl (fun b1 => ?_)
 refine ad (al (aF (af (zz0 (aa rfl) (zz0 (aa rfl) (zz0 (lk rfl rfl) ?_))))))
 refine zz0 (ab rfl) (ad ?_)
 refine ar rfl ?_ ?_ <;> intro h2 <;> try simp only [bs] at h2
 ·refine af (zz0 (aA rfl jD (fun w hw => ko w)) ?_)
  refine az bQ rfl rfl aj ?_
  refine ad (aB (bA (ay ?_)))
  refine eY lR rfl aK aj (fun w' hw => ?_)
  refine ⟨?_, hw.b0⟩
  unfold eK
  repeat' (first | rfl | (exfalso; first | (simp_all; done) | grind) | split)
 ·refine af (zz0 (aa rfl) (zz0 (eN (n := 0) rfl rfl) ?_))
  refine zz0 (aa rfl) ?_
  apply dH
  ·exact (rfl : _ = (6, 15, 21))
  ·exact rfl
  ·intro hF3; have hF3' := hF3
   try simp only [bs] at hF3'
   refine zz5 hF3 (aa rfl) (zz5 hF3 (aa rfl) (zz5 hF3 (fH rfl rfl) ?_))
   refine zz5 hF3 (aa rfl) (zz5 hF3 (iZ rfl rfl) ?_)
   refine zz0 (aT rfl hF3 rfl) ?_
   refine aD (ac ?_)
   exact aI (Sub.cons rfl (zz9 6 rfl))
  ·intro hT3
   refine zz8 hT3 (zz8 hT3 (zz8 hT3 (zz8 hT3 (zz8 hT3 (zz0 (aS rfl hT3 rfl) ?_)))))
   refine aD (ac ?_)
   exact aI (Sub.cons rfl (zz9 6 rfl))
  refine zz0 (ab rfl) (ad ?_)
  refine ar rfl ?_ ?_ <;> intro h4 <;> try simp only [bs] at h4
  ·refine af (zz0 (aa rfl) (zz0 (aA rfl jb (fun w hw => jP lo w)) ?_))
   refine az bQ rfl rfl aj ?_
   refine ad (aB (bA (ay ?_)))
   refine eY lR rfl aK aj (fun w' hw => ?_)
   refine ⟨?_, hw.b0⟩
   unfold eK
   repeat' (first | rfl | (exfalso; first | (simp_all; done) | grind) | split)
  ·refine af (zz0 (aa rfl) (zz0 (eN (n := 0) rfl rfl) ?_))
   refine zz0 (aa rfl) ?_
   apply cE
   ·exact (rfl : _ = (3, 27, 30))
   ·exact rfl
   ·intro hT5; have hT5' := hT5
    try simp only [bs] at hT5'
    refine zz5 hT5 (aa rfl) (zz5 hT5 (eN (n := 4294967295) rfl rfl) ?_)
    refine zz0 (aS rfl hT5 rfl) ?_
    refine aD (ac ?_)
    exact aI (Sub.cons rfl (zz9 3 rfl))
   ·intro hF5
    refine zz8 hF5 (zz8 hF5 (zz0 (aT rfl hF5 rfl) ?_))
    refine aD (ac ?_)
    exact aI (Sub.cons rfl (zz9 3 rfl))
   refine zz0 (aa rfl) ?_
   apply cE
   ·exact (rfl : _ = (3, 31, 34))
   ·exact rfl
   ·intro hT6; have hT6' := hT6
    try simp only [bs] at hT6'
    refine zz5 hT6 (aa rfl) (zz5 hT6 (eN (n := 1) rfl rfl) ?_)
    refine zz0 (aS rfl hT6 rfl) ?_
    refine aD (ac ?_)
    exact aI (Sub.cons rfl (zz9 3 rfl))
   ·intro hF6
    refine zz8 hF6 (zz8 hF6 (zz0 (aT rfl hF6 rfl) ?_))
    refine aD (ac ?_)
    exact aI (Sub.cons rfl (zz9 3 rfl))
   refine zz0 (ab rfl) (ad ?_)
   refine ar rfl ?_ ?_ <;> intro h7 <;> try simp only [bs] at h7
   ·refine af (zz0 (aA rfl f9 (fun w hw => kh w)) ?_)
    refine az bQ rfl rfl aj ?_
    refine ad (aB (bA (ay ?_)))
    refine eY lR rfl aK aj (fun w' hw => ?_)
    refine ⟨?_, hw.b0⟩
    unfold eK
    repeat' (first | rfl | (exfalso; first | (simp_all; done) | grind) | split)
   ·refine cg (aX (ac (al ?_)))
    have hst0 : st ≠ 0 := (by assumption : ¬st = 0 ∧ ¬hi - lo < st).1
    refine an (zz0 (aa rfl) (zz0 (aa rfl) (zz0 (aa rfl) (zz0 (aa rfl) (zz0 (fH rfl rfl) ?_)))))
    refine zz0 (aa rfl) (zz0 (nU rfl rfl (by first | decide | assumption)) ?_)
    refine zz0 (fH rfl rfl) ?_
    refine zz0 (aa rfl) (zz0 (bG (vs := [(2, _), (3, _), (4, _)]) rfl rfl (sn _ _ _)) ?_)
    refine az bQ rfl rfl aj ?_
    refine ad (aB ?_)
    refine eY lR rfl aK aj (fun w' hw => ?_)
    refine ⟨?_, hw.b0⟩
    unfold eK
    repeat' (first | rfl | (exfalso; first | (simp_all; done) | grind) | split)
theorem uJ (a : VSet) (w : World) :
  Calls Tryz.prog 40 #[.agg (bQ.enc a).toArray] w (fun e w' => e = .returned (.bool (ir a)) ∧ Ext w w') := by
 refine enter Tryz.func40 rfl Tryz.ntmps40 rfl ?_
 refine af ?_
 refine dO rfl rfl (fun b1 => ?_)
 refine zz0 (ab rfl) (ad (al (aF (al (af (zz0 (zz3 (off := 1) (ft := 4) rfl au rfl bT) ?_))))))
 refine zz0 (aJ rfl cB) ?_
 refine zz0 (ab rfl) (ad ?_)
 apply d6
 ·exact rfl
 ·intro hO2
  try simp only [bs] at hO2
  refine an (zz0 (zz3 (off := 0) (ft := 4) rfl au rfl bT) ?_)
  refine zz0 (aJ rfl cB) ?_
  refine zz0 (ab rfl) (ad ?_)
  exact eM rfl (bC 3 rfl)
 refine ac ?_
 refine ar rfl ?_ ?_ <;> intro h3 <;> try simp only [bs] at h3
 ·refine al (io aQ ?_)
  refine aw (bH rfl aK aj) ?_
  refine aw (aA rfl f9 (fun w hw => kh w)) ?_
  refine aw (Db rfl rfl uR au (qg _ au) rfl rj xJ) ?_
  refine aw (aa rfl) ?_
  apply uC
  ·exact (rfl : _ = (4, 11, 15))
  ·exact rfl
  ·intro hF4; have hF4' := hF4
   try simp only [bs] at hF4'
   refine bY hF4 (bH rfl aK aj) ?_
   refine bY hF4 (aA rfl jD (fun w hw => ko w)) ?_
   refine bY hF4 (Db rfl rfl uR au (qg _ au) rfl rj xJ) ?_
   refine aw (aT rfl hF4 rfl) ?_
   exact du (Sub.cons rfl (zz9 4 rfl))
  ·intro hT4
   refine bX hT4 (bX hT4 (bX hT4 (aw (aS rfl hT4 rfl) ?_)))
   exact du (Sub.cons rfl (zz9 4 rfl))
  refine aw (ab rfl) (bK ?_)
  refine ac (aB (bA (ay ?_)))
  refine aV Tryz.results40 rfl (fun w' hw => ?_)
  refine ⟨?_, hw.b0⟩
  unfold ir
  repeat' (first | rfl | (exfalso; first | (simp_all; done) | grind) | split)
 ·refine af (zz0 (zz3 (off := 4) (ft := 23) rfl au rfl ae) ?_)
  refine zz0 (aJ rfl am) ?_
  refine zz0 (eN (n := 0) rfl rfl) ?_
  refine zz0 (ab rfl) (ad ?_)
  refine ar rfl ?_ ?_ <;> intro h5 <;> try simp only [bs] at h5
  ·refine af (zz0 (zz3 (off := 2) (ft := 23) rfl au rfl ae) ?_)
   refine zz0 (aJ rfl am) ?_
   refine zz0 (zz3 (off := 3) (ft := 23) rfl au rfl ae) ?_
   refine zz0 (aJ rfl am) ?_
   refine zz0 (eN rfl rfl) ?_
   refine zz0 (ab rfl) (ad (aB (bA (ay ?_))))
   refine aV Tryz.results40 rfl (fun w' hw => ?_)
   refine ⟨?_, hw.b0⟩
   unfold ir
   repeat' (first | rfl | (exfalso; first | (simp_all; done) | grind) | split)
  ·refine cg (aX (ac (af (zz0 (zz3 (off := 2) (ft := 23) rfl au rfl ae) ?_))))
   refine zz0 (aJ rfl am) ?_
   refine zz0 (zz3 (off := 3) (ft := 23) rfl au rfl ae) ?_
   refine zz0 (aJ rfl am) ?_
   refine zz0 (iZ rfl rfl) ?_
   refine zz0 (aa rfl) ?_
   apply cE
   ·exact (rfl : _ = (10, 30, 40))
   ·exact rfl
   ·intro hT6; have hT6' := hT6
    try simp only [bs] at hT6'
    refine zz5 hT6 (zz3 (off := 3) (ft := 23) rfl au rfl ae) ?_
    refine zz5 hT6 (aJ rfl am) ?_
    refine zz5 hT6 (zz3 (off := 2) (ft := 23) rfl au rfl ae) ?_
    refine zz5 hT6 (aJ rfl am) ?_
    refine zz5 hT6 (fH rfl rfl) ?_
    refine zz5 hT6 (zz3 (off := 4) (ft := 23) rfl au rfl ae) ?_
    refine zz5 hT6 (aJ rfl am) ?_
    refine zz5 hT6 (nU rfl rfl (by first | decide | assumption)) ?_
    refine zz5 hT6 (eN (n := 0) rfl rfl) ?_
    refine zz0 (aS rfl hT6 rfl) ?_
    refine aD (ac ?_)
    exact aI (Sub.cons rfl (zz9 10 rfl))
   ·intro hF6
    refine zz8 hF6 (zz8 hF6 (zz8 hF6 (zz8 hF6 (zz8 hF6 (zz8 hF6 (zz8 hF6 (zz8 hF6 (zz8 hF6 (zz0 (aT rfl hF6 rfl) ?_)))))))))
    refine aD (ac ?_)
    exact aI (Sub.cons rfl (zz9 10 rfl))
   refine zz0 (aa rfl) ?_
   apply cE
   ·exact (rfl : _ = (14, 41, 55))
   ·exact rfl
   ·intro hT7; have hT7' := hT7
    try simp only [bs] at hT7'
    refine zz5 hT7 (zz3 (off := 2) (ft := 23) rfl au rfl ae) ?_
    refine zz5 hT7 (aJ rfl am) ?_
    refine zz5 hT7 (lk (n := 0) rfl rfl) ?_
    refine zz5 hT7 (aa rfl) ?_
    apply dH
    ·exact (rfl : _ = (4, 45, 49))
    ·exact rfl
    ·intro hF8; have hF8' := hF8
     try simp only [bs] at hF8'
     refine zz5 hF8 (zz3 (off := 3) (ft := 23) rfl au rfl ae) ?_
     refine zz5 hF8 (aJ rfl am) ?_
     refine zz5 hF8 (iZ (n := 4294967295) rfl rfl) ?_
     refine zz5 hT7 (aT rfl hF8 rfl) ?_
     refine aD (ac ?_)
     exact aI (Sub.cons rfl (zz9 4 rfl))
    ·intro hT8
     refine zz8 hT8 (zz8 hT8 (zz8 hT8 (zz5 hT7 (aS rfl hT8 rfl) ?_)))
     refine aD (ac ?_)
     exact aI (Sub.cons rfl (zz9 4 rfl))
    refine zz5 hT7 (aa rfl) ?_
    apply dH
    ·exact (rfl : _ = (4, 50, 54))
    ·exact rfl
    ·intro hF9; have hF9' := hF9
     try simp only [bs] at hF9'
     refine zz5 hF9 (zz3 (off := 4) (ft := 23) rfl au rfl ae) ?_
     refine zz5 hF9 (aJ rfl am) ?_
     refine zz5 hF9 (lk (n := 1) rfl rfl) ?_
     refine zz5 hT7 (aT rfl hF9 rfl) ?_
     refine aD (ac ?_)
     exact aI (Sub.cons rfl (zz9 4 rfl))
    ·intro hT9
     refine zz8 hT9 (zz8 hT9 (zz8 hT9 (zz5 hT7 (aS rfl hT9 rfl) ?_)))
     refine aD (ac ?_)
     exact aI (Sub.cons rfl (zz9 4 rfl))
    refine zz0 (aS rfl hT7 rfl) ?_
    refine aD (ac ?_)
    exact aI (Sub.cons rfl (zz9 8 rfl))
   ·intro hF7
    refine zz8 hF7 (zz8 hF7 (zz8 hF7 (zz8 hF7 (gY ?_))))
    refine gY ?_
    refine gY ?_
    refine zz8 hF7 (zz8 hF7 (gY ?_))
    refine gY ?_
    refine gY ?_
    refine zz8 hF7 (zz0 (aT rfl hF7 rfl) ?_)
    refine aD (ac ?_)
    exact aI (Sub.cons rfl (zz9 14 rfl))
   refine zz0 (ab rfl) (ad (aB ?_))
   refine aV Tryz.results40 rfl (fun w' hw => ?_)
   refine ⟨?_, hw.b0⟩
   unfold ir
   repeat' (first | rfl | (exfalso; first | (simp_all; done) | grind) | split)
theorem iv (a : VSet) (w : World) :
  Calls Tryz.prog 47 #[.agg (bQ.enc a).toArray] w (fun e w' => e = .returned (.agg (bQ.enc (ba a)).toArray) ∧ Ext w w') := by
 refine enter Tryz.func47 rfl Tryz.ntmps47 rfl ?_
 refine af ?_
 refine dO rfl rfl (fun b1 => ?_)
 refine dB cN rfl (fun b2 => ?_)
 refine ad (al (af (zz0 (bH rfl aK aj) ?_)))
 refine zz0 (aA rfl Tryz.call40 (fun w hw => uJ a w)) ?_
 refine zz0 (cQ rfl) (ad ?_)
 refine ar rfl ?_ ?_ <;> intro h3 <;> try simp only [bs] at h3
 ·refine af (zz0 (aA rfl f9 (fun w hw => kh w)) ?_)
  refine az bQ rfl rfl aj ?_
  refine ad (aB (ay ?_))
  refine eY Tryz.results47 rfl aK aj (fun w' hw => ?_)
  refine ⟨?_, hw.b0⟩
  unfold ba
  repeat' (first | rfl | (exfalso; first | (simp_all; done) | grind) | split)
 ·refine dl (zz0 (bH rfl aK aj) ?_)
  refine az bQ rfl rfl aj ?_
  refine ad (aB ?_)
  refine eY Tryz.results47 rfl aK aj (fun w' hw => ?_)
  refine ⟨?_, hw.b0⟩
  unfold ba
  repeat' (first | rfl | (exfalso; first | (simp_all; done) | grind) | split)
theorem sD (a : VSet) (w : World) :
  Calls Tryz.prog 324 #[.agg (bQ.enc a).toArray] w (fun e w' => e = .returned (.bool (ru a)) ∧ Ext w w') := by
 refine enter Tryz.func324 rfl Tryz.ntmps324 rfl ?_
 refine af ?_
 refine dO rfl rfl (fun b1 => ?_)
 refine zz0 (ab rfl) (aH (zz0 (zz3 (off := 1) (ft := 4) rfl au rfl bT) ?_))
 refine zz0 (aJ rfl cB) ?_
 refine zz0 (cQ rfl) (zz0 (aa rfl) ?_)
 apply cE
 ·exact (rfl : _ = (4, 6, 10))
 ·exact rfl
 ·intro hT2; have hT2' := hT2
  try simp only [bs] at hT2'
  refine zz5 hT2 (zz3 (off := 0) (ft := 4) rfl au rfl bT) ?_
  refine zz5 hT2 (aJ rfl cB) ?_
  refine zz5 hT2 (cQ rfl) (zz0 (aS rfl hT2 rfl) ?_)
  refine aD (ac ?_)
  exact aI (Sub.cons rfl (zz9 4 rfl))
 ·intro hF2
  refine zz8 hF2 (zz8 hF2 (zz8 hF2 (zz0 (aT rfl hF2 rfl) ?_)))
  refine aD (ac ?_)
  exact aI (Sub.cons rfl (zz9 4 rfl))
 refine zz0 (aa rfl) ?_
 apply cE
 ·exact (rfl : _ = (4, 11, 15))
 ·exact rfl
 ·intro hT3; have hT3' := hT3
  try simp only [bs] at hT3'
  refine zz5 hT3 (zz3 (off := 4) (ft := 23) rfl au rfl ae) ?_
  refine zz5 hT3 (aJ rfl am) ?_
  refine zz5 hT3 (eN (n := 0) rfl rfl) ?_
  refine zz0 (aS rfl hT3 rfl) ?_
  refine aD (ac ?_)
  exact aI (Sub.cons rfl (zz9 4 rfl))
 ·intro hF3
  refine zz8 hF3 (zz8 hF3 (zz8 hF3 (zz0 (aT rfl hF3 rfl) ?_)))
  refine aD (ac ?_)
  exact aI (Sub.cons rfl (zz9 4 rfl))
 refine zz0 (ab rfl) (ad (aB ?_))
 refine aV Tryz.results324 rfl (fun w' hw => ?_)
 refine ⟨?_, hw.b0⟩
 unfold ru
 repeat' (first | rfl | (exfalso; first | (simp_all; done) | grind) | split)
theorem kd (a : VSet) (n : UInt32) (w : World) :
  Calls Tryz.prog 15 #[.agg (bQ.enc a).toArray, .int .u32 n.toNat] w (fun e w' => e = .returned (.bool (pP a n)) ∧ Ext w w') := by
 refine enter Tryz.func15 rfl Tryz.ntmps15 rfl ?_
 refine af ?_
 refine dO rfl rfl (fun b1 => ?_)
 refine zz0 (ab rfl) (aH (zz0 (bH rfl aK aj) ?_))
 refine zz0 (aA rfl gC (fun w hw => iv a w)) ?_
 refine az bQ rfl rfl aj ?_
 refine ad (al (aF (al (af (zz0 (zz3 (off := 1) (ft := 4) rfl au rfl bT) ?_)))))
 refine zz0 (aJ rfl cB) ?_
 refine zz0 (ab rfl) (ad ?_)
 apply d6
 ·exact rfl
 ·intro hO2
  try simp only [bs] at hO2
  refine an (zz0 (zz3 (off := 0) (ft := 4) rfl au rfl bT) ?_)
  refine zz0 (aJ rfl cB) ?_
  refine zz0 (ab rfl) (ad ?_)
  exact eM rfl (bC 3 rfl)
 refine ac ?_
 refine ar rfl ?_ ?_ <;> intro h3 <;> try simp only [bs] at h3
 ·refine af (zz0 (zz3 (off := 1) (ft := 4) rfl au rfl bT) ?_)
  refine zz0 (aJ rfl cB) ?_
  refine zz0 (ab rfl) (ad (aB (bA (ay ?_))))
  refine aV Tryz.results15 rfl (fun w' hw => ?_)
  refine ⟨?_, hw.b0⟩
  unfold pP Ad
  repeat' (first | rfl | (exfalso; first | (simp_all; done) | grind) | split)
 ·refine af (zz0 (zz3 (off := 4) (ft := 23) rfl au rfl ae) ?_)
  refine zz0 (aJ rfl am) ?_
  refine zz0 (eN (n := 0) rfl rfl) ?_
  refine zz0 (ab rfl) (ad ?_)
  refine ar rfl ?_ ?_ <;> intro h4 <;> try simp only [bs] at h4
  ·refine af (zz0 (aa rfl) (zz0 (zz3 (off := 2) (ft := 23) rfl au rfl ae) ?_))
   refine zz0 (aJ rfl am) ?_
   refine zz0 (eN rfl rfl) ?_
   refine zz0 (ab rfl) (ad (aB (bA (ay ?_))))
   refine aV Tryz.results15 rfl (fun w' hw => ?_)
   refine ⟨?_, hw.b0⟩
   unfold pP Ad
   repeat' (first | rfl | (exfalso; first | (simp_all; done) | grind) | split)
  ·refine cg (aX (ac (af (zz0 (aa rfl) (zz0 (zz3 (off := 2) (ft := 23) rfl au rfl ae) ?_)))))
   refine zz0 (aJ rfl am) ?_
   refine zz0 (nX rfl rfl) ?_
   refine zz0 (aa rfl) ?_
   apply cE
   ·exact (rfl : _ = (5, 26, 31))
   ·exact rfl
   ·intro hT5; have hT5' := hT5
    try simp only [bs] at hT5'
    refine zz5 hT5 (aa rfl) (zz5 hT5 (zz3 (off := 3) (ft := 23) rfl au rfl ae) ?_)
    refine zz5 hT5 (aJ rfl am) ?_
    refine zz5 hT5 (vO rfl rfl) ?_
    refine zz0 (aS rfl hT5 rfl) ?_
    refine aD (ac ?_)
    exact aI (Sub.cons rfl (zz9 5 rfl))
   ·intro hF5
    refine zz8 hF5 (zz8 hF5 (zz8 hF5 (zz8 hF5 (zz0 (aT rfl hF5 rfl) ?_))))
    refine aD (ac ?_)
    exact aI (Sub.cons rfl (zz9 5 rfl))
   refine zz0 (aa rfl) ?_
   apply cE
   ·exact (rfl : _ = (9, 32, 41))
   ·exact rfl
   ·intro hT6; have hT6' := hT6
    try simp only [bs] at hT6'
    refine zz5 hT6 (aa rfl) (zz5 hT6 (zz3 (off := 2) (ft := 23) rfl au rfl ae) ?_)
    refine zz5 hT6 (aJ rfl am) ?_
    refine zz5 hT6 (fH rfl rfl) ?_
    refine zz5 hT6 (zz3 (off := 4) (ft := 23) rfl au rfl ae) ?_
    refine zz5 hT6 (aJ rfl am) ?_
    refine zz5 hT6 (nU rfl rfl (by first | decide | assumption)) ?_
    refine zz5 hT6 (eN (n := 0) rfl rfl) ?_
    refine zz0 (aS rfl hT6 rfl) ?_
    refine aD (ac ?_)
    exact aI (Sub.cons rfl (zz9 9 rfl))
   ·intro hF6
    refine zz8 hF6 (zz8 hF6 (zz8 hF6 (zz8 hF6 (zz8 hF6 (zz8 hF6 (zz8 hF6 (zz8 hF6 (zz0 (aT rfl hF6 rfl) ?_))))))))
    refine aD (ac ?_)
    exact aI (Sub.cons rfl (zz9 9 rfl))
   refine zz0 (ab rfl) (ad (aB ?_))
   refine aV Tryz.results15 rfl (fun w' hw => ?_)
   refine ⟨?_, hw.b0⟩
   unfold pP Ad
   repeat' (first | rfl | (exfalso; first | (simp_all; done) | grind) | split)
theorem Ao (a : VSet) (w : World) :
  Calls Tryz.prog 100 #[.agg (bQ.enc a).toArray] w (fun e w' => e = .returned (.int .i64 (fD a)) ∧ Ext w w') := by
 have hd := ((ba a).hi - (ba a).lo).toNat_lt
 have hq : (((ba a).hi - (ba a).lo) / (ba a).st).toNat ≤ ((ba a).hi - (ba a).lo).toNat := by rw [UInt32.toNat_div]; exact Nat.div_le_self _ _
 refine enter Tryz.func100 rfl Tryz.ntmps100 rfl ?_
 refine af ?_
 refine dO rfl rfl (fun b1 => ?_)
 refine zz0 (ab rfl) (aH (zz0 (bH rfl aK aj) ?_))
 refine zz0 (aA rfl gC (fun w hw => iv a w)) ?_
 refine az bQ rfl rfl aj ?_
 refine ad (al (aF (af (zz0 (zz3 (off := 1) (ft := 4) rfl au rfl bT) ?_))))
 refine zz0 (aJ rfl cB) ?_
 refine zz0 (ab rfl) (ad ?_)
 refine ar rfl ?_ ?_ <;> intro h2 <;> try simp only [bs] at h2
 ·refine af (zz0 (ab rfl) (ad (aB (bA (ay ?_)))))
  refine aV kU rfl (fun w' hw => ?_)
  refine ⟨?_, hw.b0⟩
  unfold fD mP
  repeat' (first | rfl | (exfalso; first | (simp_all; done) | grind) | split)
 ·refine af (zz0 (zz3 (off := 0) (ft := 4) rfl au rfl bT) ?_)
  refine zz0 (aJ rfl cB) ?_
  refine zz0 (ab rfl) (ad ?_)
  refine ar rfl ?_ ?_ <;> intro h3 <;> try simp only [bs] at h3
  ·refine af (zz0 (ab rfl) (ad (aB (bA (ay ?_)))))
   refine aV kU rfl (fun w' hw => ?_)
   refine ⟨?_, hw.b0⟩
   unfold fD mP
   repeat' (first | rfl | (exfalso; first | (simp_all; done) | grind) | split)
  ·refine af (zz0 (zz3 (off := 4) (ft := 23) rfl au rfl ae) ?_)
   refine zz0 (aJ rfl am) ?_
   refine zz0 (eN (n := 0) rfl rfl) ?_
   refine zz0 (ab rfl) (ad ?_)
   refine ar rfl ?_ ?_ <;> intro h4 <;> try simp only [bs] at h4
   ·refine af (zz0 (ab rfl) (ad (aB (bA (ay ?_)))))
    refine aV kU rfl (fun w' hw => ?_)
    refine ⟨?_, hw.b0⟩
    unfold fD mP
    repeat' (first | rfl | (exfalso; first | (simp_all; done) | grind) | split)
   ·refine cg (aX (ac (af (zz0 (zz3 (off := 3) (ft := 23) rfl au rfl ae) ?_))))
    refine zz0 (aJ rfl am) ?_
    refine zz0 (zz3 (off := 2) (ft := 23) rfl au rfl ae) ?_
    refine zz0 (aJ rfl am) ?_
    refine zz0 (fH rfl rfl) ?_
    refine zz0 (zz3 (off := 4) (ft := 23) rfl au rfl ae) ?_
    refine zz0 (aJ rfl am) ?_
    refine zz0 (GZ rfl rfl (by first | decide | assumption)) ?_
    refine zz0 (tW rfl aP aZ) (zz0 (cp rfl rfl) ?_)
    refine zz0 (ab rfl) (ad (aB ?_))
    refine aV kU rfl (fun w' hw => ?_)
    refine ⟨?_, hw.b0⟩
    unfold fD mP
    repeat' (first | rfl | (exfalso; first | (simp_all; done) | grind) | split)
theorem yu (a b : UInt32) (w : World) :
  Calls Tryz.prog 228 #[.int .u32 a.toNat, .int .u32 b.toNat] w (fun e w' => e = .returned (.int .u32 (k5 a b).toNat) ∧ Ext w w') := by
 refine enter Tryz.func228 rfl Tryz.ntmps228 rfl ?_
 refine af (zz0 (ab rfl) (ad (al (aF ?_))))
 refine bL (ι := UInt32 × UInt32) (fun ⟨x, y⟩ => k5 x y = k5 a b) (fun _ => _) (fun ⟨x, y⟩ => []) (fun ⟨x, y⟩ => [(0, .int .u32 x.toNat), (1, .int .u32 y.toNat)]) (fun ⟨x, y⟩ => y.toNat) (a, b) rfl (Front.c (Front.c Front.nil)) (by repeat' constructor) rfl (fun i hi m hm => ?_)
 obtain ⟨x, y⟩ := i
 replace hi : k5 x y = k5 a b := hi
 replace hm : m = y.toNat := hm
 change Tr _ _ [] ([(0, .int .u32 x.toNat), (1, .int .u32 y.toNat)] ++ _) _
 refine al (af (zz0 (aa rfl) (zz0 (jW (n := 0) rfl rfl) ?_)))
 refine ad ?_
 refine ar rfl ?_ ?_ <;> intro h1 <;> try simp only [bs] at h1
 ·refine bF (aF (io aQ ?_))
  refine aw (aa rfl) (aw (aa rfl) (aw (aa rfl) (aw (nU rfl rfl (by first | decide | assumption)) ?_)))
  refine aw (ab rfl) (aw (ab rfl) (bK ?_))
  refine aX (ac ?_)
  have hlt := Fv x (by assumption : y ≠ 0)
  refine cH (y, x % y) (Front.c (Front.c Front.nil)) (bC 10 rfl) (o := (by show k5 y (x % y) = _; rw [FT (by assumption)]; exact hi))
 ·refine bJ (aG (aG (bv (ac (af (zz0 (aa rfl) (zz0 (ab rfl) (ad (aB ?_)))))))))
  refine aV Tryz.results228 rfl (fun w' hw => ?_)
  exact ⟨by rw [← hi, show y = 0 by simp_all, FS], hw.b0⟩
theorem yn (a b : VSet) (w : World) :
  Calls Tryz.prog 166 #[.agg (bQ.enc a).toArray, .agg (bQ.enc b).toArray] w (fun e w' => e = .returned (.agg (bQ.enc (g6 a b)).toArray) ∧ Ext w w') := by
 refine enter Tryz.func166 rfl Tryz.ntmps166 rfl ?_
 refine af ?_
 refine dO rfl rfl (fun b1 => ?_)
 refine dO rfl rfl (fun b2 => ?_)
 refine dB cN rfl (fun b3 => ?_)
 refine ad (al (fO 0 4 aQ ?_))
 refine bI ?_
 refine aw (bH rfl aK aj) ?_
 refine aw (aA rfl gC (fun w hw => iv a w)) ?_
 refine aw (bH rfl aK aj) ?_
 refine aw (aA rfl gC (fun w hw => iv b w)) ?_
 refine bK ?_
 refine az bQ rfl rfl aj ?_
 refine az bQ rfl rfl aj ?_
 refine ad (al (aF (af (zz0 (zz3 (off := 1) (ft := 4) rfl au rfl bT) ?_))))
 refine zz0 (aJ rfl cB) ?_
 refine zz0 (aa rfl) ?_
 apply dH
 ·exact (rfl : _ = (3, 13, 16))
 ·exact rfl
 ·intro hF4; have hF4' := hF4
  try simp only [bs] at hF4'
  refine zz5 hF4 (zz3 (off := 1) (ft := 4) rfl au rfl bT) ?_
  refine zz5 hF4 (aJ rfl cB) ?_
  refine zz0 (aT rfl hF4 rfl) ?_
  refine aD (ac ?_)
  exact aI (Sub.cons rfl (zz9 3 rfl))
 ·intro hT4
  refine zz8 hT4 (zz8 hT4 (zz0 (aS rfl hT4 rfl) ?_))
  refine aD (ac ?_)
  exact aI (Sub.cons rfl (zz9 3 rfl))
 refine zz0 (ab rfl) (ad ?_)
 refine ar rfl ?_ ?_ <;> intro h5 <;> try simp only [bs] at h5
 ·refine af (zz0 (aA rfl f9 (fun w hw => kh w)) ?_)
  refine az bQ rfl rfl aj ?_
  refine ad (aB (bA (ay ?_)))
  refine eY kR rfl aK aj (fun w' hw => ?_)
  try simp only [pG, pL]
  refine ⟨?_, hw.b0⟩
  unfold g6 mf
  repeat' (first | rfl | (exfalso; first | (simp_all; done) | grind) | split)
 ·refine af (zz0 (zz3 (off := 0) (ft := 4) rfl au rfl bT) ?_)
  refine zz0 (aJ rfl cB) ?_
  refine zz0 (ab rfl) (ad ?_)
  refine ar rfl ?_ ?_ <;> intro h6 <;> try simp only [bs] at h6
  ·refine af (zz0 (bH rfl aK aj) ?_)
   refine az bQ rfl rfl aj ?_
   refine ad (aB (bA (ay ?_)))
   refine eY kR rfl aK aj (fun w' hw => ?_)
   try simp only [pG, pL]
   refine ⟨?_, hw.b0⟩
   unfold g6 mf
   repeat' (first | rfl | (exfalso; first | (simp_all; done) | grind) | split)
  ·refine af (zz0 (zz3 (off := 0) (ft := 4) rfl au rfl bT) ?_)
   refine zz0 (aJ rfl cB) ?_
   refine zz0 (ab rfl) (ad ?_)
   refine ar rfl ?_ ?_ <;> intro h7 <;> try simp only [bs] at h7
   ·refine af (zz0 (bH rfl aK aj) ?_)
    refine az bQ rfl rfl aj ?_
    refine ad (aB (bA (ay ?_)))
    refine eY kR rfl aK aj (fun w' hw => ?_)
    try simp only [pG, pL]
    refine ⟨?_, hw.b0⟩
    unfold g6 mf
    repeat' (first | rfl | (exfalso; first | (simp_all; done) | grind) | split)
   ·refine cg (aX (ac (al (io aQ ?_))))
    refine aw (zz3 (off := 4) (ft := 23) rfl au rfl ae) ?_
    refine aw (aJ rfl am) ?_
    refine aw (zz3 (off := 4) (ft := 23) rfl au rfl ae) ?_
    refine aw (aJ rfl am) ?_
    refine aw (aA rfl oL (fun w hw => yu _ _ w)) ?_
    refine aw (zz3 (off := 2) (ft := 23) rfl au rfl ae) ?_
    refine aw (aJ rfl am) ?_
    refine aw (zz3 (off := 2) (ft := 23) rfl au rfl ae) ?_
    refine aw (aJ rfl am) ?_
    refine aw (qb rfl rfl) ?_
    refine aw (zz3 (off := 2) (ft := 23) rfl au rfl ae) ?_
    refine aw (aJ rfl am) ?_
    refine aw (zz3 (off := 2) (ft := 23) rfl au rfl ae) ?_
    refine aw (aJ rfl am) ?_
    refine aw (pZ rfl rfl) ?_
    refine aw (fH rfl rfl) ?_
    refine aw (aA rfl oL (fun w hw => yu _ _ w)) ?_
    refine aw (ab rfl) (bK ?_)
    refine ac (af (zz0 (zz3 (off := 2) (ft := 23) rfl au rfl ae) ?_))
    refine zz0 (aJ rfl am) ?_
    refine zz0 (zz3 (off := 2) (ft := 23) rfl au rfl ae) ?_
    refine zz0 (aJ rfl am) ?_
    refine zz0 (pZ rfl rfl) ?_
    refine zz0 (zz3 (off := 3) (ft := 23) rfl au rfl ae) ?_
    refine zz0 (aJ rfl am) ?_
    refine zz0 (zz3 (off := 3) (ft := 23) rfl au rfl ae) ?_
    refine zz0 (aJ rfl am) ?_
    refine zz0 (qb rfl rfl) ?_
    refine zz0 (aa rfl) (zz0 (aA rfl eH (fun w hw => dU _ _ _ w)) ?_)
    refine az bQ rfl rfl aj ?_
    refine ad (aB ?_)
    refine eY kR rfl aK aj (fun w' hw => ?_)
    try simp only [pG, pL]
    refine ⟨?_, hw.b0⟩
    unfold g6 mf
    repeat' (first | rfl | (exfalso; first | (simp_all; done) | grind) | split)
end Go.Proofs.YtiajjbhcpeadfaaGreat
namespace Go.HL
open Go
def pm (a b : VSet) : Bool :=
 if a.em = true ∨ b.top = true then true else if a.top = true ∨ b.em = true then false
 else pP b a.lo && pP b a.hi && (decide (a.st = 0) || decide (0 < b.st) && decide (a.st % b.st = 0))
def ob (a b : VSet) : Bool := pm (ba a) (ba b)
def ry (a : VSet) (k : UInt32) : VSet :=
 if a.top = true ∨ 4294967295 < (a.hi.toNat : Int) * k.toNat then o9 else eK (a.lo * k) (a.hi * k) (a.st * k)
def uo (a : VSet) (n : UInt32) : VSet := eK 0 (if a.top = false then m4 n a.hi else n) (n &&& (0 - n))
def jO (op : Int) (a b : VSet) : VSet :=
 if ru b = false then o9 else if op = 5 then ry a b.lo else if op = 9 then ry a (nE 1 (pg b.lo))
 else if op = 6 then uo a b.lo else if op = 10 ∧ a.top = false then eK (rx a.lo (pg b.lo)) (rx a.hi (pg b.lo)) 1 else o9
def iL (op : Int) (a b : VSet) : VSet :=
 if op = 12 ∨ op = 13 ∨ op = 14 ∨ op = 15 then eK 0 1 1
 else if op = 3 ∧ (a.top = false ∧ b.top = false) ∧ (a.hi.toNat : Int) + b.hi.toNat ≤ 4294967295 then eK (a.lo + b.lo) (a.hi + b.hi) (k5 a.st b.st)
 else if op = 4 ∧ (a.top = false ∧ b.top = false) ∧ b.hi ≤ a.lo then eK (a.lo - b.hi) (a.hi - b.lo) (k5 a.st b.st)
 else jO op a b
def iM (op : Int) (a b : VSet) : VSet :=
 if op < 3 ∨ 15 < op then o9 else if a.em = true ∨ b.em = true then emptyS else if ru a = true ∧ ru b = true then ia (GF op a.lo b.lo).1
 else iL op a b
def gj (op : Int) (a b : VSet) : VSet := iM op (ba a) (ba b)
def sV (a : VSet) (lo : UInt32) : Int := (a.lo.toNat : Int) + (((lo - a.lo).toNat : Int) + a.st.toNat - 1) / (a.st.toNat : Int) * a.st.toNat
def mH (o : VSet) : List UInt32 → VSet → VSet
 | [], out => out
 | n :: t, out => mH o t (if pP o n = true then g6 out (ia n) else out)
def wQ (a b : VSet) : VSet :=
 if ((m4 a.hi b.hi).toNat : Int) < sV a (lK a.lo b.lo) then emptyS else eK (u32 (sV a (lK a.lo b.lo))) (m4 a.hi b.hi) a.st
def rK (a b few other : VSet) : VSet := if (fh few).2 = 0 then mH other (fh few).1 emptyS else wQ a b
def pH (a b : VSet) : VSet :=
 if b.top = true then a else if a.top = true then b else if 64 < fD a then rK a b b a else rK a b a b
def mc (a b : VSet) : VSet := pH (ba a) (ba b)
def od (a c : VSet) : VSet := if c.top = true then c else eK (if c.lo < a.lo then c.lo % c.st else c.lo) (if a.hi < c.hi then 4294967295 else c.hi) c.st
def lG (a b : VSet) : VSet :=
 if ob b a = true then a else if a.em = true then b else if a.top = true ∨ b.top = true then o9 else od a (g6 a b)
def l7 (a b : VSet) : VSet := lG (ba a) (ba b)
theorem Bq (o : VSet) (l : List UInt32) (n : UInt32) (out : VSet) : mH o (l ++ [n]) out = if pP o n = true then g6 (mH o l out) (ia n) else mH o l out := by
 induction l generalizing out with
 | nil => rfl
 | cons x t ih => exact ih _
theorem wP {o : VSet} {l : List UInt32} {k : Nat} (h : k < l.length) (out : VSet) :
  mH o (l.take (k + 1)) out = if pP o (l.getD k default) = true then g6 (mH o (l.take k) out) (ia (l.getD k default)) else mH o (l.take k) out := by
 rw [dm h, Bq]
theorem Fy {o : VSet} {l : List UInt32} {k : Nat} (h : k < l.length) {out : VSet} (hy : pP o (l.getD k default) = true) : g6 (mH o (l.take k) out) (ia (l.getD k default)) = mH o (l.take (k + 1)) out := by
 rw [wP h, if_pos hy]
theorem HB {o : VSet} {l : List UInt32} {k : Nat} (h : k < l.length) {out : VSet} (hy : pP o (l.getD k default) = false) : mH o (l.take k) out = mH o (l.take (k + 1)) out := by
 rw [wP h, if_neg (by rw [hy]; simp)]
theorem count_le (s : VSet) : fD s ≤ 4294967296 := by
 unfold fD mP
 have h := ((ba s).hi - (ba s).lo).toNat_lt
 repeat' split
 all_goals try omega
 have : (((ba s).hi - (ba s).lo) / (ba s).st).toNat ≤ ((ba s).hi - (ba s).lo).toNat := by rw [UInt32.toNat_div]; exact Nat.div_le_self _ _
 omega
theorem Gq (s : VSet) : 0 ≤ fD s := by
 unfold fD mP
 repeat' split
 all_goals omega
theorem xf {s : VSet} (h : (fh s).2 = 0) : (fh s).1.length ≤ 64 := by
 unfold fh at h ⊢
 by_cases hc : 64 < fD s
 ·rw [if_pos hc] at h; simp at h
 ·rw [if_neg hc]
  unfold yw
  rw [CU]
  rw [show fD (ba s) = fD s by unfold fD; rw [kb]]
  omega
theorem I1 {s : VSet} (h : ba s = s) (h1 : 64 < fD s) (h2 : s.top = false) : s.st ≠ 0 := by
 intro e
 unfold fD mP at h1
 rw [h, if_neg (by rw [h2]; simp), if_pos e] at h1
 split at h1 <;> omega
theorem Jv (a k : UInt32) : 0 ≤ (a.toNat : Int) * k.toNat ∧ (a.toNat : Int) * k.toNat ≤ 18446744065119617025 := by
 have h := Nat.mul_le_mul (show a.toNat ≤ 4294967295 by have := a.toNat_lt; omega) (show k.toNat ≤ 4294967295 by have := k.toNat_lt; omega)
 have e : (a.toNat : Int) * k.toNat = ((a.toNat * k.toNat : Nat) : Int) := by push_cast; rfl
 omega
theorem HH (a : VSet) (lo : UInt32) (h : a.st ≠ 0) : 0 ≤ sV a lo ∧ sV a lo ≤ 18446744073709551615 ∧
  0 ≤ (((lo - a.lo).toNat : Int) + a.st.toNat - 1) / (a.st.toNat : Int) * a.st.toNat ∧ (((lo - a.lo).toNat : Int) + a.st.toNat - 1) / (a.st.toNat : Int) * a.st.toNat ≤ 8589934590 := by
 have hp := u9 h
 have h1 := a.lo.toNat_lt; have h2 := a.st.toNat_lt; have h3 := (lo - a.lo).toNat_lt
 have h4 := Int.ediv_mul_le (((lo - a.lo).toNat : Int) + a.st.toNat - 1) (b := (a.st.toNat : Int)) (by omega)
 have h5 : 0 ≤ (((lo - a.lo).toNat : Int) + a.st.toNat - 1) / (a.st.toNat : Int) := Int.ediv_nonneg (by omega) (by omega)
 have h6 := Int.mul_nonneg h5 (show (0 : Int) ≤ a.st.toNat by omega)
 unfold sV
 omega
theorem FU (x y : UInt32) (h : y ≠ 0) : (k5 x y).toNat = Nat.gcd x.toNat y.toNat := by
 unfold k5
 rw [UInt32.toNat_ofNat']
 have h1 := u9 h
 have h2 := Nat.gcd_le_right x.toNat h1
 have h3 := y.toNat_lt
 exact Nat.mod_eq_of_lt (by omega)
theorem HD {a b : VSet} (ha : ir a = true) (hb : ir b = true) (hat : a.top = false) (hae : a.em = false) (hbt : b.top = false) (hbe : b.em = false)
  (h : (mf a b).lo < a.lo) : (mf a b).st ≠ 0 ∨ (mf a b).top = true := by
 have hal : a.lo.toNat ≤ a.hi.toNat := by
  rcases Iy ha hat hae with h | h
  ·have := h.2.1; rw [UInt32.lt_iff_toNat_lt] at this; omega
  ·rw [h.2]; omega
 have e : mf a b = eK (m4 a.lo b.lo) (lK a.hi b.hi) (k5 (k5 a.st b.st) (lK a.lo b.lo - m4 a.lo b.lo)) := by
  unfold mf; rw [if_neg (by rw [hat, hbt]; simp), if_neg (by rw [hae]; simp), if_neg (by rw [hbe]; simp)]
 have hmx : a.hi.toNat ≤ (lK a.hi b.hi).toNat := by
  unfold lK; split <;> rename_i q <;> rw [UInt32.lt_iff_toNat_lt] at q <;> omega
 have hmn : (m4 a.lo b.lo).toNat ≤ a.lo.toNat := by
  unfold m4; split <;> rename_i q <;> rw [UInt32.lt_iff_toNat_lt] at q <;> omega
 rw [e] at h ⊢
 unfold eK at h ⊢
 rw [if_neg (by rw [UInt32.lt_iff_toNat_lt]; omega)] at h ⊢
 by_cases hc : k5 (k5 a.st b.st) (lK a.lo b.lo - m4 a.lo b.lo) = 0 ∨ lK a.hi b.hi - m4 a.lo b.lo < k5 (k5 a.st b.st) (lK a.lo b.lo - m4 a.lo b.lo)
 ·exfalso
  rw [if_pos hc] at h
  have hlt : (m4 a.lo b.lo).toNat < a.lo.toNat := by simpa only [ia, UInt32.lt_iff_toNat_lt] using h
  have hm2 : a.lo.toNat = (lK a.lo b.lo).toNat := by
   unfold m4 at hlt; unfold lK
   split at hlt <;> rename_i q <;> rw [UInt32.lt_iff_toNat_lt] at q
   ·rw [if_neg (by rw [UInt32.lt_iff_toNat_lt]; omega)]
   ·omega
  have hd : (lK a.lo b.lo - m4 a.lo b.lo).toNat = (lK a.lo b.lo).toNat - (m4 a.lo b.lo).toNat := UInt32.toNat_sub_of_le _ _ (by rw [UInt32.le_iff_toNat_le]; omega)
  have hd2 : (lK a.hi b.hi - m4 a.lo b.lo).toNat = (lK a.hi b.hi).toNat - (m4 a.lo b.lo).toNat := UInt32.toNat_sub_of_le _ _ (by rw [UInt32.le_iff_toNat_le]; omega)
  have hne : lK a.lo b.lo - m4 a.lo b.lo ≠ 0 := by
   intro q; rw [q, UInt32.toNat_zero] at hd; omega
  have hg := FU (k5 a.st b.st) _ hne
  have hg1 := Nat.gcd_le_right (k5 a.st b.st).toNat (u9 hne)
  have hg2 : 0 < Nat.gcd (k5 a.st b.st).toNat (lK a.lo b.lo - m4 a.lo b.lo).toNat := Nat.gcd_pos_of_pos_right _ (u9 hne)
  rcases hc with q | q
  ·rw [q, UInt32.toNat_zero] at hg; omega
  ·rw [UInt32.lt_iff_toNat_lt] at q; omega
 ·rw [if_neg hc] at h ⊢
  split
  ·exact .inr rfl
  ·exact .inl (fun q => hc (.inl q))
theorem zW (a b : VSet) : g6 (ba a) (ba b) = mf (ba a) (ba b) := by
 unfold g6; rw [kb, kb]
theorem EE {a b : VSet} (hw : ob (ba b) (ba a) = false) (hae : (ba a).em = false) (hat : (ba a).top = false) (hbt : (ba b).top = false)
  (ht : (g6 (ba a) (ba b)).top = false) (h : (g6 (ba a) (ba b)).lo < (ba a).lo) : (g6 (ba a) (ba b)).st ≠ 0 := by
 have hbe : (ba b).em = false := by
  cases q : (ba b).em
  ·rfl
  ·unfold ob pm at hw
   rw [kb, if_pos (.inl q)] at hw
   exact absurd hw (by simp)
 rw [zW] at ht h ⊢
 exact (HD (mJ a) (mJ b) hat hae hbt hbe h).resolve_right (by rw [ht]; simp)
theorem Gk {s : VSet} (h : (fh s).2 ≠ 0) : 64 < fD s := by
 unfold fh at h
 by_cases hc : 64 < fD s
 ·exact hc
 ·rw [if_neg hc] at h; exact absurd rfl h
end Go.HL
namespace Go.Proofs.YtiajjbhcpeadfaaGreat
open Go Go.HL Go.RowKit
theorem tL (a : VSet) (w : World) :
  Calls Tryz.prog 41 #[.agg (bQ.enc a).toArray] w (fun e w' => ∃ V', e = .returned (.tuple #[V', .int .i64 (fh a).2]) ∧ Ext w w' ∧ ju w w' 23 ao ((fh a).1) V') := by
 refine enter Tryz.func41 rfl Tryz.ntmps41 rfl ?_
 refine af ?_
 refine dO rfl rfl (fun b1 => ?_)
 refine zz0 (ab rfl) (zz0 (ab rfl) (aH (zz0 (bH rfl aK aj) ?_)))
 refine zz0 (aA rfl gC (fun w hw => iv a w)) ?_
 refine az bQ rfl rfl aj ?_
 refine aH (zz0 (bH rfl aK aj) ?_)
 refine zz0 (aA rfl Tryz.call100 (fun w hw => Ao (ba a) w)) ?_
 refine zz0 (ab rfl) (ad (al (al ?_)))
 have hcc : fD (ba a) = fD a := by unfold fD; rw [kb]
 rw [hcc]
 have hc0 := Gq a
 have hc1 := count_le a
 refine an (zz0 (aa rfl) (zz0 (fj rfl rfl) (ad ?_)))
 refine ar rfl ?_ ?_ <;> intro h2 <;> try simp only [bs] at h2
 ·refine af (zz0 (ab rfl) (zz0 (ab rfl) (ad (aB (ay ?_)))))
  refine dq Tryz.results41 rfl rfl (fun w' hw => ?_)
  exact ⟨_, by unfold fh; rw [if_pos (by assumption)], hw.b0, by unfold fh; rw [if_pos (by assumption)]; exact fR rfl⟩
 ·refine dl (zz0 (ab rfl) (ad (al (af (zz0 (aa rfl) (zz0 (aa rfl) (ad ?_)))))))
  refine aF (bZ 23 ao ?_)
  refine bL (ι := Nat × Value) (fun ⟨k, V⟩ => k ≤ (fD a).toNat) (fun _ => _) (fun ⟨k, V⟩ => [rowE V 23 ao (elK (ba a) k), cellE b1 (bQ.enc (ba a)) 25]) (fun ⟨k, V⟩ => [(5, V), (14, .int .i64 (k : Nat))]) (fun ⟨k, V⟩ => (fD a).toNat - k) (0, _) (Nat.zero_le _) (Front.c (Front.c Front.nil)) (by repeat' constructor) rfl (fun i hi m hm => ?_)
  obtain ⟨k, V⟩ := i
  replace hi : k ≤ (fD a).toNat := hi
  replace hm : m = (fD a).toNat - k := hm
  change Tr _ _ [rowE V 23 ao (elK (ba a) k), cellE b1 (bQ.enc (ba a)) 25] ([(5, V), (14, .int .i64 (k : Nat))] ++ _) _
  have hel := CU (ba a) k
  refine af (zz0 (bU rfl rfl) (ad (al ?_)))
  refine ar rfl ?_ ?_ <;> intro h3 <;> try simp only [bs] at h3
  ·refine bF (al (aF (af (zz0 (aa rfl) (zz0 (ab rfl) (ad (an (zz0 (aa rfl) (zz0 (zz3 (off := 2) (ft := 23) rfl au rfl ae) ?_)))))))))
   refine zz0 (aJ rfl am) ?_
   refine zz0 (aa rfl) (zz0 (ie rfl aZ aP) (zz0 (zz3 (off := 4) (ft := 23) rfl au rfl ae) ?_))
   refine zz0 (aJ rfl am) ?_
   refine zz0 (my rfl rfl) ?_
   refine zz0 (gV rfl rfl) ?_
   refine iQ (E := ao) _ rfl rfl ah ae c9 (fun V4 => ?_)
   refine zz1 rfl rfl ah fb (fun V5 => ?_)
   refine zz0 (ab rfl) (aD (aX (ac (an (zz0 (cp rfl rfl) ?_)))))
   refine zz0 (aa rfl) (ad ?_)
   rw [← Gl]
   refine cH (k + 1, _) (Front.c (Front.c Front.nil)) (bC 19 rfl) (o := (by show k + 1 ≤ _; omega))
  ·refine bJ (aG (aG (bv (ac (al ?_)))))
   obtain rfl : k = (fD a).toNat := by omega
   refine an (zz0 (aa rfl) (zz0 (ab rfl) (zz0 (ab rfl) (ad (aB ?_)))))
   refine dq Tryz.results41 rfl rfl (fun w' hw => ?_)
   exact ⟨_, by unfold fh; rw [if_neg (by omega)], hw.b0, by unfold fh yw; rw [if_neg (by omega), hcc]; exact hw.new (.head _)⟩
theorem Dh (a b : VSet) (w : World) :
  Calls Tryz.prog 271 #[.agg (bQ.enc a).toArray, .agg (bQ.enc b).toArray] w (fun e w' => e = .returned (.bool (ob a b)) ∧ Ext w w') := by
 refine enter Tryz.func271 rfl Tryz.ntmps271 rfl ?_
 refine af ?_
 refine dO rfl rfl (fun b1 => ?_)
 refine dO rfl rfl (fun b2 => ?_)
 refine zz0 (ab rfl) (ad (al (fO 0 4 aQ ?_)))
 refine bI ?_
 refine aw (bH rfl aK aj) ?_
 refine aw (aA rfl gC (fun w hw => iv a w)) ?_
 refine aw (bH rfl aK aj) ?_
 refine aw (aA rfl gC (fun w hw => iv b w)) ?_
 refine bK ?_
 refine az bQ rfl rfl aj ?_
 refine az bQ rfl rfl aj ?_
 refine ad (al (aF (af (zz0 (zz3 (off := 0) (ft := 4) rfl au rfl bT) ?_))))
 refine zz0 (aJ rfl cB) ?_
 refine zz0 (aa rfl) ?_
 apply dH
 ·exact (rfl : _ = (3, 12, 15))
 ·exact rfl
 ·intro hF3; have hF3' := hF3
  try simp only [bs] at hF3'
  refine zz5 hF3 (zz3 (off := 1) (ft := 4) rfl au rfl bT) ?_
  refine zz5 hF3 (aJ rfl cB) ?_
  refine zz0 (aT rfl hF3 rfl) ?_
  refine aD (ac ?_)
  exact aI (Sub.cons rfl (zz9 3 rfl))
 ·intro hT3
  refine zz8 hT3 (zz8 hT3 (zz0 (aS rfl hT3 rfl) ?_))
  refine aD (ac ?_)
  exact aI (Sub.cons rfl (zz9 3 rfl))
 refine zz0 (ab rfl) (ad ?_)
 refine ar rfl ?_ ?_ <;> intro h4 <;> try simp only [bs] at h4
 ·refine af (zz0 (ab rfl) (ad (aB (bA (ay ?_)))))
  refine aV na rfl (fun w' hw => ?_)
  refine ⟨?_, hw.b0⟩
  unfold ob pm
  repeat' (first | rfl | (exfalso; first | (simp_all; done) | grind) | split)
 ·refine af (zz0 (zz3 (off := 1) (ft := 4) rfl au rfl bT) ?_)
  refine zz0 (aJ rfl cB) ?_
  refine zz0 (aa rfl) ?_
  apply dH
  ·exact (rfl : _ = (3, 19, 22))
  ·exact rfl
  ·intro hF5; have hF5' := hF5
   try simp only [bs] at hF5'
   refine zz5 hF5 (zz3 (off := 0) (ft := 4) rfl au rfl bT) ?_
   refine zz5 hF5 (aJ rfl cB) ?_
   refine zz0 (aT rfl hF5 rfl) ?_
   refine aD (ac ?_)
   exact aI (Sub.cons rfl (zz9 3 rfl))
  ·intro hT5
   refine zz8 hT5 (zz8 hT5 (zz0 (aS rfl hT5 rfl) ?_))
   refine aD (ac ?_)
   exact aI (Sub.cons rfl (zz9 3 rfl))
  refine zz0 (ab rfl) (ad ?_)
  refine ar rfl ?_ ?_ <;> intro h6 <;> try simp only [bs] at h6
  ·refine af (zz0 (ab rfl) (ad (aB (bA (ay ?_)))))
   refine aV na rfl (fun w' hw => ?_)
   refine ⟨?_, hw.b0⟩
   unfold ob pm
   repeat' (first | rfl | (exfalso; first | (simp_all; done) | grind) | split)
  ·refine cg (aX (ac (af (zz0 (bH rfl aK aj) ?_))))
   refine zz0 (zz3 (off := 2) (ft := 23) rfl au rfl ae) ?_
   refine zz0 (aJ rfl am) ?_
   refine zz0 (aA rfl l4 (fun w hw => kd _ _ w)) ?_
   refine zz0 (aa rfl) ?_
   apply cE
   ·exact (rfl : _ = (5, 27, 32))
   ·exact rfl
   ·intro hT7; have hT7' := hT7
    try simp only [bs] at hT7'
    refine zz5 hT7 (bH rfl aK aj) ?_
    refine zz5 hT7 (zz3 (off := 3) (ft := 23) rfl au rfl ae) ?_
    refine zz5 hT7 (aJ rfl am) ?_
    refine zz5 hT7 (aA rfl l4 (fun w hw => kd _ _ w)) ?_
    refine zz0 (aS rfl hT7 rfl) ?_
    refine aD (ac ?_)
    exact aI (Sub.cons rfl (zz9 5 rfl))
   ·intro hF7
    refine zz8 hF7 (zz8 hF7 (zz8 hF7 (zz8 hF7 (zz0 (aT rfl hF7 rfl) ?_))))
    refine aD (ac ?_)
    exact aI (Sub.cons rfl (zz9 5 rfl))
   refine zz0 (aa rfl) ?_
   apply cE
   ·exact (rfl : _ = (17, 33, 50))
   ·exact rfl
   ·intro hT8; have hT8' := hT8
    try simp only [bs] at hT8'
    refine zz5 hT8 (zz3 (off := 4) (ft := 23) rfl au rfl ae) ?_
    refine zz5 hT8 (aJ rfl am) ?_
    refine zz5 hT8 (eN (n := 0) rfl rfl) ?_
    refine zz5 hT8 (aa rfl) ?_
    apply dH
    ·exact (rfl : _ = (12, 37, 49))
    ·exact rfl
    ·intro hF9; have hF9' := hF9
     try simp only [bs] at hF9'
     refine zz5 hF9 (zz3 (off := 4) (ft := 23) rfl au rfl ae) ?_
     refine zz5 hF9 (aJ rfl am) ?_
     refine zz5 hF9 (lk (n := 0) rfl rfl) ?_
     refine zz5 hF9 (aa rfl) ?_
     apply cE
     ·exact (rfl : _ = (7, 41, 48))
     ·exact rfl
     ·intro hT10; have hT10' := hT10
      try simp only [bs] at hT10'
      have hb0 := II (by assumption : 0 < (ba b).st)
      refine zz5 hT10 (zz3 (off := 4) (ft := 23) rfl au rfl ae) ?_
      refine zz5 hT10 (aJ rfl am) ?_
      refine zz5 hT10 (zz3 (off := 4) (ft := 23) rfl au rfl ae) ?_
      refine zz5 hT10 (aJ rfl am) ?_
      refine zz5 hT10 (nU rfl rfl (by first | decide | assumption)) ?_
      refine zz5 hT10 (eN (n := 0) rfl rfl) ?_
      refine zz5 hF9 (aS rfl hT10 rfl) ?_
      refine aD (ac ?_)
      exact aI (Sub.cons rfl (zz9 7 rfl))
     ·intro hF10
      refine zz8 hF10 (zz8 hF10 (zz8 hF10 (zz8 hF10 (zz8 hF10 (zz8 hF10 (zz5 hF9 (aT rfl hF10 rfl) ?_))))))
      refine aD (ac ?_)
      exact aI (Sub.cons rfl (zz9 7 rfl))
     refine zz5 hT8 (aT rfl hF9 rfl) ?_
     refine aD (ac ?_)
     exact aI (Sub.cons rfl (zz9 6 rfl))
    ·intro hT9
     refine zz8 hT9 (zz8 hT9 (zz8 hT9 (zz8 hT9 (gY ?_))))
     refine gY ?_
     refine gY ?_
     refine gY ?_
     refine gY ?_
     refine gY ?_
     refine zz8 hT9 (zz5 hT8 (aS rfl hT9 rfl) ?_)
     refine aD (ac ?_)
     exact aI (Sub.cons rfl (zz9 12 rfl))
    refine zz0 (aS rfl hT8 rfl) ?_
    refine aD (ac ?_)
    exact aI (Sub.cons rfl (zz9 6 rfl))
   ·intro hF8
    refine zz8 hF8 (zz8 hF8 (zz8 hF8 (zz8 hF8 (gY ?_))))
    refine gY ?_
    refine gY ?_
    refine gY ?_
    refine gY ?_
    refine gY ?_
    refine gY ?_
    refine gY ?_
    refine gY ?_
    refine gY ?_
    refine gY ?_
    refine zz8 hF8 (zz0 (aT rfl hF8 rfl) ?_)
    refine aD (ac ?_)
    exact aI (Sub.cons rfl (zz9 17 rfl))
   refine zz0 (ab rfl) (ad (aB ?_))
   refine aV na rfl (fun w' hw => ?_)
   refine ⟨?_, hw.b0⟩
   unfold ob pm
   repeat' (first | rfl | (exfalso; first | (simp_all; done) | grind) | split)
theorem wH (a : VSet) (k : UInt32) (w : World) :
  Calls Tryz.prog 325 #[.agg (bQ.enc a).toArray, .int .u32 k.toNat] w (fun e w' => e = .returned (.agg (bQ.enc (ry a k)).toArray) ∧ Ext w w') := by
 have hmul := Jv a.hi k
 refine enter Tryz.func325 rfl Tryz.ntmps325 rfl ?_
 refine af ?_
 refine dO rfl rfl (fun b1 => ?_)
 refine dB cN rfl (fun b2 => ?_)
 refine ad (al (af (zz0 (zz3 (off := 1) (ft := 4) rfl au rfl bT) ?_)))
 refine zz0 (aJ rfl cB) ?_
 refine zz0 (aa rfl) ?_
 apply dH
 ·exact (rfl : _ = (8, 7, 15))
 ·exact rfl
 ·intro hF3; have hF3' := hF3
  try simp only [bs] at hF3'
  refine zz5 hF3 (zz3 (off := 3) (ft := 23) rfl au rfl ae) ?_
  refine zz5 hF3 (aJ rfl am) ?_
  refine zz5 hF3 (dS rfl aP bO) (zz5 hF3 (aa rfl) (zz5 hF3 (dS rfl aP bO) (zz5 hF3 (C9 rfl rfl (by omega)) ?_)))
  refine zz5 hF3 (fj rfl rfl) (zz0 (aT rfl hF3 rfl) ?_)
  refine aD (ac ?_)
  exact aI (Sub.cons rfl (zz9 8 rfl))
 ·intro hT3
  refine zz8 hT3 (zz8 hT3 (zz8 hT3 (zz8 hT3 (zz8 hT3 (zz8 hT3 (zz8 hT3 (zz0 (aS rfl hT3 rfl) ?_)))))))
  refine aD (ac ?_)
  exact aI (Sub.cons rfl (zz9 8 rfl))
 refine ad ?_
 refine ar rfl ?_ ?_ <;> intro h4 <;> try simp only [bs] at h4
 ·refine af (zz0 (aA rfl f9 (fun w hw => kh w)) ?_)
  refine az bQ rfl rfl aj ?_
  refine ad (aB (ay ?_))
  refine eY Tryz.results325 rfl aK aj (fun w' hw => ?_)
  refine ⟨?_, hw.b0⟩
  unfold ry
  repeat' (first | rfl | (exfalso; first | (simp_all; done) | grind) | split)
 ·refine dl (zz0 (zz3 (off := 2) (ft := 23) rfl au rfl ae) ?_)
  refine zz0 (aJ rfl am) ?_
  refine zz0 (aa rfl) (zz0 (my rfl rfl) ?_)
  refine zz0 (zz3 (off := 3) (ft := 23) rfl au rfl ae) ?_
  refine zz0 (aJ rfl am) ?_
  refine zz0 (aa rfl) (zz0 (my rfl rfl) ?_)
  refine zz0 (zz3 (off := 4) (ft := 23) rfl au rfl ae) ?_
  refine zz0 (aJ rfl am) ?_
  refine zz0 (aa rfl) (zz0 (my rfl rfl) ?_)
  refine zz0 (aA rfl eH (fun w hw => dU _ _ _ w)) ?_
  refine az bQ rfl rfl aj ?_
  refine ad (aB ?_)
  refine eY Tryz.results325 rfl aK aj (fun w' hw => ?_)
  refine ⟨?_, hw.b0⟩
  unfold ry
  repeat' (first | rfl | (exfalso; first | (simp_all; done) | grind) | split)
theorem D3 (a : VSet) (n : UInt32) (w : World) :
  Calls Tryz.prog 326 #[.agg (bQ.enc a).toArray, .int .u32 n.toNat] w (fun e w' => e = .returned (.agg (bQ.enc (uo a n)).toArray) ∧ Ext w w') := by
 refine enter Tryz.func326 rfl Tryz.ntmps326 rfl ?_
 refine af ?_
 refine dO rfl rfl (fun b1 => ?_)
 refine dB cN rfl (fun b2 => ?_)
 refine aH (zz0 (aa rfl) (zz0 (ab rfl) (ad (al (af (zz0 (zz3 (off := 1) (ft := 4) rfl au rfl bT) ?_))))))
 refine zz0 (aJ rfl cB) ?_
 refine zz0 (cQ rfl) (ad ?_)
 refine ar rfl ?_ ?_ <;> intro h3 <;> try simp only [bs] at h3
 ·refine an (zz0 (aa rfl) (zz0 (zz3 (off := 3) (ft := 23) rfl au rfl ae) ?_))
  refine zz0 (aJ rfl am) ?_
  refine zz0 (pZ rfl rfl) ?_
  refine zz0 (ab rfl) (aH (zz0 (aa rfl) (zz0 (aa rfl) (zz0 (aa rfl) (zz0 (vL rfl) ?_)))))
  refine zz0 (nY rfl rfl) ?_
  refine zz0 (aA rfl eH (fun w hw => dU 0 _ (n &&& (0 - n)) w)) ?_
  refine az bQ rfl rfl aj ?_
  refine ad (aB ?_)
  refine eY Tryz.results326 rfl aK aj (fun w' hw => ?_)
  refine ⟨?_, hw.b0⟩
  unfold uo
  rw [if_pos (show a.top = false by simp_all)]
  rfl
 ·refine dl (zz0 (aa rfl) (zz0 (aa rfl) (zz0 (aa rfl) (zz0 (vL rfl) ?_))))
  refine zz0 (nY rfl rfl) ?_
  refine zz0 (aA rfl eH (fun w hw => dU 0 _ (n &&& (0 - n)) w)) ?_
  refine az bQ rfl rfl aj ?_
  refine ad (aB ?_)
  refine eY Tryz.results326 rfl aK aj (fun w' hw => ?_)
  refine ⟨?_, hw.b0⟩
  unfold uo
  rw [if_neg (show ¬a.top = false by simp_all)]
  rfl
theorem pW (op : Int) (a b : VSet) (w : World) :
  Calls Tryz.prog 303 #[.int .i64 op, .agg (bQ.enc a).toArray, .agg (bQ.enc b).toArray] w (fun e w' => e = .returned (.agg (bQ.enc (gj op a b)).toArray) ∧ Ext w w') := by
 have hb1 := (ba a).hi.toNat_lt
 have hb2 := (ba b).hi.toNat_lt
 refine enter Tryz.func303 rfl Tryz.ntmps303 rfl ?_
 refine af ?_
 refine dO rfl rfl (fun b1 => ?_)
 refine dO rfl rfl (fun b2 => ?_)
 refine dB cN rfl (fun b3 => ?_)
 refine ad (al (fO 0 4 aQ ?_))
 refine bI ?_
 refine aw (bH rfl aK aj) ?_
 refine aw (aA rfl gC (fun w hw => iv a w)) ?_
 refine aw (bH rfl aK aj) ?_
 refine aw (aA rfl gC (fun w hw => iv b w)) ?_
 refine bK ?_
 refine az bQ rfl rfl aj ?_
 refine az bQ rfl rfl aj ?_
 refine ad ?_
 refine di (ι := Unit) (fun u => gj op a b = iL op (ba a) (ba b)) (fun _ => Bg.of w) (fun u => [cellE b3 (bQ.enc zeroS) 25, cellE b2 (bQ.enc (ba b)) 25, cellE b1 (bQ.enc (ba a)) 25]) (fun u => []) ?_ (fun u hi => ?_)
 ·skip
  refine aF (af (zz0 (aa rfl) (zz0 (bU rfl rfl) (zz0 (aa rfl) ?_))))
  apply dH
  ·exact (rfl : _ = (3, 16, 19))
  ·exact rfl
  ·intro hF4; have hF4' := hF4
   try simp only [bs] at hF4'
   refine zz5 hF4 (aa rfl) (zz5 hF4 (fj rfl rfl) (zz0 (aT rfl hF4 rfl) ?_))
   refine aD (ac ?_)
   exact aI (Sub.cons rfl (zz9 3 rfl))
  ·intro hT4
   refine zz8 hT4 (zz8 hT4 (zz0 (aS rfl hT4 rfl) ?_))
   refine aD (ac ?_)
   exact aI (Sub.cons rfl (zz9 3 rfl))
  refine zz0 (ab rfl) (ad ?_)
  refine ar rfl ?_ ?_ <;> intro h5 <;> try simp only [bs] at h5
  ·refine af (zz0 (aA rfl f9 (fun w hw => kh w)) ?_)
   refine az bQ rfl rfl aj ?_
   refine ad (aB (bA (ay ?_)))
   refine eY eP rfl aK aj (fun w' hw => ?_)
   try rw [hi]
   refine ⟨?_, hw.b0⟩
   (first | unfold jO | unfold iL | unfold gj iM)
   repeat' (first | rfl | (exfalso; first | (simp_all; done) | grind) | split)
  ·refine af (zz0 (zz3 (off := 0) (ft := 4) rfl au rfl bT) ?_)
   refine zz0 (aJ rfl cB) ?_
   refine zz0 (aa rfl) ?_
   apply dH
   ·exact (rfl : _ = (3, 24, 27))
   ·exact rfl
   ·intro hF6; have hF6' := hF6
    try simp only [bs] at hF6'
    refine zz5 hF6 (zz3 (off := 0) (ft := 4) rfl au rfl bT) ?_
    refine zz5 hF6 (aJ rfl cB) ?_
    refine zz0 (aT rfl hF6 rfl) ?_
    refine aD (ac ?_)
    exact aI (Sub.cons rfl (zz9 3 rfl))
   ·intro hT6
    refine zz8 hT6 (zz8 hT6 (zz0 (aS rfl hT6 rfl) ?_))
    refine aD (ac ?_)
    exact aI (Sub.cons rfl (zz9 3 rfl))
   refine zz0 (ab rfl) (ad ?_)
   refine ar rfl ?_ ?_ <;> intro h7 <;> try simp only [bs] at h7
   ·refine af (zz0 (aA rfl jD (fun w hw => ko w)) ?_)
    refine az bQ rfl rfl aj ?_
    refine ad (aB (bA (ay ?_)))
    refine eY eP rfl aK aj (fun w' hw => ?_)
    try rw [hi]
    refine ⟨?_, hw.b0⟩
    (first | unfold jO | unfold iL | unfold gj iM)
    repeat' (first | rfl | (exfalso; first | (simp_all; done) | grind) | split)
   ·refine af (zz0 (bH rfl aK aj) ?_)
    refine zz0 (aA rfl Tryz.call324 (fun w hw => sD _ w)) ?_
    refine zz0 (aa rfl) ?_
    apply cE
    ·exact (rfl : _ = (3, 32, 35))
    ·exact rfl
    ·intro hT8; have hT8' := hT8
     try simp only [bs] at hT8'
     refine zz5 hT8 (bH rfl aK aj) ?_
     refine zz5 hT8 (aA rfl Tryz.call324 (fun w hw => sD _ w)) ?_
     refine zz0 (aS rfl hT8 rfl) ?_
     refine aD (ac ?_)
     exact aI (Sub.cons rfl (zz9 3 rfl))
    ·intro hF8
     refine zz8 hF8 (zz8 hF8 (zz0 (aT rfl hF8 rfl) ?_))
     refine aD (ac ?_)
     exact aI (Sub.cons rfl (zz9 3 rfl))
    refine zz0 (ab rfl) (ad ?_)
    refine ar rfl ?_ ?_ <;> intro h9 <;> try simp only [bs] at h9
    ·refine af (zz0 (aa rfl) (zz0 (zz3 (off := 2) (ft := 23) rfl au rfl ae) ?_))
     refine zz0 (aJ rfl am) ?_
     refine zz0 (zz3 (off := 2) (ft := 23) rfl au rfl ae) ?_
     refine zz0 (aJ rfl am) ?_
     refine zz0 (aA rfl Tryz.call277 (fun w hw => BS op (ba a).lo (ba b).lo w)) ?_
     refine zz0 (aa rfl) (zz0 (aL rfl rfl) (zz0 (aL rfl rfl) (zz0 (ab rfl) (zz0 (ab rfl) (aH (zz0 (aa rfl) (zz0 (aA rfl jb (fun w hw => jP _ w)) ?_)))))))
     refine az bQ rfl rfl aj ?_
     refine ad (aB (bA (ay ?_)))
     refine eY eP rfl aK aj (fun w' hw => ?_)
     try rw [hi]
     refine ⟨?_, hw.b0⟩
     (first | unfold jO | unfold iL | unfold gj iM)
     repeat' (first | rfl | (exfalso; first | (simp_all; done) | grind) | split)
    ·refine cg (aX (ac ?_))
     refine cw () Front.nil (bC 15 rfl) (o := (by show _ = _; unfold gj iM; repeat' (first | rfl | (exfalso; first | (simp_all; done) | grind) | split)))
 ·skip
  replace hi : gj op a b = iL op (ba a) (ba b) := hi
  change Tr _ _ [cellE b3 (bQ.enc zeroS) 25, cellE b2 (bQ.enc (ba b)) 25, cellE b1 (bQ.enc (ba a)) 25] ([] ++ _) _
  refine di (ι := Unit) (fun u => gj op a b = jO op (ba a) (ba b)) (fun _ => Bg.of w) (fun u => [cellE b3 (bQ.enc zeroS) 25, cellE b2 (bQ.enc (ba b)) 25, cellE b1 (bQ.enc (ba a)) 25]) (fun u => []) ?_ (fun u hi => ?_)
  ·skip
   refine af (zz0 (aa rfl) (ad (aF (al (af (zz0 (bB rfl rfl) (zz0 (ab rfl) (ad ?_))))))))
   apply d6
   ·exact rfl
   ·intro hO10
    try simp only [bs] at hO10
    refine af (zz0 (bB rfl rfl) (zz0 (ab rfl) (ad ?_)))
    apply d6
    ·exact rfl
    ·intro hO11
     try simp only [bs] at hO11
     refine af (zz0 (bB rfl rfl) (zz0 (ab rfl) (ad ?_)))
     apply d6
     ·exact rfl
     ·intro hO12
      try simp only [bs] at hO12
      refine an (zz0 (bB rfl rfl) (zz0 (ab rfl) (ad ?_)))
      exact eM rfl (bC 2 rfl)
     refine ac ?_
     exact eM rfl (bC 3 rfl)
    refine ac ?_
    exact eM rfl (bC 3 rfl)
   refine ac ?_
   refine ar rfl ?_ ?_ <;> intro h13 <;> try simp only [bs] at h13
   ·refine af (zz0 (aA rfl eH (fun w hw => dU 0 1 1 w)) ?_)
    refine az bQ rfl rfl aj ?_
    refine ad (aB (bA (ay ?_)))
    refine eY eP rfl aK aj (fun w' hw => ?_)
    try rw [hi]
    refine ⟨?_, hw.b0⟩
    (first | unfold jO | unfold iL | unfold gj iM)
    repeat' (first | rfl | (exfalso; first | (simp_all; done) | grind) | split)
   ·refine af (zz0 (bB rfl rfl) (zz0 (ab rfl) (ad ?_)))
    refine ar rfl ?_ ?_ <;> intro h14 <;> try simp only [bs] at h14
    ·refine af (zz0 (zz3 (off := 1) (ft := 4) rfl au rfl bT) ?_)
     refine zz0 (aJ rfl cB) ?_
     refine zz0 (cQ rfl) (zz0 (aa rfl) ?_)
     apply cE
     ·exact (rfl : _ = (4, 59, 63))
     ·exact rfl
     ·intro hT15; have hT15' := hT15
      try simp only [bs] at hT15'
      refine zz5 hT15 (zz3 (off := 1) (ft := 4) rfl au rfl bT) ?_
      refine zz5 hT15 (aJ rfl cB) ?_
      refine zz5 hT15 (cQ rfl) (zz0 (aS rfl hT15 rfl) ?_)
      refine aD (ac ?_)
      exact aI (Sub.cons rfl (zz9 4 rfl))
     ·intro hF15
      refine zz8 hF15 (zz8 hF15 (zz8 hF15 (zz0 (aT rfl hF15 rfl) ?_)))
      refine aD (ac ?_)
      exact aI (Sub.cons rfl (zz9 4 rfl))
     refine zz0 (aa rfl) ?_
     apply cE
     ·exact (rfl : _ = (9, 64, 73))
     ·exact rfl
     ·intro hT16; have hT16' := hT16
      try simp only [bs] at hT16'
      refine zz5 hT16 (zz3 (off := 3) (ft := 23) rfl au rfl ae) ?_
      refine zz5 hT16 (aJ rfl am) ?_
      refine zz5 hT16 (dS rfl aP bO) (zz5 hT16 (zz3 (off := 3) (ft := 23) rfl au rfl ae) ?_)
      refine zz5 hT16 (aJ rfl am) ?_
      refine zz5 hT16 (dS rfl aP bO) (zz5 hT16 (mU rfl rfl (by omega)) ?_)
      refine zz5 hT16 (gr rfl rfl) (zz0 (aS rfl hT16 rfl) ?_)
      refine aD (ac ?_)
      exact aI (Sub.cons rfl (zz9 9 rfl))
     ·intro hF16
      refine zz8 hF16 (zz8 hF16 (zz8 hF16 (zz8 hF16 (zz8 hF16 (zz8 hF16 (zz8 hF16 (zz8 hF16 (zz0 (aT rfl hF16 rfl) ?_))))))))
      refine aD (ac ?_)
      exact aI (Sub.cons rfl (zz9 9 rfl))
     refine ad ?_
     refine ar rfl ?_ ?_ <;> intro h17 <;> try simp only [bs] at h17
     ·refine al (fO 0 16 aQ ?_)
      refine bI ?_
      refine aw (zz3 (off := 2) (ft := 23) rfl au rfl ae) ?_
      refine aw (aJ rfl am) ?_
      refine aw (zz3 (off := 2) (ft := 23) rfl au rfl ae) ?_
      refine aw (aJ rfl am) ?_
      refine aw (gV rfl rfl) ?_
      refine aw (zz3 (off := 3) (ft := 23) rfl au rfl ae) ?_
      refine aw (aJ rfl am) ?_
      refine aw (zz3 (off := 3) (ft := 23) rfl au rfl ae) ?_
      refine aw (aJ rfl am) ?_
      refine aw (gV rfl rfl) ?_
      refine aw (zz3 (off := 4) (ft := 23) rfl au rfl ae) ?_
      refine aw (aJ rfl am) ?_
      refine aw (zz3 (off := 4) (ft := 23) rfl au rfl ae) ?_
      refine aw (aJ rfl am) ?_
      refine aw (aA rfl oL (fun w hw => yu _ _ w)) ?_
      refine aw (aA rfl eH (fun w hw => dU _ _ _ w)) ?_
      refine bK ?_
      refine az bQ rfl rfl aj ?_
      refine ad (aB (bA (ay ?_)))
      refine eY eP rfl aK aj (fun w' hw => ?_)
      try rw [hi]
      refine ⟨?_, hw.b0⟩
      (first | unfold jO | unfold iL | unfold gj iM)
      repeat' (first | rfl | (exfalso; first | (simp_all; done) | grind) | split)
     ·refine cg (aX (ac ?_))
      refine cw () Front.nil (bC 13 rfl) (o := (by show _ = _; rw [hi]; unfold iL; repeat' (first | rfl | (exfalso; first | (simp_all; done) | grind) | split)))
    ·refine af (zz0 (bB rfl rfl) (zz0 (ab rfl) (ad ?_)))
     refine ar rfl ?_ ?_ <;> intro h18 <;> try simp only [bs] at h18
     ·refine af (zz0 (zz3 (off := 1) (ft := 4) rfl au rfl bT) ?_)
      refine zz0 (aJ rfl cB) ?_
      refine zz0 (cQ rfl) (zz0 (aa rfl) ?_)
      apply cE
      ·exact (rfl : _ = (4, 95, 99))
      ·exact rfl
      ·intro hT19; have hT19' := hT19
       try simp only [bs] at hT19'
       refine zz5 hT19 (zz3 (off := 1) (ft := 4) rfl au rfl bT) ?_
       refine zz5 hT19 (aJ rfl cB) ?_
       refine zz5 hT19 (cQ rfl) (zz0 (aS rfl hT19 rfl) ?_)
       refine aD (ac ?_)
       exact aI (Sub.cons rfl (zz9 4 rfl))
      ·intro hF19
       refine zz8 hF19 (zz8 hF19 (zz8 hF19 (zz0 (aT rfl hF19 rfl) ?_)))
       refine aD (ac ?_)
       exact aI (Sub.cons rfl (zz9 4 rfl))
      refine zz0 (aa rfl) ?_
      apply cE
      ·exact (rfl : _ = (6, 100, 106))
      ·exact rfl
      ·intro hT20; have hT20' := hT20
       try simp only [bs] at hT20'
       refine zz5 hT20 (zz3 (off := 2) (ft := 23) rfl au rfl ae) ?_
       refine zz5 hT20 (aJ rfl am) ?_
       refine zz5 hT20 (zz3 (off := 3) (ft := 23) rfl au rfl ae) ?_
       refine zz5 hT20 (aJ rfl am) ?_
       refine zz5 hT20 (nX rfl rfl) ?_
       refine zz0 (aS rfl hT20 rfl) ?_
       refine aD (ac ?_)
       exact aI (Sub.cons rfl (zz9 6 rfl))
      ·intro hF20
       refine zz8 hF20 (zz8 hF20 (zz8 hF20 (zz8 hF20 (zz8 hF20 (zz0 (aT rfl hF20 rfl) ?_)))))
       refine aD (ac ?_)
       exact aI (Sub.cons rfl (zz9 6 rfl))
      refine ad ?_
      refine ar rfl ?_ ?_ <;> intro h21 <;> try simp only [bs] at h21
      ·refine al (fO 0 16 aQ ?_)
       refine bI ?_
       refine aw (zz3 (off := 2) (ft := 23) rfl au rfl ae) ?_
       refine aw (aJ rfl am) ?_
       refine aw (zz3 (off := 3) (ft := 23) rfl au rfl ae) ?_
       refine aw (aJ rfl am) ?_
       refine aw (fH rfl rfl) ?_
       refine aw (zz3 (off := 3) (ft := 23) rfl au rfl ae) ?_
       refine aw (aJ rfl am) ?_
       refine aw (zz3 (off := 2) (ft := 23) rfl au rfl ae) ?_
       refine aw (aJ rfl am) ?_
       refine aw (fH rfl rfl) ?_
       refine aw (zz3 (off := 4) (ft := 23) rfl au rfl ae) ?_
       refine aw (aJ rfl am) ?_
       refine aw (zz3 (off := 4) (ft := 23) rfl au rfl ae) ?_
       refine aw (aJ rfl am) ?_
       refine aw (aA rfl oL (fun w hw => yu _ _ w)) ?_
       refine aw (aA rfl eH (fun w hw => dU _ _ _ w)) ?_
       refine bK ?_
       refine az bQ rfl rfl aj ?_
       refine ad (aB (bA (ay ?_)))
       refine eY eP rfl aK aj (fun w' hw => ?_)
       try rw [hi]
       refine ⟨?_, hw.b0⟩
       (first | unfold jO | unfold iL | unfold gj iM)
       repeat' (first | rfl | (exfalso; first | (simp_all; done) | grind) | split)
      ·refine cg (aX (ac ?_))
       refine cw () Front.nil (bC 15 rfl) (o := (by show _ = _; rw [hi]; unfold iL; repeat' (first | rfl | (exfalso; first | (simp_all; done) | grind) | split)))
     ·refine cg (aX (ac ?_))
      refine cw () Front.nil (bC 8 rfl) (o := (by show _ = _; rw [hi]; unfold iL; repeat' (first | rfl | (exfalso; first | (simp_all; done) | grind) | split)))
  ·skip
   replace hi : gj op a b = jO op (ba a) (ba b) := hi
   change Tr _ _ [cellE b3 (bQ.enc zeroS) 25, cellE b2 (bQ.enc (ba b)) 25, cellE b1 (bQ.enc (ba a)) 25] ([] ++ _) _
   refine al (af (zz0 (bH rfl aK aj) ?_))
   refine zz0 (aA rfl Tryz.call324 (fun w hw => sD _ w)) ?_
   refine zz0 (cQ rfl) (ad ?_)
   refine ar rfl ?_ ?_ <;> intro h22 <;> try simp only [bs] at h22
   ·refine af (zz0 (aA rfl f9 (fun w hw => kh w)) ?_)
    refine az bQ rfl rfl aj ?_
    refine ad (aB (ay ?_))
    refine eY eP rfl aK aj (fun w' hw => ?_)
    try rw [hi]
    refine ⟨?_, hw.b0⟩
    (first | unfold jO | unfold iL | unfold gj iM)
    repeat' (first | rfl | (exfalso; first | (simp_all; done) | grind) | split)
   ·refine bF (al (af (zz0 (aa rfl) (ad (aF (af (zz0 (bB rfl rfl) (zz0 (ab rfl) (aD ?_)))))))))
    refine ac ?_
    refine ar rfl ?_ ?_ <;> intro h23 <;> try simp only [bs] at h23
    ·refine af (zz0 (bH rfl aK aj) ?_)
     refine zz0 (zz3 (off := 2) (ft := 23) rfl au rfl ae) ?_
     refine zz0 (aJ rfl am) ?_
     refine zz0 (aA rfl Tryz.call325 (fun w hw => wH _ _ w)) ?_
     refine az bQ rfl rfl aj ?_
     refine ad (aB (bA (ay ?_)))
     refine eY eP rfl aK aj (fun w' hw => ?_)
     try rw [hi]
     refine ⟨?_, hw.b0⟩
     (first | unfold jO | unfold iL | unfold gj iM)
     repeat' (first | rfl | (exfalso; first | (simp_all; done) | grind) | split)
    ·refine af (zz0 (bB rfl rfl) (zz0 (ab rfl) (ad ?_)))
     refine ar rfl ?_ ?_ <;> intro h24 <;> try simp only [bs] at h24
     ·refine al (fO 0 5 aQ ?_)
      refine bI ?_
      refine aw (bH rfl aK aj) ?_
      refine aw (zz3 (off := 2) (ft := 23) rfl au rfl ae) ?_
      refine aw (aJ rfl am) ?_
      refine aw (aA rfl Tryz.call306 (fun w hw => zu 1 _ w)) ?_
      refine aw (aA rfl Tryz.call325 (fun w hw => wH _ _ w)) ?_
      refine bK ?_
      refine az bQ rfl rfl aj ?_
      refine ad (aB (bA (ay ?_)))
      refine eY eP rfl aK aj (fun w' hw => ?_)
      try rw [hi]
      refine ⟨?_, hw.b0⟩
      (first | unfold jO | unfold iL | unfold gj iM)
      repeat' (first | rfl | (exfalso; first | (simp_all; done) | grind) | split)
     ·refine af (zz0 (bB rfl rfl) (zz0 (ab rfl) (ad ?_)))
      refine ar rfl ?_ ?_ <;> intro h25 <;> try simp only [bs] at h25
      ·refine af (zz0 (bH rfl aK aj) ?_)
       refine zz0 (zz3 (off := 2) (ft := 23) rfl au rfl ae) ?_
       refine zz0 (aJ rfl am) ?_
       refine zz0 (aA rfl Tryz.call326 (fun w hw => D3 _ _ w)) ?_
       refine az bQ rfl rfl aj ?_
       refine ad (aB (bA (ay ?_)))
       refine eY eP rfl aK aj (fun w' hw => ?_)
       try rw [hi]
       refine ⟨?_, hw.b0⟩
       (first | unfold jO | unfold iL | unfold gj iM)
       repeat' (first | rfl | (exfalso; first | (simp_all; done) | grind) | split)
      ·refine af (zz0 (bB rfl rfl) (zz0 (ab rfl) (ad ?_)))
       refine ar rfl ?_ ?_ <;> intro h26 <;> try simp only [bs] at h26
       ·refine af (zz0 (zz3 (off := 1) (ft := 4) rfl au rfl bT) ?_)
        refine zz0 (aJ rfl cB) ?_
        refine zz0 (cQ rfl) (ad ?_)
        refine ar rfl ?_ ?_ <;> intro h27 <;> try simp only [bs] at h27
        ·refine al (fO 0 11 aQ ?_)
         refine bI ?_
         refine aw (zz3 (off := 2) (ft := 23) rfl au rfl ae) ?_
         refine aw (aJ rfl am) ?_
         refine aw (zz3 (off := 2) (ft := 23) rfl au rfl ae) ?_
         refine aw (aJ rfl am) ?_
         refine aw (aA rfl Tryz.call307 (fun w hw => uQ _ _ w)) ?_
         refine aw (zz3 (off := 3) (ft := 23) rfl au rfl ae) ?_
         refine aw (aJ rfl am) ?_
         refine aw (zz3 (off := 2) (ft := 23) rfl au rfl ae) ?_
         refine aw (aJ rfl am) ?_
         refine aw (aA rfl Tryz.call307 (fun w hw => uQ _ _ w)) ?_
         refine aw (aA rfl eH (fun w hw => dU (rx (ba a).lo (pg (ba b).lo)) (rx (ba a).hi (pg (ba b).lo)) 1 w)) ?_
         refine bK ?_
         refine az bQ rfl rfl aj ?_
         refine ad (aB (bA (ay ?_)))
         refine eY eP rfl aK aj (fun w' hw => ?_)
         try rw [hi]
         refine ⟨?_, hw.b0⟩
         (first | unfold jO | unfold iL | unfold gj iM)
         repeat' (first | rfl | (exfalso; first | (simp_all; done) | grind) | split)
        ·refine cg (aX (ac (af (zz0 (aA rfl f9 (fun w hw => kh w)) ?_))))
         refine az bQ rfl rfl aj ?_
         refine ad (aB ?_)
         refine eY eP rfl aK aj (fun w' hw => ?_)
         try rw [hi]
         refine ⟨?_, hw.b0⟩
         (first | unfold jO | unfold iL | unfold gj iM)
         repeat' (first | rfl | (exfalso; first | (simp_all; done) | grind) | split)
       ·refine cg (aX (ac (af (zz0 (aA rfl f9 (fun w hw => kh w)) ?_))))
        refine az bQ rfl rfl aj ?_
        refine ad (aB ?_)
        refine eY eP rfl aK aj (fun w' hw => ?_)
        try rw [hi]
        refine ⟨?_, hw.b0⟩
        (first | unfold jO | unfold iL | unfold gj iM)
        repeat' (first | rfl | (exfalso; first | (simp_all; done) | grind) | split)
theorem rJ (a b : VSet) (w : World) :
  Calls Tryz.prog 300 #[.agg (bQ.enc a).toArray, .agg (bQ.enc b).toArray] w (fun e w' => e = .returned (.agg (bQ.enc (mc a b)).toArray) ∧ Ext w w') := by
 refine enter Tryz.func300 rfl Tryz.ntmps300 rfl ?_
 refine af ?_
 refine dO rfl rfl (fun b1 => ?_)
 refine dO rfl rfl (fun b2 => ?_)
 refine dB cN rfl (fun b3 => ?_)
 refine ad (al (fO 0 4 aQ ?_))
 refine bI ?_
 refine aw (bH rfl aK aj) ?_
 refine aw (aA rfl gC (fun w hw => iv a w)) ?_
 refine aw (bH rfl aK aj) ?_
 refine aw (aA rfl gC (fun w hw => iv b w)) ?_
 refine bK ?_
 refine az bQ rfl rfl aj ?_
 refine az bQ rfl rfl aj ?_
 refine ad (al (aF (af (zz0 (zz3 (off := 1) (ft := 4) rfl au rfl bT) ?_))))
 refine zz0 (aJ rfl cB) ?_
 refine zz0 (ab rfl) (ad ?_)
 refine ar rfl ?_ ?_ <;> intro h4 <;> try simp only [bs] at h4
 ·refine af (zz0 (bH rfl aK aj) ?_)
  refine az bQ rfl rfl aj ?_
  refine ad (aB (bA (ay ?_)))
  refine eY jT rfl aK aj (fun w' hw => ?_)
  try rw [hme]
  refine ⟨?_, hw.b0⟩
  (first | unfold rK wQ | unfold mc pH)
  repeat' (first | rfl | (exfalso; first | (simp_all; done) | grind) | split)
 ·refine af (zz0 (zz3 (off := 1) (ft := 4) rfl au rfl bT) ?_)
  refine zz0 (aJ rfl cB) ?_
  refine zz0 (ab rfl) (ad ?_)
  refine ar rfl ?_ ?_ <;> intro h5 <;> try simp only [bs] at h5
  ·refine af (zz0 (bH rfl aK aj) ?_)
   refine az bQ rfl rfl aj ?_
   refine ad (aB (bA (ay ?_)))
   refine eY jT rfl aK aj (fun w' hw => ?_)
   try rw [hme]
   refine ⟨?_, hw.b0⟩
   (first | unfold rK wQ | unfold mc pH)
   repeat' (first | rfl | (exfalso; first | (simp_all; done) | grind) | split)
  ·refine cg (aX (ac ?_))
   refine di (ι := Nat × Nat) (fun ⟨p, q⟩ => True) (fun _ => Bg.of w) (fun ⟨p, q⟩ => [cellE q (bQ.enc (ba b)) 25, cellE p (bQ.enc (ba a)) 25, cellE b3 (bQ.enc zeroS) 25, cellE b2 (bQ.enc (ba b)) 25, cellE b1 (bQ.enc (ba a)) 25]) (fun ⟨p, q⟩ => [(6, .pointer (some ⟨q, 0, none⟩)), (5, .pointer (some ⟨p, 0, none⟩))]) ?_ (fun i hi => ?_)
   ·skip
    refine dW ([cellE b3 (bQ.enc zeroS) 25, cellE b2 (bQ.enc (ba b)) 25, cellE b1 (bQ.enc (ba a)) 25]) 6 rfl aQ ?_
    refine zz4 0 rfl (bH rfl aK aj) ?_
    refine zz4 1 rfl (bH rfl aK aj) ?_
    refine cY [2, 3] (fun iq hq => ?_)
    rcases List.mem_cons.1 hq with rfl | hq
    ·skip
     refine bj rfl ?_
     refine dB cN rfl (fun b6 => ?_)
     refine bN ?_
     refine cY [3] (fun iq hq => ?_)
     obtain rfl := List.mem_singleton.1 hq
     refine bj rfl ?_
     refine dB cN rfl (fun b7 => ?_)
     refine bN ?_
     refine cY [4] (fun iq hq => ?_)
     obtain rfl := List.mem_singleton.1 hq
     refine bj rfl ?_
     refine az bQ rfl rfl aj ?_
     refine bN ?_
     refine cY [5] (fun iq hq => ?_)
     obtain rfl := List.mem_singleton.1 hq
     refine bj rfl ?_
     refine az bQ rfl rfl aj ?_
     refine bN ?_
     refine ij ?_
     refine ac ?_
     refine cw (_, _) (Front.c (Front.c Front.nil)) (bC 4 rfl) (o := trivial)
    obtain rfl := List.mem_singleton.1 hq
    refine bj rfl ?_
    refine dB cN rfl (fun b8 => ?_)
    refine bN ?_
    refine cY [2] (fun iq hq => ?_)
    obtain rfl := List.mem_singleton.1 hq
    refine bj rfl ?_
    refine dB cN rfl (fun b9 => ?_)
    refine bN ?_
    refine cY [4] (fun iq hq => ?_)
    obtain rfl := List.mem_singleton.1 hq
    refine bj rfl ?_
    refine az bQ rfl rfl aj ?_
    refine bN ?_
    refine cY [5] (fun iq hq => ?_)
    obtain rfl := List.mem_singleton.1 hq
    refine bj rfl ?_
    refine az bQ rfl rfl aj ?_
    refine bN ?_
    refine ij ?_
    refine ac ?_
    refine cw (_, _) (Front.c (Front.c Front.nil)) (bC 4 rfl) (o := trivial)
   ·obtain ⟨p, q⟩ := i
    replace hi : True := hi
    change Tr _ _ [cellE q (bQ.enc (ba b)) 25, cellE p (bQ.enc (ba a)) 25, cellE b3 (bQ.enc zeroS) 25, cellE b2 (bQ.enc (ba b)) 25, cellE b1 (bQ.enc (ba a)) 25] ([(6, .pointer (some ⟨q, 0, none⟩)), (5, .pointer (some ⟨p, 0, none⟩))] ++ _) _
    refine di (ι := VSet × VSet) (fun ⟨fe, ot⟩ => (ba a).top = false ∧ mc a b = rK (ba a) (ba b) fe ot ∧ (64 < fD (ba a) ∨ fe = ba a)) (fun _ => Bg.of w) (fun ⟨fe, ot⟩ => [cellE q (bQ.enc ot) 25, cellE p (bQ.enc fe) 25, cellE b3 (bQ.enc zeroS) 25, cellE b2 (bQ.enc (ba b)) 25, cellE b1 (bQ.enc (ba a)) 25]) (fun ⟨fe, ot⟩ => []) ?_ (fun i hi => ?_)
    ·skip
     refine af (zz0 (bH rfl aK aj) ?_)
     refine zz0 (aA rfl Tryz.call100 (fun w hw => Ao _ w)) ?_
     refine zz0 (fj rfl rfl) (ad ?_)
     refine ar rfl ?_ ?_ <;> intro h10 <;> try simp only [bs] at h10
     ·refine dW ([cellE b3 (bQ.enc zeroS) 25, cellE b2 (bQ.enc (ba b)) 25, cellE b1 (bQ.enc (ba a)) 25]) 4 rfl aQ ?_
      refine zz4 0 rfl (bH rfl aK aj) ?_
      refine zz4 1 rfl (bH rfl aK aj) ?_
      refine cY [2] (fun iq hq => ?_)
      obtain rfl := List.mem_singleton.1 hq
      refine bj rfl ?_
      refine az bQ rfl rfl aj ?_
      refine bN ?_
      refine cY [3] (fun iq hq => ?_)
      obtain rfl := List.mem_singleton.1 hq
      refine bj rfl ?_
      refine az bQ rfl rfl aj ?_
      refine bN ?_
      refine ij ?_
      refine ac ?_
      refine cw (ba b, ba a) Front.nil (bC 5 rfl) (o := ⟨by simp_all, by unfold mc pH; (repeat' (first | rfl | (exfalso; first | (simp_all; done) | grind) | split)), .inl (by assumption)⟩)
     ·refine bF ?_
      refine cw (ba a, ba b) Front.nil (bC 3 rfl) (o := ⟨by simp_all, by unfold mc pH; (repeat' (first | rfl | (exfalso; first | (simp_all; done) | grind) | split)), .inr rfl⟩)
    ·obtain ⟨fe, ot⟩ := i
     replace hi : (ba a).top = false ∧ mc a b = rK (ba a) (ba b) fe ot ∧ (64 < fD (ba a) ∨ fe = ba a) := hi
     change Tr _ _ [cellE q (bQ.enc ot) 25, cellE p (bQ.enc fe) 25, cellE b3 (bQ.enc zeroS) 25, cellE b2 (bQ.enc (ba b)) 25, cellE b1 (bQ.enc (ba a)) 25] ([] ++ _) _
     obtain ⟨hat, hme, hfe⟩ := hi
     refine al (af (zz0 (bH rfl aK aj) ?_))
     refine gx (fun V => .tuple #[V, .int .i64 (fh fe).2]) rfl Tryz.call41 (fun w hw => tL fe w) rfl (fun VE => ?_)
     refine zz0 (aa rfl) (zz0 (aL rfl rfl) (zz0 (aL rfl rfl) (zz0 (ab rfl) (zz0 (ab rfl) (ad (al ?_))))))
     have hel : (fh fe).2 = 0 → (fh fe).1.length ≤ 64 := xf
     refine an (zz0 (aa rfl) (zz0 (bB rfl rfl) (ad ?_)))
     refine ar rfl ?_ ?_ <;> intro h11 <;> try simp only [bs] at h11
     ·refine af (zz0 (aA rfl jD (fun w hw => ko w)) ?_)
      refine dB cN rfl (fun b12 => ?_)
      refine az bQ rfl rfl aj ?_
      refine ad (al (al ?_))
      have hel2 := hel (by assumption)
      refine an (zz0 (aa rfl) (zz0 (ln rfl ah) ?_))
      refine zz0 (aa rfl) (ad (aF ?_))
      refine bL (ι := Nat) (fun k => k ≤ (fh fe).1.length) (fun _ => _) (fun k => [cellE b12 (bQ.enc (mH ot ((fh fe).1.take k) emptyS)) 25, rowE VE 23 ao (fh fe).1, cellE q (bQ.enc ot) 25, cellE p (bQ.enc fe) 25, cellE b3 (bQ.enc zeroS) 25, cellE b2 (bQ.enc (ba b)) 25, cellE b1 (bQ.enc (ba a)) 25]) (fun k => [(44, .int .i64 (k : Nat))]) (fun k => (fh fe).1.length - k) 0 (Nat.zero_le _) (Front.c Front.nil) (by repeat' constructor) rfl (fun k hi m hm => ?_)
      replace hi : k ≤ (fh fe).1.length := hi
      replace hm : m = (fh fe).1.length - k := hm
      change Tr _ _ [cellE b12 (bQ.enc (mH ot ((fh fe).1.take k) emptyS)) 25, rowE VE 23 ao (fh fe).1, cellE q (bQ.enc ot) 25, cellE p (bQ.enc fe) 25, cellE b3 (bQ.enc zeroS) 25, cellE b2 (bQ.enc (ba b)) 25, cellE b1 (bQ.enc (ba a)) 25] ([(44, .int .i64 (k : Nat))] ++ _) _
      refine af (zz0 (bU rfl rfl) (ad (al ?_)))
      refine ar rfl ?_ ?_ <;> intro h13 <;> try simp only [bs] at h13
      ·refine bF (al (aF (af (zz0 (zz7 rfl rfl ah ae) ?_))))
       refine zz0 (eF rfl am) ?_
       refine zz0 (ab rfl) (aH (zz0 (bH rfl aK aj) ?_))
       refine zz0 (aa rfl) (zz0 (aA rfl l4 (fun w hw => kd ot _ w)) ?_)
       refine ad ?_
       refine ar rfl ?_ ?_ <;> intro h14 <;> try simp only [bs] at h14
       ·refine fO 0 4 aQ ?_
        refine bI ?_
        refine aw (bH rfl aK aj) ?_
        refine aw (aa rfl) (aw (aA rfl jb (fun w hw => jP _ w)) ?_)
        refine aw (aA rfl Tryz.call166 (fun w hw => yn _ _ w)) ?_
        refine bK ?_
        refine az bQ rfl rfl aj ?_
        refine aD (aX (ac (an (zz0 (cp rfl rfl) ?_))))
        refine zz0 (aa rfl) (ad ?_)
        rw [Fy (by omega) (by assumption)]
        refine cH (k + 1) (Front.c Front.nil) (bC 14 rfl) (o := (by show k + 1 ≤ _; omega))
       ·refine cg (aX (ac (an (zz0 (cp rfl rfl) ?_))))
        refine zz0 (aa rfl) (ad ?_)
        rw [HB (o := ot) (k := k) (by omega) (by assumption)]
        refine cH (k + 1) (Front.c Front.nil) (bC 10 rfl) (o := (by show k + 1 ≤ _; omega))
      ·refine bJ (aG (aG (bv (ac (al ?_)))))
       obtain rfl : k = (fh fe).1.length := by omega
       rw [List.take_length]
       refine an (zz0 (bH rfl aK aj) ?_)
       refine az bQ rfl rfl aj ?_
       refine ad (aB (ay ?_))
       refine eY jT rfl aK aj (fun w' hw => ?_)
       try rw [hme]
       refine ⟨?_, hw.b0⟩
       (first | unfold rK wQ | unfold mc pH)
       repeat' (first | rfl | (exfalso; first | (simp_all; done) | grind) | split)
     ·refine bF (al ?_)
      have hst0 : (ba a).st ≠ 0 := I1 (kb a) (hfe.elim id (fun e => e ▸ Gk (by assumption))) hat
      have hfb := HH (ba a) (lK (ba a).lo (ba b).lo) hst0
      have hz1 := u9 hst0
      have hz2 := (ba a).st.toNat_lt
      have hz3 := (lK (ba a).lo (ba b).lo - (ba a).lo).toNat_lt
      have hz4 := (ba a).lo.toNat_lt
      refine io aQ ?_
      refine aw (zz3 (off := 2) (ft := 23) rfl au rfl ae) ?_
      refine aw (aJ rfl am) ?_
      refine aw (zz3 (off := 2) (ft := 23) rfl au rfl ae) ?_
      refine aw (aJ rfl am) ?_
      refine aw (qb rfl rfl) ?_
      refine aw (zz3 (off := 3) (ft := 23) rfl au rfl ae) ?_
      refine aw (aJ rfl am) ?_
      refine aw (zz3 (off := 3) (ft := 23) rfl au rfl ae) ?_
      refine aw (aJ rfl am) ?_
      refine aw (pZ rfl rfl) ?_
      refine aw (ab rfl) (aw (ab rfl) (bK ?_))
      refine ac (al ?_)
      simp only [pG, pL]
      refine io aQ ?_
      refine aw (zz3 (off := 2) (ft := 23) rfl au rfl ae) ?_
      refine aw (aJ rfl am) ?_
      refine aw (dS rfl aP bO) (aw (aa rfl) (aw (zz3 (off := 2) (ft := 23) rfl au rfl ae) ?_))
      refine aw (aJ rfl am) ?_
      refine aw (fH rfl rfl) ?_
      refine aw (dS rfl aP bO) (aw (zz3 (off := 4) (ft := 23) rfl au rfl ae) ?_)
      refine aw (aJ rfl am) ?_
      refine aw (dS rfl aP bO) (aw (mU rfl rfl (by omega)) ?_)
      refine aw (uD rfl rfl (by omega)) ?_
      refine aw (zz3 (off := 4) (ft := 23) rfl au rfl ae) ?_
      refine aw (aJ rfl am) ?_
      refine aw (dS rfl aP bO) (aw (If rfl rfl (by omega)) ?_)
      refine aw (zz3 (off := 4) (ft := 23) rfl au rfl ae) ?_
      refine aw (aJ rfl am) ?_
      refine aw (dS rfl aP bO) (aw (C9 rfl rfl (by omega)) ?_)
      refine aw (mU rfl rfl (by omega)) ?_
      refine aw (ab rfl) (bK ?_)
      refine ac (al (al ?_))
      have hfe1 : (ba a).lo.toNat + (((lK (ba a).lo (ba b).lo - (ba a).lo).toNat : Int) + (ba a).st.toNat - 1) / ((ba a).st.toNat : Int) * (ba a).st.toNat = sV (ba a) (lK (ba a).lo (ba b).lo) := rfl
      rw [hfe1]
      refine an (zz0 (aa rfl) (zz0 (aa rfl) (zz0 (dS rfl aP bO) (zz0 (fj rfl rfl) (ad ?_)))))
      refine ar rfl ?_ ?_ <;> intro h15 <;> try simp only [bs] at h15
      ·refine af (zz0 (aA rfl jD (fun w hw => ko w)) ?_)
       refine az bQ rfl rfl aj ?_
       refine ad (aB (ay ?_))
       refine eY jT rfl aK aj (fun w' hw => ?_)
       try rw [hme]
       refine ⟨?_, hw.b0⟩
       (first | unfold rK wQ | unfold mc pH)
       repeat' (first | rfl | (exfalso; first | (simp_all; done) | grind) | split)
      ·refine dl (zz0 (aa rfl) (zz0 (ie rfl bO aP) (zz0 (aa rfl) (zz0 (zz3 (off := 4) (ft := 23) rfl au rfl ae) ?_))))
       refine zz0 (aJ rfl am) ?_
       refine zz0 (aA rfl eH (fun w hw => dU _ _ _ w)) ?_
       refine az bQ rfl rfl aj ?_
       refine ad (aB ?_)
       refine eY jT rfl aK aj (fun w' hw => ?_)
       try rw [hme]
       refine ⟨?_, hw.b0⟩
       (first | unfold rK wQ | unfold mc pH)
       repeat' (first | rfl | (exfalso; first | (simp_all; done) | grind) | split)
theorem ED (a b : VSet) (w : World) :
  Calls Tryz.prog 227 #[.agg (bQ.enc a).toArray, .agg (bQ.enc b).toArray] w (fun e w' => e = .returned (.agg (bQ.enc (l7 a b)).toArray) ∧ Ext w w') := by
 refine enter Tryz.func227 rfl Tryz.ntmps227 rfl ?_
 refine af ?_
 refine dO rfl rfl (fun b1 => ?_)
 refine dO rfl rfl (fun b2 => ?_)
 refine dB cN rfl (fun b3 => ?_)
 refine ad (al (fO 0 4 aQ ?_))
 refine bI ?_
 refine aw (bH rfl aK aj) ?_
 refine aw (aA rfl gC (fun w hw => iv a w)) ?_
 refine aw (bH rfl aK aj) ?_
 refine aw (aA rfl gC (fun w hw => iv b w)) ?_
 refine bK ?_
 refine az bQ rfl rfl aj ?_
 refine az bQ rfl rfl aj ?_
 refine ad (al (aF (af (zz0 (bH rfl aK aj) ?_))))
 refine zz0 (bH rfl aK aj) ?_
 refine zz0 (aA rfl Tryz.call271 (fun w hw => Dh _ _ w)) ?_
 refine zz0 (ab rfl) (ad ?_)
 refine ar rfl ?_ ?_ <;> intro h4 <;> try simp only [bs] at h4
 ·refine af (zz0 (bH rfl aK aj) ?_)
  refine az bQ rfl rfl aj ?_
  refine ad (aB (bA (ay ?_)))
  refine eY gv rfl aK aj (fun w' hw => ?_)
  refine ⟨?_, hw.b0⟩
  unfold l7 lG od
  repeat' (first | rfl | (exfalso; first | (simp_all; done) | grind) | split)
 ·refine af (zz0 (zz3 (off := 0) (ft := 4) rfl au rfl bT) ?_)
  refine zz0 (aJ rfl cB) ?_
  refine zz0 (ab rfl) (ad ?_)
  refine ar rfl ?_ ?_ <;> intro h5 <;> try simp only [bs] at h5
  ·refine af (zz0 (bH rfl aK aj) ?_)
   refine az bQ rfl rfl aj ?_
   refine ad (aB (bA (ay ?_)))
   refine eY gv rfl aK aj (fun w' hw => ?_)
   refine ⟨?_, hw.b0⟩
   unfold l7 lG od
   repeat' (first | rfl | (exfalso; first | (simp_all; done) | grind) | split)
  ·refine af (zz0 (zz3 (off := 1) (ft := 4) rfl au rfl bT) ?_)
   refine zz0 (aJ rfl cB) ?_
   refine zz0 (aa rfl) ?_
   apply dH
   ·exact (rfl : _ = (3, 24, 27))
   ·exact rfl
   ·intro hF6; have hF6' := hF6
    try simp only [bs] at hF6'
    refine zz5 hF6 (zz3 (off := 1) (ft := 4) rfl au rfl bT) ?_
    refine zz5 hF6 (aJ rfl cB) ?_
    refine zz0 (aT rfl hF6 rfl) ?_
    refine aD (ac ?_)
    exact aI (Sub.cons rfl (zz9 3 rfl))
   ·intro hT6
    refine zz8 hT6 (zz8 hT6 (zz0 (aS rfl hT6 rfl) ?_))
    refine aD (ac ?_)
    exact aI (Sub.cons rfl (zz9 3 rfl))
   refine zz0 (ab rfl) (ad ?_)
   refine ar rfl ?_ ?_ <;> intro h7 <;> try simp only [bs] at h7
   ·refine af (zz0 (aA rfl f9 (fun w hw => kh w)) ?_)
    refine az bQ rfl rfl aj ?_
    refine ad (aB (bA (ay ?_)))
    refine eY gv rfl aK aj (fun w' hw => ?_)
    refine ⟨?_, hw.b0⟩
    unfold l7 lG od
    repeat' (first | rfl | (exfalso; first | (simp_all; done) | grind) | split)
   ·refine cg (aX (ac (af (zz0 (bH rfl aK aj) ?_))))
    refine zz0 (bH rfl aK aj) ?_
    refine zz0 (aA rfl Tryz.call166 (fun w hw => yn _ _ w)) ?_
    refine dB cN rfl (fun b8 => ?_)
    refine az bQ rfl rfl aj ?_
    refine ad (al (af (zz0 (zz3 (off := 1) (ft := 4) rfl au rfl bT) ?_)))
    refine zz0 (aJ rfl cB) ?_
    refine ad ?_
    refine ar rfl ?_ ?_ <;> intro h9 <;> try simp only [bs] at h9
    ·refine af (zz0 (bH rfl aK aj) ?_)
     refine az bQ rfl rfl aj ?_
     refine ad (aB (ay ?_))
     refine eY gv rfl aK aj (fun w' hw => ?_)
     refine ⟨?_, hw.b0⟩
     unfold l7 lG od
     repeat' (first | rfl | (exfalso; first | (simp_all; done) | grind) | split)
    ·refine bF (al (io aQ ?_))
     refine aw (zz3 (off := 2) (ft := 23) rfl au rfl ae) ?_
     refine aw (aJ rfl am) ?_
     refine aw (zz3 (off := 3) (ft := 23) rfl au rfl ae) ?_
     refine aw (aJ rfl am) ?_
     refine aw (ab rfl) (aw (ab rfl) (bK ?_))
     refine ac (al (af (zz0 (aa rfl) (zz0 (zz3 (off := 2) (ft := 23) rfl au rfl ae) ?_))))
     refine zz0 (aJ rfl am) ?_
     refine zz0 (iZ rfl rfl) ?_
     refine ad ?_
     refine ar rfl ?_ ?_ <;> intro h10 <;> try simp only [bs] at h10
     ·have hst0 := EE (by assumption) (by assumption) (by simp_all) (by simp_all) (by assumption) (by assumption)
      refine an (zz0 (aa rfl) (zz0 (zz3 (off := 4) (ft := 23) rfl au rfl ae) ?_))
      refine zz0 (aJ rfl am) ?_
      refine zz0 (nU rfl rfl (by first | decide | assumption)) ?_
      refine zz0 (ab rfl) (ad (al (af (zz0 (aa rfl) (zz0 (zz3 (off := 3) (ft := 23) rfl au rfl ae) ?_)))))
      refine zz0 (aJ rfl am) ?_
      refine zz0 (lk rfl rfl) ?_
      refine ad ?_
      refine ar rfl ?_ ?_ <;> intro h11 <;> try simp only [bs] at h11
      ·refine an (zz0 (ab rfl) (aH (zz0 (aa rfl) (zz0 (aa rfl) (zz0 (zz3 (off := 4) (ft := 23) rfl au rfl ae) ?_)))))
       refine zz0 (aJ rfl am) ?_
       refine zz0 (aA rfl eH (fun w hw => dU ((g6 (ba a) (ba b)).lo % (g6 (ba a) (ba b)).st) 4294967295 (g6 (ba a) (ba b)).st w)) ?_
       refine az bQ rfl rfl aj ?_
       refine ad (aB ?_)
       refine eY gv rfl aK aj (fun w' hw => ?_)
       refine ⟨?_, hw.b0⟩
       unfold l7 lG od
       repeat' (first | rfl | (exfalso; first | (simp_all; done) | grind) | split)
      ·refine dl (zz0 (aa rfl) (zz0 (aa rfl) (zz0 (zz3 (off := 4) (ft := 23) rfl au rfl ae) ?_)))
       refine zz0 (aJ rfl am) ?_
       refine zz0 (aA rfl eH (fun w hw => dU ((g6 (ba a) (ba b)).lo % (g6 (ba a) (ba b)).st) (g6 (ba a) (ba b)).hi (g6 (ba a) (ba b)).st w)) ?_
       refine az bQ rfl rfl aj ?_
       refine ad (aB ?_)
       refine eY gv rfl aK aj (fun w' hw => ?_)
       refine ⟨?_, hw.b0⟩
       unfold l7 lG od
       repeat' (first | rfl | (exfalso; first | (simp_all; done) | grind) | split)
     ·refine bF (al (af (zz0 (aa rfl) (zz0 (zz3 (off := 3) (ft := 23) rfl au rfl ae) ?_))))
      refine zz0 (aJ rfl am) ?_
      refine zz0 (lk rfl rfl) ?_
      refine ad ?_
      refine ar rfl ?_ ?_ <;> intro h12 <;> try simp only [bs] at h12
      ·refine an (zz0 (ab rfl) (aH (zz0 (aa rfl) (zz0 (aa rfl) (zz0 (zz3 (off := 4) (ft := 23) rfl au rfl ae) ?_)))))
       refine zz0 (aJ rfl am) ?_
       refine zz0 (aA rfl eH (fun w hw => dU (g6 (ba a) (ba b)).lo 4294967295 (g6 (ba a) (ba b)).st w)) ?_
       refine az bQ rfl rfl aj ?_
       refine ad (aB ?_)
       refine eY gv rfl aK aj (fun w' hw => ?_)
       refine ⟨?_, hw.b0⟩
       unfold l7 lG od
       repeat' (first | rfl | (exfalso; first | (simp_all; done) | grind) | split)
      ·refine dl (zz0 (aa rfl) (zz0 (aa rfl) (zz0 (zz3 (off := 4) (ft := 23) rfl au rfl ae) ?_)))
       refine zz0 (aJ rfl am) ?_
       refine zz0 (aA rfl eH (fun w hw => dU (g6 (ba a) (ba b)).lo (g6 (ba a) (ba b)).hi (g6 (ba a) (ba b)).st w)) ?_
       refine az bQ rfl rfl aj ?_
       refine ad (aB ?_)
       refine eY gv rfl aK aj (fun w' hw => ?_)
       refine ⟨?_, hw.b0⟩
       unfold l7 lG od
       repeat' (first | rfl | (exfalso; first | (simp_all; done) | grind) | split)
end Go.Proofs.YtiajjbhcpeadfaaGreat
namespace Go.HL
open Go
structure StV where
 r0 : VSet
 r1 : VSet
 r2 : VSet
 r3 : VSet
 r4 : VSet
 r5 : VSet
 r6 : VSet
 r7 : VSet
 deriving DecidableEq, Inhabited
def StV.l (s : StV) : List VSet := [s.r0, s.r1, s.r2, s.r3, s.r4, s.r5, s.r6, s.r7]
def gI : StV := ⟨zeroS, zeroS, zeroS, zeroS, zeroS, zeroS, zeroS, zeroS⟩
def cL : Enc StV := ⟨40, fun s => s.l.flatMap bQ.enc, fun s => rfl, fun s v h => by
 obtain ⟨x, _, hx⟩ := List.mem_flatMap.1 h
 exact bQ.one x v hx⟩
def StV.getN (s : StV) : Nat → VSet
 | 0 => s.r0
 | 1 => s.r1
 | 2 => s.r2
 | 3 => s.r3
 | 4 => s.r4
 | 5 => s.r5
 | 6 => s.r6
 | 7 => s.r7
 | _ => zeroS
def StV.setN (s : StV) (v : VSet) : Nat → StV
 | 0 => { s with r0 := v }
 | 1 => { s with r1 := v }
 | 2 => { s with r2 := v }
 | 3 => { s with r3 := v }
 | 4 => { s with r4 := v }
 | 5 => { s with r5 := v }
 | 6 => { s with r6 := v }
 | 7 => { s with r7 := v }
 | _ => s
def StV.get (s : StV) (k : Int) : VSet := s.getN k.toNat
def StV.set (s : StV) (k : Int) (v : VSet) : StV := s.setN v k.toNat
theorem eight {X : Nat → Prop} (h0 : X 0) (h1 : X 1) (h2 : X 2) (h3 : X 3) (h4 : X 4) (h5 : X 5) (h6 : X 6) (h7 : X 7) : ∀ {n : Nat}, n < 8 → X n
 | 0, _ => h0
 | 1, _ => h1
 | 2, _ => h2
 | 3, _ => h3
 | 4, _ => h4
 | 5, _ => h5
 | 6, _ => h6
 | 7, _ => h7
 | n + 8, h => absurd h (by omega)
theorem kj {s : StV} {k : Int} (hk : 0 ≤ k ∧ k < 8) {o : Nat} (ho : o = k.toNat * 5) : ((cL.enc s).drop o).take 5 = bQ.enc (s.get k) := by
 subst ho
 exact eight (X := fun n => ((cL.enc s).drop (n * 5)).take 5 = bQ.enc (s.getN n)) rfl rfl rfl rfl rfl rfl rfl rfl (show k.toNat < 8 by omega)
theorem lq {s : StV} {k : Int} (hk : 0 ≤ k ∧ k < 8) {o : Nat} (ho : o = k.toNat * 5) (v : VSet) : splice (cL.enc s) o (bQ.enc v) = cL.enc (s.set k v) := by
 subst ho
 exact eight (X := fun n => splice (cL.enc s) (n * 5) (bQ.enc v) = cL.enc (s.setN v n)) rfl rfl rfl rfl rfl rfl rfl rfl (show k.toNat < 8 by omega)
theorem lr {s : StV} {k : Int} (hk : 0 ≤ k ∧ k < 8) {o : Nat} (ho : o = k.toNat * 5) : o + 5 ≤ (cL.enc s).length := by
 rw [cL.len]; show o + 5 ≤ 40; omega
theorem FQ (s : StV) (v : VSet) {k : Nat} (hk : k < 8) {j : Nat} (hj : j < 8) : (s.setN v k).getN j = if j = k then v else s.getN j := by
 revert hk
 refine eight (X := fun j => k < 8 → (s.setN v k).getN j = if j = k then v else s.getN j) ?_ ?_ ?_ ?_ ?_ ?_ ?_ ?_ hj
 all_goals intro hk
 all_goals exact eight (X := fun k => (s.setN v k).getN _ = if _ = k then v else s.getN _) rfl rfl rfl rfl rfl rfl rfl rfl hk
theorem CN {s : StV} {k : Int} (hk : 0 ≤ k ∧ k < 8) (v : VSet) (j : Int) (hj : 0 ≤ j ∧ j < 8) : (s.set k v).get j = if j = k then v else s.get j := by
 have h := FQ s v (k := k.toNat) (by omega) (j := j.toNat) (by omega)
 by_cases e : j = k
 ·rw [if_pos e]; rw [if_pos (by omega)] at h; exact h
 ·rw [if_neg e]; rw [if_neg (by omega)] at h; exact h
def xc (v : VSet) (k : Nat) : StV :=
 ⟨if 0 < k then v else zeroS, if 1 < k then v else zeroS, if 2 < k then v else zeroS, if 3 < k then v else zeroS, if 4 < k then v else zeroS, if 5 < k then v else zeroS, if 6 < k then v else zeroS, if 7 < k then v else zeroS⟩
theorem w9 {v : VSet} {k : Nat} (hk : k < 8) : (xc v k).set (k : Int) v = xc v (k + 1) :=
 eight (X := fun k => (xc v k).set (k : Int) v = xc v (k + 1)) rfl rfl rfl rfl rfl rfl rfl rfl hk
def xN (k : Nat) : StV := xc o9 k
def zc : StV := xN 8
def jg (k : Nat) : StV := xc emptyS k
theorem EJ {k : Nat} (hk : k < 8) : (xN k).set (k : Int) o9 = xN (k + 1) := w9 hk
theorem Gj {k : Nat} (hk : k < 8) : (jg k).set (k : Int) emptyS = jg (k + 1) := w9 hk
def jh (a b : StV) : Nat → StV
 | 0 => a
 | k + 1 => (jh a b k).set (k : Int) (g6 (a.get k) (b.get k))
def vU (a b : StV) : Nat → StV
 | 0 => b
 | k + 1 => (vU a b k).set (k : Int) (l7 (a.get k) (b.get k))
theorem wY (a b : StV) : ∀ k : Nat, k ≤ 8 → ∀ j : Nat, k ≤ j → j < 8 → (jh a b k).get (j : Int) = a.get j
 | 0, _, _, _, _ => rfl
 | k + 1, hk, j, h, hj => by
  show ((jh a b k).set (k : Int) _).get _ = _
  rw [CN (by omega) _ _ (by omega), if_neg (by omega)]
  exact wY a b k (by omega) j (by omega) hj
theorem zb (a b : StV) : ∀ k : Nat, k ≤ 8 → ∀ j : Nat, k ≤ j → j < 8 → (vU a b k).get (j : Int) = b.get j
 | 0, _, _, _, _ => rfl
 | k + 1, hk, j, h, hj => by
  show ((vU a b k).set (k : Int) _).get _ = _
  rw [CN (by omega) _ _ (by omega), if_neg (by omega)]
  exact zb a b k (by omega) j (by omega) hj
def Ds (s : StV) (i : Ins) : VSet := if i.form = 0 then s.get i.b else ia i.imm
def yf (a : VSet) (n : UInt32) : VSet := if n < 2147483648 then gj 3 a (ia n) else gj 4 a (ia (0 - n))
def zI (op : Int) : Int := [3, 4, 6, 7, 8, 5, 9, 10, 11].getD (op - 6).toNat 0
theorem Fp {op : Int} (h : 6 ≤ op ∧ op ≤ 14) {o : Nat} (ho : o = (op - 6).toNat) : ([.int .i64 3, .int .i64 4, .int .i64 6, .int .i64 7, .int .i64 8, .int .i64 5, .int .i64 9, .int .i64 10, .int .i64 11] : List Value)[o]? = some (.int .i64 (zI op)) := by
 subst ho
 unfold zI
 have hk : (op - 6).toNat < 9 := by omega
 generalize (op - 6).toNat = n at hk
 rcases n with _ | _ | _ | _ | _ | _ | _ | _ | _ | n
 all_goals first | rfl | omega
theorem IS {i : Ins} (he : jn i = 0) (h : i.op = 16) : i.width = 1 ∨ i.width = 2 ∨ i.width = 4 := by
 have h1 := (qw he).1
 by_cases a : i.width = 1
 ·exact .inl a
 by_cases b : i.width = 2
 ·exact .inr (.inl b)
 by_cases c : i.width = 4
 ·exact .inr (.inr c)
 unfold bR im at h1
 simp [h, a, b, c] at h1
def jj (i : Ins) (s : StV) : StV :=
 if jn i = 0 then
  if i.op = 5 then s.set i.a (Ds s i)
  else if 6 ≤ i.op ∧ i.op ≤ 14 then s.set i.a (gj (zI i.op) (s.get i.a) (Ds s i))
  else if i.op = 16 ∧ i.width < 4 then s.set i.a (eK 0 (nE 1 (8 * i.width).toNat - 1) 1)
  else if i.op = 16 ∨ i.op = 17 ∨ i.op = 26 then s.set i.a o9
  else if i.op = 19 then s.set i.a (yf (s.get i.b) i.imm)
  else if i.op = 25 then s.set i.a (eK 0 1 1)
  else if i.op = 3 then s.set 7 (gj 4 (s.get 7) (ia 4))
  else if i.op = 4 then (s.set 7 (gj 3 (s.get 7) (ia 4))).set i.a o9
  else if i.op = 2 then s.set 7 (gj 3 (s.get 7) (ia 4))
  else if i.op = 23 ∨ i.op = 24 then zc
  else s
 else s
def BK (i : Ins) : Bool := decide (i.op = 15) && decide (i.form ≠ 0) && decide (jn i = 0)
def yE (a : VSet) : Bool := ir a && !a.top && !a.em
def nz (a : VSet) (n : UInt32) : VSet :=
 if yE a = false ∨ n ≠ a.lo ∧ n ≠ a.hi then a else if a.st = 0 then emptyS else if n = a.lo then eK (a.lo + a.st) a.hi a.st else eK a.lo (a.hi - a.st) a.st
def Bo (cc : Int) : Int := if cc < 1 ∨ 15 ≤ cc then -1 else [(-52 : Int), 2, 1, 4, 3, 6, 5, 8, 7, 10, 9, 12, 11, 14, 13].getD cc.toNat 0
theorem IM {cc : Int} (h : 1 ≤ cc ∧ cc < 15) : Bo cc = [(-52 : Int), 2, 1, 4, 3, 6, 5, 8, 7, 10, 9, 12, 11, 14, 13].getD cc.toNat 0 := by
 unfold Bo; rw [if_neg (by omega)]
theorem Hu {cc : Int} (h : 1 ≤ cc ∧ cc < 15) : (((({ data := #[45, 99, 98, 101, 100, 103, 102, 105, 104, 107, 106, 109, 108, 111, 110] } : ByteArray).data.toList.getD cc.toNat 0 - 97 : UInt8).toNat : Nat) : Int) = [(-52 : Int), 2, 1, 4, 3, 6, 5, 8, 7, 10, 9, 12, 11, 14, 13].getD cc.toNat 0 := by
 have hk : cc.toNat - 1 < 14 := by omega
 have e : cc.toNat = (cc.toNat - 1) + 1 := by omega
 rw [e]
 generalize cc.toNat - 1 = n at hk
 rcases n with _ | _ | _ | _ | _ | _ | _ | _ | _ | _ | _ | _ | _ | _ | n
 all_goals first | rfl | omega
theorem HV {i : Ins} (h : BK i = true) : jn i = 0 := by unfold BK at h; simp at h; exact h.2
theorem Hb {cc : Int} (h : 3 ≤ cc ∧ cc ≤ 6) {o : Nat} (ho : o = (cc - 3).toNat) : ([.int .i64 7, .int .i64 8, .int .i64 9, .int .i64 10] : List Value)[o]? = some (.int .i64 (cc + 4)) := by
 subst ho
 obtain ⟨h1, h2⟩ := h
 rcases (show cc = 3 ∨ cc = 4 ∨ cc = 5 ∨ cc = 6 by omega) with rfl | rfl | rfl | rfl <;> rfl
def fQ (cc : Int) (a : VSet) (n : UInt32) : VSet :=
 if cc = 1 then mc a (ia n) else if cc = 2 then nz a n
 else if cc = 7 then (if n = 0 then emptyS else mc a (eK 0 (n - 1) 1))
 else if cc = 9 then mc a (eK 0 n 1)
 else if cc = 8 then mc a (eK n 4294967295 1)
 else if cc = 10 then (if n = 4294967295 then emptyS else mc a (eK (n + 1) 4294967295 1))
 else a
def oq (cc : Int) (i : Ins) (s : StV) : StV :=
 if 3 ≤ cc ∧ cc ≤ 6 then (if (yE (s.get i.a) = false ∨ 2147483648 ≤ (s.get i.a).hi) ∨ 2147483648 ≤ i.imm then s else s.set i.a (fQ (cc + 4) (s.get i.a) i.imm))
 else s.set i.a (fQ cc (s.get i.a) i.imm)
def rD (cc : Int) (i : Ins) (s : StV) (taken : Bool) : StV :=
 if BK i = false then s else oq (if taken = true then cc else Bo cc) i s
end Go.HL
namespace Go.Proofs.YtiajjbhcpeadfaaGreat
open Go Go.HL Go.RowKit
theorem po (w : World) :
  Calls Tryz.prog 162 #[] w (fun e w' => e = .returned (.agg (cL.enc (xN 8)).toArray) ∧ Ext w w') := by
 refine enter Tryz.func162 rfl Tryz.ntmps162 rfl ?_
 refine af ?_
 refine dB cS rfl (fun b1 => ?_)
 refine aH ?_
 refine dB cS rfl (fun b2 => ?_)
 refine ad (al (af (zz0 (aa rfl) (ad (aF ?_)))))
 refine bL (ι := Nat) (fun k => k ≤ 8) (fun _ => _) (fun k => [cellE b2 (cL.enc (xN k)) 37, cellE b1 (cL.enc gI) 37]) (fun k => [(3, .int .i64 (k : Nat))]) (fun k => 8 - k) 0 (Nat.zero_le _) (Front.c Front.nil) (by repeat' constructor) rfl (fun k hi m hm => ?_)
 replace hi : k ≤ 8 := hi
 replace hm : m = 8 - k := hm
 change Tr _ _ [cellE b2 (cL.enc (xN k)) 37, cellE b1 (cL.enc gI) 37] ([(3, .int .i64 (k : Nat))] ++ _) _
 refine af (zz0 (bU rfl rfl) (ad (al ?_)))
 refine ar rfl ?_ ?_ <;> intro h3 <;> try simp only [bs] at h3
 ·refine bF (al (aF (af (zz0 (aa rfl) (zz0 (ab rfl) (ad (an (zz0 (aa rfl) (zz0 (aA rfl f9 (fun w hw => kh w)) ?_)))))))))
  refine zz0 (zz3 (off := 0) (ft := 26) rfl cm rfl cX) ?_
  refine zz0 (dI rfl rfl cj aj (by omega)) ?_
  refine ga rfl rfl aj (by repeat constructor) ((lq (k := (k : Int)) ⟨by omega, by omega⟩ (by simp) _).trans (congrArg cL.enc (EJ (by omega)))) (by rfl) (lr (k := (k : Int)) ⟨by omega, by omega⟩ (by simp)) (by first | exact Enc.one bQ _ | exact List.all_eq_true.1 rfl) rfl ?_
  refine aD (aX (ac (an (zz0 (cp rfl rfl) ?_))))
  refine zz0 (aa rfl) (ad ?_)
  refine cH (k + 1) (Front.c Front.nil) (bC 10 rfl) (o := (by show k + 1 ≤ _; omega))
 ·refine bJ (aG (aG (bv (ac (al ?_)))))
  obtain rfl : k = 8 := by omega
  refine an (zz0 (bH rfl bS aU) ?_)
  refine az cL rfl rfl aU ?_
  refine ad (aB ?_)
  refine eY Tryz.results162 rfl bS aU (fun w' hw => ?_)
  exact ⟨rfl, hw.b0⟩
theorem xe (w : World) :
  Calls Tryz.prog 160 #[] w (fun e w' => e = .returned (.agg (cL.enc (jg 8)).toArray) ∧ Ext w w') := by
 refine enter Tryz.func160 rfl Tryz.ntmps160 rfl ?_
 refine af ?_
 refine dB cS rfl (fun b1 => ?_)
 refine aH ?_
 refine dB cS rfl (fun b2 => ?_)
 refine ad (al (af (zz0 (aa rfl) (ad (aF ?_)))))
 refine bL (ι := Nat) (fun k => k ≤ 8) (fun _ => _) (fun k => [cellE b2 (cL.enc (jg k)) 37, cellE b1 (cL.enc gI) 37]) (fun k => [(3, .int .i64 (k : Nat))]) (fun k => 8 - k) 0 (Nat.zero_le _) (Front.c Front.nil) (by repeat' constructor) rfl (fun k hi m hm => ?_)
 replace hi : k ≤ 8 := hi
 replace hm : m = 8 - k := hm
 change Tr _ _ [cellE b2 (cL.enc (jg k)) 37, cellE b1 (cL.enc gI) 37] ([(3, .int .i64 (k : Nat))] ++ _) _
 refine af (zz0 (bU rfl rfl) (ad (al ?_)))
 refine ar rfl ?_ ?_ <;> intro h3 <;> try simp only [bs] at h3
 ·refine bF (al (aF (af (zz0 (aa rfl) (zz0 (ab rfl) (ad (an (zz0 (aa rfl) (zz0 (aA rfl jD (fun w hw => ko w)) ?_)))))))))
  refine zz0 (zz3 (off := 0) (ft := 26) rfl cm rfl cX) ?_
  refine zz0 (dI rfl rfl cj aj (by omega)) ?_
  refine ga rfl rfl aj (by repeat constructor) ((lq (k := (k : Int)) ⟨by omega, by omega⟩ (by simp) _).trans (congrArg cL.enc (Gj (by omega)))) (by rfl) (lr (k := (k : Int)) ⟨by omega, by omega⟩ (by simp)) (by first | exact Enc.one bQ _ | exact List.all_eq_true.1 rfl) rfl ?_
  refine aD (aX (ac (an (zz0 (cp rfl rfl) ?_))))
  refine zz0 (aa rfl) (ad ?_)
  refine cH (k + 1) (Front.c Front.nil) (bC 10 rfl) (o := (by show k + 1 ≤ _; omega))
 ·refine bJ (aG (aG (bv (ac (al ?_)))))
  obtain rfl : k = 8 := by omega
  refine an (zz0 (bH rfl bS aU) ?_)
  refine az cL rfl rfl aU ?_
  refine ad (aB ?_)
  refine eY Tryz.results160 rfl bS aU (fun w' hw => ?_)
  exact ⟨rfl, hw.b0⟩
theorem uN (s : StV) (i : Ins) (w : World) (hB : 0 ≤ i.b ∧ i.b < 8) :
  Calls Tryz.prog 302 #[.agg (cL.enc s).toArray, .agg (aO.enc i).toArray] w (fun e w' => e = .returned (.agg (bQ.enc (Ds s i)).toArray) ∧ Ext w w') := by
 refine enter Tryz.func302 rfl Tryz.ntmps302 rfl ?_
 refine af ?_
 refine dO rfl rfl (fun b1 => ?_)
 refine dO rfl rfl (fun b2 => ?_)
 refine dB cN rfl (fun b3 => ?_)
 refine ad (al (af (zz0 (zz3 (off := 3) (ft := 3) rfl ak rfl aC) ?_)))
 refine zz0 (aJ rfl aN) ?_
 refine zz0 (bB rfl rfl) (ad ?_)
 refine ar rfl ?_ ?_ <;> intro h4 <;> try simp only [bs] at h4
 ·refine af (zz0 (zz3 (off := 7) (ft := 3) rfl ak rfl aC) ?_)
  refine zz0 (aJ rfl aN) ?_
  refine zz0 (zz3 (off := 0) (ft := 26) rfl cm rfl cX) ?_
  refine zz0 (dI rfl rfl cj aj (by omega)) ?_
  refine zz0 (fW (vs := bQ.enc (s.get i.b)) rfl (by repeat constructor) aK aj (kj hB (by simp)) rfl) ?_
  refine az bQ rfl rfl aj ?_
  refine ad (aB (ay ?_))
  refine eY Tryz.results302 rfl aK aj (fun w' hw => ?_)
  refine ⟨?_, hw.b0⟩
  unfold Ds
  repeat' (first | rfl | (exfalso; first | (simp_all; done) | grind) | split)
 ·refine dl (zz0 (zz3 (off := 1) (ft := 23) rfl ak rfl ae) ?_)
  refine zz0 (aJ rfl am) ?_
  refine zz0 (aA rfl jb (fun w hw => jP _ w)) ?_
  refine az bQ rfl rfl aj ?_
  refine ad (aB ?_)
  refine eY Tryz.results302 rfl aK aj (fun w' hw => ?_)
  refine ⟨?_, hw.b0⟩
  unfold Ds
  repeat' (first | rfl | (exfalso; first | (simp_all; done) | grind) | split)
theorem DY (a : VSet) (n : UInt32) (w : World) :
  Calls Tryz.prog 304 #[.agg (bQ.enc a).toArray, .int .u32 n.toNat] w (fun e w' => e = .returned (.agg (bQ.enc (yf a n)).toArray) ∧ Ext w w') := by
 refine enter Tryz.func304 rfl Tryz.ntmps304 rfl ?_
 refine af ?_
 refine dO rfl rfl (fun b1 => ?_)
 refine dB cN rfl (fun b2 => ?_)
 refine ad (al (af (zz0 (aa rfl) (zz0 (iZ (n := 2147483648) rfl rfl) ?_))))
 refine ad ?_
 refine ar rfl ?_ ?_ <;> intro h3 <;> try simp only [bs] at h3
 ·refine al (fO 0 4 aQ ?_)
  refine bI ?_
  refine aw (bH rfl aK aj) ?_
  refine aw (aa rfl) (aw (aA rfl jb (fun w hw => jP _ w)) ?_)
  refine aw (aA rfl mo (fun w hw => pW 3 _ _ w)) ?_
  refine bK ?_
  refine az bQ rfl rfl aj ?_
  refine ad (aB (ay ?_))
  refine eY Tryz.results304 rfl aK aj (fun w' hw => ?_)
  refine ⟨?_, hw.b0⟩
  unfold yf
  repeat' (first | rfl | (exfalso; first | (simp_all; done) | grind) | split)
 ·refine bF (al (fO 0 5 aQ ?_))
  refine bI ?_
  refine aw (bH rfl aK aj) ?_
  refine aw (aa rfl) (aw (vL rfl) ?_)
  refine aw (aA rfl jb (fun w hw => jP _ w)) ?_
  refine aw (aA rfl mo (fun w hw => pW 4 _ _ w)) ?_
  refine bK ?_
  refine az bQ rfl rfl aj ?_
  refine ad (aB ?_)
  refine eY Tryz.results304 rfl aK aj (fun w' hw => ?_)
  refine ⟨?_, hw.b0⟩
  unfold yf
  repeat' (first | rfl | (exfalso; first | (simp_all; done) | grind) | split)
theorem tN (a : VSet) (w : World) :
  Calls Tryz.prog 299 #[.agg (bQ.enc a).toArray] w (fun e w' => e = .returned (.bool (yE a)) ∧ Ext w w') := by
 refine enter Tryz.func299 rfl Tryz.ntmps299 rfl ?_
 refine af ?_
 refine dO rfl rfl (fun b1 => ?_)
 refine zz0 (ab rfl) (aH (zz0 (bH rfl aK aj) ?_))
 refine zz0 (aA rfl Tryz.call40 (fun w hw => uJ _ w)) ?_
 refine zz0 (aa rfl) ?_
 apply cE
 ·exact (rfl : _ = (4, 5, 9))
 ·exact rfl
 ·intro hT2; have hT2' := hT2
  try simp only [bs] at hT2'
  refine zz5 hT2 (zz3 (off := 1) (ft := 4) rfl au rfl bT) ?_
  refine zz5 hT2 (aJ rfl cB) ?_
  refine zz5 hT2 (cQ rfl) (zz0 (aS rfl hT2 rfl) ?_)
  refine aD (ac ?_)
  exact aI (Sub.cons rfl (zz9 4 rfl))
 ·intro hF2
  refine zz8 hF2 (zz8 hF2 (zz8 hF2 (zz0 (aT rfl hF2 rfl) ?_)))
  refine aD (ac ?_)
  exact aI (Sub.cons rfl (zz9 4 rfl))
 refine zz0 (aa rfl) ?_
 apply cE
 ·exact (rfl : _ = (4, 10, 14))
 ·exact rfl
 ·intro hT3; have hT3' := hT3
  try simp only [bs] at hT3'
  refine zz5 hT3 (zz3 (off := 0) (ft := 4) rfl au rfl bT) ?_
  refine zz5 hT3 (aJ rfl cB) ?_
  refine zz5 hT3 (cQ rfl) (zz0 (aS rfl hT3 rfl) ?_)
  refine aD (ac ?_)
  exact aI (Sub.cons rfl (zz9 4 rfl))
 ·intro hF3
  refine zz8 hF3 (zz8 hF3 (zz8 hF3 (zz0 (aT rfl hF3 rfl) ?_)))
  refine aD (ac ?_)
  exact aI (Sub.cons rfl (zz9 4 rfl))
 refine zz0 (ab rfl) (ad (aB ?_))
 refine aV Tryz.results299 rfl (fun w' hw => ?_)
 refine ⟨?_, hw.b0⟩
 unfold yE
 repeat' (first | rfl | (exfalso; first | (simp_all; done) | grind) | split)
theorem y9 (a : VSet) (n : UInt32) (w : World) :
  Calls Tryz.prog 301 #[.agg (bQ.enc a).toArray, .int .u32 n.toNat] w (fun e w' => e = .returned (.agg (bQ.enc (nz a n)).toArray) ∧ Ext w w') := by
 refine enter Tryz.func301 rfl Tryz.ntmps301 rfl ?_
 refine af ?_
 refine dO rfl rfl (fun b1 => ?_)
 refine dB cN rfl (fun b2 => ?_)
 refine ad (al (aF (af (zz0 (bH rfl aK aj) ?_))))
 refine zz0 (aA rfl Tryz.call299 (fun w hw => tN _ w)) ?_
 refine zz0 (cQ rfl) (zz0 (aa rfl) ?_)
 apply dH
 ·exact (rfl : _ = (11, 9, 20))
 ·exact rfl
 ·intro hF3; have hF3' := hF3
  try simp only [bs] at hF3'
  refine zz5 hF3 (aa rfl) (zz5 hF3 (zz3 (off := 2) (ft := 23) rfl au rfl ae) ?_)
  refine zz5 hF3 (aJ rfl am) ?_
  refine zz5 hF3 (jW rfl rfl) ?_
  refine zz5 hF3 (aa rfl) ?_
  apply cE
  ·exact (rfl : _ = (5, 14, 19))
  ·exact rfl
  ·intro hT4; have hT4' := hT4
   try simp only [bs] at hT4'
   refine zz5 hT4 (aa rfl) (zz5 hT4 (zz3 (off := 3) (ft := 23) rfl au rfl ae) ?_)
   refine zz5 hT4 (aJ rfl am) ?_
   refine zz5 hT4 (jW rfl rfl) ?_
   refine zz5 hF3 (aS rfl hT4 rfl) ?_
   refine aD (ac ?_)
   exact aI (Sub.cons rfl (zz9 5 rfl))
  ·intro hF4
   refine zz8 hF4 (zz8 hF4 (zz8 hF4 (zz8 hF4 (zz5 hF3 (aT rfl hF4 rfl) ?_))))
   refine aD (ac ?_)
   exact aI (Sub.cons rfl (zz9 5 rfl))
  refine zz0 (aT rfl hF3 rfl) ?_
  refine aD (ac ?_)
  exact aI (Sub.cons rfl (zz9 7 rfl))
 ·intro hT3
  refine zz8 hT3 (zz8 hT3 (zz8 hT3 (zz8 hT3 (zz8 hT3 (gY ?_)))))
  refine gY ?_
  refine gY ?_
  refine gY ?_
  refine zz8 hT3 (zz0 (aS rfl hT3 rfl) ?_)
  refine aD (ac ?_)
  exact aI (Sub.cons rfl (zz9 11 rfl))
 refine zz0 (ab rfl) (ad ?_)
 refine ar rfl ?_ ?_ <;> intro h5 <;> try simp only [bs] at h5
 ·refine af (zz0 (bH rfl aK aj) ?_)
  refine az bQ rfl rfl aj ?_
  refine ad (aB (bA (ay ?_)))
  refine eY kP rfl aK aj (fun w' hw => ?_)
  refine ⟨?_, hw.b0⟩
  unfold nz
  repeat' (first | rfl | (exfalso; first | (simp_all; done) | grind) | split)
 ·refine af (zz0 (zz3 (off := 4) (ft := 23) rfl au rfl ae) ?_)
  refine zz0 (aJ rfl am) ?_
  refine zz0 (eN (n := 0) rfl rfl) ?_
  refine zz0 (ab rfl) (ad ?_)
  refine ar rfl ?_ ?_ <;> intro h6 <;> try simp only [bs] at h6
  ·refine af (zz0 (aA rfl jD (fun w hw => ko w)) ?_)
   refine az bQ rfl rfl aj ?_
   refine ad (aB (bA (ay ?_)))
   refine eY kP rfl aK aj (fun w' hw => ?_)
   refine ⟨?_, hw.b0⟩
   unfold nz
   repeat' (first | rfl | (exfalso; first | (simp_all; done) | grind) | split)
  ·refine af (zz0 (aa rfl) (zz0 (zz3 (off := 2) (ft := 23) rfl au rfl ae) ?_))
   refine zz0 (aJ rfl am) ?_
   refine zz0 (eN rfl rfl) ?_
   refine zz0 (ab rfl) (ad ?_)
   refine ar rfl ?_ ?_ <;> intro h7 <;> try simp only [bs] at h7
   ·refine af (zz0 (zz3 (off := 2) (ft := 23) rfl au rfl ae) ?_)
    refine zz0 (aJ rfl am) ?_
    refine zz0 (zz3 (off := 4) (ft := 23) rfl au rfl ae) ?_
    refine zz0 (aJ rfl am) ?_
    refine zz0 (gV rfl rfl) ?_
    refine zz0 (zz3 (off := 3) (ft := 23) rfl au rfl ae) ?_
    refine zz0 (aJ rfl am) ?_
    refine zz0 (zz3 (off := 4) (ft := 23) rfl au rfl ae) ?_
    refine zz0 (aJ rfl am) ?_
    refine zz0 (aA rfl eH (fun w hw => dU _ _ _ w)) ?_
    refine az bQ rfl rfl aj ?_
    refine ad (aB (bA (ay ?_)))
    refine eY kP rfl aK aj (fun w' hw => ?_)
    refine ⟨?_, hw.b0⟩
    unfold nz
    repeat' (first | rfl | (exfalso; first | (simp_all; done) | grind) | split)
   ·refine cg (aX (ac (af (zz0 (zz3 (off := 2) (ft := 23) rfl au rfl ae) ?_))))
    refine zz0 (aJ rfl am) ?_
    refine zz0 (zz3 (off := 3) (ft := 23) rfl au rfl ae) ?_
    refine zz0 (aJ rfl am) ?_
    refine zz0 (zz3 (off := 4) (ft := 23) rfl au rfl ae) ?_
    refine zz0 (aJ rfl am) ?_
    refine zz0 (fH rfl rfl) ?_
    refine zz0 (zz3 (off := 4) (ft := 23) rfl au rfl ae) ?_
    refine zz0 (aJ rfl am) ?_
    refine zz0 (aA rfl eH (fun w hw => dU _ _ _ w)) ?_
    refine az bQ rfl rfl aj ?_
    refine ad (aB ?_)
    refine eY kP rfl aK aj (fun w' hw => ?_)
    refine ⟨?_, hw.b0⟩
    unfold nz
    repeat' (first | rfl | (exfalso; first | (simp_all; done) | grind) | split)
theorem tM (i : Ins) (w : World) (hI : InsOK i) :
  Calls Tryz.prog 225 #[.agg (aO.enc i).toArray] w (fun e w' => e = .returned (.bool (BK i)) ∧ Ext w w') := by
 refine enter Tryz.func225 rfl Tryz.ntmps225 rfl ?_
 refine af ?_
 refine dO rfl rfl (fun b1 => ?_)
 refine zz0 (ab rfl) (aH (zz0 (zz3 (off := 2) (ft := 3) rfl ak rfl aC) ?_))
 refine zz0 (aJ rfl aN) ?_
 refine zz0 (bB rfl rfl) (zz0 (aa rfl) ?_)
 apply cE
 ·exact (rfl : _ = (4, 6, 10))
 ·exact rfl
 ·intro hT2; have hT2' := hT2
  try simp only [bs] at hT2'
  refine zz5 hT2 (zz3 (off := 3) (ft := 3) rfl ak rfl aC) ?_
  refine zz5 hT2 (aJ rfl aN) ?_
  refine zz5 hT2 (fV rfl rfl) (zz0 (aS rfl hT2 rfl) ?_)
  refine aD (ac ?_)
  exact aI (Sub.cons rfl (zz9 4 rfl))
 ·intro hF2
  refine zz8 hF2 (zz8 hF2 (zz8 hF2 (zz0 (aT rfl hF2 rfl) ?_)))
  refine aD (ac ?_)
  exact aI (Sub.cons rfl (zz9 4 rfl))
 refine zz0 (aa rfl) ?_
 apply cE
 ·exact (rfl : _ = (3, 11, 14))
 ·exact rfl
 ·intro hT3; have hT3' := hT3
  try simp only [bs] at hT3'
  refine zz5 hT3 (bH rfl aR ax) ?_
  refine zz5 hT3 (aA rfl kE (fun w hw => kB i w hI)) ?_
  refine zz0 (aS rfl hT3 rfl) ?_
  refine aD (ac ?_)
  exact aI (Sub.cons rfl (zz9 3 rfl))
 ·intro hF3
  refine zz8 hF3 (zz8 hF3 (zz0 (aT rfl hF3 rfl) ?_))
  refine aD (ac ?_)
  exact aI (Sub.cons rfl (zz9 3 rfl))
 refine zz0 (ab rfl) (ad (aB ?_))
 refine aV Tryz.results225 rfl (fun w' hw => ?_)
 refine ⟨?_, hw.b0⟩
 unfold BK
 repeat' (first | rfl | (exfalso; first | (simp_all; done) | grind) | split)
theorem ye (cc : Int) (w : World) :
  Calls Tryz.prog 298 #[.int .i64 cc] w (fun e w' => e = .returned (.int .i64 (Bo cc)) ∧ Ext w w') := by
 refine enter Tryz.func298 rfl Tryz.ntmps298 rfl ?_
 refine af (zz0 (ab rfl) (ad (al (af (zz0 (aa rfl) (zz0 (bU rfl rfl) (zz0 (aa rfl) ?_)))))))
 apply dH
 ·exact (rfl : _ = (3, 5, 8))
 ·exact rfl
 ·intro hF1; have hF1' := hF1
  try simp only [bs] at hF1'
  refine zz5 hF1 (aa rfl) (zz5 hF1 (eJ rfl rfl) (zz0 (aT rfl hF1 rfl) ?_))
  refine aD (ac ?_)
  exact aI (Sub.cons rfl (zz9 3 rfl))
 ·intro hT1
  refine zz8 hT1 (zz8 hT1 (zz0 (aS rfl hT1 rfl) ?_))
  refine aD (ac ?_)
  exact aI (Sub.cons rfl (zz9 3 rfl))
 refine ad ?_
 refine ar rfl ?_ ?_ <;> intro h2 <;> try simp only [bs] at h2
 ·refine af (zz0 (ab rfl) (ad (aB (ay ?_))))
  refine aV Tryz.results298 rfl (fun w' hw => ?_)
  exact ⟨by unfold Bo; rw [if_pos (by omega)], hw.b0⟩
 ·refine bF (al ?_)
  have hsz : ({ data := #[45, 99, 98, 101, 100, 103, 102, 105, 104, 107, 106, 109, 108, 111, 110] } : ByteArray).size = 15 := rfl
  refine an (zz0 (aa rfl) (zz0 (ti rfl rfl iw (by omega)) ?_))
  refine zz0 (C5 (n := 97) rfl rfl) ?_
  refine zz0 (ig rfl bW aZ) (zz0 (ab rfl) (ad (aB ?_)))
  refine aV Tryz.results298 rfl (fun w' hw => ?_)
  exact ⟨by rw [IM (by omega), ← Hu (by omega)], hw.b0⟩
theorem oz (a b : StV) (w : World) :
  Calls Tryz.prog 110 #[.agg (cL.enc a).toArray, .agg (cL.enc b).toArray] w (fun e w' => e = .returned (.agg (cL.enc (jh a b 8)).toArray) ∧ Ext w w') := by
 refine enter Tryz.func110 rfl Tryz.ntmps110 rfl ?_
 refine af ?_
 refine dO rfl rfl (fun b1 => ?_)
 refine dO rfl rfl (fun b2 => ?_)
 refine dB cS rfl (fun b3 => ?_)
 refine ad (al (af (zz0 (aa rfl) (ad (aF ?_)))))
 refine bL (ι := Nat) (fun k => k ≤ 8) (fun _ => _) (fun k => [cellE b3 (cL.enc gI) 37, cellE b2 (cL.enc b) 37, cellE b1 (cL.enc (jh a b k)) 37]) (fun k => [(6, .int .i64 (k : Nat))]) (fun k => 8 - k) 0 (Nat.zero_le _) (Front.c Front.nil) (by repeat' constructor) rfl (fun k hi m hm => ?_)
 replace hi : k ≤ 8 := hi
 replace hm : m = 8 - k := hm
 change Tr _ _ [cellE b3 (cL.enc gI) 37, cellE b2 (cL.enc b) 37, cellE b1 (cL.enc (jh a b k)) 37] ([(6, .int .i64 (k : Nat))] ++ _) _
 have hgk := wY a b k hi k (Nat.le_refl k)
 refine af (zz0 (bU rfl rfl) (ad (al ?_)))
 refine ar rfl ?_ ?_ <;> intro h4 <;> try simp only [bs] at h4
 ·refine bF (al (aF (af (zz0 (aa rfl) (zz0 (ab rfl) (ad ?_))))))
  replace hgk := hgk (by omega)
  refine fO 0 12 aQ ?_
  refine bI ?_
  refine aw (aa rfl) (aw (aa rfl) (aw (zz3 (off := 0) (ft := 26) rfl cm rfl cX) ?_))
  refine aw (dI rfl rfl cj aj (by omega)) ?_
  refine aw (fW (vs := bQ.enc ((jh a b k).get (k : Int))) rfl (by repeat constructor) aK aj (kj ⟨by omega, by omega⟩ (by simp)) rfl) ?_
  refine aw (aa rfl) (aw (zz3 (off := 0) (ft := 26) rfl cm rfl cX) ?_)
  refine aw (dI rfl rfl cj aj (by omega)) ?_
  refine aw (fW (vs := bQ.enc (b.get (k : Int))) rfl (by repeat constructor) aK aj (kj ⟨by omega, by omega⟩ (by simp)) rfl) ?_
  refine aw (aA rfl Tryz.call166 (fun w hw => yn _ _ w)) ?_
  refine aw (zz3 (off := 0) (ft := 26) rfl cm rfl cX) ?_
  refine aw (dI rfl rfl cj aj (by omega)) ?_
  refine bK ?_
  refine ga rfl rfl aj (by repeat constructor) ((lq (s := jh a b k) (k := (k : Int)) ⟨by omega, by omega⟩ (by simp) (g6 ((jh a b k).get (k : Int)) (b.get (k : Int)))).trans (congrArg cL.enc (show _ = jh a b (k + 1) by rw [hgk]; rfl))) (by rfl) (lr (k := (k : Int)) ⟨by omega, by omega⟩ (by simp)) (by first | exact Enc.one bQ _ | exact List.all_eq_true.1 rfl) rfl ?_
  refine aD (aX (ac (an (zz0 (cp rfl rfl) ?_))))
  refine zz0 (aa rfl) (ad ?_)
  refine cH (k + 1) (Front.c Front.nil) (bC 18 rfl) (o := (by show k + 1 ≤ _; omega))
 ·refine bJ (aG (aG (bv (ac (al ?_)))))
  obtain rfl : k = 8 := by omega
  refine an (zz0 (bH rfl bS aU) ?_)
  refine az cL rfl rfl aU ?_
  refine ad (aB ?_)
  refine eY Tryz.results110 rfl bS aU (fun w' hw => ?_)
  exact ⟨rfl, hw.b0⟩
end Go.Proofs.YtiajjbhcpeadfaaGreat
namespace Go.Proofs.YtiajjbhcpeadfaaGreat
open Go Go.HL Go.RowKit
theorem xO (i : Ins) (s : StV) (w : World) (hI : InsOK i) :
  Calls Tryz.prog 270 #[.agg (aO.enc i).toArray, .agg (cL.enc s).toArray] w (fun e w' => e = .returned (.agg (cL.enc (jj i s)).toArray) ∧ Ext w w') := by
 refine enter Tryz.func270 rfl Tryz.ntmps270 rfl ?_
 refine af ?_
 refine dO rfl rfl (fun b1 => ?_)
 refine dO rfl rfl (fun b2 => ?_)
 refine dB cS rfl (fun b3 => ?_)
 refine ad (al (af (zz0 (bH rfl aR ax) ?_)))
 refine zz0 (aA rfl kE (fun w hw => kB i w hI)) ?_
 refine zz0 (cQ rfl) (ad ?_)
 refine ar rfl ?_ ?_ <;> intro h4 <;> try simp only [bs] at h4
 ·refine af (zz0 (bH rfl bS aU) ?_)
  refine az cL rfl rfl aU ?_
  refine ad (aB (ay ?_))
  refine eY ic rfl bS aU (fun w' hw => ?_)
  refine ⟨?_, hw.b0⟩
  first | (rw [hi]; rfl) | (unfold jj; (repeat' split) <;> first | (exfalso; first | (simp_all; done) | grind) | rfl)
 ·refine bF (al ?_)
  have he : jn i = 0 := by simp_all
  obtain ⟨_, hA, hB, _⟩ := qw he
  refine an (zz0 (zz3 (off := 6) (ft := 3) rfl ak rfl aC) ?_)
  refine zz0 (aJ rfl aN) ?_
  refine zz0 (zz3 (off := 0) (ft := 26) rfl cm rfl cX) ?_
  refine zz0 (dI rfl rfl cj aj (by omega)) ?_
  refine zz0 (fW (vs := bQ.enc (s.get i.a)) rfl (by repeat constructor) aK aj (kj hA (by simp)) rfl) ?_
  refine dB cN rfl (fun b5 => ?_)
  refine az bQ rfl rfl aj ?_
  refine ad ?_
  refine di (ι := VSet) (fun a1 => jj i s = s.set i.a a1) (fun _ => Bg.of w) (fun a1 => [cellE b5 (bQ.enc a1) 25, cellE b3 (cL.enc gI) 37, cellE b2 (cL.enc s) 37, cellE b1 (aO.enc i) 36]) (fun a1 => []) ?_ (fun a1 hi => ?_)
  ·skip
   refine aF (af (zz0 (zz3 (off := 2) (ft := 3) rfl ak rfl aC) ?_))
   refine zz0 (aJ rfl aN) ?_
   refine zz0 (bB rfl rfl) (zz0 (ab rfl) (ad ?_))
   refine ar rfl ?_ ?_ <;> intro h6 <;> try simp only [bs] at h6
   ·refine an (zz0 (bH rfl bS aU) ?_)
    refine zz0 (bH rfl aR ax) ?_
    refine zz0 (aA rfl Tryz.call302 (fun w hw => uN s i w hB)) ?_
    refine az bQ rfl rfl aj ?_
    refine aD (aX (ac ?_))
    refine cw _ Front.nil (bC 7 rfl) (o := (by show _ = _; unfold jj; rw [if_pos he]; (repeat' split) <;> first | (exfalso; first | (simp_all; done) | grind) | rfl))
   ·refine af (zz0 (zz3 (off := 2) (ft := 3) rfl ak rfl aC) ?_)
    refine zz0 (aJ rfl aN) ?_
    refine zz0 (eJ rfl rfl) (zz0 (aa rfl) ?_)
    apply cE
    ·exact (rfl : _ = (4, 28, 32))
    ·exact rfl
    ·intro hT7; have hT7' := hT7
     try simp only [bs] at hT7'
     refine zz5 hT7 (zz3 (off := 2) (ft := 3) rfl ak rfl aC) ?_
     refine zz5 hT7 (aJ rfl aN) ?_
     refine zz5 hT7 (gr rfl rfl) (zz0 (aS rfl hT7 rfl) ?_)
     refine aD (ac ?_)
     exact aI (Sub.cons rfl (zz9 4 rfl))
    ·intro hF7
     refine zz8 hF7 (zz8 hF7 (zz8 hF7 (zz0 (aT rfl hF7 rfl) ?_)))
     refine aD (ac ?_)
     exact aI (Sub.cons rfl (zz9 4 rfl))
    refine zz0 (ab rfl) (ad ?_)
    refine ar rfl ?_ ?_ <;> intro h8 <;> try simp only [bs] at h8
    ·refine af (zz0 (bG (vs := [(0, _), (1, _), (2, _), (3, _), (4, _), (5, _), (6, _), (7, _), (8, _)]) rfl rfl (kM _ _ _ _ _ _ _ _ _)) ?_)
     refine dB Tryz.zeroValue321 rfl (fun b9 => ?_)
     refine zz6 rfl rfl Tryz.sizeOf321 ?_
     refine ad (fO 0 10 aQ ?_)
     refine bI ?_
     refine aw (zz3 (off := 2) (ft := 3) rfl ak rfl aC) ?_
     refine aw (aJ rfl aN) ?_
     refine aw (eE rfl rfl) ?_
     refine aw (dI rfl rfl Tryz.underlying321 aC (by omega)) ?_
     refine aw (qc (v := .int .i64 (zI i.op)) rfl (by repeat constructor) aN (Fp (by assumption) (by simp))) ?_
     refine aw (bH rfl aK aj) ?_
     refine aw (bH rfl bS aU) ?_
     refine aw (bH rfl aR ax) ?_
     refine aw (aA rfl Tryz.call302 (fun w hw => uN s i w hB)) ?_
     refine aw (aA rfl mo (fun w hw => pW (zI i.op) (s.get i.a) (Ds s i) w)) ?_
     refine bK ?_
     refine az bQ rfl rfl aj ?_
     refine aD (aX (ac ?_))
     refine cw _ Front.nil (bC 22 rfl) (o := (by show _ = _; unfold jj; rw [if_pos he]; (repeat' split) <;> first | (exfalso; first | (simp_all; done) | grind) | rfl))
    ·refine af (zz0 (zz3 (off := 2) (ft := 3) rfl ak rfl aC) ?_)
     refine zz0 (aJ rfl aN) ?_
     refine zz0 (bB rfl rfl) (zz0 (aa rfl) ?_)
     apply cE
     ·exact (rfl : _ = (4, 48, 52))
     ·exact rfl
     ·intro hT10; have hT10' := hT10
      try simp only [bs] at hT10'
      refine zz5 hT10 (zz3 (off := 4) (ft := 3) rfl ak rfl aC) ?_
      refine zz5 hT10 (aJ rfl aN) ?_
      refine zz5 hT10 (bU rfl rfl) (zz0 (aS rfl hT10 rfl) ?_)
      refine aD (ac ?_)
      exact aI (Sub.cons rfl (zz9 4 rfl))
     ·intro hF10
      refine zz8 hF10 (zz8 hF10 (zz8 hF10 (zz0 (aT rfl hF10 rfl) ?_)))
      refine aD (ac ?_)
      exact aI (Sub.cons rfl (zz9 4 rfl))
     refine zz0 (ab rfl) (ad ?_)
     refine ar rfl ?_ ?_ <;> intro h11 <;> try simp only [bs] at h11
     ·have hwd := IS he (by omega)
      refine an (zz0 (zz3 (off := 4) (ft := 3) rfl ak rfl aC) ?_)
      refine zz0 (aJ rfl aN) ?_
      refine zz0 (kx rfl rfl (by omega)) ?_
      refine zz0 (mw (m := 1) rfl rfl (by omega)) ?_
      refine zz0 (fH (n := 1) rfl rfl) ?_
      refine zz0 (aA rfl eH (fun w hw => dU 0 (nE 1 (8 * i.width).toNat - 1) 1 w)) ?_
      refine az bQ rfl rfl aj ?_
      refine aD (aX (ac ?_))
      refine cw _ Front.nil (bC 22 rfl) (o := (by show _ = _; unfold jj; rw [if_pos he]; (repeat' split) <;> first | (exfalso; first | (simp_all; done) | grind) | rfl))
     ·refine al (af (zz0 (zz3 (off := 2) (ft := 3) rfl ak rfl aC) ?_))
      refine zz0 (aJ rfl aN) ?_
      refine zz0 (bB rfl rfl) (zz0 (ab rfl) (ad ?_))
      apply d6
      ·exact rfl
      ·intro hO12
       try simp only [bs] at hO12
       refine af (zz0 (zz3 (off := 2) (ft := 3) rfl ak rfl aC) ?_)
       refine zz0 (aJ rfl aN) ?_
       refine zz0 (bB rfl rfl) (zz0 (ab rfl) (ad ?_))
       apply d6
       ·exact rfl
       ·intro hO13
        try simp only [bs] at hO13
        refine an (zz0 (zz3 (off := 2) (ft := 3) rfl ak rfl aC) ?_)
        refine zz0 (aJ rfl aN) ?_
        refine zz0 (bB rfl rfl) (zz0 (ab rfl) (ad ?_))
        exact eM rfl (bC 4 rfl)
       refine ac ?_
       exact eM rfl (bC 5 rfl)
      refine ac ?_
      refine ar rfl ?_ ?_ <;> intro h14 <;> try simp only [bs] at h14
      ·refine an (zz0 (aA rfl f9 (fun w hw => kh w)) ?_)
       refine az bQ rfl rfl aj ?_
       refine aD (aX (ac ?_))
       refine cw _ Front.nil (bC 22 rfl) (o := (by show _ = _; unfold jj; rw [if_pos he]; (repeat' split) <;> first | (exfalso; first | (simp_all; done) | grind) | rfl))
      ·refine af (zz0 (zz3 (off := 2) (ft := 3) rfl ak rfl aC) ?_)
       refine zz0 (aJ rfl aN) ?_
       refine zz0 (bB rfl rfl) (zz0 (ab rfl) (ad ?_))
       refine ar rfl ?_ ?_ <;> intro h15 <;> try simp only [bs] at h15
       ·refine fO 0 8 aQ ?_
        refine bI ?_
        refine aw (zz3 (off := 7) (ft := 3) rfl ak rfl aC) ?_
        refine aw (aJ rfl aN) ?_
        refine aw (zz3 (off := 0) (ft := 26) rfl cm rfl cX) ?_
        refine aw (dI rfl rfl cj aj (by omega)) ?_
        refine aw (fW (vs := bQ.enc (s.get i.b)) rfl (by repeat constructor) aK aj (kj hB (by simp)) rfl) ?_
        refine aw (zz3 (off := 1) (ft := 23) rfl ak rfl ae) ?_
        refine aw (aJ rfl am) ?_
        refine aw (aA rfl Tryz.call304 (fun w hw => DY (s.get i.b) i.imm w)) ?_
        refine bK ?_
        refine az bQ rfl rfl aj ?_
        refine aD (aX (ac ?_))
        refine cw _ Front.nil (bC 33 rfl) (o := (by show _ = _; unfold jj; rw [if_pos he]; (repeat' split) <;> first | (exfalso; first | (simp_all; done) | grind) | rfl))
       ·refine af (zz0 (zz3 (off := 2) (ft := 3) rfl ak rfl aC) ?_)
        refine zz0 (aJ rfl aN) ?_
        refine zz0 (bB rfl rfl) (zz0 (ab rfl) (ad ?_))
        refine ar rfl ?_ ?_ <;> intro h16 <;> try simp only [bs] at h16
        ·refine an (zz0 (aA rfl eH (fun w hw => dU 0 1 1 w)) ?_)
         refine az bQ rfl rfl aj ?_
         refine aD (aX (ac ?_))
         refine cw _ Front.nil (bC 30 rfl) (o := (by show _ = _; unfold jj; rw [if_pos he]; (repeat' split) <;> first | (exfalso; first | (simp_all; done) | grind) | rfl))
        ·refine af (zz0 (zz3 (off := 2) (ft := 3) rfl ak rfl aC) ?_)
         refine zz0 (aJ rfl aN) ?_
         refine zz0 (bB rfl rfl) (zz0 (ab rfl) (ad ?_))
         refine ar rfl ?_ ?_ <;> intro h17 <;> try simp only [bs] at h17
         ·refine al (fO 0 7 aQ ?_)
          refine bI ?_
          refine aw (zz3 (off := 0) (ft := 26) rfl cm rfl cX) ?_
          refine aw (dI rfl rfl cj aj (by omega)) ?_
          refine aw (fW (vs := bQ.enc (s.get (7 : Int))) rfl (by repeat constructor) aK aj (kj ⟨by omega, by omega⟩ (by simp)) rfl) ?_
          refine aw (aA rfl jb (fun w hw => jP 4 w)) ?_
          refine aw (aA rfl mo (fun w hw => pW 4 (s.get 7) (ia 4) w)) ?_
          refine aw (zz3 (off := 0) (ft := 26) rfl cm rfl cX) ?_
          refine aw (dI rfl rfl cj aj (by omega)) ?_
          refine bK ?_
          refine ga rfl rfl aj (by repeat constructor) (lq (k := 7) ⟨by omega, by omega⟩ (by simp) _) (by rfl) (lr (k := 7) ⟨by omega, by omega⟩ (by simp)) (by first | exact Enc.one bQ _ | exact List.all_eq_true.1 rfl) rfl ?_
          refine aH (zz0 (bH rfl bS aU) ?_)
          refine az cL rfl rfl aU ?_
          refine ad (aB (bA (ay ?_)))
          refine eY ic rfl bS aU (fun w' hw => ?_)
          refine ⟨?_, hw.b0⟩
          first | (rw [hi]; rfl) | (unfold jj; (repeat' split) <;> first | (exfalso; first | (simp_all; done) | grind) | rfl)
         ·refine al (af (zz0 (zz3 (off := 2) (ft := 3) rfl ak rfl aC) ?_))
          refine zz0 (aJ rfl aN) ?_
          refine zz0 (bB rfl rfl) (zz0 (ab rfl) (ad ?_))
          apply d6
          ·exact rfl
          ·intro hO18
           try simp only [bs] at hO18
           refine an (zz0 (zz3 (off := 2) (ft := 3) rfl ak rfl aC) ?_)
           refine zz0 (aJ rfl aN) ?_
           refine zz0 (bB rfl rfl) (zz0 (ab rfl) (ad ?_))
           exact eM rfl (bC 4 rfl)
          refine ac ?_
          refine ar rfl ?_ ?_ <;> intro h19 <;> try simp only [bs] at h19
          ·refine al (fO 0 7 aQ ?_)
           refine bI ?_
           refine aw (zz3 (off := 0) (ft := 26) rfl cm rfl cX) ?_
           refine aw (dI rfl rfl cj aj (by omega)) ?_
           refine aw (fW (vs := bQ.enc (s.get (7 : Int))) rfl (by repeat constructor) aK aj (kj ⟨by omega, by omega⟩ (by simp)) rfl) ?_
           refine aw (aA rfl jb (fun w hw => jP 4 w)) ?_
           refine aw (aA rfl mo (fun w hw => pW 3 (s.get 7) (ia 4) w)) ?_
           refine aw (zz3 (off := 0) (ft := 26) rfl cm rfl cX) ?_
           refine aw (dI rfl rfl cj aj (by omega)) ?_
           refine bK ?_
           refine ga rfl rfl aj (by repeat constructor) (lq (k := 7) ⟨by omega, by omega⟩ (by simp) _) (by rfl) (lr (k := 7) ⟨by omega, by omega⟩ (by simp)) (by first | exact Enc.one bQ _ | exact List.all_eq_true.1 rfl) rfl ?_
           refine ad (al (af (zz0 (zz3 (off := 2) (ft := 3) rfl ak rfl aC) ?_)))
           refine zz0 (aJ rfl aN) ?_
           refine zz0 (bB rfl rfl) (ad ?_)
           refine ar rfl ?_ ?_ <;> intro h20 <;> try simp only [bs] at h20
           ·refine fO 0 5 aQ ?_
            refine bI ?_
            refine aw (zz3 (off := 6) (ft := 3) rfl ak rfl aC) ?_
            refine aw (aJ rfl aN) ?_
            refine aw (aA rfl f9 (fun w hw => kh w)) ?_
            refine aw (zz3 (off := 0) (ft := 26) rfl cm rfl cX) ?_
            refine aw (dI rfl rfl cj aj (by omega)) ?_
            refine bK ?_
            refine ga rfl rfl aj (by repeat constructor) (lq hA (by simp) _) (by rfl) (lr hA (by simp)) (by first | exact Enc.one bQ _ | exact List.all_eq_true.1 rfl) rfl ?_
            refine aH (zz0 (bH rfl bS aU) ?_)
            refine az cL rfl rfl aU ?_
            refine ad (aB (bA (ay ?_)))
            refine eY ic rfl bS aU (fun w' hw => ?_)
            refine ⟨?_, hw.b0⟩
            first | (rw [hi]; rfl) | (unfold jj; (repeat' split) <;> first | (exfalso; first | (simp_all; done) | grind) | rfl)
           ·refine dl (zz0 (bH rfl bS aU) ?_)
            refine az cL rfl rfl aU ?_
            refine ad (aB (bA (ay ?_)))
            refine eY ic rfl bS aU (fun w' hw => ?_)
            refine ⟨?_, hw.b0⟩
            first | (rw [hi]; rfl) | (unfold jj; (repeat' split) <;> first | (exfalso; first | (simp_all; done) | grind) | rfl)
          ·refine al (af (zz0 (zz3 (off := 2) (ft := 3) rfl ak rfl aC) ?_))
           refine zz0 (aJ rfl aN) ?_
           refine zz0 (bB rfl rfl) (zz0 (ab rfl) (ad ?_))
           apply d6
           ·exact rfl
           ·intro hO21
            try simp only [bs] at hO21
            refine an (zz0 (zz3 (off := 2) (ft := 3) rfl ak rfl aC) ?_)
            refine zz0 (aJ rfl aN) ?_
            refine zz0 (bB rfl rfl) (zz0 (ab rfl) (ad ?_))
            exact eM rfl (bC 4 rfl)
           refine ac ?_
           refine ar rfl ?_ ?_ <;> intro h22 <;> try simp only [bs] at h22
           ·refine af (zz0 (aA rfl Tryz.call162 (fun w hw => po w)) ?_)
            refine az cL rfl rfl aU ?_
            refine ad (aB (bA (ay ?_)))
            refine eY ic rfl bS aU (fun w' hw => ?_)
            refine ⟨?_, hw.b0⟩
            first | (rw [hi]; rfl) | (unfold jj; (repeat' split) <;> first | (exfalso; first | (simp_all; done) | grind) | rfl)
           ·refine af (zz0 (bH rfl bS aU) ?_)
            refine az cL rfl rfl aU ?_
            refine ad (aB (bA (ay ?_)))
            refine eY ic rfl bS aU (fun w' hw => ?_)
            refine ⟨?_, hw.b0⟩
            first | (rw [hi]; rfl) | (unfold jj; (repeat' split) <;> first | (exfalso; first | (simp_all; done) | grind) | rfl)
  ·skip
   replace hi : jj i s = s.set i.a a1 := hi
   change Tr _ _ [cellE b5 (bQ.enc a1) 25, cellE b3 (cL.enc gI) 37, cellE b2 (cL.enc s) 37, cellE b1 (aO.enc i) 36] ([] ++ _) _
   refine af (zz0 (zz3 (off := 6) (ft := 3) rfl ak rfl aC) ?_)
   refine zz0 (aJ rfl aN) ?_
   refine zz0 (bH rfl aK aj) ?_
   refine zz0 (zz3 (off := 0) (ft := 26) rfl cm rfl cX) ?_
   refine zz0 (dI rfl rfl cj aj (by omega)) ?_
   refine ga rfl rfl aj (by repeat constructor) (lq hA (by simp) _) (by rfl) (lr hA (by simp)) (by first | exact Enc.one bQ _ | exact List.all_eq_true.1 rfl) rfl ?_
   refine aH (zz0 (bH rfl bS aU) ?_)
   refine az cL rfl rfl aU ?_
   refine ad (aB ?_)
   refine eY ic rfl bS aU (fun w' hw => ?_)
   refine ⟨?_, hw.b0⟩
   first | (rw [hi]; rfl) | (unfold jj; (repeat' split) <;> first | (exfalso; first | (simp_all; done) | grind) | rfl)
theorem Bf (cc : Int) (i : Ins) (s : StV) (tk : Bool) (w : World) (hI : InsOK i) :
  Calls Tryz.prog 269 #[.int .i64 cc, .agg (aO.enc i).toArray, .agg (cL.enc s).toArray, .bool tk] w (fun e w' => e = .returned (.agg (cL.enc (rD cc i s tk)).toArray) ∧ Ext w w') := by
 refine enter Tryz.func269 rfl Tryz.ntmps269 rfl ?_
 refine af ?_
 refine dO rfl rfl (fun b1 => ?_)
 refine dO rfl rfl (fun b2 => ?_)
 refine dB cS rfl (fun b3 => ?_)
 refine ad (al (af (zz0 (bH rfl aR ax) ?_)))
 refine zz0 (aA rfl Tryz.call225 (fun w hw => tM i w hI)) ?_
 refine zz0 (cQ rfl) (ad ?_)
 refine ar rfl ?_ ?_ <;> intro h4 <;> try simp only [bs] at h4
 ·refine af (zz0 (bH rfl bS aU) ?_)
  refine az cL rfl rfl aU ?_
  refine ad (aB (ay ?_))
  refine eY nc rfl bS aU (fun w' hw => ?_)
  refine ⟨?_, hw.b0⟩
  unfold rD
  rw [if_pos (by simp_all)]
  rfl
 ·refine bF (al ?_)
  have hcm : BK i = true := by simp_all
  obtain ⟨_, hA, hB, _⟩ := qw (HV hcm)
  refine dW ([cellE b3 (cL.enc gI) 37, cellE b2 (cL.enc s) 37, cellE b1 (aO.enc i) 36]) 10 rfl aQ ?_
  refine zz4 0 rfl (zz3 (off := 6) (ft := 3) rfl ak rfl aC) ?_
  refine zz4 1 rfl (aJ rfl aN) ?_
  refine zz4 2 rfl (zz3 (off := 0) (ft := 26) rfl cm rfl cX) ?_
  refine iW 3 rfl (by kernel_rfl) (bD dh) (dI rfl rfl cj aj (by omega)) ?_
  refine iW 4 rfl (by kernel_rfl) (bD dh) (fW (vs := bQ.enc (s.get i.a)) rfl (by repeat constructor) aK aj (kj hA (by simp)) rfl) ?_
  refine zz4 5 rfl (zz3 (off := 1) (ft := 23) rfl ak rfl ae) ?_
  refine zz4 6 rfl (aJ rfl am) ?_
  refine cY [7] (fun iq hq => ?_)
  obtain rfl := List.mem_singleton.1 hq
  refine bj rfl ?_
  refine dB cN rfl (fun b5 => ?_)
  refine bN ?_
  refine cY [8] (fun iq hq => ?_)
  obtain rfl := List.mem_singleton.1 hq
  refine bj rfl ?_
  refine az bQ rfl rfl aj ?_
  refine bN ?_
  refine zz4 9 rfl (ab rfl) ?_
  refine ij ?_
  refine ac ?_
  refine di (ι := Int) (fun c1 => c1 = (if tk = true then cc else Bo cc)) (fun _ => Bg.of w) (fun c1 => [cellE b5 (bQ.enc (s.get i.a)) 25, cellE b3 (cL.enc gI) 37, cellE b2 (cL.enc s) 37, cellE b1 (aO.enc i) 36]) (fun c1 => [(0, .int .i64 c1)]) ?_ (fun c1 hi => ?_)
  ·skip
   refine af (zz0 (aa rfl) (zz0 (cQ rfl) (ad ?_)))
   refine ar rfl ?_ ?_ <;> intro h6 <;> try simp only [bs] at h6
   ·refine an (zz0 (aa rfl) (zz0 (aA rfl Tryz.call298 (fun w hw => ye cc w)) ?_))
    refine zz0 (ab rfl) (ad ?_)
    refine cw _ (Front.c Front.nil) (bC 5 rfl) (o := (by show _ = _; rw [if_neg (by simp_all)]))
   ·refine bF ?_
    refine cw _ (Front.c Front.nil) (bC 2 rfl) (o := (by show _ = _; rw [if_pos (by simp_all)]))
  ·skip
   replace hi : c1 = (if tk = true then cc else Bo cc) := hi
   change Tr _ _ [cellE b5 (bQ.enc (s.get i.a)) 25, cellE b3 (cL.enc gI) 37, cellE b2 (cL.enc s) 37, cellE b1 (aO.enc i) 36] ([(0, .int .i64 c1)] ++ _) _
   have hrf : rD cc i s tk = oq c1 i s := by unfold rD; rw [if_neg (by rw [hcm]; simp), hi]
   refine di (ι := Int) (fun c2 => oq c1 i s = s.set i.a (fQ c2 (s.get i.a) i.imm)) (fun _ => Bg.of w) (fun c2 => [cellE b5 (bQ.enc (s.get i.a)) 25, cellE b3 (cL.enc gI) 37, cellE b2 (cL.enc s) 37, cellE b1 (aO.enc i) 36]) (fun c2 => [(0, .int .i64 c2)]) ?_ (fun c2 hi => ?_)
   ·skip
    refine af (zz0 (aa rfl) (zz0 (eJ rfl rfl) (zz0 (aa rfl) ?_)))
    apply cE
    ·exact (rfl : _ = (3, 29, 32))
    ·exact rfl
    ·intro hT7; have hT7' := hT7
     try simp only [bs] at hT7'
     refine zz5 hT7 (aa rfl) (zz5 hT7 (gr rfl rfl) (zz0 (aS rfl hT7 rfl) ?_))
     refine aD (ac ?_)
     exact aI (Sub.cons rfl (zz9 3 rfl))
    ·intro hF7
     refine zz8 hF7 (zz8 hF7 (zz0 (aT rfl hF7 rfl) ?_))
     refine aD (ac ?_)
     exact aI (Sub.cons rfl (zz9 3 rfl))
    refine ad ?_
    refine ar rfl ?_ ?_ <;> intro h8 <;> try simp only [bs] at h8
    ·refine al (af (zz0 (bH rfl aK aj) ?_))
     refine zz0 (aA rfl Tryz.call299 (fun w hw => tN _ w)) ?_
     refine zz0 (cQ rfl) (zz0 (aa rfl) ?_)
     apply dH
     ·exact (rfl : _ = (4, 36, 40))
     ·exact rfl
     ·intro hF9; have hF9' := hF9
      try simp only [bs] at hF9'
      refine zz5 hF9 (zz3 (off := 3) (ft := 23) rfl au rfl ae) ?_
      refine zz5 hF9 (aJ rfl am) ?_
      refine zz5 hF9 (nX (n := 2147483648) rfl rfl) ?_
      refine zz0 (aT rfl hF9 rfl) ?_
      refine aD (ac ?_)
      exact aI (Sub.cons rfl (zz9 4 rfl))
     ·intro hT9
      refine zz8 hT9 (zz8 hT9 (zz8 hT9 (zz0 (aS rfl hT9 rfl) ?_)))
      refine aD (ac ?_)
      exact aI (Sub.cons rfl (zz9 4 rfl))
     refine zz0 (aa rfl) ?_
     apply dH
     ·exact (rfl : _ = (3, 41, 44))
     ·exact rfl
     ·intro hF10; have hF10' := hF10
      try simp only [bs] at hF10'
      refine zz5 hF10 (aa rfl) (zz5 hF10 (nX (n := 2147483648) rfl rfl) ?_)
      refine zz0 (aT rfl hF10 rfl) ?_
      refine aD (ac ?_)
      exact aI (Sub.cons rfl (zz9 3 rfl))
     ·intro hT10
      refine zz8 hT10 (zz8 hT10 (zz0 (aS rfl hT10 rfl) ?_))
      refine aD (ac ?_)
      exact aI (Sub.cons rfl (zz9 3 rfl))
     refine ad ?_
     refine ar rfl ?_ ?_ <;> intro h11 <;> try simp only [bs] at h11
     ·refine af (zz0 (bH rfl bS aU) ?_)
      refine az cL rfl rfl aU ?_
      refine ad (aB (ay (ay ?_)))
      refine eY nc rfl bS aU (fun w' hw => ?_)
      refine ⟨?_, hw.b0⟩
      rw [hrf]
      unfold oq
      (repeat' split) <;> first | (exfalso; first | (simp_all; done) | grind) | rfl
     ·refine dl (zz0 (bG (vs := [(0, _), (1, _), (2, _), (3, _)]) rfl rfl (qi _ _ _ _)) ?_)
      refine dB Tryz.zeroValue319 rfl (fun b12 => ?_)
      refine zz6 rfl rfl Tryz.sizeOf319 ?_
      refine ad (an (zz0 (aa rfl) (zz0 (eE rfl rfl) ?_)))
      refine zz0 (dI rfl rfl Tryz.underlying319 aC (by omega)) ?_
      refine zz0 (qc (v := .int .i64 (c1 + 4)) rfl (by repeat constructor) aN (Hb (by assumption) (by simp))) ?_
      refine zz0 (ab rfl) (ad ?_)
      refine cw _ (Front.c Front.nil) (bC 18 rfl) (o := (by show _ = _; unfold oq; (repeat' split) <;> first | (exfalso; first | (simp_all; done) | grind) | rfl))
    ·refine bF ?_
     refine cw _ (Front.c Front.nil) (bC 4 rfl) (o := (by show _ = _; unfold oq; (repeat' split) <;> first | (exfalso; first | (simp_all; done) | grind) | rfl))
   ·skip
    replace hi : oq c1 i s = s.set i.a (fQ c2 (s.get i.a) i.imm) := hi
    change Tr _ _ [cellE b5 (bQ.enc (s.get i.a)) 25, cellE b3 (cL.enc gI) 37, cellE b2 (cL.enc s) 37, cellE b1 (aO.enc i) 36] ([(0, .int .i64 c2)] ++ _) _
    have hi2 := hi
    refine di (ι := VSet) (fun a1 => fQ c2 (s.get i.a) i.imm = a1) (fun _ => Bg.of w) (fun a1 => [cellE b5 (bQ.enc a1) 25, cellE b3 (cL.enc gI) 37, cellE b2 (cL.enc s) 37, cellE b1 (aO.enc i) 36]) (fun a1 => []) ?_ (fun a1 hi => ?_)
    ·skip
     refine af (zz0 (aa rfl) (ad (aF (af (zz0 (bB rfl rfl) (zz0 (ab rfl) (ad ?_)))))))
     refine ar rfl ?_ ?_ <;> intro h13 <;> try simp only [bs] at h13
     ·refine fO 0 4 aQ ?_
      refine bI ?_
      refine aw (bH rfl aK aj) ?_
      refine aw (aa rfl) (aw (aA rfl jb (fun w hw => jP i.imm w)) ?_)
      refine aw (aA rfl mq (fun w hw => rJ (s.get i.a) _ w)) ?_
      refine bK ?_
      refine az bQ rfl rfl aj ?_
      refine aD (aX (ac ?_))
      refine cw _ Front.nil (bC 7 rfl) (o := (by show _ = _; unfold fQ; (repeat' split) <;> first | (exfalso; first | (simp_all; done) | grind) | rfl))
     ·refine af (zz0 (bB rfl rfl) (zz0 (ab rfl) (ad ?_)))
      refine ar rfl ?_ ?_ <;> intro h14 <;> try simp only [bs] at h14
      ·refine an (zz0 (bH rfl aK aj) ?_)
       refine zz0 (aa rfl) (zz0 (aA rfl Tryz.call301 (fun w hw => y9 (s.get i.a) i.imm w)) ?_)
       refine az bQ rfl rfl aj ?_
       refine aD (aX (ac ?_))
       refine cw _ Front.nil (bC 8 rfl) (o := (by show _ = _; unfold fQ; (repeat' split) <;> first | (exfalso; first | (simp_all; done) | grind) | rfl))
      ·refine af (zz0 (bB rfl rfl) (zz0 (ab rfl) (ad ?_)))
       refine ar rfl ?_ ?_ <;> intro h15 <;> try simp only [bs] at h15
       ·refine al (fO 0 5 aQ ?_)
        refine bI ?_
        refine aw (bH rfl aK aj) ?_
        refine aw (aa rfl) (aw (fH (n := 1) rfl rfl) ?_)
        refine aw (aA rfl eH (fun w hw => dU 0 (i.imm - 1) 1 w)) ?_
        refine aw (aA rfl mq (fun w hw => rJ (s.get i.a) _ w)) ?_
        refine bK ?_
        refine az bQ rfl rfl aj ?_
        refine aH (zz0 (aa rfl) (zz0 (eN (n := 0) rfl rfl) ?_))
        refine ad ?_
        refine ar rfl ?_ ?_ <;> intro h16 <;> try simp only [bs] at h16
        ·refine an (zz0 (aA rfl jD (fun w hw => ko w)) ?_)
         refine az bQ rfl rfl aj ?_
         refine aD (aX (ac ?_))
         refine cw _ Front.nil (bC 15 rfl) (o := (by show _ = _; unfold fQ; (repeat' split) <;> first | (exfalso; first | (simp_all; done) | grind) | rfl))
        ·refine cg (aX (ac ?_))
         refine cw _ Front.nil (bC 14 rfl) (o := (by show _ = _; unfold fQ; (repeat' split) <;> first | (exfalso; first | (simp_all; done) | grind) | rfl))
       ·refine af (zz0 (bB rfl rfl) (zz0 (ab rfl) (ad ?_)))
        refine ar rfl ?_ ?_ <;> intro h17 <;> try simp only [bs] at h17
        ·refine fO 0 4 aQ ?_
         refine bI ?_
         refine aw (bH rfl aK aj) ?_
         refine aw (aa rfl) (aw (aA rfl eH (fun w hw => dU 0 i.imm 1 w)) ?_)
         refine aw (aA rfl mq (fun w hw => rJ (s.get i.a) _ w)) ?_
         refine bK ?_
         refine az bQ rfl rfl aj ?_
         refine aD (aX (ac ?_))
         refine cw _ Front.nil (bC 13 rfl) (o := (by show _ = _; unfold fQ; (repeat' split) <;> first | (exfalso; first | (simp_all; done) | grind) | rfl))
        ·refine af (zz0 (bB rfl rfl) (zz0 (ab rfl) (ad ?_)))
         refine ar rfl ?_ ?_ <;> intro h18 <;> try simp only [bs] at h18
         ·refine fO 0 4 aQ ?_
          refine bI ?_
          refine aw (bH rfl aK aj) ?_
          refine aw (aa rfl) (aw (aA rfl eH (fun w hw => dU i.imm 4294967295 1 w)) ?_)
          refine aw (aA rfl mq (fun w hw => rJ (s.get i.a) _ w)) ?_
          refine bK ?_
          refine az bQ rfl rfl aj ?_
          refine aD (aX (ac ?_))
          refine cw _ Front.nil (bC 15 rfl) (o := (by show _ = _; unfold fQ; (repeat' split) <;> first | (exfalso; first | (simp_all; done) | grind) | rfl))
         ·refine af (zz0 (bB rfl rfl) (zz0 (ab rfl) (ad ?_)))
          refine ar rfl ?_ ?_ <;> intro h19 <;> try simp only [bs] at h19
          ·refine al (fO 0 5 aQ ?_)
           refine bI ?_
           refine aw (bH rfl aK aj) ?_
           refine aw (aa rfl) (aw (gV (n := 1) rfl rfl) ?_)
           refine aw (aA rfl eH (fun w hw => dU (i.imm + 1) 4294967295 1 w)) ?_
           refine aw (aA rfl mq (fun w hw => rJ (s.get i.a) _ w)) ?_
           refine bK ?_
           refine az bQ rfl rfl aj ?_
           refine aH (zz0 (aa rfl) (zz0 (eN (n := 4294967295) rfl rfl) ?_))
           refine ad ?_
           refine ar rfl ?_ ?_ <;> intro h20 <;> try simp only [bs] at h20
           ·refine an (zz0 (aA rfl jD (fun w hw => ko w)) ?_)
            refine az bQ rfl rfl aj ?_
            refine aD (aX (ac ?_))
            refine cw _ Front.nil (bC 21 rfl) (o := (by show _ = _; unfold fQ; (repeat' split) <;> first | (exfalso; first | (simp_all; done) | grind) | rfl))
           ·refine cg (aX (ac ?_))
            refine cw _ Front.nil (bC 20 rfl) (o := (by show _ = _; unfold fQ; (repeat' split) <;> first | (exfalso; first | (simp_all; done) | grind) | rfl))
          ·refine cg (aX (ac ?_))
           refine cw _ Front.nil (bC 13 rfl) (o := (by show _ = _; unfold fQ; (repeat' split) <;> first | (exfalso; first | (simp_all; done) | grind) | rfl))
    ·skip
     replace hi : fQ c2 (s.get i.a) i.imm = a1 := hi
     change Tr _ _ [cellE b5 (bQ.enc a1) 25, cellE b3 (cL.enc gI) 37, cellE b2 (cL.enc s) 37, cellE b1 (aO.enc i) 36] ([] ++ _) _
     have hi3 := hi
     refine af (zz0 (zz3 (off := 6) (ft := 3) rfl ak rfl aC) ?_)
     refine zz0 (aJ rfl aN) ?_
     refine zz0 (bH rfl aK aj) ?_
     refine zz0 (zz3 (off := 0) (ft := 26) rfl cm rfl cX) ?_
     refine zz0 (dI rfl rfl cj aj (by omega)) ?_
     refine ga rfl rfl aj (by repeat constructor) (lq hA (by simp) _) (by rfl) (lr hA (by simp)) (by first | exact Enc.one bQ _ | exact List.all_eq_true.1 rfl) rfl ?_
     refine aH (zz0 (bH rfl bS aU) ?_)
     refine az cL rfl rfl aU ?_
     refine ad (aB ?_)
     refine eY nc rfl bS aU (fun w' hw => ?_)
     refine ⟨?_, hw.b0⟩
     rw [hrf, hi2, hi3]
     rfl
end Go.Proofs.YtiajjbhcpeadfaaGreat
namespace Go.HL
open Go Go.Sort
def ltW (x y : UInt32) : Bool := decide (x < y)
theorem xQ : SWO ltW where
 irrefl x := by simp [ltW]
 trans x y z h1 h2 := by simp only [ltW, decide_eq_true_eq, UInt32.lt_iff_toNat_lt] at *; omega
 ntrans x y z h1 h2 := by simp only [ltW, decide_eq_false_iff_not, UInt32.lt_iff_toNat_lt] at *; omega
theorem dY {d : Array UInt32} {i : Nat} : d.toList.getD i default = d[i]! := by
 rw [List.getD_eq_getElem?_getD, Array.getElem?_toList, Array.getElem!_eq_getD, Array.getD_eq_getD_getElem?]
theorem iH {d : Array UInt32} {i j : Nat} : (d.toList.set i d[j]!).set j d[i]! = (swp d i j).toList := by
 simp [swp, Array.toList_setIfInBounds]
theorem oh {d : Array UInt32} {i j : Nat} : (swp d i j).size = d.size := by simp [swp]
theorem zZ {a b i : Nat} {d : Array UInt32} (h : b ≤ i) : insOuter ltW a b i d = d := by rw [insOuter, if_neg (by omega)]
theorem zY {a b i : Nat} {d : Array UInt32} (h : i < b) : insOuter ltW a b i d = insOuter ltW a b (i + 1) (insInner ltW a i d) := by rw [insOuter, if_pos h]
theorem t8 {a j : Nat} {d : Array UInt32} (h : a < j) (h2 : ltW d[j]! d[j - 1]! = true) : insInner ltW a j d = insInner ltW a (j - 1) (swp d j (j - 1)) := by
 cases j with
 | zero => omega
 | succ j => rw [insInner, if_pos (by simp only [Bool.and_eq_true, decide_eq_true_eq]; exact ⟨h, h2⟩)]; rfl
theorem rE {a j : Nat} {d : Array UInt32} (h : j ≤ a ∨ ltW d[j]! d[j - 1]! = false) : insInner ltW a j d = d := by
 cases j with
 | zero => rfl
 | succ j =>
  rw [insInner, if_neg]
  simp only [Bool.and_eq_true, decide_eq_true_eq]
  rintro ⟨h1, h2⟩
  rcases h with h | h
  ·omega
  ·rw [show j + 1 - 1 = j from rfl, h2] at h; cases h
theorem zr {hi f r : Nat} {d : Array UInt32} (h : hi ≤ 2 * r + 1) : siftDown ltW hi f r d = d := by rw [siftDown, dif_pos h]
theorem ET {hi f r : Nat} {d : Array UInt32} (h : 2 * r + 2 < hi) (hl : ltW d[f + (2 * r + 1)]! d[f + (2 * r + 1) + 1]! = true) :
  siftDown ltW hi f r d = if ltW d[f + r]! d[f + (2 * r + 2)]! = true then siftDown ltW hi f (2 * r + 2) (swp d (f + r) (f + (2 * r + 2))) else d := by
 rw [siftDown, dif_neg (by omega), if_pos (by simp only [Bool.and_eq_true, decide_eq_true_eq]; exact ⟨by omega, hl⟩), dif_pos h]
 cases ltW d[f + r]! d[f + (2 * r + 2)]! <;> rfl
theorem EU {hi f r : Nat} {d : Array UInt32} (h : 2 * r + 1 < hi) (hl : hi ≤ 2 * r + 2 ∨ ltW d[f + (2 * r + 1)]! d[f + (2 * r + 1) + 1]! = false) :
  siftDown ltW hi f r d = if ltW d[f + r]! d[f + (2 * r + 1)]! = true then siftDown ltW hi f (2 * r + 1) (swp d (f + r) (f + (2 * r + 1))) else d := by
 rw [siftDown, dif_neg (by omega), if_neg]
 ·cases ltW d[f + r]! d[f + (2 * r + 1)]! <;> rfl
 ·simp only [Bool.and_eq_true, decide_eq_true_eq]
  rintro ⟨q1, q2⟩
  rcases hl with hl | hl
  ·omega
  ·rw [q2] at hl; cases hl
theorem sift_size {hi f : Nat} : ∀ (n r : Nat) (d : Array UInt32), hi - r ≤ n → (siftDown ltW hi f r d).size = d.size
 | n, r, d, h => by
  by_cases c1 : hi ≤ 2 * r + 1
  ·rw [zr c1]
  ·cases n with
   | zero => omega
   | succ n =>
    by_cases c2 : 2 * r + 2 < hi ∧ ltW d[f + (2 * r + 1)]! d[f + (2 * r + 1) + 1]! = true
    ·rw [ET c2.1 c2.2]
     split
     ·rw [sift_size n (2 * r + 2) _ (by omega), oh]
     ·rfl
    ·rw [EU (by omega) (by
      by_cases q : 2 * r + 2 < hi
      ·refine .inr ?_
       cases e : ltW d[f + (2 * r + 1)]! d[f + (2 * r + 1) + 1]!
       ·rfl
       ·exact absurd ⟨q, e⟩ c2
      ·exact .inl (by omega))]
     split
     ·rw [sift_size n (2 * r + 1) _ (by omega), oh]
     ·rfl
theorem Iq {hi f r : Nat} {d : Array UInt32} : (siftDown ltW hi f r d).size = d.size := sift_size _ _ _ (Nat.le_refl _)
theorem E3 {i j : Nat} {d : Array UInt32} (h : ¬ i < j) : reverseLoop i j d = d := by rw [reverseLoop, if_neg h]
theorem IF {i j : Nat} {d : Array UInt32} (h : i < j) : reverseLoop i j d = reverseLoop (i + 1) (j - 1) (swp d i j) := by rw [reverseLoop, if_pos h]
theorem EI {p : UInt32 → Bool} {d : Array UInt32} {i j : Nat} (h : i ≤ j) (hp : p d[i]! = true) : scanUp p d j i = scanUp p d j (i + 1) := by
 rw [scanUp, if_pos (by simp only [Bool.and_eq_true, decide_eq_true_eq]; exact ⟨h, hp⟩)]
theorem xM {p : UInt32 → Bool} {d : Array UInt32} {i j : Nat} (h : j < i ∨ p d[i]! = false) : scanUp p d j i = i := by
 rw [scanUp, if_neg]
 simp only [Bool.and_eq_true, decide_eq_true_eq]
 rintro ⟨q1, q2⟩
 rcases h with h | h
 ·omega
 ·rw [q2] at h; cases h
theorem yx {p : UInt32 → Bool} {d : Array UInt32} {i j : Nat} (h : i ≤ j) (h0 : 0 < j) (hp : p d[j]! = true) : scanDown p d i j = scanDown p d i (j - 1) := by
 obtain ⟨k, rfl⟩ : ∃ k, j = k + 1 := ⟨j - 1, by omega⟩
 rw [scanDown, if_pos (by simp only [Bool.and_eq_true, decide_eq_true_eq]; exact ⟨h, hp⟩)]; rfl
theorem sY {p : UInt32 → Bool} {d : Array UInt32} {i j : Nat} (h : j < i ∨ p d[j]! = false) : scanDown p d i j = j := by
 cases j with
 | zero => rfl
 | succ k =>
  rw [scanDown, if_neg]
  simp only [Bool.and_eq_true, decide_eq_true_eq]
  rintro ⟨q1, q2⟩
  rcases h with h | h
  ·omega
  ·rw [q2] at h; cases h
theorem Fl {a i j I J : Nat} {d : Array UInt32} (hI : scanUp (fun x => ltW x d[a]!) d j i = I) (hJ : scanDown (fun x => !ltW x d[a]!) d I j = J) (h : J < I) : partLoop ltW a i j d = (J, d) := by
 rw [partLoop]; simp only [hI, hJ]; rw [if_pos h]
theorem zH {a i j I J : Nat} {d : Array UInt32} (hI : scanUp (fun x => ltW x d[a]!) d j i = I) (hJ : scanDown (fun x => !ltW x d[a]!) d I j = J) (h : I < J) (h1 : i ≤ I) (h2 : J ≤ j) :
  partLoop ltW a i j d = partLoop ltW a (I + 1) (J - 1) (swp d I J) := by
 rw [partLoop]; simp only [hI, hJ]; rw [if_neg (by omega), dif_pos (by omega)]
theorem Bj {a i j I J : Nat} {d : Array UInt32} (hI : scanUp (fun x => !ltW d[a]! x) d j i = I) (hJ : scanDown (fun x => ltW d[a]! x) d I j = J) (h : J < I) : partEqLoop ltW a i j d = (I, d) := by
 rw [partEqLoop]; simp only [hI, hJ]; rw [if_pos h]
theorem DO {a i j I J : Nat} {d : Array UInt32} (hI : scanUp (fun x => !ltW d[a]! x) d j i = I) (hJ : scanDown (fun x => ltW d[a]! x) d I j = J) (h : I < J) (h1 : i ≤ I) (h2 : J ≤ j) :
  partEqLoop ltW a i j d = partEqLoop ltW a (I + 1) (J - 1) (swp d I J) := by
 rw [partEqLoop]; simp only [hI, hJ]; rw [if_neg (by omega), dif_pos (by omega)]
theorem Jr {b i : Nat} {d : Array UInt32} (h : i < b) (hl : ltW d[i]! d[i - 1]! = false) : scanSorted ltW d b i = scanSorted ltW d b (i + 1) := by
 rw [scanSorted, if_pos (by simp only [Bool.and_eq_true, decide_eq_true_eq, Bool.not_eq_true']; exact ⟨h, hl⟩)]
theorem Hh {b i : Nat} {d : Array UInt32} (h : b ≤ i ∨ ltW d[i]! d[i - 1]! = true) : scanSorted ltW d b i = i := by
 rw [scanSorted, if_neg]
 simp only [Bool.and_eq_true, decide_eq_true_eq, Bool.not_eq_true']
 rintro ⟨q1, q2⟩
 rcases h with h | h
 ·omega
 ·rw [q2] at h; cases h
theorem Js {j : Nat} {d : Array UInt32} (h : 0 < j) (hl : ltW d[j]! d[j - 1]! = true) : shiftDown ltW j d = shiftDown ltW (j - 1) (swp d j (j - 1)) := by
 obtain ⟨k, rfl⟩ : ∃ k, j = k + 1 := ⟨j - 1, by omega⟩
 rw [shiftDown, if_neg (by rw [show k + 1 - 1 = k from rfl] at hl; simp [hl])]; rfl
theorem Cs {j : Nat} {d : Array UInt32} (h : j = 0 ∨ ltW d[j]! d[j - 1]! = false) : shiftDown ltW j d = d := by
 cases j with
 | zero => rfl
 | succ k =>
  rcases h with h | h
  ·omega
  ·rw [shiftDown, if_pos (by rw [show k + 1 - 1 = k from rfl] at h; simp [h])]
theorem Jq {b j : Nat} {d : Array UInt32} (h : j < b) (hl : ltW d[j]! d[j - 1]! = true) : shiftUp ltW b j d = shiftUp ltW b (j + 1) (swp d j (j - 1)) := by
 rw [shiftUp, if_pos h, if_neg (by simp [hl])]
theorem Cn {b j : Nat} {d : Array UInt32} (h : b ≤ j ∨ ltW d[j]! d[j - 1]! = false) : shiftUp ltW b j d = d := by
 rw [shiftUp]
 rcases h with h | h
 ·rw [if_neg (by omega)]
 ·split
  ·rw [if_pos (by simp [h])]
  ·rfl
theorem Bn {a b k i x : Nat} {d : Array UInt32} (hX : scanSorted ltW d b i = x) (h : x = b) : partialIns ltW a b (k + 1) i d = (d, true) := by
 rw [partialIns]; simp only [hX]; rw [if_pos h]
theorem IJ {a b k i x : Nat} {d : Array UInt32} (hX : scanSorted ltW d b i = x) (h : x ≠ b) (h2 : b - a < 50) : partialIns ltW a b (k + 1) i d = (d, false) := by
 rw [partialIns]; simp only [hX]; rw [if_neg h, if_pos h2]
theorem sG {a b k i x : Nat} {d d3 d4 : Array UInt32} (hX : scanSorted ltW d b i = x) (h : x ≠ b) (h2 : ¬ b - a < 50) (h3 : d3 = if x - a ≥ 2 then shiftDown ltW (x - 1) (swp d x (x - 1)) else swp d x (x - 1)) (h4 : d4 = if b - x ≥ 2 then shiftUp ltW b (x + 1) d3 else d3) :
  partialIns ltW a b (k + 1) i d = partialIns ltW a b k x d4 := by
 rw [partialIns]; simp only [hX]; rw [if_neg h, if_neg h2, ← h3, ← h4]
end Go.HL
namespace Go.Proofs.YtiajjbhcpeadfaaGreat
open Go Go.HL Go.RowKit Go.Sort
theorem rH (a : UInt32) (w : World) :
  Calls Tryz.prog 151 #[.int .u32 a.toNat] w (fun e w' => e = .returned (.bool false) ∧ Ext w w') := by
 refine enter Tryz.func151 rfl Tryz.ntmps151 rfl ?_
 refine af (zz0 (ab rfl) (aH (zz0 (aa rfl) (zz0 (aa rfl) (zz0 (jW rfl rfl) ?_)))))
 refine zz0 (ab rfl) (ad (aB ?_))
 refine aV Tryz.results151 rfl (fun w' hw => ?_)
 exact ⟨by simp, hw.b0⟩
theorem g5 (a b : UInt32) (w : World) :
  Calls Tryz.prog 260 #[.int .u32 a.toNat, .int .u32 b.toNat] w (fun e w' => e = .returned (.bool (ltW a b)) ∧ Ext w w') := by
 refine enter Tryz.func260 rfl Tryz.ntmps260 rfl ?_
 refine af (zz0 (ab rfl) (aH (zz0 (aa rfl) (zz0 (aA rfl oO (fun w hw => rH a w)) ?_))))
 refine zz0 (aa rfl) ?_
 apply cE
 ·exact (rfl : _ = (4, 7, 11))
 ·exact rfl
 ·intro hT1; have hT1' := hT1
  try simp only [bs] at hT1'
  refine zz5 hT1 (aa rfl) (zz5 hT1 (aA rfl oO (fun w hw => rH b w)) ?_)
  refine zz5 hT1 (cQ rfl) (zz0 (aS rfl hT1 rfl) ?_)
  refine aD (ac ?_)
  exact aI (Sub.cons rfl (zz9 4 rfl))
 ·intro hF1
  refine zz8 hF1 (zz8 hF1 (zz8 hF1 (zz0 (aT rfl hF1 rfl) ?_)))
  refine aD (ac ?_)
  exact aI (Sub.cons rfl (zz9 4 rfl))
 refine zz0 (aa rfl) ?_
 apply dH
 ·exact (rfl : _ = (4, 12, 16))
 ·exact rfl
 ·intro hF2; have hF2' := hF2
  try simp only [bs] at hF2'
  refine zz5 hF2 (aa rfl) (zz5 hF2 (aa rfl) (zz5 hF2 (iZ rfl rfl) ?_))
  refine zz0 (aT rfl hF2 rfl) ?_
  refine aD (ac ?_)
  exact aI (Sub.cons rfl (zz9 4 rfl))
 ·intro hT2
  refine zz8 hT2 (zz8 hT2 (zz8 hT2 (zz0 (aS rfl hT2 rfl) ?_)))
  refine aD (ac ?_)
  exact aI (Sub.cons rfl (zz9 4 rfl))
 refine zz0 (ab rfl) (ad (aB ?_))
 refine aV Tryz.results260 rfl (fun w' hw => ?_)
 exact ⟨by simp [ltW], hw.b0⟩
theorem v8 (d : Array UInt32) (V : Value) (a : Nat) (b : Nat) (ai : Int) (bi : Int) (ea : ai = ((a : Nat) : Int)) (eb : bi = ((b : Nat) : Int)) (w : World) (hr : (rowE V 23 ao d.toList).holds w) (hd : d.size ≤ 1000000) (hab : a ≤ b) (hb : b ≤ d.size) :
  Calls Tryz.prog 254 #[V, .int .i64 ai, .int .i64 bi] w (fun e w' => e = .returned (.tuple #[]) ∧ Mut w w' V ∧ (rowE V 23 ao (insertionSort ltW d a b).toList).holds w') := by
 subst ea eb
 refine fL (l := d.toList) (E := ao) (T := 23) hr Tryz.func254 rfl Tryz.ntmps254 rfl ?_
 refine af (zz0 (aa rfl) (zz0 (cp rfl rfl) ?_))
 refine zz0 (ab rfl) (ad (aF ?_))
 refine bL (ι := Nat × Array UInt32) (fun ⟨i, cur⟩ => a + 1 ≤ i ∧ cur.size = d.size ∧ insOuter ltW a b i cur = insertionSort ltW d a b) (fun _ => _) (fun ⟨i, cur⟩ => [rowE V 23 ao cur.toList]) (fun ⟨i, cur⟩ => [(6, .int .i64 (i : Nat))]) (fun ⟨i, cur⟩ => b - i) (a + 1, d) ⟨Nat.le_refl _, rfl, rfl⟩ (Front.c Front.nil) (by repeat' constructor) rfl (fun i hi m hm => ?_)
 obtain ⟨i, cur⟩ := i
 replace hi : a + 1 ≤ i ∧ cur.size = d.size ∧ insOuter ltW a b i cur = insertionSort ltW d a b := hi
 replace hm : m = b - i := hm
 change Tr _ _ [rowE V 23 ao cur.toList] ([(6, .int .i64 (i : Nat))] ++ _) _
 obtain ⟨hi1, hi2, hi3⟩ := hi
 have hcl : cur.toList.length = d.size := by rw [Array.length_toList]; exact hi2
 refine al (af (zz0 (aa rfl) (zz0 (aa rfl) (zz0 (bU rfl rfl) (ad ?_)))))
 refine ar rfl ?_ ?_ <;> intro h1 <;> try simp only [bs] at h1
 ·refine bF (al (aF (af (zz0 (aa rfl) (zz0 (ab rfl) (ad (aF ?_)))))))
  refine bL (ι := Nat × Array UInt32) (fun ⟨j, c2⟩ => j ≤ i ∧ c2.size = d.size ∧ insInner ltW a j c2 = insInner ltW a i cur) (fun _ => _) (fun ⟨j, c2⟩ => [rowE V 23 ao c2.toList]) (fun ⟨j, c2⟩ => [(7, .int .i64 (j : Nat))]) (fun ⟨j, c2⟩ => j) (i, cur) ⟨Nat.le_refl _, hi2, rfl⟩ (Front.c Front.nil) (by repeat' constructor) rfl (fun i hi m hm => ?_)
  obtain ⟨j, c2⟩ := i
  replace hi : j ≤ i ∧ c2.size = d.size ∧ insInner ltW a j c2 = insInner ltW a i cur := hi
  replace hm : m = j := hm
  change Tr _ _ [rowE V 23 ao c2.toList] ([(7, .int .i64 (j : Nat))] ++ _) _
  obtain ⟨hj1, hj2, hj3⟩ := hi
  have ej : ((j : Int) - 1).toNat = j - 1 := by omega
  have hc2 : c2.toList.length = d.size := by rw [Array.length_toList]; exact hj2
  refine al (al (io aQ ?_))
  refine aw (aa rfl) (aw (aa rfl) (aw (fj rfl rfl) (aw (aa rfl) ?_)))
  apply fN
  ·exact (rfl : _ = (11, 19, 30))
  ·exact rfl
  ·intro hT2; have hT2' := hT2
   try simp only [bs] at hT2'
   refine bY hT2 (aa rfl) (bY hT2 (aa rfl) (bY hT2 (zz7 rfl rfl ah ae) ?_))
   refine bY hT2 (eF rfl am) ?_
   refine bY hT2 (aa rfl) (bY hT2 (aa rfl) (bY hT2 (eE rfl rfl) ?_))
   refine bY hT2 (jJ rfl rfl ah ae) ?_
   refine bY hT2 (eF rfl am) ?_
   refine bY hT2 (aA rfl fF (fun w hw => g5 (c2.toList.getD (j) default) (c2.toList.getD (((j : Int) - 1).toNat) default) w)) ?_
   refine aw (aS rfl hT2 rfl) ?_
   exact du (Sub.cons rfl (zz9 11 rfl))
  ·intro hF2
   refine bX hF2 (bX hF2 (bX hF2 (bX hF2 (bX hF2 (bX hF2 (bX hF2 (bX hF2 (bX hF2 (bX hF2 (aw (aT rfl hF2 rfl) ?_))))))))))
   exact du (Sub.cons rfl (zz9 11 rfl))
  refine bK ?_
  refine ac ?_
  refine ar rfl ?_ ?_ <;> intro h3 <;> try simp only [bs] at h3
  ·refine bF (al (aF (fO 5 15 aQ ?_)))
   refine eD rfl ?_
   refine eD rfl ?_
   refine eD rfl ?_
   refine eD rfl ?_
   refine gG (fun _ => eE rfl rfl) (by rfl) rfl ?_
   refine bI ?_
   refine aw (aa rfl) (aw (aa rfl) (aw (eE rfl rfl) ?_))
   refine aw (jJ rfl rfl ah ae) ?_
   refine aw (eF rfl am) ?_
   refine aw (aa rfl) (aw (aa rfl) (aw (zz7 rfl rfl ah ae) ?_))
   refine aw (eF rfl am) ?_
   refine aw (zz7 rfl rfl ah ae) ?_
   refine bK ?_
   refine gg (l := c2.toList) (i := j) (c2.toList.getD (((j : Int) - 1).toNat) default) rfl rfl ae ?_
   have hls4 : (List.set c2.toList (j) (c2.toList.getD (((j : Int) - 1).toNat) default)).length = (c2.toList).length := List.length_set
   refine zz0 (jJ rfl rfl ah ae) ?_
   refine gg (l := (c2.toList.set (j) (c2.toList.getD (((j : Int) - 1).toNat) default))) (i := ((j : Int) - 1).toNat) (c2.toList.getD (j) default) rfl rfl ae ?_
   have hls5 : (List.set (c2.toList.set (j) (c2.toList.getD (((j : Int) - 1).toNat) default)) (((j : Int) - 1).toNat) (c2.toList.getD (j) default)).length = ((c2.toList.set (j) (c2.toList.getD (((j : Int) - 1).toNat) default))).length := List.length_set
   refine aD (aX (ac (an (zz0 (aa rfl) (zz0 (eE rfl rfl) ?_)))))
   refine zz0 (ab rfl) (ad ?_)
   rw [ej, dY, dY, iH]
   refine cH (j - 1, _) (Front.c Front.nil) (bC 25 rfl) (o := ⟨by omega, by rw [oh]; exact hj2, by rw [← hj3]; exact (t8 (d := c2) (a := a) (j := j) (by omega) (by have q := h3.2; rw [dY, dY, ej] at q; exact q)).symm⟩)
  ·refine bJ (aG (aG (bv (aX (ac (an (zz0 (aa rfl) (zz0 (cp rfl rfl) ?_))))))))
   refine zz0 (ab rfl) (ad ?_)
   have hst : insInner ltW a j c2 = c2 := rE (by
    rcases h3 with q | q
    ·exact .inl (by omega)
    ·rw [dY, dY, ej] at q; exact .inr q)
   rw [hst] at hj3
   refine cH (i + 1, c2) (Front.c Front.nil) (bC 15 rfl) (o := ⟨by omega, hj2, by rw [hj3, ← zY (by omega)]; exact hi3⟩)
 ·refine bJ (aG (aG (bv ?_)))
  refine fx Tryz.results254 (fun w' hw => ?_)
  rw [zZ (by omega)] at hi3
  exact ⟨rfl, by rw [← hi3]; exact HpOK.mutOwn hw (.head _) rfl⟩
theorem zq (d : Array UInt32) (V : Value) (lo : Nat) (top : Nat) (f : Nat) (loi : Int) (topi : Int) (fi : Int) (elo : loi = ((lo : Nat) : Int)) (etop : topi = ((top : Nat) : Int)) (ef : fi = ((f : Nat) : Int)) (w : World) (hr : (rowE V 23 ao d.toList).holds w) (hd : d.size ≤ 1000000) (hlo : lo ≤ 1000000) (hb : f + top ≤ d.size) :
  Calls Tryz.prog 293 #[V, .int .i64 loi, .int .i64 topi, .int .i64 fi] w (fun e w' => e = .returned (.tuple #[]) ∧ Mut w w' V ∧ (rowE V 23 ao (siftDown ltW top f lo d).toList).holds w') := by
 subst elo etop ef
 refine fL (l := d.toList) (E := ao) (T := 23) hr Tryz.func293 rfl Tryz.ntmps293 rfl ?_
 refine af (zz0 (aa rfl) (zz0 (ab rfl) (ad (aF ?_))))
 refine bL (ι := Nat × Array UInt32) (fun ⟨r, cur⟩ => r ≤ 1000000 ∧ cur.size = d.size ∧ siftDown ltW top f r cur = siftDown ltW top f lo d) (fun _ => _) (fun ⟨r, cur⟩ => [rowE V 23 ao cur.toList]) (fun ⟨r, cur⟩ => [(8, .int .i64 (r : Nat))]) (fun ⟨r, cur⟩ => top - r) (lo, d) ⟨hlo, rfl, rfl⟩ (Front.c Front.nil) (by repeat' constructor) rfl (fun i hi m hm => ?_)
 obtain ⟨r, cur⟩ := i
 replace hi : r ≤ 1000000 ∧ cur.size = d.size ∧ siftDown ltW top f r cur = siftDown ltW top f lo d := hi
 replace hm : m = top - r := hm
 change Tr _ _ [rowE V 23 ao cur.toList] ([(8, .int .i64 (r : Nat))] ++ _) _
 obtain ⟨hr1, hr2, hr3⟩ := hi
 have hcl : cur.toList.length = d.size := by rw [Array.length_toList]; exact hr2
 refine aF (af (zz0 (aa rfl) (zz0 (kx rfl rfl (by omega)) ?_)))
 refine zz0 (cp rfl rfl) ?_
 refine zz0 (ab rfl) (ad (al (af (zz0 (aa rfl) (zz0 (aa rfl) (zz0 (eJ rfl rfl) (ad ?_)))))))
 refine ar rfl ?_ ?_ <;> intro h1 <;> try simp only [bs] at h1
 ·refine bJ (aG (jF rfl ?_))
  refine aG (bv ?_)
  refine fx Tryz.results293 (fun w' hw => ?_)
  rw [zr (by omega)] at hr3
  exact ⟨rfl, by rw [← hr3]; exact HpOK.mutOwn hw (.head _) rfl⟩
 ·refine bF ?_
  refine di (ι := Nat) (fun c => (2 * r + 1 ≤ c ∧ c < top) ∧ siftDown ltW top f r cur = if ltW cur[f + r]! cur[f + c]! = true then siftDown ltW top f c (swp cur (f + r) (f + c)) else cur) (fun _ => Bg.less w V) (fun c => [rowE V 23 ao cur.toList]) (fun c => [(9, .int .i64 (c : Nat))]) ?_ (fun c hi => ?_)
  ·skip
   refine al (io aQ ?_)
   refine aw (aa rfl) (aw (cp rfl rfl) ?_)
   refine aw (aa rfl) (aw (bU rfl rfl) (aw (aa rfl) ?_))
   apply fN
   ·exact (rfl : _ = (15, 21, 36))
   ·exact rfl
   ·intro hT2; have hT2' := hT2
    try simp only [bs] at hT2'
    refine bY hT2 (aa rfl) (bY hT2 (aa rfl) (bY hT2 (aa rfl) (bY hT2 (cp rfl rfl) ?_)))
    refine bY hT2 (jJ rfl rfl ah ae) ?_
    refine bY hT2 (eF rfl am) ?_
    refine bY hT2 (aa rfl) (bY hT2 (aa rfl) (bY hT2 (aa rfl) (bY hT2 (cp rfl rfl) ?_)))
    refine bY hT2 (cp rfl rfl) ?_
    refine bY hT2 (jJ rfl rfl ah ae) ?_
    refine bY hT2 (eF rfl am) ?_
    refine bY hT2 (aA rfl fF (fun w hw => g5 (cur.toList.getD (f + (2 * r + 1)) default) (cur.toList.getD (f + (2 * r + 1) + 1) default) w)) ?_
    refine aw (aS rfl hT2 rfl) ?_
    exact du (Sub.cons rfl (zz9 15 rfl))
   ·intro hF2
    refine bX hF2 (bX hF2 (bX hF2 (bX hF2 (bX hF2 (bX hF2 (bX hF2 (bX hF2 (bX hF2 (bX hF2 (bX hF2 (bX hF2 (bX hF2 (bX hF2 ?_)))))))))))))
    refine aw (aT rfl hF2 rfl) ?_
    exact du (Sub.cons rfl (zz9 15 rfl))
   refine bK ?_
   refine ac ?_
   refine ar rfl ?_ ?_ <;> intro h3 <;> try simp only [bs] at h3
   ·refine an (zz0 (aa rfl) (zz0 (cp rfl rfl) ?_))
    refine zz0 (ab rfl) (ad ?_)
    refine cw (2 * r + 2) (Front.c Front.nil) (bC 9 rfl) (o := ⟨by omega, ET (by omega) (by rw [← dY, ← dY]; exact h3.2)⟩)
   ·refine bF ?_
    apply eC (2 * r + 1)
    ·exact rfl
    ·exact (Front.c Front.nil)
    ·exact bC 6 rfl
    ·exact (by repeat' constructor)
    ·exact ⟨by omega, EU (by omega) (by
      rcases h3 with q | q
      ·exact .inl (by omega)
      ·exact .inr (by rw [← dY, ← dY]; exact q))⟩
  ·skip
   replace hi : (2 * r + 1 ≤ c ∧ c < top) ∧ siftDown ltW top f r cur = if ltW cur[f + r]! cur[f + c]! = true then siftDown ltW top f c (swp cur (f + r) (f + c)) else cur := hi
   change Tr _ _ [rowE V 23 ao cur.toList] ([(9, .int .i64 (c : Nat))] ++ _) _
   obtain ⟨hc1, hc2⟩ := hi
   refine al (al (io aQ ?_))
   refine aw (aa rfl) (aw (aa rfl) (aw (aa rfl) (aw (cp rfl rfl) ?_)))
   refine aw (zz7 rfl rfl ah ae) ?_
   refine aw (eF rfl am) ?_
   refine aw (aa rfl) (aw (aa rfl) (aw (aa rfl) (aw (cp rfl rfl) ?_)))
   refine aw (zz7 rfl rfl ah ae) ?_
   refine aw (eF rfl am) ?_
   refine aw (aA rfl fF (fun w hw => g5 (cur.toList.getD (f + r) default) (cur.toList.getD (f + c) default) w)) ?_
   refine aw (cQ rfl) (bK ?_)
   refine ac ?_
   refine ar rfl ?_ ?_ <;> intro h4 <;> try simp only [bs] at h4
   ·refine aB (ay (bA (ay (bA ?_))))
    refine lT Tryz.results293 (fun w' hw => ?_)
    rw [if_neg (by rw [← dY, ← dY]; simp_all)] at hc2
    exact ⟨rfl, by rw [← hr3, hc2]; exact HpOK.mutOwn hw (.head _) rfl⟩
   ·refine bF (al (fO 8 21 aQ ?_))
    refine eD rfl ?_
    refine eD rfl ?_
    refine eD rfl ?_
    refine gG (fun _ => cp rfl rfl) (by rfl) rfl ?_
    refine eD rfl ?_
    refine eD rfl ?_
    refine eD rfl ?_
    refine gG (fun _ => cp rfl rfl) (by rfl) rfl ?_
    refine bI ?_
    refine aw (aa rfl) (aw (aa rfl) (aw (aa rfl) (aw (cp rfl rfl) ?_)))
    refine aw (zz7 rfl rfl ah ae) ?_
    refine aw (eF rfl am) ?_
    refine aw (aa rfl) (aw (aa rfl) (aw (aa rfl) (aw (cp rfl rfl) ?_)))
    refine aw (zz7 rfl rfl ah ae) ?_
    refine aw (eF rfl am) ?_
    refine aw (zz7 rfl rfl ah ae) ?_
    refine bK ?_
    refine gg (l := cur.toList) (i := f + r) (cur.toList.getD (f + c) default) rfl rfl ae ?_
    have hls5 : (List.set cur.toList (f + r) (cur.toList.getD (f + c) default)).length = (cur.toList).length := List.length_set
    refine zz0 (zz7 rfl rfl ah ae) ?_
    refine gg (l := (cur.toList.set (f + r) (cur.toList.getD (f + c) default))) (i := f + c) (cur.toList.getD (f + r) default) rfl rfl ae ?_
    have hls6 : (List.set (cur.toList.set (f + r) (cur.toList.getD (f + c) default)) (f + c) (cur.toList.getD (f + r) default)).length = ((cur.toList.set (f + r) (cur.toList.getD (f + c) default))).length := List.length_set
    refine ad (an (zz0 (aa rfl) (zz0 (ab rfl) (aD (aX (ac ?_))))))
    rw [dY, dY, iH]
    have hst := hc2
    rw [if_pos (by rw [← dY, ← dY]; simp_all)] at hst
    refine cH (c, _) (Front.c Front.nil) (bC 47 rfl) (o := ⟨by omega, by rw [oh]; exact hr2, by rw [← hr3]; exact hst.symm⟩)
theorem FO (d : Array UInt32) (V : Value) (a : Nat) (b : Nat) (ai : Int) (bi : Int) (ea : ai = ((a : Nat) : Int)) (eb : bi = ((b : Nat) : Int)) (w : World) (hr : (rowE V 23 ao d.toList).holds w) (hd : d.size ≤ 1000000) (hab : a < b) (hb : b ≤ d.size) :
  Calls Tryz.prog 255 #[V, .int .i64 ai, .int .i64 bi] w (fun e w' => e = .returned (.tuple #[]) ∧ Mut w w' V ∧ (rowE V 23 ao (heapSort ltW d a b).toList).holds w') := by
 subst ea eb
 obtain ⟨n, hn⟩ : ∃ n, n = b - a := ⟨_, rfl⟩
 obtain ⟨d0, hd0⟩ : ∃ x, x = heapBuild ltW n a ((n - 1) / 2 + 1) d := ⟨_, rfl⟩
 have hhs : heapSort ltW d a b = heapPop ltW a n d0 := by rw [hd0, hn]; rfl
 refine fL (l := d.toList) (E := ao) (T := 23) hr Tryz.func255 rfl Tryz.ntmps255 rfl ?_
 refine af (zz0 (aa rfl) (zz0 (ab rfl) (aH (zz0 (ab rfl) (aH (zz0 (aa rfl) ?_))))))
 refine zz0 (aa rfl) (zz0 (eE rfl rfl) ?_)
 refine zz0 (ab rfl) (ad (al (al ?_)))
 rw [show ((b : Nat) : Int) - ((a : Nat) : Int) = ((n : Nat) : Int) by omega]
 refine an (zz0 (aa rfl) (zz0 (eE rfl rfl) ?_))
 refine zz0 (oY rfl rfl (by omega)) ?_
 refine zz0 (ab rfl) (ad (aF ?_))
 refine bL (ι := Nat × Array UInt32) (fun ⟨k, cur⟩ => k ≤ (n - 1) / 2 + 1 ∧ cur.size = d.size ∧ heapBuild ltW n a k cur = d0) (fun _ => _) (fun ⟨k, cur⟩ => [rowE V 23 ao cur.toList]) (fun ⟨k, cur⟩ => [(9, .int .i64 ((k : Int) - 1))]) (fun ⟨k, cur⟩ => k) ((n - 1) / 2 + 1, d) ⟨Nat.le_refl _, rfl, hd0.symm⟩ (Front.c Front.nil) (by repeat' constructor) rfl (fun i hi m hm => ?_)
 obtain ⟨k, cur⟩ := i
 replace hi : k ≤ (n - 1) / 2 + 1 ∧ cur.size = d.size ∧ heapBuild ltW n a k cur = d0 := hi
 replace hm : m = k := hm
 change Tr _ _ [rowE V 23 ao cur.toList] ([(9, .int .i64 ((k : Int) - 1))] ++ _) _
 obtain ⟨hk1, hk2, hk3⟩ := hi
 have hcl : cur.toList.length = d.size := by rw [Array.length_toList]; exact hk2
 refine al (af (zz0 (aa rfl) (zz0 (eJ rfl rfl) (ad ?_))))
 refine ar rfl ?_ ?_ <;> intro h1 <;> try simp only [bs] at h1
 ·refine bF (al (aF (an (zz0 (aa rfl) (zz0 (aa rfl) (zz0 (aa rfl) (zz0 (aa rfl) (eh rfl Tryz.call293 (by repeat constructor) (fun w hw => zq cur V (k - 1) n a _ _ _ (by omega) (by omega) (by omega) w (hw.ent _ (.head _)) (by omega) (by omega) (by omega)) rfl ?_))))))))
  refine aD (aX (ac (an (zz0 (aa rfl) (zz0 (eE rfl rfl) ?_)))))
  refine zz0 (ab rfl) (ad ?_)
  have hst : heapBuild ltW n a (k - 1) (siftDown ltW n a (k - 1) cur) = d0 := by
   obtain ⟨q, rfl⟩ : ∃ q, k = q + 1 := ⟨k - 1, by omega⟩
   exact hk3
  refine cH (k - 1, _) (Front.c Front.nil) (bC 11 rfl) (o := ⟨by omega, by rw [Iq]; exact hk2, hst⟩)
 ·refine bJ (aG (aG (bv (ac (al ?_)))))
  obtain rfl : k = 0 := by omega
  have hd1 : cur = d0 := hk3
  subst hd1
  refine an (zz0 (aa rfl) (zz0 (eE rfl rfl) ?_))
  refine zz0 (ab rfl) (ad (aF ?_))
  refine bL (ι := Nat × Array UInt32) (fun ⟨k, cur⟩ => k ≤ n ∧ cur.size = d.size ∧ heapPop ltW a k cur = heapSort ltW d a b) (fun _ => _) (fun ⟨k, cur⟩ => [rowE V 23 ao cur.toList]) (fun ⟨k, cur⟩ => [(10, .int .i64 ((k : Int) - 1))]) (fun ⟨k, cur⟩ => k) (n, _) ⟨Nat.le_refl _, hk2, hhs.symm⟩ (Front.c Front.nil) (by repeat' constructor) rfl (fun i hi m hm => ?_)
  obtain ⟨k, cur⟩ := i
  replace hi : k ≤ n ∧ cur.size = d.size ∧ heapPop ltW a k cur = heapSort ltW d a b := hi
  replace hm : m = k := hm
  change Tr _ _ [rowE V 23 ao cur.toList] ([(10, .int .i64 ((k : Int) - 1))] ++ _) _
  obtain ⟨hk1, hk2, hk3⟩ := hi
  have hcl : cur.toList.length = d.size := by rw [Array.length_toList]; exact hk2
  have ek : ((a : Int) + ((k : Int) - 1)).toNat = a + (k - 1) ∨ k = 0 := by omega
  refine al (af (zz0 (aa rfl) (zz0 (eJ rfl rfl) (ad ?_))))
  refine ar rfl ?_ ?_ <;> intro h2 <;> try simp only [bs] at h2
  ·refine bF (al (aF (al (fO 6 17 aQ ?_))))
   refine eD rfl ?_
   refine eD rfl ?_
   refine eD rfl ?_
   refine eD rfl ?_
   refine eD rfl ?_
   refine gG (fun _ => cp rfl rfl) (by rfl) rfl ?_
   refine bI ?_
   refine aw (aa rfl) (aw (aa rfl) (aw (aa rfl) (aw (cp rfl rfl) ?_)))
   refine aw (jJ rfl rfl ah ae) ?_
   refine aw (eF rfl am) ?_
   refine aw (aa rfl) (aw (aa rfl) (aw (zz7 rfl rfl ah ae) ?_))
   refine aw (eF rfl am) ?_
   refine aw (zz7 rfl rfl ah ae) ?_
   refine bK ?_
   refine gg (l := cur.toList) (i := a) (cur.toList.getD (((a : Int) + ((k : Int) - 1)).toNat) default) rfl rfl ae ?_
   have hls3 : (List.set cur.toList (a) (cur.toList.getD (((a : Int) + ((k : Int) - 1)).toNat) default)).length = (cur.toList).length := List.length_set
   refine zz0 (jJ rfl rfl ah ae) ?_
   refine gg (l := (cur.toList.set (a) (cur.toList.getD (((a : Int) + ((k : Int) - 1)).toNat) default))) (i := ((a : Int) + ((k : Int) - 1)).toNat) (cur.toList.getD (a) default) rfl rfl ae ?_
   have hls4 : (List.set (cur.toList.set (a) (cur.toList.getD (((a : Int) + ((k : Int) - 1)).toNat) default)) (((a : Int) + ((k : Int) - 1)).toNat) (cur.toList.getD (a) default)).length = ((cur.toList.set (a) (cur.toList.getD (((a : Int) + ((k : Int) - 1)).toNat) default))).length := List.length_set
   rw [ek.resolve_right (by omega), dY, dY, iH]
   refine ad (an (zz0 (aa rfl) (zz0 (aa rfl) (zz0 (aa rfl) (zz0 (aa rfl) (eh rfl Tryz.call293 (by repeat constructor) (fun w hw => zq (swp cur a (a + (k - 1))) V 0 (k - 1) a _ _ _ (by omega) (by omega) (by omega) w (hw.ent _ (.head _)) (by rw [oh]; omega) (by omega) (by rw [oh]; omega)) rfl ?_))))))
   refine aD (aX (ac (an (zz0 (aa rfl) (zz0 (eE rfl rfl) ?_)))))
   refine zz0 (ab rfl) (ad ?_)
   have hst : heapPop ltW a (k - 1) (siftDown ltW (k - 1) a 0 (swp cur a (a + (k - 1)))) = heapSort ltW d a b := by
    obtain ⟨q, rfl⟩ : ∃ q, k = q + 1 := ⟨k - 1, by omega⟩
    exact hk3
   refine cH (k - 1, _) (Front.c Front.nil) (bC 29 rfl) (o := ⟨by omega, by rw [Iq, oh]; exact hk2, hst⟩)
  ·refine bJ (aG (aG (bv ?_)))
   refine fx Tryz.results255 (fun w' hw => ?_)
   obtain rfl : k = 0 := by omega
   exact ⟨rfl, by rw [← hk3]; exact HpOK.mutOwn hw (.head _) rfl⟩
theorem zy (d : Array UInt32) (V : Value) (a : Nat) (b : Nat) (ai : Int) (bi : Int) (ea : ai = ((a : Nat) : Int)) (eb : bi = ((b : Nat) : Int)) (w : World) (hr : (rowE V 23 ao d.toList).holds w) (hd : d.size ≤ 1000000) (hab : a < b) (hb : b ≤ d.size) :
  Calls Tryz.prog 258 #[V, .int .i64 ai, .int .i64 bi] w (fun e w' => e = .returned (.tuple #[]) ∧ Mut w w' V ∧ (rowE V 23 ao (reverseRange d a b).toList).holds w') := by
 subst ea eb
 refine fL (l := d.toList) (E := ao) (T := 23) hr Tryz.func258 rfl Tryz.ntmps258 rfl ?_
 refine af (zz0 (aa rfl) (zz0 (ab rfl) (aH (zz0 (aa rfl) (zz0 (eE rfl rfl) ?_)))))
 refine zz0 (ab rfl) (ad (aF ?_))
 refine bL (ι := Nat × Nat × Array UInt32) (fun ⟨i, j, cur⟩ => (a ≤ i ∧ j < b) ∧ cur.size = d.size ∧ reverseLoop i j cur = reverseRange d a b) (fun _ => _) (fun ⟨i, j, cur⟩ => [rowE V 23 ao cur.toList]) (fun ⟨i, j, cur⟩ => [(6, .int .i64 (i : Nat)), (7, .int .i64 (j : Nat))]) (fun ⟨i, j, cur⟩ => j - i) (a, b - 1, d) ⟨⟨Nat.le_refl _, by omega⟩, rfl, rfl⟩ (Front.c (Front.c Front.nil)) (by repeat' constructor) rfl (fun i hi m hm => ?_)
 obtain ⟨i, j, cur⟩ := i
 replace hi : (a ≤ i ∧ j < b) ∧ cur.size = d.size ∧ reverseLoop i j cur = reverseRange d a b := hi
 replace hm : m = j - i := hm
 change Tr _ _ [rowE V 23 ao cur.toList] ([(6, .int .i64 (i : Nat)), (7, .int .i64 (j : Nat))] ++ _) _
 obtain ⟨hi1, hi2, hi3⟩ := hi
 have hcl : cur.toList.length = d.size := by rw [Array.length_toList]; exact hi2
 refine al (af (zz0 (aa rfl) (zz0 (aa rfl) (zz0 (bU rfl rfl) (ad ?_)))))
 refine ar rfl ?_ ?_ <;> intro h1 <;> try simp only [bs] at h1
 ·refine bF (aF (al (fO 4 13 aQ ?_)))
  refine eD rfl ?_
  refine eD rfl ?_
  refine eD rfl ?_
  refine eD rfl ?_
  refine bI ?_
  refine aw (aa rfl) (aw (aa rfl) (aw (zz7 rfl rfl ah ae) ?_))
  refine aw (eF rfl am) ?_
  refine aw (aa rfl) (aw (aa rfl) (aw (zz7 rfl rfl ah ae) ?_))
  refine aw (eF rfl am) ?_
  refine aw (zz7 rfl rfl ah ae) ?_
  refine bK ?_
  refine gg (l := cur.toList) (i := i) (cur.toList.getD (j) default) rfl rfl ae ?_
  have hls2 : (List.set cur.toList (i) (cur.toList.getD (j) default)).length = (cur.toList).length := List.length_set
  refine zz0 (zz7 rfl rfl ah ae) ?_
  refine gg (l := (cur.toList.set (i) (cur.toList.getD (j) default))) (i := j) (cur.toList.getD (i) default) rfl rfl ae ?_
  have hls3 : (List.set (cur.toList.set (i) (cur.toList.getD (j) default)) (j) (cur.toList.getD (i) default)).length = ((cur.toList.set (i) (cur.toList.getD (j) default))).length := List.length_set
  refine aH (zz0 (aa rfl) (zz0 (cp rfl rfl) ?_))
  refine zz0 (ab rfl) (ad (an (zz0 (aa rfl) (zz0 (eE rfl rfl) ?_))))
  refine zz0 (ab rfl) (aD (aX (ac ?_)))
  rw [dY, dY, iH]
  refine cH (i + 1, j - 1, _) (Front.c (Front.c Front.nil)) (bC 25 rfl) (o := ⟨⟨by omega, by omega⟩, by rw [oh]; exact hi2, by rw [← IF (by omega)]; exact hi3⟩)
 ·refine bJ (aG (aG (bv ?_)))
  refine fx Tryz.results258 (fun w' hw => ?_)
  rw [E3 (by omega)] at hi3
  exact ⟨rfl, by rw [← hi3]; exact HpOK.mutOwn hw (.head _) rfl⟩
theorem vZ (d : Array UInt32) (V : Value) (a : Nat) (b : Nat) (p : Nat) (ai : Int) (bi : Int) (pi : Int) (ea : ai = ((a : Nat) : Int)) (eb : bi = ((b : Nat) : Int)) (ep : pi = ((p : Nat) : Int)) (w : World) (hr : (rowE V 23 ao d.toList).holds w) (hd : d.size ≤ 1000000) (hab : a + 1 < b) (hb : b ≤ d.size) (hp : p < b) :
  Calls Tryz.prog 262 #[V, .int .i64 ai, .int .i64 bi, .int .i64 pi] w (fun e w' => e = .returned (.tuple #[.int .i64 ((partition ltW d a b p).1 : Nat), .bool (partition ltW d a b p).2.1]) ∧ Mut w w' V ∧ (rowE V 23 ao (partition ltW d a b p).2.2.toList).holds w') := by
 subst ea eb ep
 obtain ⟨d1, hd1⟩ : ∃ x, x = swp d a p := ⟨_, rfl⟩
 have hs1 : d1.size = d.size := by rw [hd1, oh]
 have hl0 : d.toList.length = d.size := Array.length_toList
 have hl1 : d1.toList.length = d.size := by rw [Array.length_toList]; exact hs1
 obtain ⟨P, hP⟩ : ∃ P : UInt32 → Bool, P = fun x => ltW x d1[a]! := ⟨_, rfl⟩
 refine fL (l := d.toList) (E := ao) (T := 23) hr Tryz.func262 rfl Tryz.ntmps262 rfl ?_
 refine af (zz0 (ab rfl) (zz0 (ab rfl) (ad (al (fO 4 13 aQ ?_)))))
 refine eD rfl ?_
 refine eD rfl ?_
 refine eD rfl ?_
 refine eD rfl ?_
 refine bI ?_
 refine aw (aa rfl) (aw (aa rfl) (aw (zz7 rfl rfl ah ae) ?_))
 refine aw (eF rfl am) ?_
 refine aw (aa rfl) (aw (aa rfl) (aw (zz7 rfl rfl ah ae) ?_))
 refine aw (eF rfl am) ?_
 refine aw (zz7 rfl rfl ah ae) ?_
 refine bK ?_
 refine gg (l := d.toList) (i := a) (d.toList.getD (p) default) rfl rfl ae ?_
 have hls1 : (List.set d.toList (a) (d.toList.getD (p) default)).length = (d.toList).length := List.length_set
 refine zz0 (zz7 rfl rfl ah ae) ?_
 refine gg (l := (d.toList.set (a) (d.toList.getD (p) default))) (i := p) (d.toList.getD (a) default) rfl rfl ae ?_
 have hls2 : (List.set (d.toList.set (a) (d.toList.getD (p) default)) (p) (d.toList.getD (a) default)).length = ((d.toList.set (a) (d.toList.getD (p) default))).length := List.length_set
 rw [dY, dY, iH, ← hd1]
 refine aH (zz0 (aa rfl) (zz0 (cp rfl rfl) ?_))
 refine zz0 (aa rfl) (zz0 (eE rfl rfl) ?_)
 refine zz0 (ab rfl) (zz0 (ab rfl) (ad (al (aF ?_))))
 refine bL (ι := Nat) (fun i => a + 1 ≤ i ∧ i ≤ b ∧ scanUp (fun x => ltW x d1[a]!) d1 (b - 1) i = scanUp (fun x => ltW x d1[a]!) d1 (b - 1) (a + 1)) (fun _ => _) (fun i => [rowE V 23 ao d1.toList]) (fun i => [(10, .int .i64 (i : Nat)), (11, .int .i64 ((b : Int) - 1))]) (fun i => b - i) (a + 1) ⟨Nat.le_refl _, by omega, rfl⟩ (Front.c (Front.c Front.nil)) (by repeat' constructor) rfl (fun i hi m hm => ?_)
 replace hi : a + 1 ≤ i ∧ i ≤ b ∧ scanUp (fun x => ltW x d1[a]!) d1 (b - 1) i = scanUp (fun x => ltW x d1[a]!) d1 (b - 1) (a + 1) := hi
 replace hm : m = b - i := hm
 change Tr _ _ [rowE V 23 ao d1.toList] ([(10, .int .i64 (i : Nat)), (11, .int .i64 ((b : Int) - 1))] ++ _) _
 obtain ⟨hi1, hi2, hi3⟩ := hi
 refine al (al (io aQ ?_))
 refine aw (aa rfl) (aw (aa rfl) (aw (gr rfl rfl) (aw (aa rfl) ?_)))
 apply fN
 ·exact (rfl : _ = (10, 33, 43))
 ·exact rfl
 ·intro hT3; have hT3' := hT3
  try simp only [bs] at hT3'
  refine bY hT3 (aa rfl) (bY hT3 (aa rfl) (bY hT3 (zz7 rfl rfl ah ae) ?_))
  refine bY hT3 (eF rfl am) ?_
  refine bY hT3 (aa rfl) (bY hT3 (aa rfl) (bY hT3 (zz7 rfl rfl ah ae) ?_))
  refine bY hT3 (eF rfl am) ?_
  refine bY hT3 (aA rfl fF (fun w hw => g5 (d1.toList.getD (i) default) (d1.toList.getD (a) default) w)) ?_
  refine aw (aS rfl hT3 rfl) ?_
  exact du (Sub.cons rfl (zz9 10 rfl))
 ·intro hF3
  refine bX hF3 (bX hF3 (bX hF3 (bX hF3 (bX hF3 (bX hF3 (bX hF3 (bX hF3 (bX hF3 (aw (aT rfl hF3 rfl) ?_)))))))))
  exact du (Sub.cons rfl (zz9 10 rfl))
 refine bK ?_
 refine ac ?_
 refine ar rfl ?_ ?_ <;> intro h4 <;> try simp only [bs] at h4
 ·refine bF (aF (an (zz0 (aa rfl) (zz0 (cp rfl rfl) ?_))))
  refine zz0 (ab rfl) (aD (aX (ac ?_)))
  refine cH (i + 1) (Front.c (Front.c Front.nil)) (bC 10 rfl) (o := ⟨by omega, by omega, by rw [← hi3]; exact (EI (by omega) (by rw [← dY, ← dY]; exact h4.2)).symm⟩)
 ·refine bJ (aG (aG (bv (ac (al (aF ?_))))))
  refine bL (ι := Nat) (fun j => j < b ∧ i ≤ j + 1 ∧ scanDown (fun x => !ltW x d1[a]!) d1 i j = scanDown (fun x => !ltW x d1[a]!) d1 i (b - 1)) (fun _ => _) (fun j => [rowE V 23 ao d1.toList]) (fun j => [(10, .int .i64 (i : Nat)), (11, .int .i64 (j : Nat))]) (fun j => j) (b - 1) ⟨by omega, by omega, rfl⟩ (Front.c (Front.c Front.nil)) (by repeat' constructor) rfl (fun j hi m hm => ?_)
  replace hi : j < b ∧ i ≤ j + 1 ∧ scanDown (fun x => !ltW x d1[a]!) d1 i j = scanDown (fun x => !ltW x d1[a]!) d1 i (b - 1) := hi
  replace hm : m = j := hm
  change Tr _ _ [rowE V 23 ao d1.toList] ([(10, .int .i64 (i : Nat)), (11, .int .i64 (j : Nat))] ++ _) _
  obtain ⟨hj1, hj2, hj3⟩ := hi
  refine al (al (io aQ ?_))
  refine aw (aa rfl) (aw (aa rfl) (aw (gr rfl rfl) (aw (aa rfl) ?_)))
  apply fN
  ·exact (rfl : _ = (11, 49, 60))
  ·exact rfl
  ·intro hT5; have hT5' := hT5
   try simp only [bs] at hT5'
   refine bY hT5 (aa rfl) (bY hT5 (aa rfl) (bY hT5 (zz7 rfl rfl ah ae) ?_))
   refine bY hT5 (eF rfl am) ?_
   refine bY hT5 (aa rfl) (bY hT5 (aa rfl) (bY hT5 (zz7 rfl rfl ah ae) ?_))
   refine bY hT5 (eF rfl am) ?_
   refine bY hT5 (aA rfl fF (fun w hw => g5 (d1.toList.getD (j) default) (d1.toList.getD (a) default) w)) ?_
   refine bY hT5 (cQ rfl) (aw (aS rfl hT5 rfl) ?_)
   exact du (Sub.cons rfl (zz9 11 rfl))
  ·intro hF5
   refine bX hF5 (bX hF5 (bX hF5 (bX hF5 (bX hF5 (bX hF5 (bX hF5 (bX hF5 (bX hF5 (bX hF5 (aw (aT rfl hF5 rfl) ?_))))))))))
   exact du (Sub.cons rfl (zz9 11 rfl))
  refine bK ?_
  refine ac ?_
  refine ar rfl ?_ ?_ <;> intro h6 <;> try simp only [bs] at h6
  ·refine bF (aF (an (zz0 (aa rfl) (zz0 (eE rfl rfl) ?_))))
   refine zz0 (ab rfl) (aD (aX (ac ?_)))
   refine cH (j - 1) (Front.c (Front.c Front.nil)) (bC 10 rfl) (o := ⟨by omega, by omega, by rw [← hj3]; exact (yx (by omega) (by omega) (by rw [← dY, ← dY]; simp_all)).symm⟩)
  ·refine bJ (aG (aG (bv (ac (al (al ?_))))))
   have hI : scanUp (fun x => ltW x d1[a]!) d1 (b - 1) (a + 1) = i := by
    rw [← hi3]; exact xM (by
     rcases h4 with q | q
     ·exact .inl (by omega)
     ·exact .inr (by rw [← dY, ← dY]; exact q))
   have hJ : scanDown (fun x => !ltW x d1[a]!) d1 i (b - 1) = j := by
    rw [← hj3]; exact sY (by
     rcases h6 with q | q
     ·exact .inl (by omega)
     ·exact .inr (by rw [← dY, ← dY, q]; rfl))
   refine an (zz0 (aa rfl) (zz0 (aa rfl) (zz0 (fj rfl rfl) (ad ?_))))
   refine ar rfl ?_ ?_ <;> intro h7 <;> try simp only [bs] at h7
   ·refine al (fO 4 13 aQ ?_)
    refine eD rfl ?_
    refine eD rfl ?_
    refine eD rfl ?_
    refine eD rfl ?_
    refine bI ?_
    refine aw (aa rfl) (aw (aa rfl) (aw (zz7 rfl rfl ah ae) ?_))
    refine aw (eF rfl am) ?_
    refine aw (aa rfl) (aw (aa rfl) (aw (zz7 rfl rfl ah ae) ?_))
    refine aw (eF rfl am) ?_
    refine aw (zz7 rfl rfl ah ae) ?_
    refine bK ?_
    refine gg (l := d1.toList) (i := j) (d1.toList.getD (a) default) rfl rfl ae ?_
    have hls8 : (List.set d1.toList (j) (d1.toList.getD (a) default)).length = (d1.toList).length := List.length_set
    refine zz0 (zz7 rfl rfl ah ae) ?_
    refine gg (l := (d1.toList.set (j) (d1.toList.getD (a) default))) (i := a) (d1.toList.getD (j) default) rfl rfl ae ?_
    have hls9 : (List.set (d1.toList.set (j) (d1.toList.getD (a) default)) (a) (d1.toList.getD (j) default)).length = ((d1.toList.set (j) (d1.toList.getD (a) default))).length := List.length_set
    rw [dY, dY, iH]
    refine aH (zz0 (aa rfl) (zz0 (ab rfl) (zz0 (ab rfl) (ad (aB (ay ?_))))))
    refine dq Tryz.results262 rfl rfl (fun w' hw => ?_)
    have hpt : partition ltW d a b p = (j, true, swp d1 j a) := by
     unfold partition; simp only [← hd1, hI, hJ]; rw [if_pos (by omega)]
    exact ⟨by rw [hpt], by rw [hpt]; exact HpOK.mutOwn hw (.head _) rfl⟩
   ·refine bF (al ?_)
    have hij : i < j := by
     rcases Nat.lt_or_ge i j with q | q
     ·exact q
     ·exfalso
      have e : i = j := by omega
      rcases h4 with g1 | g1
      ·omega
      ·rcases h6 with g2 | g2
       ·omega
       ·rw [e, g2] at g1; cases g1
    refine fO 4 13 aQ ?_
    refine eD rfl ?_
    refine eD rfl ?_
    refine eD rfl ?_
    refine eD rfl ?_
    refine bI ?_
    refine aw (aa rfl) (aw (aa rfl) (aw (zz7 rfl rfl ah ae) ?_))
    refine aw (eF rfl am) ?_
    refine aw (aa rfl) (aw (aa rfl) (aw (zz7 rfl rfl ah ae) ?_))
    refine aw (eF rfl am) ?_
    refine aw (zz7 rfl rfl ah ae) ?_
    refine bK ?_
    refine gg (l := d1.toList) (i := i) (d1.toList.getD (j) default) rfl rfl ae ?_
    have hls10 : (List.set d1.toList (i) (d1.toList.getD (j) default)).length = (d1.toList).length := List.length_set
    refine zz0 (zz7 rfl rfl ah ae) ?_
    refine gg (l := (d1.toList.set (i) (d1.toList.getD (j) default))) (i := j) (d1.toList.getD (i) default) rfl rfl ae ?_
    have hls11 : (List.set (d1.toList.set (i) (d1.toList.getD (j) default)) (j) (d1.toList.getD (i) default)).length = ((d1.toList.set (i) (d1.toList.getD (j) default))).length := List.length_set
    rw [dY, dY, iH]
    refine aH (zz0 (aa rfl) (zz0 (cp rfl rfl) ?_))
    refine zz0 (ab rfl) (aH (zz0 (aa rfl) (zz0 (eE rfl rfl) ?_)))
    refine zz0 (ab rfl) (ad (al (aF ?_)))
    refine bL (ι := Nat × Nat × Array UInt32) (fun ⟨i3, j3, cur⟩ => (a + 1 ≤ i3 ∧ i3 ≤ j3 + 1 ∧ j3 < b) ∧ cur.size = d.size ∧ partLoop ltW a i3 j3 cur = partLoop ltW a (i + 1) (j - 1) (swp d1 i j)) (fun _ => _) (fun ⟨i3, j3, cur⟩ => [rowE V 23 ao cur.toList]) (fun ⟨i3, j3, cur⟩ => [(10, .int .i64 (i3 : Nat)), (11, .int .i64 (j3 : Nat))]) (fun ⟨i3, j3, cur⟩ => j3 + 1 - i3) (i + 1, j - 1, swp d1 i j) ⟨by omega, by rw [oh]; exact hs1, rfl⟩ (Front.c (Front.c Front.nil)) (by repeat' constructor) rfl (fun i hi m hm => ?_)
    obtain ⟨i3, j3, cur⟩ := i
    replace hi : (a + 1 ≤ i3 ∧ i3 ≤ j3 + 1 ∧ j3 < b) ∧ cur.size = d.size ∧ partLoop ltW a i3 j3 cur = partLoop ltW a (i + 1) (j - 1) (swp d1 i j) := hi
    replace hm : m = j3 + 1 - i3 := hm
    change Tr _ _ [rowE V 23 ao cur.toList] ([(10, .int .i64 (i3 : Nat)), (11, .int .i64 (j3 : Nat))] ++ _) _
    obtain ⟨hk1, hk2, hk3⟩ := hi
    have hcl : cur.toList.length = d.size := by rw [Array.length_toList]; exact hk2
    refine aF (al (aF ?_))
    refine bL (ι := Nat) (fun x => i3 ≤ x ∧ x ≤ j3 + 1 ∧ scanUp (fun z => ltW z cur[a]!) cur j3 x = scanUp (fun z => ltW z cur[a]!) cur j3 i3) (fun _ => _) (fun x => [rowE V 23 ao cur.toList]) (fun x => [(10, .int .i64 (x : Nat)), (11, .int .i64 (j3 : Nat))]) (fun x => j3 + 1 - x) i3 ⟨Nat.le_refl _, by omega, rfl⟩ (Front.c (Front.c Front.nil)) (by repeat' constructor) rfl (fun x hi m hm => ?_)
    replace hi : i3 ≤ x ∧ x ≤ j3 + 1 ∧ scanUp (fun z => ltW z cur[a]!) cur j3 x = scanUp (fun z => ltW z cur[a]!) cur j3 i3 := hi
    replace hm : m = j3 + 1 - x := hm
    change Tr _ _ [rowE V 23 ao cur.toList] ([(10, .int .i64 (x : Nat)), (11, .int .i64 (j3 : Nat))] ++ _) _
    obtain ⟨hx1, hx2, hx3⟩ := hi
    refine al (al (io aQ ?_))
    refine aw (aa rfl) (aw (aa rfl) (aw (gr rfl rfl) (aw (aa rfl) ?_)))
    apply fN
    ·exact (rfl : _ = (10, 102, 112))
    ·exact rfl
    ·intro hT12; have hT12' := hT12
     try simp only [bs] at hT12'
     refine bY hT12 (aa rfl) (bY hT12 (aa rfl) (bY hT12 (zz7 rfl rfl ah ae) ?_))
     refine bY hT12 (eF rfl am) ?_
     refine bY hT12 (aa rfl) (bY hT12 (aa rfl) (bY hT12 (zz7 rfl rfl ah ae) ?_))
     refine bY hT12 (eF rfl am) ?_
     refine bY hT12 (aA rfl fF (fun w hw => g5 (cur.toList.getD (x) default) (cur.toList.getD (a) default) w)) ?_
     refine aw (aS rfl hT12 rfl) ?_
     exact du (Sub.cons rfl (zz9 10 rfl))
    ·intro hF12
     refine bX hF12 (bX hF12 (bX hF12 (bX hF12 (bX hF12 (bX hF12 (bX hF12 (bX hF12 (bX hF12 (aw (aT rfl hF12 rfl) ?_)))))))))
     exact du (Sub.cons rfl (zz9 10 rfl))
    refine bK ?_
    refine ac ?_
    refine ar rfl ?_ ?_ <;> intro h13 <;> try simp only [bs] at h13
    ·refine bF (aF (an (zz0 (aa rfl) (zz0 (cp rfl rfl) ?_))))
     refine zz0 (ab rfl) (aD (aX (ac ?_)))
     refine cH (x + 1) (Front.c (Front.c Front.nil)) (bC 10 rfl) (o := ⟨by omega, by omega, by rw [← hx3]; exact (EI (by omega) (by rw [← dY, ← dY]; simp_all)).symm⟩)
    ·refine bJ (aG (aG (bv (ac (al (aF ?_))))))
     refine bL (ι := Nat) (fun y => y ≤ j3 ∧ x ≤ y + 1 ∧ scanDown (fun z => !ltW z cur[a]!) cur x y = scanDown (fun z => !ltW z cur[a]!) cur x j3) (fun _ => _) (fun y => [rowE V 23 ao cur.toList]) (fun y => [(10, .int .i64 (x : Nat)), (11, .int .i64 (y : Nat))]) (fun y => y) j3 ⟨Nat.le_refl _, by omega, rfl⟩ (Front.c (Front.c Front.nil)) (by repeat' constructor) rfl (fun y hi m hm => ?_)
     replace hi : y ≤ j3 ∧ x ≤ y + 1 ∧ scanDown (fun z => !ltW z cur[a]!) cur x y = scanDown (fun z => !ltW z cur[a]!) cur x j3 := hi
     replace hm : m = y := hm
     change Tr _ _ [rowE V 23 ao cur.toList] ([(10, .int .i64 (x : Nat)), (11, .int .i64 (y : Nat))] ++ _) _
     obtain ⟨hy1, hy2, hy3⟩ := hi
     refine al (al (io aQ ?_))
     refine aw (aa rfl) (aw (aa rfl) (aw (gr rfl rfl) (aw (aa rfl) ?_)))
     apply fN
     ·exact (rfl : _ = (11, 118, 129))
     ·exact rfl
     ·intro hT14; have hT14' := hT14
      try simp only [bs] at hT14'
      refine bY hT14 (aa rfl) (bY hT14 (aa rfl) (bY hT14 (zz7 rfl rfl ah ae) ?_))
      refine bY hT14 (eF rfl am) ?_
      refine bY hT14 (aa rfl) (bY hT14 (aa rfl) (bY hT14 (zz7 rfl rfl ah ae) ?_))
      refine bY hT14 (eF rfl am) ?_
      refine bY hT14 (aA rfl fF (fun w hw => g5 (cur.toList.getD (y) default) (cur.toList.getD (a) default) w)) ?_
      refine bY hT14 (cQ rfl) (aw (aS rfl hT14 rfl) ?_)
      exact du (Sub.cons rfl (zz9 11 rfl))
     ·intro hF14
      refine bX hF14 (bX hF14 (bX hF14 (bX hF14 (bX hF14 (bX hF14 (bX hF14 (bX hF14 (bX hF14 (bX hF14 (aw (aT rfl hF14 rfl) ?_))))))))))
      exact du (Sub.cons rfl (zz9 11 rfl))
     refine bK ?_
     refine ac ?_
     refine ar rfl ?_ ?_ <;> intro h15 <;> try simp only [bs] at h15
     ·refine bF (aF (an (zz0 (aa rfl) (zz0 (eE rfl rfl) ?_))))
      refine zz0 (ab rfl) (aD (aX (ac ?_)))
      refine cH (y - 1) (Front.c (Front.c Front.nil)) (bC 10 rfl) (o := ⟨by omega, by omega, by rw [← hy3]; exact (yx (by omega) (by omega) (by rw [← dY, ← dY]; simp_all)).symm⟩)
     ·refine bJ (aG (aG (bv (ac (al (al ?_))))))
      have hX : scanUp (fun z => ltW z cur[a]!) cur j3 i3 = x := by
       rw [← hx3]; exact xM (by
        rcases h13 with q | q
        ·exact .inl (by omega)
        ·exact .inr (by rw [← dY, ← dY]; exact q))
      have hY : scanDown (fun z => !ltW z cur[a]!) cur x j3 = y := by
       rw [← hy3]; exact sY (by
        rcases h15 with q | q
        ·exact .inl (by omega)
        ·exact .inr (by rw [← dY, ← dY, q]; rfl))
      refine an (zz0 (aa rfl) (zz0 (aa rfl) (zz0 (fj rfl rfl) (ad ?_))))
      refine ar rfl ?_ ?_ <;> intro h16 <;> try simp only [bs] at h16
      ·refine bJ (aG (jF rfl ?_))
       refine aG (bv (ac (al (fO 4 13 aQ ?_))))
       refine eD rfl ?_
       refine eD rfl ?_
       refine eD rfl ?_
       refine eD rfl ?_
       refine bI ?_
       refine aw (aa rfl) (aw (aa rfl) (aw (zz7 rfl rfl ah ae) ?_))
       refine aw (eF rfl am) ?_
       refine aw (aa rfl) (aw (aa rfl) (aw (zz7 rfl rfl ah ae) ?_))
       refine aw (eF rfl am) ?_
       refine aw (zz7 rfl rfl ah ae) ?_
       refine bK ?_
       refine gg (l := cur.toList) (i := y) (cur.toList.getD (a) default) rfl rfl ae ?_
       have hls17 : (List.set cur.toList (y) (cur.toList.getD (a) default)).length = (cur.toList).length := List.length_set
       refine zz0 (zz7 rfl rfl ah ae) ?_
       refine gg (l := (cur.toList.set (y) (cur.toList.getD (a) default))) (i := a) (cur.toList.getD (y) default) rfl rfl ae ?_
       have hls18 : (List.set (cur.toList.set (y) (cur.toList.getD (a) default)) (a) (cur.toList.getD (y) default)).length = ((cur.toList.set (y) (cur.toList.getD (a) default))).length := List.length_set
       rw [dY, dY, iH]
       refine aH (zz0 (aa rfl) (zz0 (ab rfl) (zz0 (ab rfl) (ad (aB ?_)))))
       refine dq Tryz.results262 rfl rfl (fun w' hw => ?_)
       have he := Fl hX hY (by omega)
       have hpt : partition ltW d a b p = (y, false, swp cur y a) := by
        unfold partition; simp only [← hd1, hI, hJ]; rw [if_neg (by omega), ← hk3, he]
       exact ⟨by rw [hpt], by rw [hpt]; exact HpOK.mutOwn hw (.head _) rfl⟩
      ·refine bF (al ?_)
       have hxy : x < y := by
        rcases Nat.lt_or_ge x y with q | q
        ·exact q
        ·exfalso
         have e : x = y := by omega
         rcases h13 with g1 | g1
         ·omega
         ·rcases h15 with g2 | g2
          ·omega
          ·rw [e, g2] at g1; cases g1
       refine fO 4 13 aQ ?_
       refine eD rfl ?_
       refine eD rfl ?_
       refine eD rfl ?_
       refine eD rfl ?_
       refine bI ?_
       refine aw (aa rfl) (aw (aa rfl) (aw (zz7 rfl rfl ah ae) ?_))
       refine aw (eF rfl am) ?_
       refine aw (aa rfl) (aw (aa rfl) (aw (zz7 rfl rfl ah ae) ?_))
       refine aw (eF rfl am) ?_
       refine aw (zz7 rfl rfl ah ae) ?_
       refine bK ?_
       refine gg (l := cur.toList) (i := x) (cur.toList.getD (y) default) rfl rfl ae ?_
       have hls19 : (List.set cur.toList (x) (cur.toList.getD (y) default)).length = (cur.toList).length := List.length_set
       refine zz0 (zz7 rfl rfl ah ae) ?_
       refine gg (l := (cur.toList.set (x) (cur.toList.getD (y) default))) (i := y) (cur.toList.getD (x) default) rfl rfl ae ?_
       have hls20 : (List.set (cur.toList.set (x) (cur.toList.getD (y) default)) (y) (cur.toList.getD (x) default)).length = ((cur.toList.set (x) (cur.toList.getD (y) default))).length := List.length_set
       refine aH (zz0 (aa rfl) (zz0 (cp rfl rfl) ?_))
       refine zz0 (ab rfl) (ad (an (zz0 (aa rfl) (zz0 (eE rfl rfl) ?_))))
       refine zz0 (ab rfl) (aD (aX (ac ?_)))
       rw [dY, dY, iH]
       refine cH (x + 1, y - 1, _) (Front.c (Front.c Front.nil)) (bC 39 rfl) (o := ⟨by omega, by rw [oh]; exact hk2, by rw [← hk3]; exact (zH hX hY hxy hx1 hy1).symm⟩)
theorem t7 (d : Array UInt32) (V : Value) (a : Nat) (b : Nat) (p : Nat) (ai : Int) (bi : Int) (pi : Int) (ea : ai = ((a : Nat) : Int)) (eb : bi = ((b : Nat) : Int)) (ep : pi = ((p : Nat) : Int)) (w : World) (hr : (rowE V 23 ao d.toList).holds w) (hd : d.size ≤ 1000000) (hab : a + 1 < b) (hb : b ≤ d.size) (hp : p < b) :
  Calls Tryz.prog 261 #[V, .int .i64 ai, .int .i64 bi, .int .i64 pi] w (fun e w' => e = .returned (.int .i64 ((partitionEqual ltW d a b p).1 : Nat)) ∧ Mut w w' V ∧ (rowE V 23 ao (partitionEqual ltW d a b p).2.toList).holds w') := by
 subst ea eb ep
 obtain ⟨d1, hd1⟩ : ∃ x, x = swp d a p := ⟨_, rfl⟩
 have hs1 : d1.size = d.size := by rw [hd1, oh]
 have hl0 : d.toList.length = d.size := Array.length_toList
 have hl1 : d1.toList.length = d.size := by rw [Array.length_toList]; exact hs1
 refine fL (l := d.toList) (E := ao) (T := 23) hr Tryz.func261 rfl Tryz.ntmps261 rfl ?_
 refine af (zz0 (ab rfl) (ad (al (fO 4 13 aQ ?_))))
 refine eD rfl ?_
 refine eD rfl ?_
 refine eD rfl ?_
 refine eD rfl ?_
 refine bI ?_
 refine aw (aa rfl) (aw (aa rfl) (aw (zz7 rfl rfl ah ae) ?_))
 refine aw (eF rfl am) ?_
 refine aw (aa rfl) (aw (aa rfl) (aw (zz7 rfl rfl ah ae) ?_))
 refine aw (eF rfl am) ?_
 refine aw (zz7 rfl rfl ah ae) ?_
 refine bK ?_
 refine gg (l := d.toList) (i := a) (d.toList.getD (p) default) rfl rfl ae ?_
 have hls1 : (List.set d.toList (a) (d.toList.getD (p) default)).length = (d.toList).length := List.length_set
 refine zz0 (zz7 rfl rfl ah ae) ?_
 refine gg (l := (d.toList.set (a) (d.toList.getD (p) default))) (i := p) (d.toList.getD (a) default) rfl rfl ae ?_
 have hls2 : (List.set (d.toList.set (a) (d.toList.getD (p) default)) (p) (d.toList.getD (a) default)).length = ((d.toList.set (a) (d.toList.getD (p) default))).length := List.length_set
 rw [dY, dY, iH, ← hd1]
 refine aH (zz0 (aa rfl) (zz0 (cp rfl rfl) ?_))
 refine zz0 (aa rfl) (zz0 (eE rfl rfl) ?_)
 refine zz0 (ab rfl) (zz0 (ab rfl) (ad (al (aF ?_))))
 refine bL (ι := Nat × Nat × Array UInt32) (fun ⟨i3, j3, cur⟩ => (a + 1 ≤ i3 ∧ i3 ≤ j3 + 1 ∧ j3 < b) ∧ cur.size = d.size ∧ partEqLoop ltW a i3 j3 cur = partitionEqual ltW d a b p) (fun _ => _) (fun ⟨i3, j3, cur⟩ => [rowE V 23 ao cur.toList]) (fun ⟨i3, j3, cur⟩ => [(9, .int .i64 (i3 : Nat)), (10, .int .i64 (j3 : Nat))]) (fun ⟨i3, j3, cur⟩ => j3 + 1 - i3) (a + 1, b - 1, d1) ⟨by omega, hs1, by rw [hd1]; rfl⟩ (Front.c (Front.c Front.nil)) (by repeat' constructor) rfl (fun i hi m hm => ?_)
 obtain ⟨i3, j3, cur⟩ := i
 replace hi : (a + 1 ≤ i3 ∧ i3 ≤ j3 + 1 ∧ j3 < b) ∧ cur.size = d.size ∧ partEqLoop ltW a i3 j3 cur = partitionEqual ltW d a b p := hi
 replace hm : m = j3 + 1 - i3 := hm
 change Tr _ _ [rowE V 23 ao cur.toList] ([(9, .int .i64 (i3 : Nat)), (10, .int .i64 (j3 : Nat))] ++ _) _
 obtain ⟨hk1, hk2, hk3⟩ := hi
 have hcl : cur.toList.length = d.size := by rw [Array.length_toList]; exact hk2
 refine aF (al (aF ?_))
 refine bL (ι := Nat) (fun x => i3 ≤ x ∧ x ≤ j3 + 1 ∧ scanUp (fun z => !ltW cur[a]! z) cur j3 x = scanUp (fun z => !ltW cur[a]! z) cur j3 i3) (fun _ => _) (fun x => [rowE V 23 ao cur.toList]) (fun x => [(9, .int .i64 (x : Nat)), (10, .int .i64 (j3 : Nat))]) (fun x => j3 + 1 - x) i3 ⟨Nat.le_refl _, by omega, rfl⟩ (Front.c (Front.c Front.nil)) (by repeat' constructor) rfl (fun x hi m hm => ?_)
 replace hi : i3 ≤ x ∧ x ≤ j3 + 1 ∧ scanUp (fun z => !ltW cur[a]! z) cur j3 x = scanUp (fun z => !ltW cur[a]! z) cur j3 i3 := hi
 replace hm : m = j3 + 1 - x := hm
 change Tr _ _ [rowE V 23 ao cur.toList] ([(9, .int .i64 (x : Nat)), (10, .int .i64 (j3 : Nat))] ++ _) _
 obtain ⟨hx1, hx2, hx3⟩ := hi
 refine al (al (io aQ ?_))
 refine aw (aa rfl) (aw (aa rfl) (aw (gr rfl rfl) (aw (aa rfl) ?_)))
 apply fN
 ·exact (rfl : _ = (11, 32, 43))
 ·exact rfl
 ·intro hT3; have hT3' := hT3
  try simp only [bs] at hT3'
  refine bY hT3 (aa rfl) (bY hT3 (aa rfl) (bY hT3 (zz7 rfl rfl ah ae) ?_))
  refine bY hT3 (eF rfl am) ?_
  refine bY hT3 (aa rfl) (bY hT3 (aa rfl) (bY hT3 (zz7 rfl rfl ah ae) ?_))
  refine bY hT3 (eF rfl am) ?_
  refine bY hT3 (aA rfl fF (fun w hw => g5 (cur.toList.getD (a) default) (cur.toList.getD (x) default) w)) ?_
  refine bY hT3 (cQ rfl) (aw (aS rfl hT3 rfl) ?_)
  exact du (Sub.cons rfl (zz9 11 rfl))
 ·intro hF3
  refine bX hF3 (bX hF3 (bX hF3 (bX hF3 (bX hF3 (bX hF3 (bX hF3 (bX hF3 (bX hF3 (bX hF3 (aw (aT rfl hF3 rfl) ?_))))))))))
  exact du (Sub.cons rfl (zz9 11 rfl))
 refine bK ?_
 refine ac ?_
 refine ar rfl ?_ ?_ <;> intro h4 <;> try simp only [bs] at h4
 ·refine bF (aF (an (zz0 (aa rfl) (zz0 (cp rfl rfl) ?_))))
  refine zz0 (ab rfl) (aD (aX (ac ?_)))
  refine cH (x + 1) (Front.c (Front.c Front.nil)) (bC 10 rfl) (o := ⟨by omega, by omega, by rw [← hx3]; exact (EI (by omega) (by rw [← dY, ← dY]; simp_all)).symm⟩)
 ·refine bJ (aG (aG (bv (ac (al (aF ?_))))))
  refine bL (ι := Nat) (fun y => y ≤ j3 ∧ x ≤ y + 1 ∧ scanDown (fun z => ltW cur[a]! z) cur x y = scanDown (fun z => ltW cur[a]! z) cur x j3) (fun _ => _) (fun y => [rowE V 23 ao cur.toList]) (fun y => [(9, .int .i64 (x : Nat)), (10, .int .i64 (y : Nat))]) (fun y => y) j3 ⟨Nat.le_refl _, by omega, rfl⟩ (Front.c (Front.c Front.nil)) (by repeat' constructor) rfl (fun y hi m hm => ?_)
  replace hi : y ≤ j3 ∧ x ≤ y + 1 ∧ scanDown (fun z => ltW cur[a]! z) cur x y = scanDown (fun z => ltW cur[a]! z) cur x j3 := hi
  replace hm : m = y := hm
  change Tr _ _ [rowE V 23 ao cur.toList] ([(9, .int .i64 (x : Nat)), (10, .int .i64 (y : Nat))] ++ _) _
  obtain ⟨hy1, hy2, hy3⟩ := hi
  refine al (al (io aQ ?_))
  refine aw (aa rfl) (aw (aa rfl) (aw (gr rfl rfl) (aw (aa rfl) ?_)))
  apply fN
  ·exact (rfl : _ = (10, 49, 59))
  ·exact rfl
  ·intro hT5; have hT5' := hT5
   try simp only [bs] at hT5'
   refine bY hT5 (aa rfl) (bY hT5 (aa rfl) (bY hT5 (zz7 rfl rfl ah ae) ?_))
   refine bY hT5 (eF rfl am) ?_
   refine bY hT5 (aa rfl) (bY hT5 (aa rfl) (bY hT5 (zz7 rfl rfl ah ae) ?_))
   refine bY hT5 (eF rfl am) ?_
   refine bY hT5 (aA rfl fF (fun w hw => g5 (cur.toList.getD (a) default) (cur.toList.getD (y) default) w)) ?_
   refine aw (aS rfl hT5 rfl) ?_
   exact du (Sub.cons rfl (zz9 10 rfl))
  ·intro hF5
   refine bX hF5 (bX hF5 (bX hF5 (bX hF5 (bX hF5 (bX hF5 (bX hF5 (bX hF5 (bX hF5 (aw (aT rfl hF5 rfl) ?_)))))))))
   exact du (Sub.cons rfl (zz9 10 rfl))
  refine bK ?_
  refine ac ?_
  refine ar rfl ?_ ?_ <;> intro h6 <;> try simp only [bs] at h6
  ·refine bF (aF (an (zz0 (aa rfl) (zz0 (eE rfl rfl) ?_))))
   refine zz0 (ab rfl) (aD (aX (ac ?_)))
   refine cH (y - 1) (Front.c (Front.c Front.nil)) (bC 10 rfl) (o := ⟨by omega, by omega, by rw [← hy3]; exact (yx (by omega) (by omega) (by rw [← dY, ← dY]; simp_all)).symm⟩)
  ·refine bJ (aG (aG (bv (ac (al (al ?_))))))
   have hX : scanUp (fun z => !ltW cur[a]! z) cur j3 i3 = x := by
    rw [← hx3]; exact xM (by
     rcases h4 with q | q
     ·exact .inl (by omega)
     ·exact .inr (by rw [← dY, ← dY, q]; rfl))
   have hY : scanDown (fun z => ltW cur[a]! z) cur x j3 = y := by
    rw [← hy3]; exact sY (by
     rcases h6 with q | q
     ·exact .inl (by omega)
     ·exact .inr (by rw [← dY, ← dY]; exact q))
   refine an (zz0 (aa rfl) (zz0 (aa rfl) (zz0 (fj rfl rfl) (ad ?_))))
   refine ar rfl ?_ ?_ <;> intro h7 <;> try simp only [bs] at h7
   ·refine bJ (aG (jF rfl ?_))
    refine aG (bv (ac (af (zz0 (aa rfl) (zz0 (ab rfl) (ad (aB ?_)))))))
    refine aV Tryz.results261 rfl (fun w' hw => ?_)
    have he := Bj hX hY (by omega)
    rw [he] at hk3
    exact ⟨by rw [← hk3], by rw [← hk3]; exact HpOK.mutOwn hw (.head _) rfl⟩
   ·refine bF (al ?_)
    have hxy : x < y := by
     rcases Nat.lt_or_ge x y with q | q
     ·exact q
     ·exfalso
      have e : x = y := by omega
      rcases h4 with g1 | g1
      ·omega
      ·rcases h6 with g2 | g2
       ·omega
       ·rw [e, g2] at g1; cases g1
    refine fO 4 13 aQ ?_
    refine eD rfl ?_
    refine eD rfl ?_
    refine eD rfl ?_
    refine eD rfl ?_
    refine bI ?_
    refine aw (aa rfl) (aw (aa rfl) (aw (zz7 rfl rfl ah ae) ?_))
    refine aw (eF rfl am) ?_
    refine aw (aa rfl) (aw (aa rfl) (aw (zz7 rfl rfl ah ae) ?_))
    refine aw (eF rfl am) ?_
    refine aw (zz7 rfl rfl ah ae) ?_
    refine bK ?_
    refine gg (l := cur.toList) (i := x) (cur.toList.getD (y) default) rfl rfl ae ?_
    have hls8 : (List.set cur.toList (x) (cur.toList.getD (y) default)).length = (cur.toList).length := List.length_set
    refine zz0 (zz7 rfl rfl ah ae) ?_
    refine gg (l := (cur.toList.set (x) (cur.toList.getD (y) default))) (i := y) (cur.toList.getD (x) default) rfl rfl ae ?_
    have hls9 : (List.set (cur.toList.set (x) (cur.toList.getD (y) default)) (y) (cur.toList.getD (x) default)).length = ((cur.toList.set (x) (cur.toList.getD (y) default))).length := List.length_set
    refine aH (zz0 (aa rfl) (zz0 (cp rfl rfl) ?_))
    refine zz0 (ab rfl) (ad (an (zz0 (aa rfl) (zz0 (eE rfl rfl) ?_))))
    refine zz0 (ab rfl) (aD (aX (ac ?_)))
    rw [dY, dY, iH]
    refine cH (x + 1, y - 1, _) (Front.c (Front.c Front.nil)) (bC 39 rfl) (o := ⟨by omega, by rw [oh]; exact hk2, by rw [← hk3]; exact (DO hX hY hxy hx1 hy1).symm⟩)
theorem uZ (d : Array UInt32) (V : Value) (a : Nat) (b : Nat) (ai : Int) (bi : Int) (ea : ai = ((a : Nat) : Int)) (eb : bi = ((b : Nat) : Int)) (w : World) (hr : (rowE V 23 ao d.toList).holds w) (hd : d.size ≤ 1000000) (hab : a + 1 < b) (hb : b ≤ d.size) :
  Calls Tryz.prog 259 #[V, .int .i64 ai, .int .i64 bi] w (fun e w' => e = .returned (.bool (partialInsertionSort ltW d a b).2) ∧ Mut w w' V ∧ (rowE V 23 ao (partialInsertionSort ltW d a b).1.toList).holds w') := by
 subst ea eb
 refine fL (l := d.toList) (E := ao) (T := 23) hr Tryz.func259 rfl Tryz.ntmps259 rfl ?_
 refine af (zz0 (ab rfl) (aH (zz0 (aa rfl) (zz0 (cp rfl rfl) ?_))))
 refine zz0 (ab rfl) (ad (al (af (zz0 (ab rfl) (ad (aF ?_))))))
 refine bL (ι := Nat × Nat × Array UInt32) (fun ⟨s, i, cur⟩ => (s ≤ 5 ∧ a + 1 ≤ i ∧ i ≤ b) ∧ cur.size = d.size ∧ partialIns ltW a b (5 - s) i cur = partialInsertionSort ltW d a b) (fun _ => _) (fun ⟨s, i, cur⟩ => [rowE V 23 ao cur.toList]) (fun ⟨s, i, cur⟩ => [(8, .int .i64 (s : Nat)), (7, .int .i64 (i : Nat))]) (fun ⟨s, i, cur⟩ => 5 - s) (0, a + 1, d) ⟨by omega, rfl, rfl⟩ (Front.c (Front.c Front.nil)) (by repeat' constructor) rfl (fun i hi m hm => ?_)
 obtain ⟨s, i, cur⟩ := i
 replace hi : (s ≤ 5 ∧ a + 1 ≤ i ∧ i ≤ b) ∧ cur.size = d.size ∧ partialIns ltW a b (5 - s) i cur = partialInsertionSort ltW d a b := hi
 replace hm : m = 5 - s := hm
 change Tr _ _ [rowE V 23 ao cur.toList] ([(8, .int .i64 (s : Nat)), (7, .int .i64 (i : Nat))] ++ _) _
 obtain ⟨hk1, hk2, hk3⟩ := hi
 have hcl : cur.toList.length = d.size := by rw [Array.length_toList]; exact hk2
 refine al (af (zz0 (aa rfl) (zz0 (bU rfl rfl) (ad ?_))))
 refine ar rfl ?_ ?_ <;> intro h1 <;> try simp only [bs] at h1
 ·refine bF (al (aF (al (aF ?_))))
  refine bL (ι := Nat) (fun x => i ≤ x ∧ x ≤ b ∧ scanSorted ltW cur b x = scanSorted ltW cur b i) (fun _ => _) (fun x => [rowE V 23 ao cur.toList]) (fun x => [(7, .int .i64 (x : Nat)), (8, .int .i64 (s : Nat))]) (fun x => b - x) i ⟨Nat.le_refl _, by omega, rfl⟩ (Front.c (Front.c Front.nil)) (by repeat' constructor) rfl (fun x hi m hm => ?_)
  replace hi : i ≤ x ∧ x ≤ b ∧ scanSorted ltW cur b x = scanSorted ltW cur b i := hi
  replace hm : m = b - x := hm
  change Tr _ _ [rowE V 23 ao cur.toList] ([(7, .int .i64 (x : Nat)), (8, .int .i64 (s : Nat))] ++ _) _
  obtain ⟨hx1, hx2, hx3⟩ := hi
  have ex : ((x : Int) - 1).toNat = x - 1 := by omega
  refine al (al (io aQ ?_))
  refine aw (aa rfl) (aw (aa rfl) (aw (bU rfl rfl) (aw (aa rfl) ?_)))
  apply fN
  ·exact (rfl : _ = (12, 20, 32))
  ·exact rfl
  ·intro hT2; have hT2' := hT2
   try simp only [bs] at hT2'
   refine bY hT2 (aa rfl) (bY hT2 (aa rfl) (bY hT2 (zz7 rfl rfl ah ae) ?_))
   refine bY hT2 (eF rfl am) ?_
   refine bY hT2 (aa rfl) (bY hT2 (aa rfl) (bY hT2 (eE rfl rfl) ?_))
   refine bY hT2 (jJ rfl rfl ah ae) ?_
   refine bY hT2 (eF rfl am) ?_
   refine bY hT2 (aA rfl fF (fun w hw => g5 (cur.toList.getD (x) default) (cur.toList.getD (((x : Int) - 1).toNat) default) w)) ?_
   refine bY hT2 (cQ rfl) (aw (aS rfl hT2 rfl) ?_)
   exact du (Sub.cons rfl (zz9 12 rfl))
  ·intro hF2
   refine bX hF2 (bX hF2 (bX hF2 (bX hF2 (bX hF2 (bX hF2 (bX hF2 (bX hF2 (bX hF2 (bX hF2 (bX hF2 (aw (aT rfl hF2 rfl) ?_)))))))))))
   exact du (Sub.cons rfl (zz9 12 rfl))
  refine bK ?_
  refine ac ?_
  refine ar rfl ?_ ?_ <;> intro h3 <;> try simp only [bs] at h3
  ·refine bF (aF (an (zz0 (aa rfl) (zz0 (cp rfl rfl) ?_))))
   refine zz0 (ab rfl) (aD (aX (ac ?_)))
   refine cH (x + 1) (Front.c (Front.c Front.nil)) (bC 10 rfl) (o := ⟨by omega, by omega, by rw [← hx3]; exact (Jr (by omega) (by rw [← dY, ← dY, ← ex]; simp_all)).symm⟩)
  ·refine bJ (aG (aG (bv (ac (al (al ?_))))))
   have hX : scanSorted ltW cur b i = x := by
    rw [← hx3]; exact Hh (by
     rcases h3 with q | q
     ·exact .inl (by omega)
     ·exact .inr (by rw [← dY, ← dY, ← ex]; exact q))
   refine an (zz0 (aa rfl) (zz0 (aa rfl) (zz0 (bB rfl rfl) (ad ?_))))
   refine ar rfl ?_ ?_ <;> intro h4 <;> try simp only [bs] at h4
   ·refine af (zz0 (ab rfl) (ad (aB (ay (bA (ay (ay (bA (ay ?_)))))))))
    refine aV nf rfl (fun w' hw => ?_)
    rw [show 5 - s = (4 - s) + 1 by omega, Bn hX (by omega)] at hk3
    exact ⟨by rw [← hk3], by rw [← hk3]; exact HpOK.mutOwn hw (.head _) rfl⟩
   ·refine bF (al (af (zz0 (aa rfl) (zz0 (aa rfl) (zz0 (eE rfl rfl) ?_)))))
    refine zz0 (bU rfl rfl) (ad ?_)
    refine ar rfl ?_ ?_ <;> intro h5 <;> try simp only [bs] at h5
    ·refine af (zz0 (ab rfl) (ad (aB (ay (bA (ay (ay (bA (ay ?_)))))))))
     refine aV nf rfl (fun w' hw => ?_)
     rw [show 5 - s = (4 - s) + 1 by omega, IJ hX (by omega) (by omega)] at hk3
     exact ⟨by rw [← hk3], by rw [← hk3]; exact HpOK.mutOwn hw (.head _) rfl⟩
    ·refine bF (al (fO 5 15 aQ ?_))
     refine eD rfl ?_
     refine eD rfl ?_
     refine eD rfl ?_
     refine eD rfl ?_
     refine gG (fun _ => eE rfl rfl) (by rfl) rfl ?_
     refine bI ?_
     refine aw (aa rfl) (aw (aa rfl) (aw (eE rfl rfl) ?_))
     refine aw (jJ rfl rfl ah ae) ?_
     refine aw (eF rfl am) ?_
     refine aw (aa rfl) (aw (aa rfl) (aw (zz7 rfl rfl ah ae) ?_))
     refine aw (eF rfl am) ?_
     refine aw (zz7 rfl rfl ah ae) ?_
     refine bK ?_
     refine gg (l := cur.toList) (i := x) (cur.toList.getD (((x : Int) - 1).toNat) default) rfl rfl ae ?_
     have hls6 : (List.set cur.toList (x) (cur.toList.getD (((x : Int) - 1).toNat) default)).length = (cur.toList).length := List.length_set
     refine zz0 (jJ rfl rfl ah ae) ?_
     refine gg (l := (cur.toList.set (x) (cur.toList.getD (((x : Int) - 1).toNat) default))) (i := ((x : Int) - 1).toNat) (cur.toList.getD (x) default) rfl rfl ae ?_
     have hls7 : (List.set (cur.toList.set (x) (cur.toList.getD (((x : Int) - 1).toNat) default)) (((x : Int) - 1).toNat) (cur.toList.getD (x) default)).length = ((cur.toList.set (x) (cur.toList.getD (((x : Int) - 1).toNat) default))).length := List.length_set
     rw [ex, dY, dY, iH]
     refine ad ?_
     refine di (ι := Array UInt32) (fun d3 => d3.size = d.size ∧ d3 = if x - a ≥ 2 then shiftDown ltW (x - 1) (swp cur x (x - 1)) else swp cur x (x - 1)) (fun _ => Bg.less w V) (fun d3 => [rowE V 23 ao d3.toList]) (fun d3 => []) ?_ (fun d3 hi => ?_)
     ·skip
      refine af (zz0 (aa rfl) (zz0 (aa rfl) (zz0 (eE rfl rfl) ?_)))
      refine zz0 (eJ rfl rfl) (ad ?_)
      refine ar rfl ?_ ?_ <;> intro h8 <;> try simp only [bs] at h8
      ·refine af (zz0 (aa rfl) (zz0 (eE rfl rfl) ?_))
       refine zz0 (ab rfl) (ad (aF ?_))
       refine bL (ι := Nat × Array UInt32) (fun ⟨y, c3⟩ => y < x ∧ c3.size = d.size ∧ shiftDown ltW y c3 = shiftDown ltW (x - 1) (swp cur x (x - 1))) (fun _ => _) (fun ⟨y, c3⟩ => [rowE V 23 ao c3.toList]) (fun ⟨y, c3⟩ => [(9, .int .i64 (y : Nat))]) (fun ⟨y, c3⟩ => y) (x - 1, _) ⟨by omega, by rw [oh]; exact hk2, rfl⟩ (Front.c Front.nil) (by repeat' constructor) rfl (fun i hi m hm => ?_)
       obtain ⟨y, c3⟩ := i
       replace hi : y < x ∧ c3.size = d.size ∧ shiftDown ltW y c3 = shiftDown ltW (x - 1) (swp cur x (x - 1)) := hi
       replace hm : m = y := hm
       change Tr _ _ [rowE V 23 ao c3.toList] ([(9, .int .i64 (y : Nat))] ++ _) _
       obtain ⟨hy1, hy2, hy3⟩ := hi
       have ey : ((y : Int) - 1).toNat = y - 1 ∨ y = 0 := by omega
       have hc3 : c3.toList.length = d.size := by rw [Array.length_toList]; exact hy2
       refine al (af (zz0 (aa rfl) (zz0 (eJ rfl rfl) (ad ?_))))
       refine ar rfl ?_ ?_ <;> intro h9 <;> try simp only [bs] at h9
       ·refine bF (al (aF (al (al (io aQ ?_)))))
        refine aw (aa rfl) (aw (aa rfl) (aw (zz7 rfl rfl ah ae) ?_))
        refine aw (eF rfl am) ?_
        refine aw (aa rfl) (aw (aa rfl) (aw (eE rfl rfl) ?_))
        refine aw (jJ rfl rfl ah ae) ?_
        refine aw (eF rfl am) ?_
        refine aw (aA rfl fF (fun w hw => g5 (c3.toList.getD (y) default) (c3.toList.getD (((y : Int) - 1).toNat) default) w)) ?_
        refine aw (cQ rfl) (bK ?_)
        refine ac ?_
        refine ar rfl ?_ ?_ <;> intro h10 <;> try simp only [bs] at h10
        ·refine bJ (aG (jF rfl ?_))
         refine aG (aG (bv (ac ?_)))
         refine cw c3 Front.nil (bC 21 rfl) (o := ⟨hy2, by rw [if_pos (by omega), ← hy3]; exact (Cs (by first | exact .inl (by omega) | exact .inr (by have e := ey.resolve_right (by omega); rw [← dY, ← dY, ← e]; assumption))).symm⟩)
        ·refine bF (fO 5 15 aQ ?_)
         refine eD rfl ?_
         refine eD rfl ?_
         refine eD rfl ?_
         refine eD rfl ?_
         refine gG (fun _ => eE rfl rfl) (by rfl) rfl ?_
         refine bI ?_
         refine aw (aa rfl) (aw (aa rfl) (aw (eE rfl rfl) ?_))
         refine aw (jJ rfl rfl ah ae) ?_
         refine aw (eF rfl am) ?_
         refine aw (aa rfl) (aw (aa rfl) (aw (zz7 rfl rfl ah ae) ?_))
         refine aw (eF rfl am) ?_
         refine aw (zz7 rfl rfl ah ae) ?_
         refine bK ?_
         refine gg (l := c3.toList) (i := y) (c3.toList.getD (((y : Int) - 1).toNat) default) rfl rfl ae ?_
         have hls11 : (List.set c3.toList (y) (c3.toList.getD (((y : Int) - 1).toNat) default)).length = (c3.toList).length := List.length_set
         refine zz0 (jJ rfl rfl ah ae) ?_
         refine gg (l := (c3.toList.set (y) (c3.toList.getD (((y : Int) - 1).toNat) default))) (i := ((y : Int) - 1).toNat) (c3.toList.getD (y) default) rfl rfl ae ?_
         have hls12 : (List.set (c3.toList.set (y) (c3.toList.getD (((y : Int) - 1).toNat) default)) (((y : Int) - 1).toNat) (c3.toList.getD (y) default)).length = ((c3.toList.set (y) (c3.toList.getD (((y : Int) - 1).toNat) default))).length := List.length_set
         refine aD (aX (ac (an (zz0 (aa rfl) (zz0 (eE rfl rfl) ?_)))))
         refine zz0 (ab rfl) (ad ?_)
         rw [ey.resolve_right (by omega), dY, dY, iH]
         refine cH (y - 1, _) (Front.c Front.nil) (bC 33 rfl) (o := ⟨by omega, by rw [oh]; exact hy2, by rw [← hy3]; exact (Js (by omega) (by have e := ey.resolve_right (by omega); rw [← dY, ← dY, ← e]; assumption)).symm⟩)
       ·refine bJ (aG (aG (bv (ac ?_))))
        refine cw c3 Front.nil (bC 10 rfl) (o := ⟨hy2, by rw [if_pos (by omega), ← hy3]; exact (Cs (by first | exact .inl (by omega) | exact .inr (by have e := ey.resolve_right (by omega); rw [← dY, ← dY, ← e]; assumption))).symm⟩)
      ·refine bF ?_
       refine cw _ Front.nil (bC 4 rfl) (o := ⟨by rw [oh]; exact hk2, by rw [if_neg (by omega)]⟩)
     ·skip
      replace hi : d3.size = d.size ∧ d3 = if x - a ≥ 2 then shiftDown ltW (x - 1) (swp cur x (x - 1)) else swp cur x (x - 1) := hi
      change Tr _ _ [rowE V 23 ao d3.toList] ([] ++ _) _
      have hd3 := hi
      have hl3 : d3.toList.length = d.size := by rw [Array.length_toList]; exact hi.1
      refine af (zz0 (aa rfl) (zz0 (aa rfl) (zz0 (eE rfl rfl) ?_)))
      refine zz0 (eJ rfl rfl) (ad ?_)
      refine ar rfl ?_ ?_ <;> intro h13 <;> try simp only [bs] at h13
      ·refine af (zz0 (aa rfl) (zz0 (cp rfl rfl) ?_))
       refine zz0 (ab rfl) (ad (aF ?_))
       refine bL (ι := Nat × Array UInt32) (fun ⟨z, c4⟩ => x < z ∧ c4.size = d.size ∧ shiftUp ltW b z c4 = shiftUp ltW b (x + 1) d3) (fun _ => _) (fun ⟨z, c4⟩ => [rowE V 23 ao c4.toList]) (fun ⟨z, c4⟩ => [(10, .int .i64 (z : Nat))]) (fun ⟨z, c4⟩ => b - z) (x + 1, d3) ⟨by omega, hd3.1, rfl⟩ (Front.c Front.nil) (by repeat' constructor) rfl (fun i hi m hm => ?_)
       obtain ⟨z, c4⟩ := i
       replace hi : x < z ∧ c4.size = d.size ∧ shiftUp ltW b z c4 = shiftUp ltW b (x + 1) d3 := hi
       replace hm : m = b - z := hm
       change Tr _ _ [rowE V 23 ao c4.toList] ([(10, .int .i64 (z : Nat))] ++ _) _
       obtain ⟨hz1, hz2, hz3⟩ := hi
       have ez : ((z : Int) - 1).toNat = z - 1 := by omega
       have hc4 : c4.toList.length = d.size := by rw [Array.length_toList]; exact hz2
       refine al (af (zz0 (aa rfl) (zz0 (aa rfl) (zz0 (bU rfl rfl) (ad ?_)))))
       refine ar rfl ?_ ?_ <;> intro h14 <;> try simp only [bs] at h14
       ·refine bF (al (aF (al (al (io aQ ?_)))))
        refine aw (aa rfl) (aw (aa rfl) (aw (zz7 rfl rfl ah ae) ?_))
        refine aw (eF rfl am) ?_
        refine aw (aa rfl) (aw (aa rfl) (aw (eE rfl rfl) ?_))
        refine aw (jJ rfl rfl ah ae) ?_
        refine aw (eF rfl am) ?_
        refine aw (aA rfl fF (fun w hw => g5 (c4.toList.getD (z) default) (c4.toList.getD (((z : Int) - 1).toNat) default) w)) ?_
        refine aw (cQ rfl) (bK ?_)
        refine ac ?_
        refine ar rfl ?_ ?_ <;> intro h15 <;> try simp only [bs] at h15
        ·refine bJ (aG (jF rfl ?_))
         refine aG (aG (bv (aX (ac (an (zz0 (aa rfl) (zz0 (cp rfl rfl) ?_)))))))
         refine zz0 (ab rfl) (ad ?_)
         refine cH (s + 1, x, c4) (Front.c (Front.c Front.nil)) (bC 59 rfl) (o := ⟨by omega, hz2, by rw [← hk3, show 5 - s = (5 - (s + 1)) + 1 by omega]; exact (sG hX (by omega) (by omega) hd3.2 (by rw [if_pos (by omega), ← hz3]; exact (Cn (by first | exact .inl (by omega) | exact .inr (by rw [← dY, ← dY, ← ez]; assumption))).symm)).symm⟩)
        ·refine bF (fO 5 15 aQ ?_)
         refine eD rfl ?_
         refine eD rfl ?_
         refine eD rfl ?_
         refine eD rfl ?_
         refine gG (fun _ => eE rfl rfl) (by rfl) rfl ?_
         refine bI ?_
         refine aw (aa rfl) (aw (aa rfl) (aw (eE rfl rfl) ?_))
         refine aw (jJ rfl rfl ah ae) ?_
         refine aw (eF rfl am) ?_
         refine aw (aa rfl) (aw (aa rfl) (aw (zz7 rfl rfl ah ae) ?_))
         refine aw (eF rfl am) ?_
         refine aw (zz7 rfl rfl ah ae) ?_
         refine bK ?_
         refine gg (l := c4.toList) (i := z) (c4.toList.getD (((z : Int) - 1).toNat) default) rfl rfl ae ?_
         have hls16 : (List.set c4.toList (z) (c4.toList.getD (((z : Int) - 1).toNat) default)).length = (c4.toList).length := List.length_set
         refine zz0 (jJ rfl rfl ah ae) ?_
         refine gg (l := (c4.toList.set (z) (c4.toList.getD (((z : Int) - 1).toNat) default))) (i := ((z : Int) - 1).toNat) (c4.toList.getD (z) default) rfl rfl ae ?_
         have hls17 : (List.set (c4.toList.set (z) (c4.toList.getD (((z : Int) - 1).toNat) default)) (((z : Int) - 1).toNat) (c4.toList.getD (z) default)).length = ((c4.toList.set (z) (c4.toList.getD (((z : Int) - 1).toNat) default))).length := List.length_set
         refine aD (aX (ac (an (zz0 (aa rfl) (zz0 (cp rfl rfl) ?_)))))
         refine zz0 (ab rfl) (ad ?_)
         rw [ez, dY, dY, iH]
         refine cH (z + 1, _) (Front.c Front.nil) (bC 34 rfl) (o := ⟨by omega, by rw [oh]; exact hz2, by rw [← hz3]; exact (Jq (by omega) (by rw [← dY, ← dY, ← ez]; assumption)).symm⟩)
       ·refine bJ (aG (aG (bv (aX (ac (an (zz0 (aa rfl) (zz0 (cp rfl rfl) ?_))))))))
        refine zz0 (ab rfl) (ad ?_)
        refine cH (s + 1, x, c4) (Front.c (Front.c Front.nil)) (bC 48 rfl) (o := ⟨by omega, hz2, by rw [← hk3, show 5 - s = (5 - (s + 1)) + 1 by omega]; exact (sG hX (by omega) (by omega) hd3.2 (by rw [if_pos (by omega), ← hz3]; exact (Cn (by first | exact .inl (by omega) | exact .inr (by rw [← dY, ← dY, ← ez]; assumption))).symm)).symm⟩)
      ·refine cg (aX (ac (an (zz0 (aa rfl) (zz0 (cp rfl rfl) ?_)))))
       refine zz0 (ab rfl) (ad ?_)
       refine cH (s + 1, x, d3) (Front.c (Front.c Front.nil)) (bC 41 rfl) (o := ⟨by omega, hd3.1, by rw [← hk3, show 5 - s = (5 - (s + 1)) + 1 by omega]; exact (sG hX (by omega) (by omega) hd3.2 (by rw [if_neg (by omega)])).symm⟩)
 ·refine bJ (aG (aG (bv (ac (af (zz0 (ab rfl) (ad (aB ?_))))))))
  refine aV nf rfl (fun w' hw => ?_)
  obtain rfl : s = 5 := by omega
  have hk4 : (cur, false) = partialInsertionSort ltW d a b := hk3
  exact ⟨by rw [← hk4], by rw [← hk4]; exact HpOK.mutOwn hw (.head _) rfl⟩
end Go.Proofs.YtiajjbhcpeadfaaGreat
namespace Go.HL
open Go Go.RowKit Go.Sort
section
variable {P : Program} {N : Nat} {F : Bg} {L : List Ent} {M : Fr} {dst : Option Tmp} {ty : TypeId} {pos : String} {after : Array Edge} {g : Option (Nat × Bool)}
theorem aY {x : Operand} {a : Addr} (hx : opv M x = some (.pointer (some a))) : QS P N F L M ⟨dst, .nilCheck x, ty, pos, after, g⟩ (.pointer (some a)) :=
 co fun A w ha _ => by simp [execOp, ha.eval hx]
theorem vK {m n : UInt64} {x y : Operand} {t u : TypeId} (hx : opv M x = some (.int .u64 m.toNat)) (hy : opv M y = some (.int .u64 n.toNat)) : QS P N F L M ⟨dst, .binOp .xor t x y u, ty, pos, after, g⟩ (.int .u64 (m ^^^ n).toNat) := by
 have := GT (P := P) (N := N) (F := F) (L := L) (dst := dst) (ty := ty) (pos := pos) (after := after) (g := g) (t := t) (u := u) hx hy
 have e : IntKind.u64.wrap ((BitVec.ofInt IntKind.u64.bits m.toNat ^^^ BitVec.ofInt IntKind.u64.bits n.toNat).toNat : Int) = ((m ^^^ n).toNat : Int) := by
  have h1 : BitVec.ofInt 64 (m.toNat : Int) = m.toBitVec := by simp
  have h2 : BitVec.ofInt 64 (n.toNat : Int) = n.toBitVec := by simp
  show IntKind.u64.wrap ((BitVec.ofInt 64 m.toNat ^^^ BitVec.ofInt 64 n.toNat).toNat : Int) = _
  rw [h1, h2, IntWalk.u64_in]
  ·rfl
  ·have := (m ^^^ n).toNat_lt
   show 0 ≤ ((m ^^^ n).toNat : Int) ∧ ((m ^^^ n).toNat : Int) ≤ _
   omega
 rwa [e] at this
theorem AQ {m : UInt64} {x y : Operand} {t u : TypeId} {k' : IntKind} (c : UInt64) (hx : opv M x = some (.int .u64 m.toNat)) (hy : opv M y = some (.int k' (c.toNat : Int))) (hc : c.toNat < 64) : QS P N F L M ⟨dst, .binOp .shl t x y u, ty, pos, after, g⟩ (.int .u64 (m <<< c).toNat) := by
 have := Cd (P := P) (N := N) (F := F) (L := L) (dst := dst) (ty := ty) (pos := pos) (after := after) (g := g) (t := t) (u := u) hx hy (by omega)
 have e : IntKind.u64.wrap ((m.toNat : Int) * 2 ^ (min (c.toNat : Int).toNat IntKind.u64.bits)) = ((m <<< c).toNat : Int) := by
  rw [IntKind.wrap_u64, UInt64.toNat_shiftLeft, Int.toNat_natCast, Nat.min_eq_left (by show c.toNat ≤ 64; omega), Nat.mod_eq_of_lt hc, Nat.shiftLeft_eq, Int.natCast_emod, Int.natCast_mul, Int.natCast_pow]
  rfl
 rwa [e] at this
theorem GX {m : UInt64} {x y : Operand} {t u : TypeId} {k' : IntKind} (c : UInt64) (hx : opv M x = some (.int .u64 m.toNat)) (hy : opv M y = some (.int k' (c.toNat : Int))) (hc : c.toNat < 64) : QS P N F L M ⟨dst, .binOp .shr t x y u, ty, pos, after, g⟩ (.int .u64 (m >>> c).toNat) := by
 have := tj (P := P) (N := N) (F := F) (L := L) (dst := dst) (ty := ty) (pos := pos) (after := after) (g := g) (t := t) (u := u) hx hy (by omega)
 have e : (m.toNat : Int).fdiv (2 ^ (min (c.toNat : Int).toNat IntKind.u64.bits)) = ((m >>> c).toNat : Int) := by
  rw [UInt64.toNat_shiftRight, Int.toNat_natCast, Nat.min_eq_left (by show c.toNat ≤ 64; omega), Nat.mod_eq_of_lt hc, Nat.shiftRight_eq_div_pow, Int.fdiv_eq_ediv_of_nonneg _ (by
   have : (0 : Int) < 2 ^ c.toNat := Int.pow_pos (by decide)
   omega)]
  rw [Int.natCast_ediv, Int.natCast_pow]; rfl
 rwa [e] at this
theorem C6 {m : Nat} {x y : Operand} {t u : TypeId} {k' : IntKind} (c : Nat) (hx : opv M x = some (.int .u64 (m : Int))) (hy : opv M y = some (.int k' (c : Int))) (hc : c ≤ 64) : QS P N F L M ⟨dst, .binOp .shr t x y u, ty, pos, after, g⟩ (.int .u64 ((m / 2 ^ c : Nat) : Int)) := by
 have := tj (P := P) (N := N) (F := F) (L := L) (dst := dst) (ty := ty) (pos := pos) (after := after) (g := g) (t := t) (u := u) hx hy (by omega)
 have e : (m : Int).fdiv (2 ^ (min (c : Int).toNat IntKind.u64.bits)) = ((m / 2 ^ c : Nat) : Int) := by
  rw [Int.toNat_natCast, Nat.min_eq_left (show c ≤ IntKind.u64.bits from hc), Int.fdiv_eq_ediv_of_nonneg _ (by
   have : (0 : Int) < 2 ^ c := Int.pow_pos (by decide)
   omega), Int.natCast_ediv, Int.natCast_pow]; rfl
 rwa [e] at this
theorem Eo {x y : Operand} {t u : TypeId} {k' : IntKind} {c : Nat} (hx : opv M x = some (.int .u64 1)) (hy : opv M y = some (.int k' (c : Int))) (hc : c < 64) : QS P N F L M ⟨dst, .binOp .shl t x y u, ty, pos, after, g⟩ (.int .u64 ((1 <<< c : Nat) : Int)) := by
 have := Cd (P := P) (N := N) (F := F) (L := L) (dst := dst) (ty := ty) (pos := pos) (after := after) (g := g) (t := t) (u := u) hx hy (by omega)
 have e : IntKind.u64.wrap ((1 : Int) * 2 ^ (min (c : Int).toNat IntKind.u64.bits)) = ((1 <<< c : Nat) : Int) := by
  have h1 : 2 ^ c < 2 ^ 64 := Nat.pow_lt_pow_right (by decide) hc
  rw [Int.toNat_natCast, Nat.min_eq_left (by show c ≤ 64; omega), Int.one_mul, Nat.one_shiftLeft, IntWalk.u64_in]
  ·rw [Int.natCast_pow]; rfl
  ·have h2 : ((2 : Int) ^ c) = ((2 ^ c : Nat) : Int) := by rw [Int.natCast_pow]; rfl
   rw [h2]
   generalize 2 ^ c = z at h1
   have h1' : z < 18446744073709551616 := h1
   omega
 rwa [e] at this
theorem G6 {m n : Nat} {x y : Operand} {t u : TypeId} (hx : opv M x = some (.int .u64 (m : Int))) (hy : opv M y = some (.int .u64 (n : Int))) (hm : m < 18446744073709551616) (hn : n < 18446744073709551616) : QS P N F L M ⟨dst, .binOp .and t x y u, ty, pos, after, g⟩ (.int .u64 ((m &&& n : Nat) : Int)) := by
 have := yZ (P := P) (N := N) (F := F) (L := L) (dst := dst) (ty := ty) (pos := pos) (after := after) (g := g) (t := t) (u := u) hx hy
 have e : IntKind.u64.wrap ((BitVec.ofInt IntKind.u64.bits (m : Int) &&& BitVec.ofInt IntKind.u64.bits (n : Int)).toNat : Int) = ((m &&& n : Nat) : Int) := by
  have h1 : (BitVec.ofInt 64 (m : Int)).toNat = m := by rw [BitVec.toNat_ofInt]; omega
  have h2 : (BitVec.ofInt 64 (n : Int)).toNat = n := by rw [BitVec.toNat_ofInt]; omega
  show IntKind.u64.wrap ((BitVec.ofInt 64 (m : Int) &&& BitVec.ofInt 64 (n : Int)).toNat : Int) = _
  rw [BitVec.toNat_and, h1, h2, IntWalk.u64_in]
  have : m &&& n ≤ n := Nat.and_le_right
  omega
 rwa [e] at this
theorem Ch {x : Operand} {s d : TypeId} {ds : TypeDesc} {k : IntKind} {m : Int} (n : Nat) (hx : opv M x = some (.int k m)) (hs : P.underlying s = some ds) (hd : P.underlying d = some (.int .u64)) (hm : m = (n : Int)) (hn : n < 18446744073709551616) :
  QS P N F L M ⟨dst, .convert s d x, ty, pos, after, g⟩ (.int .u64 ((UInt64.ofNat n).toNat : Int)) := by
 have h := nw (N := N) (F := F) (L := L) (dst := dst) (ty := ty) (pos := pos) (after := after) (g := g) hx hs hd
 rw [hm, IntWalk.u64_in _ (by omega)] at h
 rwa [UInt64.toNat_ofNat', Nat.mod_eq_of_lt hn]
theorem GU {m n : Nat} {x y : Operand} {t u : TypeId} (hx : opv M x = some (.int .u64 (m : Int))) (hy : opv M y = some (.int .u64 (n : Int))) (h : n ≤ m) (hm : m < 18446744073709551616) : QS P N F L M ⟨dst, .binOp .sub t x y u, ty, pos, after, g⟩ (.int .u64 ((m - n : Nat) : Int)) := by
 have := uD (P := P) (N := N) (F := F) (L := L) (dst := dst) (ty := ty) (pos := pos) (after := after) (g := g) (t := t) (u := u) hx hy (by omega)
 rwa [show (m : Int) - (n : Int) = ((m - n : Nat) : Int) by omega] at this
def IA : List UInt8 := (List.range 256).map fun i => UInt8.ofNat (bitsLen i)
theorem xr {i : Nat} (h : i < 256) : bitsLen i ≤ 8 := (bitsLen_le_iff i 8).2 h
theorem Et {x y : Operand} {t : TypeId} {s : ByteArray} {i : Nat} (hx : opv M x = some (.string s)) (hy : opv M y = some (.int .u8 (i : Int))) (ht : P.underlying t = some .string) (hs : s.data.toList = IA) (hi : i < 256) :
  QS P N F L M ⟨dst, .index t x y, ty, pos, after, g⟩ (.int .u8 ((bitsLen i : Nat) : Int)) := by
 have hz : s.size = 256 := by
  have : s.data.toList.length = 256 := by rw [hs]; simp [IA]
  rw [← this, Array.length_toList]; rfl
 have := ti (P := P) (N := N) (F := F) (L := L) (dst := dst) (ty := ty) (pos := pos) (after := after) (g := g) hx hy ht (by omega)
 have e : (s.data.toList.getD (i : Int).toNat 0).toNat = bitsLen i := by
  rw [hs, Int.toNat_natCast, List.getD_eq_getElem?_getD]
  have h8 := xr hi
  simp [IA, hi]
  omega
 rwa [e] at this
end
theorem rowE.len {α β : Type} {V : Value} {T T' : TypeId} {E : Enc α} {G : Enc β} {l : List α} {l' : List β} {w w' : World} (h : (rowE V T E l).holds w) (h' : (rowE V T' G l').holds w') : l'.length = l.length := by
 obtain ⟨a, c, e, _⟩ := (rowE.sl h).shape
 obtain ⟨a', c', e', _⟩ := (rowE.sl h').shape
 rw [e] at e'
 injection e' with _ e2
 exact e2.symm
theorem kG {α β : Type} {N : Nat} {F : Bg} {L : List Ent} {M : Fr} {V : Value} {T T' : TypeId} {E : Enc α} {G : Enc β} {l0 : List α} {l : List β} {w : World} {X : Act → World → Prop} (h : (rowE V T E l0).holds w) (hm : rowE V T' G l ∈ L) (K : l.length = l0.length → Tr N F L M X) : Tr N F L M X :=
 fun a w' ha hw => K (rowE.len h (hw.ent _ hm)) a w' ha hw
theorem HpOK.own {F : Bg} {L Lo R : List Ent} {w : World} (h : HpOK F L w) (hs : Split L Lo R) : OwnAt w Lo := (h.perm hs.perm.symm).ownAt.left
theorem tO {x c : Nat} (h : 2 ^ c ≤ x) : bitsLen x = c + bitsLen (x / 2 ^ c) := by
 have key : ∀ k, bitsLen x ≤ k ↔ c + bitsLen (x / 2 ^ c) ≤ k := fun k => by
  rw [bitsLen_le_iff]
  rcases Nat.lt_or_ge k c with hk | hk
  ·have : 2 ^ k < 2 ^ c := Nat.pow_lt_pow_right (by decide) hk
   constructor <;> intro h' <;> omega
  ·obtain ⟨j, rfl⟩ : ∃ j, k = c + j := ⟨k - c, by omega⟩
   rw [show (c + bitsLen (x / 2 ^ c) ≤ c + j) ↔ bitsLen (x / 2 ^ c) ≤ j by omega, bitsLen_le_iff, Nat.div_lt_iff_lt_mul (Nat.two_pow_pos _), Nat.pow_add, Nat.mul_comm]
 exact Nat.le_antisymm ((key _).2 (Nat.le_refl _)) ((key _).1 (Nat.le_refl _))
theorem Jz {x : Nat} (h : 65536 ≤ x) : bitsLen x = 16 + bitsLen (x / 2 ^ 16) := tO h
theorem len8 {x : Nat} (h : 256 ≤ x) : bitsLen x = 8 + bitsLen (x / 2 ^ 8) := tO h
theorem sH {d : Array UInt32} {a b s : Nat} {i : Nat × Nat × Nat} (hi : i = order2 ltW d a b s) {n : Nat} (ha : a < n) (hb : b < n) : i.1 < n ∧ i.2.1 < n ∧ i.2.2 ≤ s + 1 := by
 subst hi
 refine ⟨?_, ?_, order2_count ltW d a b s⟩ <;> unfold order2 <;> split <;> assumption
theorem wR {d : Array UInt32} {a b c s : Nat} {i : Nat × Nat} (hi : i = median ltW d a b c s) {n : Nat} (ha : a < n) (hb : b < n) (hc : c < n) : i.1 < n ∧ i.2 ≤ s + 3 := by
 subst hi
 refine ⟨?_, median_count ltW d a b c s⟩
 rcases median_mem ltW d a b c s with h | h | h <;> rw [h] <;> assumption
theorem BW {d : Array UInt32} {a s : Nat} {i : Nat × Nat} (hi : i = medianAdjacent ltW d a s) {n : Nat} (ha : a + 1 < n) : i.1 < n ∧ i.2 ≤ s + 3 := wR hi (by omega) (by omega) ha
theorem Hq {d : Array UInt32} {a b : Nat} {i1 i2 i3 i4 : Nat × Nat} (h : 50 ≤ b - a) (e1 : i1 = medianAdjacent ltW d (a + (b - a) / 4 * 1) 0) (e2 : i2 = medianAdjacent ltW d (a + (b - a) / 4 * 2) i1.2) (e3 : i3 = medianAdjacent ltW d (a + (b - a) / 4 * 3) i2.2)
  (e4 : i4 = median ltW d i1.1 i2.1 i3.1 i3.2) : i4 = rawPivot ltW d a b := by
 subst e1 e2 e3 e4
 unfold rawPivot
 rw [if_pos (by omega), if_pos (by omega)]
theorem Ho {d : Array UInt32} {a b : Nat} {i4 : Nat × Nat} (h8 : 8 ≤ b - a) (h : b - a < 50) (e4 : i4 = median ltW d (a + (b - a) / 4 * 1) (a + (b - a) / 4 * 2) (a + (b - a) / 4 * 3) 0) : i4 = rawPivot ltW d a b := by
 subst e4
 unfold rawPivot
 rw [if_pos (by omega), if_neg (by omega)]
theorem E9 {d : Array UInt32} {a b : Nat} (h8 : b - a < 8) : ((a + (b - a) / 4 * 2, 0) : Nat × Nat) = rawPivot ltW d a b := by
 unfold rawPivot
 rw [if_neg (by omega)]
def q9 (a len m i0 : Nat) : Nat → UInt64 × Array UInt32 → UInt64 × Array UInt32
 | 0, st => st
 | t + 1, st => breakStep a len m (q9 a len m i0 t st) (i0 + t)
theorem GE {d : Array UInt32} {a b : Nat} (h : 8 ≤ b - a) : breakPatterns d a b = (q9 a (b - a) (1 <<< bitsLen (b - a)) (a + (b - a) / 4 * 2 - 1) 3 (UInt64.ofNat (b - a), d)).2 := by
 unfold breakPatterns
 simp only []
 rw [if_pos h]; rfl
theorem GB {d : Array UInt32} {a b : Nat} (h : b - a < 8) : breakPatterns d a b = d := by
 unfold breakPatterns
 simp only []
 rw [if_neg (by omega)]
theorem GA {a len m i0 t : Nat} {st : UInt64 × Array UInt32} {r : UInt64} {cur : Array UInt32} {o : Nat} (h : q9 a len m i0 t st = (r, cur)) (ho : o = if len ≤ ((xorNext r).toNat &&& (m - 1)) then ((xorNext r).toNat &&& (m - 1)) - len else ((xorNext r).toNat &&& (m - 1))) :
  q9 a len m i0 (t + 1) st = (xorNext r, swp cur (i0 + t) (a + o)) := by
 subst ho
 show breakStep a len m (q9 a len m i0 t st) (i0 + t) = _
 rw [h]; rfl
theorem IQ {n : Nat} (h : 0 < n) : 1 ≤ 1 <<< bitsLen n ∧ 1 <<< bitsLen n ≤ 2 * n := by
 rw [Nat.one_shiftLeft]
 exact ⟨Nat.two_pow_pos _, two_pow_bitsLen_le h⟩
section
variable {d : Array UInt32} {a b limit : Nat} {wb wp : Bool}
theorem v6 (h : b - a ≤ 12) : pdq ltW d a b limit wb wp = insertionSort ltW d a b := by rw [pdq, if_pos h]
theorem ya (h : ¬ b - a ≤ 12) (h0 : limit = 0) : pdq ltW d a b limit wb wp = heapSort ltW d a b := by rw [pdq, if_neg h, if_pos h0]
structure Rnd (d : Array UInt32) (a b limit : Nat) (wb wp : Bool) (l1 pv : Nat) (d3 : Array UInt32) : Prop where
 done : ∃ (d1 d2 : Array UInt32) (c : Nat × Hint) (hint : Hint), d1 = (if !wb then breakPatterns d a b else d) ∧ l1 = (if !wb then limit - 1 else limit) ∧ c = choosePivot ltW d1 a b ∧
  d2 = (if c.2 = .decreasing then reverseRange d1 a b else d1) ∧ pv = (if c.2 = .decreasing then (b - 1) - (c.1 - a) else c.1) ∧ hint = (if c.2 = .decreasing then Hint.increasing else c.2) ∧
  (if wb && wp && hint = .increasing then partialInsertionSort ltW d2 a b else (d2, false)) = (d3, false)
theorem yb {d1 d2 d3 : Array UInt32} {c : Nat × Hint} {hint : Hint} (h : ¬ b - a ≤ 12) (h0 : ¬ limit = 0) (e1 : d1 = (if !wb then breakPatterns d a b else d)) (ec : c = choosePivot ltW d1 a b)
  (e3 : d2 = (if c.2 = .decreasing then reverseRange d1 a b else d1)) (e5 : hint = (if c.2 = .decreasing then Hint.increasing else c.2)) (e6 : (if wb && wp && hint = .increasing then partialInsertionSort ltW d2 a b else (d2, false)) = (d3, true)) :
  pdq ltW d a b limit wb wp = d3 := by
 subst e1 ec e3 e5
 rw [pdq, if_neg h, if_neg h0]
 simp only [e6, if_true]
theorem uY {l1 pv : Nat} {d3 : Array UInt32} (h : ¬ b - a ≤ 12) (h0 : ¬ limit = 0) (r : Rnd d a b limit wb wp l1 pv d3) :
  pdq ltW d a b limit wb wp = if a > 0 && !ltW d3[a - 1]! d3[pv]! then
   (match partitionEqual ltW d3 a b pv with | (mid, d4) => if _h : a < mid ∧ mid ≤ b then pdq ltW d4 mid b l1 wb wp else d4)
  else
   (match partition ltW d3 a b pv with
   | (mid, ap, d4) =>
    if _h : a ≤ mid ∧ mid < b then
     if mid - a < b - mid then pdq ltW (pdq ltW d4 a mid l1 true true) (mid + 1) b l1 (decide (mid - a ≥ (b - a) / 8)) ap
     else pdq ltW (pdq ltW d4 (mid + 1) b l1 true true) a mid l1 (decide (b - mid ≥ (b - a) / 8)) ap
    else d4) := by
 obtain ⟨d1, d2, c, hint, e1, e2, ec, e3, e4, e5, e6⟩ := r.done
 subst e1 ec e3 e5 e2 e4
 rw [pdq, if_neg h, if_neg h0]
 simp only [e6, Bool.false_eq_true, if_false]
theorem Hr {l1 pv mid : Nat} {d3 d4 : Array UInt32} (h : ¬ b - a ≤ 12) (h0 : ¬ limit = 0) (r : Rnd d a b limit wb wp l1 pv d3) (ha : 0 < a) (hl : ltW d3[a - 1]! d3[pv]! = false) (he : partitionEqual ltW d3 a b pv = (mid, d4)) (hm : a < mid ∧ mid ≤ b) :
  pdq ltW d a b limit wb wp = pdq ltW d4 mid b l1 wb wp := by
 rw [uY h h0 r, if_pos (by simp [ha, hl]), he]
 simp only []
 rw [dif_pos hm]
theorem xZ {l1 pv mid : Nat} {d3 d4 : Array UInt32} {ap : Bool} (h : ¬ b - a ≤ 12) (h0 : ¬ limit = 0) (r : Rnd d a b limit wb wp l1 pv d3) (hl : a = 0 ∨ ltW d3[a - 1]! d3[pv]! = true) (he : partition ltW d3 a b pv = (mid, ap, d4)) (hm : a ≤ mid ∧ mid < b) (hs : mid - a < b - mid) :
  pdq ltW d a b limit wb wp = pdq ltW (pdq ltW d4 a mid l1 true true) (mid + 1) b l1 (decide (mid - a ≥ (b - a) / 8)) ap := by
 rw [uY h h0 r, if_neg (by simp only [Bool.and_eq_true, decide_eq_true_eq, Bool.not_eq_true']; rintro ⟨q1, q2⟩; rcases hl with q | q; omega; rw [q] at q2; cases q2), he]
 simp only []
 rw [dif_pos hm, if_pos hs]
theorem v7 {l1 pv mid : Nat} {d3 d4 : Array UInt32} {ap : Bool} (h : ¬ b - a ≤ 12) (h0 : ¬ limit = 0) (r : Rnd d a b limit wb wp l1 pv d3) (hl : a = 0 ∨ ltW d3[a - 1]! d3[pv]! = true) (he : partition ltW d3 a b pv = (mid, ap, d4)) (hm : a ≤ mid ∧ mid < b) (hs : ¬ mid - a < b - mid) :
  pdq ltW d a b limit wb wp = pdq ltW (pdq ltW d4 (mid + 1) b l1 true true) a mid l1 (decide (b - mid ≥ (b - a) / 8)) ap := by
 rw [uY h h0 r, if_neg (by simp only [Bool.and_eq_true, decide_eq_true_eq, Bool.not_eq_true']; rintro ⟨q1, q2⟩; rcases hl with q | q; omega; rw [q] at q2; cases q2), he]
 simp only []
 rw [dif_pos hm, if_neg hs]
end
theorem Bl {d : Array UInt32} {a b pv : Nat} (h : a + 1 < b) (hb : b ≤ d.size) : a < (partitionEqual ltW d a b pv).1 ∧ (partitionEqual ltW d a b pv).1 ≤ b := by
 have := partEqLoop_spec (lt := ltW) a b _ (a + 1) (b - 1) (swp d a pv) (Nat.le_refl _) (by omega) (by omega) (by omega) (by rw [oh]; exact hb) (fun t _ _ => by omega) (fun t _ _ => by omega)
 exact ⟨this.1, this.2.1⟩
theorem Fj {d : Array UInt32} {a b pv : Nat} (h1 : a ≤ pv) (h2 : pv < b) (hb : b ≤ d.size) : a ≤ (partition ltW d a b pv).1 ∧ (partition ltW d a b pv).1 < b := by
 have := partition_holds (lt := ltW) xQ d a b pv h1 h2 hb
 exact ⟨this.1, this.2.1⟩
theorem rR (h : Hint) : hintCode h = 2 ↔ h = .decreasing := by cases h <;> simp [hintCode]
theorem rQ (h : Hint) : hintCode h = 1 ↔ h = .increasing := by cases h <;> simp [hintCode]
theorem Fg {wb wp : Bool} {hint : Hint} (h : (wb = true ∧ wp = true) ∧ hintCode hint = 1) : (wb && wp && decide (hint = .increasing)) = true := by
 rw [h.1.1, h.1.2, (rQ hint).1 h.2]; rfl
theorem Ju {wb wp : Bool} {hint : Hint} (h : (wb = false ∨ wp = false) ∨ ¬ hintCode hint = 1) : ¬ (wb && wp && decide (hint = .increasing)) = true := by
 simp only [Bool.and_eq_true, decide_eq_true_eq]
 rintro ⟨⟨q1, q2⟩, q3⟩
 rcases h with (q | q) | q
 ·rw [q1] at q; cases q
 ·rw [q2] at q; cases q
 ·exact q ((rQ hint).2 q3)
theorem ES (d : Array UInt32) : (sort ltW d).toList = d.toList.mergeSort (fun x y => !ltW y x) := by
 have h := sort_sorts ltW xQ d
 exact sorted_unique_holds (lt := ltW) xQ (fun x y h1 h2 => by
  simp only [ltW, decide_eq_false_iff_not, UInt32.lt_iff_toNat_lt] at h1 h2
  exact UInt32.toNat_inj.1 (by omega)) d _ h.1 h.2
end Go.HL
namespace Go.Proofs.YtiajjbhcpeadfaaGreat
open Go Go.HL Go.RowKit Go.Sort
theorem HC (x : Nat) (hx : x < 4294967296) (w : World) :
  Calls Tryz.prog 209 #[.int .u64 (x : Nat)] w (fun e w' => e = .returned (.int .i64 (bitsLen x : Nat)) ∧ Ext w w') := by
 refine enter Tryz.func209 rfl Tryz.ntmps209 rfl ?_
 refine af (zz0 (ab rfl) (ad (al (af (zz0 (aa rfl) (zz0 (eJ rfl rfl) (ad ?_)))))))
 refine ar rfl ?_ ?_ <;> intro h1 <;> try simp only [bs] at h1
 ·first | contradiction | (exfalso; omega) | simp_all
 ·refine bF ?_
  refine di (ι := Nat × Nat) (fun ⟨y, n⟩ => y < 65536 ∧ n ≤ 16 ∧ bitsLen x = n + bitsLen y) (fun _ => Bg.of w) (fun ⟨y, n⟩ => []) (fun ⟨y, n⟩ => [(0, .int .u64 (y : Nat)), (2, .int .i64 (n : Nat))]) ?_ (fun i hi => ?_)
  ·skip
   refine af (zz0 (aa rfl) (zz0 (eJ rfl rfl) (ad ?_)))
   refine ar rfl ?_ ?_ <;> intro h2 <;> try simp only [bs] at h2
   ·refine af (zz0 (aa rfl) (zz0 (C6 16 rfl rfl (by decide)) ?_))
    refine zz0 (ab rfl) (ad (an (zz0 (aa rfl) (zz0 (cp rfl rfl) ?_))))
    refine zz0 (ab rfl) (ad ?_)
    refine cw (x / 2 ^ 16, 16) (Front.c (Front.c Front.nil)) (bC 8 rfl) (o := ⟨by omega, by omega, Jz (by omega)⟩)
   ·refine bF ?_
    refine cw (x, 0) (Front.c (Front.c Front.nil)) (bC 2 rfl) (o := ⟨by omega, by omega, by omega⟩)
  ·obtain ⟨y, n⟩ := i
   replace hi : y < 65536 ∧ n ≤ 16 ∧ bitsLen x = n + bitsLen y := hi
   change Tr _ _ [] ([(0, .int .u64 (y : Nat)), (2, .int .i64 (n : Nat))] ++ _) _
   obtain ⟨hy1, hy2, hy3⟩ := hi
   refine di (ι := Nat × Nat) (fun ⟨z, k⟩ => z < 256 ∧ k ≤ 24 ∧ bitsLen x = k + bitsLen z) (fun _ => Bg.of w) (fun ⟨z, k⟩ => []) (fun ⟨z, k⟩ => [(0, .int .u64 (z : Nat)), (2, .int .i64 (k : Nat))]) ?_ (fun i hi => ?_)
   ·skip
    refine af (zz0 (aa rfl) (zz0 (eJ rfl rfl) (ad ?_)))
    refine ar rfl ?_ ?_ <;> intro h3 <;> try simp only [bs] at h3
    ·refine af (zz0 (aa rfl) (zz0 (C6 8 rfl rfl (by decide)) ?_))
     refine zz0 (ab rfl) (ad (an (zz0 (aa rfl) (zz0 (cp rfl rfl) ?_))))
     refine zz0 (ab rfl) (ad ?_)
     refine cw (y / 2 ^ 8, n + 8) (Front.c (Front.c Front.nil)) (bC 8 rfl) (o := ⟨by omega, by omega, by have := len8 (x := y) (by omega); omega⟩)
    ·refine bF ?_
     refine cw (y, n) (Front.c (Front.c Front.nil)) (bC 2 rfl) (o := ⟨by omega, by omega, by omega⟩)
   ·obtain ⟨z, k⟩ := i
    replace hi : z < 256 ∧ k ≤ 24 ∧ bitsLen x = k + bitsLen z := hi
    change Tr _ _ [] ([(0, .int .u64 (z : Nat)), (2, .int .i64 (k : Nat))] ++ _) _
    obtain ⟨hz1, hz2, hz3⟩ := hi
    have hz8 := xr hz1
    refine af (zz0 (aa rfl) (zz0 (aa rfl) (zz0 (eG rfl bO bW (by rw [IntKind.wrap_u8]; omega)) ?_)))
    refine zz0 (Et rfl rfl iw (by kernel_rfl) (by omega)) ?_
    refine zz0 (eG rfl bW aZ (IntWalk.i64_in _ (by omega))) ?_
    refine zz0 (cp rfl rfl) ?_
    refine zz0 (ab rfl) (ad (aB ?_))
    refine aV Tryz.results209 rfl (fun w' hw => ?_)
    exact ⟨by rw [hz3]; simp, hw.b0⟩
theorem Jy (x : Nat) (xi : Int) (ex : xi = ((x : Nat) : Int)) (hx : x < 4294967296) (w : World) :
  Calls Tryz.prog 150 #[.int .u64 xi] w (fun e w' => e = .returned (.int .i64 (bitsLen x : Nat)) ∧ Ext w w') := by
 subst ex
 refine enter Tryz.func150 rfl Tryz.ntmps150 rfl ?_
 refine af (zz0 (ab rfl) (ad (al ?_)))
 refine ar rfl ?_ ?_ <;> intro h1 <;> try simp only [bs] at h1
 ·first | contradiction | (exfalso; omega) | simp_all
 ·refine dl (zz0 (aa rfl) (zz0 (aA rfl Tryz.call209 (fun w hw => HC x hx w)) ?_))
  refine zz0 (ab rfl) (ad (aB ?_))
  refine aV Tryz.results150 rfl (fun w' hw => ?_)
  exact ⟨rfl, hw.b0⟩
theorem DU (n : Nat) (ni : Int) (en : ni = ((n : Nat) : Int)) (hn : n ≤ 1000000) (w : World) :
  Calls Tryz.prog 265 #[.int .i64 ni] w (fun e w' => e = .returned (.int .u64 ((1 <<< bitsLen n : Nat) : Int)) ∧ Ext w w') := by
 subst en
 have hb : bitsLen n ≤ 20 := (bitsLen_le_iff n 20).2 (by omega)
 refine enter Tryz.func265 rfl Tryz.ntmps265 rfl ?_
 refine af (zz0 (ab rfl) (aH (zz0 (aa rfl) (zz0 (eG rfl aZ dZ (IntWalk.u64_in _ (by omega))) ?_))))
 refine zz0 (aA rfl Tryz.call150 (fun w hw => Jy n _ rfl (by omega) w)) ?_
 refine zz0 (Eo rfl rfl (by omega)) ?_
 refine zz0 (ab rfl) (ad (aB ?_))
 refine aV Tryz.results265 rfl (fun w' hw => ?_)
 exact ⟨rfl, hw.b0⟩
theorem IP (r : UInt64) (bs : Nat) (w : World) (ho : OwnAt w [cellE bs [.int .u64 ((r).toNat : Int)] 292]) :
  Calls Tryz.prog 266 #[.pointer (some ⟨bs, 0, none⟩)] w (fun e w' => ∃ i : Unit, e = .returned (.int .u64 ((xorNext r).toNat : Nat)) ∧ Upd w.drawn w w' (cZ [cellE bs [.int .u64 ((r).toNat : Int)] 292]) ([cellE bs [.int .u64 ((xorNext r).toNat : Int)] 292]) ∧ True) := by
 refine qX (L := [cellE bs [.int .u64 ((r).toNat : Int)] 292]) ho rfl (Nat.le_refl _) Tryz.func266 rfl Tryz.ntmps266 rfl ?_
 refine af (zz0 (ab rfl) (ad (al (fO 0 9 aQ ?_))))
 refine bI ?_
 refine aw (aa rfl) (aw (aY rfl) ?_)
 refine aw (jI rfl jq) ?_
 refine aw (aa rfl) (aw (aY rfl) ?_)
 refine aw (jI rfl jq) ?_
 refine aw (AQ 13 rfl rfl (by decide)) ?_
 refine aw (vK rfl rfl) ?_
 refine aw (aY rfl) ?_
 refine bK ?_
 refine zz6 rfl rfl lP ?_
 refine ad (al (fO 0 9 aQ ?_))
 refine bI ?_
 refine aw (aa rfl) (aw (aY rfl) ?_)
 refine aw (jI rfl jq) ?_
 refine aw (aa rfl) (aw (aY rfl) ?_)
 refine aw (jI rfl jq) ?_
 refine aw (GX 7 rfl rfl (by decide)) ?_
 refine aw (vK rfl rfl) ?_
 refine aw (aY rfl) ?_
 refine bK ?_
 refine zz6 rfl rfl lP ?_
 refine ad (al (fO 0 9 aQ ?_))
 refine bI ?_
 refine aw (aa rfl) (aw (aY rfl) ?_)
 refine aw (jI rfl jq) ?_
 refine aw (aa rfl) (aw (aY rfl) ?_)
 refine aw (jI rfl jq) ?_
 refine aw (AQ 17 rfl rfl (by decide)) ?_
 refine aw (vK rfl rfl) ?_
 refine aw (aY rfl) ?_
 refine bK ?_
 refine zz6 rfl rfl lP ?_
 refine aH (zz0 (aa rfl) (zz0 (aY rfl) ?_))
 refine zz0 (jI rfl jq) ?_
 refine zz0 (ab rfl) (ad (aB ?_))
 refine aV Tryz.results266 rfl (fun w' hw => ?_)
 exact ⟨(), rfl, hw.upd (Bg.le.refl _) (by repeat' constructor), trivial⟩
theorem qU (d : Array UInt32) (V : Value) (bs : Nat) (a b s : Nat) (ai bi : Int) (ea : ai = ((a : Nat) : Int)) (eb : bi = ((b : Nat) : Int)) (w : World) (ho : OwnAt w [rowE V 23 ao d.toList, cellE bs [.int .i64 ((s : Nat) : Int)] 3]) (hd : d.size ≤ 1000000) (ha : a < d.size) (hb : b < d.size) (hs : s ≤ 100 := by omega) :
  Calls Tryz.prog 323 #[V, .int .i64 ai, .int .i64 bi, .pointer (some ⟨bs, 0, none⟩)] w (fun e w' => ∃ i : Nat × Nat × Nat, e = .returned ((fun i : Nat × Nat × Nat => .tuple #[.int .i64 (i.1 : Nat), .int .i64 (i.2.1 : Nat)]) i) ∧ Upd w.drawn w w' (cZ [rowE V 23 ao d.toList, cellE bs [.int .i64 ((s : Nat) : Int)] 3]) ([rowE V 23 ao d.toList, cellE bs [.int .i64 (i.2.2 : Nat)] 3]) ∧ i = order2 ltW d a b s) := by
 subst ea eb
 have hdl : d.toList.length = d.size := Array.length_toList
 refine qX (L := [rowE V 23 ao d.toList, cellE bs [.int .i64 ((s : Nat) : Int)] 3]) ho rfl (Nat.le_refl _) Tryz.func323 rfl Tryz.ntmps323 rfl ?_
 refine af (zz0 (ab rfl) (zz0 (ab rfl) (ad (al (al (io aQ ?_))))))
 refine aw (aa rfl) (aw (aa rfl) (aw (zz7 rfl rfl ah ae) ?_))
 refine aw (eF rfl am) ?_
 refine aw (aa rfl) (aw (aa rfl) (aw (zz7 rfl rfl ah ae) ?_))
 refine aw (eF rfl am) ?_
 refine aw (aA rfl fF (fun w hw => g5 (d.toList.getD (b) default) (d.toList.getD (a) default) w)) ?_
 refine bK ?_
 refine ac ?_
 refine ar rfl ?_ ?_ <;> intro h1 <;> try simp only [bs] at h1
 ·refine af (zz0 (aa rfl) (zz0 (aY rfl) ?_))
  refine zz0 (jI rfl aN) ?_
  refine zz0 (cp rfl rfl) ?_
  refine zz0 (aY rfl) ?_
  refine jE rfl rfl aC (by repeat constructor) (by rfl) (by rfl) (by first | exact List.all_eq_true.1 rfl | exact Enc.one _ _ | exact Enc.one bP _ | (intro u hu; simp [Value.cells] at hu; simp_all [Value.oneCell'])) rfl ?_
  refine aH (zz0 (aa rfl) (zz0 (aa rfl) (zz0 (ab rfl) (zz0 (ab rfl) (ad (aB (ay ?_)))))))
  refine dq Tryz.results323 rfl rfl (fun w' hw => ?_)
  refine ⟨(b, a, s + 1), rfl, hw.upd (Bg.le.refl _) (by repeat' constructor), ?_⟩
  unfold order2
  rw [if_pos (by rw [← dY, ← dY]; simp_all)]
 ·refine dl (zz0 (aa rfl) (zz0 (aa rfl) (zz0 (ab rfl) (zz0 (ab rfl) (ad (aB ?_))))))
  refine dq Tryz.results323 rfl rfl (fun w' hw => ?_)
  refine ⟨(a, b, s), rfl, hw.upd (Bg.le.refl _) (by repeat' constructor), ?_⟩
  unfold order2
  rw [if_neg (by rw [← dY, ← dY]; simp_all)]
theorem vj (d : Array UInt32) (V : Value) (bs : Nat) (a b c s : Nat) (ai bi ci : Int) (ea : ai = ((a : Nat) : Int)) (eb : bi = ((b : Nat) : Int)) (ec : ci = ((c : Nat) : Int)) (w : World) (ho : OwnAt w [rowE V 23 ao d.toList, cellE bs [.int .i64 ((s : Nat) : Int)] 3]) (hd : d.size ≤ 1000000) (ha : a < d.size) (hb : b < d.size) (hc : c < d.size) (hs : s ≤ 90 := by omega) :
  Calls Tryz.prog 295 #[V, .int .i64 ai, .int .i64 bi, .int .i64 ci, .pointer (some ⟨bs, 0, none⟩)] w (fun e w' => ∃ i : Nat × Nat, e = .returned ((fun i : Nat × Nat => .int .i64 (i.1 : Nat)) i) ∧ Upd w.drawn w w' (cZ [rowE V 23 ao d.toList, cellE bs [.int .i64 ((s : Nat) : Int)] 3]) ([rowE V 23 ao d.toList, cellE bs [.int .i64 (i.2 : Nat)] 3]) ∧ i = median ltW d a b c s) := by
 subst ea eb ec
 refine qX (L := [rowE V 23 ao d.toList, cellE bs [.int .i64 ((s : Nat) : Int)] 3]) ho rfl (Nat.le_refl _) Tryz.func295 rfl Tryz.ntmps295 rfl ?_
 refine af (zz0 (ab rfl) (aH (zz0 (aa rfl) (zz0 (aa rfl) (zz0 (aa rfl) (zz0 (aa rfl) ?_))))))
 refine iY (fun i : Nat × Nat × Nat => .tuple #[.int .i64 (i.1 : Nat), .int .i64 (i.2.1 : Nat)]) [rowE V 23 ao d.toList, cellE bs [.int .i64 ((s : Nat) : Int)] 3] (fun i : Nat × Nat × Nat => [rowE V 23 ao d.toList, cellE bs [.int .i64 (i.2.2 : Nat)] 3]) (ok := fun i => i = order2 ltW d a b s) (dd := fun w => w.drawn) rfl Tryz.call323 (by repeat' constructor) (fun w hw => hw.dr) (fun w hw => qU d V bs a b s _ _ rfl rfl w (hw.own (by repeat' constructor)) hd (by omega) (by omega)) rfl (fun p hp => ?_)
 obtain ⟨bp1, bp2, bp3⟩ := sH hp (n := d.size) (by omega) (by omega)
 obtain ⟨x1, y1, s1⟩ := p
 dsimp only at bp1 bp2 bp3
 change Tr _ _ [rowE V 23 ao d.toList, cellE bs [.int .i64 ((s1 : Nat) : Int)] 3] _ _
 refine zz0 (aa rfl) (zz0 (aL rfl rfl) (zz0 (aL rfl rfl) (zz0 (ab rfl) (zz0 (ab rfl) (aH (zz0 (aa rfl) (zz0 (aa rfl) (zz0 (aa rfl) (zz0 (aa rfl) ?_)))))))))
 refine iY (fun i : Nat × Nat × Nat => .tuple #[.int .i64 (i.1 : Nat), .int .i64 (i.2.1 : Nat)]) [rowE V 23 ao d.toList, cellE bs [.int .i64 ((s1 : Nat) : Int)] 3] (fun i : Nat × Nat × Nat => [rowE V 23 ao d.toList, cellE bs [.int .i64 (i.2.2 : Nat)] 3]) (ok := fun i => i = order2 ltW d y1 c s1) (dd := fun w => w.drawn) rfl Tryz.call323 (by repeat' constructor) (fun w hw => hw.dr) (fun w hw => qU d V bs y1 c s1 _ _ rfl rfl w (hw.own (by repeat' constructor)) hd (by omega) (by omega)) rfl (fun q hq => ?_)
 obtain ⟨bq1, bq2, bq3⟩ := sH hq (n := d.size) (by omega) (by omega)
 obtain ⟨x2, y2, s2⟩ := q
 dsimp only at bq1 bq2 bq3
 change Tr _ _ [rowE V 23 ao d.toList, cellE bs [.int .i64 ((s2 : Nat) : Int)] 3] _ _
 refine zz0 (aa rfl) (zz0 (aL rfl rfl) (zz0 (aL rfl rfl) (zz0 (ab rfl) (zz0 (ab rfl) (aH (zz0 (aa rfl) (zz0 (aa rfl) (zz0 (aa rfl) (zz0 (aa rfl) ?_)))))))))
 refine iY (fun i : Nat × Nat × Nat => .tuple #[.int .i64 (i.1 : Nat), .int .i64 (i.2.1 : Nat)]) [rowE V 23 ao d.toList, cellE bs [.int .i64 ((s2 : Nat) : Int)] 3] (fun i : Nat × Nat × Nat => [rowE V 23 ao d.toList, cellE bs [.int .i64 (i.2.2 : Nat)] 3]) (ok := fun i => i = order2 ltW d x1 x2 s2) (dd := fun w => w.drawn) rfl Tryz.call323 (by repeat' constructor) (fun w hw => hw.dr) (fun w hw => qU d V bs x1 x2 s2 _ _ rfl rfl w (hw.own (by repeat' constructor)) hd (by omega) (by omega)) rfl (fun r hr => ?_)
 obtain ⟨br1, br2, br3⟩ := sH hr (n := d.size) (by omega) (by omega)
 obtain ⟨x3, y3, s3⟩ := r
 dsimp only at br1 br2 br3
 change Tr _ _ [rowE V 23 ao d.toList, cellE bs [.int .i64 ((s3 : Nat) : Int)] 3] _ _
 refine zz0 (aa rfl) (zz0 (aL rfl rfl) (zz0 (aL rfl rfl) (zz0 (ab rfl) (zz0 (ab rfl) (aH (zz0 (aa rfl) (zz0 (ab rfl) (ad (aB ?_)))))))))
 refine aV Tryz.results295 rfl (fun w' hw => ?_)
 exact ⟨(y3, s3), rfl, hw.upd (Bg.le.refl _) (by repeat' constructor), by unfold median; simp only []; rw [← hp]; dsimp only; rw [← hq]; dsimp only; rw [← hr]⟩
theorem yL (d : Array UInt32) (V : Value) (bs : Nat) (a s : Nat) (ai : Int) (ea : ai = ((a : Nat) : Int)) (w : World) (ho : OwnAt w [rowE V 23 ao d.toList, cellE bs [.int .i64 ((s : Nat) : Int)] 3]) (hd : d.size ≤ 1000000) (ha : a + 1 < d.size) (h1 : 1 ≤ a) (hs : s ≤ 80 := by omega) :
  Calls Tryz.prog 294 #[V, .int .i64 ai, .pointer (some ⟨bs, 0, none⟩)] w (fun e w' => ∃ i : Nat × Nat, e = .returned ((fun i : Nat × Nat => .int .i64 (i.1 : Nat)) i) ∧ Upd w.drawn w w' (cZ [rowE V 23 ao d.toList, cellE bs [.int .i64 ((s : Nat) : Int)] 3]) ([rowE V 23 ao d.toList, cellE bs [.int .i64 (i.2 : Nat)] 3]) ∧ i = medianAdjacent ltW d a s) := by
 subst ea
 refine qX (L := [rowE V 23 ao d.toList, cellE bs [.int .i64 ((s : Nat) : Int)] 3]) ho rfl (Nat.le_refl _) Tryz.func294 rfl Tryz.ntmps294 rfl ?_
 refine af (zz0 (ab rfl) (aH (zz0 (aa rfl) (zz0 (aa rfl) (zz0 (eE rfl rfl) ?_)))))
 refine zz0 (aa rfl) (zz0 (aa rfl) (zz0 (cp rfl rfl) ?_))
 refine zz0 (aa rfl) ?_
 refine iY (fun i : Nat × Nat => .int .i64 (i.1 : Nat)) [rowE V 23 ao d.toList, cellE bs [.int .i64 ((s : Nat) : Int)] 3] (fun i : Nat × Nat => [rowE V 23 ao d.toList, cellE bs [.int .i64 (i.2 : Nat)] 3]) (ok := fun zz => zz = median ltW d (a - 1) a (a + 1) s) (dd := fun w => w.drawn) rfl Tryz.call295 (by repeat' constructor) (fun w hw => hw.dr) (fun w hw => vj d V bs (a - 1) a (a + 1) s _ _ _ (by omega) (by omega) (by omega) w (hw.own (by repeat' constructor)) hd (by omega) (by omega) (by omega)) rfl (fun p hp => ?_)
 obtain ⟨x, s1⟩ := p
 change Tr _ _ [rowE V 23 ao d.toList, cellE bs [.int .i64 ((s1 : Nat) : Int)] 3] _ _
 refine zz0 (ab rfl) (ad (aB ?_))
 refine aV Tryz.results294 rfl (fun w' hw => ?_)
 exact ⟨(x, s1), rfl, hw.upd (Bg.le.refl _) (by repeat' constructor), hp⟩
theorem uh (d : Array UInt32) (V : Value) (a : Nat) (b : Nat) (ai : Int) (bi : Int) (ea : ai = ((a : Nat) : Int)) (eb : bi = ((b : Nat) : Int)) (w : World) (hr : (rowE V 23 ao d.toList).holds w) (hd : d.size ≤ 1000000) (hab : a < b) (hb : b ≤ d.size) :
  Calls Tryz.prog 257 #[V, .int .i64 ai, .int .i64 bi] w (fun e w' => e = .returned (.tuple #[.int .i64 ((choosePivot ltW d a b).1 : Nat), .int .i64 (hintCode (choosePivot ltW d a b).2)]) ∧ Mut w w' V ∧ (rowE V 23 ao d.toList).holds w') := by
 subst ea eb
 refine fL (l := d.toList) (E := ao) (T := 23) hr Tryz.func257 rfl Tryz.ntmps257 rfl ?_
 refine af (zz0 (ab rfl) (zz0 (ab rfl) (aH (zz0 (aa rfl) (zz0 (aa rfl) (zz0 (eE rfl rfl) ?_))))))
 refine zz0 (ab rfl) (aH ?_)
 refine dB ja rfl (fun b1 => ?_)
 refine aH (zz0 (aa rfl) (zz0 (aa rfl) (zz0 (oY rfl rfl (by omega)) ?_)))
 refine zz0 (kx rfl rfl (by omega)) ?_
 refine zz0 (cp rfl rfl) ?_
 refine zz0 (ab rfl) (aH (zz0 (aa rfl) (zz0 (aa rfl) (zz0 (oY rfl rfl (by omega)) ?_))))
 refine zz0 (kx rfl rfl (by omega)) ?_
 refine zz0 (cp rfl rfl) ?_
 refine zz0 (ab rfl) (aH (zz0 (aa rfl) (zz0 (aa rfl) (zz0 (oY rfl rfl (by omega)) ?_))))
 refine zz0 (kx rfl rfl (by omega)) ?_
 refine zz0 (cp rfl rfl) ?_
 refine zz0 (ab rfl) (ad ?_)
 refine di (ι := Nat × Nat × Nat × Nat) (fun ⟨i, j, k, s⟩ => (j < d.size ∧ s ≤ 12) ∧ (j, s) = rawPivot ltW d a b) (fun _ => Bg.less w V) (fun ⟨i, j, k, s⟩ => [rowE V 23 ao d.toList, cellE b1 [.int .i64 ((s : Nat) : Int)] 3]) (fun ⟨i, j, k, s⟩ => [(10, .int .i64 (i : Nat)), (11, .int .i64 (j : Nat)), (12, .int .i64 (k : Nat))]) ?_ (fun i hi => ?_)
 ·skip
  refine af (zz0 (aa rfl) (zz0 (eJ rfl rfl) (ad ?_)))
  refine ar rfl ?_ ?_ <;> intro h2 <;> try simp only [bs] at h2
  ·refine di (ι := Nat × Nat × Nat × Nat) (fun ⟨i, j, k, s⟩ => (i < d.size ∧ j < d.size ∧ k < d.size ∧ s ≤ 9) ∧ median ltW d i j k s = rawPivot ltW d a b) (fun _ => Bg.less w V) (fun ⟨i, j, k, s⟩ => [rowE V 23 ao d.toList, cellE b1 [.int .i64 ((s : Nat) : Int)] 3]) (fun ⟨i, j, k, s⟩ => [(10, .int .i64 (i : Nat)), (11, .int .i64 (j : Nat)), (12, .int .i64 (k : Nat))]) ?_ (fun i hi => ?_)
   ·skip
    refine af (zz0 (aa rfl) (zz0 (eJ rfl rfl) (ad ?_)))
    refine ar rfl ?_ ?_ <;> intro h3 <;> try simp only [bs] at h3
    ·refine af (zz0 (aa rfl) (zz0 (aa rfl) ?_))
     refine iY (fun i : Nat × Nat => .int .i64 (i.1 : Nat)) [rowE V 23 ao d.toList, cellE b1 [.int .i64 ((0 : Nat) : Int)] 3] (fun i : Nat × Nat => [rowE V 23 ao d.toList, cellE b1 [.int .i64 (i.2 : Nat)] 3]) (ok := fun zz => zz = medianAdjacent ltW d (a + (b - a) / 4 * 1) 0) (dd := fun w => w.drawn) rfl Tryz.call294 (by repeat' constructor) (fun w hw => hw.dr) (fun w hw => yL d V b1 (a + (b - a) / 4 * 1) 0 _ (by omega) w (hw.own (by repeat' constructor)) hd (by omega) (by omega)) rfl (fun p hp => ?_)
     have bp := BW hp (n := d.size) (by omega)
     obtain ⟨x1, s1⟩ := p
     dsimp only at bp
     change Tr _ _ [rowE V 23 ao d.toList, cellE b1 [.int .i64 ((s1 : Nat) : Int)] 3] _ _
     refine zz0 (ab rfl) (aH (zz0 (aa rfl) (zz0 (aa rfl) ?_)))
     refine iY (fun i : Nat × Nat => .int .i64 (i.1 : Nat)) [rowE V 23 ao d.toList, cellE b1 [.int .i64 ((s1 : Nat) : Int)] 3] (fun i : Nat × Nat => [rowE V 23 ao d.toList, cellE b1 [.int .i64 (i.2 : Nat)] 3]) (ok := fun zz => zz = medianAdjacent ltW d (a + (b - a) / 4 * 2) s1) (dd := fun w => w.drawn) rfl Tryz.call294 (by repeat' constructor) (fun w hw => hw.dr) (fun w hw => yL d V b1 (a + (b - a) / 4 * 2) s1 _ (by omega) w (hw.own (by repeat' constructor)) hd (by omega) (by omega)) rfl (fun q hq => ?_)
     have bq := BW hq (n := d.size) (by omega)
     obtain ⟨x2, s2⟩ := q
     dsimp only at bq
     change Tr _ _ [rowE V 23 ao d.toList, cellE b1 [.int .i64 ((s2 : Nat) : Int)] 3] _ _
     refine zz0 (ab rfl) (ad (an (zz0 (aa rfl) (zz0 (aa rfl) ?_))))
     refine iY (fun i : Nat × Nat => .int .i64 (i.1 : Nat)) [rowE V 23 ao d.toList, cellE b1 [.int .i64 ((s2 : Nat) : Int)] 3] (fun i : Nat × Nat => [rowE V 23 ao d.toList, cellE b1 [.int .i64 (i.2 : Nat)] 3]) (ok := fun zz => zz = medianAdjacent ltW d (a + (b - a) / 4 * 3) s2) (dd := fun w => w.drawn) rfl Tryz.call294 (by repeat' constructor) (fun w hw => hw.dr) (fun w hw => yL d V b1 (a + (b - a) / 4 * 3) s2 _ (by omega) w (hw.own (by repeat' constructor)) hd (by omega) (by omega)) rfl (fun r hr => ?_)
     have br := BW hr (n := d.size) (by omega)
     obtain ⟨x3, s3⟩ := r
     dsimp only at br
     change Tr _ _ [rowE V 23 ao d.toList, cellE b1 [.int .i64 ((s3 : Nat) : Int)] 3] _ _
     refine zz0 (ab rfl) (ad ?_)
     refine cw (x1, x2, x3, s3) (Front.c (Front.c (Front.c Front.nil))) (bC 14 rfl) (o := ⟨by omega, Hq (by omega) hp hq hr rfl⟩)
    ·refine bF ?_
     refine cw (a + (b - a) / 4 * 1, a + (b - a) / 4 * 2, a + (b - a) / 4 * 3, 0) (Front.c (Front.c (Front.c Front.nil))) (bC 2 rfl) (o := ⟨by omega, Ho (by omega) (by omega) rfl⟩)
   ·obtain ⟨i, j, k, s⟩ := i
    replace hi : (i < d.size ∧ j < d.size ∧ k < d.size ∧ s ≤ 9) ∧ median ltW d i j k s = rawPivot ltW d a b := hi
    change Tr _ _ [rowE V 23 ao d.toList, cellE b1 [.int .i64 ((s : Nat) : Int)] 3] ([(10, .int .i64 (i : Nat)), (11, .int .i64 (j : Nat)), (12, .int .i64 (k : Nat))] ++ _) _
    obtain ⟨hi1, hi2⟩ := hi
    refine an (zz0 (aa rfl) (zz0 (aa rfl) (zz0 (aa rfl) (zz0 (aa rfl) ?_))))
    refine iY (fun i : Nat × Nat => .int .i64 (i.1 : Nat)) [rowE V 23 ao d.toList, cellE b1 [.int .i64 ((s : Nat) : Int)] 3] (fun i : Nat × Nat => [rowE V 23 ao d.toList, cellE b1 [.int .i64 (i.2 : Nat)] 3]) (ok := fun zz => zz = median ltW d i j k s) (dd := fun w => w.drawn) rfl Tryz.call295 (by repeat' constructor) (fun w hw => hw.dr) (fun w hw => vj d V b1 i j k s _ _ _ rfl rfl rfl w (hw.own (by repeat' constructor)) hd (by omega) (by omega) (by omega)) rfl (fun z hz => ?_)
    have bz := wR hz (n := d.size) (by omega) (by omega) (by omega)
    obtain ⟨x4, s4⟩ := z
    dsimp only at bz
    change Tr _ _ [rowE V 23 ao d.toList, cellE b1 [.int .i64 ((s4 : Nat) : Int)] 3] _ _
    refine zz0 (ab rfl) (ad ?_)
    refine cw (i, x4, k, s4) (Front.c (Front.c (Front.c Front.nil))) (bC 11 rfl) (o := ⟨by omega, by rw [← hi2]; exact hz⟩)
  ·refine bF ?_
   refine cw (a + (b - a) / 4 * 1, a + (b - a) / 4 * 2, a + (b - a) / 4 * 3, 0) (Front.c (Front.c (Front.c Front.nil))) (bC 2 rfl) (o := ⟨by omega, E9 (by omega)⟩)
 ·obtain ⟨i, j, k, s⟩ := i
  replace hi : (j < d.size ∧ s ≤ 12) ∧ (j, s) = rawPivot ltW d a b := hi
  change Tr _ _ [rowE V 23 ao d.toList, cellE b1 [.int .i64 ((s : Nat) : Int)] 3] ([(10, .int .i64 (i : Nat)), (11, .int .i64 (j : Nat)), (12, .int .i64 (k : Nat))] ++ _) _
  obtain ⟨hj1, hj2⟩ := hi
  refine af (zz0 (aJ rfl aN) ?_)
  refine ad (aF (af (zz0 (bB rfl rfl) (zz0 (ab rfl) (ad ?_)))))
  refine ar rfl ?_ ?_ <;> intro h4 <;> try simp only [bs] at h4
  ·refine af (zz0 (aa rfl) (zz0 (ab rfl) (zz0 (ab rfl) (ad (aB (bA ?_))))))
   refine dq ng rfl rfl (fun w' hw => ?_)
   obtain rfl : s = 0 := by omega
   exact ⟨by rw [choosePivot_eq, ← hj2]; rfl, HpOK.mutOwn hw (.head _) rfl⟩
  ·refine af (zz0 (bB rfl rfl) (zz0 (ab rfl) (ad ?_)))
   refine ar rfl ?_ ?_ <;> intro h5 <;> try simp only [bs] at h5
   ·refine af (zz0 (aa rfl) (zz0 (ab rfl) (zz0 (ab rfl) (ad (aB (bA ?_))))))
    refine dq ng rfl rfl (fun w' hw => ?_)
    obtain rfl : s = 12 := by omega
    exact ⟨by rw [choosePivot_eq, ← hj2]; rfl, HpOK.mutOwn hw (.head _) rfl⟩
   ·refine af (zz0 (aa rfl) (zz0 (ab rfl) (zz0 (ab rfl) (ad (aB (bA ?_))))))
    refine dq ng rfl rfl (fun w' hw => ?_)
    exact ⟨by rw [choosePivot_eq, ← hj2]; simp only [hintOf]; rw [if_neg (by omega), if_neg (by omega)]; rfl, HpOK.mutOwn hw (.head _) rfl⟩
theorem Ej (d : Array UInt32) (V : Value) (a : Nat) (b : Nat) (ai : Int) (bi : Int) (ea : ai = ((a : Nat) : Int)) (eb : bi = ((b : Nat) : Int)) (w : World) (hr : (rowE V 23 ao d.toList).holds w) (hd : d.size ≤ 1000000) (hab : a ≤ b) (hb : b ≤ d.size) :
  Calls Tryz.prog 256 #[V, .int .i64 ai, .int .i64 bi] w (fun e w' => e = .returned (.tuple #[]) ∧ Mut w w' V ∧ (rowE V 23 ao (breakPatterns d a b).toList).holds w') := by
 subst ea eb
 obtain ⟨md, hmd⟩ : ∃ md, md = 1 <<< bitsLen (b - a) := ⟨_, rfl⟩
 obtain ⟨i0, hi0⟩ : ∃ i, i = a + (b - a) / 4 * 2 - 1 := ⟨_, rfl⟩
 refine fL (l := d.toList) (E := ao) (T := 23) hr Tryz.func256 rfl Tryz.ntmps256 rfl ?_
 refine af (zz0 (aa rfl) (zz0 (aa rfl) (zz0 (eE rfl rfl) ?_)))
 refine zz0 (ab rfl) (aH (zz0 (aa rfl) (zz0 (eJ rfl rfl) (ad ?_))))
 refine ar rfl ?_ ?_ <;> intro h1 <;> try simp only [bs] at h1
 ·refine af (zz0 (aa rfl) (zz0 (Ch (b - a) rfl aZ Tryz.underlying292 (by omega) (by omega)) ?_))
  refine dB Tryz.zeroValue292 rfl (fun b2 => ?_)
  refine jE rfl rfl lP (by repeat constructor) (by rfl) (by rfl) (by first | exact List.all_eq_true.1 rfl | exact Enc.one _ _) rfl ?_
  refine aH (zz0 (aa rfl) (zz0 (aA rfl Tryz.call265 (fun w hw => DU (b - a) _ (by omega) (by omega) w)) ?_))
  rw [← hmd]
  have hmb := IQ (n := b - a) (by omega)
  rw [← hmd] at hmb
  refine zz0 (ab rfl) (aH (zz0 (aa rfl) (zz0 (aa rfl) (zz0 (oY rfl rfl (by omega)) ?_))))
  refine zz0 (kx rfl rfl (by omega)) ?_
  refine zz0 (cp rfl rfl) ?_
  refine zz0 (eE rfl rfl) ?_
  refine zz0 (ab rfl) (ad (aF ?_))
  refine bL (ι := Nat × UInt64 × Array UInt32) (fun ⟨t, r, cur⟩ => t ≤ 3 ∧ cur.size = d.size ∧ q9 a (b - a) md i0 t (UInt64.ofNat (b - a), d) = (r, cur)) (fun _ => _) (fun ⟨t, r, cur⟩ => [rowE V 23 ao cur.toList, cellE b2 [.int .u64 (r.toNat : Int)] 292]) (fun ⟨t, r, cur⟩ => [(9, .int .i64 ((i0 + t : Nat) : Int))]) (fun ⟨t, r, cur⟩ => 3 - t) (0, UInt64.ofNat (b - a), d) ⟨by omega, rfl, rfl⟩ (Front.c Front.nil) (by repeat' constructor) rfl (fun i hi m hm => ?_)
  obtain ⟨t, r, cur⟩ := i
  replace hi : t ≤ 3 ∧ cur.size = d.size ∧ q9 a (b - a) md i0 t (UInt64.ofNat (b - a), d) = (r, cur) := hi
  replace hm : m = 3 - t := hm
  change Tr _ _ [rowE V 23 ao cur.toList, cellE b2 [.int .u64 (r.toNat : Int)] 292] ([(9, .int .i64 ((i0 + t : Nat) : Int))] ++ _) _
  obtain ⟨hk1, hk2, hk3⟩ := hi
  have hcl : cur.toList.length = d.size := by rw [Array.length_toList]; exact hk2
  refine al (af (zz0 (aa rfl) (zz0 (aa rfl) (zz0 (aa rfl) (zz0 (oY rfl rfl (by omega)) ?_)))))
  refine zz0 (kx rfl rfl (by omega)) ?_
  refine zz0 (cp rfl rfl) ?_
  refine zz0 (cp rfl rfl) ?_
  refine zz0 (gr rfl rfl) (ad ?_)
  refine ar rfl ?_ ?_ <;> intro h3 <;> try simp only [bs] at h3
  ·refine bF (al (aF (af ?_)))
   refine iY (fun _ : Unit => .int .u64 ((xorNext r).toNat : Nat)) [cellE b2 [.int .u64 ((r).toNat : Int)] 292] (fun _ => [cellE b2 [.int .u64 ((xorNext r).toNat : Int)] 292]) (ok := fun _ => True) (dd := fun w => w.drawn) rfl Tryz.call266 (by repeat' constructor) (fun w hw => hw.dr) (fun w hw => IP r b2 w (hw.own (by repeat' constructor))) rfl (fun i hi => ?_)
   refine zz0 (aa rfl) (zz0 (GU (n := 1) rfl rfl (by omega) (by omega)) ?_)
   refine zz0 (G6 rfl rfl (by have := (xorNext r).toNat_lt; omega) (by omega)) ?_
   have hand : (xorNext r).toNat &&& (md - 1) ≤ md - 1 := Nat.and_le_right
   change Tr _ _ [cellE b2 [.int .u64 ((xorNext r).toNat : Int)] 292, rowE V 23 ao cur.toList] _ _
   refine zz0 (eG rfl dZ aZ (IntWalk.i64_in _ (by omega))) ?_
   refine zz0 (ab rfl) (ad ?_)
   refine di (ι := Nat) (fun o => o < b - a ∧ o = if b - a ≤ ((xorNext r).toNat &&& (md - 1)) then ((xorNext r).toNat &&& (md - 1)) - (b - a) else ((xorNext r).toNat &&& (md - 1))) (fun _ => Bg.less w V) (fun o => [rowE V 23 ao cur.toList, cellE b2 [.int .u64 ((xorNext r).toNat : Int)] 292]) (fun o => [(10, .int .i64 (o : Nat))]) ?_ (fun o hi => ?_)
   ·skip
    refine af (zz0 (aa rfl) (zz0 (aa rfl) (zz0 (eJ rfl rfl) (ad ?_))))
    refine ar rfl ?_ ?_ <;> intro h4 <;> try simp only [bs] at h4
    ·refine an (zz0 (aa rfl) (zz0 (aa rfl) (zz0 (eE rfl rfl) ?_)))
     refine zz0 (ab rfl) (ad ?_)
     refine cw (((xorNext r).toNat &&& (md - 1)) - (b - a)) (Front.c Front.nil) (bC 7 rfl) (o := ⟨by omega, by rw [if_pos (by omega)]⟩)
    ·refine bF ?_
     refine cw ((xorNext r).toNat &&& (md - 1)) (Front.c Front.nil) (bC 3 rfl) (o := ⟨by omega, by rw [if_neg (by omega)]⟩)
   ·skip
    replace hi : o < b - a ∧ o = if b - a ≤ ((xorNext r).toNat &&& (md - 1)) then ((xorNext r).toNat &&& (md - 1)) - (b - a) else ((xorNext r).toNat &&& (md - 1)) := hi
    change Tr _ _ [rowE V 23 ao cur.toList, cellE b2 [.int .u64 ((xorNext r).toNat : Int)] 292] ([(10, .int .i64 (o : Nat))] ++ _) _
    obtain ⟨ho1, ho2⟩ := hi
    refine fO 6 17 aQ ?_
    refine eD rfl ?_
    refine eD rfl ?_
    refine eD rfl ?_
    refine eD rfl ?_
    refine eD rfl ?_
    refine gG (fun _ => cp rfl rfl) (by rfl) rfl ?_
    refine bI ?_
    refine aw (aa rfl) (aw (aa rfl) (aw (aa rfl) (aw (cp rfl rfl) ?_)))
    refine aw (zz7 rfl rfl ah ae) ?_
    refine aw (eF rfl am) ?_
    refine aw (aa rfl) (aw (aa rfl) (aw (zz7 rfl rfl ah ae) ?_))
    refine aw (eF rfl am) ?_
    refine aw (zz7 rfl rfl ah ae) ?_
    refine bK ?_
    refine gg (l := cur.toList) (i := (i0 + t)) (cur.toList.getD ((a + o)) default) rfl rfl ae ?_
    have hls5 : (List.set cur.toList ((i0 + t)) (cur.toList.getD ((a + o)) default)).length = (cur.toList).length := List.length_set
    refine zz0 (zz7 rfl rfl ah ae) ?_
    refine gg (l := (cur.toList.set ((i0 + t)) (cur.toList.getD ((a + o)) default))) (i := (a + o)) (cur.toList.getD ((i0 + t)) default) rfl rfl ae ?_
    have hls6 : (List.set (cur.toList.set ((i0 + t)) (cur.toList.getD ((a + o)) default)) ((a + o)) (cur.toList.getD ((i0 + t)) default)).length = ((cur.toList.set ((i0 + t)) (cur.toList.getD ((a + o)) default))).length := List.length_set
    rw [dY, dY, iH]
    refine aD (aX (ac (an (zz0 (aa rfl) (zz0 (cp rfl rfl) ?_)))))
    refine zz0 (ab rfl) (ad ?_)
    refine cH (t + 1, xorNext r, _) (Front.c Front.nil) (bC 37 rfl) (o := ⟨by omega, by rw [oh]; exact hk2, GA hk3 ho2⟩)
  ·refine bJ (aG (aG (bv ?_)))
   refine fx Tryz.results256 (fun w' hw => ?_)
   obtain rfl : t = 3 := by omega
   have hq : breakPatterns d a b = cur := by rw [GE (by omega), ← hmd, ← hi0, hk3]
   exact ⟨rfl, by rw [hq]; exact HpOK.mutOwn hw (.head _) rfl⟩
 ·refine cg ?_
  refine fx Tryz.results256 (fun w' hw => ?_)
  exact ⟨rfl, by rw [GB (by omega)]; exact HpOK.mutOwn hw (.head _) rfl⟩
theorem Fh (V : Value) (n : Nat) (ih : ∀ (d : Array UInt32) (a b limit : Nat) (ai bi li : Int) (w : World), ai = ((a : Nat) : Int) → bi = ((b : Nat) : Int) → li = ((limit : Nat) : Int) → (rowE V 23 ao d.toList).holds w → d.size ≤ 1000000 → a ≤ b → b ≤ d.size → limit ≤ 64 → b - a < n → Calls Tryz.prog 198 #[V, .int .i64 ai, .int .i64 bi, .int .i64 li] w (fun e w' => e = .returned (.tuple #[]) ∧ Mut w w' V ∧ (rowE V 23 ao (pdq ltW d a b limit true true).toList).holds w')) (d : Array UInt32) (a : Nat) (b : Nat) (limit : Nat) (ai : Int) (bi : Int) (limiti : Int) (ea : ai = ((a : Nat) : Int)) (eb : bi = ((b : Nat) : Int)) (elimit : limiti = ((limit : Nat) : Int)) (w : World) (hr : (rowE V 23 ao d.toList).holds w) (hd : d.size ≤ 1000000) (hab : a ≤ b) (hb : b ≤ d.size) (hl : limit ≤ 64) (hn : b - a ≤ n) :
  Calls Tryz.prog 198 #[V, .int .i64 ai, .int .i64 bi, .int .i64 limiti] w (fun e w' => e = .returned (.tuple #[]) ∧ Mut w w' V ∧ (rowE V 23 ao (pdq ltW d a b limit true true).toList).holds w') := by
 subst ea eb elimit
 refine fL (l := d.toList) (E := ao) (T := 23) hr Tryz.func198 rfl Tryz.ntmps198 rfl ?_
 refine af (zz0 (ab rfl) (aH (zz0 (ab rfl) (ad (aF ?_)))))
 refine bL (ι := Nat × Nat × Nat × Bool × Bool × Array UInt32) (fun ⟨a1, b1, l1, wb, wp, cur⟩ => (a ≤ a1 ∧ a1 ≤ b1 ∧ b1 ≤ b ∧ l1 ≤ 64) ∧ cur.size = d.size ∧ pdq ltW cur a1 b1 l1 wb wp = pdq ltW d a b limit true true) (fun _ => _) (fun ⟨a1, b1, l1, wb, wp, cur⟩ => [rowE V 23 ao cur.toList]) (fun ⟨a1, b1, l1, wb, wp, cur⟩ => [(1, .int .i64 (a1 : Nat)), (2, .int .i64 (b1 : Nat)), (3, .int .i64 (l1 : Nat)), (8, .bool wb), (9, .bool wp)]) (fun ⟨a1, b1, l1, wb, wp, cur⟩ => b1 - a1) (a, b, limit, true, true, d) ⟨⟨Nat.le_refl _, hab, Nat.le_refl _, hl⟩, rfl, rfl⟩ (.cons (by first | rfl | exact dK rfl (by omega) | exact eo rfl (decide_eq_decide.2 (by omega)) | exact dK rfl (by simp) | exact eo rfl (by simp)) (.cons (by first | rfl | exact dK rfl (by omega) | exact eo rfl (decide_eq_decide.2 (by omega)) | exact dK rfl (by simp) | exact eo rfl (by simp)) (.cons (by first | rfl | exact dK rfl (by omega) | exact eo rfl (decide_eq_decide.2 (by omega)) | exact dK rfl (by simp) | exact eo rfl (by simp)) (.cons (by first | rfl | exact dK rfl (by omega) | exact eo rfl (decide_eq_decide.2 (by omega)) | exact dK rfl (by simp) | exact eo rfl (by simp)) (.cons (by first | rfl | exact dK rfl (by omega) | exact eo rfl (decide_eq_decide.2 (by omega)) | exact dK rfl (by simp) | exact eo rfl (by simp)) Front.nil))))) (by repeat' constructor) rfl (fun i hi m hm => ?_)
 obtain ⟨a1, b1, l1, wb, wp, cur⟩ := i
 replace hi : (a ≤ a1 ∧ a1 ≤ b1 ∧ b1 ≤ b ∧ l1 ≤ 64) ∧ cur.size = d.size ∧ pdq ltW cur a1 b1 l1 wb wp = pdq ltW d a b limit true true := hi
 replace hm : m = b1 - a1 := hm
 change Tr _ _ [rowE V 23 ao cur.toList] ([(1, .int .i64 (a1 : Nat)), (2, .int .i64 (b1 : Nat)), (3, .int .i64 (l1 : Nat)), (8, .bool wb), (9, .bool wp)] ++ _) _
 obtain ⟨hk1, hk2, hk3⟩ := hi
 have hcl : cur.toList.length = d.size := by rw [Array.length_toList]; exact hk2
 refine aF (af (zz0 (aa rfl) (zz0 (aa rfl) (zz0 (eE rfl rfl) ?_))))
 refine zz0 (ab rfl) (ad (al (af (zz0 (aa rfl) (zz0 (gr rfl rfl) (ad ?_))))))
 refine ar rfl ?_ ?_ <;> intro h1 <;> try simp only [bs] at h1
 ·refine af (zz0 (aa rfl) (zz0 (aa rfl) (zz0 (aa rfl) (eh rfl Tryz.call254 (by repeat constructor) (fun w hw => v8 cur V a1 b1 _ _ rfl rfl w (hw.ent _ (.head _)) (by omega) (by omega) (by omega)) rfl ?_))))
  refine ad (aB (ay (bA (ay (bA ?_)))))
  refine lT nk (fun w' hw => ?_)
  exact ⟨rfl, by rw [← hk3, v6 (by omega)]; exact HpOK.mutOwn hw (.head _) rfl⟩
 ·refine bF (al (af (zz0 (aa rfl) (zz0 (bB rfl rfl) (ad ?_)))))
  refine ar rfl ?_ ?_ <;> intro h2 <;> try simp only [bs] at h2
  ·refine af (zz0 (aa rfl) (zz0 (aa rfl) (zz0 (aa rfl) (eh rfl Tryz.call255 (by repeat constructor) (fun w hw => FO cur V a1 b1 _ _ rfl rfl w (hw.ent _ (.head _)) (by omega) (by omega) (by omega)) rfl ?_))))
   refine ad (aB (ay (bA (ay (bA ?_)))))
   refine lT nk (fun w' hw => ?_)
   exact ⟨rfl, by rw [← hk3, ya (by omega) (by omega)]; exact HpOK.mutOwn hw (.head _) rfl⟩
  ·refine bF ?_
   refine di (ι := Nat × Array UInt32) (fun ⟨l2, d1⟩ => (d1.size = d.size ∧ l2 ≤ 64) ∧ l2 = (if !wb then l1 - 1 else l1) ∧ d1 = (if !wb then breakPatterns cur a1 b1 else cur)) (fun _ => Bg.less w V) (fun ⟨l2, d1⟩ => [rowE V 23 ao d1.toList]) (fun ⟨l2, d1⟩ => [(3, .int .i64 (l2 : Nat))]) ?_ (fun i hi => ?_)
   ·skip
    refine af (zz0 (aa rfl) (zz0 (cQ rfl) (ad ?_)))
    refine ar rfl ?_ ?_ <;> intro h3 <;> try simp only [bs] at h3
    ·refine af (zz0 (aa rfl) (zz0 (aa rfl) (zz0 (aa rfl) (eh rfl Tryz.call256 (by repeat constructor) (fun w hw => Ej cur V a1 b1 _ _ rfl rfl w (hw.ent _ (.head _)) (by omega) (by omega) (by omega)) rfl ?_))))
     refine kG hr (.head _) (fun hq => ?_)
     have hz1 : (breakPatterns cur a1 b1).size = d.size := by rw [← Array.length_toList, ← Array.length_toList]; exact hq
     refine ad (an (zz0 (aa rfl) (zz0 (eE rfl rfl) ?_)))
     refine zz0 (ab rfl) (ad ?_)
     refine cw (l1 - 1, breakPatterns cur a1 b1) (.cons (by first | rfl | exact dK rfl (by omega) | exact eo rfl (decide_eq_decide.2 (by omega)) | exact dK rfl (by simp) | exact eo rfl (by simp)) Front.nil) (bC 9 rfl) (o := ⟨⟨hz1, by omega⟩, by simp_all, by simp_all⟩)
    ·refine bF ?_
     refine cw (l1, cur) (.cons (by first | rfl | exact dK rfl (by omega) | exact eo rfl (decide_eq_decide.2 (by omega)) | exact dK rfl (by simp) | exact eo rfl (by simp)) Front.nil) (bC 2 rfl) (o := ⟨⟨hk2, by omega⟩, by simp_all, by simp_all⟩)
   ·obtain ⟨l2, d1⟩ := i
    replace hi : (d1.size = d.size ∧ l2 ≤ 64) ∧ l2 = (if !wb then l1 - 1 else l1) ∧ d1 = (if !wb then breakPatterns cur a1 b1 else cur) := hi
    change Tr _ _ [rowE V 23 ao d1.toList] ([(3, .int .i64 (l2 : Nat))] ++ _) _
    obtain ⟨hd1, hl2, hd1e⟩ := hi
    refine af (zz0 (aa rfl) (zz0 (aa rfl) (zz0 (aa rfl) (eh rfl Tryz.call257 (by repeat constructor) (fun w hw => uh d1 V a1 b1 _ _ rfl rfl w (hw.ent _ (.head _)) (by omega) (by omega) (by omega)) rfl ?_))))
    obtain ⟨c, hc⟩ : ∃ c, c = choosePivot ltW d1 a1 b1 := ⟨_, rfl⟩
    rw [← hc]
    have hcr := choosePivot_holds ltW d1 a1 b1 (by omega)
    rw [← hc] at hcr
    refine zz0 (aa rfl) (zz0 (aL rfl rfl) (zz0 (aL rfl rfl) (zz0 (ab rfl) (zz0 (ab rfl) (ad ?_)))))
    refine di (ι := Nat × Hint × Array UInt32) (fun ⟨pv, hint, d2⟩ => (a1 ≤ pv ∧ pv < b1 ∧ d2.size = d.size) ∧ d2 = (if c.2 = .decreasing then reverseRange d1 a1 b1 else d1) ∧ pv = (if c.2 = .decreasing then (b1 - 1) - (c.1 - a1) else c.1) ∧ hint = (if c.2 = .decreasing then Hint.increasing else c.2)) (fun _ => Bg.less w V) (fun ⟨pv, hint, d2⟩ => [rowE V 23 ao d2.toList]) (fun ⟨pv, hint, d2⟩ => [(11, .int .i64 (pv : Nat)), (12, .int .i64 (hintCode hint))]) ?_ (fun i hi => ?_)
    ·skip
     refine af (zz0 (aa rfl) (zz0 (bB rfl rfl) (ad ?_)))
     refine ar rfl ?_ ?_ <;> intro h4 <;> try simp only [bs] at h4
     ·refine af (zz0 (aa rfl) (zz0 (aa rfl) (zz0 (aa rfl) (eh rfl Tryz.call258 (by repeat constructor) (fun w hw => zy d1 V a1 b1 _ _ rfl rfl w (hw.ent _ (.head _)) (by omega) (by omega) (by omega)) rfl ?_))))
      refine kG hr (.head _) (fun hq => ?_)
      have hz2 : (reverseRange d1 a1 b1).size = d.size := by rw [← Array.length_toList, ← Array.length_toList]; exact hq
      refine aH (zz0 (aa rfl) (zz0 (eE rfl rfl) ?_))
      refine zz0 (aa rfl) (zz0 (aa rfl) (zz0 (eE rfl rfl) ?_))
      refine zz0 (eE rfl rfl) ?_
      refine zz0 (ab rfl) (ad (an (zz0 (ab rfl) (ad ?_))))
      have hx : c.2 = .decreasing := (rR c.2).1 (by assumption)
      refine cw (b1 - 1 - (c.1 - a1), .increasing, reverseRange d1 a1 b1) (.cons (by first | rfl | exact dK rfl (by omega) | exact eo rfl (decide_eq_decide.2 (by omega)) | exact dK rfl (by simp) | exact eo rfl (by simp)) (.cons (by first | rfl | exact dK rfl (by omega) | exact eo rfl (decide_eq_decide.2 (by omega)) | exact dK rfl (by simp) | exact eo rfl (by simp)) Front.nil)) (bC 14 rfl) (o := ⟨⟨by omega, by omega, hz2⟩, by rw [if_pos hx], by rw [if_pos hx], by rw [if_pos hx]⟩)
     ·refine bF ?_
      have hx : ¬ c.2 = .decreasing := fun e => absurd ((rR c.2).2 e) (by assumption)
      refine cw (c.1, c.2, d1) (.cons (by first | rfl | exact dK rfl (by omega) | exact eo rfl (decide_eq_decide.2 (by omega)) | exact dK rfl (by simp) | exact eo rfl (by simp)) (.cons (by first | rfl | exact dK rfl (by omega) | exact eo rfl (decide_eq_decide.2 (by omega)) | exact dK rfl (by simp) | exact eo rfl (by simp)) Front.nil)) (bC 2 rfl) (o := ⟨⟨by omega, by omega, hd1.1⟩, by rw [if_neg hx], by rw [if_neg hx], by rw [if_neg hx]⟩)
    ·obtain ⟨pv, hint, d2⟩ := i
     replace hi : (a1 ≤ pv ∧ pv < b1 ∧ d2.size = d.size) ∧ d2 = (if c.2 = .decreasing then reverseRange d1 a1 b1 else d1) ∧ pv = (if c.2 = .decreasing then (b1 - 1) - (c.1 - a1) else c.1) ∧ hint = (if c.2 = .decreasing then Hint.increasing else c.2) := hi
     change Tr _ _ [rowE V 23 ao d2.toList] ([(11, .int .i64 (pv : Nat)), (12, .int .i64 (hintCode hint))] ++ _) _
     obtain ⟨hpv, hd2, hpve, hhint⟩ := hi
     have hdl2 : d2.toList.length = d.size := by rw [Array.length_toList]; exact hpv.2.2
     refine di (ι := Array UInt32) (fun d3 => d3.size = d.size ∧ (if wb && wp && hint = .increasing then partialInsertionSort ltW d2 a1 b1 else (d2, false)) = (d3, false)) (fun _ => Bg.less w V) (fun d3 => [rowE V 23 ao d3.toList]) (fun d3 => []) ?_ (fun d3 hi => ?_)
     ·skip
      refine af (zz0 (aa rfl) (zz0 (aa rfl) ?_))
      apply cE
      ·exact (rfl : _ = (2, 62, 64))
      ·exact rfl
      ·intro hT5; have hT5' := hT5
       try simp only [bs] at hT5'
       refine zz5 hT5 (aa rfl) (zz0 (aS rfl hT5 rfl) ?_)
       refine aD (ac ?_)
       exact aI (Sub.cons rfl (zz9 2 rfl))
      ·intro hF5
       refine zz8 hF5 (zz0 (aT rfl hF5 rfl) ?_)
       refine aD (ac ?_)
       exact aI (Sub.cons rfl (zz9 2 rfl))
      refine zz0 (aa rfl) ?_
      apply cE
      ·exact (rfl : _ = (3, 65, 68))
      ·exact rfl
      ·intro hT6; have hT6' := hT6
       try simp only [bs] at hT6'
       refine zz5 hT6 (aa rfl) (zz5 hT6 (bB rfl rfl) (zz0 (aS rfl hT6 rfl) ?_))
       refine aD (ac ?_)
       exact aI (Sub.cons rfl (zz9 3 rfl))
      ·intro hF6
       refine zz8 hF6 (zz8 hF6 (zz0 (aT rfl hF6 rfl) ?_))
       refine aD (ac ?_)
       exact aI (Sub.cons rfl (zz9 3 rfl))
      refine ad ?_
      refine ar rfl ?_ ?_ <;> intro h7 <;> try simp only [bs] at h7
      ·refine af (zz0 (aa rfl) (zz0 (aa rfl) (zz0 (aa rfl) (eh rfl Tryz.call259 (by repeat constructor) (fun w hw => uZ d2 V a1 b1 _ _ rfl rfl w (hw.ent _ (.head _)) (by omega) (by omega) (by omega)) rfl ?_))))
       obtain ⟨p, hp⟩ : ∃ p, p = partialInsertionSort ltW d2 a1 b1 := ⟨_, rfl⟩
       rw [← hp]
       refine kG hr (.head _) (fun hq => ?_)
       have hz3 : p.1.size = d.size := by rw [← Array.length_toList, ← Array.length_toList]; exact hq
       refine ad ?_
       refine ar rfl ?_ ?_ <;> intro h8 <;> try simp only [bs] at h8
       ·refine aB (ay (bA (ay (bA ?_))))
        refine lT nk (fun w' hw => ?_)
        have hfin : pdq ltW cur a1 b1 l1 wb wp = p.1 := yb (by omega) (by omega) hd1e hc hd2 hhint (by rw [if_pos (Fg h7), ← hp]; exact Prod.ext rfl (by assumption))
        exact ⟨rfl, by rw [← hk3, hfin]; exact HpOK.mutOwn hw (.head _) rfl⟩
       ·refine bF ?_
        refine cw p.1 Front.nil (bC 9 rfl) (o := ⟨hz3, by rw [if_pos (Fg h7)]; exact Prod.ext rfl (by assumption)⟩)
      ·refine bF ?_
       refine cw d2 Front.nil (bC 5 rfl) (o := ⟨hpv.2.2, by rw [if_neg (Ju h7)]⟩)
     ·skip
      replace hi : d3.size = d.size ∧ (if wb && wp && hint = .increasing then partialInsertionSort ltW d2 a1 b1 else (d2, false)) = (d3, false) := hi
      change Tr _ _ [rowE V 23 ao d3.toList] ([] ++ _) _
      obtain ⟨hd3, hd3e⟩ := hi
      have hdl3 : d3.toList.length = d.size := by rw [Array.length_toList]; exact hd3
      have hR : Rnd cur a1 b1 l1 wb wp l2 pv d3 := ⟨d1, d2, c, hint, hd1e, hl2, hc, hd2, hpve, hhint, hd3e⟩
      have ea1 : ((a1 : Int) - 1).toNat = a1 - 1 ∨ a1 = 0 := by omega
      refine al (al (io aQ ?_))
      refine aw (aa rfl) (aw (fj rfl rfl) (aw (aa rfl) ?_))
      apply fN
      ·exact (rfl : _ = (12, 75, 87))
      ·exact rfl
      ·intro hT9; have hT9' := hT9
       try simp only [bs] at hT9'
       refine bY hT9 (aa rfl) (bY hT9 (aa rfl) (bY hT9 (eE rfl rfl) ?_))
       refine bY hT9 (jJ rfl rfl ah ae) ?_
       refine bY hT9 (eF rfl am) ?_
       refine bY hT9 (aa rfl) (bY hT9 (aa rfl) (bY hT9 (zz7 rfl rfl ah ae) ?_))
       refine bY hT9 (eF rfl am) ?_
       refine bY hT9 (aA rfl fF (fun w hw => g5 (d3.toList.getD (((a1 : Int) - 1).toNat) default) (d3.toList.getD (pv) default) w)) ?_
       refine bY hT9 (cQ rfl) (aw (aS rfl hT9 rfl) ?_)
       exact du (Sub.cons rfl (zz9 12 rfl))
      ·intro hF9
       refine bX hF9 (bX hF9 (bX hF9 (bX hF9 (bX hF9 (bX hF9 (bX hF9 (bX hF9 (bX hF9 (bX hF9 (bX hF9 (aw (aT rfl hF9 rfl) ?_)))))))))))
       exact du (Sub.cons rfl (zz9 12 rfl))
      refine bK ?_
      refine ac ?_
      refine ar rfl ?_ ?_ <;> intro h10 <;> try simp only [bs] at h10
      ·refine af (zz0 (aa rfl) (zz0 (aa rfl) (zz0 (aa rfl) (zz0 (aa rfl) (eh rfl Tryz.call261 (by repeat constructor) (fun w hw => t7 d3 V a1 b1 pv _ _ _ rfl rfl rfl w (hw.ent _ (.head _)) (by omega) (by omega) (by omega) (by omega)) rfl ?_)))))
       obtain ⟨p, hpe⟩ : ∃ p, p = partitionEqual ltW d3 a1 b1 pv := ⟨_, rfl⟩
       have hpr := Bl (d := d3) (pv := pv) (show a1 + 1 < b1 by omega) (by omega)
       rw [← hpe] at hpr
       rw [← hpe]
       obtain ⟨mid, d4⟩ := p
       dsimp only at hpr ⊢
       refine kG hr (.head _) (fun hq => ?_)
       have hz4 : d4.size = d.size := by rw [← Array.length_toList, ← Array.length_toList]; exact hq
       refine zz0 (ab rfl) (aH (zz0 (aa rfl) (zz0 (ab rfl) (ad (bJ (aG (bv (ac ?_))))))))
       apply gm (mid, b1, l2, wb, wp, d4)
       ·exact rfl
       ·exact (.cons (by first | rfl | exact dK rfl (by omega) | exact eo rfl (decide_eq_decide.2 (by omega)) | exact dK rfl (by simp) | exact eo rfl (by simp)) (.cons (by first | rfl | exact dK rfl (by omega) | exact eo rfl (decide_eq_decide.2 (by omega)) | exact dK rfl (by simp) | exact eo rfl (by simp)) (.cons (by first | rfl | exact dK rfl (by omega) | exact eo rfl (decide_eq_decide.2 (by omega)) | exact dK rfl (by simp) | exact eo rfl (by simp)) (.cons (by first | rfl | exact dK rfl (by omega) | exact eo rfl (decide_eq_decide.2 (by omega)) | exact dK rfl (by simp) | exact eo rfl (by simp)) (.cons (by first | rfl | exact dK rfl (by omega) | exact eo rfl (decide_eq_decide.2 (by omega)) | exact dK rfl (by simp) | exact eo rfl (by simp)) Front.nil)))))
       ·exact bC 37 rfl
       ·exact (by repeat' constructor)
       ·exact ⟨by show a ≤ mid ∧ mid ≤ b1 ∧ b1 ≤ b ∧ l2 ≤ 64; omega, hz4, by rw [← hk3]; exact (Hr (by omega) (by omega) hR (by omega) (by rw [← dY, ← dY, ← ea1.resolve_right (by omega)]; simp_all) hpe.symm (by omega)).symm⟩
       ·exact (by show b1 - mid < m; omega)
      ·refine bF (al ?_)
       have hcond : a1 = 0 ∨ ltW d3[a1 - 1]! d3[pv]! = true := by
        rcases Nat.eq_zero_or_pos a1 with q | q
        ·exact .inl q
        ·right
         rw [← dY, ← dY, ← ea1.resolve_right (by omega)]
         simp_all
       refine an (zz0 (aa rfl) (zz0 (aa rfl) (zz0 (aa rfl) (zz0 (aa rfl) (eh rfl Tryz.call262 (by repeat constructor) (fun w hw => vZ d3 V a1 b1 pv _ _ _ rfl rfl rfl w (hw.ent _ (.head _)) (by omega) (by omega) (by omega) (by omega)) rfl ?_)))))
       obtain ⟨p, hpt⟩ : ∃ p, p = partition ltW d3 a1 b1 pv := ⟨_, rfl⟩
       have hpr := Fj (d := d3) (a := a1) (b := b1) (pv := pv) (by omega) (by omega) (by omega)
       rw [← hpt] at hpr
       rw [← hpt]
       obtain ⟨mid, ap, d4⟩ := p
       dsimp only at hpr ⊢
       refine kG hr (.head _) (fun hq => ?_)
       have hz4 : d4.size = d.size := by rw [← Array.length_toList, ← Array.length_toList]; exact hq
       refine zz0 (aa rfl) (zz0 (aL rfl rfl) (zz0 (aL rfl rfl) (zz0 (ab rfl) (zz0 (ab rfl) (aH (zz0 (aa rfl) (zz0 (ab rfl) (ad (al ?_)))))))))
       refine an (zz0 (aa rfl) (zz0 (aa rfl) (zz0 (eE rfl rfl) ?_)))
       refine zz0 (aa rfl) (zz0 (aa rfl) (zz0 (eE rfl rfl) ?_))
       refine zz0 (ab rfl) (zz0 (ab rfl) (aH (zz0 (aa rfl) (zz0 (oY rfl rfl (by omega)) ?_))))
       refine zz0 (ab rfl) (aH (zz0 (aa rfl) (zz0 (aa rfl) (zz0 (bU rfl rfl) (ad ?_)))))
       refine ar rfl ?_ ?_ <;> intro h11 <;> try simp only [bs] at h11
       ·refine af (zz0 (aa rfl) (zz0 (aa rfl) (zz0 (eJ rfl rfl) (zz0 (ab rfl) (aH (zz0 (aa rfl) (zz0 (aa rfl) (zz0 (aa rfl) (zz0 (aa rfl) ?_)))))))))
        refine eh rfl Tryz.call198 (by repeat constructor) (fun w hw => ih d4 a1 mid l2 _ _ _ w rfl rfl rfl (hw.ent _ (.head _)) (by omega) (by omega) (by omega) (by omega) (by omega)) rfl ?_
        refine kG hr (.head _) (fun hq => ?_)
        have hz5 : (pdq ltW d4 a1 mid l2 true true).size = d.size := by rw [← Array.length_toList, ← Array.length_toList]; exact hq
        refine ad (an (zz0 (aa rfl) (zz0 (cp rfl rfl) ?_)))
        refine zz0 (ab rfl) (aD (aX (ac ?_)))
        apply gm (mid + 1, b1, l2, decide (mid - a1 ≥ (b1 - a1) / 8), ap, pdq ltW d4 a1 mid l2 true true)
        ·exact rfl
        ·exact (.cons (by first | rfl | exact dK rfl (by omega) | exact eo rfl (decide_eq_decide.2 (by omega)) | exact dK rfl (by simp) | exact eo rfl (by simp)) (.cons (by first | rfl | exact dK rfl (by omega) | exact eo rfl (decide_eq_decide.2 (by omega)) | exact dK rfl (by simp) | exact eo rfl (by simp)) (.cons (by first | rfl | exact dK rfl (by omega) | exact eo rfl (decide_eq_decide.2 (by omega)) | exact dK rfl (by simp) | exact eo rfl (by simp)) (.cons (by first | rfl | exact dK rfl (by omega) | exact eo rfl (decide_eq_decide.2 (by omega)) | exact dK rfl (by simp) | exact eo rfl (by simp)) (.cons (by first | rfl | exact dK rfl (by omega) | exact eo rfl (decide_eq_decide.2 (by omega)) | exact dK rfl (by simp) | exact eo rfl (by simp)) Front.nil)))))
        ·exact bC 67 rfl
        ·exact (by repeat' constructor)
        ·exact ⟨by show a ≤ mid + 1 ∧ mid + 1 ≤ b1 ∧ b1 ≤ b ∧ l2 ≤ 64; omega, hz5, by rw [← hk3]; exact (xZ (by omega) (by omega) hR hcond hpt.symm (by omega) (by omega)).symm⟩
        ·exact (by show b1 - (mid + 1) < m; omega)
       ·refine af (zz0 (aa rfl) (zz0 (aa rfl) (zz0 (eJ rfl rfl) (zz0 (ab rfl) (aH (zz0 (aa rfl) (zz0 (aa rfl) (zz0 (cp rfl rfl) ?_))))))))
        refine zz0 (aa rfl) (zz0 (aa rfl) (eh rfl Tryz.call198 (by repeat constructor) (fun w hw => ih d4 (mid + 1) b1 l2 _ _ _ w (by omega) rfl rfl (hw.ent _ (.head _)) (by omega) (by omega) (by omega) (by omega) (by omega)) rfl ?_))
        refine kG hr (.head _) (fun hq => ?_)
        have hz5 : (pdq ltW d4 (mid + 1) b1 l2 true true).size = d.size := by rw [← Array.length_toList, ← Array.length_toList]; exact hq
        refine ad (an (zz0 (aa rfl) (zz0 (ab rfl) (aD (aX (ac ?_))))))
        apply gm (a1, mid, l2, decide (b1 - mid ≥ (b1 - a1) / 8), ap, pdq ltW d4 (mid + 1) b1 l2 true true)
        ·exact rfl
        ·exact (.cons (by first | rfl | exact dK rfl (by omega) | exact eo rfl (decide_eq_decide.2 (by omega)) | exact dK rfl (by simp) | exact eo rfl (by simp)) (.cons (by first | rfl | exact dK rfl (by omega) | exact eo rfl (decide_eq_decide.2 (by omega)) | exact dK rfl (by simp) | exact eo rfl (by simp)) (.cons (by first | rfl | exact dK rfl (by omega) | exact eo rfl (decide_eq_decide.2 (by omega)) | exact dK rfl (by simp) | exact eo rfl (by simp)) (.cons (by first | rfl | exact dK rfl (by omega) | exact eo rfl (decide_eq_decide.2 (by omega)) | exact dK rfl (by simp) | exact eo rfl (by simp)) (.cons (by first | rfl | exact dK rfl (by omega) | exact eo rfl (decide_eq_decide.2 (by omega)) | exact dK rfl (by simp) | exact eo rfl (by simp)) Front.nil)))))
        ·exact bC 67 rfl
        ·exact (by repeat' constructor)
        ·exact ⟨by show a ≤ a1 ∧ a1 ≤ mid ∧ mid ≤ b ∧ l2 ≤ 64; omega, hz5, by rw [← hk3]; exact (v7 (by omega) (by omega) hR hcond hpt.symm (by omega) (by omega)).symm⟩
        ·exact (by show mid - a1 < m; omega)
theorem Cw (V : Value) : ∀ (n : Nat) (d : Array UInt32) (a b limit : Nat) (ai bi li : Int) (w : World), ai = ((a : Nat) : Int) → bi = ((b : Nat) : Int) → li = ((limit : Nat) : Int) → (rowE V 23 ao d.toList).holds w → d.size ≤ 1000000 → a ≤ b → b ≤ d.size → limit ≤ 64 → b - a < n → Calls Tryz.prog 198 #[V, .int .i64 ai, .int .i64 bi, .int .i64 li] w (fun e w' => e = .returned (.tuple #[]) ∧ Mut w w' V ∧ (rowE V 23 ao (pdq ltW d a b limit true true).toList).holds w')
 | 0, _, _, _, _, _, _, _, _, _, _, _, _, _, _, _, _, h => absurd h (Nat.not_lt_zero _)
 | n + 1, d, a, b, limit, ai, bi, li, w, e1, e2, e3, hr, hd, hab, hb, hl, h => Fh V n (Cw V n) d a b limit ai bi li e1 e2 e3 w hr hd hab hb hl (Nat.le_of_lt_succ h)
theorem wF (d : Array UInt32) (V : Value) (w : World) (hr : (rowE V 23 ao d.toList).holds w) (hd : d.size ≤ 1000000) :
  Calls Tryz.prog 141 #[V] w (fun e w' => e = .returned (.tuple #[]) ∧ Mut w w' V ∧ (rowE V 23 ao (sort ltW d).toList).holds w') := by
 have hdl : d.toList.length = d.size := Array.length_toList
 have hb20 : bitsLen d.size ≤ 20 := (bitsLen_le_iff _ 20).2 (by omega)
 refine fL (l := d.toList) (E := ao) (T := 23) hr Tryz.func141 rfl Tryz.ntmps141 rfl ?_
 refine af (zz0 (aa rfl) (zz0 (ln rfl ah) ?_))
 refine zz0 (ab rfl) (ad (an (zz0 (aa rfl) (zz0 (aa rfl) (zz0 (aa rfl) (zz0 (eG rfl aZ dZ (IntWalk.u64_in _ (by omega))) ?_))))))
 refine zz0 (aA rfl Tryz.call150 (fun w hw => Jy d.size _ (by omega) (by omega) w)) ?_
 refine eh rfl Tryz.call198 (by repeat constructor) (fun w hw => Cw V _ d 0 d.size (bitsLen d.size) _ _ _ w rfl (by omega) rfl (hw.ent _ (.head _)) hd (by omega) (by omega) (by omega) (Nat.lt_succ_self _)) rfl ?_
 refine aD ?_
 refine fx Tryz.results141 (fun w' hw => ?_)
 exact ⟨rfl, HpOK.mutOwn hw (.head _) rfl⟩
end Go.Proofs.YtiajjbhcpeadfaaGreat
