/- Own rules and walks, part 2. -/
import Derived.Test.YtiajjbhcpeadfaaGreatB1
set_option linter.unusedSimpArgs false
set_option linter.unusedVariables false
set_option linter.unusedSectionVars false
set_option maxRecDepth 100000
set_option maxHeartbeats 16000000
namespace Go.Proofs.YtiajjbhcpeadfaaGreat
open Go Go.HL Go.RowKit
theorem kX (r : Int) (w : World) :
  Cr Tryz.prog 194 #[.int .i64 r] w (.bool (pT r)) := by
 refine enter Tryz.func194 rfl Tryz.ntmps194 rfl ?_
 refine ah (zz0 (ab rfl) (aI (zz0 (aa rfl) (zz0 (eM rfl rfl) (zz0 (aa rfl) ?_)))))
 apply cH
 ·exact (rfl : _ = (3, 5, 8))
 ·exact rfl
 ·intro hT1; have hT1' := hT1
  try simp only [bs] at hT1'
  refine zz6 hT1 (aa rfl) (zz6 hT1 (bT rfl rfl) (zz0 (aV rfl hT1 rfl) ?_))
  refine aD (ac ?_)
  exact aK (Sub.cons rfl (bD 3 rfl))
 ·intro hF1
  refine zz9 hF1 (zz9 hF1 (zz0 (aU rfl hF1 rfl) ?_))
  refine aD (ac ?_)
  exact aK (Sub.cons rfl (bD 3 rfl))
 refine zz0 (ab rfl) (ad (aC ?_))
 refine aX Tryz.results194 rfl (fun w' hw => ?_)
 exact ⟨rfl, hw.b0⟩
theorem t6 (n : UInt32) (w : World) :
  Cr Tryz.prog 222 #[.int .u32 n.toNat] w (.bool (nC n)) := by
 refine enter Tryz.func222 rfl Tryz.ntmps222 rfl ?_
 refine ah (zz0 (ab rfl) (aI (zz0 (aa rfl) (zz0 (uL (n := 127) rfl rfl) ?_))))
 refine zz0 (aa rfl) ?_
 apply dV
 ·exact (rfl : _ = (3, 5, 8))
 ·exact rfl
 ·intro hF1; have hF1' := hF1
  try simp only [bs] at hF1'
  refine zz6 hF1 (aa rfl) (zz6 hF1 (nj (n := 4294967168) rfl rfl) ?_)
  refine zz0 (aU rfl hF1 rfl) ?_
  refine aD (ac ?_)
  exact aK (Sub.cons rfl (bD 3 rfl))
 ·intro hT1
  refine zz9 hT1 (zz9 hT1 (zz0 (aV rfl hT1 rfl) ?_))
  refine aD (ac ?_)
  exact aK (Sub.cons rfl (bD 3 rfl))
 refine zz0 (ab rfl) (ad (aC ?_))
 refine aX Tryz.results222 rfl (fun w' hw => ?_)
 exact ⟨rfl, hw.b0⟩
theorem Au (i : Ins) (w : World) :
  Cr Tryz.prog 251 #[.agg (aM.enc i).toArray] w ((.tuple #[.int .u8 (gY i).toNat, .int .i64 5, .bool (decide (gY i ≠ 0))])) := by
 refine enter Tryz.func251 rfl Tryz.ntmps251 rfl ?_
 refine ah ?_
 refine dG rfl rfl (fun b1 => ?_)
 refine zz0 (ab rfl) (zz0 (ab rfl) (zz0 (ab rfl) (aI (zz0 (ab rfl) (ad ?_)))))
 refine cZ (ι := UInt8) (fun c => c = gY i) (fun _ => Bg.of w) (fun c => [cellE b1 (aM.enc i) 36]) (fun c => [(5, .int .u8 c.toNat)]) ?_ (fun c hi => ?_)
 ·skip
  refine ah (zz0 (zz2 (off := 2) (ft := 3) rfl aj rfl aA) ?_)
  refine zz0 (aH rfl aO) ?_
  refine zz0 (zz2 (off := 4) (ft := 3) rfl aj rfl aA) ?_
  refine zz0 (aH rfl aO) ?_
  refine zz0 (bK (vs := [(0, _), (1, _)]) rfl rfl (eR _ _)) ?_
  refine ad (aF (ah (zz0 (bK (vs := [(0, _), (1, _)]) rfl rfl (eR _ _)) ?_)))
  refine zz0 (kE rfl rfl fa ba aA aO iW) ?_
  refine zz0 (ab rfl) (ad ?_)
  refine au rfl ?_ ?_ <;> intro h2 <;> try simp only [bs] at h2
  ·refine ar (zz0 (ab rfl) (aD (aY (ac ?_))))
   refine co (80 : UInt8) (Front.c Front.nil) (zz8 9 rfl) (o := (by unfold gY; repeat (first | rw [if_pos (by omega)] | rw [if_neg (by omega)])))
  refine ah (zz0 (bK (vs := [(0, _), (1, _)]) rfl rfl (eR _ _)) ?_)
  refine zz0 (kE rfl rfl fa ba aA aO iW) ?_
  refine zz0 (ab rfl) (ad ?_)
  refine au rfl ?_ ?_ <;> intro h3 <;> try simp only [bs] at h3
  ·refine ar (zz0 (ab rfl) (aD (aY (ac ?_))))
   refine co (81 : UInt8) (Front.c Front.nil) (zz8 12 rfl) (o := (by unfold gY; repeat (first | rw [if_pos (by omega)] | rw [if_neg (by omega)])))
  refine ah (zz0 (bK (vs := [(0, _), (1, _)]) rfl rfl (eR _ _)) ?_)
  refine zz0 (kE rfl rfl fa ba aA aO iW) ?_
  refine zz0 (ab rfl) (ad ?_)
  refine au rfl ?_ ?_ <;> intro h4 <;> try simp only [bs] at h4
  ·refine ar (zz0 (ab rfl) (aD (aY (ac ?_))))
   refine co (82 : UInt8) (Front.c Front.nil) (zz8 15 rfl) (o := (by unfold gY; repeat (first | rw [if_pos (by omega)] | rw [if_neg (by omega)])))
  refine ah (zz0 (bK (vs := [(0, _), (1, _)]) rfl rfl (eR _ _)) ?_)
  refine zz0 (kE rfl rfl fa ba aA aO iW) ?_
  refine zz0 (ab rfl) (ad ?_)
  refine au rfl ?_ ?_ <;> intro h5 <;> try simp only [bs] at h5
  ·refine ar (zz0 (ab rfl) (aD (aY (ac ?_))))
   refine co (83 : UInt8) (Front.c Front.nil) (zz8 18 rfl) (o := (by unfold gY; repeat (first | rw [if_pos (by omega)] | rw [if_neg (by omega)])))
  refine ah (zz0 (bK (vs := [(0, _), (1, _)]) rfl rfl (eR _ _)) ?_)
  refine zz0 (kE rfl rfl fa ba aA aO iW) ?_
  refine zz0 (ab rfl) (ad ?_)
  refine au rfl ?_ ?_ <;> intro h6 <;> try simp only [bs] at h6
  ·refine ar (zz0 (ab rfl) (aD (aY (ac ?_))))
   refine co (84 : UInt8) (Front.c Front.nil) (zz8 21 rfl) (o := (by unfold gY; repeat (first | rw [if_pos (by omega)] | rw [if_neg (by omega)])))
  refine ah (zz0 (bK (vs := [(0, _), (1, _)]) rfl rfl (eR _ _)) ?_)
  refine zz0 (kE rfl rfl fa ba aA aO iW) ?_
  refine zz0 (ab rfl) (ad ?_)
  refine au rfl ?_ ?_ <;> intro h7 <;> try simp only [bs] at h7
  ·refine ar (zz0 (ab rfl) (aD (aY (ac ?_))))
   refine co (85 : UInt8) (Front.c Front.nil) (zz8 24 rfl) (o := (by unfold gY; repeat (first | rw [if_pos (by omega)] | rw [if_neg (by omega)])))
  refine ah (zz0 (bK (vs := [(0, _), (1, _)]) rfl rfl (eR _ _)) ?_)
  refine zz0 (kE rfl rfl fa ba aA aO iW) ?_
  refine zz0 (ab rfl) (ad ?_)
  refine au rfl ?_ ?_ <;> intro h8 <;> try simp only [bs] at h8
  ·refine ar (zz0 (ab rfl) (aD (aY (ac ?_))))
   refine co (86 : UInt8) (Front.c Front.nil) (zz8 27 rfl) (o := (by unfold gY; repeat (first | rw [if_pos (by omega)] | rw [if_neg (by omega)])))
  refine ah (zz0 (bK (vs := [(0, _), (1, _)]) rfl rfl (eR _ _)) ?_)
  refine zz0 (kE rfl rfl fa ba aA aO iW) ?_
  refine zz0 (ab rfl) (ad ?_)
  refine au rfl ?_ ?_ <;> intro h9 <;> try simp only [bs] at h9
  ·refine ar (zz0 (ab rfl) (aD (aY (ac ?_))))
   refine co (87 : UInt8) (Front.c Front.nil) (zz8 30 rfl) (o := (by unfold gY; repeat (first | rw [if_pos (by omega)] | rw [if_neg (by omega)])))
  refine cd (aY (ac ?_))
  refine co (0 : UInt8) (Front.c Front.nil) (zz8 29 rfl) (o := (by unfold gY; repeat (first | rw [if_pos (by omega)] | rw [if_neg (by omega)])))
 skip
 replace hi : c = gY i := hi
 change Tr _ _ [cellE b1 (aM.enc i) 36] ([(5, .int .u8 c.toNat)] ++ _) _
 refine ah (zz0 (aa rfl) (zz0 (aa rfl) (zz0 (xw (n := 0) rfl rfl) ?_)))
 refine zz0 (ab rfl) (zz0 (ab rfl) (zz0 (ab rfl) (ad (aC ?_))))
 refine eK Tryz.results251 rfl rfl rfl (fun w' hw => ?_)
 exact ⟨by subst hi; rfl, hw.b0⟩
theorem sY (i : Ins) (w : World) :
  Cr Tryz.prog 252 #[.agg (aM.enc i).toArray] w ((.tuple #[.int .u8 (pN i).1.toNat, .int .i64 (pN i).2.1, .bool (pN i).2.2])) := by
 refine enter Tryz.func252 rfl Tryz.ntmps252 rfl ?_
 refine ah ?_
 refine dG rfl rfl (fun b1 => ?_)
 refine zz0 (ab rfl) (zz0 (ab rfl) (zz0 (ab rfl) (ad (an (ah (zz0 (zz2 (off := 5) (ft := 3) rfl aj rfl aA) ?_))))))
 refine zz0 (aH rfl aO) ?_
 refine zz0 (bT rfl rfl) (zz0 (aa rfl) ?_)
 apply dV
 ·exact (rfl : _ = (4, 8, 12))
 ·exact rfl
 ·intro hF2; have hF2' := hF2
  try simp only [bs] at hF2'
  refine zz6 hF2 (zz2 (off := 5) (ft := 3) rfl aj rfl aA) ?_
  refine zz6 hF2 (aH rfl aO) ?_
  refine zz6 hF2 (fg rfl rfl) (zz0 (aU rfl hF2 rfl) ?_)
  refine aD (ac ?_)
  exact aK (Sub.cons rfl (bD 4 rfl))
 ·intro hT2
  refine zz9 hT2 (zz9 hT2 (zz9 hT2 (zz0 (aV rfl hT2 rfl) ?_)))
  refine aD (ac ?_)
  exact aK (Sub.cons rfl (bD 4 rfl))
 refine ad ?_
 refine au rfl ?_ ?_ <;> intro h3 <;> try simp only [bs] at h3
 ·refine ah (zz0 (ab rfl) (zz0 (ab rfl) (zz0 (ab rfl) (ad (aC (ay ?_))))))
  refine eK jy rfl rfl rfl (fun w' hw => ?_)
  exact ⟨by unfold pN; (repeat (first | rw [if_pos (by omega)] | rw [if_neg (by omega)])) <;> rfl, hw.b0⟩
 refine bC (an (aF (ah (zz0 (zz2 (off := 2) (ft := 3) rfl aj rfl aA) ?_))))
 refine zz0 (aH rfl aO) ?_
 refine zz0 (bA rfl rfl) (zz0 (ab rfl) (ad ?_))
 refine au rfl ?_ ?_ <;> intro h4 <;> try simp only [bs] at h4
 ·refine ah (zz0 (zz2 (off := 5) (ft := 3) rfl aj rfl aA) ?_)
  refine zz0 (aH rfl aO) ?_
  refine zz0 (iy rfl ba bU) (zz0 (mc (m := 144) rfl rfl) ?_)
  refine zz0 (ab rfl) (zz0 (ab rfl) (zz0 (ab rfl) (ad (aC (bv (ay ?_))))))
  refine eK jy rfl rfl rfl (fun w' hw => ?_)
  exact ⟨by unfold pN; (repeat (first | rw [if_pos (by omega)] | rw [if_neg (by omega)])) <;> rfl, hw.b0⟩
 refine ah (zz0 (zz2 (off := 3) (ft := 3) rfl aj rfl aA) ?_)
 refine zz0 (aH rfl aO) ?_
 refine zz0 (bA rfl rfl) (zz0 (ab rfl) (ad ?_))
 refine au rfl ?_ ?_ <;> intro h5 <;> try simp only [bs] at h5
 ·refine ah (zz0 (zz2 (off := 5) (ft := 3) rfl aj rfl aA) ?_)
  refine zz0 (aH rfl aO) ?_
  refine zz0 (iy rfl ba bU) (zz0 (mc (m := 96) rfl rfl) ?_)
  refine zz0 (ab rfl) (zz0 (ab rfl) (zz0 (ab rfl) (ad (aC (bv (ay ?_))))))
  refine eK jy rfl rfl rfl (fun w' hw => ?_)
  exact ⟨by unfold pN; (repeat (first | rw [if_pos (by omega)] | rw [if_neg (by omega)])) <;> rfl, hw.b0⟩
 refine ah (zz0 (zz2 (off := 3) (ft := 3) rfl aj rfl aA) ?_)
 refine zz0 (aH rfl aO) ?_
 refine zz0 (bA rfl rfl) (zz0 (ab rfl) (ad ?_))
 refine au rfl ?_ ?_ <;> intro h6 <;> try simp only [bs] at h6
 ·refine ah (zz0 (zz2 (off := 5) (ft := 3) rfl aj rfl aA) ?_)
  refine zz0 (aH rfl aO) ?_
  refine zz0 (iy rfl ba bU) (zz0 (mc (m := 112) rfl rfl) ?_)
  refine zz0 (ab rfl) (zz0 (ab rfl) (zz0 (ab rfl) (ad (aC (bv (ay ?_))))))
  refine eK jy rfl rfl rfl (fun w' hw => ?_)
  exact ⟨by unfold pN; (repeat (first | rw [if_pos (by omega)] | rw [if_neg (by omega)])) <;> rfl, hw.b0⟩
 refine cd (aY (ac (ah (zz0 (ab rfl) (zz0 (ab rfl) (zz0 (ab rfl) (ad (aC ?_))))))))
 refine eK jy rfl rfl rfl (fun w' hw => ?_)
 exact ⟨by unfold pN; (repeat (first | rw [if_pos (by omega)] | rw [if_neg (by omega)])) <;> rfl, hw.b0⟩
theorem pW (i : Ins) (w : World) (hI : InsOK i) :
  Cr Tryz.prog 191 #[.agg (aM.enc i).toArray] w ((.tuple #[.int .u8 (bP i).1.toNat, .int .i64 (bP i).2.1, .bool (bP i).2.2])) := by
 have hop := hI.op; unfold I64 at hop
 refine enter Tryz.func191 rfl Tryz.ntmps191 rfl ?_
 refine ah ?_
 refine dG rfl rfl (fun b1 => ?_)
 refine zz0 (ab rfl) (zz0 (ab rfl) (zz0 (ab rfl) (ad (an (aF (an (ah (zz0 (zz2 (off := 2) (ft := 3) rfl aj rfl aA) ?_))))))))
 refine zz0 (aH rfl aO) ?_
 refine zz0 (bA rfl rfl) (zz0 (ab rfl) (ad ?_))
 apply dP
 ·exact rfl
 ·intro hO2
  try simp only [bs] at hO2
  refine ah (zz0 (zz2 (off := 2) (ft := 3) rfl aj rfl aA) ?_)
  refine zz0 (aH rfl aO) ?_
  refine zz0 (bA rfl rfl) (zz0 (ab rfl) (ad ?_))
  apply dP
  ·exact rfl
  ·intro hO3
   try simp only [bs] at hO3
   refine ar (zz0 (zz2 (off := 2) (ft := 3) rfl aj rfl aA) ?_)
   refine zz0 (aH rfl aO) ?_
   refine zz0 (bA rfl rfl) (zz0 (ab rfl) (ad ?_))
   exact eD rfl (zz8 4 rfl)
  refine ac ?_
  exact eD rfl (zz8 5 rfl)
 refine ac ?_
 refine au rfl ?_ ?_ <;> intro h4 <;> try simp only [bs] at h4
 ·refine ah (zz0 (zz2 (off := 2) (ft := 3) rfl aj rfl aA) ?_)
  refine zz0 (aH rfl aO) ?_
  refine zz0 (iy rfl ba bU) (zz0 (ab rfl) (zz0 (ab rfl) (zz0 (ab rfl) (ad (aC (bv (ay ?_)))))))
  refine eK dD rfl rfl rfl (fun w' hw => ?_)
  exact ⟨by unfold bP; (repeat (first | rw [if_pos (by omega)] | rw [if_neg (by omega)])) <;> rfl, hw.b0⟩
 refine ah (zz0 (zz2 (off := 2) (ft := 3) rfl aj rfl aA) ?_)
 refine zz0 (aH rfl aO) ?_
 refine zz0 (bA rfl rfl) (zz0 (ab rfl) (ad ?_))
 refine au rfl ?_ ?_ <;> intro h5 <;> try simp only [bs] at h5
 ·refine ah (zz0 (zz2 (off := 6) (ft := 3) rfl aj rfl aA) ?_)
  refine zz0 (aH rfl aO) ?_
  refine zz0 (BD rfl rfl) ?_
  refine zz0 (iy rfl ba bU) (zz0 (mc (m := 8) rfl rfl) ?_)
  refine zz0 (ab rfl) (zz0 (ab rfl) (zz0 (ab rfl) (ad (aC (bv (ay ?_))))))
  refine eK dD rfl rfl rfl (fun w' hw => ?_)
  exact ⟨by unfold bP; (repeat (first | rw [if_pos (by omega)] | rw [if_neg (by omega)])) <;> rfl, hw.b0⟩
 refine ah (zz0 (zz2 (off := 2) (ft := 3) rfl aj rfl aA) ?_)
 refine zz0 (aH rfl aO) ?_
 refine zz0 (bA rfl rfl) (zz0 (ab rfl) (ad ?_))
 refine au rfl ?_ ?_ <;> intro h6 <;> try simp only [bs] at h6
 ·refine ah (zz0 (zz2 (off := 6) (ft := 3) rfl aj rfl aA) ?_)
  refine zz0 (aH rfl aO) ?_
  refine zz0 (BD rfl rfl) ?_
  refine zz0 (iy rfl ba bU) (zz0 (mc (m := 16) rfl rfl) ?_)
  refine zz0 (ab rfl) (zz0 (ab rfl) (zz0 (ab rfl) (ad (aC (bv (ay ?_))))))
  refine eK dD rfl rfl rfl (fun w' hw => ?_)
  exact ⟨by unfold bP; (repeat (first | rw [if_pos (by omega)] | rw [if_neg (by omega)])) <;> rfl, hw.b0⟩
 refine ah (zz0 (zz2 (off := 2) (ft := 3) rfl aj rfl aA) ?_)
 refine zz0 (aH rfl aO) ?_
 refine zz0 (eM rfl rfl) (zz0 (aa rfl) ?_)
 apply cH
 ·exact (rfl : _ = (4, 41, 45))
 ·exact rfl
 ·intro hT7; have hT7' := hT7
  try simp only [bs] at hT7'
  refine zz6 hT7 (zz2 (off := 2) (ft := 3) rfl aj rfl aA) ?_
  refine zz6 hT7 (aH rfl aO) ?_
  refine zz6 hT7 (fX rfl rfl) (zz0 (aV rfl hT7 rfl) ?_)
  refine aD (ac ?_)
  exact aK (Sub.cons rfl (bD 4 rfl))
 ·intro hF7
  refine zz9 hF7 (zz9 hF7 (zz9 hF7 (zz0 (aU rfl hF7 rfl) ?_)))
  refine aD (ac ?_)
  exact aK (Sub.cons rfl (bD 4 rfl))
 refine zz0 (ab rfl) (ad ?_)
 refine au rfl ?_ ?_ <;> intro h8 <;> try simp only [bs] at h8
 ·refine ah (zz0 (zz2 (off := 2) (ft := 3) rfl aj rfl aA) ?_)
  refine zz0 (aH rfl aO) ?_
  refine zz0 (ei rfl rfl) ?_
  refine zz0 (iy rfl ba bU) (zz0 (ab rfl) (aI (zz0 (zz2 (off := 3) (ft := 3) rfl aj rfl aA) ?_)))
  refine zz0 (aH rfl aO) ?_
  refine ad (aF (ah (zz0 (bA rfl rfl) (zz0 (ab rfl) (ad ?_)))))
  refine au rfl ?_ ?_ <;> intro h9 <;> try simp only [bs] at h9
  ·refine ah (zz0 (aa rfl) (zz0 (mc (m := 32) rfl rfl) ?_))
   refine zz0 (ab rfl) (zz0 (ab rfl) (zz0 (ab rfl) (ad (aC (bv (bv (ay ?_)))))))
   refine eK dD rfl rfl rfl (fun w' hw => ?_)
   exact ⟨by unfold bP; (repeat (first | rw [if_pos (by omega)] | rw [if_neg (by omega)])) <;> rfl, hw.b0⟩
  refine ah (zz0 (bA rfl rfl) (zz0 (ab rfl) (ad ?_)))
  refine au rfl ?_ ?_ <;> intro h10 <;> try simp only [bs] at h10
  ·refine ah (zz0 (aa rfl) (zz0 (mc (m := 48) rfl rfl) ?_))
   refine zz0 (ab rfl) (zz0 (ab rfl) (zz0 (ab rfl) (ad (aC (bv (bv (ay ?_)))))))
   refine eK dD rfl rfl rfl (fun w' hw => ?_)
   exact ⟨by unfold bP; (repeat (first | rw [if_pos (by omega)] | rw [if_neg (by omega)])) <;> rfl, hw.b0⟩
  refine ah (zz0 (bA rfl rfl) (zz0 (ab rfl) (ad ?_)))
  refine au rfl ?_ ?_ <;> intro h11 <;> try simp only [bs] at h11
  ·refine ah (zz0 (aa rfl) (zz0 (mc (m := 64) rfl rfl) ?_))
   refine zz0 (ab rfl) (zz0 (ab rfl) (zz0 (ab rfl) (ad (aC (bv (bv (ay ?_)))))))
   refine eK dD rfl rfl rfl (fun w' hw => ?_)
   exact ⟨by unfold bP; (repeat (first | rw [if_pos (by omega)] | rw [if_neg (by omega)])) <;> rfl, hw.b0⟩
  refine cd (aY (aY (ac (ah (zz0 (ab rfl) (zz0 (ab rfl) (zz0 (ab rfl) (ad (aC ?_)))))))))
  refine eK dD rfl rfl rfl (fun w' hw => ?_)
  exact ⟨by unfold bP; (repeat (first | rw [if_pos (by omega)] | rw [if_neg (by omega)])) <;> rfl, hw.b0⟩
 refine an (ah (zz0 (zz2 (off := 2) (ft := 3) rfl aj rfl aA) ?_))
 refine zz0 (aH rfl aO) ?_
 refine zz0 (bA rfl rfl) (zz0 (ab rfl) (ad ?_))
 apply dP
 ·exact rfl
 ·intro hO12
  try simp only [bs] at hO12
  refine ah (zz0 (zz2 (off := 2) (ft := 3) rfl aj rfl aA) ?_)
  refine zz0 (aH rfl aO) ?_
  refine zz0 (bA rfl rfl) (zz0 (ab rfl) (ad ?_))
  apply dP
  ·exact rfl
  ·intro hO13
   try simp only [bs] at hO13
   refine ar (zz0 (zz2 (off := 2) (ft := 3) rfl aj rfl aA) ?_)
   refine zz0 (aH rfl aO) ?_
   refine zz0 (bA rfl rfl) (zz0 (ab rfl) (ad ?_))
   exact eD rfl (zz8 4 rfl)
  refine ac ?_
  exact eD rfl (zz8 5 rfl)
 refine ac ?_
 refine au rfl ?_ ?_ <;> intro h14 <;> try simp only [bs] at h14
 ·refine ah (zz0 (bG rfl aQ ax) ?_)
  refine zz0 (az rfl Tryz.call251 (fun w hw => Au i w)) ?_
  refine zz0 (aN rfl rfl) (zz0 (aN rfl rfl) (zz0 (aN rfl rfl) (zz0 (ab rfl) (zz0 (ab rfl) (zz0 (ab rfl) (ad (aC (bv (ay ?_)))))))))
  refine eK dD rfl rfl rfl (fun w' hw => ?_)
  exact ⟨by unfold bP; (repeat (first | rw [if_pos (by omega)] | rw [if_neg (by omega)])) <;> rfl, hw.b0⟩
 refine ah (zz0 (zz2 (off := 2) (ft := 3) rfl aj rfl aA) ?_)
 refine zz0 (aH rfl aO) ?_
 refine zz0 (bA rfl rfl) (zz0 (ab rfl) (ad ?_))
 refine au rfl ?_ ?_ <;> intro h15 <;> try simp only [bs] at h15
 ·refine ah (zz0 (ab rfl) (zz0 (ab rfl) (zz0 (ab rfl) (ad (aC (bv (ay ?_)))))))
  refine eK dD rfl rfl rfl (fun w' hw => ?_)
  exact ⟨by unfold bP; (repeat (first | rw [if_pos (by omega)] | rw [if_neg (by omega)])) <;> rfl, hw.b0⟩
 refine ah (zz0 (zz2 (off := 2) (ft := 3) rfl aj rfl aA) ?_)
 refine zz0 (aH rfl aO) ?_
 refine zz0 (bA rfl rfl) (zz0 (aa rfl) ?_)
 apply dV
 ·exact (rfl : _ = (4, 87, 91))
 ·exact rfl
 ·intro hF16; have hF16' := hF16
  try simp only [bs] at hF16'
  refine zz6 hF16 (zz2 (off := 2) (ft := 3) rfl aj rfl aA) ?_
  refine zz6 hF16 (aH rfl aO) ?_
  refine zz6 hF16 (bA rfl rfl) (zz0 (aU rfl hF16 rfl) ?_)
  refine aD (ac ?_)
  exact aK (Sub.cons rfl (bD 4 rfl))
 ·intro hT16
  refine zz9 hT16 (zz9 hT16 (zz9 hT16 (zz0 (aV rfl hT16 rfl) ?_)))
  refine aD (ac ?_)
  exact aK (Sub.cons rfl (bD 4 rfl))
 refine zz0 (ab rfl) (ad ?_)
 refine au rfl ?_ ?_ <;> intro h17 <;> try simp only [bs] at h17
 ·refine ah (zz0 (bG rfl aQ ax) ?_)
  refine zz0 (az rfl Tryz.call252 (fun w hw => sY i w)) ?_
  refine zz0 (aN rfl rfl) (zz0 (aN rfl rfl) (zz0 (aN rfl rfl) (zz0 (ab rfl) (zz0 (ab rfl) (zz0 (ab rfl) (ad (aC (bv (ay ?_)))))))))
  refine eK dD rfl rfl rfl (fun w' hw => ?_)
  exact ⟨by unfold bP; (repeat (first | rw [if_pos (by omega)] | rw [if_neg (by omega)])) <;> rfl, hw.b0⟩
 refine ah (zz0 (zz2 (off := 2) (ft := 3) rfl aj rfl aA) ?_)
 refine zz0 (aH rfl aO) ?_
 refine zz0 (bA rfl rfl) (zz0 (ab rfl) (ad ?_))
 refine au rfl ?_ ?_ <;> intro h18 <;> try simp only [bs] at h18
 ·refine ah (zz0 (ab rfl) (zz0 (ab rfl) (zz0 (ab rfl) (ad (aC (bv (ay ?_)))))))
  refine eK dD rfl rfl rfl (fun w' hw => ?_)
  exact ⟨by unfold bP; (repeat (first | rw [if_pos (by omega)] | rw [if_neg (by omega)])) <;> rfl, hw.b0⟩
 refine ah (zz0 (zz2 (off := 2) (ft := 3) rfl aj rfl aA) ?_)
 refine zz0 (aH rfl aO) ?_
 refine zz0 (bA rfl rfl) (zz0 (ab rfl) (ad ?_))
 refine au rfl ?_ ?_ <;> intro h19 <;> try simp only [bs] at h19
 ·refine ah (zz0 (ab rfl) (zz0 (ab rfl) (zz0 (ab rfl) (ad (aC (bv (ay ?_)))))))
  refine eK dD rfl rfl rfl (fun w' hw => ?_)
  exact ⟨by unfold bP; (repeat (first | rw [if_pos (by omega)] | rw [if_neg (by omega)])) <;> rfl, hw.b0⟩
 refine ah (zz0 (zz2 (off := 2) (ft := 3) rfl aj rfl aA) ?_)
 refine zz0 (aH rfl aO) ?_
 refine zz0 (bA rfl rfl) (zz0 (ab rfl) (ad ?_))
 refine au rfl ?_ ?_ <;> intro h20 <;> try simp only [bs] at h20
 ·refine ah (zz0 (ab rfl) (zz0 (ab rfl) (zz0 (ab rfl) (ad (aC (bv (ay ?_)))))))
  refine eK dD rfl rfl rfl (fun w' hw => ?_)
  exact ⟨by unfold bP; (repeat (first | rw [if_pos (by omega)] | rw [if_neg (by omega)])) <;> rfl, hw.b0⟩
 refine ah (zz0 (zz2 (off := 2) (ft := 3) rfl aj rfl aA) ?_)
 refine zz0 (aH rfl aO) ?_
 refine zz0 (bA rfl rfl) (zz0 (ab rfl) (ad ?_))
 refine au rfl ?_ ?_ <;> intro h21 <;> try simp only [bs] at h21
 ·refine ah (zz0 (ab rfl) (zz0 (ab rfl) (zz0 (ab rfl) (ad (aC (bv (ay ?_)))))))
  refine eK dD rfl rfl rfl (fun w' hw => ?_)
  exact ⟨by unfold bP; (repeat (first | rw [if_pos (by omega)] | rw [if_neg (by omega)])) <;> rfl, hw.b0⟩
 refine ah (zz0 (zz2 (off := 2) (ft := 3) rfl aj rfl aA) ?_)
 refine zz0 (aH rfl aO) ?_
 refine zz0 (bA rfl rfl) (zz0 (ab rfl) (ad ?_))
 refine au rfl ?_ ?_ <;> intro h22 <;> try simp only [bs] at h22
 ·refine ah (zz0 (ab rfl) (zz0 (ab rfl) (zz0 (ab rfl) (ad (aC (bv (ay ?_)))))))
  refine eK dD rfl rfl rfl (fun w' hw => ?_)
  exact ⟨by unfold bP; (repeat (first | rw [if_pos (by omega)] | rw [if_neg (by omega)])) <;> rfl, hw.b0⟩
 refine ah (zz0 (zz2 (off := 2) (ft := 3) rfl aj rfl aA) ?_)
 refine zz0 (aH rfl aO) ?_
 refine zz0 (bA rfl rfl) (zz0 (ab rfl) (ad ?_))
 refine au rfl ?_ ?_ <;> intro h23 <;> try simp only [bs] at h23
 ·refine ah (zz0 (ab rfl) (zz0 (ab rfl) (zz0 (ab rfl) (ad (aC (bv (ay ?_)))))))
  refine eK dD rfl rfl rfl (fun w' hw => ?_)
  exact ⟨by unfold bP; (repeat (first | rw [if_pos (by omega)] | rw [if_neg (by omega)])) <;> rfl, hw.b0⟩
 refine cd (aY (ac (ah (zz0 (ab rfl) (zz0 (ab rfl) (zz0 (ab rfl) (ad (aC ?_))))))))
 refine eK dD rfl rfl rfl (fun w' hw => ?_)
 exact ⟨by unfold bP; (repeat (first | rw [if_pos (by omega)] | rw [if_neg (by omega)])) <;> rfl, hw.b0⟩
theorem D7 (i : Ins) (s : Int) (w : World) :
  Cr Tryz.prog 221 #[.agg (aM.enc i).toArray, .int .i64 s] w (.agg (aM.enc (qT i s)).toArray) := by
 refine enter Tryz.func221 rfl Tryz.ntmps221 rfl ?_
 refine ah ?_
 refine dG rfl rfl (fun b1 => ?_)
 refine dC bR rfl (fun b2 => ?_)
 refine aI (zz0 (zz2 (off := 0) (ft := 23) rfl aj rfl ae) ?_)
 refine zz0 (aH rfl am) ?_
 refine zz0 (zz2 (off := 2) (ft := 3) rfl aj rfl aA) ?_
 refine zz0 (aH rfl aO) ?_
 refine zz0 (zz2 (off := 8) (ft := 3) rfl aj rfl aA) ?_
 refine zz0 (aH rfl aO) ?_
 refine zz0 (bK (vs := [(0, _), (2, _), (8, _)]) rfl rfl (ru _ _ _)) ?_
 refine dC bR rfl (fun b3 => ?_)
 refine aB aM rfl rfl ax ?_
 refine ad ?_
 refine cZ (ι := Ins) (fun k1 => k1 = qU i s) (fun _ => Bg.of w) (fun k1 => [cellE b3 (aM.enc k1) 36, cellE b2 (aM.enc cp) 36, cellE b1 (aM.enc i) 36]) (fun k1 => []) ?_ (fun k1 hi => ?_)
 ·skip
  refine ah (zz0 (aa rfl) (ad (aF (an (ah (zz0 (bA rfl rfl) (zz0 (ab rfl) (ad ?_))))))))
  apply dP
  ·exact rfl
  ·intro hO4
   try simp only [bs] at hO4
   refine ar (zz0 (bA rfl rfl) (zz0 (ab rfl) (ad ?_)))
   exact eD rfl (zz8 2 rfl)
  refine ac ?_
  refine au rfl ?_ ?_ <;> intro h5 <;> try simp only [bs] at h5
  ·refine ar (zz0 (zz2 (off := 6) (ft := 3) rfl aj rfl aA) ?_)
   refine zz0 (aH rfl aO) ?_
   refine zz0 (zz2 (off := 6) (ft := 3) rfl aj rfl aA) ?_
   refine zz3 (cs' := [_, _, _, _, _, _, _, _, _]) rfl rfl aA rfl ?_
   refine aD (aY (ac ?_))
   apply ed ⟨i.addr, 0, i.op, 0, 0, 0, i.a, 0, i.size⟩
   ·exact rfl
   ·exact Front.nil
   ·exact zz8 7 rfl
   ·exact (by repeat' constructor)
   exact (by simp only [qU]; congr 1 <;> first | rfl | (rw [if_pos (by omega)]) | (rw [if_neg (by omega)]))
  refine ah (zz0 (bA rfl rfl) (zz0 (ab rfl) (ad ?_)))
  refine au rfl ?_ ?_ <;> intro h6 <;> try simp only [bs] at h6
  ·refine dU ([cellE b1 (aM.enc i) 36]) 8 rfl aP ?_
   refine zz4 0 rfl (zz2 (off := 6) (ft := 3) rfl aj rfl aA) ?_
   refine zz4 1 rfl (aH rfl aO) ?_
   refine zz4 2 rfl (zz2 (off := 7) (ft := 3) rfl aj rfl aA) ?_
   refine zz4 3 rfl (aH rfl aO) ?_
   refine zz4 4 rfl (zz2 (off := 6) (ft := 3) rfl aj rfl aA) ?_
   refine dw [5] (fun iq hq => ?_)
   obtain rfl := List.mem_singleton.1 hq
   refine bF rfl ?_
   refine zz3 (cs' := [_, _, _, _, _, _, _, _, _]) rfl rfl aA rfl ?_
   refine bV ?_
   refine zz4 6 rfl (zz2 (off := 7) (ft := 3) rfl aj rfl aA) ?_
   refine dw [7] (fun iq hq => ?_)
   obtain rfl := List.mem_singleton.1 hq
   refine bF rfl ?_
   refine zz3 (cs' := [_, _, _, _, _, _, _, _, _]) rfl rfl aA rfl ?_
   refine bV ?_
   refine iz ?_
   refine aY (ac ?_)
   apply ed ⟨i.addr, 0, i.op, 0, 0, 0, i.a, i.b, i.size⟩
   ·exact rfl
   ·exact Front.nil
   ·exact zz8 12 rfl
   ·exact (by repeat' constructor)
   exact (by simp only [qU]; congr 1 <;> first | rfl | (rw [if_pos (by omega)]) | (rw [if_neg (by omega)]))
  refine an (ah (zz0 (bA rfl rfl) (zz0 (ab rfl) (ad ?_))))
  apply dP
  ·exact rfl
  ·intro hO7
   try simp only [bs] at hO7
   refine ar (zz0 (bA rfl rfl) (zz0 (ab rfl) (ad ?_)))
   exact eD rfl (zz8 2 rfl)
  refine ac ?_
  refine au rfl ?_ ?_ <;> intro h8 <;> try simp only [bs] at h8
  ·refine dU ([cellE b1 (aM.enc i) 36]) 8 rfl aP ?_
   refine zz4 0 rfl (zz2 (off := 6) (ft := 3) rfl aj rfl aA) ?_
   refine zz4 1 rfl (aH rfl aO) ?_
   refine zz4 2 rfl (zz2 (off := 1) (ft := 23) rfl aj rfl ae) ?_
   refine zz4 3 rfl (aH rfl am) ?_
   refine zz4 4 rfl (zz2 (off := 6) (ft := 3) rfl aj rfl aA) ?_
   refine dw [5] (fun iq hq => ?_)
   obtain rfl := List.mem_singleton.1 hq
   refine bF rfl ?_
   refine zz3 (cs' := [_, _, _, _, _, _, _, _, _]) rfl rfl aA rfl ?_
   refine bV ?_
   refine zz4 6 rfl (zz2 (off := 1) (ft := 23) rfl aj rfl ae) ?_
   refine dw [7] (fun iq hq => ?_)
   obtain rfl := List.mem_singleton.1 hq
   refine bF rfl ?_
   refine zz3 (cs' := [_, _, _, _, _, _, _, _, _]) rfl rfl ae rfl ?_
   refine bV ?_
   refine iz ?_
   refine aY (ac ?_)
   apply ed ⟨i.addr, i.imm, i.op, 0, 0, 0, i.a, 0, i.size⟩
   ·exact rfl
   ·exact Front.nil
   ·exact zz8 15 rfl
   ·exact (by repeat' constructor)
   exact (by simp only [qU]; congr 1 <;> first | rfl | (rw [if_pos (by omega)]) | (rw [if_neg (by omega)]))
  refine ah (zz0 (bA rfl rfl) (zz0 (ab rfl) (ad ?_)))
  refine au rfl ?_ ?_ <;> intro h9 <;> try simp only [bs] at h9
  ·refine dU ([cellE b1 (aM.enc i) 36]) 12 rfl aP ?_
   refine zz4 0 rfl (zz2 (off := 6) (ft := 3) rfl aj rfl aA) ?_
   refine zz4 1 rfl (aH rfl aO) ?_
   refine zz4 2 rfl (zz2 (off := 7) (ft := 3) rfl aj rfl aA) ?_
   refine zz4 3 rfl (aH rfl aO) ?_
   refine zz4 4 rfl (zz2 (off := 1) (ft := 23) rfl aj rfl ae) ?_
   refine zz4 5 rfl (aH rfl am) ?_
   refine zz4 6 rfl (zz2 (off := 6) (ft := 3) rfl aj rfl aA) ?_
   refine dw [7] (fun iq hq => ?_)
   obtain rfl := List.mem_singleton.1 hq
   refine bF rfl ?_
   refine zz3 (cs' := [_, _, _, _, _, _, _, _, _]) rfl rfl aA rfl ?_
   refine bV ?_
   refine zz4 8 rfl (zz2 (off := 7) (ft := 3) rfl aj rfl aA) ?_
   refine dw [9] (fun iq hq => ?_)
   obtain rfl := List.mem_singleton.1 hq
   refine bF rfl ?_
   refine zz3 (cs' := [_, _, _, _, _, _, _, _, _]) rfl rfl aA rfl ?_
   refine bV ?_
   refine zz4 10 rfl (zz2 (off := 1) (ft := 23) rfl aj rfl ae) ?_
   refine dw [11] (fun iq hq => ?_)
   obtain rfl := List.mem_singleton.1 hq
   refine bF rfl ?_
   refine zz3 (cs' := [_, _, _, _, _, _, _, _, _]) rfl rfl ae rfl ?_
   refine bV ?_
   refine iz ?_
   refine aY (ac ?_)
   apply ed ⟨i.addr, i.imm, i.op, 0, 0, 0, i.a, i.b, i.size⟩
   ·exact rfl
   ·exact Front.nil
   ·exact zz8 20 rfl
   ·exact (by repeat' constructor)
   exact (by simp only [qU]; congr 1 <;> first | rfl | (rw [if_pos (by omega)]) | (rw [if_neg (by omega)]))
  refine an (ah (zz0 (bA rfl rfl) (zz0 (ab rfl) (ad ?_))))
  apply dP
  ·exact rfl
  ·intro hO10
   try simp only [bs] at hO10
   refine ar (zz0 (bA rfl rfl) (zz0 (ab rfl) (ad ?_)))
   exact eD rfl (zz8 2 rfl)
  refine ac ?_
  refine au rfl ?_ ?_ <;> intro h11 <;> try simp only [bs] at h11
  ·refine ar (zz0 (zz2 (off := 1) (ft := 23) rfl aj rfl ae) ?_)
   refine zz0 (aH rfl am) ?_
   refine zz0 (zz2 (off := 1) (ft := 23) rfl aj rfl ae) ?_
   refine zz3 (cs' := [_, _, _, _, _, _, _, _, _]) rfl rfl ae rfl ?_
   refine aD (aY (ac ?_))
   apply ed ⟨i.addr, i.imm, i.op, 0, 0, 0, 0, 0, i.size⟩
   ·exact rfl
   ·exact Front.nil
   ·exact zz8 17 rfl
   ·exact (by repeat' constructor)
   exact (by simp only [qU]; congr 1 <;> first | rfl | (rw [if_pos (by omega)]) | (rw [if_neg (by omega)]))
  refine cd (aY (ac ?_))
  apply ed ⟨i.addr, 0, i.op, 0, 0, 0, 0, 0, i.size⟩
  ·exact rfl
  ·exact Front.nil
  ·exact zz8 14 rfl
  ·exact (by repeat' constructor)
  exact (by simp only [qU]; congr 1 <;> first | rfl | (rw [if_pos (by omega)]) | (rw [if_neg (by omega)]))
 skip
 replace hi : k1 = qU i s := hi
 change Tr _ _ [cellE b3 (aM.enc k1) 36, cellE b2 (aM.enc cp) 36, cellE b1 (aM.enc i) 36] ([] ++ _) _
 refine cZ (ι := Ins) (fun k2 => k2 = qT i s) (fun _ => Bg.of w) (fun k2 => [cellE b3 (aM.enc k2) 36, cellE b2 (aM.enc cp) 36, cellE b1 (aM.enc i) 36]) (fun k2 => []) ?_ (fun k2 hi => ?_)
 ·skip
  refine aF (ah (zz0 (zz2 (off := 2) (ft := 3) rfl aj rfl aA) ?_))
  refine zz0 (aH rfl aO) ?_
  refine zz0 (eM rfl rfl) (zz0 (aa rfl) ?_)
  apply cH
  ·exact (rfl : _ = (4, 58, 62))
  ·exact rfl
  ·intro hT12; have hT12' := hT12
   try simp only [bs] at hT12'
   refine zz6 hT12 (zz2 (off := 2) (ft := 3) rfl aj rfl aA) ?_
   refine zz6 hT12 (aH rfl aO) ?_
   refine zz6 hT12 (fX rfl rfl) (zz0 (aV rfl hT12 rfl) ?_)
   refine aD (ac ?_)
   exact aK (Sub.cons rfl (bD 4 rfl))
  ·intro hF12
   refine zz9 hF12 (zz9 hF12 (zz9 hF12 (zz0 (aU rfl hF12 rfl) ?_)))
   refine aD (ac ?_)
   exact aK (Sub.cons rfl (bD 4 rfl))
  refine zz0 (ab rfl) (ad ?_)
  refine au rfl ?_ ?_ <;> intro h13 <;> try simp only [bs] at h13
  ·refine ar (zz0 (zz2 (off := 3) (ft := 3) rfl aj rfl aA) ?_)
   refine zz0 (aH rfl aO) ?_
   refine zz0 (zz2 (off := 3) (ft := 3) rfl aj rfl aA) ?_
   refine zz3 (cs' := [_, _, _, _, _, _, _, _, _]) rfl rfl aA rfl ?_
   refine aD (aY (ac ?_))
   apply ed { k1 with form := i.form }
   ·exact rfl
   ·exact Front.nil
   ·exact zz8 9 rfl
   ·exact (by repeat' constructor)
   exact (by subst hi; rw [oH]; congr 1 <;> first | rfl | (rw [if_pos (by omega)]) | (rw [if_neg (by omega)]; rfl))
  refine an (ah (zz0 (zz2 (off := 2) (ft := 3) rfl aj rfl aA) ?_))
  refine zz0 (aH rfl aO) ?_
  refine zz0 (bA rfl rfl) (zz0 (ab rfl) (ad ?_))
  apply dP
  ·exact rfl
  ·intro hO14
   try simp only [bs] at hO14
   refine ah (zz0 (zz2 (off := 2) (ft := 3) rfl aj rfl aA) ?_)
   refine zz0 (aH rfl aO) ?_
   refine zz0 (bA rfl rfl) (zz0 (ab rfl) (ad ?_))
   apply dP
   ·exact rfl
   ·intro hO15
    try simp only [bs] at hO15
    refine ar (zz0 (zz2 (off := 2) (ft := 3) rfl aj rfl aA) ?_)
    refine zz0 (aH rfl aO) ?_
    refine zz0 (bA rfl rfl) (zz0 (ab rfl) (ad ?_))
    exact eD rfl (zz8 4 rfl)
   refine ac ?_
   exact eD rfl (zz8 5 rfl)
  refine ac ?_
  refine au rfl ?_ ?_ <;> intro h16 <;> try simp only [bs] at h16
  ·refine ar (zz0 (zz2 (off := 4) (ft := 3) rfl aj rfl aA) ?_)
   refine zz0 (aH rfl aO) ?_
   refine zz0 (zz2 (off := 4) (ft := 3) rfl aj rfl aA) ?_
   refine zz3 (cs' := [_, _, _, _, _, _, _, _, _]) rfl rfl aA rfl ?_
   refine aD (aY (ac ?_))
   apply ed { k1 with width := i.width }
   ·exact rfl
   ·exact Front.nil
   ·exact zz8 14 rfl
   ·exact (by repeat' constructor)
   exact (by subst hi; rw [oH]; congr 1 <;> first | rfl | (rw [if_pos (by omega)]) | (rw [if_neg (by omega)]; rfl))
  refine ah (zz0 (zz2 (off := 2) (ft := 3) rfl aj rfl aA) ?_)
  refine zz0 (aH rfl aO) ?_
  refine zz0 (bA rfl rfl) (zz0 (ab rfl) (ad ?_))
  refine au rfl ?_ ?_ <;> intro h17 <;> try simp only [bs] at h17
  ·refine dU ([cellE b1 (aM.enc i) 36]) 8 rfl aP ?_
   refine zz4 0 rfl (zz2 (off := 3) (ft := 3) rfl aj rfl aA) ?_
   refine zz4 1 rfl (aH rfl aO) ?_
   refine zz4 2 rfl (zz2 (off := 5) (ft := 3) rfl aj rfl aA) ?_
   refine zz4 3 rfl (aH rfl aO) ?_
   refine zz4 4 rfl (zz2 (off := 3) (ft := 3) rfl aj rfl aA) ?_
   refine dw [5] (fun iq hq => ?_)
   obtain rfl := List.mem_singleton.1 hq
   refine bF rfl ?_
   refine zz3 (cs' := [_, _, _, _, _, _, _, _, _]) rfl rfl aA rfl ?_
   refine bV ?_
   refine zz4 6 rfl (zz2 (off := 5) (ft := 3) rfl aj rfl aA) ?_
   refine dw [7] (fun iq hq => ?_)
   obtain rfl := List.mem_singleton.1 hq
   refine bF rfl ?_
   refine zz3 (cs' := [_, _, _, _, _, _, _, _, _]) rfl rfl aA rfl ?_
   refine bV ?_
   refine iz ?_
   refine aY (ac ?_)
   apply ed { k1 with form := i.form, cc := i.cc }
   ·exact rfl
   ·exact Front.nil
   ·exact zz8 21 rfl
   ·exact (by repeat' constructor)
   exact (by subst hi; rw [oH]; congr 1 <;> first | rfl | (rw [if_pos (by omega)]) | (rw [if_neg (by omega)]; rfl))
  refine ah (zz0 (zz2 (off := 2) (ft := 3) rfl aj rfl aA) ?_)
  refine zz0 (aH rfl aO) ?_
  refine zz0 (bA rfl rfl) (zz0 (ab rfl) (ad ?_))
  refine au rfl ?_ ?_ <;> intro h18 <;> try simp only [bs] at h18
  ·refine ar (zz0 (zz2 (off := 5) (ft := 3) rfl aj rfl aA) ?_)
   refine zz0 (aH rfl aO) ?_
   refine zz0 (zz2 (off := 5) (ft := 3) rfl aj rfl aA) ?_
   refine zz3 (cs' := [_, _, _, _, _, _, _, _, _]) rfl rfl aA rfl ?_
   refine aD (aY (ac ?_))
   apply ed { k1 with cc := i.cc }
   ·exact rfl
   ·exact Front.nil
   ·exact zz8 22 rfl
   ·exact (by repeat' constructor)
   exact (by subst hi; rw [oH]; congr 1 <;> first | rfl | (rw [if_pos (by omega)]) | (rw [if_neg (by omega)]; rfl))
  refine cd (aY (ac ?_))
  refine co k1 Front.nil (zz8 19 rfl) (o := (by subst hi; rw [oH, if_neg (by omega), if_neg (by omega), if_neg (by omega)]; rfl))
 skip
 replace hi : k2 = qT i s := hi
 change Tr _ _ [cellE b3 (aM.enc k2) 36, cellE b2 (aM.enc cp) 36, cellE b1 (aM.enc i) 36] ([] ++ _) _
 refine ah (zz0 (bG rfl aQ ax) ?_)
 refine aB aM rfl rfl ax ?_
 refine ad (aC ?_)
 refine eO Tryz.results221 rfl aQ ax (fun w' hw => ?_)
 exact ⟨by subst hi; rfl, hw.b0⟩
theorem check_any (i : Ins) (w : World) (hI : InsOK i) :
  Cr Tryz.prog 154 #[.agg (aM.enc i).toArray] w ((.tuple #[.int .u8 (jI i).1.toNat, .int .i64 (jI i).2.1, .int .i64 (jI i).2.2])) := by
 refine enter Tryz.func154 rfl Tryz.ntmps154 rfl ?_
 refine ah ?_
 refine dG rfl rfl (fun b1 => ?_)
 refine zz0 (ab rfl) (zz0 (ab rfl) (zz0 (ab rfl) (aI (zz0 (bG rfl aQ ax) ?_))))
 refine zz0 (az rfl Tryz.call191 (fun w hw => pW i w hI)) ?_
 refine zz0 (aa rfl) (zz0 (aN rfl rfl) (zz0 (aN rfl rfl) (zz0 (aN rfl rfl) (zz0 (ab rfl) (zz0 (ab rfl) (zz0 (ab rfl) (ad (an (an (gZ aP ?_))))))))))
 refine aw (aa rfl) (aw (cP rfl) (aw (aa rfl) ?_))
 apply tq
 ·exact (rfl : _ = (5, 16, 21))
 ·exact rfl
 ·intro hF2; have hF2' := hF2
  try simp only [bs] at hF2'
  refine bX hF2 (zz2 (off := 6) (ft := 3) rfl aj rfl aA) ?_
  refine bX hF2 (aH rfl aO) ?_
  refine bX hF2 (az rfl nN (fun w hw => kX i.a w)) ?_
  refine bX hF2 (cP rfl) (aw (aU rfl hF2 rfl) ?_)
  exact dj (Sub.cons rfl (bD 5 rfl))
 ·intro hT2
  refine bW hT2 (bW hT2 (bW hT2 (bW hT2 (aw (aV rfl hT2 rfl) ?_))))
  exact dj (Sub.cons rfl (bD 5 rfl))
 refine aw (aa rfl) ?_
 apply tq
 ·exact (rfl : _ = (5, 22, 27))
 ·exact rfl
 ·intro hF3; have hF3' := hF3
  try simp only [bs] at hF3'
  refine bX hF3 (zz2 (off := 7) (ft := 3) rfl aj rfl aA) ?_
  refine bX hF3 (aH rfl aO) ?_
  refine bX hF3 (az rfl nN (fun w hw => kX i.b w)) ?_
  refine bX hF3 (cP rfl) (aw (aU rfl hF3 rfl) ?_)
  exact dj (Sub.cons rfl (bD 5 rfl))
 ·intro hT3
  refine bW hT3 (bW hT3 (bW hT3 (bW hT3 (aw (aV rfl hT3 rfl) ?_))))
  exact dj (Sub.cons rfl (bD 5 rfl))
 refine aw (aa rfl) ?_
 apply tq
 ·exact (rfl : _ = (6, 28, 34))
 ·exact rfl
 ·intro hF4; have hF4' := hF4
  try simp only [bs] at hF4'
  refine bX hF4 (bG rfl aQ ax) ?_
  refine bX hF4 (aa rfl) (bX hF4 (az rfl Tryz.call221 (fun w hw => D7 i (bP i).2.1 w)) ?_)
  refine bX hF4 (bG rfl aQ ax) ?_
  refine bX hF4 (Gp rfl rfl D8 aj (zq _ aj) rfl AO CU) ?_
  refine aw (aU rfl hF4 rfl) ?_
  exact dj (Sub.cons rfl (bD 6 rfl))
 ·intro hT4
  refine bW hT4 (bW hT4 (bW hT4 (bW hT4 (bW hT4 (aw (aV rfl hT4 rfl) ?_)))))
  exact dj (Sub.cons rfl (bD 6 rfl))
 refine bH ?_
 refine ac ?_
 refine au rfl ?_ ?_ <;> intro h5 <;> try simp only [bs] at h5
 ·refine ah (zz0 (ab rfl) (zz0 (ab rfl) (zz0 (ab rfl) (ad (aC (ay ?_))))))
  refine eK mI rfl rfl rfl (fun w' hw => ?_)
  exact ⟨by rw [ED (by simp_all [or_assoc])]; rfl, hw.b0⟩
 refine bC (an (ah (zz0 (aa rfl) (zz0 (bA rfl rfl) (zz0 (aa rfl) ?_)))))
 apply dV
 ·exact (rfl : _ = (3, 37, 40))
 ·exact rfl
 ·intro hF6; have hF6' := hF6
  try simp only [bs] at hF6'
  refine zz6 hF6 (aa rfl) (zz6 hF6 (bA rfl rfl) (zz0 (aU rfl hF6 rfl) ?_))
  refine aD (ac ?_)
  exact aK (Sub.cons rfl (bD 3 rfl))
 ·intro hT6
  refine zz9 hT6 (zz9 hT6 (zz0 (aV rfl hT6 rfl) ?_))
  refine aD (ac ?_)
  exact aK (Sub.cons rfl (bD 3 rfl))
 refine zz0 (aa rfl) ?_
 apply cH
 ·exact (rfl : _ = (5, 41, 46))
 ·exact rfl
 ·intro hT7; have hT7' := hT7
  try simp only [bs] at hT7'
  refine zz6 hT7 (zz2 (off := 1) (ft := 23) rfl aj rfl ae) ?_
  refine zz6 hT7 (aH rfl am) ?_
  refine zz6 hT7 (az rfl Tryz.call222 (fun w hw => t6 i.imm w)) ?_
  refine zz6 hT7 (cP rfl) (zz0 (aV rfl hT7 rfl) ?_)
  refine aD (ac ?_)
  exact aK (Sub.cons rfl (bD 5 rfl))
 ·intro hF7
  refine zz9 hF7 (zz9 hF7 (zz9 hF7 (zz9 hF7 (zz0 (aU rfl hF7 rfl) ?_))))
  refine aD (ac ?_)
  exact aK (Sub.cons rfl (bD 5 rfl))
 refine zz0 (aa rfl) ?_
 apply dV
 ·exact (rfl : _ = (13, 47, 60))
 ·exact rfl
 ·intro hF8; have hF8' := hF8
  try simp only [bs] at hF8'
  refine zz6 hF8 (aa rfl) (zz6 hF8 (bA rfl rfl) (zz6 hF8 (aa rfl) ?_))
  apply cH
  ·exact (rfl : _ = (9, 50, 59))
  ·exact rfl
  ·intro hT9; have hT9' := hT9
   try simp only [bs] at hT9'
   refine zz6 hT9 (zz2 (off := 1) (ft := 23) rfl aj rfl ae) ?_
   refine zz6 hT9 (aH rfl am) ?_
   refine zz6 hT9 (zz2 (off := 0) (ft := 23) rfl aj rfl ae) ?_
   refine zz6 hT9 (aH rfl am) ?_
   refine zz6 hT9 (fk rfl rfl) ?_
   refine zz6 hT9 (fk (n := 2) rfl rfl) ?_
   refine zz6 hT9 (az rfl Tryz.call222 (fun w hw => t6 (i.imm - i.addr - 2) w)) ?_
   refine zz6 hT9 (cP rfl) (zz6 hF8 (aV rfl hT9 rfl) ?_)
   refine aD (ac ?_)
   exact aK (Sub.cons rfl (bD 9 rfl))
  ·intro hF9
   refine zz9 hF9 (zz9 hF9 (zz9 hF9 (zz9 hF9 (zz9 hF9 (zz9 hF9 (zz9 hF9 (zz9 hF9 (zz6 hF8 (aU rfl hF9 rfl) ?_))))))))
   refine aD (ac ?_)
   exact aK (Sub.cons rfl (bD 9 rfl))
  refine zz0 (aU rfl hF8 rfl) ?_
  refine aD (ac ?_)
  exact aK (Sub.cons rfl (bD 5 rfl))
 ·intro hT8
  refine zz9 hT8 (zz9 hT8 (zz9 hT8 (gw ?_)))
  refine gw ?_
  refine gw ?_
  refine gw ?_
  refine gw ?_
  refine gw ?_
  refine gw ?_
  refine gw ?_
  refine zz9 hT8 (zz0 (aV rfl hT8 rfl) ?_)
  refine aD (ac ?_)
  exact aK (Sub.cons rfl (bD 13 rfl))
 refine ad ?_
 refine au rfl ?_ ?_ <;> intro h10 <;> try simp only [bs] at h10
 ·refine ah (zz0 (ab rfl) (zz0 (ab rfl) (zz0 (ab rfl) (ad (aC (ay ?_))))))
  refine eK mI rfl rfl rfl (fun w' hw => ?_)
  exact ⟨by rw [EC (by simp_all) (by simp_all)]; rfl, hw.b0⟩
 refine dz (zz0 (aa rfl) (zz0 (aa rfl) (zz0 (ab rfl) (zz0 (ab rfl) (zz0 (ab rfl) (ad (aC ?_)))))))
 refine eK mI rfl rfl rfl (fun w' hw => ?_)
 exact ⟨by rw [vR (G7 (by simp_all) (by intro hc; rcases hc with ⟨h1 | h1, h2⟩ | ⟨h1, h2⟩ <;> simp_all))]; rfl, hw.b0⟩
theorem size_any (s : Int) (w : World) (hs : 0 ≤ s ∧ s ≤ 8) :
  Cr Tryz.prog 170 #[.int .i64 s] w (.int .i64 (eZ s)) := by
 refine enter Tryz.func170 rfl Tryz.ntmps170 rfl ?_
 refine ah (zz0 (ab rfl) (aI (zz0 (aa rfl) (zz0 (si rfl rfl g5 (by refine ⟨by omega, ?_⟩; show s < 9; omega)) ?_))))
 refine zz0 (Bv (n := 48) rfl rfl) ?_
 refine zz0 (gV rfl bU ba) (zz0 (ab rfl) (ad (aC ?_)))
 refine aX Tryz.results170 rfl (fun w' hw => ?_)
 exact ⟨by obtain rfl | rfl | rfl | rfl | rfl | rfl | rfl | rfl | rfl : s = 0 ∨ s = 1 ∨ s = 2 ∨ s = 3 ∨ s = 4 ∨ s = 5 ∨ s = 6 ∨ s = 7 ∨ s = 8 := (by omega) <;> rfl, hw.b0⟩
theorem jY (i : Ins) (w : World) (hI : InsOK i) :
  Cr Tryz.prog 92 #[.agg (aM.enc i).toArray] w (.bool (decide (iM i = 0))) := by
 refine enter Tryz.func92 rfl Tryz.ntmps92 rfl ?_
 refine ah ?_
 refine dG rfl rfl (fun b1 => ?_)
 refine zz0 (ab rfl) (aI (zz0 (bG rfl aQ ax) ?_))
 refine zz0 (az rfl Tryz.call154 (fun w hw => check_any i w hI)) ?_
 refine zz0 (aa rfl) (zz0 (aN rfl rfl) (zz0 (aN rfl rfl) (zz0 (aN rfl rfl) (zz0 (ab rfl) (zz0 (ab rfl) (zz0 (ab rfl) (aI (zz0 (aa rfl) (zz0 (bA rfl rfl) (zz0 (ab rfl) ?_))))))))))
 refine ad (aC ?_)
 refine aX Tryz.results92 rfl (fun w' hw => ?_)
 exact ⟨by rw [qe], hw.b0⟩
theorem nG (i : Ins) (w : World) (hI : InsOK i) :
  Cr Tryz.prog 117 #[.agg (aM.enc i).toArray] w (.int .i64 (im i)) := by
 refine enter Tryz.func117 rfl Tryz.ntmps117 rfl ?_
 refine ah ?_
 refine dG rfl rfl (fun b1 => ?_)
 refine zz0 (ab rfl) (aI (zz0 (bG rfl aQ ax) ?_))
 refine zz0 (az rfl Tryz.call154 (fun w hw => check_any i w hI)) ?_
 refine zz0 (aa rfl) (zz0 (aN rfl rfl) (zz0 (aN rfl rfl) (zz0 (aN rfl rfl) (zz0 (ab rfl) (zz0 (ab rfl) (zz0 (ab rfl) (ad (an (ah (zz0 (aa rfl) (zz0 (fH rfl rfl) ?_)))))))))))
 refine ad ?_
 refine au rfl ?_ ?_ <;> intro h2 <;> try simp only [bs] at h2
 ·refine ah (zz0 (ab rfl) (ad (aC (ay ?_))))
  refine aX Tryz.results117 rfl (fun w' hw => ?_)
  exact ⟨by unfold im; rw [if_neg (by rw [← qe]; assumption)], hw.b0⟩
 refine dz (zz0 (aa rfl) (zz0 (az rfl Tryz.call170 (fun w hw => size_any (jI i).2.1 w (w8 i))) ?_))
 refine zz0 (ab rfl) (ad (aC ?_))
 refine aX Tryz.results117 rfl (fun w' hw => ?_)
 exact ⟨by have he : iM i = 0 := (by rw [← qe]; assumption); unfold im; rw [if_pos he, vR he], hw.b0⟩
theorem yi (i : Ins) (w : World) (hI : InsOK i) :
  Cr Tryz.prog 60 #[.agg (aM.enc i).toArray] w (.int .u32 (nY i).toNat) := by
 refine enter Tryz.func60 rfl Tryz.ntmps60 rfl ?_
 refine ah ?_
 refine dG rfl rfl (fun b1 => ?_)
 refine zz0 (ab rfl) (ad (an (gZ aP ?_)))
 refine aw (zz2 (off := 0) (ft := 23) rfl aj rfl ae) ?_
 refine aw (aH rfl am) ?_
 refine aw (bG rfl aQ ax) ?_
 refine aw (az rfl nP (fun w hw => nG i w hI)) ?_
 refine aw (gU rfl ba aS) (aw (gJ rfl rfl) ?_)
 refine aw (ab rfl) (bH ?_)
 refine ac (aC ?_)
 refine aX Tryz.results60 rfl (fun w' hw => ?_)
 exact ⟨rfl, hw.b0⟩
theorem yM (i : Ins) (w : World) :
  Cr Tryz.prog 195 #[.agg (aM.enc i).toArray] w (.bool (kU i)) := by
 refine enter Tryz.func195 rfl Tryz.ntmps195 rfl ?_
 refine ah ?_
 refine dG rfl rfl (fun b1 => ?_)
 refine zz0 (ab rfl) (ad (an (ah (zz0 (zz2 (off := 2) (ft := 3) rfl aj rfl aA) ?_))))
 refine zz0 (aH rfl aO) ?_
 refine ad (aF (an (ah (zz0 (bA rfl rfl) (zz0 (ab rfl) (ad ?_))))))
 apply dP
 ·exact rfl
 ·intro hO2
  try simp only [bs] at hO2
  refine ah (zz0 (bA rfl rfl) (zz0 (ab rfl) (ad ?_)))
  apply dP
  ·exact rfl
  ·intro hO3
   try simp only [bs] at hO3
   refine ah (zz0 (bA rfl rfl) (zz0 (ab rfl) (ad ?_)))
   apply dP
   ·exact rfl
   ·intro hO4
    try simp only [bs] at hO4
    refine ar (zz0 (bA rfl rfl) (zz0 (ab rfl) (ad ?_)))
    exact eD rfl (zz8 2 rfl)
   refine ac ?_
   exact eD rfl (zz8 3 rfl)
  refine ac ?_
  exact eD rfl (zz8 3 rfl)
 refine ac ?_
 refine au rfl ?_ ?_ <;> intro h5 <;> try simp only [bs] at h5
 ·refine ah (zz0 (ab rfl) (ad (aC (bv (ay ?_)))))
  refine aX Tryz.results195 rfl (fun w' hw => ?_)
  exact ⟨by unfold kU; rw [decide_eq_true (by omega)]; rfl, hw.b0⟩
 refine cd (aY (ac (ah (zz0 (zz2 (off := 2) (ft := 3) rfl aj rfl aA) ?_))))
 refine zz0 (aH rfl aO) ?_
 refine zz0 (bA rfl rfl) (zz0 (aa rfl) ?_)
 apply cH
 ·exact (rfl : _ = (4, 13, 17))
 ·exact rfl
 ·intro hT6; have hT6' := hT6
  try simp only [bs] at hT6'
  refine zz6 hT6 (zz2 (off := 5) (ft := 3) rfl aj rfl aA) ?_
  refine zz6 hT6 (aH rfl aO) ?_
  refine zz6 hT6 (bA rfl rfl) (zz0 (aV rfl hT6 rfl) ?_)
  refine aD (ac ?_)
  exact aK (Sub.cons rfl (bD 4 rfl))
 ·intro hF6
  refine zz9 hF6 (zz9 hF6 (zz9 hF6 (zz0 (aU rfl hF6 rfl) ?_)))
  refine aD (ac ?_)
  exact aK (Sub.cons rfl (bD 4 rfl))
 refine zz0 (ab rfl) (ad (aC ?_))
 refine aX Tryz.results195 rfl (fun w' hw => ?_)
 exact ⟨by unfold kU; rw [decide_eq_false (p := i.op = 1 ∨ i.op = 2 ∨ i.op = 21 ∨ i.op = 22) (by omega)]; rfl, hw.b0⟩
theorem pO (i : Ins) (w : World) :
  Cr Tryz.prog 144 #[.agg (aM.enc i).toArray] w (.tuple #[.int .u32 (c9 i).1.toNat, .bool (c9 i).2]) := by
 refine enter Tryz.func144 rfl Tryz.ntmps144 rfl ?_
 refine ah ?_
 refine dG rfl rfl (fun b1 => ?_)
 refine zz0 (ab rfl) (zz0 (ab rfl) (ad (an (ah (zz0 (zz2 (off := 2) (ft := 3) rfl aj rfl aA) ?_)))))
 refine zz0 (aH rfl aO) ?_
 refine zz0 (bA rfl rfl) (zz0 (aa rfl) ?_)
 apply dV
 ·exact (rfl : _ = (4, 7, 11))
 ·exact rfl
 ·intro hF2; have hF2' := hF2
  try simp only [bs] at hF2'
  refine zz6 hF2 (zz2 (off := 2) (ft := 3) rfl aj rfl aA) ?_
  refine zz6 hF2 (aH rfl aO) ?_
  refine zz6 hF2 (bA rfl rfl) (zz0 (aU rfl hF2 rfl) ?_)
  refine aD (ac ?_)
  exact aK (Sub.cons rfl (bD 4 rfl))
 ·intro hT2
  refine zz9 hT2 (zz9 hT2 (zz9 hT2 (zz0 (aV rfl hT2 rfl) ?_)))
  refine aD (ac ?_)
  exact aK (Sub.cons rfl (bD 4 rfl))
 refine ad ?_
 refine au rfl ?_ ?_ <;> intro h3 <;> try simp only [bs] at h3
 ·refine ah (zz0 (zz2 (off := 1) (ft := 23) rfl aj rfl ae) ?_)
  refine zz0 (aH rfl am) ?_
  refine zz0 (ab rfl) (zz0 (ab rfl) (ad (aC (ay ?_))))
  refine dE Tryz.results144 rfl rfl (fun w' hw => ?_)
  exact ⟨by unfold c9; (repeat (first | rw [if_pos (by omega)] | rw [if_neg (by omega)])) <;> rfl, hw.b0⟩
 refine dz (zz0 (ab rfl) (zz0 (ab rfl) (ad (aC ?_))))
 refine dE Tryz.results144 rfl rfl (fun w' hw => ?_)
 exact ⟨by unfold c9; (repeat (first | rw [if_pos (by omega)] | rw [if_neg (by omega)])) <;> rfl, hw.b0⟩
theorem uq (a : UInt32) (k : Int) (w : World) :
  Cr Tryz.prog 192 #[.int .u32 a.toNat, .int .i64 k] w (.int .u32 (Ej a k).toNat) := by
 refine enter Tryz.func192 rfl Tryz.ntmps192 rfl ?_
 refine ah (zz0 (ab rfl) (ad (an (ah (zz0 (aa rfl) (ad (aF (ah ?_))))))))
 refine zz0 (bA rfl rfl) (zz0 (ab rfl) (ad ?_))
 refine au rfl ?_ ?_ <;> intro h1 <;> try simp only [bs] at h1
 ·refine ah (zz0 (aa rfl) (zz0 (mN rfl aS Tryz.underlying284) (zz0 (gU rfl Tryz.underlying284 aS) (zz0 (ab rfl) (ad (aC (bv (ay ?_))))))))
  refine aX mG rfl (fun w' hw => ?_)
  exact ⟨by unfold Ej; (repeat (first | rw [if_pos (by omega)] | rw [if_neg (by omega)])) <;> rfl, hw.b0⟩
 refine ah (zz0 (bA rfl rfl) (zz0 (ab rfl) (ad ?_)))
 refine au rfl ?_ ?_ <;> intro h2 <;> try simp only [bs] at h2
 ·refine ah (zz0 (aa rfl) (zz0 (mN rfl aS Tryz.underlying285) (zz0 (gU rfl Tryz.underlying285 aS) (zz0 (ab rfl) (ad (aC (bv (ay ?_))))))))
  refine aX mG rfl (fun w' hw => ?_)
  exact ⟨by unfold Ej; (repeat (first | rw [if_pos (by omega)] | rw [if_neg (by omega)])) <;> rfl, hw.b0⟩
 refine cd (aY (ac (ah (zz0 (aa rfl) (zz0 (ab rfl) (ad (aC ?_)))))))
 refine aX mG rfl (fun w' hw => ?_)
 exact ⟨by unfold Ej; (repeat (first | rw [if_pos (by omega)] | rw [if_neg (by omega)])) <;> rfl, hw.b0⟩
end Go.Proofs.YtiajjbhcpeadfaaGreat
namespace Go.Proofs.YtiajjbhcpeadfaaGreat
open Go Go.HL Go.RowKit
theorem Fp (c : UInt8) (w : World) :
  Cr Tryz.prog 190 #[.int .u8 c.toNat] w (.tuple #[.agg (aM.enc (rowP c).1).toArray, .bool (rowP c).2]) := by
 have hc1 := c.toNat_lt
 have hc2 : (c % 16).toNat = c.toNat % 16 := by rw [UInt8.toNat_mod]; rfl
 have hc3 : (c / 16).toNat = c.toNat / 16 := by rw [UInt8.toNat_div]; rfl
 refine enter Tryz.func190 rfl Tryz.ntmps190 rfl ?_
 refine ah ?_
 refine dC bR rfl (fun b1 => ?_)
 refine zz0 (ab rfl) (ad (ri (ah (zz0 (aa rfl) (zz0 (v8 rfl rfl) ?_)))))
 refine zz0 (gV rfl bU ba) (zz0 (aa rfl) (zz0 (uN rfl rfl) ?_))
 refine zz0 (gV rfl bU ba) (zz0 (ab rfl) (zz0 (ab rfl) (ad (an (aF (ah (zz0 (aa rfl) (zz0 (Gs (n := 2) rfl rfl) ?_))))))))
 refine zz0 (ab rfl) (ad ?_)
 refine au rfl ?_ ?_ <;> intro h2 <;> try simp only [bs] at h2
 ·refine ah (zz0 (aa rfl) (zz0 (gV rfl bU ba) (zz0 (bK (vs := [(2, _)]) rfl rfl (f7 _)) ?_)))
  refine aB aM rfl rfl ax ?_
  refine zz0 (ab rfl) (ad (aC (bv (ay (fG ?_)))))
  refine kG fK rfl rfl aQ ax (fun w' hw => ?_)
  exact ⟨by clear hw; unfold rowP; (repeat (first | rw [if_pos (by first | assumption | omega)] | rw [if_neg (by first | assumption | omega | (intro hq; simp_all))])) <;> rfl, hw.b0⟩
 refine ah (zz0 (aa rfl) (zz0 (BA (n := 8) rfl rfl) ?_))
 refine zz0 (aa rfl) ?_
 apply cH
 ·exact (rfl : _ = (3, 29, 32))
 ·exact rfl
 ·intro hT3; have hT3' := hT3
  try simp only [bs] at hT3'
  refine zz6 hT3 (aa rfl) (zz6 hT3 (rp (n := 16) rfl rfl) ?_)
  refine zz0 (aV rfl hT3 rfl) ?_
  refine aD (ac ?_)
  exact aK (Sub.cons rfl (bD 3 rfl))
 ·intro hF3
  refine zz9 hF3 (zz9 hF3 (zz0 (aU rfl hF3 rfl) ?_))
  refine aD (ac ?_)
  exact aK (Sub.cons rfl (bD 3 rfl))
 refine zz0 (ab rfl) (ad ?_)
 refine au rfl ?_ ?_ <;> intro h4 <;> try simp only [bs] at h4
 ·refine ah (zz0 (aa rfl) (zz0 (ei rfl rfl) ?_))
  refine zz0 (bK (vs := [(2, _), (6, _)]) rfl rfl (jD _ _)) ?_
  refine aB aM rfl rfl ax ?_
  refine zz0 (ab rfl) (ad (aC (bv (ay (fG ?_)))))
  refine kG fK rfl rfl aQ ax (fun w' hw => ?_)
  exact ⟨by clear hw; unfold rowP; (repeat (first | rw [if_pos (by first | assumption | omega)] | rw [if_neg (by first | assumption | omega | (intro hq; simp_all))])) <;> rfl, hw.b0⟩
 refine ah (zz0 (aa rfl) (zz0 (BA (n := 16) rfl rfl) ?_))
 refine zz0 (aa rfl) ?_
 apply cH
 ·exact (rfl : _ = (3, 39, 42))
 ·exact rfl
 ·intro hT5; have hT5' := hT5
  try simp only [bs] at hT5'
  refine zz6 hT5 (aa rfl) (zz6 hT5 (rp (n := 24) rfl rfl) ?_)
  refine zz0 (aV rfl hT5 rfl) ?_
  refine aD (ac ?_)
  exact aK (Sub.cons rfl (bD 3 rfl))
 ·intro hF5
  refine zz9 hF5 (zz9 hF5 (zz0 (aU rfl hF5 rfl) ?_))
  refine aD (ac ?_)
  exact aK (Sub.cons rfl (bD 3 rfl))
 refine zz0 (ab rfl) (ad ?_)
 refine au rfl ?_ ?_ <;> intro h6 <;> try simp only [bs] at h6
 ·refine ah (zz0 (aa rfl) (zz0 (bK (vs := [(2, _), (6, _)]) rfl rfl (jD _ _)) ?_))
  refine aB aM rfl rfl ax ?_
  refine zz0 (ab rfl) (ad (aC (bv (ay (fG ?_)))))
  refine kG fK rfl rfl aQ ax (fun w' hw => ?_)
  exact ⟨by clear hw; unfold rowP; (repeat (first | rw [if_pos (by first | assumption | omega)] | rw [if_neg (by first | assumption | omega | (intro hq; simp_all))])) <;> rfl, hw.b0⟩
 refine ah (zz0 (aa rfl) (zz0 (eM rfl rfl) (zz0 (aa rfl) ?_)))
 apply cH
 ·exact (rfl : _ = (3, 48, 51))
 ·exact rfl
 ·intro hT7; have hT7' := hT7
  try simp only [bs] at hT7'
  refine zz6 hT7 (aa rfl) (zz6 hT7 (fX rfl rfl) (zz0 (aV rfl hT7 rfl) ?_))
  refine aD (ac ?_)
  exact aK (Sub.cons rfl (bD 3 rfl))
 ·intro hF7
  refine zz9 hF7 (zz9 hF7 (zz0 (aU rfl hF7 rfl) ?_))
  refine aD (ac ?_)
  exact aK (Sub.cons rfl (bD 3 rfl))
 refine zz0 (aa rfl) ?_
 apply cH
 ·exact (rfl : _ = (3, 52, 55))
 ·exact rfl
 ·intro hT8; have hT8' := hT8
  try simp only [bs] at hT8'
  refine zz6 hT8 (aa rfl) (zz6 hT8 (fX rfl rfl) (zz0 (aV rfl hT8 rfl) ?_))
  refine aD (ac ?_)
  exact aK (Sub.cons rfl (bD 3 rfl))
 ·intro hF8
  refine zz9 hF8 (zz9 hF8 (zz0 (aU rfl hF8 rfl) ?_))
  refine aD (ac ?_)
  exact aK (Sub.cons rfl (bD 3 rfl))
 refine zz0 (ab rfl) (ad ?_)
 refine au rfl ?_ ?_ <;> intro h9 <;> try simp only [bs] at h9
 ·refine ah (zz0 (aa rfl) (zz0 (cB rfl rfl) ?_))
  refine zz0 (aa rfl) (zz0 (ei rfl rfl) ?_)
  refine zz0 (bK (vs := [(2, _), (3, _)]) rfl rfl (s6 _ _)) ?_
  refine aB aM rfl rfl ax ?_
  refine zz0 (ab rfl) (ad (aC (bv (ay (fG ?_)))))
  refine kG fK rfl rfl aQ ax (fun w' hw => ?_)
  exact ⟨by clear hw; unfold rowP; (repeat (first | rw [if_pos (by first | assumption | omega)] | rw [if_neg (by first | assumption | omega | (intro hq; simp_all))])) <;> rfl, hw.b0⟩
 refine ah (zz0 (aa rfl) (zz0 (bA rfl rfl) (zz0 (aa rfl) ?_)))
 apply cH
 ·exact (rfl : _ = (3, 64, 67))
 ·exact rfl
 ·intro hT10; have hT10' := hT10
  try simp only [bs] at hT10'
  refine zz6 hT10 (aa rfl) (zz6 hT10 (fX rfl rfl) (zz0 (aV rfl hT10 rfl) ?_))
  refine aD (ac ?_)
  exact aK (Sub.cons rfl (bD 3 rfl))
 ·intro hF10
  refine zz9 hF10 (zz9 hF10 (zz0 (aU rfl hF10 rfl) ?_))
  refine aD (ac ?_)
  exact aK (Sub.cons rfl (bD 3 rfl))
 refine zz0 (ab rfl) (ad ?_)
 refine au rfl ?_ ?_ <;> intro h11 <;> try simp only [bs] at h11
 ·refine ah (zz0 (aa rfl) (zz0 (bK (vs := [(2, _), (3, _), (5, _)]) rfl rfl (mf _ _ _)) ?_))
  refine aB aM rfl rfl ax ?_
  refine zz0 (ab rfl) (ad (aC (bv (ay (fG ?_)))))
  refine kG fK rfl rfl aQ ax (fun w' hw => ?_)
  exact ⟨by clear hw; unfold rowP; (repeat (first | rw [if_pos (by first | assumption | omega)] | rw [if_neg (by first | assumption | omega | (intro hq; simp_all))])) <;> rfl, hw.b0⟩
 refine ah (zz0 (aa rfl) (zz0 (bA rfl rfl) (zz0 (aa rfl) ?_)))
 apply cH
 ·exact (rfl : _ = (3, 73, 76))
 ·exact rfl
 ·intro hT12; have hT12' := hT12
  try simp only [bs] at hT12'
  refine zz6 hT12 (aa rfl) (zz6 hT12 (fX rfl rfl) (zz0 (aV rfl hT12 rfl) ?_))
  refine aD (ac ?_)
  exact aK (Sub.cons rfl (bD 3 rfl))
 ·intro hF12
  refine zz9 hF12 (zz9 hF12 (zz0 (aU rfl hF12 rfl) ?_))
  refine aD (ac ?_)
  exact aK (Sub.cons rfl (bD 3 rfl))
 refine zz0 (ab rfl) (ad ?_)
 refine au rfl ?_ ?_ <;> intro h13 <;> try simp only [bs] at h13
 ·refine ah (zz0 (aa rfl) (zz0 (bK (vs := [(2, _), (3, _), (5, _)]) rfl rfl (mf _ _ _)) ?_))
  refine aB aM rfl rfl ax ?_
  refine zz0 (ab rfl) (ad (aC (bv (ay (fG ?_)))))
  refine kG fK rfl rfl aQ ax (fun w' hw => ?_)
  exact ⟨by clear hw; unfold rowP; (repeat (first | rw [if_pos (by first | assumption | omega)] | rw [if_neg (by first | assumption | omega | (intro hq; simp_all))])) <;> rfl, hw.b0⟩
 refine ah (zz0 (aa rfl) (zz0 (bA rfl rfl) (zz0 (aa rfl) ?_)))
 apply cH
 ·exact (rfl : _ = (3, 82, 85))
 ·exact rfl
 ·intro hT14; have hT14' := hT14
  try simp only [bs] at hT14'
  refine zz6 hT14 (aa rfl) (zz6 hT14 (fX rfl rfl) (zz0 (aV rfl hT14 rfl) ?_))
  refine aD (ac ?_)
  exact aK (Sub.cons rfl (bD 3 rfl))
 ·intro hF14
  refine zz9 hF14 (zz9 hF14 (zz0 (aU rfl hF14 rfl) ?_))
  refine aD (ac ?_)
  exact aK (Sub.cons rfl (bD 3 rfl))
 refine zz0 (ab rfl) (ad ?_)
 refine au rfl ?_ ?_ <;> intro h15 <;> try simp only [bs] at h15
 ·refine ah (zz0 (aa rfl) (zz0 (bK (vs := [(2, _), (5, _)]) rfl rfl (s5 _ _)) ?_))
  refine aB aM rfl rfl ax ?_
  refine zz0 (ab rfl) (ad (aC (bv (ay (fG ?_)))))
  refine kG fK rfl rfl aQ ax (fun w' hw => ?_)
  exact ⟨by clear hw; unfold rowP; (repeat (first | rw [if_pos (by first | assumption | omega)] | rw [if_neg (by first | assumption | omega | (intro hq; simp_all))])) <;> rfl, hw.b0⟩
 refine cd (aY (ac (ah (zz0 (bK (vs := [(2, _), (4, _)]) rfl rfl (fq _ _)) ?_))))
 refine zz0 (bK (vs := [(2, _), (4, _)]) rfl rfl (fq _ _)) ?_
 refine zz0 (bK (vs := [(2, _), (4, _)]) rfl rfl (fq _ _)) ?_
 refine zz0 (bK (vs := [(2, _), (4, _)]) rfl rfl (fq _ _)) ?_
 refine zz0 (bK (vs := [(2, _), (4, _)]) rfl rfl (fq _ _)) ?_
 refine zz0 (bK (vs := [(2, _), (4, _)]) rfl rfl (fq _ _)) ?_
 refine zz0 (bK (vs := [(2, _), (4, _)]) rfl rfl (fq _ _)) ?_
 refine zz0 (bK (vs := [(2, _), (4, _)]) rfl rfl (fq _ _)) ?_
 refine zz0 (bK (vs := [(2, _)]) rfl rfl (f7 _)) ?_
 refine zz0 (bK (vs := [(2, _)]) rfl rfl (f7 _)) ?_
 refine zz0 (bK (vs := [(2, _)]) rfl rfl (f7 _)) ?_
 refine zz0 (bK (vs := [(2, _)]) rfl rfl (f7 _)) ?_
 refine zz0 (bK (vs := [(2, _)]) rfl rfl (f7 _)) ?_
 refine zz0 (bK (vs := [(2, _)]) rfl rfl (f7 _)) ?_
 refine zz0 (bK (vs := [(2, _)]) rfl rfl (f7 _)) ?_
 refine zz0 (bK (vs := [(0, _), (1, _), (2, _), (3, _), (4, _), (5, _), (6, _), (7, _), (8, _), (9, _), (10, _), (11, _), (12, _), (13, _), (14, _)]) rfl rfl (gK _ _ _ _ _ _ _ _ _ _ _ _ _ _ _ _ _ _ _ _ _ _ _ _ _ _ _ _ _ _ _ _ _ _ _ _ _ _ _ _ _ _ _ _ _ _ _ _ _ _ _ _ _ _ _ _ _ _ _ _ _ _ _ _ _ _ _ _ _ _ _ _ _ _ _ _ _ _ _ _ _ _ _ _ _ _ _ _ _ _ _ _ _ _ _ _ _ _ _ _ _ _ _ _ _ _ _ _ _ _ _ _ _ _ _ _ _ _ _ _ _ _ _ _ _ _ _ _ _ _ _ _ _ _ _)) ?_
 refine dC Tryz.zeroValue283 rfl (fun b16 => ?_)
 refine zz5 rfl rfl Tryz.sizeOf283 ?_
 refine aI ?_
 refine dC bR rfl (fun b17 => ?_)
 refine aI (zz0 (ab rfl) (ad (an (rk ?_))))
 refine ac (an (ah (zz0 (bG rfl Tryz.isAgg283 Tryz.sizeOf283) ?_)))
 refine zz0 (aa rfl) (ad (aF ?_))
 refine bL (ι := Nat) (fun k => k ≤ 15 ∧ oN c (vr.drop k) = oN c vr) (fun _ => _) (fun k => [cellE b17 (aM.enc cp) 36, cellE b1 (aM.enc cp) 36]) (fun k => [(105, .int .i64 (k : Nat))]) (fun k => 15 - k) 0 ⟨by omega, rfl⟩ (Front.c Front.nil) (by repeat' constructor) rfl (fun k hi m hm => ?_)
 replace hi : k ≤ 15 ∧ oN c (vr.drop k) = oN c vr := hi
 replace hm : m = 15 - k := hm
 change Tr _ _ [cellE b17 (aM.enc cp) 36, cellE b1 (aM.enc cp) 36] ([(105, .int .i64 (k : Nat))] ++ _) _
 obtain ⟨hk1, hk2⟩ := hi
 refine ah (zz0 (bT rfl rfl) (ad (an ?_)))
 refine au rfl ?_ ?_ <;> intro h18 <;> try simp only [bs] at h18
 ·refine bC (an (aF (ah (zz0 (CP (E := aM) vr rfl rfl Tryz.underlying283 ax aQ rfl rfl (by omega)) ?_))))
  refine dC bR rfl (fun b19 => ?_)
  refine aB aM rfl rfl ax ?_
  refine aI (zz0 (bG rfl aQ ax) ?_)
  refine zz0 (az rfl Tryz.call191 (fun w hw => pW (vr.getD k default) w (rows_ok k (by omega)))) ?_
  refine zz0 (aa rfl) (zz0 (aN rfl rfl) (zz0 (aN rfl rfl) (zz0 (aN rfl rfl) (zz0 (ab rfl) (zz0 (ab rfl) (zz0 (ab rfl) (aI (zz0 (aa rfl) (zz0 (aa rfl) ?_)))))))))
  apply cH
  ·exact (rfl : _ = (4, 115, 119))
  ·exact rfl
  ·intro hT20; have hT20' := hT20
   try simp only [bs] at hT20'
   refine zz6 hT20 (aa rfl) (zz6 hT20 (aa rfl) (zz6 hT20 (Gt rfl rfl) ?_))
   refine zz0 (aV rfl hT20 rfl) ?_
   refine aD (ac ?_)
   exact aK (Sub.cons rfl (bD 4 rfl))
  ·intro hF20
   refine zz9 hF20 (zz9 hF20 (zz9 hF20 (zz0 (aU rfl hF20 rfl) ?_)))
   refine aD (ac ?_)
   exact aK (Sub.cons rfl (bD 4 rfl))
  refine ad ?_
  refine au rfl ?_ ?_ <;> intro h21 <;> try simp only [bs] at h21
  ·refine ah (zz0 (bG rfl aQ ax) ?_)
   refine aB aM rfl rfl ax ?_
   refine zz0 (ab rfl) (ad (bJ (jh rfl ?_)))
   refine aG (aG (bj (ac (ah (zz0 (bG rfl aQ ax) ?_)))))
   refine zz0 (aa rfl) (aB aM rfl rfl ax ?_)
   refine zz0 (ab rfl) (ad (aC (fG ?_)))
   refine kG fK rfl rfl aQ ax (fun w' hw => ?_)
   exact ⟨by clear hw; unfold rowP; (repeat (rw [if_neg (by first | assumption | omega | (intro hq; simp_all))])); rw [← hk2, drop_cons (k := k) (by show k < 15; omega), oN, if_pos (by assumption)]; rfl, hw.b0⟩
  refine cd (aY (ac (ar (zz0 (cB rfl rfl) ?_))))
  refine zz0 (aa rfl) (ad ?_)
  refine cK (k + 1) (Front.c Front.nil) (zz8 18 rfl) (o := ⟨by omega, by rw [← hk2, drop_cons (k := k) (by show k < 15; omega), oN, if_neg (by intro hq; simp_all)]⟩)
 refine bJ (aG (aG (bj (ac (ah (zz0 (bG rfl aQ ax) ?_))))))
 refine zz0 (aa rfl) (aB aM rfl rfl ax ?_)
 refine zz0 (ab rfl) (ad (aC (fG ?_)))
 refine kG fK rfl rfl aQ ax (fun w' hw => ?_)
 exact ⟨by clear hw; unfold rowP; (repeat (rw [if_neg (by first | assumption | omega | (intro hq; simp_all))])); obtain rfl : k = 15 := (by omega); rw [← hk2]; rfl, hw.b0⟩
theorem Ad (b : List UInt8) (V : Value) (addr : UInt32) (w : World) (hV : Sl (hp w) dZ b V) :
  Cr Tryz.prog 135 #[V, .int .u32 addr.toNat] w (.tuple #[.agg (aM.enc (m5 b addr).1).toArray, .int .i64 (m5 b addr).2]) := by
 have hV' : Sl (Bg.of w).blk dZ b V := hV
 have hlen := hV.len_le
 refine enter Tryz.func135 rfl Tryz.ntmps135 rfl ?_
 refine ah ?_
 refine dC bR rfl (fun b1 => ?_)
 refine zz0 (ab rfl) (ad (an (ah (zz0 (aa rfl) (zz0 (gj rfl bI) ?_)))))
 refine zz0 (bA rfl rfl) (ad ?_)
 refine au rfl ?_ ?_ <;> intro h2 <;> try simp only [bs] at h2
 ·refine ah (zz0 (bK (vs := []) rfl rfl (kF)) ?_)
  refine aB aM rfl rfl ax ?_
  refine zz0 (ab rfl) (ad (aC (ay ?_)))
  refine kG jz rfl rfl aQ ax (fun w' hw => ?_)
  exact ⟨by rw [Hg (by omega)]; rfl, hw.b0⟩
 refine dz (zz0 (aa rfl) (zz0 (nZ rfl rfl bI dT) ?_))
 refine zz0 (jl rfl gy) ?_
 refine zz0 (az rfl Tryz.call190 (fun w hw => Fp (b.getD 0 default) w)) ?_
 refine zz0 (aa rfl) (zz0 (aN rfl rfl) (zz0 (aN rfl rfl) ?_))
 refine dC bR rfl (fun b3 => ?_)
 refine aB aM rfl rfl ax ?_
 refine zz0 (ab rfl) (ad (an (ah (zz0 (aa rfl) (zz0 (cP rfl) (ad ?_))))))
 refine au rfl ?_ ?_ <;> intro h4 <;> try simp only [bs] at h4
 ·refine ah (zz0 (bK (vs := []) rfl rfl (kF)) ?_)
  refine aB aM rfl rfl ax ?_
  refine zz0 (ab rfl) (ad (aC (ay ?_)))
  refine kG jz rfl rfl aQ ax (fun w' hw => ?_)
  exact ⟨by rw [Hf (by omega) (by assumption)]; rfl, hw.b0⟩
 refine dz (zz0 (bG rfl aQ ax) ?_)
 refine zz0 (az rfl Tryz.call191 (fun w hw => pW (rowP (b.getD 0 default)).1 w (Dk _))) ?_
 refine zz0 (aa rfl) (zz0 (aN rfl rfl) (zz0 (aN rfl rfl) (zz0 (aN rfl rfl) (zz0 (ab rfl) (zz0 (ab rfl) (zz0 (ab rfl) (aI (zz0 (aa rfl) (zz0 (az rfl Tryz.call170 (fun w hw => size_any (bP (rowP (b.getD 0 default)).1).2.1 w (pF _))) ?_)))))))))
 refine zz0 (ab rfl) (ad (an (ah (zz0 (aa rfl) (zz0 (gj rfl bI) ?_)))))
 refine zz0 (aa rfl) (zz0 (bT rfl rfl) (ad ?_))
 refine au rfl ?_ ?_ <;> intro h5 <;> try simp only [bs] at h5
 ·refine ah (zz0 (bK (vs := []) rfl rfl (kF)) ?_)
  refine aB aM rfl rfl ax ?_
  refine zz0 (ab rfl) (ad (aC (ay ?_)))
  refine kG jz rfl rfl aQ ax (fun w' hw => ?_)
  exact ⟨by rw [He (by omega) (by assumption) (by assumption)]; rfl, hw.b0⟩
 refine bC (an ?_)
 have hsz := zD (bP (rowP (b.getD 0 default)).1).2.1
 refine ar (zz0 (aa rfl) (zz0 (aa rfl) (zz0 (zz2 (off := 0) (ft := 23) rfl aj rfl ae) ?_)))
 refine zz3 (cs' := [_, _, _, _, _, _, _, _, _]) rfl rfl ae rfl ?_
 refine zz0 (zz2 (off := 8) (ft := 3) rfl aj rfl aA) ?_
 refine zz3 (cs' := [_, _, _, _, _, _, _, _, _]) rfl rfl aA rfl ?_
 refine aI (zz0 (aa rfl) (zz0 (aa rfl) (zz0 (gU rfl ba aS) (zz0 (gJ rfl rfl) ?_))))
 refine zz0 (ab rfl) (ad ?_)
 refine cZ (ι := Ins) (fun k1 => k1 = pD (bP (rowP (b.getD 0 default)).1).2.1 { (rowP (b.getD 0 default)).1 with addr := addr, size := eZ (bP (rowP (b.getD 0 default)).1).2.1 } b) (fun _ => Bg.of w) (fun k1 => [cellE b3 (aM.enc k1) 36, cellE b1 (aM.enc cp) 36]) (fun k1 => []) ?_ (fun k1 hi => ?_)
 ·skip
  refine ah (zz0 (aa rfl) (ad (aF (an (ah (zz0 (bA rfl rfl) (zz0 (ab rfl) (ad ?_))))))))
  apply dP
  ·exact rfl
  ·intro hO6
   try simp only [bs] at hO6
   refine ah (zz0 (bA rfl rfl) (zz0 (ab rfl) (ad ?_)))
   apply dP
   ·exact rfl
   ·intro hO7
    try simp only [bs] at hO7
    refine ar (zz0 (bA rfl rfl) (zz0 (ab rfl) (ad ?_)))
    exact eD rfl (zz8 2 rfl)
   refine ac ?_
   exact eD rfl (zz8 3 rfl)
  refine ac ?_
  refine au rfl ?_ ?_ <;> intro h8 <;> try simp only [bs] at h8
  ·refine ar (zz0 (aa rfl) (zz0 (nZ rfl rfl bI dT) ?_))
   refine zz0 (jl rfl gy) ?_
   refine zz0 (gV rfl bU ba) (zz0 (zz2 (off := 6) (ft := 3) rfl aj rfl aA) ?_)
   refine zz3 (cs' := [_, _, _, _, _, _, _, _, _]) rfl rfl aA rfl ?_
   refine aD (aY (ac ?_))
   apply ed { { (rowP (b.getD 0 default)).1 with addr := addr, size := eZ (bP (rowP (b.getD 0 default)).1).2.1 } with a := (b.getD 1 default).toNat }
   ·exact rfl
   ·exact Front.nil
   ·exact zz8 9 rfl
   ·exact (by repeat' constructor)
   exact (by unfold pD; (repeat (first | rw [if_pos (by omega)] | rw [if_neg (by omega)])) <;> rfl)
  refine an (ah (zz0 (bA rfl rfl) (zz0 (ab rfl) (ad ?_))))
  apply dP
  ·exact rfl
  ·intro hO9
   try simp only [bs] at hO9
   refine ar (zz0 (bA rfl rfl) (zz0 (ab rfl) (ad ?_)))
   exact eD rfl (zz8 2 rfl)
  refine ac ?_
  refine au rfl ?_ ?_ <;> intro h10 <;> try simp only [bs] at h10
  ·refine dU ([cellE b1 (aM.enc cp) 36]) 14 rfl aP ?_
   refine zz4 0 rfl (aa rfl) ?_
   refine zz4 1 rfl (nZ rfl rfl bI dT) ?_
   refine zz4 2 rfl (jl rfl gy) ?_
   refine zz4 3 rfl (v8 rfl rfl) ?_
   refine zz4 4 rfl (gV rfl bU ba) ?_
   refine zz4 5 rfl (aa rfl) ?_
   refine zz4 6 rfl (nZ rfl rfl bI dT) ?_
   refine zz4 7 rfl (jl rfl gy) ?_
   refine zz4 8 rfl (uN rfl rfl) ?_
   refine zz4 9 rfl (gV rfl bU ba) ?_
   refine zz4 10 rfl (zz2 (off := 6) (ft := 3) rfl aj rfl aA) ?_
   refine dw [11] (fun iq hq => ?_)
   obtain rfl := List.mem_singleton.1 hq
   refine bF rfl ?_
   refine zz3 (cs' := [_, _, _, _, _, _, _, _, _]) rfl rfl aA rfl ?_
   refine bV ?_
   refine zz4 12 rfl (zz2 (off := 7) (ft := 3) rfl aj rfl aA) ?_
   refine dw [13] (fun iq hq => ?_)
   obtain rfl := List.mem_singleton.1 hq
   refine bF rfl ?_
   refine zz3 (cs' := [_, _, _, _, _, _, _, _, _]) rfl rfl aA rfl ?_
   refine bV ?_
   refine iz ?_
   refine aY (ac ?_)
   apply ed { { (rowP (b.getD 0 default)).1 with addr := addr, size := eZ (bP (rowP (b.getD 0 default)).1).2.1 } with a := (b.getD 1 default / 16).toNat, b := (b.getD 1 default % 16).toNat }
   ·exact rfl
   ·exact Front.nil
   ·exact zz8 19 rfl
   ·exact (by repeat' constructor)
   exact (by unfold pD; (repeat (first | rw [if_pos (by omega)] | rw [if_neg (by omega)])) <;> rfl)
  refine cd (aY (ac ?_))
  apply ed { (rowP (b.getD 0 default)).1 with addr := addr, size := eZ (bP (rowP (b.getD 0 default)).1).2.1 }
  ·exact rfl
  ·exact Front.nil
  ·exact zz8 7 rfl
  ·exact (by repeat' constructor)
  exact (by unfold pD; (repeat (first | rw [if_pos (by omega)] | rw [if_neg (by omega)])) <;> rfl)
 skip
 replace hi : k1 = pD (bP (rowP (b.getD 0 default)).1).2.1 { (rowP (b.getD 0 default)).1 with addr := addr, size := eZ (bP (rowP (b.getD 0 default)).1).2.1 } b := hi
 change Tr _ _ [cellE b3 (aM.enc k1) 36, cellE b1 (aM.enc cp) 36] ([] ++ _) _
 refine cZ (ι := Ins) (fun k2 => k2 = mj (bP (rowP (b.getD 0 default)).1).2.1 (pD (bP (rowP (b.getD 0 default)).1).2.1 { (rowP (b.getD 0 default)).1 with addr := addr, size := eZ (bP (rowP (b.getD 0 default)).1).2.1 } b) b (addr + u32 (eZ (bP (rowP (b.getD 0 default)).1).2.1))) (fun _ => Bg.of w) (fun k2 => [cellE b3 (aM.enc k2) 36, cellE b1 (aM.enc cp) 36]) (fun k2 => []) ?_ (fun k2 hi => ?_)
 ·skip
  refine ah (zz0 (aa rfl) (ad (aF (an (ah (zz0 (bA rfl rfl) (zz0 (ab rfl) (ad ?_))))))))
  apply dP
  ·exact rfl
  ·intro hO11
   try simp only [bs] at hO11
   refine ar (zz0 (bA rfl rfl) (zz0 (ab rfl) (ad ?_)))
   exact eD rfl (zz8 2 rfl)
  refine ac ?_
  refine au rfl ?_ ?_ <;> intro h12 <;> try simp only [bs] at h12
  ·refine ar (zz0 (aa rfl) (zz0 (nZ rfl rfl bI dT) ?_))
   refine zz0 (jl rfl gy) ?_
   refine zz0 (iV rfl bU aS) (zz0 (az rfl Tryz.call192 (fun w hw => uq (b.getD 2 default).toUInt32 1 w)) ?_)
   refine zz0 (zz2 (off := 1) (ft := 23) rfl aj rfl ae) ?_
   refine zz3 (cs' := [_, _, _, _, _, _, _, _, _]) rfl rfl ae rfl ?_
   refine aD (aY (ac ?_))
   rw [yH]
   apply ed { k1 with imm := sq (b.getD 2 default) }
   ·exact rfl
   ·exact Front.nil
   ·exact zz8 10 rfl
   ·exact (by repeat' constructor)
   exact (by subst hi; unfold mj; (repeat (first | rw [if_pos (by omega)] | rw [if_neg (by omega)])) <;> rfl)
  refine ah (zz0 (bA rfl rfl) (zz0 (ab rfl) (ad ?_)))
  refine au rfl ?_ ?_ <;> intro h13 <;> try simp only [bs] at h13
  ·refine ar (zz0 (aa rfl) (zz0 (az rfl Tryz.call193 (fun w hw => get_any b V 2 4 w (hw.slF hV) (by omega))) ?_))
   refine zz0 (aa rfl) (zz0 (aN rfl rfl) (zz0 (aN rfl rfl) (zz0 (zz2 (off := 1) (ft := 23) rfl aj rfl ae) ?_)))
   refine zz3 (cs' := [_, _, _, _, _, _, _, _, _]) rfl rfl ae rfl ?_
   refine aD (aY (ac ?_))
   rw [show (rT b 2 4).1 = pG b 2 from yB (k := 2) (by omega)]
   apply ed { k1 with imm := pG b 2 }
   ·exact rfl
   ·exact Front.nil
   ·exact zz8 12 rfl
   ·exact (by repeat' constructor)
   exact (by subst hi; unfold mj; (repeat (first | rw [if_pos (by omega)] | rw [if_neg (by omega)])) <;> rfl)
  refine ah (zz0 (bA rfl rfl) (zz0 (ab rfl) (ad ?_)))
  refine au rfl ?_ ?_ <;> intro h14 <;> try simp only [bs] at h14
  ·refine ar (zz0 (aa rfl) (zz0 (aa rfl) (zz0 (nZ rfl rfl bI dT) ?_)))
   refine zz0 (jl rfl gy) ?_
   refine zz0 (iV rfl bU aS) (zz0 (az rfl Tryz.call192 (fun w hw => uq (b.getD 1 default).toUInt32 1 w)) ?_)
   refine zz0 (gJ rfl rfl) ?_
   refine zz0 (zz2 (off := 1) (ft := 23) rfl aj rfl ae) ?_
   refine zz3 (cs' := [_, _, _, _, _, _, _, _, _]) rfl rfl ae rfl ?_
   refine aD (aY (ac ?_))
   rw [yH]
   apply ed { k1 with imm := (addr + u32 (eZ (bP (rowP (b.getD 0 default)).1).2.1)) + sq (b.getD 1 default) }
   ·exact rfl
   ·exact Front.nil
   ·exact zz8 16 rfl
   ·exact (by repeat' constructor)
   exact (by subst hi; unfold mj; (repeat (first | rw [if_pos (by omega)] | rw [if_neg (by omega)])) <;> rfl)
  refine ah (zz0 (bA rfl rfl) (zz0 (ab rfl) (ad ?_)))
  refine au rfl ?_ ?_ <;> intro h15 <;> try simp only [bs] at h15
  ·refine ah (zz0 (aa rfl) (zz0 (az rfl Tryz.call193 (fun w hw => get_any b V 1 4 w (hw.slF hV) (by omega))) ?_))
   refine zz0 (aa rfl) (zz0 (aN rfl rfl) (zz0 (aN rfl rfl) (zz0 (ab rfl) (zz0 (ab rfl) (ad (ar (zz0 (aa rfl) (zz0 (aa rfl) (zz0 (gJ rfl rfl) ?_)))))))))
   refine zz0 (zz2 (off := 1) (ft := 23) rfl aj rfl ae) ?_
   refine zz3 (cs' := [_, _, _, _, _, _, _, _, _]) rfl rfl ae rfl ?_
   refine aD (aY (ac ?_))
   rw [show (rT b 1 4).1 = pG b 1 from yB (k := 1) (by omega)]
   apply ed { k1 with imm := (addr + u32 (eZ (bP (rowP (b.getD 0 default)).1).2.1)) + pG b 1 }
   ·exact rfl
   ·exact Front.nil
   ·exact zz8 21 rfl
   ·exact (by repeat' constructor)
   exact (by subst hi; unfold mj; (repeat (first | rw [if_pos (by omega)] | rw [if_neg (by omega)])) <;> rfl)
  refine cd (aY (ac ?_))
  refine co k1 Front.nil (zz8 10 rfl) (o := (by subst hi; unfold mj; (repeat (first | rw [if_pos (by omega)] | rw [if_neg (by omega)])) <;> rfl))
 skip
 replace hi : k2 = mj (bP (rowP (b.getD 0 default)).1).2.1 (pD (bP (rowP (b.getD 0 default)).1).2.1 { (rowP (b.getD 0 default)).1 with addr := addr, size := eZ (bP (rowP (b.getD 0 default)).1).2.1 } b) b (addr + u32 (eZ (bP (rowP (b.getD 0 default)).1).2.1)) := hi
 change Tr _ _ [cellE b3 (aM.enc k2) 36, cellE b1 (aM.enc cp) 36] ([] ++ _) _
 refine an (ah (zz0 (zz2 (off := 6) (ft := 3) rfl aj rfl aA) ?_))
 refine zz0 (aH rfl aO) ?_
 refine zz0 (az rfl nN (fun w hw => kX k2.a w)) ?_
 refine zz0 (cP rfl) (zz0 (aa rfl) ?_)
 apply dV
 ·exact (rfl : _ = (5, 118, 123))
 ·exact rfl
 ·intro hF16; have hF16' := hF16
  try simp only [bs] at hF16'
  refine zz6 hF16 (zz2 (off := 7) (ft := 3) rfl aj rfl aA) ?_
  refine zz6 hF16 (aH rfl aO) ?_
  refine zz6 hF16 (az rfl nN (fun w hw => kX k2.b w)) ?_
  refine zz6 hF16 (cP rfl) (zz0 (aU rfl hF16 rfl) ?_)
  refine aD (ac ?_)
  exact aK (Sub.cons rfl (bD 5 rfl))
 ·intro hT16
  refine zz9 hT16 (zz9 hT16 (zz9 hT16 (zz9 hT16 (zz0 (aV rfl hT16 rfl) ?_))))
  refine aD (ac ?_)
  exact aK (Sub.cons rfl (bD 5 rfl))
 refine ad ?_
 refine au rfl ?_ ?_ <;> intro h17 <;> try simp only [bs] at h17
 ·refine ah (zz0 (bK (vs := []) rfl rfl (kF)) ?_)
  refine aB aM rfl rfl ax ?_
  refine zz0 (ab rfl) (ad (aC (ay ?_)))
  refine kG jz rfl rfl aQ ax (fun w' hw => ?_)
  exact ⟨by rw [Ev (by omega) (by assumption) (by assumption) hi, if_pos (by assumption)]; rfl, hw.b0⟩
 refine dz (zz0 (bG rfl aQ ax) ?_)
 refine aB aM rfl rfl ax ?_
 refine zz0 (ab rfl) (ad (aC ?_))
 refine kG jz rfl rfl aQ ax (fun w' hw => ?_)
 exact ⟨by rw [Ev (by omega) (by assumption) (by assumption) hi, if_neg (by simp_all)]; rfl, hw.b0⟩
end Go.Proofs.YtiajjbhcpeadfaaGreat
namespace Go.HL
open Go Go.RowKit Go.Sort
section
variable {α : Type} {E : Enc α} {f : α → Value}
end
def Bg.less (w : World) (V : Value) : Bg := ⟨fun b => if some b = V.ownBlock then none else w.heap[b]?, 0, w.drawn, w.os, w.tape, w.output, 0, Nat.le_refl _⟩
theorem HpOK.startOwn {α : Type} {V : Value} {T : TypeId} {E : Enc α} {l : List α} {w : World} (h : (rowE V T E l).holds w) : HpOK (Bg.less w V) [rowE V T E l] w := by
 have hlt : ∀ b, V.ownBlock = some b → b < w.heap.size := fun b hV => by
  have h' : RowOK V T E l (V.ownBlock.bind (w.heap[·]?)) := h
  rcases h' with ⟨rfl, _⟩ | ⟨g, cap, cur, rfl, ho, _⟩
  ·simp [Value.ownBlock] at hV
  ·simp only [Value.ownBlock, Option.some.injEq] at hV
   subst hV
   exact (Array.getElem?_eq_some_iff.1 ho).1
 have hb : cT [rowE V T E l] = V.ownBlock.toList := by
  cases hV : V.ownBlock <;> simp [cT, rowE, hV]
 refine ⟨rfl, rfl, rfl, Nat.zero_le _, Nat.le_refl _, fun b o e => ?_, fun e he => ?_, ?_, fun b hm => ?_, fun b hm => ?_⟩
 ·simp only [Bg.less] at e
  split at e
  ·cases e
  ·exact e
 ·obtain rfl := List.mem_singleton.1 he; exact h
 ·rw [hb]; cases V.ownBlock <;> simp
 ·rw [hb] at hm; exact hlt b (by simpa using hm)
 ·rw [hb] at hm
  have hm' : V.ownBlock = some b := by simpa using hm
  exact ⟨by simp only [Bg.less]; rw [if_pos hm'.symm], Nat.zero_le _⟩
theorem HpOK.mutOwn {α : Type} {V V' : Value} {T : TypeId} {E : Enc α} {l : List α} {L : List Ent} {w w' : World} (h : HpOK (Bg.less w V) L w') (hm : rowE V' T E l ∈ L) (hb : V'.ownBlock = V.ownBlock) : Mut w w' V ∧ (rowE V' T E l).holds w' := by
 have key : ∀ k, k < w.heap.size → some k ≠ V.ownBlock → w'.heap[k]? = w.heap[k]? := fun k hk hne => by
  have e : (Bg.less w V).blk k = some w.heap[k] := by simp only [Bg.less]; rw [if_neg hne]; simp [hk]
  rw [h.bg k _ e]; simp [hk]
 refine ⟨⟨h.os, h.tape, h.out, ?_, h.dr, key⟩, h.ent _ hm⟩
 rcases Nat.eq_zero_or_pos w.heap.size with h0 | h0
 ·omega
 ·have hk : w.heap.size - 1 < w.heap.size := by omega
  by_cases hne : some (w.heap.size - 1) = V.ownBlock
  ·have : w.heap.size - 1 ∈ cT L := List.mem_filterMap.2 ⟨_, hm, by show V'.ownBlock = _; rw [hb, ← hne]⟩
   have := h.lt _ this
   omega
  ·have h1 := key _ hk hne
   rw [Array.getElem?_eq_getElem hk] at h1
   have := (Array.getElem?_eq_some_iff.1 h1).1
   omega
theorem fw {α : Type} {T : TypeId} {E : Enc α} {l : List α} {V : Value} {P : Program} {f : FuncId} {fn : Func} {c : Code} {N : Nat} {args : List Value} {w : World} {R : Ending → World → Prop} (hr : (rowE V T E l).holds w) (hf : P.funcs[f]? = some fn) (hb : fn.body = some c) (hN : fn.ntmps = N) (hle : Nat.ble args.length N = true)
  (h : Tr N (Bg.less w V) [rowE V T E l] (kb 0 args) (c.wp P (bodyPost P fn R))) (hN0 : Nat.ble N mk0 = true := by rfl) : Calls P f args.toArray w R :=
 calls_of_wp hf hb (h _ w (lC (by rw [hN]; simp) hle hN0) (HpOK.startOwn hr))
section
variable {P : Program} {ops : Array Oper} {Q : Exit → Act → World → Prop} {N : Nat} {F : Bg} {L : List Ent} {M : Fr} {ty : TypeId} {pos : String} {after : Array Edge} {rest : List Oper} {d : Nat}
theorem vf {α : Type} {E : Enc α} {l l' : List α} {V : Value} {T : TypeId} {f : FuncId} {xs : List Operand} {vs : List Value} {ts : Array TypeId} {L1 : List Ent} (hx : kM M xs = some vs)
  (he : ∀ (args : Array Value) (w : World), (callFunc f args).run P w = .ok (.enter f args) w) (hV : Del (rowE V T E l) L L1)
  (hc : ∀ w, HpOK F L w → Calls P f vs.toArray w fun e w' => ∃ V', e = .returned V' ∧ V'.ownBlock = V.ownBlock ∧ Mut w w' V ∧ (rowE V' T E l').holds w') (hd : Nat.ble (d + 1) N = true)
  (K : ∀ V', V'.ownBlock = V.ownBlock → Tr N F (rowE V' T E l' :: L1) ((d, V') :: M) (wpList P ops Q rest)) :
  Tr N F L M (wpList P ops Q (⟨some d, .call { callee := .value (.func f), args := xs.toArray, argTypes := ts }, ty, pos, after, none⟩ :: rest)) := by
 intro a w ha hw
 refine wpList_plain rfl fun K' hK => ?_
 have hr : (execOp a.eval ⟨some d, .call { callee := .value (.func f), args := xs.toArray, argTypes := ts }, ty, pos, after, none⟩).run P w = .ok (.enter f vs.toArray) w := by
  have := ha.evals hx
  simp [execOp, resolve, Deferred.ofValue, Act.eval, invoke, he, this]
 unfold Oper.wp
 rw [hr]
 refine (hc w hw).mono fun e w' ⟨V', h1, h2, h3, h4⟩ => ?_
 subst h1
 refine hK _ _ (K V' h2 _ _ (ha.put (Nat.le_of_ble_eq_true hd)) ?_)
 have hf := hw.front hV
 cases hO : V.ownBlock with
 | none =>
  have hx : Ext w w' := ⟨⟨h3.os, h3.tape, h3.output, h3.size, fun k hk => h3.block k hk (by rw [hO]; simp)⟩, h3.dr⟩
  have hg := hf.grow hx
  have hbl : cT (rowE V' T E l' :: L1) = cT (rowE V T E l :: L1) := by simp only [cT, rowE, h2, List.filterMap_cons, hO]
  refine ⟨hg.os, hg.tape, hg.out, hg.n, hg.dr, hg.bg, fun e he => ?_, by rw [hbl]; exact hg.nodup, by rw [hbl]; exact hg.lt, by rw [hbl]; exact hg.sep⟩
  rcases List.mem_cons.1 he with rfl | he
  ·exact h4
  ·exact hg.ent e (.tail _ he)
 | some b =>
  have e1 : rowE V T E l = ⟨some b, RowOK V T E l⟩ := by simp [rowE, hO]
  have e2 : rowE V' T E l' = ⟨some b, RowOK V' T E l'⟩ := by simp [rowE, h2, hO]
  rw [e1] at hf
  rw [e2] at h4 ⊢
  exact HpOK.set hf (.here _) h3.os h3.tape h3.output h3.size h3.dr (fun k hk hkb => h3.block k hk (by rw [hO]; simpa using hkb)) h4
end
end Go.HL
namespace Go.HL
open Go Go.RowKit
variable {P : Program} {N : Nat} {F : Bg} {L : List Ent} {M : Fr} {dst : Option Tmp} {ty : TypeId} {pos : String} {after : Array Edge} {g : Option (Nat × Bool)}
theorem sO {α : Type} {E : Enc α} {xs : List α} {x : Operand} {lo hi : Option Operand} {lv hv : Option (IntKind × Int)} {t e : TypeId} {V : Value} {T : TypeId} {k : Nat} (hx : opv M x = some V) (hs : rowE V T E xs ∈ L)
  (hlo : lo.map (opv M) = lv.map fun p => some (.int p.1 p.2)) (hhi : hi.map (opv M) = hv.map fun p => some (.int p.1 p.2))
  (ht : P.underlying t = some (.slice e)) (hz : ∀ w, (sizeOf e).run P w = .ok k w) (hk : k = E.k) (h0 : 0 ≤ kw lv) (h1 : kw lv ≤ jU xs.length hv) (h2 : jU xs.length hv ≤ xs.length) :
  QS P N F L M ⟨dst, .slice t x lo hi none, ty, pos, after, g⟩ (HL.Ib V (kw lv).toNat (jU xs.length hv).toNat E.k) :=
 cx fun A w ha hw => by
  obtain ⟨a, c, rfl, hc1, hc2, _⟩ := (hw.row hs).shape
  have e1 : lo.map A.eval = lv.map fun p => Value.int p.1 p.2 := by
   cases lo with
   | none => cases lv <;> simp_all
   | some o =>
    cases lv with
    | none => simp at hlo
    | some p => simp only [Option.map_some, Option.some.injEq] at hlo ⊢; exact ha.eval hlo
  have e2 : hi.map A.eval = hv.map fun p => Value.int p.1 p.2 := by
   cases hi with
   | none => cases hv <;> simp_all
   | some o =>
    cases hv with
    | none => simp at hhi
    | some p => simp only [Option.map_some, Option.some.injEq] at hhi ⊢; exact ha.eval hhi
  have hr := qB (P := P) ht hz w (a := a) (n := xs.length) (c := c) (fun w => sf (P := P) w h0 h1 (by omega) hc1)
  subst hk
  simp only [execOp, ha.eval hx, e1, e2, Option.map_none, Sem.run_bind, hr, Result.andThen_ok, Sem.run_pure]
  rfl
end Go.HL
namespace Go.HL
open Go Go.RowKit
section
variable {P : Program} {ops : Array Oper} {Q : Exit → Act → World → Prop} {N : Nat} {F : Bg} {L : List Ent} {M : Fr} {ty : TypeId} {pos : String} {after : Array Edge} {rest : List Oper} {d : Nat} {dst : Option Tmp} {g : Option (Nat × Bool)}
open Go.Lib (strCells strCells_length run_append_room_string run_append_grow_string)
def bts (s : ByteArray) : List UInt8 := s.data.toList
theorem tn (s : ByteArray) : (bts s).length = s.size := by rw [bts, Array.length_toList]; rfl
theorem ic {α : Type} {E : Enc α} {l : List α} {T : TypeId} {f : FuncId} {xs : List Operand} {vs : List Value} {ts : Array TypeId} (φ : Value → Value) (hx : kM M xs = some vs)
  (he : ∀ (args : Array Value) (w : World), (callFunc f args).run P w = .ok (.enter f args) w)
  (hc : ∀ w, HpOK F L w → Calls P f vs.toArray w fun e w' => ∃ V, e = .returned (φ V) ∧ Ext w w' ∧ js w w' T E l V) (hd : Nat.ble (d + 1) N = true)
  (K : ∀ V, Tr N F (rowE V T E l :: L) ((d, φ V) :: M) (wpList P ops Q rest)) :
  Tr N F L M (wpList P ops Q (⟨some d, .call { callee := .value (.func f), args := xs.toArray, argTypes := ts }, ty, pos, after, none⟩ :: rest)) := by
 intro a w ha hw
 refine wpList_plain rfl fun K' hK => ?_
 have hr : (execOp a.eval ⟨some d, .call { callee := .value (.func f), args := xs.toArray, argTypes := ts }, ty, pos, after, none⟩).run P w = .ok (.enter f vs.toArray) w := by
  have := ha.evals hx
  simp [execOp, resolve, Deferred.ofValue, Act.eval, invoke, he, this]
 unfold Oper.wp
 rw [hr]
 refine (hc w hw).mono fun e w' ⟨V, h1, h2, h3⟩ => ?_
 subst h1
 exact hK _ _ (K V _ _ (ha.put (Nat.le_of_ble_eq_true hd)) (hw.newRow h2 h3))
end
end Go.HL
namespace Go.HL
open Go Go.RowKit
theorem HpOK.freeze {F : Bg} {L : List Ent} {w : World} (h : HpOK F L w) : ∃ F', F.le F' ∧ HpOK F' L w ∧ ∀ b o, b ∉ cT L → w.heap[b]? = some o → F'.blk b = some o := by
 refine ⟨{ F with blk := fun b => if b ∈ cT L then none else w.heap[b]? }, ⟨fun b o e => ?_, Nat.le_refl _, rfl, rfl, rfl, rfl, rfl⟩, ⟨h.os, h.tape, h.out, h.n, h.dr, fun b o e => ?_, h.ent, h.nodup, h.lt, fun b hb => ⟨?_, (h.sep b hb).2⟩⟩, fun b o hb e => ?_⟩
 ·have hn : b ∉ cT L := fun hb => by rw [(h.sep b hb).1] at e; cases e
  show (if b ∈ cT L then none else w.heap[b]?) = some o
  rw [if_neg hn]; exact h.bg b o e
 ·have e' : (if b ∈ cT L then none else w.heap[b]?) = some o := e
  split at e'
  ·cases e'
  ·exact e'
 ·show (if b ∈ cT L then none else w.heap[b]?) = none
  rw [if_pos hb]
 ·show (if b ∈ cT L then none else w.heap[b]?) = some o
  rw [if_neg hb]; exact e
def vt (w w' : World) : Hp := fun b => if b < w.heap.size then none else w'.heap[b]?
theorem DV {F F' : Bg} {L : List Ent} {w w' : World} (h : HpOK F L w) (hb : ∀ b o, b ∉ cT L → w'.heap[b]? = some o → F'.blk b = some o) : Hp.le (vt w w') F'.blk := fun b o e => by
 unfold vt at e; split at e
 ·cases e
 ·exact hb b o (fun hm => by have := h.lt b hm; omega) e
section
variable {P : Program} {ops : Array Oper} {Q : Exit → Act → World → Prop} {N : Nat} {F : Bg} {L : List Ent} {M : Fr} {dst : Option Tmp} {ty : TypeId} {pos : String} {after : Array Edge} {g : Option (Nat × Bool)} {rest : List Oper} {d : Nat}
theorem j6 {α : Type} {V : Value} {T : TypeId} {E : Enc α} {l : List α} {L1 : List Ent} {X : Act → World → Prop} (hV : Del (rowE V T E l) L L1) (K : ∀ F', F.le F' → Sl F'.blk E l V → Tr N F' L1 M X) : Tr N F L M X := by
 intro a w ha hw
 have hf := hw.front hV
 have h1 : HpOK F L1 w := hf.mem (List.sublist_cons_self _ _)
 obtain ⟨F', e1, e2, e3⟩ := h1.freeze
 refine K F' e1 ?_ a w ha e2
 have hr : RowOK V T E l (V.ownBlock.bind (w.heap[·]?)) := hf.ent _ (.head _)
 rcases hr with ⟨rfl, rfl⟩ | ⟨gb, cap, cur, rfl, ho, k1, k2, k3, k4⟩
 ·exact Sl.nil _ _
 ·refine RowOK.sl (T := T) (.inr ⟨gb, cap, cur, rfl, ?_, k1, k2, k3, k4⟩)
  refine e3 gb _ ?_ ho
  have := hf.nodup
  rw [pf (b := gb) rfl, List.nodup_cons] at this
  exact this.1
theorem v7 {ι : Type} {R : Hp → ι → Prop} (φ : ι → Value) {f : FuncId} {xs : List Operand} {vs : List Value} {ts : Array TypeId} (hR : ∀ h h' i, Hp.le h h' → R h i → R h' i) (hx : kM M xs = some vs)
  (he : ∀ (args : Array Value) (w : World), (callFunc f args).run P w = .ok (.enter f args) w)
  (hc : ∀ w, HpOK F L w → Calls P f vs.toArray w fun e w' => ∃ i, e = .returned (φ i) ∧ Ext w w' ∧ R (vt w w') i) (hd : Nat.ble (d + 1) N = true)
  (K : ∀ i F', F.le F' → R F'.blk i → Tr N F' L ((d, φ i) :: M) (wpList P ops Q rest)) :
  Tr N F L M (wpList P ops Q (⟨some d, .call { callee := .value (.func f), args := xs.toArray, argTypes := ts }, ty, pos, after, none⟩ :: rest)) := by
 intro a w ha hw
 refine wpList_plain rfl fun K' hK => ?_
 have hr : (execOp a.eval ⟨some d, .call { callee := .value (.func f), args := xs.toArray, argTypes := ts }, ty, pos, after, none⟩).run P w = .ok (.enter f vs.toArray) w := by
  have := ha.evals hx
  simp [execOp, resolve, Deferred.ofValue, Act.eval, invoke, he, this]
 unfold Oper.wp
 rw [hr]
 refine (hc w hw).mono fun e w' ⟨i, h1, h2, h3⟩ => ?_
 subst h1
 obtain ⟨F', e1, e2, e3⟩ := (hw.grow h2).freeze
 exact hK _ _ (K i F' e1 (hR _ _ _ (DV hw e3) h3) _ _ (ha.put (Nat.le_of_ble_eq_true hd)) e2)
structure NewEnts (w w' : World) (Ls : List Ent) : Prop where
 ent : ∀ e ∈ Ls, e.holds w'
 nodup : (cT Ls).Nodup
 lt : ∀ b ∈ cT Ls, b < w'.heap.size
 ge : ∀ b ∈ cT Ls, w.heap.size ≤ b
theorem HpOK.newEnts {w w' : World} {Ls : List Ent} (h : HpOK F L w) (hx : Ext w w') (hn : NewEnts w w' Ls) : HpOK F (Ls ++ L) w' := by
 have hg := h.grow hx
 have hbl : cT (Ls ++ L) = cT Ls ++ cT L := List.filterMap_append
 refine ⟨hg.os, hg.tape, hg.out, hg.n, hg.dr, hg.bg, fun e he => ?_, ?_, fun b hb => ?_, fun b hb => ?_⟩
 ·rcases List.mem_append.1 he with he | he
  ·exact hn.ent e he
  ·exact hg.ent e he
 ·rw [hbl, List.nodup_append]
  exact ⟨hn.nodup, hg.nodup, fun a ha b hb => by have := hn.ge a ha; have := h.lt b hb; omega⟩
 ·rw [hbl] at hb
  rcases List.mem_append.1 hb with hb | hb
  ·exact hn.lt b hb
  ·exact hg.lt b hb
 ·rw [hbl] at hb
  rcases List.mem_append.1 hb with hb | hb
  ·have hge := hn.ge b hb
   refine ⟨?_, Nat.le_trans (Nat.le_trans F.lo_le h.n) hge⟩
   cases hF : F.blk b with
   | none => rfl
   | some o =>
    have := h.bg _ _ hF
    have := (Array.getElem?_eq_some_iff.1 this).1
    omega
  ·exact hg.sep b hb
theorem HpOK.ents {w w' : World} {Ls : List Ent} (h : HpOK F L w') (hF : (Bg.of w).le F) (hs : Pick L Ls) : NewEnts w w' Ls := by
 have h' := hs.heap h
 refine ⟨h'.ent, h'.nodup, h'.lt, fun b hb => ?_⟩
 have := (h'.sep b hb).2
 rw [hF.lo] at this; exact this
theorem iT {ι : Type} (φ : ι → Value) (Ls : ι → List Ent) {ok : ι → Prop} {f : FuncId} {xs : List Operand} {vs : List Value} {ts : Array TypeId} (hx : kM M xs = some vs)
  (he : ∀ (args : Array Value) (w : World), (callFunc f args).run P w = .ok (.enter f args) w)
  (hc : ∀ w, HpOK F L w → Calls P f vs.toArray w fun e w' => ∃ i, e = .returned (φ i) ∧ Ext w w' ∧ NewEnts w w' (Ls i) ∧ ok i) (hd : Nat.ble (d + 1) N = true)
  (K : ∀ i, ok i → Tr N F (Ls i ++ L) ((d, φ i) :: M) (wpList P ops Q rest)) :
  Tr N F L M (wpList P ops Q (⟨some d, .call { callee := .value (.func f), args := xs.toArray, argTypes := ts }, ty, pos, after, none⟩ :: rest)) := by
 intro a w ha hw
 refine wpList_plain rfl fun K' hK => ?_
 have hr : (execOp a.eval ⟨some d, .call { callee := .value (.func f), args := xs.toArray, argTypes := ts }, ty, pos, after, none⟩).run P w = .ok (.enter f vs.toArray) w := by
  have := ha.evals hx
  simp [execOp, resolve, Deferred.ofValue, Act.eval, invoke, he, this]
 unfold Oper.wp
 rw [hr]
 refine (hc w hw).mono fun e w' ⟨i, h1, h2, h3, h4⟩ => ?_
 subst h1
 exact hK _ _ (K i h4 _ _ (ha.put (Nat.le_of_ble_eq_true hd)) (hw.newEnts h2 h3))
theorem rM (z : Array Value) (k : Nat) (hz : z.size = 1) : (madeCells z k).toList = List.replicate k (z[0]!) := by
 apply List.ext_getElem?
 intro j
 by_cases hj : j < k
 ·simp [madeCells, hj, hz, Nat.mod_one]
 ·simp [madeCells, hj]
theorem lD {α : Type} (E : Enc α) (x : α) (v : Value) (hv : E.enc x = [v]) : ∀ n, (List.replicate n x).flatMap E.enc = List.replicate n v
 | 0 => rfl
 | n + 1 => by simp only [List.replicate_succ, List.flatMap_cons, hv, lD E x v hv n]; rfl
theorem jg {α : Type} {E : Enc α} (x : α) {x0 y : Operand} {t e : TypeId} {z v : Value} {n bytes : Nat} {k k' : IntKind} (hx : opv M x0 = some (.int k n)) (hy : opv M y = some (.int k' n)) (ht : P.underlying t = some (.slice e))
  (hinfo : (P.info? e).map (fun i => (i.zero, i.size, i.bytes)) = some (some z, 1, bytes)) (hz : z.cells = #[v]) (hE : E.enc x = [v]) (hk : E.k = 1) (hb : n ≤ 16777216 ∧ n * bytes ≤ 281474976710656) (hd : Nat.ble (d + 1) N = true)
  (K : ∀ b, Tr N F (rowE (.slice (some ⟨b, 0, none⟩) (List.replicate n x).length n) e E (List.replicate n x) :: L) ((d, .slice (some ⟨b, 0, none⟩) (List.replicate n x).length n) :: M) (wpList P ops Q rest)) :
  Tr N F L M (wpList P ops Q (⟨some d, .makeSlice t x0 y, ty, pos, after, none⟩ :: rest)) := by
 intro a w ha hw
 refine wpList_plain rfl fun K' hK => ?_
 obtain ⟨i, hi, hz', hsize, hby⟩ := sA hinfo
 have hb2 : (i.bytes : Int) * (n : Int) ≤ 281474976710656 := by
  rw [hby, ← Int.natCast_mul, Nat.mul_comm]
  have := hb.2; omega
 have hr := run_make (P := P) w t e i z ht hi hz' k k' (n : Int) (n : Int) (by omega) (by omega) hb2 (by omega)
 have he : (execOp a.eval ⟨some d, .makeSlice t x0 y, ty, pos, after, none⟩).run P w = .ok (.value (.slice (some ⟨w.heap.size, 0, none⟩) n n)) (w.alloc (.cells (madeCells z.cells (n * i.size)) e)) := by
  simp only [execOp, ha.eval hx, ha.eval hy, Sem.run_bind, hr, Result.andThen_ok, Sem.run_pure, Int.toNat_natCast]
 unfold Oper.wp
 rw [he]
 have hl : (List.replicate n x).length = n := List.length_replicate
 have := K w.heap.size
 rw [hl] at this
 refine hK _ _ (this _ _ (ha.put (Nat.le_of_ble_eq_true hd)) ?_)
 refine hw.alloc _ _ ?_
 have hm : (madeCells z.cells (n * i.size)).toList = List.replicate n v := by
  rw [hz, rM _ _ rfl, hsize, Nat.mul_one]; rfl
 have hs : (madeCells z.cells (n * i.size)).size = n := by rw [← Array.length_toList, hm]; simp
 have := ln (E := E) (l := List.replicate n x) (T := e) (b := w.heap.size) (cap := n) (cells := madeCells z.cells (n * i.size)) (by rw [hl]; exact Nat.le_refl _) (by unfold maxLen; omega) (by rw [hk, hs]; omega)
  (by rw [hm, hl, hk, Nat.mul_one, lD E x v hE, List.take_of_length_le (by simp)])
 rwa [hl] at this
open Go.Lib in
theorem zd {x : Operand} {s t e : TypeId} {u : TypeDesc} {b : ByteArray} (hx : opv M x = some (.string b)) (hs : P.underlying s = some u) (ht : P.underlying t = some (.slice e)) (he : P.underlying e = some (.int .u8)) (hb : b.size ≤ maxLen) (hd : Nat.ble (d + 1) N = true)
  (K : ∀ V F', F.le F' → Sl F'.blk dZ (bts b) V → Tr N F' L ((d, V) :: M) (wpList P ops Q rest)) : Tr N F L M (wpList P ops Q (⟨some d, .convert s t x, ty, pos, after, none⟩ :: rest)) := by
 intro a w ha hw
 refine wpList_plain rfl fun K' hK => ?_
 have hr := Go.Lib.run_convert_string_bytes (P := P) w s t e b hs ht he
 have hge := grownCap_ge w b.size 0 e
 have hx2 : Ext w (bytesWorld w e b) := ⟨⟨rfl, rfl, rfl, by rw [bytesWorld_size]; omega, fun k hk => bytesWorld_at_old w e b k hk⟩, by simp [bytesWorld, World.freeze]⟩
 obtain ⟨F', e1, e2, e3⟩ := (hw.grow hx2).freeze
 have hnew := e3 w.heap.size _ (fun hm => by have := hw.lt _ hm; omega) (bytesWorld_at_new w e b)
 unfold Oper.wp
 simp only [execOp, ha.eval hx, Sem.run_bind, hr, Result.andThen_ok, Sem.run_pure, Oper.upon]
 refine hK _ _ (K _ F' e1 ?_ _ _ (ha.put (Nat.le_of_ble_eq_true hd)) e2)
 have hl := tn b
 refine ⟨⟨some ⟨w.heap.size, 0, none⟩, grownCap w b.size 0 e, by rw [hl], by rw [hl]; exact hge, grownCap_le_maxLen w _ 0 e hb, fun _ => rfl⟩, fun i x hi => ⟨_, _, _, hnew, fun j v hj => ?_⟩⟩
 have hi' : i < b.size := by rw [← hl]; exact (List.getElem?_eq_some_iff.1 hi).1
 have hj' : j = 0 := by have := (List.getElem?_eq_some_iff.1 hj).1; simp [dZ] at this; exact this
 subst hj'
 simp only [dZ, List.getElem?_cons_zero, Option.some.injEq] at hj
 subst hj
 have hi2 : b.data[i]? = some x := by
  rw [← Array.getElem?_toList]; exact hi
 have hi3 : i < b.data.size := hi'
 simp [bytesCells, ofs, dZ, Array.getElem?_append, hi2, hi3]
 intro h; omega
def CellsIn (h : Hp) (b : Nat) (vs : List Value) : Prop := ∃ (cs : Array Value) (T : TypeId) (fz : Nat × Nat), h b = some (.cells cs T fz) ∧ ∀ (j : Nat) (v : Value), vs[j]? = some v → cs[j]? = some v
theorem CellsIn.mono {h k : Hp} {b : Nat} {vs : List Value} (c : CellsIn h b vs) (hk : Hp.le h k) : CellsIn k b vs := let ⟨cs, T, fz, h1, h2⟩ := c; ⟨cs, T, fz, hk _ _ h1, h2⟩
theorem cellE.cellsIn {b : Nat} {cs : List Value} {T : TypeId} {w w' : World} (h : (cellE b cs T).holds w) (hx : Ext w w') : CellsIn (HL.hp w') b cs :=
 CellsIn.mono (h := HL.hp w) ⟨cs.toArray, T, (0, 0), h, fun j v hv => by simpa using hv⟩ hx.hp
theorem CellsIn.cell {h : Hp} {b : Nat} {vs : List Value} (c : CellsIn h b vs) {j : Nat} {v : Value} (hv : vs[j]? = some v) : Cell h b j v := let ⟨cs, T, fz, h1, h2⟩ := c; ⟨cs, T, fz, h1, h2 j v hv⟩
theorem CL {x : Operand} {t : TypeId} {b k : Nat} {vs : List Value} (hx : opv M x = some (.pointer (some ⟨b, 0, none⟩))) (hc : CellsIn F.blk b vs) (hagg : ∀ w, (isAgg t).run P w = .ok true w) (hz : ∀ w, (sizeOf t).run P w = .ok k w) (hl : vs.length = k) :
  QS P N F L M ⟨dst, .load t x, ty, pos, after, g⟩ (.agg vs.toArray) :=
 oY hx hagg hz hl fun w hw j v hj => by
  rw [Nat.zero_add]; exact ((hc.mono hw.bg).cell hj).at
theorem eQ {x : Operand} {t : TypeId} {b o : Nat} {v : Value} {vs : List Value} (hx : opv M x = some (.pointer (some ⟨b, o, none⟩))) (hc : CellsIn F.blk b vs) (hagg : ∀ w, (isAgg t).run P w = .ok false w) (hv : vs[o]? = some v) :
  QS P N F L M ⟨dst, .load t x, ty, pos, after, g⟩ v :=
 nh hx hagg fun w hw => ((hc.mono hw.bg).cell hv).at
theorem lu {x : Operand} {t : TypeId} {b o : Nat} {v : Value} {vs : List Value} (hx : opv M x = some (.pointer (some ⟨b, o, none⟩))) (hagg : ∀ w, (isAgg t).run P w = .ok false w) (hc : CellsIn F.blk b vs := by assumption) (hv : vs[o]? = some v := by rfl) : QS P N F L M ⟨dst, .load t x, ty, pos, after, g⟩ v := eQ hx hc hagg hv
theorem vd {α : Type} {E : Enc α} {xs : List α} {x hi mx : Operand} {t e T : TypeId} {V : Value} {k : Nat} {n : Int} {L1 : List Ent} (hx : opv M x = some V) (hV : Del (rowE V T E xs) L L1) (hhi : opv M hi = some (.int .i64 n)) (hmx : opv M mx = some (.int .i64 n)) (hn : n = (xs.length : Nat))
  (ht : P.underlying t = some (.slice e)) (hz : ∀ w, (sizeOf e).run P w = .ok k w) (hd : Nat.ble (d + 1) N = true)
  (K : ∀ V', Tr N F (rowE V' T E xs :: L1) ((d, V') :: M) (wpList P ops Q rest)) : Tr N F L M (wpList P ops Q (⟨some d, .slice t x none (some hi) (some mx), ty, pos, after, none⟩ :: rest)) := by
 subst hn; exact xm hx hV hhi hmx ht hz hd K
theorem Pick.refl : ∀ L : List Ent, Pick L L
 | [] => .nil _
 | e :: L => .cons (.here _) (Pick.refl L)
theorem du {α : Type} {V : Value} {T : TypeId} {E : Enc α} {l : List α} {X : Act → World → Prop} (hm : rowE V T E l ∈ L) (K : ∀ a c, V = .slice a l.length c → Tr N F L M X) : Tr N F L M X := by
 intro a w ha hw
 have hr : RowOK V T E l (V.ownBlock.bind (w.heap[·]?)) := hw.ent _ hm
 rcases hr with ⟨h1, h2⟩ | ⟨gb, cap, cur, h1, _⟩
 ·exact K none 0 (by rw [h1, h2]; rfl) a w ha hw
 ·exact K _ _ h1 a w ha hw
theorem iC {α : Type} {V : Value} {T : TypeId} {E : Enc α} {l : List α} {X : Act → World → Prop} (K : ∀ a c, V = .slice a l.length c → Tr N F L M X) (hm : rowE V T E l ∈ L := by repeat constructor) : Tr N F L M X := du hm K
end
end Go.HL
namespace Go.HL
open Go Go.RowKit Go.Sort
open Go.Shelf (Ren)
open Go.Proofs (SlLaysF0.n6 CmpLays ltOf)
theorem Ext.grown {w w' : World} (h : Ext w w') : ∃ q os', w' = grow (w.drewN q) os' := by
 refine ⟨w'.drawn - w.drawn, w'.heap.extract w.heap.size w'.heap.size, ?_⟩
 obtain ⟨⟨h1, h2, h3, h4, h5⟩, h6⟩ := h
 obtain ⟨hp', t', d', o', u'⟩ := w'
 simp only at h1 h2 h3 h4 h5 h6 ⊢
 subst h1; subst h2; subst h3
 simp only [grow, World.drewN, World.mk.injEq, true_and, and_true]
 refine ⟨?_, by omega⟩
 apply Array.ext_getElem?
 intro k
 rw [Array.getElem?_append]
 by_cases hk : k < w.heap.size
 ·rw [if_pos hk, h5 k hk]
 ·rw [if_neg hk]
  simp only [Array.getElem?_extract]
  by_cases hk2 : k < hp'.size
  ·rw [if_pos (by omega), show w.heap.size + (k - w.heap.size) = k by omega]
  ·rw [if_neg (by omega), Array.getElem?_eq_none (by omega)]
theorem q8 {α : Type} [Inhabited α] (E : Enc α) (d : Array α) : (flatK E.enc E.k d).toList = d.toList.flatMap E.enc := by
  apply List.ext_getElem?
  intro t
  by_cases ht : t < d.size * E.k
  · have k0 : 0 < E.k := by rcases Nat.eq_zero_or_pos E.k with h | h
                            · rw [h] at ht; simp at ht
                            · exact h
    have hi : t / E.k < d.size := by rw [Nat.div_lt_iff_lt_mul k0]; exact ht
    have hj : t % E.k < E.k := Nat.mod_lt _ k0
    have hl : t % E.k < (E.enc d[t / E.k]!).length := by rw [E.len]; exact hj
    have h1 := get_flatK E.enc E.k d t ht
    have h2 := l3 E d.toList (t / E.k) (d[t / E.k]!) (by rw [getElem!_pos d _ hi]; simp [hi]) (t % E.k) _ (List.getElem?_eq_getElem hl)
    rw [show t / E.k * E.k + t % E.k = t from Nat.div_add_mod' t E.k] at h2
    rw [h2, Array.getElem?_toList, Array.getElem?_eq_getElem (by rw [size_flatK]; exact ht)]
    rw [getElem!_pos (flatK E.enc E.k d) t (by rw [size_flatK]; exact ht), getElem!_pos (E.enc d[t / E.k]!) _ hl] at h1
    rw [h1]
  · rw [List.getElem?_eq_none (by simp; omega), List.getElem?_eq_none (by rw [dA]; simp; omega)]
theorem zW {α : Type} [Inhabited α] {E : Enc α} {l : List α} {w : World} {g : Nat} {cur : Array Value} {T : TypeId} (ho : w.heap[g]? = some (.cells cur T (0, 0))) (hs : l.length * E.k ≤ cur.size) (hc : cur.toList.take (l.length * E.k) = l.flatMap E.enc) :
  HoldsK E.enc E.k w g 0 l.toArray := by
 intro j hj
 rw [size_flatK] at hj
 have hj' : j < l.length * E.k := by simpa using hj
 have e : (flatK E.enc E.k l.toArray).toList = l.flatMap E.enc := q8 E l.toArray
 refine ⟨?_, by simp [World.frozen?, ho]⟩
 rw [getElem!_pos (flatK E.enc E.k l.toArray) j (by rw [size_flatK]; exact hj)]
 have h2 : (flatK E.enc E.k l.toArray)[j]? = cur[j]? := by
  rw [← Array.getElem?_toList, e, ← hc, List.getElem?_take, if_pos hj', Array.getElem?_toList]
 rw [Array.getElem?_eq_getElem (by rw [size_flatK]; exact hj)] at h2
 simp [World.cell?, ho, ← h2]
theorem B1 {w : World} {g : Nat} {cur : Array Value} {T : TypeId} (ho : w.heap[g]? = some (.cells cur T (0, 0))) (F : Array Value) (os : Array Obj) (m : Nat) :
  (grow (putRow id (Sort.ahead w m) g 0 F) os).heap[g]? = some (.cells (putCells id 0 F cur) T (0, 0)) := by
 have hg : g < w.heap.size := (Array.getElem?_eq_some_iff.1 ho).1
 rw [heap_grow_old _ _ (by simpa using hg)]
 simp [putRow, mapBlock, Sort.ahead, Array.getElem?_modify, ho, onCells]
theorem uU (F cur : Array Value) (h : F.size ≤ cur.size) : (putCells id 0 F cur).toList.take F.size = F.toList := by
 apply List.ext_getElem?
 intro j
 rw [List.getElem?_take, Array.getElem?_toList, Array.getElem?_toList]
 by_cases hj : j < F.size
 ·rw [if_pos hj]
  simp [putCells, Array.getElem?_mapIdx, hj, Array.getElem?_eq_getElem (show j < cur.size by omega)]
 ·rw [if_neg hj, Array.getElem?_eq_none (by omega)]
theorem vp {w : World} {V : Value} {g : Nat} {cur F : Array Value} {T : TypeId} (hV : V.ownBlock = some g) (ho : w.heap[g]? = some (.cells cur T (0, 0))) (os : Array Obj) (m : Nat) : Mut w (grow (putRow id (Sort.ahead w m) g 0 F) os) V := by
 refine ⟨rfl, rfl, rfl, by simp [putRow, mapBlock, Sort.ahead], by simp [grow, putRow, mapBlock, Sort.ahead], fun k hk hne => ?_⟩
 rw [heap_grow_old _ _ (by simpa [putRow, mapBlock, Sort.ahead] using hk)]
 have : g ≠ k := by rintro rfl; exact hne hV.symm
 simp [putRow, mapBlock, Sort.ahead, Array.getElem?_modify, this]
def lT {α : Type} [Inhabited α] (lt : α → α → Bool) (l : List α) : List α := (pdq lt l.toArray 0 l.length (Lib.bitLen l.length) true true).toList
theorem ny {α : Type} [Inhabited α] {lt : α → α → Bool} (h : SWO lt) (l : List α) : (lT lt l).Perm l := by
 have hs := (pdq_sorts lt h l.toArray 0 l.length (Lib.bitLen l.length) true true (Nat.zero_le _) (by simp) (Or.inl rfl)).1
 obtain ⟨h1, _, h3⟩ := hs
 have hsz : (pdq lt l.toArray 0 l.length (Lib.bitLen l.length) true true).size = l.length := by simpa using h1
 unfold lT
 generalize hd : pdq lt l.toArray 0 l.length (Lib.bitLen l.length) true true = d at h3 hsz
 have e1 : d.extract 0 l.length = d := by rw [← hsz]; simp
 have e2 : l.toArray.extract 0 l.length = l.toArray := by simp
 rw [e1, e2] at h3
 simpa using h3
theorem wt {α : Type} [Inhabited α] {lt : α → α → Bool} (h : SWO lt) (l : List α) : (lT lt l).Pairwise fun x y => lt y x = false := by
 have hs := (pdq_sorts lt h l.toArray 0 l.length (Lib.bitLen l.length) true true (Nat.zero_le _) (by simp) (Or.inl rfl))
 have hsz : (pdq lt l.toArray 0 l.length (Lib.bitLen l.length) true true).size = l.length := by simpa using hs.1.1
 rw [List.pairwise_iff_getElem]
 intro i j hi hj hij
 unfold lT at hi hj ⊢
 simp only [Array.length_toList] at hi hj
 have := hs.2 i j (Nat.zero_le _) hij (by omega)
 rw [getElem!_pos (pdq lt l.toArray 0 l.length (Lib.bitLen l.length) true true) j hj, getElem!_pos (pdq lt l.toArray 0 l.length (Lib.bitLen l.length) true true) i hi] at this
 simpa using this
theorem kW {α : Type} [Inhabited α] {lt : α → α → Bool} (h : SWO lt) (l : List α) : (lT lt l).length = l.length := (ny h l).length_eq
theorem qA {P : Program} {ρ : Ren} (L : SlLaysF0.n6 P ρ) {α : Type} [Inhabited α] (E : Enc α) (T : TypeId) (aE : ∀ w, (isAgg (ρ.t 24)).run P w = .ok true w) (zE : ∀ w, (Go.sizeOf (ρ.t 24)).run P w = .ok E.k w) (cf : α → α → Int) (hO : SWO (ltOf cf))
  (g : Nat) (cb : List Value) (l : List α) (V : Value) (w : World) (eg : ∀ args w, (callFunc g args).run P w = .ok (.enter g args) w) (hr : (rowE V T E l).holds w) (hl : l.length < 2305843009213693952)
  (hcmp : ∀ x y w', Mut w w' V → Calls P g ([Value.agg (E.enc x).toArray, .agg (E.enc y).toArray] ++ cb).toArray w' fun e w'' => e = .returned (.int .i64 (cf x y)) ∧ Ext w' w'')
  (hnil : Calls P (ρ.f 6) #[.slice none 0 0, .func (.func g) #[] cb.toArray] w fun e w' => e = .returned (.tuple #[]) ∧ Ext w w') :
  Calls P (ρ.f 6) #[V, .func (.func g) #[] cb.toArray] w fun e w' => e = .returned (.tuple #[]) ∧ Mut w w' V ∧ (rowE V T E (lT (ltOf cf) l)).holds w' := by
 have hr' : RowOK V T E l (V.ownBlock.bind (w.heap[·]?)) := hr
 rcases hr' with ⟨rfl, rfl⟩ | ⟨b, cap, cur, rfl, ho, hc1, hc2, hc3, hc4⟩
 ·refine hnil.mono fun e w' ⟨h1, h2⟩ => ⟨h1, ⟨h2.below.os, h2.below.tape, h2.below.output, h2.below.size, h2.dr, fun k hk _ => h2.below.block k hk⟩, ?_⟩
  refine .inl ⟨rfl, ?_⟩
  have := kW hO ([] : List α)
  exact List.length_eq_zero_iff.1 this
 ·have ho' : w.heap[b]? = some (.cells cur T (0, 0)) := ho
  have hb : b < w.heap.size := (Array.getElem?_eq_some_iff.1 ho').1
  have hsz : l.length * E.k ≤ cur.size := Nat.le_trans (Nat.mul_le_mul_right _ hc1) hc3
  have hH := zW (E := E) (l := l) ho' hsz hc4
  have hm := Go.Proofs.AnyQ.slices_SortFunc_eq L E.k aE zE E.enc E.len E.one cf hO g cb.toArray b 0 cap l.toArray w eg
   (fun m os dk hdk x y => by
    have e : (#[Value.agg (E.enc x).toArray, .agg (E.enc y).toArray] ++ cb.toArray) = ([Value.agg (E.enc x).toArray, .agg (E.enc y).toArray] ++ cb).toArray := by simp
    rw [e]
    exact (hcmp x y _ (vp (V := .slice (some ⟨b, 0, none⟩) l.length cap) rfl ho' os m)).mono fun e w' ⟨h1, h2⟩ => ⟨h1, h2.grown⟩) hH hb (by simp; omega)
  have e0 : (l.toArray.size : Nat) = l.length := by simp
  rw [e0] at hm
  refine hm.mono fun e w' ⟨h1, m, os, h2⟩ => ⟨h1, ?_⟩
  subst h2
  refine ⟨vp rfl ho' os m, ?_⟩
  have hlen := kW hO l
  have hF : (flatK E.enc E.k (pdq (ltOf cf) l.toArray 0 l.length (Lib.bitLen l.length) true true)).toList = (lT (ltOf cf) l).flatMap E.enc := q8 E _
  have hFs : (flatK E.enc E.k (pdq (ltOf cf) l.toArray 0 l.length (Lib.bitLen l.length) true true)).size = l.length * E.k := by
   rw [← Array.length_toList, hF, dA, hlen]
  refine .inr ⟨b, cap, _, by rw [hlen], B1 ho' _ os m, by rw [hlen]; exact hc1, hc2, by simpa [putCells] using hc3, ?_⟩
  rw [hlen, ← hF, ← hFs]
  exact uU _ _ (by rw [hFs]; exact hsz)
end Go.HL
namespace Go.HL
open Go Go.Sort
open Go.Proofs (ltOf)
theorem kO {α : Type} [Inhabited α] {p : α → Bool} {l : List α} {k : Nat} (h : k < l.length) (hp : p (l.getD k default) = true) : (l.take (k + 1)).filter p = (l.take k).filter p ++ [l.getD k default] := by
 rw [dB h, List.filter_append]; simp only [List.filter_cons, hp, if_true, List.filter_nil]
theorem kP {α : Type} [Inhabited α] {p : α → Bool} {l : List α} {k : Nat} (h : k < l.length) (hp : p (l.getD k default) = false) : (l.take (k + 1)).filter p = (l.take k).filter p := by
 rw [dB h, List.filter_append]; simp only [List.filter_cons, hp, Bool.false_eq_true, if_false, List.filter_nil, List.append_nil]
end Go.HL
namespace Go.HL
open Go
structure SecV where
 name : ByteArray
 addr : UInt32
 data : List UInt8
 dp : Option Addr
 dc : Nat
 wr : Bool
 ex : Bool
 deriving Inhabited
def dJ : Enc SecV := ⟨5, fun s => [.string s.name, .int .u32 s.addr.toNat, .slice s.dp s.data.length s.dc, .bool s.wr, .bool s.ex], fun _ => rfl,
 fun x v h => by simp at h; rcases h with h | h | h | h | h <;> subst h <;> rfl⟩
def DataIn (h : Hp) (l : List SecV) : Prop := ∀ s ∈ l, Sl h dZ s.data (.slice s.dp s.data.length s.dc)
theorem DataIn.mono {h h' : Hp} {l : List SecV} (d : DataIn h l) (hh : Hp.le h h') : DataIn h' l := fun s hs => (d s hs).mono hh
def SecB (l : List SecV) : Prop := l.length ≤ 1000 ∧ ∀ s ∈ l, s.data.length ≤ 200000
theorem SecB.at {l : List SecV} (h : SecB l) {k : Nat} (hk : k < l.length) : (l.getD k default).data.length ≤ 200000 := h.2 _ (df hk)
def GZ (c : UInt8) : Bool := decide (c < 97) || decide (122 < c)
def GH (c : UInt8) : Bool := decide (c < 65) || decide (90 < c)
def Hb (c : UInt8) : Bool := decide (c < 48) || decide (57 < c)
def u9 (c : UInt8) : Bool := (((GZ c && GH c) && Hb c) && decide (c ≠ 95)) && decide (c ≠ 46)
def vu (s : ByteArray) : Bool := !(bts s).any u9 && (decide (1 ≤ (s.size : Int)) && decide ((s.size : Int) ≤ 32))
def qb (s : SecV) : Int := min ((s.addr.toNat : Int) + s.data.length) 4294967295
def jE (s : SecV) : Rng := ⟨s.addr, u32 (qb s)⟩
theorem Ep (s : SecV) : 0 ≤ qb s ∧ qb s ≤ 4294967295 := by unfold qb; omega
theorem Fg {n : Int} (h : 0 ≤ n ∧ n ≤ 4294967295) : ((u32 n).toNat : Int) = n := by
 unfold u32; rw [UInt32.toNat_ofNat']; omega
theorem xQ (s : SecV) : ((jE s).hi.toNat : Int) = qb s := Fg (Ep s)
def inS (a : UInt32) (s : SecV) : Bool := inR a (jE s)
theorem qV {a : UInt32} {s : SecV} : inS a s = true ↔ s.addr.toNat ≤ a.toNat ∧ (a.toNat : Int) < qb s := by
 have h := xQ s
 simp only [inS, inR, Bool.and_eq_true, decide_eq_true_eq, UInt32.le_iff_toNat_le, UInt32.lt_iff_toNat_lt]
 have : (jE s).lo = s.addr := rfl
 rw [this]; omega
def dS (l : List SecV) (a : UInt32) : Int := dY (inS a) 0 l
theorem jH {α : Type} (p : α → Bool) : ∀ (l : List α) (k : Nat), -1 ≤ dY p k l ∧ dY p k l < (k : Int) + l.length
 | [], k => by simp [dY]; omega
 | x :: l, k => by
  unfold dY
  split
  ·simp; omega
  ·have := jH p l (k + 1); simp; omega
theorem m3 {l : List SecV} {a : UInt32} : -1 ≤ dS l a ∧ dS l a < l.length := by
 have := jH (inS a) l 0; unfold dS; omega
theorem wO {α : Type} [Inhabited α] (p : α → Bool) : ∀ (l : List α) (k : Nat), 0 ≤ dY p k l → (k : Int) ≤ dY p k l ∧ p (l.getD (dY p k l - k).toNat default) = true
 | [], k, h => by simp [dY] at h
 | x :: l, k, h => by
  unfold dY at h ⊢
  split
  ·rename_i hx; simp [hx]
  ·rename_i hx
   rw [if_neg hx] at h
   obtain ⟨h1, h2⟩ := wO p l (k + 1) h
   refine ⟨by omega, ?_⟩
   rw [show (dY p (k + 1) l - (k : Int)).toNat = (dY p (k + 1) l - ((k + 1 : Nat) : Int)).toNat + 1 by omega, List.getD_cons_succ]
   exact h2
theorem oM {l : List SecV} {a : UInt32} (h : 0 ≤ dS l a) : inS a (l.getD (dS l a).toNat default) = true := by
 have := (wO (inS a) l 0 h).2
 rwa [Int.natCast_zero, Int.sub_zero] at this
def eP (l : List SecV) (a : UInt32) (n : Int) : Int × Int × Int :=
 if dS l a < 0 then (0, 0, 11) else if qb (l.getD (dS l a).toNat default) - a.toNat < n then (0, 0, 11) else (dS l a, (a.toNat : Int) - (l.getD (dS l a).toNat default).addr.toNat, 0)
theorem DI {l : List SecV} {a : UInt32} {n : Int} (h : dS l a < 0) : eP l a n = (0, 0, 11) := by unfold eP; rw [if_pos h]
theorem DG {l : List SecV} {a : UInt32} {n : Int} (h : ¬ dS l a < 0) (h2 : qb (l.getD (dS l a).toNat default) - a.toNat < n) : eP l a n = (0, 0, 11) := by unfold eP; rw [if_neg h, if_pos h2]
theorem DF {l : List SecV} {a : UInt32} {n : Int} (h : ¬ dS l a < 0) (h2 : ¬ qb (l.getD (dS l a).toNat default) - a.toNat < n) : eP l a n = (dS l a, (a.toNat : Int) - (l.getD (dS l a).toNat default).addr.toNat, 0) := by unfold eP; rw [if_neg h, if_neg h2]
theorem tP {l : List SecV} {a : UInt32} (h : ¬ dS l a < 0) : (((jE (l.getD (dS l a).toNat default)).hi - a).toNat : Int) = qb (l.getD (dS l a).toNat default) - a.toNat := by
 have h1 := qV.1 (oM (l := l) (a := a) (by omega))
 have h2 := xQ (l.getD (dS l a).toNat default)
 rw [UInt32.toNat_sub_of_le]
 ·omega
 ·rw [UInt32.le_iff_toNat_le]; omega
theorem DD {l : List SecV} {a : UInt32} (h : ¬ dS l a < 0) : ((a - (l.getD (dS l a).toNat default).addr).toNat : Int) = (a.toNat : Int) - (l.getD (dS l a).toNat default).addr.toNat := by
 have h1 := qV.1 (oM (l := l) (a := a) (by omega))
 rw [UInt32.toNat_sub_of_le]
 ·omega
 ·rw [UInt32.le_iff_toNat_le]; omega
theorem B7 {l : List SecV} {a : UInt32} {n : Int} (h : (eP l a n).2.2 = 0) : 0 ≤ (eP l a n).1 ∧ (eP l a n).1 < l.length ∧ (eP l a n).1 = dS l a ∧ 0 ≤ (eP l a n).2.1 ∧ (eP l a n).2.1 + n ≤ (l.getD (eP l a n).1.toNat default).data.length := by
 unfold eP at h ⊢
 split at h
 ·cases h
 ·rename_i h1
  split at h
  ·cases h
  ·rename_i h2
   rw [if_neg h1, if_neg h2]
   have h3 := qV.1 (oM (l := l) (a := a) (by omega))
   have h4 := m3 (l := l) (a := a)
   refine ⟨by omega, by omega, rfl, by dsimp only; omega, ?_⟩
   dsimp only
   unfold qb at h2 h3; omega
def jV (l : List SecV) (a : UInt32) (n : Int) : List UInt8 × Int :=
 if n < 0 then ([], 2) else if n = 0 then ([], 0) else if (eP l a n).2.2 ≠ 0 then ([], (eP l a n).2.2)
 else (((l.getD (eP l a n).1.toNat default).data.take ((eP l a n).2.1 + n).toNat).drop (eP l a n).2.1.toNat, 0)
def yn (a b : Rng) : Bool := decide ((if a.lo < b.lo then b.lo else a.lo) < (if b.hi < a.hi then b.hi else a.hi))
def zB : Rng := ⟨978944, 983040⟩
def ob (l : List SecV) (i : Nat) : Int :=
 let s := l.getD i default
 if (s.data.length : Int) > 65536 then 6 else if vu s.name = false then 3 else if (l.take i).any (fun x => decide (x.name = s.name)) = true then 8
 else if (s.addr.toNat : Int) + s.data.length > 4294967295 ∨ yn (jE s) zB = true then 7 else 0
def fL (f : Nat → Int) : Nat → Nat → Int
 | _, 0 => 0
 | i, n + 1 => if f i ≠ 0 then f i else fL f (i + 1) n
def pE (l : List SecV) (i : Nat) : Bool := (l.take i).any fun x => yn (jE x) (jE (l.getD i default))
def fS (l : List SecV) : Int :=
 if (l.length : Int) > 16 then 6 else if fL (ob l) 0 l.length ≠ 0 then fL (ob l) 0 l.length
 else fL (fun i => if pE l i = true then 10 else 0) 0 l.length
theorem any_take_succ {α : Type} [Inhabited α] {p : α → Bool} {l : List α} {k : Nat} (h : k < l.length) : (l.take (k + 1)).any p = ((l.take k).any p || p (l.getD k default)) := by
 rw [dB h, List.any_append]; simp
theorem xf {α : Type} {p : α → Bool} {l : List α} {k : Nat} (h : l.length ≤ k) : (l.take k).any p = l.any p := by rw [List.take_of_length_le h]
theorem Cd {s : ByteArray} {k : Nat} (hk : k < s.size) (hb : u9 ((bts s).getD k default) = true) : vu s = false := by
 have h1 : (bts s).any u9 = true := List.any_eq_true.2 ⟨_, df (by rw [tn]; exact hk), hb⟩
 unfold vu; rw [h1]; rfl
theorem Cc {s : ByteArray} {k : Nat} (hk : s.size ≤ k) (h : ((bts s).take k).any u9 = false) : vu s = (decide (1 ≤ (s.size : Int)) && decide ((s.size : Int) ≤ 32)) := by
 rw [xf (by rw [tn]; exact hk)] at h
 unfold vu; rw [h]; rfl
theorem un {f : Nat → Int} {k n : Nat} (hn : 0 < n) (h : f k ≠ 0) : fL f k n = f k := by
 obtain ⟨m, rfl⟩ : ∃ m, n = m + 1 := ⟨n - 1, by omega⟩
 unfold fL; rw [if_pos h]
theorem sD {f : Nat → Int} {k n : Nat} (hk : k < n) (h : f k = 0) : fL f (k + 1) (n - (k + 1)) = fL f k (n - k) := by
 obtain ⟨m, hm⟩ : ∃ m, n - k = m + 1 := ⟨n - k - 1, by omega⟩
 rw [hm, show n - (k + 1) = m by omega]
 conv => rhs; unfold fL
 rw [if_neg (by simp [h])]
theorem Gb {l : List SecV} (h : (16 : Int) < l.length) : fS l = 6 := by unfold fS; rw [if_pos h]
theorem tl {l : List SecV} {k : Nat} {v : Int} (hl : ¬ (16 : Int) < l.length) (hk : k < l.length) (hi : fL (ob l) k (l.length - k) = fL (ob l) 0 l.length) (h : ob l k = v) (hv : v ≠ 0) : fS l = v := by
 rw [un (by omega) (by rw [h]; exact hv), h] at hi
 unfold fS; rw [if_neg hl, ← hi, if_pos hv]
theorem Ga {l : List SecV} {k : Nat} (hl : ¬ (16 : Int) < l.length) (h1 : fL (ob l) 0 l.length = 0) (hk : k < l.length) (hi : fL (fun i => if pE l i = true then 10 else 0) k (l.length - k) = fL (fun i => if pE l i = true then 10 else 0) 0 l.length) (h : pE l k = true) : fS l = 10 := by
 rw [un (by omega) (by rw [if_pos h]; decide), if_pos h] at hi
 unfold fS; rw [if_neg hl, if_neg (by simp [h1]), ← hi]
theorem FZ {l : List SecV} (hl : ¬ (16 : Int) < l.length) (h1 : fL (ob l) 0 l.length = 0) (h2 : fL (fun i => if pE l i = true then 10 else 0) 0 l.length = 0) : fS l = 0 := by
 unfold fS; rw [if_neg hl, if_neg (by simp [h1]), h2]
theorem sC {f : Nat → Int} {k n : Nat} (hk : n ≤ k) : fL f k (n - k) = 0 := by rw [show n - k = 0 by omega]; rfl
end Go.HL
namespace Go.Proofs.YtiajjbhcpeadfaaGreat
open Go Go.HL Go.RowKit
theorem name_any (s : ByteArray) (w : World) (hs : s.size ≤ 9223372036854775807) :
  Cr Tryz.prog 95 #[.string s] w (.bool (vu s)) := by
 have hbl := tn s
 refine enter Tryz.func95 rfl Tryz.ntmps95 rfl ?_
 refine ah (zz0 (ab rfl) (ad (an (ah (zz0 (aa rfl) ?_)))))
 refine zd rfl g5 bI bU (by unfold maxLen; omega) rfl (fun V1 F1 hF1 hV1 => ?_)
 refine zz0 (gj rfl bI) ?_
 refine zz0 (aa rfl) (ad (aF ?_))
 refine bL (ι := Nat) (fun k => k ≤ s.size ∧ ((bts s).take k).any u9 = false) (fun _ => _) (fun k => []) (fun k => [(8, .int .i64 (k : Nat))]) (fun k => s.size - k) 0 ⟨Nat.zero_le _, rfl⟩ (Front.c Front.nil) (by repeat' constructor) rfl (fun k hi m hm => ?_)
 replace hi : k ≤ s.size ∧ ((bts s).take k).any u9 = false := hi
 replace hm : m = s.size - k := hm
 change Tr _ _ [] ([(8, .int .i64 (k : Nat))] ++ _) _
 obtain ⟨hk1, hk2⟩ := hi
 refine ah (zz0 (bT rfl rfl) (ad (an ?_)))
 refine au rfl ?_ ?_ <;> intro h2 <;> try simp only [bs] at h2
 ·refine bC (an (aF (ah (zz0 (iH rfl rfl bI dT) ?_))))
  refine zz0 (jl rfl gy) ?_
  refine zz0 (ab rfl) (aI (zz0 (aa rfl) (zz0 (rp (n := 97) rfl rfl) ?_)))
  refine zz0 (aa rfl) ?_
  apply dV
  ·exact (rfl : _ = (3, 14, 17))
  ·exact rfl
  ·intro hF3; have hF3' := hF3
   try simp only [bs] at hF3'
   refine zz6 hF3 (aa rfl) (zz6 hF3 (xy (n := 122) rfl rfl) ?_)
   refine zz0 (aU rfl hF3 rfl) ?_
   refine aD (ac ?_)
   exact aK (Sub.cons rfl (bD 3 rfl))
  ·intro hT3
   refine zz9 hT3 (zz9 hT3 (zz0 (aV rfl hT3 rfl) ?_))
   refine aD (ac ?_)
   exact aK (Sub.cons rfl (bD 3 rfl))
  refine zz0 (aa rfl) ?_
  apply cH
  ·exact (rfl : _ = (7, 18, 25))
  ·exact rfl
  ·intro hT4; have hT4' := hT4
   try simp only [bs] at hT4'
   refine zz6 hT4 (aa rfl) (zz6 hT4 (rp (n := 65) rfl rfl) ?_)
   refine zz6 hT4 (aa rfl) ?_
   apply dV
   ·exact (rfl : _ = (3, 21, 24))
   ·exact rfl
   ·intro hF5; have hF5' := hF5
    try simp only [bs] at hF5'
    refine zz6 hF5 (aa rfl) (zz6 hF5 (xy (n := 90) rfl rfl) ?_)
    refine zz6 hT4 (aU rfl hF5 rfl) ?_
    refine aD (ac ?_)
    exact aK (Sub.cons rfl (bD 3 rfl))
   ·intro hT5
    refine zz9 hT5 (zz9 hT5 (zz6 hT4 (aV rfl hT5 rfl) ?_))
    refine aD (ac ?_)
    exact aK (Sub.cons rfl (bD 3 rfl))
   refine zz0 (aV rfl hT4 rfl) ?_
   refine aD (ac ?_)
   exact aK (Sub.cons rfl (bD 5 rfl))
  ·intro hF4
   refine zz9 hF4 (zz9 hF4 (zz9 hF4 (gw ?_)))
   refine gw ?_
   refine zz9 hF4 (zz0 (aU rfl hF4 rfl) ?_)
   refine aD (ac ?_)
   exact aK (Sub.cons rfl (bD 7 rfl))
  refine zz0 (aa rfl) ?_
  apply cH
  ·exact (rfl : _ = (7, 26, 33))
  ·exact rfl
  ·intro hT6; have hT6' := hT6
   try simp only [bs] at hT6'
   refine zz6 hT6 (aa rfl) (zz6 hT6 (rp (n := 48) rfl rfl) ?_)
   refine zz6 hT6 (aa rfl) ?_
   apply dV
   ·exact (rfl : _ = (3, 29, 32))
   ·exact rfl
   ·intro hF7; have hF7' := hF7
    try simp only [bs] at hF7'
    refine zz6 hF7 (aa rfl) (zz6 hF7 (xy (n := 57) rfl rfl) ?_)
    refine zz6 hT6 (aU rfl hF7 rfl) ?_
    refine aD (ac ?_)
    exact aK (Sub.cons rfl (bD 3 rfl))
   ·intro hT7
    refine zz9 hT7 (zz9 hT7 (zz6 hT6 (aV rfl hT7 rfl) ?_))
    refine aD (ac ?_)
    exact aK (Sub.cons rfl (bD 3 rfl))
   refine zz0 (aV rfl hT6 rfl) ?_
   refine aD (ac ?_)
   exact aK (Sub.cons rfl (bD 5 rfl))
  ·intro hF6
   refine zz9 hF6 (zz9 hF6 (zz9 hF6 (gw ?_)))
   refine gw ?_
   refine zz9 hF6 (zz0 (aU rfl hF6 rfl) ?_)
   refine aD (ac ?_)
   exact aK (Sub.cons rfl (bD 7 rfl))
  refine zz0 (aa rfl) ?_
  apply cH
  ·exact (rfl : _ = (3, 34, 37))
  ·exact rfl
  ·intro hT8; have hT8' := hT8
   try simp only [bs] at hT8'
   refine zz6 hT8 (aa rfl) (zz6 hT8 (xw (n := 95) rfl rfl) ?_)
   refine zz0 (aV rfl hT8 rfl) ?_
   refine aD (ac ?_)
   exact aK (Sub.cons rfl (bD 3 rfl))
  ·intro hF8
   refine zz9 hF8 (zz9 hF8 (zz0 (aU rfl hF8 rfl) ?_))
   refine aD (ac ?_)
   exact aK (Sub.cons rfl (bD 3 rfl))
  refine zz0 (aa rfl) ?_
  apply cH
  ·exact (rfl : _ = (3, 38, 41))
  ·exact rfl
  ·intro hT9; have hT9' := hT9
   try simp only [bs] at hT9'
   refine zz6 hT9 (aa rfl) (zz6 hT9 (xw (n := 46) rfl rfl) ?_)
   refine zz0 (aV rfl hT9 rfl) ?_
   refine aD (ac ?_)
   exact aK (Sub.cons rfl (bD 3 rfl))
  ·intro hF9
   refine zz9 hF9 (zz9 hF9 (zz0 (aU rfl hF9 rfl) ?_))
   refine aD (ac ?_)
   exact aK (Sub.cons rfl (bD 3 rfl))
  refine ad ?_
  refine au rfl ?_ ?_ <;> intro h10 <;> try simp only [bs] at h10
  ·refine ah (zz0 (ab rfl) (ad (aC (bv (ay (ay (bv (ay ?_))))))))
   refine aX Tryz.results95 rfl (fun w' hw => ?_)
   have hbad : u9 ((bts s).getD k default) = true := by simp only [u9, GZ, GH, Hb, bs]; assumption
   exact ⟨by rw [Cd (by omega) hbad], hw.below hF1⟩
  refine cd (aY (ac (ar (zz0 (cB rfl rfl) ?_))))
  refine zz0 (aa rfl) (ad ?_)
  have hbad : u9 ((bts s).getD k default) = false := by simp only [u9, GZ, GH, Hb, bs]; assumption
  refine cK (k + 1) (Front.c Front.nil) (zz8 19 rfl) (o := ⟨by omega, by rw [any_take_succ (by omega), hk2, hbad]; rfl⟩)
 refine bJ (aG (aG (bj (ac (ah (zz0 (aa rfl) (zz0 (wd rfl g5) ?_)))))))
 refine zz0 (eM rfl rfl) (zz0 (aa rfl) ?_)
 apply cH
 ·exact (rfl : _ = (4, 46, 50))
 ·exact rfl
 ·intro hT11; have hT11' := hT11
  try simp only [bs] at hT11'
  refine zz6 hT11 (aa rfl) (zz6 hT11 (wd rfl g5) ?_)
  refine zz6 hT11 (fX rfl rfl) (zz0 (aV rfl hT11 rfl) ?_)
  refine aD (ac ?_)
  exact aK (Sub.cons rfl (bD 4 rfl))
 ·intro hF11
  refine zz9 hF11 (zz9 hF11 (zz9 hF11 (zz0 (aU rfl hF11 rfl) ?_)))
  refine aD (ac ?_)
  exact aK (Sub.cons rfl (bD 4 rfl))
 refine zz0 (ab rfl) (ad (aC ?_))
 refine aX Tryz.results95 rfl (fun w' hw => ?_)
 exact ⟨by rw [Cc (by omega) hk2], hw.below hF1⟩
theorem mR (s : SecV) (w : World) (hs : s.data.length ≤ 200000) :
  Cr Tryz.prog 97 #[.agg (dJ.enc s).toArray] w (.agg (wS.enc (jE s)).toArray) := by
 have hadr := s.addr.toNat_lt
 refine enter Tryz.func97 rfl Tryz.ntmps97 rfl ?_
 refine ah ?_
 refine dG rfl rfl (fun b1 => ?_)
 refine dC jA rfl (fun b2 => ?_)
 refine aI (zz0 (zz2 (off := 1) (ft := 23) rfl dy rfl ae) ?_)
 refine zz0 (aH rfl am) ?_
 refine zz0 (eN rfl aS cD) (zz0 (zz2 (off := 2) (ft := 47) rfl dy rfl kA) ?_)
 refine zz0 (aH rfl lJ) ?_
 refine zz0 (pn rfl bI) ?_
 refine zz0 (eW rfl ba cD (IntWalk.u64_in _ (by omega))) ?_
 refine zz0 (pp rfl rfl (by omega)) ?_
 refine zz0 (ab rfl) (aI (zz0 (zz2 (off := 1) (ft := 23) rfl dy rfl ae) ?_))
 refine zz0 (aH rfl am) ?_
 refine zz0 (aa rfl) (zz0 (tu rfl rfl) ?_)
 refine zz0 (gU rfl cD aS) (zz0 (bK (vs := [(0, _), (1, _)]) rfl rfl (nm _ _)) ?_)
 refine aB wS rfl rfl jb ?_
 refine ad (aC ?_)
 refine eO Tryz.results97 rfl Tryz.isAgg165 jb (fun w' hw => ?_)
 exact ⟨rfl, hw.b0⟩
theorem BM (w : World) :
  Cr Tryz.prog 98 #[] w (.agg (wS.enc zB).toArray) := by
 refine enter Tryz.func98 rfl Tryz.ntmps98 rfl ?_
 refine ah ?_
 refine dC jA rfl (fun b1 => ?_)
 refine aI (zz0 (bK (vs := [(0, _), (1, _)]) rfl rfl (nm _ _)) ?_)
 refine aB wS rfl rfl jb ?_
 refine ad (aC ?_)
 refine eO Tryz.results98 rfl Tryz.isAgg165 jb (fun w' hw => ?_)
 exact ⟨rfl, hw.b0⟩
theorem ym (a b : Rng) (w : World) :
  Cr Tryz.prog 96 #[.agg (wS.enc a).toArray, .agg (wS.enc b).toArray] w (.bool (yn a b)) := by
 refine enter Tryz.func96 rfl Tryz.ntmps96 rfl ?_
 refine ah ?_
 refine dG rfl rfl (fun b1 => ?_)
 refine dG rfl rfl (fun b2 => ?_)
 refine zz0 (ab rfl) (aI (zz0 (zz2 (off := 0) (ft := 23) rfl fb rfl ae) ?_))
 refine zz0 (aH rfl am) ?_
 refine zz0 (zz2 (off := 0) (ft := 23) rfl fb rfl ae) ?_
 refine zz0 (aH rfl am) ?_
 refine zz0 (oV rfl rfl) ?_
 refine zz0 (zz2 (off := 1) (ft := 23) rfl fb rfl ae) ?_
 refine zz0 (aH rfl am) ?_
 refine zz0 (zz2 (off := 1) (ft := 23) rfl fb rfl ae) ?_
 refine zz0 (aH rfl am) ?_
 refine zz0 (oU rfl rfl) ?_
 refine zz0 (iu rfl rfl) ?_
 refine zz0 (ab rfl) (ad (aC ?_))
 refine aX Tryz.results96 rfl (fun w' hw => ?_)
 exact ⟨rfl, hw.b0⟩
theorem Cq (s : SecV) (a : UInt32) (b : Nat) (w : World) (hc : Cell (hp w) b 0 (.int .u32 a.toNat)) (hs : s.data.length ≤ 200000) :
  Cr Tryz.prog 156 #[.agg (dJ.enc s).toArray, .pointer (some ⟨b, 0, none⟩)] w (.bool (inS a s)) := by
 have hc' : Cell (Bg.of w).blk b 0 (.int .u32 a.toNat) := hc
 refine enter Tryz.func156 rfl Tryz.ntmps156 rfl ?_
 refine ah ?_
 refine dG rfl rfl (fun b1 => ?_)
 refine zz0 (ab rfl) (aI (zz0 (bG rfl iP dn) ?_))
 refine zz0 (az rfl m8 (fun w hw => mR s w hs)) ?_
 refine dC jA rfl (fun b2 => ?_)
 refine aB wS rfl rfl jb ?_
 refine aI (zz0 (zz2 (off := 0) (ft := 23) rfl fb rfl ae) ?_)
 refine zz0 (aH rfl am) ?_
 refine zz0 (lO rfl (by assumption) am) ?_
 refine zz0 (uL rfl rfl) ?_
 refine zz0 (aa rfl) ?_
 apply cH
 ·exact (rfl : _ = (5, 11, 16))
 ·exact rfl
 ·intro hT3; have hT3' := hT3
  try simp only [bs] at hT3'
  refine zz6 hT3 (lO rfl (by assumption) am) ?_
  refine zz6 hT3 (zz2 (off := 1) (ft := 23) rfl fb rfl ae) ?_
  refine zz6 hT3 (aH rfl am) ?_
  refine zz6 hT3 (iu rfl rfl) ?_
  refine zz0 (aV rfl hT3 rfl) ?_
  refine aD (ac ?_)
  exact aK (Sub.cons rfl (bD 5 rfl))
 ·intro hF3
  refine zz9 hF3 (zz9 hF3 (zz9 hF3 (zz9 hF3 (zz0 (aU rfl hF3 rfl) ?_))))
  refine aD (ac ?_)
  exact aK (Sub.cons rfl (bD 5 rfl))
 refine zz0 (ab rfl) (ad (aC ?_))
 refine aX Tryz.results156 rfl (fun w' hw => ?_)
 exact ⟨rfl, hw.b0⟩
theorem Aj (x s : SecV) (b : Nat) (w : World) (hc : CellsIn (hp w) b (dJ.enc s)) :
  Cr Tryz.prog 94 #[.agg (dJ.enc x).toArray, .pointer (some ⟨b, 0, none⟩)] w (.bool (decide (x.name = s.name))) := by
 have hc' : CellsIn (Bg.of w).blk b (dJ.enc s) := hc
 refine enter Tryz.func94 rfl Tryz.ntmps94 rfl ?_
 refine ah ?_
 refine dG rfl rfl (fun b1 => ?_)
 refine zz0 (ab rfl) (aI (zz0 (zz2 (off := 0) (ft := 9) rfl dy rfl Tryz.sizeOf9) ?_))
 refine zz0 (aH rfl Tryz.isAgg9) ?_
 refine zz0 (zz2 (off := 0) (ft := 9) rfl dy rfl Tryz.sizeOf9) ?_
 refine zz0 (lu rfl Tryz.isAgg9) ?_
 refine zz0 (AG rfl rfl) ?_
 refine zz0 (ab rfl) (ad (aC ?_))
 refine aX Tryz.results94 rfl (fun w' hw => ?_)
 exact ⟨rfl, hw.b0⟩
theorem Ai (x s : SecV) (b : Nat) (w : World) (hc : CellsIn (hp w) b (dJ.enc s)) (hx : x.data.length ≤ 200000) (hs : s.data.length ≤ 200000) :
  Cr Tryz.prog 99 #[.agg (dJ.enc x).toArray, .pointer (some ⟨b, 0, none⟩)] w (.bool (yn (jE x) (jE s))) := by
 have hc' : CellsIn (Bg.of w).blk b (dJ.enc s) := hc
 refine enter Tryz.func99 rfl Tryz.ntmps99 rfl ?_
 refine ah ?_
 refine dG rfl rfl (fun b1 => ?_)
 refine zz0 (ab rfl) (ad (an (gZ aP ?_)))
 refine aw (bG rfl iP dn) ?_
 refine aw (az rfl m8 (fun w hw => mR x w hx)) ?_
 refine aw (CL rfl (by assumption) iP dn (by rfl)) ?_
 refine aw (az rfl m8 (fun w hw => mR s w hs)) ?_
 refine aw (az rfl Tryz.call96 (fun w hw => ym (jE x) (jE s) w)) ?_
 refine aw (ab rfl) (bH ?_)
 refine ac (aC ?_)
 refine aX Tryz.results99 rfl (fun w' hw => ?_)
 exact ⟨rfl, hw.b0⟩
theorem pK (l : List SecV) (V : Value) (g : FuncId) (cb : List Value) (w : World) (hV : Sl (hp w) dJ l V) (eg : ∀ args w, (callFunc g args).run Tryz.prog w = .ok (.enter g args) w) (p : SecV → Bool) (hp : ∀ x, x ∈ l → ∀ w', Ext w w' → Calls Tryz.prog g ([Value.agg (dJ.enc x).toArray] ++ cb).toArray w' fun e w'' => e = .returned (.bool (p x)) ∧ Ext w' w'') :
  Cr Tryz.prog 155 #[V, .func (.func g) #[] cb.toArray] w (.int .i64 (dY p 0 l)) := by
 have hV' : Sl (Bg.of w).blk dJ l V := hV
 have hlen := hV.len_le
 refine enter Tryz.func155 rfl Tryz.ntmps155 rfl ?_
 refine ah (zz0 (ab rfl) (ad (an (ah (zz0 (aa rfl) (zz0 (gj rfl de) ?_))))))
 refine zz0 (aa rfl) (ad (aF ?_))
 refine bL (ι := Nat) (fun k => k ≤ l.length ∧ dY p k (l.drop k) = dY p 0 l) (fun _ => _) (fun k => []) (fun k => [(8, .int .i64 (k : Nat))]) (fun k => l.length - k) 0 ⟨Nat.zero_le _, rfl⟩ (Front.c Front.nil) (by repeat' constructor) rfl (fun k hi m hm => ?_)
 replace hi : k ≤ l.length ∧ dY p k (l.drop k) = dY p 0 l := hi
 replace hm : m = l.length - k := hm
 change Tr _ _ [] ([(8, .int .i64 (k : Nat))] ++ _) _
 obtain ⟨hk1, hk2⟩ := hi
 refine ah (zz0 (bT rfl rfl) (ad (an ?_)))
 refine au rfl ?_ ?_ <;> intro h1 <;> try simp only [bs] at h1
 ·refine bC (an (aF (ah (zz0 (aa rfl) (zz0 (ab rfl) (aI (zz0 (aa rfl) (zz0 (aa rfl) ?_))))))))
  refine zz0 (aa rfl) (zz0 (iH rfl rfl de dn) ?_)
  refine zz0 (pB rfl iP dn) ?_
  refine zz0 (hZ rfl rfl eg (fun w hw => hp _ (df (by omega)) w (hw.b0))) ?_
  refine ad ?_
  refine au rfl ?_ ?_ <;> intro h2 <;> try simp only [bs] at h2
  ·refine ah (zz0 (aa rfl) (zz0 (ab rfl) (ad (aC (bv (ay (ay (bv (ay ?_)))))))))
   refine aX Tryz.results155 rfl (fun w' hw => ?_)
   exact ⟨by rw [← hk2, drop_cons (k := k) (by omega), dY, if_pos (by assumption)], hw.b0⟩
  refine cd (aY (ac (ar (zz0 (cB rfl rfl) ?_))))
  refine zz0 (aa rfl) (ad ?_)
  refine cK (k + 1) (Front.c Front.nil) (zz8 12 rfl) (o := ⟨by omega, by rw [← hk2, drop_cons (k := k) (by omega), dY, if_neg (by simp_all)]⟩)
 refine bJ (aG (aG (bj (ac (ah (zz0 (ab rfl) (ad (aC ?_))))))))
 refine aX Tryz.results155 rfl (fun w' hw => ?_)
 exact ⟨by rw [← hk2, List.drop_of_length_le (by omega)]; rfl, hw.b0⟩
theorem m6 (l : List SecV) (V : Value) (g : FuncId) (cb : List Value) (w : World) (hV : Sl (hp w) dJ l V) (eg : ∀ args w, (callFunc g args).run Tryz.prog w = .ok (.enter g args) w) (p : SecV → Bool) (hp : ∀ x, x ∈ l → ∀ w', Ext w w' → Calls Tryz.prog g ([Value.agg (dJ.enc x).toArray] ++ cb).toArray w' fun e w'' => e = .returned (.bool (p x)) ∧ Ext w' w'') :
  Cr Tryz.prog 93 #[V, .func (.func g) #[] cb.toArray] w (.bool (l.any p)) := by
 refine enter Tryz.func93 rfl Tryz.ntmps93 rfl ?_
 refine ah (zz0 (ab rfl) (aI (zz0 (aa rfl) (zz0 (aa rfl) (zz0 (az rfl Tryz.call155 (fun w hw => pK l V g cb w (hw.slF hV) eg p (fun x hx w'' h => hp x hx w'' ((hw.b0).trans h)))) ?_)))))
 refine zz0 (eM rfl rfl) (zz0 (ab rfl) (ad (aC ?_)))
 refine aX Tryz.results93 rfl (fun w' hw => ?_)
 exact ⟨by rw [qW], hw.b0⟩
theorem ra (l : List SecV) (V : Value) (a : UInt32) (w : World) (hV : Sl (hp w) dJ l V) (hB : SecB l) :
  Cr Tryz.prog 103 #[V, .int .u32 a.toNat] w (.int .i64 (dS l a)) := by
 have hV' : Sl (Bg.of w).blk dJ l V := hV
 have hlen := hB.1
 refine enter Tryz.func103 rfl Tryz.ntmps103 rfl ?_
 refine ah ?_
 refine dG rfl rfl (fun b1 => ?_)
 refine zz0 (ab rfl) (aI (zz0 (aa rfl) (zz0 (eU rfl rfl) ?_)))
 refine zz0 (az rfl Tryz.call155 (fun w hw => pK l V _ _ w (hw.slF hV) Tryz.call156 (inS a) (fun x hx w'' h => Cq x a _ w'' (cellE.cell (hw.ent _ (.head _)) h rfl) (hB.2 x hx)))) ?_
 refine zz0 (ab rfl) (ad (aC ?_))
 refine aX Tryz.results103 rfl (fun w' hw => ?_)
 exact ⟨rfl, hw.b0⟩
theorem B6 (l : List SecV) (V : Value) (a : UInt32) (n : Int) (w : World) (hV : Sl (hp w) dJ l V) (hB : SecB l) (hn : 0 ≤ n ∧ n ≤ 9223372036854775807) :
  Cr Tryz.prog 223 #[V, .int .u32 a.toNat, .int .i64 n] w (.tuple #[.int .i64 (eP l a n).1, .int .i64 (eP l a n).2.1, .int .i64 (eP l a n).2.2]) := by
 have hV' : Sl (Bg.of w).blk dJ l V := hV
 have hlen := hB.1
 have hf := m3 (l := l) (a := a)
 refine enter Tryz.func223 rfl Tryz.ntmps223 rfl ?_
 refine ah (zz0 (ab rfl) (zz0 (ab rfl) (zz0 (ab rfl) (aI (zz0 (aa rfl) (zz0 (aa rfl) (zz0 (az rfl nR (fun w hw => ra l V a w (hw.slF hV) hB)) ?_)))))))
 refine zz0 (ab rfl) (ad (an (ah (zz0 (aa rfl) (zz0 (bT rfl rfl) (ad ?_))))))
 refine au rfl ?_ ?_ <;> intro h1 <;> try simp only [bs] at h1
 ·refine ah (zz0 (ab rfl) (zz0 (ab rfl) (zz0 (ab rfl) (ad (aC (ay ?_))))))
  refine eK mD rfl rfl rfl (fun w' hw => ?_)
  exact ⟨by rw [DI (by assumption)], hw.b0⟩
 refine dz (zz0 (aa rfl) (zz0 (aa rfl) (zz0 (nZ rfl rfl de dn) ?_)))
 refine zz0 (pB rfl iP dn) ?_
 refine zz0 (az rfl m8 (fun w hw => mR (l.getD (dS l a).toNat default) w (hB.at (by omega)))) ?_
 refine dC jA rfl (fun b2 => ?_)
 refine aB wS rfl rfl jb ?_
 refine ad (an (ah (zz0 (aa rfl) (zz0 (eW rfl ba cD (IntWalk.u64_in _ (by omega))) ?_))))
 refine zz0 (zz2 (off := 1) (ft := 23) rfl fb rfl ae) ?_
 refine zz0 (aH rfl am) ?_
 refine zz0 (aa rfl) (zz0 (fk rfl rfl) ?_)
 refine zz0 (eN rfl aS cD) (zz0 (fg rfl rfl) (ad ?_))
 refine au rfl ?_ ?_ <;> intro h3 <;> try simp only [bs] at h3
 ·refine ah (zz0 (ab rfl) (zz0 (ab rfl) (zz0 (ab rfl) (ad (aC (ay ?_))))))
  refine eK mD rfl rfl rfl (fun w' hw => ?_)
  have hpl := tP (l := l) (a := a) (by assumption)
  exact ⟨by rw [DG (by assumption) (by rw [← hpl]; assumption)], hw.b0⟩
 refine bC (an (gZ aP ?_))
 refine aw (aa rfl) (aw (aa rfl) (aw (zz2 (off := 0) (ft := 23) rfl fb rfl ae) ?_))
 refine aw (aH rfl am) ?_
 refine aw (fk rfl rfl) ?_
 refine aw (sP rfl aS ba) (aw (ab rfl) (aw (ab rfl) (aw (ab rfl) (bH ?_))))
 refine ac (aC ?_)
 refine eK mD rfl rfl rfl (fun w' hw => ?_)
 have hpl := tP (l := l) (a := a) (by assumption)
 have hpa := DD (l := l) (a := a) (by assumption)
 exact ⟨by rw [DF (by assumption) (by rw [← hpl]; assumption), ← hpa]; rfl, hw.b0⟩
theorem Dx (l : List SecV) (V : Value) (a : UInt32) (n : Int) (w : World) (hV : Sl (hp w) dJ l V) (hB : SecB l) (hD : DataIn (hp w) l) (hn : n ≤ 9223372036854775807) :
  Calls Tryz.prog 157 #[V, .int .u32 a.toNat, .int .i64 n] w (fun e w' => ∃ V', e = .returned (.tuple #[V', .int .i64 (jV l a n).2]) ∧ Ext w w' ∧ js w w' 5 dZ (jV l a n).1 V') := by
 have hV' : Sl (Bg.of w).blk dJ l V := hV
 have hlen := hB.1
 refine enter Tryz.func157 rfl Tryz.ntmps157 rfl ?_
 refine ah (zz0 (ab rfl) (zz0 (ab rfl) (ad (an (ah (zz0 (aa rfl) (zz0 (bT rfl rfl) (ad ?_))))))))
 refine au rfl ?_ ?_ <;> intro h1 <;> try simp only [bs] at h1
 ·refine ah (zz0 (ab rfl) (zz0 (ab rfl) (ad (aC (ay ?_)))))
  refine dE ki rfl rfl (fun w' hw => ?_)
  exact ⟨_, by rw [jV, if_pos (by assumption)], hw.b0, fD (by rw [jV, if_pos (by assumption)])⟩
 refine bC (an (ah (zz0 (aa rfl) (zz0 (bA rfl rfl) (ad ?_)))))
 refine au rfl ?_ ?_ <;> intro h2 <;> try simp only [bs] at h2
 ·refine ah (zz0 (ab rfl) (zz0 (ab rfl) (ad (aC (ay ?_)))))
  refine dE ki rfl rfl (fun w' hw => ?_)
  exact ⟨_, by rw [jV, if_neg (by assumption), if_pos (by assumption)], hw.b0, fD (by rw [jV, if_neg (by assumption), if_pos (by assumption)])⟩
 refine dz (zz0 (aa rfl) (zz0 (aa rfl) (zz0 (aa rfl) (zz0 (az rfl Tryz.call223 (fun w hw => B6 l V a n w (hw.slF hV) hB (by omega))) ?_))))
 refine zz0 (aa rfl) (zz0 (aN rfl rfl) (zz0 (aN rfl rfl) (zz0 (aN rfl rfl) (zz0 (ab rfl) (zz0 (ab rfl) (zz0 (ab rfl) (ad (an (ah (zz0 (aa rfl) (zz0 (fH rfl rfl) ?_)))))))))))
 refine ad ?_
 refine au rfl ?_ ?_ <;> intro h3 <;> try simp only [bs] at h3
 ·refine ah (zz0 (aa rfl) (zz0 (ab rfl) (zz0 (ab rfl) (ad (aC (ay ?_))))))
  refine dE ki rfl rfl (fun w' hw => ?_)
  exact ⟨_, by rw [jV, if_neg (by assumption), if_neg (by assumption), if_pos (by assumption)]; rfl, hw.b0, fD (by rw [jV, if_neg (by assumption), if_neg (by assumption), if_pos (by assumption)])⟩
 refine bC (an ?_)
 obtain ⟨p1, p2, p3, p4, p5⟩ := B7 (l := l) (a := a) (n := n) (by simp_all)
 have p6 : (eP l a n).2.1 ≤ (eP l a n).2.1 + n := by omega
 have hdl := hB.at (k := (eP l a n).1.toNat) (by omega)
 have hDk : Sl (Bg.of w).blk dZ (l.getD (eP l a n).1.toNat default).data (.slice (l.getD (eP l a n).1.toNat default).dp (l.getD (eP l a n).1.toNat default).data.length (l.getD (eP l a n).1.toNat default).dc) := hD _ (df (by omega))
 refine ar (zz0 (aa rfl) (zz0 (aa rfl) (zz0 (nZ rfl rfl de dn) ?_)))
 refine zz0 (zz2 (off := 2) (ft := 47) rfl dy rfl kA) ?_
 refine zz0 (ql rfl (by assumption) lJ (by omega) (by rfl)) ?_
 refine zz0 (aa rfl) (zz0 (aa rfl) (zz0 (aa rfl) (zz0 (cB rfl rfl) ?_)))
 refine zz0 (CV (lv := some (_, _)) (hv := some (_, _)) rfl rfl rfl bI dT) ?_
 refine gR rfl Tryz.call46 (fun w hw => EB (((l.getD (eP l a n).1.toNat default).data.take ((eP l a n).2.1 + n).toNat).drop (eP l a n).2.1.toNat) _ w (Sl.resl (l := (eP l a n).2.1.toNat) (h := ((eP l a n).2.1 + n).toNat) (hw.slF hDk) (by omega) (by omega)) (by simp only [List.length_drop, List.length_take]; omega)) rfl (fun V4 => ?_)
 refine zz0 (ab rfl) (aI (zz0 (aa rfl) (zz0 (aa rfl) (zz0 (aa rfl) ?_))))
 refine vd rfl (by repeat constructor) rfl rfl (by simp only [List.length_drop, List.length_take]; omega) bI dT rfl (fun V90 => ?_)
 refine zz0 (ab rfl) (zz0 (ab rfl) (ad (aC ?_)))
 refine dE ki rfl rfl (fun w' hw => ?_)
 exact ⟨_, by rw [jV, if_neg (by assumption), if_neg (by assumption), if_neg (by simp_all)], hw.b0, by rw [jV, if_neg (by assumption), if_neg (by assumption), if_neg (by simp_all)]; exact hw.new (.head _)⟩
theorem sc (l : List SecV) (V : Value) (w : World) (hV : Sl (hp w) dJ l V) (hB : SecB l) (hN : ∀ s ∈ l, s.name.size ≤ 9223372036854775807) :
  Cr Tryz.prog 39 #[V] w (.int .i64 (fS l)) := by
 have hV' : Sl (Bg.of w).blk dJ l V := hV
 have hlen := hB.1
 refine enter Tryz.func39 rfl Tryz.ntmps39 rfl ?_
 refine ah (zz0 (ab rfl) (ad (an (ah (zz0 (aa rfl) (zz0 (gj rfl de) ?_))))))
 refine zz0 (fg rfl rfl) (ad ?_)
 refine au rfl ?_ ?_ <;> intro h1 <;> try simp only [bs] at h1
 ·refine ah (zz0 (ab rfl) (ad (aC (ay ?_))))
  refine aX ik rfl (fun w' hw => ?_)
  exact ⟨by rw [Gb (by assumption)], hw.b0⟩
 refine bC (an (ah (zz0 (aa rfl) (zz0 (gj rfl de) ?_))))
 refine zz0 (aa rfl) (ad (aF ?_))
 refine bL (ι := Nat) (fun k => k ≤ l.length ∧ fL (ob l) k (l.length - k) = fL (ob l) 0 l.length) (fun _ => _) (fun k => []) (fun k => [(13, .int .i64 (k : Nat))]) (fun k => l.length - k) 0 ⟨Nat.zero_le _, rfl⟩ (Front.c Front.nil) (by repeat' constructor) rfl (fun k hi m hm => ?_)
 replace hi : k ≤ l.length ∧ fL (ob l) k (l.length - k) = fL (ob l) 0 l.length := hi
 replace hm : m = l.length - k := hm
 change Tr _ _ [] ([(13, .int .i64 (k : Nat))] ++ _) _
 obtain ⟨hk1, hk2⟩ := hi
 have hadr := (l.getD k default).addr.toNat_lt
 have hdk : k < l.length → (l.getD k default).data.length ≤ 200000 := fun q => hB.at q
 refine ah (zz0 (bT rfl rfl) (ad (an ?_)))
 refine au rfl ?_ ?_ <;> intro h2 <;> try simp only [bs] at h2
 ·refine bC (an (aF (ah (zz0 (aa rfl) (zz0 (iH rfl rfl de dn) ?_)))))
  refine zz0 (pB rfl iP dn) ?_
  refine dC lH rfl (fun b3 => ?_)
  refine zz0 (ab rfl) (aB dJ rfl rfl dn ?_)
  refine aI (zz0 (aa rfl) (zz0 (aa rfl) (zz0 (CV (lv := none) (hv := some (_, _)) rfl rfl rfl de dn) ?_)))
  refine zz0 (eU rfl rfl) ?_
  refine zz0 (az rfl Tryz.call93 (fun w hw => m6 (l.take k) _ _ _ w (Sl.resl (l := 0) (h := k) (hw.slF hV) (by omega) (by omega)) Tryz.call94 (fun x => decide (x.name = (l.getD k default).name)) (fun x hx w'' h => Aj x (l.getD k default) _ w'' (cellE.cellsIn (hw.ent _ (.head _)) h)))) ?_
  refine zz0 (ab rfl) (ad (aF (ah (zz0 (zz2 (off := 2) (ft := 47) rfl dy rfl kA) ?_))))
  refine zz0 (aH rfl lJ) ?_
  refine zz0 (pn rfl bI) ?_
  refine zz0 (fg rfl rfl) (zz0 (ab rfl) (ad ?_))
  refine au rfl ?_ ?_ <;> intro h4 <;> try simp only [bs] at h4
  ·refine ah (zz0 (ab rfl) (ad (aC (bv (bv (ay (ay (bv (ay ?_)))))))))
   refine aX ik rfl (fun w' hw => ?_)
   exact ⟨by rw [tl (v := 6) (by assumption) (by omega) hk2 (by unfold ob; dsimp only; rw [if_pos (by assumption)]) (by decide)], hw.b0⟩
  refine ah (zz0 (zz2 (off := 0) (ft := 9) rfl dy rfl Tryz.sizeOf9) ?_)
  refine zz0 (aH rfl Tryz.isAgg9) ?_
  refine zz0 (az rfl Tryz.call95 (fun w hw => name_any (l.getD k default).name w (hN _ (df (by omega))))) ?_
  refine zz0 (cP rfl) (zz0 (ab rfl) (ad ?_))
  refine au rfl ?_ ?_ <;> intro h5 <;> try simp only [bs] at h5
  ·refine ah (zz0 (ab rfl) (ad (aC (bv (bv (ay (ay (bv (ay ?_)))))))))
   refine aX ik rfl (fun w' hw => ?_)
   exact ⟨by rw [tl (v := 3) (by assumption) (by omega) hk2 (by unfold ob; dsimp only; rw [if_neg (by assumption), if_pos (by assumption)]) (by decide)], hw.b0⟩
  refine ah (zz0 (aa rfl) (zz0 (ab rfl) (ad ?_)))
  refine au rfl ?_ ?_ <;> intro h6 <;> try simp only [bs] at h6
  ·refine ah (zz0 (ab rfl) (ad (aC (bv (bv (ay (ay (bv (ay ?_)))))))))
   refine aX ik rfl (fun w' hw => ?_)
   exact ⟨by rw [tl (v := 8) (by assumption) (by omega) hk2 (by unfold ob; dsimp only; rw [if_neg (by assumption), if_neg (by simp_all), if_pos (by assumption)]) (by decide)], hw.b0⟩
  refine ah (zz0 (zz2 (off := 1) (ft := 23) rfl dy rfl ae) ?_)
  refine zz0 (aH rfl am) ?_
  refine zz0 (eN rfl aS cD) (zz0 (zz2 (off := 2) (ft := 47) rfl dy rfl kA) ?_)
  refine zz0 (aH rfl lJ) ?_
  refine zz0 (pn rfl bI) ?_
  refine zz0 (eW rfl ba cD (IntWalk.u64_in _ (by omega))) ?_
  refine zz0 (pp rfl rfl (by omega)) ?_
  refine zz0 (fg rfl rfl) (zz0 (aa rfl) ?_)
  apply dV
  ·exact (rfl : _ = (5, 45, 50))
  ·exact rfl
  ·intro hF7; have hF7' := hF7
   try simp only [bs] at hF7'
   refine zz6 hF7 (bG rfl iP dn) ?_
   refine zz6 hF7 (az rfl m8 (fun w hw => mR (l.getD k default) w (hB.at (by omega)))) ?_
   refine zz6 hF7 (az rfl Tryz.call98 (fun w hw => BM w)) ?_
   refine zz6 hF7 (az rfl Tryz.call96 (fun w hw => ym (jE (l.getD k default)) zB w)) ?_
   refine zz0 (aU rfl hF7 rfl) ?_
   refine aD (ac ?_)
   exact aK (Sub.cons rfl (bD 5 rfl))
  ·intro hT7
   refine zz9 hT7 (zz9 hT7 (zz9 hT7 (zz9 hT7 (zz0 (aV rfl hT7 rfl) ?_))))
   refine aD (ac ?_)
   exact aK (Sub.cons rfl (bD 5 rfl))
  refine zz0 (ab rfl) (ad ?_)
  refine au rfl ?_ ?_ <;> intro h8 <;> try simp only [bs] at h8
  ·refine ah (zz0 (ab rfl) (ad (aC (bv (bv (ay (ay (bv (ay ?_)))))))))
   refine aX ik rfl (fun w' hw => ?_)
   exact ⟨by rw [tl (v := 7) (by assumption) (by omega) hk2 (by unfold ob; dsimp only; rw [if_neg (by assumption), if_neg (by simp_all), if_neg (by simp_all), if_pos (by assumption)]) (by decide)], hw.b0⟩
  refine cd (aY (aY (ac (ar (zz0 (cB rfl rfl) ?_)))))
  refine zz0 (aa rfl) (ad ?_)
  have hz : ob l k = 0 := by unfold ob; dsimp only; rw [if_neg (by assumption), if_neg (by simp_all), if_neg (by simp_all), if_neg (by simp_all)]
  refine cK (k + 1) (Front.c Front.nil) (zz8 39 rfl) (o := ⟨by omega, by rw [sD (by omega) hz, hk2]⟩)
 refine bJ (aG (aG (bj (ac (an (ah (zz0 (aa rfl) (zz0 (gj rfl de) ?_))))))))
 refine zz0 (aa rfl) (ad (aF ?_))
 have hz1 : fL (ob l) 0 l.length = 0 := by rw [← hk2]; exact sC (by omega)
 clear hk2 hk1 hm hadr hdk
 refine bL (ι := Nat) (fun k => k ≤ l.length ∧ fL (fun i => if pE l i = true then 10 else 0) k (l.length - k) = fL (fun i => if pE l i = true then 10 else 0) 0 l.length) (fun _ => _) (fun k => []) (fun k => [(54, .int .i64 (k : Nat))]) (fun k => l.length - k) 0 ⟨Nat.zero_le _, rfl⟩ (Front.c Front.nil) (by repeat' constructor) rfl (fun k hi m hm => ?_)
 replace hi : k ≤ l.length ∧ fL (fun i => if pE l i = true then 10 else 0) k (l.length - k) = fL (fun i => if pE l i = true then 10 else 0) 0 l.length := hi
 replace hm : m = l.length - k := hm
 change Tr _ _ [] ([(54, .int .i64 (k : Nat))] ++ _) _
 obtain ⟨hk1, hk2⟩ := hi
 refine ah (zz0 (bT rfl rfl) (ad (an ?_)))
 refine au rfl ?_ ?_ <;> intro h9 <;> try simp only [bs] at h9
 ·refine bC (an (aF (ah (zz0 (aa rfl) (zz0 (iH rfl rfl de dn) ?_)))))
  refine zz0 (pB rfl iP dn) ?_
  refine dC lH rfl (fun b10 => ?_)
  refine zz0 (ab rfl) (aB dJ rfl rfl dn ?_)
  refine aI (zz0 (aa rfl) (zz0 (aa rfl) (zz0 (CV (lv := none) (hv := some (_, _)) rfl rfl rfl de dn) ?_)))
  refine zz0 (eU rfl rfl) ?_
  refine zz0 (az rfl Tryz.call93 (fun w hw => m6 (l.take k) _ _ _ w (Sl.resl (l := 0) (h := k) (hw.slF hV) (by omega) (by omega)) Tryz.call99 (fun x => yn (jE x) (jE (l.getD k default))) (fun x hx w'' h => Ai x (l.getD k default) _ w'' (cellE.cellsIn (hw.ent _ (.head _)) h) (hB.2 x (List.mem_of_mem_take hx)) (hB.at (by omega))))) ?_
  refine ad ?_
  refine au rfl ?_ ?_ <;> intro h11 <;> try simp only [bs] at h11
  ·refine ah (zz0 (ab rfl) (ad (aC (bv (ay (ay (bv (ay ?_))))))))
   refine aX ik rfl (fun w' hw => ?_)
   exact ⟨by rw [Ga (k := k) (by assumption) hz1 (by omega) hk2 (by assumption)], hw.b0⟩
  refine cd (aY (ac (ar (zz0 (cB rfl rfl) ?_))))
  refine zz0 (aa rfl) (ad ?_)
  have hz : pE l k = false := by assumption
  refine cK (k + 1) (Front.c Front.nil) (zz8 14 rfl) (o := ⟨by omega, by rw [sD (by omega) (by rw [if_neg (by rw [hz]; decide)]), hk2]⟩)
 refine bJ (aG (aG (bj (ac (ah (zz0 (ab rfl) (ad (aC ?_))))))))
 refine aX ik rfl (fun w' hw => ?_)
 exact ⟨by rw [FZ (by assumption) hz1 (by rw [← hk2]; exact sC (by omega))], hw.b0⟩
end Go.Proofs.YtiajjbhcpeadfaaGreat
namespace Go.HL
open Go
theorem Hd {b : List UInt8} {addr : UInt32} : InsOK (m5 b addr).1 := by
  unfold m5
  split
  · exact ⟨by simp [cp, I64], by simp [cp, I64], by simp [cp, I64], by simp [cp, I64], by simp [cp, I64], by simp [cp, I64], by simp [cp, I64]⟩
  split
  · exact ⟨by simp [cp, I64], by simp [cp, I64], by simp [cp, I64], by simp [cp, I64], by simp [cp, I64], by simp [cp, I64], by simp [cp, I64]⟩
  split
  · exact ⟨by simp [cp, I64], by simp [cp, I64], by simp [cp, I64], by simp [cp, I64], by simp [cp, I64], by simp [cp, I64], by simp [cp, I64]⟩
  simp only
  split
  · exact ⟨by simp [cp, I64], by simp [cp, I64], by simp [cp, I64], by simp [cp, I64], by simp [cp, I64], by simp [cp, I64], by simp [cp, I64]⟩
  rename_i hr
  simp only [not_or, Bool.not_eq_false] at hr
  have ha := qI.1 hr.1
  have hb := qI.1 hr.2
  have hk := Dk (b.getD 0 default)
  generalize (rowP (b.getD 0 default)).1 = k at *
  generalize (bP k).2.1 = s at *
  have hs : ∀ s k b nx, (lG s k b nx).op = k.op ∧ (lG s k b nx).form = k.form ∧ (lG s k b nx).width = k.width ∧ (lG s k b nx).cc = k.cc ∧ (lG s k b nx).size = k.size := fun s k b nx => by
    unfold lG; repeat' split
    all_goals exact ⟨rfl, rfl, rfl, rfl, rfl⟩
  have hsz : 0 ≤ eZ s ∧ eZ s ≤ 6 := by unfold eZ; repeat' split
                                       all_goals omega
  have h1 := hs s { k with addr := addr, size := eZ s } b (addr + u32 (eZ s))
  unfold vT at *
  show InsOK (lG s { k with addr := addr, size := eZ s } b (addr + u32 (eZ s)))
  exact ⟨by rw [h1.1]; exact hk.op, by rw [h1.2.1]; exact hk.form, by rw [h1.2.2.1]; exact hk.width, by rw [h1.2.2.2.1]; exact hk.cc, by unfold I64; omega, by unfold I64; omega, by rw [h1.2.2.2.2]; unfold I64; show _ ≤ eZ s ∧ eZ s ≤ _; omega⟩
end Go.HL
namespace Go.HL
open Go
def Fl (a : UInt32) (n : Nat) : UInt32 := u32 ((IntKind.i32.wrap a.toNat).fdiv (2 ^ n))
def od (n : UInt32) : Nat := (n % 32).toNat
def qM (b : Bool) : UInt32 := if b = true then 1 else 0
def zQ (a b : UInt32) : Bool := decide (IntKind.i32.wrap a.toNat < IntKind.i32.wrap b.toNat)
def Hm (op : Int) (a b : UInt32) : UInt32 :=
 if op = 3 then a + b else if op = 4 then a - b else if op = 5 then a * b else if op = 6 then a &&& b else if op = 7 then a ||| b else if op = 8 then a ^^^ b
 else if op = 9 then mT a (od b) else if op = 10 then qD a (od b) else if op = 11 then Fl a (od b)
 else if op = 12 then qM (decide (a = b)) else if op = 13 then qM (decide (a ≠ b)) else if op = 14 then qM (zQ a b) else qM (decide (a < b))
def EL (op : Int) (a b : UInt32) : UInt32 × Int := if op < 3 ∨ 15 < op then (0, 2) else (Hm op a b, 0)
def leP : List UInt8 → UInt32
 | [] => 0
 | b :: t => b.toUInt32 + 256 * leP t
end Go.HL
namespace Go.HL
open Go Go.RowKit Go.MapKept
section
variable {α : Type}
def dI : List (UInt32 × α) → UInt32 → Option α
 | [], _ => none
 | p :: t, k => if k = p.1 then some p.2 else dI t k
def e8 : List (UInt32 × α) → UInt32 → α → List (UInt32 × α)
 | [], k, x => [(k, x)]
 | p :: t, k, x => if k = p.1 then (k, x) :: t else p :: e8 t k x
theorem ue (l : List (UInt32 × α)) (k j : UInt32) (x : α) : dI (e8 l k x) j = if j = k then some x else dI l j := by
 induction l with
 | nil => simp [e8, dI]
 | cons p t ih =>
  unfold e8
  by_cases h : k = p.1
  ·rw [if_pos h]
   unfold dI
   subst h
   by_cases c : j = p.1 <;> simp [c]
  ·rw [if_neg h]
   by_cases c : j = p.1
   ·have : ¬ j = k := fun q => h (q.symm.trans c)
    simp [dI, c, this]
    intro q; exact absurd q.symm h
   ·simp [dI, c, ih]
theorem rK (l : List (UInt32 × α)) (k : UInt32) (x : α) : (e8 l k x).map (·.1) = if (dI l k).isSome then l.map (·.1) else l.map (·.1) ++ [k] := by
 induction l with
 | nil => simp [e8, dI]
 | cons p t ih =>
  unfold e8 dI
  by_cases h : k = p.1
  ·simp [h]
  ·rw [if_neg h, if_neg h, List.map_cons, ih]
   split <;> simp_all
theorem ku {l : List (UInt32 × α)} {k : UInt32} : (dI l k).isSome = true ↔ k ∈ l.map (·.1) := by
 induction l with
 | nil => simp [dI]
 | cons p t ih =>
  unfold dI
  by_cases h : k = p.1
  ·simp [h]
  ·rw [if_neg h, ih]; simp [h]
theorem uc (l : List (UInt32 × α)) (k : UInt32) (x : α) : (e8 l k x).length ≤ l.length + 1 := by
 have := congrArg List.length (rK l k x)
 rw [List.length_map] at this
 split at this <;> simp at this <;> omega
theorem ly {l : List (UInt32 × α)} (k : UInt32) (x : α) (h : (l.map (·.1)).Nodup) : ((e8 l k x).map (·.1)).Nodup := by
 rw [rK]
 split
 ·exact h
 ·rename_i hk
  rw [List.nodup_append]
  refine ⟨h, by simp, fun a ha b hb => ?_⟩
  simp only [List.mem_singleton] at hb
  subst hb
  rintro rfl
  exact hk (ku.2 ha)
theorem yl {l : List (UInt32 × α)} (h : (l.map (·.1)).Nodup) {k : UInt32} {x : α} (hm : (k, x) ∈ l) : dI l k = some x := by
 induction l with
 | nil => cases hm
 | cons p t ih =>
  rw [List.map_cons, List.nodup_cons] at h
  unfold dI
  rcases List.mem_cons.1 hm with rfl | hm
  ·simp
  ·have : ¬ k = p.1 := fun q => h.1 (List.mem_map.2 ⟨_, hm, q⟩)
   rw [if_neg this]; exact ih h.2 hm
theorem sx {l : List (UInt32 × α)} {k : UInt32} {x : α} (h : dI l k = some x) : (k, x) ∈ l := by
 induction l with
 | nil => simp [dI] at h
 | cons p t ih =>
  unfold dI at h
  split at h
  ·rename_i e; cases h; subst e; exact .head _
  ·exact .tail _ (ih h)
theorem wF : ∀ (l : List (UInt32 × α)) {j : Nat} {p : UInt32 × α}, (l.map (·.1)).Nodup → l[j]? = some p → dI l p.1 = some p.2 ∧ ∀ x, e8 l p.1 x = l.set j (p.1, x)
 | [], j, p, _, h => by simp at h
 | q :: t, 0, p, _, h => by
  simp only [List.getElem?_cons_zero, Option.some.injEq] at h
  subst h
  exact ⟨by simp [dI], fun x => by simp [e8]⟩
 | q :: t, j + 1, p, hn, h => by
  rw [List.map_cons, List.nodup_cons] at hn
  simp only [List.getElem?_cons_succ] at h
  have hne : ¬ p.1 = q.1 := fun e => hn.1 (List.mem_map.2 ⟨p, List.mem_of_getElem? h, e⟩)
  obtain ⟨h1, h2⟩ := wF t hn.2 h
  exact ⟨by rw [dI, if_neg hne]; exact h1, fun x => by rw [e8, if_neg hne, h2 x]; rfl⟩
theorem qO {l : List (UInt32 × α)} {k : UInt32} (h : dI l k = none) (x : α) : e8 l k x = l ++ [(k, x)] := by
 induction l with
 | nil => rfl
 | cons p t ih =>
  unfold dI at h
  split at h
  ·cases h
  ·rename_i hk; rw [e8, if_neg hk, ih h]; rfl
end
def iD (k : UInt32) : Value := .int .u32 (k.toNat : Int)
theorem qS {a b : UInt32} (h : iD a = iD b) : a = b := by
 unfold iD at h
 injection h with _ h
 exact UInt32.toNat_inj.1 (by omega)
theorem lA (k : UInt32) : IsKey (.int .u32) (iD k) := by simp [IsKey, iD]
structure MapIs {α : Type} (f : α → Value) (l : List (UInt32 × α)) (es : Array MapEntry) (ck : Nat) : Prop where
 st : Stamped es ck
 ents : es.toList.map (fun e => (e.key, e.val)) = l.map fun p => (iD p.1, f p.2)
section
variable {α : Type} {f : α → Value} {l : List (UInt32 × α)} {es : Array MapEntry} {ck : Nat}
theorem MapIs.made : MapIs f [] #[] 0 := ⟨stamped_empty 0, rfl⟩
theorem MapIs.len (h : MapIs f l es ck) : es.size = l.length := by
 have := congrArg List.length h.ents
 simpa using this
theorem MapIs.keys (h : MapIs f l es ck) : es.toList.map (·.key) = l.map fun p => iD p.1 := by
 have := congrArg (List.map Prod.fst) h.ents
 rw [List.map_map, List.map_map] at this
 exact this
theorem MapIs.nodup (h : MapIs f l es ck) : (l.map (·.1)).Nodup := by
 have h1 := h.st.2.2
 rw [h.keys] at h1
 have e : (l.map fun p => iD p.1) = (l.map (·.1)).map iD := by rw [List.map_map]; rfl
 rw [e] at h1
 exact List.Pairwise.imp (fun {a b} hne q => hne (by rw [q])) (List.pairwise_map.1 h1)
theorem MapIs.isKey (h : MapIs f l es ck) : ∀ x ∈ es.toList, IsKey (.int .u32) x.key := by
 intro x hx
 have : x.key ∈ es.toList.map (·.key) := List.mem_map.2 ⟨x, hx, rfl⟩
 rw [h.keys] at this
 obtain ⟨p, _, e⟩ := List.mem_map.1 this
 rw [← e]; exact lA _
theorem MapIs.at_ (h : MapIs f l es ck) {j : Nat} {e : MapEntry} (he : es.toList[j]? = some e) : ∃ p, l[j]? = some p ∧ e.key = iD p.1 ∧ e.val = f p.2 := by
 have h1 : (es.toList.map (fun e => (e.key, e.val)))[j]? = some (e.key, e.val) := by rw [List.getElem?_map, he]; rfl
 rw [h.ents, List.getElem?_map] at h1
 cases hl : l[j]? with
 | none => rw [hl] at h1; cases h1
 | some p =>
  rw [hl] at h1
  simp only [Option.map_some, Option.some.injEq, Prod.mk.injEq] at h1
  exact ⟨p, rfl, h1.1.symm, h1.2.symm⟩
theorem MapIs.find (h : MapIs f l es ck) (k : UInt32) :
  (Instr.findNow (.int .u32) (iD k) es.toList 0 = some none ∧ dI l k = none ∧ ∀ x ∈ es.toList, x.key ≠ iD k) ∨
  ∃ (j : Nat) (e : MapEntry) (x : α), Instr.findNow (.int .u32) (iD k) es.toList 0 = some (some (j, f x)) ∧ es.toList[j]? = some e ∧ e.key = iD k ∧ l[j]? = some (k, x) ∧ dI l k = some x := by
 rcases findNow_spec (lA k) es.toList 0 h.isKey with ⟨h1, h2⟩ | ⟨j, e, h1, h2, h3⟩
 ·refine .inl ⟨h1, ?_, h2⟩
  cases hg : dI l k with
  | none => rfl
  | some x =>
   exfalso
   have hm := sx hg
   have : iD k ∈ es.toList.map (·.key) := by rw [h.keys]; exact List.mem_map.2 ⟨_, hm, rfl⟩
   obtain ⟨e, he, hk⟩ := List.mem_map.1 this
   exact h2 e he hk
 ·obtain ⟨p, p1, p2, p3⟩ := h.at_ h2
  have hk : p.1 = k := qS (p2.symm.trans h3)
  obtain ⟨pk, px⟩ := p
  simp only at hk p3
  subst hk
  exact .inr ⟨j, e, px, by rw [h1, p3]; simp, h2, h3, p1, (wF l h.nodup p1).1⟩
theorem MapIs.push (h : MapIs f l es ck) {k : UInt32} (hk : dI l k = none) (x : α) : MapIs f (e8 l k x) (es.push { key := iD k, val := f x, born := ck }) (ck + 1) := by
 refine ⟨stamped_push h.st ?_, ?_⟩
 ·intro e he q
  have : iD k ∈ es.toList.map (·.key) := List.mem_map.2 ⟨e, he, q⟩
  rw [h.keys] at this
  obtain ⟨p, hp, e⟩ := List.mem_map.1 this
  have h1 := ku.2 (List.mem_map.2 ⟨p, hp, qS e⟩ : k ∈ l.map (·.1))
  rw [hk] at h1; cases h1
 ·rw [qO hk, Array.toList_push, List.map_append, List.map_append, h.ents]; rfl
theorem MapIs.modify (h : MapIs f l es ck) {k : UInt32} {j : Nat} {e : MapEntry} {x0 : α} (he : es.toList[j]? = some e) (hk : e.key = iD k) (hl : l[j]? = some (k, x0)) (x : α) :
  MapIs f (e8 l k x) (es.modify j fun e => { e with key := iD k, val := f x }) ck := by
 have hj : es[j]? = some e := by simpa using he
 refine ⟨stamped_modify h.st _ _ (fun _ _ => rfl) (fun e' _ he' => by rw [hj] at he'; cases he'; exact hk.symm), ?_⟩
 rw [(wF l h.nodup hl).2 x]
 have hes := h.ents
 apply List.ext_getElem?
 intro i
 rw [List.getElem?_map, List.getElem?_map, Array.getElem?_toList, Array.getElem?_modify, List.getElem?_set]
 have hi : (es.toList.map (fun e => (e.key, e.val)))[i]? = (l.map fun p => (iD p.1, f p.2))[i]? := by rw [hes]
 rw [List.getElem?_map, List.getElem?_map, Array.getElem?_toList] at hi
 by_cases c : j = i
 ·subst c
  have hlt : j < l.length := (List.getElem?_eq_some_iff.1 hl).1
  simp [hj, hlt]
 ·simp only [c, if_false]; exact hi
end
def mapE {α : Type} (b : Nat) (f : α → Value) (l : List (UInt32 × α)) : Ent := ⟨some b, fun o => ∃ es ck, o = some (.map es ck) ∧ MapIs f l es ck⟩
def MapIn {α : Type} (h : Hp) (b : Nat) (f : α → Value) (l : List (UInt32 × α)) : Prop := ∃ es ck, h b = some (.map es ck) ∧ MapIs f l es ck
theorem MapIn.mono {α : Type} {h k : Hp} {b : Nat} {f : α → Value} {l : List (UInt32 × α)} (m : MapIn h b f l) (hk : Hp.le h k) : MapIn k b f l := by
 obtain ⟨es, ck, h1, h2⟩ := m
 exact ⟨es, ck, hk _ _ h1, h2⟩
theorem mapE.in_ {α : Type} {b : Nat} {f : α → Value} {l : List (UInt32 × α)} {w : World} (h : (mapE b f l).holds w) : MapIn (hp w) b f l := by
 obtain ⟨es, ck, h1, h2⟩ := h
 exact ⟨es, ck, h1, h2⟩
def ua {α : Type} (f : α → Value) (z : Value) : Option α → Value
 | some x => f x
 | none => z
section
variable {P : Program} {ops : Array Oper} {Q : Exit → Act → World → Prop} {N : Nat} {F : Bg} {L : List Ent} {M : Fr} {dst : Option Tmp} {ty : TypeId} {pos : String} {after : Array Edge} {g : Option (Nat × Bool)} {rest : List Oper} {d : Nat}
theorem nE {α : Type} {f : α → Value} {l : List (UInt32 × α)} {w : World} {t K e : TypeId} {z : Value} {b : Nat} (ht : P.underlying t = some (.map K e)) (hK : P.underlying K = some (.int .u32)) (hz : ∀ w, (zeroValue e).run P w = .ok z w)
  (hm : MapIn (HL.hp w) b f l) (k : UInt32) (c : Bool) : (Instr.lookup t (.map (some b)) (iD k) c).run P w = .ok (if c then .tuple #[ua f z (dI l k), .bool (dI l k).isSome] else ua f z (dI l k)) w := by
 obtain ⟨es, ck, hb, hm⟩ := hm
 replace hb : w.heap[b]? = some (.map es ck) := hb
 rcases hm.find k with ⟨h1, h2, _⟩ | ⟨j, e0, x, h1, _, _, _, h2⟩
 ·cases c <;> simp [Instr.lookup, run_underlying ht, Go.MapKept.run_getObj_map hb, run_checkKey hK (lA k), run_findKey hK h1, hz, Result.andThen, h2, ua]
 ·cases c <;> simp [Instr.lookup, run_underlying ht, Go.MapKept.run_getObj_map hb, run_checkKey hK (lA k), run_findKey hK h1, hz, Result.andThen, h2, ua]
theorem Gr {α : Type} {f : α → Value} {l : List (UInt32 × α)} {x y : Operand} {t K e : TypeId} {z : Value} {b : Nat} {k : UInt32} (hx : opv M x = some (.map (some b))) (hy : opv M y = some (.int .u32 k.toNat)) (hm : mapE b f l ∈ L)
  (ht : P.underlying t = some (.map K e)) (hK : P.underlying K = some (.int .u32)) (hz : ∀ w, (zeroValue e).run P w = .ok z w) : QS P N F L M ⟨dst, .lookup t x y false, ty, pos, after, g⟩ (ua f z (dI l k)) :=
 cx fun a w ha hw => by
  have hr := nE (P := P) ht hK hz (mapE.in_ (hw.ent _ hm)) k false
  simp only [iD] at hr
  simp [execOp, ha.eval hx, ha.eval hy, hr]
theorem wa {α : Type} {f : α → Value} {l : List (UInt32 × α)} {x y : Operand} {t K e : TypeId} {z : Value} {b : Nat} {k : UInt32} (hx : opv M x = some (.map (some b))) (hy : opv M y = some (.int .u32 k.toNat)) (hm : mapE b f l ∈ L)
  (ht : P.underlying t = some (.map K e)) (hK : P.underlying K = some (.int .u32)) (hz : ∀ w, (zeroValue e).run P w = .ok z w) : QS P N F L M ⟨dst, .lookup t x y true, ty, pos, after, g⟩ (.tuple #[ua f z (dI l k), .bool (dI l k).isSome]) :=
 cx fun a w ha hw => by
  have hr := nE (P := P) ht hK hz (mapE.in_ (hw.ent _ hm)) k true
  simp only [iD] at hr
  simp [execOp, ha.eval hx, ha.eval hy, hr]
theorem uK {α : Type} {f : α → Value} {l : List (UInt32 × α)} {x y : Operand} {t K e : TypeId} {z : Value} {b : Nat} {k : UInt32} (hx : opv M x = some (.map (some b))) (hy : opv M y = some (.int .u32 k.toNat)) (hm : MapIn F.blk b f l)
  (ht : P.underlying t = some (.map K e)) (hK : P.underlying K = some (.int .u32)) (hz : ∀ w, (zeroValue e).run P w = .ok z w) : QS P N F L M ⟨dst, .lookup t x y false, ty, pos, after, g⟩ (ua f z (dI l k)) :=
 cx fun a w ha hw => by
  have hr := nE (P := P) ht hK hz (hm.mono hw.bg) k false
  simp only [iD] at hr
  simp [execOp, ha.eval hx, ha.eval hy, hr]
theorem uJ {α : Type} {f : α → Value} {l : List (UInt32 × α)} {x y : Operand} {t K e : TypeId} {z : Value} {b : Nat} {k : UInt32} (hx : opv M x = some (.map (some b))) (hy : opv M y = some (.int .u32 k.toNat)) (hm : MapIn F.blk b f l)
  (ht : P.underlying t = some (.map K e)) (hK : P.underlying K = some (.int .u32)) (hz : ∀ w, (zeroValue e).run P w = .ok z w) : QS P N F L M ⟨dst, .lookup t x y true, ty, pos, after, g⟩ (.tuple #[ua f z (dI l k), .bool (dI l k).isSome]) :=
 cx fun a w ha hw => by
  have hr := nE (P := P) ht hK hz (hm.mono hw.bg) k true
  simp only [iD] at hr
  simp [execOp, ha.eval hx, ha.eval hy, hr]
def cX (x : Bool) : Value := .bool x
theorem vv (o : Option Bool) : ua cX (.bool false) o = .bool (o.getD false) := by cases o <;> rfl
theorem zm {l : List (UInt32 × Bool)} {x y : Operand} {t K e : TypeId} {b : Nat} {k : UInt32} (hx : opv M x = some (.map (some b))) (hy : opv M y = some (.int .u32 k.toNat)) (hm : mapE b cX l ∈ L)
  (ht : P.underlying t = some (.map K e)) (hK : P.underlying K = some (.int .u32)) (hz : ∀ w, (zeroValue e).run P w = .ok (.bool false) w) : QS P N F L M ⟨dst, .lookup t x y false, ty, pos, after, g⟩ (.bool ((dI l k).getD false)) := by
 have h := Gr (P := P) (N := N) (F := F) (L := L) (M := M) (dst := dst) (ty := ty) (pos := pos) (after := after) (g := g) hx hy hm ht hK hz
 rw [vv] at h; exact h
theorem CH {l : List (UInt32 × Bool)} {x y : Operand} {t K e : TypeId} {b : Nat} {k : UInt32} (hx : opv M x = some (.map (some b))) (hy : opv M y = some (.int .u32 k.toNat)) (hm : MapIn F.blk b cX l)
  (ht : P.underlying t = some (.map K e)) (hK : P.underlying K = some (.int .u32)) (hz : ∀ w, (zeroValue e).run P w = .ok (.bool false) w) : QS P N F L M ⟨dst, .lookup t x y false, ty, pos, after, g⟩ (.bool ((dI l k).getD false)) := by
 have h := uK (P := P) (N := N) (F := F) (L := L) (M := M) (dst := dst) (ty := ty) (pos := pos) (after := after) (g := g) hx hy hm ht hK hz
 rw [vv] at h; exact h
theorem gr {α : Type} (f : α → Value) {t : TypeId} (hd : Nat.ble (d + 1) N = true)
  (k : ∀ b, Tr N F (mapE b f [] :: L) ((d, .map (some b)) :: M) (wpList P ops Q rest)) : Tr N F L M (wpList P ops Q (⟨some d, .makeMap t none, ty, pos, after, none⟩ :: rest)) := by
 intro a w ha hw
 refine wpList_plain rfl fun K hK => ?_
 unfold Oper.wp
 have hr : (execOp a.eval ⟨some d, .makeMap t none, ty, pos, after, none⟩).run P w = .ok (.value (.map (some w.heap.size))) (w.alloc (.map #[] 0)) := by simp [execOp, Instr.makeMap]
 rw [hr]
 exact hK _ _ (k w.heap.size _ _ (ha.put (Nat.le_of_ble_eq_true hd)) (hw.alloc _ _ ⟨#[], 0, rfl, MapIs.made⟩))
theorem zA {α : Type} {f : α → Value} {l : List (UInt32 × α)} {w : World} {t K e : TypeId} {b : Nat} (ht : P.underlying t = some (.map K e)) (hK : P.underlying K = some (.int .u32)) (hm : MapIn (HL.hp w) b f l) (k : UInt32) (x : α) :
  ∃ es ck, (Instr.mapUpdate t (.map (some b)) (iD k) (f x)).run P w = .ok () { w with heap := w.heap.setIfInBounds b (.map es ck) } ∧ MapIs f (e8 l k x) es ck := by
 obtain ⟨es, ck, hb, hm⟩ := hm
 replace hb : w.heap[b]? = some (.map es ck) := hb
 rcases hm.find k with ⟨h1, h2, h3⟩ | ⟨j, e0, x0, h1, h2, h3, h4, h5⟩
 ·exact ⟨_, _, by simp [Instr.mapUpdate, run_underlying ht, Go.MapKept.run_getObj_map hb, run_checkKey hK (lA k), run_findKey hK h1, run_setObj_map _ hb, Result.andThen], hm.push h2 x⟩
 ·have hj : es[j]? = some e0 := by simpa using h2
  exact ⟨_, _, by simp [Instr.mapUpdate, run_underlying ht, Go.MapKept.run_getObj_map hb, run_checkKey hK (lA k), run_findKey hK h1, hj, h3, run_keyThatStays (lA k), run_setObj_map _ hb, Result.andThen], hm.modify h2 h3 h4 x⟩
theorem fW {α : Type} {f : α → Value} {l : List (UInt32 × α)} (x0 : α) {x y v : Operand} {t K e : TypeId} {b : Nat} {k : UInt32} {L' : List Ent} {dst : Option Tmp} (hx : opv M x = some (.map (some b))) (hy : opv M y = some (.int .u32 k.toNat)) (hv : opv M v = some (f x0))
  (hput : Put (mapE b f l) (mapE b f (e8 l k x0)) L L') (ht : P.underlying t = some (.map K e)) (hK : P.underlying K = some (.int .u32)) (hdst : dst = none)
  (Kk : Tr N F L' M (wpList P ops Q rest)) : Tr N F L M (wpList P ops Q (⟨dst, .mapUpdate t x y v, ty, pos, after, none⟩ :: rest)) := by
 subst hdst
 intro a w ha hw
 refine wpList_plain rfl fun K' hK' => ?_
 have hent := hw.ent _ hput.mem
 have hin : MapIn (HL.hp w) b f l := mapE.in_ hent
 obtain ⟨es0, ck0, hb, _⟩ := hin
 have hb' : w.heap[b]? = some (.map es0 ck0) := hb
 obtain ⟨es, ck, hr, hM⟩ := zA (P := P) ht hK (mapE.in_ hent) k x0
 simp only [iD] at hr
 unfold Oper.wp
 simp only [execOp, ha.eval hx, ha.eval hy, ha.eval hv, Sem.run_bind, hr, Result.andThen_ok, Sem.run_pure, Oper.upon, Act.put]
 refine hK' _ _ (Kk _ _ ha ?_)
 have hset := heap_set (o' := .map es ck) hb'
 exact HpOK.set hw hput rfl rfl rfl (by simp) (Nat.le_refl _) (fun k _ hkb => hset.2 k hkb) ⟨es, ck, hset.1, hM⟩
theorem CO {α : Type} {f : α → Value} {l : List (UInt32 × α)} {x : Operand} {t K e : TypeId} {b : Nat} (hx : opv M x = some (.map (some b))) (hm : mapE b f l ∈ L) (ht : P.underlying t = some (.map K e)) :
  QS P N F L M ⟨dst, .call { callee := .builtin .len, args := #[x], argTypes := #[t] }, ty, pos, after, g⟩ (.int .i64 (l.length : Nat)) :=
 cx fun a w ha hw => by
  obtain ⟨es, ck, hb, hm⟩ := mapE.in_ (hw.ent _ hm)
  replace hb : w.heap[b]? = some (.map es ck) := hb
  have hl := hm.len
  simp [execOp, resolve, invoke, builtin, Builtin.len_, ha.eval hx, run_underlying ht, Go.MapKept.run_getObj_map hb, goInt, hl]
theorem lN {α : Type} {b : Nat} {f : α → Value} {l : List (UInt32 × α)} {L1 : List Ent} {X : Act → World → Prop} (hm : Del (mapE b f l) L L1) (K : ∀ F', F.le F' → MapIn F'.blk b f l → Tr N F' L1 M X) : Tr N F L M X := by
 refine pm hm.perm.symm ?_
 intro a w ha hw
 have hin := mapE.in_ (hw.ent _ (.head _))
 have hnd := hw.nodup
 have hw1 : HpOK F L1 w := hw.mem (List.sublist_cons_self _ _)
 obtain ⟨F', h1, h2, h3⟩ := hw1.freeze
 obtain ⟨es, ck, hb, hM⟩ := hin
 refine K F' h1 ⟨es, ck, h3 b _ ?_ hb, hM⟩ a w ha h2
 intro hbm
 have : cT (mapE b f l :: L1) = b :: cT L1 := rfl
 rw [this, List.nodup_cons] at hnd
 exact hnd.1 hbm
end
end Go.HL
namespace Go.HL
open Go Go.RowKit
section
variable {P : Program} {ops : Array Oper} {Q : Exit → Act → World → Prop} {N : Nat} {F : Bg} {L : List Ent} {M : Fr} {ty : TypeId} {pos : String} {after : Array Edge} {rest : List Oper} {d : Nat} {op : Op}
theorem pM {α : Type} (E : Enc α) (x' : α) : ∀ (l : List α) (i : Nat), i < l.length → (l.set i x').flatMap E.enc = splice (l.flatMap E.enc) (i * E.k) (E.enc x')
 | [], i, h => by simp at h
 | y :: l, 0, _ => by
  simp only [List.set_cons_zero, List.flatMap_cons, Nat.zero_mul, splice, List.take_zero, List.nil_append, Nat.zero_add, E.len]
  rw [List.drop_append_of_le_length (by rw [E.len]; exact Nat.le_refl _), List.drop_of_length_le (by rw [E.len]; exact Nat.le_refl _)]; rfl
 | y :: l, i + 1, h => by
  have ih := pM E x' l i (by simpa using h)
  simp only [List.set_cons_succ, List.flatMap_cons, ih, splice]
  have hl : (E.enc y).length = E.k := E.len y
  rw [show (i + 1) * E.k = (E.enc y).length + i * E.k by rw [hl, Nat.add_mul]; omega, List.take_length_add_append, show (E.enc y).length + i * E.k + (E.enc x').length = (E.enc y).length + (i * E.k + (E.enc x').length) by omega, List.drop_length_add_append]
  simp only [List.append_assoc]
theorem xN {cs v : List Value} {o n : Nat} (h : o + v.length ≤ n) (hn : n ≤ cs.length) : (splice cs o v).take n = splice (cs.take n) o v := by
 apply List.ext_getElem?
 intro q
 simp only [splice, List.getElem?_take, List.getElem?_append, List.length_take, List.getElem?_drop, List.length_append]
 grind
theorem Aw {α : Type} {E : Enc α} {l : List α} (x' : α) {x y : Operand} {t T : TypeId} {V v : Value} {i : Nat} {L' : List Ent} {dst : Option Tmp} (hx : opv M x = some (.pointer (some ⟨bk V, ofs V + i * E.k, none⟩))) (hy : opv M y = some v)
  (hz : ∀ w, (sizeOf t).run P w = .ok E.k w) (hput : Put (rowE V T E l) (rowE V T E (l.set i x')) L L') (hi : i < l.length) (hc : v.cells.toList = E.enc x') (hdst : dst = none)
  (K : Tr N F L' M (wpList P ops Q rest)) : Tr N F L M (wpList P ops Q (⟨dst, .store t x y, ty, pos, after, none⟩ :: rest)) := by
 subst hdst
 intro a w ha hw
 refine wpList_plain rfl fun K' hK => ?_
 have hr : RowOK V T E l (V.ownBlock.bind (w.heap[·]?)) := hw.ent _ hput.mem
 rcases hr with ⟨_, rfl⟩ | ⟨gb, cap, cur, rfl, ho, hc1, hc2, hc3, hc4⟩
 ·simp at hi
 ·have ho' : w.heap[gb]? = some (.cells cur T (0, 0)) := ho
  have hlt : i * E.k + E.k ≤ l.length * E.k := by rw [← Nat.succ_mul]; exact Nat.mul_le_mul_right _ hi
  have hle : l.length * E.k ≤ cur.size := Nat.le_trans (Nat.mul_le_mul_right _ hc1) hc3
  have hs : v.cells.size = E.k := by have := congrArg List.length hc; rw [E.len] at this; simpa using this
  have hst := tM (P := P) (w := w) (b := gb) (o := i * E.k) (cs := cur.toList) (T := T) (t := t) (v := v) (by simpa using ho') hz hs (by simp; omega) (by rw [hc]; intro u hu; exact E.one _ _ hu)
  simp only [bk, ofs, Nat.zero_add] at hx
  unfold Oper.wp
  simp only [execOp, ha.eval hx, ha.eval hy, Sem.run_bind, hst, Result.andThen_ok, Sem.run_pure, Oper.upon, Act.put]
  refine hK _ _ (K _ _ ha ?_)
  have e1 : rowE (.slice (some ⟨gb, 0, none⟩) l.length cap) T E l = ⟨some gb, RowOK (.slice (some ⟨gb, 0, none⟩) l.length cap) T E l⟩ := rfl
  have e2 : rowE (.slice (some ⟨gb, 0, none⟩) l.length cap) T E (l.set i x') = ⟨some gb, RowOK (.slice (some ⟨gb, 0, none⟩) l.length cap) T E (l.set i x')⟩ := rfl
  rw [e1, e2] at hput
  refine HpOK.set hw hput rfl rfl rfl (by simp) (Nat.le_refl _) (fun k _ hkb => setRow_other w gb k _ hkb) ?_
  rw [setRow_heap w gb _ _ T (0, 0) ho']
  have hll : (l.set i x').length = l.length := by simp
  refine .inr ⟨gb, cap, _, by rw [hll], rfl, by rw [hll]; exact hc1, hc2, ?_, ?_⟩
  ·rw [List.size_toArray]
   simp only [splice, hc, List.length_append, List.length_take, List.length_drop, Array.length_toList, E.len]
   omega
  ·rw [hll, pM E x' l i hi, ← hc4, hc, List.toList_toArray]
   refine xN ?_ ?_
   ·rw [E.len]; omega
   ·rw [Array.length_toList]; exact hle
theorem fV {α : Type} {E : Enc α} {l : List α} (x' : α) {x y : Operand} {t T : TypeId} {V v : Value} {i : Nat} {L' : List Ent} {dst : Option Tmp} (hx : opv M x = some (.pointer (some ⟨bk V, ofs V + i * E.k, none⟩))) (hy : opv M y = some v) (hz : ∀ w, (sizeOf t).run P w = .ok E.k w) (K : Tr N F L' M (wpList P ops Q rest)) (hput : Put (rowE V T E l) (rowE V T E (l.set i x')) L L' := by repeat constructor) (hi : i < l.length := by (try simp only [List.length_set]); omega) (hc : v.cells.toList = E.enc x' := by rfl) (hdst : dst = none := by rfl) : Tr N F L M (wpList P ops Q (⟨dst, .store t x y, ty, pos, after, none⟩ :: rest)) := Aw x' hx hy hz hput hi hc hdst K
theorem gI {α : Type} {E : Enc α} {l : List α} (R : List α → Prop) {V : Value} {T : TypeId} {f : FuncId} {xs : List Operand} {vs : List Value} {ts : Array TypeId} {v : Value} {L0 : List Ent} (hx : kM M xs = some vs)
  (he : ∀ (args : Array Value) (w : World), (callFunc f args).run P w = .ok (.enter f args) w)
  (hc : ∀ w, HpOK F (rowE V T E l :: L0) w → Calls P f vs.toArray w fun e w' => e = .returned v ∧ ∃ l', R l' ∧ Mut w w' V ∧ (rowE V T E l').holds w') (hd : Nat.ble (d + 1) N = true)
  (K : ∀ l', R l' → Tr N F (rowE V T E l' :: L0) ((d, v) :: M) (wpList P ops Q rest)) :
  Tr N F (rowE V T E l :: L0) M (wpList P ops Q (⟨some d, .call { callee := .value (.func f), args := xs.toArray, argTypes := ts }, ty, pos, after, none⟩ :: rest)) := by
 intro a w ha hw
 refine wpList_plain rfl fun K' hK => ?_
 have hr : (execOp a.eval ⟨some d, .call { callee := .value (.func f), args := xs.toArray, argTypes := ts }, ty, pos, after, none⟩).run P w = .ok (.enter f vs.toArray) w := by
  have := ha.evals hx
  simp [execOp, resolve, Deferred.ofValue, Act.eval, invoke, he, this]
 unfold Oper.wp
 rw [hr]
 refine (hc w hw).mono fun e w' ⟨h1, l', h0, h2, h3⟩ => ?_
 subst h1
 exact hK _ _ (K l' h0 _ _ (ha.put (Nat.le_of_ble_eq_true hd)) (hw.mut (.here _) h2 h3))
theorem gp {α : Type} {E : Enc α} {l l' : List α} {V : Value} {T : TypeId} {L0 : List Ent} {X : Act → World → Prop} (h : l = l') (K : Tr N F (rowE V T E l' :: L0) M X) : Tr N F (rowE V T E l :: L0) M X := h ▸ K
theorem tt {m : Int} {x y : Operand} {t u : TypeId} {g : Option (Nat × Bool)} {dst : Option Tmp} (hx : opv M x = some (.int .u64 m)) (hy : opv M y = some (.int .u64 1)) (hm : 0 ≤ m) :
  QS P N F L M ⟨dst, .binOp .shr t x y u, ty, pos, after, g⟩ (.int .u64 (m / 2)) := by
 have h := sj (P := P) (N := N) (F := F) (L := L) (dst := dst) (t := t) (u := u) (ty := ty) (pos := pos) (after := after) (g := g) hx hy (by decide)
 rw [show m.fdiv (2 ^ min (1 : Int).toNat IntKind.u64.bits) = m / 2 from Int.fdiv_eq_ediv_of_nonneg _ (by decide)] at h
 exact h
theorem gh {X : Act → Prop} {v : Value} (h : ∀ F, QS P N F [] M ⟨some d, op, ty, pos, after, none⟩ v) (hp : kY op = true) (hd : Nat.ble (d + 1) N = true) (k : TrQ N ((d, v) :: M) (kH P ops X rest)) :
  TrQ N M (kH P ops X (⟨some d, op, ty, pos, after, none⟩ :: rest)) := fun a ha =>
 ⟨v, .inl ⟨by simp [Region.wanted], fun w => qi (h (Bg.of w)) hp ha (HpOK.start w)⟩, k _ (ha.put (Nat.le_of_ble_eq_true hd))⟩
end
end Go.HL
namespace Go.HL
open Go Go.RowKit
inductive Split : List Ent → List Ent → List Ent → Prop
 | nil (L : List Ent) : Split L [] L
 | cons {e : Ent} {L L1 Lo R : List Ent} (h : Del e L L1) (k : Split L1 Lo R) : Split L (e :: Lo) R
theorem Split.perm {L Lo R : List Ent} (h : Split L Lo R) : L.Perm (Lo ++ R) := by
 induction h with
 | nil L => exact .refl _
 | cons h _ ih => exact h.perm.trans (ih.cons _)
structure OwnAt (w : World) (L : List Ent) : Prop where
 ent : ∀ e ∈ L, e.holds w
 nodup : (cT L).Nodup
 lt : ∀ b ∈ cT L, b < w.heap.size
theorem HpOK.ownAt {F : Bg} {L : List Ent} {w : World} (h : HpOK F L w) : OwnAt w L := ⟨h.ent, h.nodup, h.lt⟩
theorem OwnAt.left {w : World} {A B : List Ent} (h : OwnAt w (A ++ B)) : OwnAt w A := by
 have hb : cT (A ++ B) = cT A ++ cT B := List.filterMap_append
 exact ⟨fun e he => h.ent e (List.mem_append_left _ he), (List.nodup_append.1 (hb ▸ h.nodup)).1, fun b m => h.lt b (by rw [hb]; exact List.mem_append_left _ m)⟩
def Bg.lessB (w : World) (bs : List Nat) (d : Nat) : Bg := ⟨fun b => if b ∈ bs then none else w.heap[b]?, w.heap.size, d, w.os, w.tape, w.output, 0, Nat.zero_le _⟩
theorem OwnAt.start {w : World} {L : List Ent} {d : Nat} (h : OwnAt w L) (hd : d ≤ w.drawn) : HpOK (Bg.lessB w (cT L) d) L w := by
 refine ⟨rfl, rfl, rfl, Nat.le_refl _, hd, fun b o e => ?_, h.ent, h.nodup, h.lt, fun b m => ⟨?_, Nat.zero_le _⟩⟩
 ·have e' : (if b ∈ cT L then none else w.heap[b]?) = some o := e
  split at e'
  ·cases e'
  ·exact e'
 ·show (if b ∈ cT L then none else w.heap[b]?) = none
  rw [if_pos m]
theorem HpOK.lessB {F : Bg} {L Lo R : List Ent} {w : World} {d : Nat} (h : HpOK F L w) (hs : Split L Lo R) : Hp.le F.blk (Bg.lessB w (cT Lo) d).blk := fun b o e => by
 show (if b ∈ cT Lo then none else w.heap[b]?) = some o
 rw [if_neg, h.bg b o e]
 intro m
 have hb : cT (Lo ++ R) = cT Lo ++ cT R := List.filterMap_append
 have := (h.perm hs.perm.symm).sep b (by rw [hb]; exact List.mem_append_left _ m)
 rw [this.1] at e; cases e
structure Upd (d : Nat) (w w' : World) (bs : List Nat) (Ls : List Ent) : Prop where
 os : w'.os = w.os
 tape : w'.tape = w.tape
 output : w'.output = w.output
 size : w.heap.size ≤ w'.heap.size
 dr : d ≤ w'.drawn
 block : ∀ k, k < w.heap.size → k ∉ bs → w'.heap[k]? = w.heap[k]?
 ent : ∀ e ∈ Ls, e.holds w'
 nodup : (cT Ls).Nodup
 lt : ∀ b ∈ cT Ls, b < w'.heap.size
 own : ∀ b ∈ cT Ls, b ∈ bs ∨ w.heap.size ≤ b
theorem HpOK.upd {F : Bg} {L Ls : List Ent} {w w' : World} {bs : List Nat} {d : Nat} (h : HpOK F L w') (hF : (Bg.lessB w bs d).le F) (hs : Pick L Ls) : Upd d w w' bs Ls := by
 have h' := hs.heap h
 refine ⟨h.os.trans hF.os, h.tape.trans hF.tape, h.out.trans hF.out, Nat.le_trans hF.n h.n, by have := h.dr; rw [hF.dr] at this; exact this, fun k hk hn => ?_, h'.ent, h'.nodup, h'.lt, fun b hb => ?_⟩
 ·have e : (Bg.lessB w bs d).blk k = some w.heap[k] := by
   show (if k ∈ bs then none else w.heap[k]?) = _
   rw [if_neg hn]; simp [hk]
  rw [h.bg k _ (hF.blk k _ e)]; simp [hk]
 ·by_cases hm : b ∈ bs
  ·exact .inl hm
  ·right
   rcases Nat.lt_or_ge b w.heap.size with hlt | hge
   ·have e : (Bg.lessB w bs d).blk b = some w.heap[b] := by
     show (if b ∈ bs then none else w.heap[b]?) = _
     rw [if_neg hm]; simp [hlt]
    have := (h'.sep b hb).1
    rw [hF.blk b _ e] at this; cases this
   ·exact hge
theorem HpOK.updated {F : Bg} {Lo R Ls : List Ent} {w w' : World} {d : Nat} (h : HpOK F (Lo ++ R) w) (hd : F.dr ≤ d) (u : Upd d w w' (cT Lo) Ls) : HpOK F (Ls ++ R) w' := by
 have hb : cT (Lo ++ R) = cT Lo ++ cT R := List.filterMap_append
 have hb' : cT (Ls ++ R) = cT Ls ++ cT R := List.filterMap_append
 have hnd := List.nodup_append.1 (hb ▸ h.nodup)
 have notR : ∀ b ∈ cT R, b ∉ cT Lo := fun b hr hl => hnd.2.2 b hl b hr rfl
 have ltR : ∀ b ∈ cT R, b < w.heap.size := fun b hr => h.lt b (by rw [hb]; exact List.mem_append_right _ hr)
 refine ⟨u.os.trans h.os, u.tape.trans h.tape, u.output.trans h.out, Nat.le_trans h.n u.size, Nat.le_trans hd u.dr, fun b o e => ?_, fun e he => ?_, ?_, fun b m => ?_, fun b m => ?_⟩
 ·have h1 := h.bg b o e
  rw [u.block b (Array.getElem?_eq_some_iff.1 h1).1 (fun m => by
   have := (h.sep b (by rw [hb]; exact List.mem_append_left _ m)).1
   rw [this] at e; cases e)]
  exact h1
 ·rcases List.mem_append.1 he with he | he
  ·exact u.ent e he
  ·have hh := h.ent e (List.mem_append_right _ he)
   unfold Ent.holds at *
   cases hk : e.blk with
   | none => rw [hk] at hh; exact hh
   | some b =>
    rw [hk] at hh
    simp only [Option.bind_some] at *
    have hm : b ∈ cT R := List.mem_filterMap.2 ⟨e, he, hk⟩
    rw [u.block b (ltR b hm) (notR b hm)]; exact hh
 ·rw [hb', List.nodup_append]
  refine ⟨u.nodup, hnd.2.1, fun a ha b hr e => ?_⟩
  subst e
  rcases u.own a ha with m | m
  ·exact notR a hr m
  ·have := ltR a hr; omega
 ·rw [hb'] at m
  rcases List.mem_append.1 m with m | m
  ·exact u.lt b m
  ·exact Nat.lt_of_lt_of_le (ltR b m) u.size
 ·rw [hb'] at m
  rcases List.mem_append.1 m with m | m
  ·rcases u.own b m with q | q
   ·exact h.sep b (by rw [hb]; exact List.mem_append_left _ q)
   ·refine ⟨?_, Nat.le_trans (Nat.le_trans F.lo_le h.n) q⟩
    cases hF : F.blk b with
    | none => rfl
    | some o =>
     have := h.bg _ _ hF
     have := (Array.getElem?_eq_some_iff.1 this).1
     omega
  ·exact h.sep b (by rw [hb]; exact List.mem_append_right _ m)
section
variable {P : Program} {ops : Array Oper} {Q : Exit → Act → World → Prop} {N : Nat} {F : Bg} {L : List Ent} {M : Fr} {ty : TypeId} {pos : String} {after : Array Edge} {rest : List Oper} {d : Nat}
theorem pZ {L : List Ent} {bs : List Nat} {f : FuncId} {fn : Func} {c : Code} {args : List Value} {w : World} {R : Ending → World → Prop} {dd : Nat} (ho : OwnAt w L) (hbs : cT L = bs) (hdd : dd ≤ w.drawn) (hf : P.funcs[f]? = some fn) (hb : fn.body = some c) (hN : fn.ntmps = N) (hle : Nat.ble args.length N = true)
  (h : Tr N (Bg.lessB w bs dd) L (kb 0 args) (c.wp P (bodyPost P fn R))) (hN0 : Nat.ble N mk0 = true := by rfl) : Calls P f args.toArray w R := by
 subst hbs
 exact calls_of_wp hf hb (h _ w (lC (by rw [hN]; simp) hle hN0) (ho.start hdd))
theorem AC {ι : Type} (φ : ι → Value) (Lo : List Ent) (Ls : ι → List Ent) {ok : ι → Prop} {f : FuncId} {xs : List Operand} {vs : List Value} {ts : Array TypeId} {R : List Ent} {dd : World → Nat} {dst : Option Tmp} (hx : kM M xs = some vs)
  (he : ∀ (args : Array Value) (w : World), (callFunc f args).run P w = .ok (.enter f args) w) (hs : Split L Lo R) (hdd : ∀ w, HpOK F L w → F.dr ≤ dd w)
  (hc : ∀ w, HpOK F L w → Calls P f vs.toArray w fun e w' => ∃ i, e = .returned (φ i) ∧ Upd (dd w) w w' (cT Lo) (Ls i) ∧ ok i)
  (K : ∀ i, ok i → ∀ a w, FrOK N M a → HpOK F (Ls i ++ R) w → wpList P ops Q rest (a.put dst (φ i)) w) :
  Tr N F L M (wpList P ops Q (⟨dst, .call { callee := .value (.func f), args := xs.toArray, argTypes := ts }, ty, pos, after, none⟩ :: rest)) := by
 intro a w ha hw
 refine wpList_plain rfl fun K' hK => ?_
 have hr : (execOp a.eval ⟨dst, .call { callee := .value (.func f), args := xs.toArray, argTypes := ts }, ty, pos, after, none⟩).run P w = .ok (.enter f vs.toArray) w := by
  have := ha.evals hx
  simp [execOp, resolve, Deferred.ofValue, Act.eval, invoke, he, this]
 unfold Oper.wp
 rw [hr]
 refine (hc w hw).mono fun e w' ⟨i, h1, h2, h3⟩ => ?_
 subst h1
 exact hK _ _ (K i h3 _ _ ha ((hw.perm hs.perm.symm).updated (hdd w hw) h2))
theorem ir {ι : Type} (φ : ι → Value) (Lo : List Ent) (Ls : ι → List Ent) {ok : ι → Prop} {f : FuncId} {xs : List Operand} {vs : List Value} {ts : Array TypeId} {R : List Ent} {dd : World → Nat} (hx : kM M xs = some vs)
  (he : ∀ (args : Array Value) (w : World), (callFunc f args).run P w = .ok (.enter f args) w) (hs : Split L Lo R) (hdd : ∀ w, HpOK F L w → F.dr ≤ dd w)
  (hc : ∀ w, HpOK F L w → Calls P f vs.toArray w fun e w' => ∃ i, e = .returned (φ i) ∧ Upd (dd w) w w' (cT Lo) (Ls i) ∧ ok i) (hd : Nat.ble (d + 1) N = true)
  (K : ∀ i, ok i → Tr N F (Ls i ++ R) ((d, φ i) :: M) (wpList P ops Q rest)) :
  Tr N F L M (wpList P ops Q (⟨some d, .call { callee := .value (.func f), args := xs.toArray, argTypes := ts }, ty, pos, after, none⟩ :: rest)) :=
 AC φ Lo Ls hx he hs hdd hc fun i hi a w ha hw => K i hi _ _ (ha.put (Nat.le_of_ble_eq_true hd)) hw
end
end Go.HL
namespace Go.HL
open Go Go.RowKit
def Bg.of0 (w : World) : Bg := { Bg.of w with dr := 0 }
theorem HpOK.start0 (w : World) : HpOK (Bg.of0 w) [] w :=
 ⟨rfl, rfl, rfl, Nat.le_refl _, Nat.zero_le _, fun _ _ h => h, fun _ h => (by cases h), (by simp [cT]), fun _ h => (by simp [cT] at h), fun _ h => (by simp [cT] at h)⟩
theorem HpOK.below0 {w0 w : World} {F : Bg} {L : List Ent} (h : HpOK F L w) (hF : (Bg.of0 w0).le F) : Below w0.heap.size w0 w :=
 ⟨h.os.trans hF.os, h.tape.trans hF.tape, h.out.trans hF.out, Nat.le_trans hF.n h.n, fun k hk => by
  have e : (Bg.of0 w0).blk k = some w0.heap[k] := by simp [Bg.of0, Bg.of, hk]
  rw [h.bg k _ (hF.blk k _ e)]; simp [hk]⟩
def CellsOnly (L : List Ent) : Prop := ∀ e ∈ L, ∀ b, e.blk = some b → ∀ o, e.ok (some o) → o.isCells = true
theorem CellsOnly.nil : CellsOnly [] := fun _ h => by cases h
theorem CellsOnly.cell {b : Nat} {cs : List Value} {T : TypeId} {L : List Ent} (h : CellsOnly L) : CellsOnly (cellE b cs T :: L) := fun e he => by
 rcases List.mem_cons.1 he with rfl | he
 ·intro _ _ o ho; cases ho; rfl
 ·exact h e he
theorem CellsOnly.row {α : Type} {V : Value} {T : TypeId} {E : Enc α} {l : List α} {L : List Ent} (h : CellsOnly L) : CellsOnly (rowE V T E l :: L) := fun e he => by
 rcases List.mem_cons.1 he with rfl | he
 ·intro b hb o ho
  rcases ho with ⟨rfl, _⟩ | ⟨g, cap, cur, _, ho, _⟩
  ·cases hb
  ·cases ho; rfl
 ·exact h e he
theorem tg {F : Bg} {L : List Ent} {w : World} (h : HpOK F L w) (hc : CellsOnly L) {b : Nat} (hb : b ∈ cT L) : ∃ o, w.heap[b]? = some o ∧ o.isCells = true := by
 obtain ⟨e, he, hk⟩ := List.mem_filterMap.1 hb
 have hlt := h.lt b hb
 have hh := h.ent e he
 unfold Ent.holds at hh
 rw [hk, Option.bind_some, Array.getElem?_eq_getElem hlt] at hh
 exact ⟨_, Array.getElem?_eq_getElem hlt, hc e he b hk _ hh⟩
theorem HpOK.turned {F : Bg} {L : List Ent} {w w' : World} {row : Option Nat} {B : Nat} (h : HpOK F L w) (hc : CellsOnly L) (h0 : F.dr = 0) (hB : ∀ b o, F.blk b = some o → b < B) (hg : w.grownBy w' row)
  (hr : ∀ r, row = some r → B ≤ r ∧ ∃ o : Obj, w.heap[r]? = some o ∧ o.isCells = false) : HpOK F L w' := by
 refine ⟨hg.os.trans h.os, hg.tape.trans h.tape, hg.output.trans h.out, Nat.le_trans h.n hg.size, by rw [h0]; exact Nat.zero_le _, fun b o e => ?_, fun e he => ?_, h.nodup, fun b hm => Nat.lt_of_lt_of_le (h.lt b hm) hg.size, h.sep⟩
 ·have := h.bg b o e
  rw [hg.block b (Array.getElem?_eq_some_iff.1 this).1 (fun e2 => by have := (hr b e2.symm).1; have := hB b o e; omega)]; exact this
 ·have hh := h.ent e he
  unfold Ent.holds at *
  cases hk : e.blk with
  | none => rw [hk] at hh; exact hh
  | some b =>
   rw [hk] at hh
   simp only [Option.bind_some] at *
   have hb : b ∈ cT L := List.mem_filterMap.2 ⟨e, he, hk⟩
   obtain ⟨o, ho, hoc⟩ := tg h hc hb
   rw [hg.block b (h.lt b hb) (fun e2 => by
    obtain ⟨_, o2, ho2, hn⟩ := hr b e2.symm
    rw [ho] at ho2; cases ho2; rw [hoc] at hn; cases hn)]
   exact hh
theorem HpOK.weaken {F G : Bg} {L : List Ent} {w : World} (h : HpOK G L w) (hF : F.le G) : HpOK F L w :=
 ⟨h.os.trans hF.os, h.tape.trans hF.tape, h.out.trans hF.out, Nat.le_trans hF.n h.n, by rw [← hF.dr]; exact h.dr, fun b o e => h.bg b o (hF.blk b o e), h.ent, h.nodup, h.lt, fun b hb => by
  refine ⟨?_, by rw [← hF.lo]; exact (h.sep b hb).2⟩
  cases e : F.blk b with
  | none => rfl
  | some o =>
   have h2 := hF.blk b o e
   rw [(h.sep b hb).1] at h2
   cases h2⟩
theorem HpOK.freezeN {F : Bg} {L : List Ent} {w : World} (h : HpOK F L w) : ∃ F', F.le F' ∧ HpOK F' L w ∧ F'.n = w.heap.size ∧ ∀ b o, b ∉ cT L → w.heap[b]? = some o → F'.blk b = some o := by
 refine ⟨{ F with blk := fun b => if b ∈ cT L then none else w.heap[b]?, n := w.heap.size, lo_le := Nat.le_trans F.lo_le h.n }, ⟨fun b o e => ?_, h.n, rfl, rfl, rfl, rfl, rfl⟩, ⟨h.os, h.tape, h.out, Nat.le_refl _, h.dr, fun b o e => ?_, h.ent, h.nodup, h.lt, fun b hb => ⟨?_, (h.sep b hb).2⟩⟩, rfl, fun b o hb e => ?_⟩
 ·have hn : b ∉ cT L := fun hb => by rw [(h.sep b hb).1] at e; cases e
  show (if b ∈ cT L then none else w.heap[b]?) = some o
  rw [if_neg hn]; exact h.bg b o e
 ·have e' : (if b ∈ cT L then none else w.heap[b]?) = some o := e
  split at e'
  ·cases e'
  ·exact e'
 ·show (if b ∈ cT L then none else w.heap[b]?) = none
  rw [if_pos hb]
 ·show (if b ∈ cT L then none else w.heap[b]?) = some o
  rw [if_neg hb]; exact e
section
variable {P : Program} {ops : Array Oper} {Q : Exit → Act → World → Prop} {N : Nat} {F : Bg} {L : List Ent} {M : Fr} {l0 n : Nat}
def td (l : List Oper) : Bool := l.all fun o => match o.op with | .defer _ => false | _ => true
theorem Oper.wp_in {o : Oper} {a : Act} {w : World} {K K' : Act → World → Prop} (hd : ∀ c, o.op ≠ .defer c) (hK : ∀ a w, K a w → K' a w) (h : o.wp P a w K Q) : o.wpIn (Fence.wide.inRound l0) n P a w K' Q := by
 have h := Oper.wp_mono hK h
 refine ⟨fun _ _ => trivial, ?_⟩
 rw [Oper.semAt_eq _ _ _ hd]
 unfold Oper.wp at h
 cases hr : (execOp a.eval o).run P w with
 | ok nx w' =>
  rw [hr] at h
  cases nx with
  | value v => exact h
  | skip => exact h
  | defer d => exact h
  | enter f args =>
   refine ⟨fun h => ?_, CallsIn.inRound l0 (callsIn_wide.2 h)⟩
   cases h
  | row r args =>
   refine ⟨fun h => ?_, fun c cs _ => ?_⟩
   ·cases h
   ·obtain ⟨v, w', r, s⟩ := h c cs
    exact ⟨v, w', r, (stepsIn_wide.2 s : StepsIn (Machine.fenced P Fence.wide) P _ _)⟩
  | _ => exact h.elim
 | halt e w' =>
  rw [hr] at h
  cases e <;> first | exact h | exact h.elim
theorem og (hno : ¬ LetsOut Q) : ∀ (l : List Oper) (a : Act) (w : World), td l = true → wpList P ops Q l a w → wpListIn (Fence.wide.inRound l0) n P ops Q l a w
 | [], _, _, _, h => h
 | o :: rest, a, w, hd, h => by
  have hd1 : (∀ c, o.op ≠ .defer c) ∧ td rest = true := by
   simp only [td, List.all_cons, Bool.and_eq_true] at hd ⊢
   refine ⟨fun c e => ?_, hd.2⟩
   rw [e] at hd; simp at hd
  unfold wpList at h
  unfold wpListIn
  split
  ·rename_i hw
   rw [if_pos hw] at h
   rcases h with h | h
   ·exact Oper.wp_in hd1.1 (fun a w k => og hno rest a w hd1.2 k) h
   ·exact absurd h.2 hno
  ·rename_i hw
   rw [if_neg hw] at h
   exact ⟨fun _ _ => trivial, og hno rest _ w hd1.2 h⟩
theorem H7 {id : Nat} (h : ¬ LetsOut Q) : ¬ LetsOut (Exit.inBlock id Q) := h
theorem DU {K : Act → World → Prop} : ¬ LetsOut (fun e a w => e = Exit.normal ∧ K a w) := fun ⟨_, _, h, _⟩ => by cases h
theorem Az {id : Nat} {l : List Oper} (hno : ¬ LetsOut Q) (hd : td l = true) (h : Tr N F L M (wpList P l.toArray Q l)) : Tr N F L M ((Code.region id l.toArray false).wpIn (Fence.wide.inRound l0) n P Q) :=
 fun a w ha hw => wpIn_region_lit (og hno l a w hd (h a w ha hw))
theorem AD {id : Nat} {c : Code} (h : Tr N F L M (c.wpIn (Fence.wide.inRound l0) n P (Exit.inBlock id Q))) : Tr N F L M ((Code.block id c).wpIn (Fence.wide.inRound l0) n P Q) := fun a w ha hw => wpIn_block (h a w ha hw)
end
def qc (M : Fr) : Fr := M.filter fun e => Nat.blt e.1 mk0
theorem iL : ∀ (M : Fr) (t : Nat), look (qc M) t = if t < mk0 then look M t else none
 | [], t => by simp [qc, look]
 | (d, v) :: M, t => by
  have ih := iL M t
  unfold qc at *
  rw [List.filter_cons]
  by_cases h : d < mk0
  ·rw [if_pos (by simp only [Nat.blt, Nat.ble_eq]; omega), dm, dm, ih]
   by_cases e : d = t
   ·subst e; simp [h]
   ·simp [e]
  ·rw [if_neg (by simp only [Nat.blt, Nat.ble_eq]; omega), ih, dm]
   by_cases e : d = t
   ·subst e; simp [h]
   ·simp [e]
def D1 (D : Nat) : Ent := ⟨some D, fun o => o = some (.deferred (some []))⟩
theorem FrOK.marked {N D : Nat} {M : Fr} {a : Act} (h : FrOK N M a) (h0 : a.defers = []) : FrOK N ((mk0 + 1 + D, undef) :: qc M) { a with defers := { target := .collected D, args := #[] } :: a.defers } := by
 refine ⟨fun e => ?_, fun D' e => ?_, h.size, h.lt, fun t v e => ?_⟩
 ·rw [dm, if_neg (by omega), iL, if_neg (by omega)] at e; cases e
 ·rw [dm, iL, if_neg (c := mk0 + 1 + D' < mk0) (by omega)] at e
  split at e
  ·obtain rfl : D = D' := by omega
   show _ :: a.defers = _
   rw [h0]
  ·cases e
 ·rw [dm, iL] at e
  split at e
  ·rename_i e2
   cases e
   rw [← e2, Array.getD_eq_getD_getElem?, Array.getElem?_eq_none (by have h1 : a.tmps.size = N := h.size; have := h.lt; show a.tmps.size ≤ _; omega)]; rfl
  ·split at e
   ·exact h.val t v e
   ·cases e
theorem oD : ∀ (A B : Fr) (t : Nat), look (A ++ B) t = match look A t with | some v => some v | none => look B t
 | [], B, t => by simp [look]
 | (d, v) :: A, B, t => by
  rw [List.cons_append, dm, dm]
  split
  ·rfl
  ·exact oD A B t
theorem Ch {M : Fr} {D : Nat} : look (qc M ++ [(mk0 + 1 + D, undef)]) (mk0 + 1 + D) = some undef := by
 rw [oD, iL, if_neg (by omega)]
 show look [(mk0 + 1 + D, undef)] (mk0 + 1 + D) = _
 rw [dm, if_pos rfl]
theorem FrOK.marked' {N D : Nat} {M : Fr} {a : Act} (h : FrOK N M a) (h0 : a.defers = []) : FrOK N (qc M ++ [(mk0 + 1 + D, undef)]) { a with defers := { target := .collected D, args := #[] } :: a.defers } :=
 (h.marked h0).sub fun t v e => by
  rw [oD, iL] at e
  rw [dm, iL]
  by_cases ht : t < mk0
  ·rw [if_pos ht] at e ⊢
   rw [if_neg (by omega)]
   cases hl : look M t with
   | some u => rw [hl] at e; exact e
   | none =>
    rw [hl] at e
    have e' : look [(mk0 + 1 + D, undef)] t = some v := e
    rw [dm, if_neg (by omega)] at e'
    cases e'
  ·rw [if_neg ht] at e
   have e' : look [(mk0 + 1 + D, undef)] t = some v := e
   rw [dm] at e'
   split at e'
   ·rename_i q
    rw [if_pos q]; exact e'
   ·cases e'
section
variable {P : Program} {Q : Exit → Act → World → Prop} {N : Nat} {F : Bg} {L : List Ent} {M : Fr}
end
section
variable {P : Program} {N : Nat} {F : Bg} {L : List Ent} {M : Fr}
end
section
variable {P : Program} {Q : Exit → Act → World → Prop} {N : Nat} {F : Bg} {L : List Ent} {M : Fr}
def AX (Q : Exit → Act → World → Prop) : Exit → Act → World → Prop := fun e a w => e = .ret ∧ Q .ret a w
theorem G8 {f : FuncId} {fn : Func} {c : Code} {args : List Value} {w : World} {R : Ending → World → Prop} (hf : P.funcs[f]? = some fn) (hb : fn.body = some c) (hN : fn.ntmps = N) (hle : Nat.ble args.length N = true)
  (h : Tr N (Bg.of0 w) [] (kb 0 args) (c.wp P (AX (bodyPostM Fence.wide 3 P fn R)))) (hN0 : Nat.ble N mk0 = true := by rfl) : Calls P f args.toArray w R :=
 (callsIn_wide (n := 3)).1 (callsIn_of_wp_marks hf hb trivial (wpIn_wide.2 (Code.wp_mono (fun e a w q => by obtain ⟨rfl, q⟩ := q; exact q) (h _ w (lC (by rw [hN]; simp) hle hN0) (HpOK.start0 w)))))
theorem lE {f : FuncId} {fn : Func} {c : Code} {args : List Value} {w : World} {R : Ending → World → Prop} (hf : P.funcs[f]? = some fn) (hb : fn.body = some c) (hN : fn.ntmps = N) (hle : Nat.ble args.length N = true)
  (h : Tr N (Bg.of0 w) [] (kb 0 args) (c.wp P (bodyPost P fn R))) (hN0 : Nat.ble N mk0 = true := by rfl) : Calls P f args.toArray w R :=
 calls_of_wp hf hb (h _ w (lC (by rw [hN]; simp) hle hN0) (HpOK.start0 w))
theorem HpOK.cellNew {F : Bg} {L : List Ent} {w w' : World} {b : Nat} {cs : List Value} {T : TypeId} (h : HpOK F L w') (hl : F.lo = w.heap.size) (hm : cellE b cs T ∈ L) : CellsIn (vt w w') b cs := by
 have he : w'.heap[b]? = some (.cells cs.toArray T (0, 0)) := h.ent _ hm
 have hb := (h.sep b (List.mem_filterMap.2 ⟨_, hm, rfl⟩)).2
 refine ⟨cs.toArray, T, (0, 0), ?_, fun j v hv => by simpa using hv⟩
 show (if b < w.heap.size then none else w'.heap[b]?) = _
 rw [if_neg (by omega)]; exact he
theorem HpOK.grown {Ws w : World} (h : HpOK (Bg.of0 Ws) [] w) : Ws.grownBy w none :=
 have b := h.below0 (Bg.le.refl _)
 ⟨b.os, b.tape, b.output, b.size, fun k hk _ => b.block k hk⟩
theorem jO {n : Nat} {ops : Array Oper} {o : Oper} {rest : List Oper} {a : Act} {w : World} {v : Value} (hg : o.guard = none) (hr : (execOp a.eval o).run P w = .ok (.value v) w) (h : wpListIn Fence.wide n P ops Q rest (a.put o.dst v) w) : wpListIn Fence.wide n P ops Q (o :: rest) a w :=
 wpListIn_plain hg fun K hK => by
  refine ⟨fun _ _ => trivial, ?_⟩
  show o.uponIn _ _ _ _ _ _ ((execOp a.eval o).run P w)
  rw [hr]; exact hK _ _ h
theorem zc {α : Type} (enc : α → Value) {J Jx : List α → World → Prop} {Kp : World → World → Prop} {l B : Nat} {Ws : World} {pre : List α} {x : α} {id f y d0 d1 d2 d3 : Nat} {t0 t1 t2 t3 : TypeId} {p0 p1 p2 p3 : String} {a0 a1 a2 a3 : Array Edge} {ts : Array TypeId}
  (hf : look M f = some (.func (.yield l) #[] #[])) (hy : look M y = some (enc x)) (hne : Nat.beq d0 y = false) (h01 : Nat.beq d1 d0 = false) (hJ : J pre Ws) (hA : AbidesFrom B J)
  (hY : ∀ W1, J pre W1 → YieldAt Fence.wide 1 P l #[enc x] W1 fun e W' => (e = .returned (.bool true) ∧ J (pre ++ [x]) W' ∧ Kp W1 W') ∨ (e = .returned (.bool false) ∧ Jx (pre ++ [x]) W'))
  (hd0 : Nat.ble (d0 + 1) N = true) (hd1 : Nat.ble (d1 + 1) N = true) (hd2 : Nat.ble (d2 + 1) N = true) (hd3 : Nat.ble (d3 + 1) N = true)
  (K1 : ∀ W1 W', HpOK (Bg.of0 Ws) [] W1 → Kp W1 W' → J (pre ++ [x]) W' → Tr N (Bg.of0 W') [] ((d3, .bool false) :: (d2, .bool true) :: (d1, enc x) :: (d0, .func (.yield l) #[] #[]) :: M) (Q .normal))
  (K2 : ∀ W', Jx (pre ++ [x]) W' → Tr N (Bg.of0 W') [] ((d3, .bool true) :: (d2, .bool false) :: (d1, enc x) :: (d0, .func (.yield l) #[] #[]) :: M) (Q .normal)) :
  Tr N (Bg.of0 Ws) [] M ((Code.region id #[⟨some d0, .move (.tmp f), t0, p0, a0, none⟩, ⟨some d1, .move (.tmp y), t1, p1, a1, none⟩, ⟨some d2, .call { callee := .value (.tmp d0), args := #[.tmp d1], argTypes := ts }, t2, p2, a2, none⟩, ⟨some d3, .unOp .not 4 (.tmp d2), t3, p3, a3, none⟩] false).wp P Q) := by
 intro a w ha hw
 have hj : J pre w := hA pre Ws w none hJ hw.grown (fun r e => by cases e)
 obtain ⟨fn, tmps, assign, body, hy1, hR⟩ := hY w hj
 have ne1 : d0 ≠ y := Nat.ne_of_beq_eq_false hne
 have ne2 : d1 ≠ d0 := Nat.ne_of_beq_eq_false h01
 have b0 := Nat.le_of_ble_eq_true hd0
 have b1 := Nat.le_of_ble_eq_true hd1
 have b2 := Nat.le_of_ble_eq_true hd2
 have b3 := Nat.le_of_ble_eq_true hd3
 have ha1 := ha.put (v := .func (.yield l) #[] #[]) b0
 have ha2 := ha1.put (v := enc x) b1
 refine (wpIn_wide (n := 2)).1 (wpIn_region_lit (l := [_, _, _, _]) ?_)
 refine jO rfl (qi (aa (N := N) (F := Bg.of0 w) (L := []) (M := M) (x := .tmp f) (v := .func (.yield l) #[] #[]) (by show look _ f = _; exact hf)) rfl ha (HpOK.start0 w)) ?_
 refine jO rfl (qi (aa (N := N) (F := Bg.of0 w) (L := []) (M := (d0, .func (.yield l) #[] #[]) :: M) (x := .tmp y) (v := enc x) (by show look _ y = _; rw [dm, if_neg ne1]; exact hy)) rfl ha1 (HpOK.start0 w)) ?_
 have hv0 : ((a.put (some d0) (.func (.yield l) #[] #[])).put (some d1) (enc x)).eval (.tmp d0) = .func (.yield l) #[] #[] := ha2.eval (x := .tmp d0) (by show look _ d0 = _; rw [dm, if_neg ne2, dm, if_pos rfl])
 have hv1 : ((a.put (some d0) (.func (.yield l) #[] #[])).put (some d1) (enc x)).eval (.tmp d1) = enc x := ha2.eval (x := .tmp d1) (by show look _ d1 = _; rw [dm, if_pos rfl])
 refine wpListIn_plain rfl fun K hK => ?_
 refine ⟨fun _ _ => trivial, ?_⟩
 have hcall : (execOp ((a.put (some d0) (.func (.yield l) #[] #[])).put (some d1) (enc x)).eval ⟨some d2, .call { callee := .value (.tmp d0), args := #[.tmp d1], argTypes := ts }, t2, p2, a2, none⟩).run P w = .ok (.round l fn tmps assign body) w := by
  simp [execOp, resolve, Deferred.ofValue, hv0, hv1, invoke, hy1]
 rw [show ∀ ρ o, Oper.semAt Fence.wide.round ρ o = execOp ρ o from fun _ _ => rfl, hcall]
 refine ⟨fun h => ?_, hR.mono ?_⟩
 ·cases h
 ·rintro e W' (⟨rfl, hJ', hk⟩ | ⟨rfl, hJx⟩)
  ·have ha3 := ha2.put (v := .bool true) b2
   refine hK _ _ (jO (v := .bool false) rfl ?_ ?_)
   ·exact qi (cP (N := N) (F := Bg.of0 W') (L := []) (M := (d2, .bool true) :: (d1, enc x) :: (d0, .func (.yield l) #[] #[]) :: M) (x := .tmp d2) (b := true) (by show look _ d2 = _; rw [dm, if_pos rfl])) rfl ha3 (HpOK.start0 W')
   ·exact K1 w W' hw hk hJ' _ W' (ha3.put b3) (HpOK.start0 W')
  ·have ha3 := ha2.put (v := .bool false) b2
   refine hK _ _ (jO (v := .bool true) rfl ?_ ?_)
   ·exact qi (cP (N := N) (F := Bg.of0 W') (L := []) (M := (d2, .bool false) :: (d1, enc x) :: (d0, .func (.yield l) #[] #[]) :: M) (x := .tmp d2) (b := false) (by show look _ d2 = _; rw [dm, if_pos rfl])) rfl ha3 (HpOK.start0 W')
   ·exact K2 W' hJx _ W' (ha3.put b3) (HpOK.start0 W')
end
section
open Classical
end
section
variable {P : Program} {N : Nat} {F : Bg} {L : List Ent} {M : Fr}
theorem uE {b : Nat} {cs : List Value} {T : TypeId} {L1 : List Ent} {X : Act → World → Prop} (hm : Del (cellE b cs T) L L1) (K : ∀ F', F.le F' → CellsIn F'.blk b cs → Tr N F' L1 M X) : Tr N F L M X := by
 intro a w ha hw
 have hf := hw.front hm
 have h1 : HpOK F L1 w := hf.mem (List.sublist_cons_self _ _)
 obtain ⟨F', e1, e2, e3⟩ := h1.freeze
 refine K F' e1 ?_ a w ha e2
 have he : w.heap[b]? = some (.cells cs.toArray T (0, 0)) := hf.ent _ (.head _)
 refine ⟨cs.toArray, T, (0, 0), e3 b _ ?_ he, fun j v hv => by simpa using hv⟩
 have := hf.nodup
 rw [pf (b := b) rfl, List.nodup_cons] at this
 exact this.1
end
theorem HpOK.ents0 {F : Bg} {L : List Ent} {w w' : World} {Ls : List Ent} (h : HpOK F L w') (hl : F.lo = w.heap.size) (hs : Pick L Ls) : NewEnts w w' Ls := by
 have h' := hs.heap h
 refine ⟨h'.ent, h'.nodup, h'.lt, fun b hb => ?_⟩
 rw [← hl]; exact (h'.sep b hb).2
end Go.HL
namespace Go.HL
open Go Go.RowKit
section
variable {P : Program} {ops : Array Oper} {Q : Exit → Act → World → Prop} {N : Nat} {F : Bg} {L : List Ent} {M : Fr} {ty : TypeId} {pos : String} {after : Array Edge} {rest : List Oper} {d : Nat} {dst : Option Tmp} {g : Option (Nat × Bool)}
def Dw (w w' : World) : World := { w' with drawn := max w.drawn w'.drawn }
theorem ut {w w' : World} (h : Below w.heap.size w w') : Ext w (Dw w w') := ⟨⟨h.os, h.tape, h.output, h.size, h.block⟩, Nat.le_max_left _ _⟩
theorem HpOK.redrew {w w' : World} (h : HpOK F L (HL.Dw w w')) (h0 : F.dr = 0) : HpOK F L w' := ⟨h.os, h.tape, h.out, h.n, by rw [h0]; exact Nat.zero_le _, h.bg, h.ent, h.nodup, h.lt, h.sep⟩
theorem HpOK.grow0 {w w' : World} (h : HpOK F L w) (hb : Below w.heap.size w w') (h0 : F.dr = 0) : HpOK F L w' := (h.grow (ut hb)).redrew h0
theorem E7 {f : FuncId} {xs : List Operand} {vs : List Value} {ts : Array TypeId} {v : Value} (h0 : F.dr = 0) (hx : kM M xs = some vs)
  (he : ∀ (args : Array Value) (w : World), (callFunc f args).run P w = .ok (.enter f args) w)
  (hc : ∀ w, HpOK F L w → Calls P f vs.toArray w fun e w' => e = .returned v ∧ Below w.heap.size w w') :
  QS P N F L M ⟨dst, .call { callee := .value (.func f), args := xs.toArray, argTypes := ts }, ty, pos, after, g⟩ v := by
 intro a w ha hw
 have hr : (execOp a.eval ⟨dst, .call { callee := .value (.func f), args := xs.toArray, argTypes := ts }, ty, pos, after, g⟩).run P w = .ok (.enter f vs.toArray) w := by
  have := ha.evals hx
  simp [execOp, resolve, Deferred.ofValue, Act.eval, invoke, he, this]
 unfold Oper.quietAt
 rw [hr]
 exact ⟨rfl, (hc w hw).mono fun e w' ⟨h1, h2⟩ => ⟨h1, hw.grow0 h2 h0⟩⟩
theorem eB {ι : Type} (φ : ι → Value) (Ls : ι → List Ent) {ok : ι → Prop} {f : FuncId} {xs : List Operand} {vs : List Value} {ts : Array TypeId} (h0 : F.dr = 0) (hx : kM M xs = some vs)
  (he : ∀ (args : Array Value) (w : World), (callFunc f args).run P w = .ok (.enter f args) w)
  (hc : ∀ w, HpOK F L w → Calls P f vs.toArray w fun e w' => ∃ i, e = .returned (φ i) ∧ Below w.heap.size w w' ∧ NewEnts w w' (Ls i) ∧ ok i) (hd : Nat.ble (d + 1) N = true)
  (K : ∀ i, ok i → Tr N F (Ls i ++ L) ((d, φ i) :: M) (wpList P ops Q rest)) :
  Tr N F L M (wpList P ops Q (⟨some d, .call { callee := .value (.func f), args := xs.toArray, argTypes := ts }, ty, pos, after, none⟩ :: rest)) := by
 intro a w ha hw
 refine wpList_plain rfl fun K' hK => ?_
 have hr : (execOp a.eval ⟨some d, .call { callee := .value (.func f), args := xs.toArray, argTypes := ts }, ty, pos, after, none⟩).run P w = .ok (.enter f vs.toArray) w := by
  have := ha.evals hx
  simp [execOp, resolve, Deferred.ofValue, Act.eval, invoke, he, this]
 unfold Oper.wp
 rw [hr]
 refine (hc w hw).mono fun e w' ⟨i, h1, h2, h3, h4⟩ => ?_
 subst h1
 have hn : NewEnts w (Dw w w') (Ls i) := ⟨h3.ent, h3.nodup, h3.lt, h3.ge⟩
 exact hK _ _ (K i h4 _ _ (ha.put (Nat.le_of_ble_eq_true hd)) ((hw.newEnts (ut h2) hn).redrew h0))
end
end Go.HL
namespace Go.HL
open Go Go.RowKit
section
variable {P : Program} {ops : Array Oper} {Q : Exit → Act → World → Prop} {N : Nat} {F : Bg} {L : List Ent} {M : Fr} {dst : Option Tmp} {ty : TypeId} {pos : String} {after : Array Edge} {g : Option (Nat × Bool)} {rest : List Oper} {d : Nat}
theorem uD {Ls R : List Ent} {X : Act → World → Prop} (hs : Split L Ls R) (K : ∀ F', F.le F' → (∀ e ∈ Ls, e.ok (e.blk.bind F'.blk)) → Tr N F' R M X) : Tr N F L M X := by
 intro a w ha hw
 have hp := hw.perm hs.perm.symm
 have h1 : HpOK F R w := hp.mem (List.sublist_append_right _ _)
 obtain ⟨F', e1, e2, e3⟩ := h1.freeze
 refine K F' e1 (fun e he => ?_) a w ha e2
 have hh := hp.ent e (List.mem_append_left _ he)
 unfold Ent.holds at hh
 cases hk : e.blk with
 | none => rw [hk] at hh; exact hh
 | some b =>
  rw [hk] at hh
  simp only [Option.bind_some] at hh ⊢
  have hbl : cT (Ls ++ R) = cT Ls ++ cT R := List.filterMap_append
  have hnd := List.nodup_append.1 (hbl ▸ hp.nodup)
  have hb : b ∈ cT Ls := List.mem_filterMap.2 ⟨e, he, hk⟩
  have hnot : b ∉ cT R := fun hr => hnd.2.2 b hb b hr rfl
  have hlt := hp.lt b (by rw [hbl]; exact List.mem_append_left _ hb)
  have hsome : w.heap[b]? = some w.heap[b] := by simp [hlt]
  rw [e3 b _ hnot hsome, ← hsome]; exact hh
end
end Go.HL
namespace Go.HL
open Go
abbrev WL := List (UInt32 × UInt8)
def ovr (wl : WL) (a : UInt32) : List UInt8 → List UInt8
 | [] => []
 | b :: t => (dI wl a).getD b :: ovr wl (a + 1) t
section
variable {l : List SecV} {a : UInt32} {wl : WL}
def leN : List UInt8 → Nat
 | [] => 0
 | b :: t => b.toNat + 256 * leN t
theorem zR : ∀ l : List UInt8, leN l < 256 ^ l.length
 | [] => by simp [leN]
 | b :: t => by
  have := zR t
  have hb := b.toNat_lt
  simp only [leN, List.length_cons, Nat.pow_succ]
  omega
theorem wJ : ∀ l : List UInt8, l.length ≤ 4 → (leP l).toNat = leN l
 | [], _ => rfl
 | b :: t, h => by
  have hl : t.length ≤ 3 := by simpa using h
  have ih := wJ t (by omega)
  have h1 := zR t
  have h2 : 256 ^ t.length ≤ 256 ^ 3 := Nat.pow_le_pow_right (by decide) hl
  have hb := b.toNat_lt
  simp only [leP, leN, UInt32.toNat_add, UInt32.toNat_mul, UInt8.toNat_toUInt32, ih]
  have : (256 : UInt32).toNat = 256 := rfl
  rw [this]
  have h3 : (256 : Nat) ^ 3 = 16777216 := by decide
  omega
theorem yo (b : UInt8) : ∀ l : List UInt8, leN (l ++ [b]) = leN l + 256 ^ l.length * b.toNat
 | [] => by simp [leN]
 | c :: t => by
  simp only [List.cons_append, leN, yo b t, List.length_cons, Nat.pow_succ]
  rw [Nat.mul_add, ← Nat.mul_assoc, Nat.mul_comm 256 (256 ^ t.length)]
  omega
theorem tf {l : List UInt8} {k : Nat} (hk : k < l.length) (hl : l.length ≤ 4) {c : Int} (hc : c = 8 * (k : Int)) : leP (l.take k) ||| mT (l.getD k default).toUInt32 c.toNat = leP (l.take (k + 1)) := by
 have h1 : (l.take k).length = k := by rw [List.length_take]; omega
 have e1 : l.take (k + 1) = l.take k ++ [l.getD k default] := dB hk
 have hb := (l.getD k default).toNat_lt
 have hlt := zR (l.take k)
 rw [h1] at hlt
 have hp : (256 : Nat) ^ k = 2 ^ (8 * k) := by rw [Nat.pow_mul]
 have hk8 : 2 ^ (8 * k) * 256 ≤ 2 ^ 32 := by
  have : 2 ^ (8 * k) * 2 ^ 8 = 2 ^ (8 * k + 8) := by rw [Nat.pow_add]
  have h2 : 2 ^ (8 * k + 8) ≤ 2 ^ 32 := Nat.pow_le_pow_right (by decide) (by omega)
  omega
 rw [← UInt32.toNat_inj, UInt32.toNat_or, lU, wJ _ (by omega), wJ _ (by rw [List.length_take]; omega), e1, yo, h1, UInt8.toNat_toUInt32, show c.toNat = 8 * k by omega]
 have hm : (l.getD k default).toNat * 2 ^ (8 * k) < 2 ^ 32 := by
  have : (l.getD k default).toNat * 2 ^ (8 * k) ≤ 255 * 2 ^ (8 * k) := Nat.mul_le_mul_right _ (by omega)
  have hpos : 0 < 2 ^ (8 * k) := Nat.pow_pos (by decide)
  omega
 rw [show (4294967296 : Nat) = 2 ^ 32 from rfl, Nat.mod_eq_of_lt hm, ← Nat.shiftLeft_eq, Nat.or_comm, ← Nat.shiftLeft_add_eq_or_of_lt (by omega), Nat.shiftLeft_eq, hp]
 rw [Nat.mul_comm (2 ^ (8 * k))]
 omega
end
end Go.HL
namespace Go.HL
open Go Go.RowKit
section
variable {P : Program} {ops : Array Oper} {Q : Exit → Act → World → Prop} {N : Nat} {F : Bg} {L : List Ent} {M : Fr} {dst : Option Tmp} {ty : TypeId} {pos : String} {after : Array Edge} {g : Option (Nat × Bool)} {rest : List Oper} {d : Nat}
theorem dH {x y : Operand} {t e : TypeId} {b o n k : Nat} {kk : IntKind} {i : Int} (hx : opv M x = some (.pointer (some ⟨b, o, none⟩))) (hy : opv M y = some (.int kk i)) (ht : P.underlying t = some (.array n e)) (hz : ∀ w, (sizeOf e).run P w = .ok k w)
  (hi : 0 ≤ i ∧ i < n) : QS P N F L M ⟨dst, .indexAddr t x y, ty, pos, after, g⟩ (.pointer (some ⟨b, o + i.toNat * k, none⟩)) :=
 cx fun A w ha hw => by
  simp [execOp, ha.eval hx, ha.eval hy, Instr.indexAt, asIntOf, run_underlying ht, Instr.sureAddr, hz, hi.1, hi.2, Addr.add_lit]
theorem yd {α : Type} {E : Enc α} {xs : List α} {V : Value} {T : TypeId} {w : World} (h : (rowE V T E xs).holds w) {l m : Nat} (hl : l < m) (hm : m ≤ xs.length) :
  ∃ gb cap, V = .slice (some ⟨gb, 0, none⟩) xs.length cap ∧ HL.Ib V l m E.k = .slice (some ⟨gb, l * E.k, none⟩) (m - l) (cap - l) := by
 have hV' : RowOK V T E xs (V.ownBlock.bind (w.heap[·]?)) := h
 rcases hV' with ⟨rfl, rfl⟩ | ⟨gb, cap, cur, rfl, ho, k1, k2, k3, k4⟩
 ·simp at hm; omega
 ·refine ⟨gb, cap, rfl, ?_⟩
  have : cap ≠ l := by omega
  simp only [HL.Ib, this, if_false, Option.map_some, Addr.add_lit, Nat.zero_add]
theorem qj {α : Type} {E : Enc α} {xs : List α} {x y : Operand} {t e T : TypeId} {V : Value} {k l m : Nat} {kk : IntKind} {i : Int} (hx : opv M x = some (HL.Ib V l m E.k)) (hy : opv M y = some (.int kk i)) (hs : rowE V T E xs ∈ L)
  (ht : P.underlying t = some (.slice e)) (hz : ∀ w, (sizeOf e).run P w = .ok k w) (hk : k = E.k) (hi : 0 ≤ i ∧ (l : Int) + i < m) (hm : m ≤ xs.length) :
  QS P N F L M ⟨dst, .indexAddr t x y, ty, pos, after, g⟩ (.pointer (some ⟨bk V, ofs V + (l + i.toNat) * E.k, none⟩)) :=
 cx fun A w ha hw => by
  obtain ⟨gb, cap, hV, hr⟩ := yd (hw.ent _ hs) (l := l) (m := m) (by omega) hm
  have h := lZ (P := P) (V := V) (c := cap - l) (n := m - l) (kk := kk) (i := i) ht hz w (by omega) gb (l * E.k) rfl
  subst hk
  rw [hr] at hx
  have e1 : bk V = gb := by rw [hV]; rfl
  have e2 : ofs V = 0 := by rw [hV]; rfl
  rw [e1, e2]
  simp [execOp, ha.eval hx, ha.eval hy, h, Nat.add_mul]
theorem AM {α : Type} {E : Enc α} {xs : List α} {x : Operand} {t e T : TypeId} {V : Value} {l m k : Nat} (hx : opv M x = some (HL.Ib V l m k)) (hs : rowE V T E xs ∈ L) (ht : P.underlying t = some (.slice e)) :
  QS P N F L M ⟨dst, .call { callee := .builtin .len, args := #[x], argTypes := #[t] }, ty, pos, after, g⟩ (.int .i64 ((m - l : Nat) : Int)) :=
 rq (a := none) (c := 0) hx (fun w hw => by
  have hV' : RowOK V T E xs (V.ownBlock.bind (w.heap[·]?)) := hw.ent _ hs
  rcases hV' with ⟨rfl, rfl⟩ | ⟨gb, cap, cur, rfl, _⟩
  ·exact ⟨_, _, rfl⟩
  ·exact ⟨_, _, rfl⟩) ht
theorem rm {α : Type} {E : Enc α} {xs : List α} {x y : Operand} {t e T : TypeId} {V : Value} {k n : Nat} (hx : opv M x = some V) (hs : rowE V T E xs ∈ L) (hy : opv M y = some (.int .i64 (n : Nat)))
  (ht : P.underlying t = some (.slice e)) (hz : ∀ w, (sizeOf e).run P w = .ok k w) (hk : k = E.k) (hn : n ≤ xs.length) : QS P N F L M ⟨dst, .slice t x (some y) none none, ty, pos, after, g⟩ (HL.Ib V n xs.length E.k) :=
 sO (lv := some (.i64, (n : Int))) (hv := none) hx hs (by simp [hy]) rfl ht hz hk (by simp [kw]) (by simp [kw, jU]; omega) (by simp [jU])
theorem AH {α : Type} {E : Enc α} {xs : List α} {x y : Operand} {t e T : TypeId} {V : Value} {k n : Nat} (hx : opv M x = some V) (hs : rowE V T E xs ∈ L) (hy : opv M y = some (.int .i64 (n : Nat)))
  (ht : P.underlying t = some (.slice e)) (hz : ∀ w, (sizeOf e).run P w = .ok k w) (hk : k = E.k) (hn : n ≤ xs.length) : QS P N F L M ⟨dst, .slice t x none (some y) none, ty, pos, after, g⟩ (HL.Ib V 0 n E.k) :=
 sO (lv := none) (hv := some (.i64, (n : Int))) hx hs rfl (by simp [hy]) ht hz hk (by simp [kw]) (by simp [kw, jU]) (by simp [jU]; omega)
theorem rowE.resl0 {α : Type} {E : Enc α} {xs : List α} {V : Value} {T : TypeId} {w : World} (h : (rowE V T E xs).holds w) {k : Nat} (hk : k ≤ xs.length) : (rowE (HL.Ib V 0 k E.k) T E (xs.take k)).holds w ∧ (HL.Ib V 0 k E.k).ownBlock = V.ownBlock := by
 have hV' : RowOK V T E xs (V.ownBlock.bind (w.heap[·]?)) := h
 rcases hV' with ⟨rfl, rfl⟩ | ⟨gb, cap, cur, rfl, ho, k1, k2, k3, k4⟩
 ·have : k = 0 := by simpa using hk
  subst this
  exact ⟨.inl ⟨rfl, rfl⟩, rfl⟩
 ·have e : HL.Ib (.slice (some ⟨gb, 0, none⟩) xs.length cap) 0 k E.k = .slice (some ⟨gb, 0, none⟩) k cap := by
   simp only [HL.Ib, Nat.zero_mul, Nat.sub_zero]
   split
   ·rfl
   ·simp [Addr.add_lit]
  rw [e]
  refine ⟨.inr ⟨gb, cap, cur, ?_, ho, ?_, k2, k3, ?_⟩, rfl⟩
  ·rw [List.length_take, Nat.min_eq_left hk]
  ·rw [List.length_take]; omega
  ·rw [List.length_take, Nat.min_eq_left hk]
   have e2 : k * E.k ≤ xs.length * E.k := Nat.mul_le_mul_right _ hk
   have : cur.toList.take (k * E.k) = (cur.toList.take (xs.length * E.k)).take (k * E.k) := by rw [List.take_take, Nat.min_eq_left e2]
   rw [this, k4]
   have h3 : xs.flatMap E.enc = (xs.take k).flatMap E.enc ++ (xs.drop k).flatMap E.enc := by rw [← List.flatMap_append, List.take_append_drop]
   have h4 : ((xs.take k).flatMap E.enc).length = k * E.k := by rw [dA, List.length_take, Nat.min_eq_left hk]
   rw [h3, ← h4, List.take_left]
theorem mO (z : Array Value) : ∀ n, (Builtin.zeroCells z n).toList = (List.replicate n z.toList).flatten
 | 0 => by simp [Builtin.zeroCells]
 | n + 1 => by
  have ih := mO z n
  rw [List.replicate_succ', List.flatten_append, ← ih]
  simp only [Builtin.zeroCells, Array.toList_map, Array.toList_range, Nat.add_mul, Nat.one_mul, List.range_add, List.map_append, List.map_map, List.flatten_cons, List.flatten_nil, List.append_nil]
  congr 1
  apply List.ext_getElem (by simp)
  intro i h1 h2
  simp only [List.length_map, List.length_range] at h1
  simp [Nat.mul_add_mod_self_right, Nat.mod_eq_of_lt h1, h1]
theorem oL {α : Type} (E : Enc α) (z : α) : ∀ n, (List.replicate n z).flatMap E.enc = (List.replicate n (E.enc z)).flatten
 | 0 => rfl
 | n + 1 => by rw [List.replicate_succ, List.replicate_succ, List.flatMap_cons, List.flatten_cons, oL E z n]
theorem xr {α : Type} {E : Enc α} {xs : List α} (z : α) {x : Operand} {V zv : Value} {t e : TypeId} {k kk : Nat} {L' : List Ent} {dst : Option Tmp} (hx : opv M x = some (HL.Ib V k xs.length E.k)) (hput : Put (rowE V e E xs) (rowE V e E (xs.take k ++ List.replicate (xs.length - k) z)) L L')
  (hk : k < xs.length) (ht : P.underlying t = some (.slice e)) (hz : ∀ w, (zeroValue e).run P w = .ok zv w) (hzc : zv.cells.toList = E.enc z) (hk0 : kk = E.k) (hdst : dst = none)
  (K : Tr N F L' M (wpList P ops Q rest)) : Tr N F L M (wpList P ops Q (⟨dst, .call { callee := .builtin .clear, args := #[x], argTypes := #[t] }, ty, pos, after, none⟩ :: rest)) := by
 subst hdst
 intro a w ha hw
 refine wpList_plain rfl fun K' hK => ?_
 have hV := hw.ent _ hput.mem
 obtain ⟨gb, cap, hVe, hr⟩ := yd hV hk (Nat.le_refl _)
 have hV' : RowOK V e E xs (V.ownBlock.bind (w.heap[·]?)) := hV
 rcases hV' with ⟨rfl, rfl⟩ | ⟨gb', cap', cur, hVe', ho, k1, k2, k3, k4⟩
 ·simp at hk
 ·rw [hVe] at hVe'
  injection hVe' with q1 q2 q3
  injection q1 with q1
  injection q1 with q1
  subst q1 q3
  have ho' : w.heap[gb]? = some (.cells cur e (0, 0)) := by rw [hVe] at ho; exact ho
  obtain ⟨m, hm⟩ : ∃ m, xs.length - k = m + 1 := ⟨xs.length - k - 1, by omega⟩
  have hvs : (Builtin.zeroCells zv.cells (m + 1)).toList = (List.replicate (m + 1) z).flatMap E.enc := by rw [mO, hzc, oL]
  have hlen : ((List.replicate (m + 1) z).flatMap E.enc).length = (m + 1) * E.k := by rw [dA, List.length_replicate]
  have hkm : k * E.k + (m + 1) * E.k = xs.length * E.k := by rw [← Nat.add_mul, ← hm]; congr 1; omega
  have hxc : xs.length * E.k ≤ cap * E.k := Nat.mul_le_mul_right _ k1
  have hst := run_storeCells_at P gb (k * E.k) e ((List.replicate (m + 1) z).flatMap E.enc) 0 cur w ho' (by rw [hlen]; omega) (fun v hv => by
   obtain ⟨y, _, hy⟩ := List.mem_flatMap.1 hv
   exact E.one y v hy)
  rw [Nat.add_zero] at hst
  have hrun : (Builtin.clear_ #[t] ty #[HL.Ib V k xs.length E.k]).run P w = .ok (.tuple #[]) (w.setRow gb (cur.toList.take (k * E.k) ++ (List.replicate (m + 1) z).flatMap E.enc ++ cur.toList.drop (k * E.k + ((List.replicate (m + 1) z).flatMap E.enc).length)).toArray) := by
   rw [hr, hm]
   simp only [Builtin.clear_]
   simp [run_underlying ht, hz, hvs, hst, Result.andThen]
  unfold Oper.wp execOp
  simp only [resolve, invoke, builtin, Sem.run_bind, Sem.run_pure, Result.andThen_ok, List.map_toArray, List.map_cons, List.map_nil, ha.eval hx, hrun]
  refine hK _ _ (K _ _ ha (hw.mut hput ⟨rfl, rfl, rfl, by simp, Nat.le_refl _, fun j hj hne => setRow_other w gb j _ (fun q => hne (by rw [hVe, q]; rfl))⟩ ?_))
  refine .inr ⟨gb, cap, (cur.toList.take (k * E.k) ++ (List.replicate (m + 1) z).flatMap E.enc ++ cur.toList.drop (k * E.k + ((List.replicate (m + 1) z).flatMap E.enc).length)).toArray, ?_, ?_, ?_, k2, ?_, ?_⟩
  ·rw [hVe, List.length_append, List.length_take, List.length_replicate]; congr 1; omega
  ·rw [hVe]; exact setRow_heap w gb _ _ e (0, 0) ho'
  ·rw [List.length_append, List.length_take, List.length_replicate]; omega
  ·rw [List.size_toArray, List.length_append, List.length_append, List.length_take, List.length_drop, hlen, Array.length_toList]; omega
  ·rw [hm, List.length_append, List.length_take, List.length_replicate, Nat.min_eq_left (by omega), Nat.add_mul, List.flatMap_append]
   have e1 : cur.toList.take (k * E.k) = (xs.take k).flatMap E.enc := by
    have e2 : k * E.k ≤ xs.length * E.k := Nat.mul_le_mul_right _ (by omega)
    have : cur.toList.take (k * E.k) = (cur.toList.take (xs.length * E.k)).take (k * E.k) := by rw [List.take_take, Nat.min_eq_left e2]
    rw [this, k4]
    have h3 : xs.flatMap E.enc = (xs.take k).flatMap E.enc ++ (xs.drop k).flatMap E.enc := by rw [← List.flatMap_append, List.take_append_drop]
    have h4 : ((xs.take k).flatMap E.enc).length = k * E.k := by rw [dA, List.length_take, Nat.min_eq_left (by omega)]
    rw [h3, ← h4, List.take_left]
   have e5 : (cur.toList.take (k * E.k)).length = k * E.k := by rw [e1, dA, List.length_take, Nat.min_eq_left (by omega)]
   rw [← hlen, List.append_assoc]
   show ((cur.toList.take (k * E.k) ++ _).take _) = _
   rw [show k * E.k + ((List.replicate (m + 1) z).flatMap E.enc).length = (cur.toList.take (k * E.k) ++ (List.replicate (m + 1) z).flatMap E.enc).length by rw [List.length_append, e5], ← List.append_assoc, List.take_left, e1]
end
end Go.HL
namespace Go.HL
open Go Go.RowKit Go.ChangeMaps Go.MapKept
section
variable {P : Program} {ops : Array Oper} {Q : Exit → Act → World → Prop} {N : Nat} {F : Bg} {L : List Ent} {M : Fr} {rest : List Oper} {d : Nat}
structure IterOK (b : Nat) (es : Array MapEntry) (ck : Nat) (done : List UInt32) (o : Option Obj) : Prop where
 it : ∃ since seen c0, o = some (.mapIter (some b) since seen c0) ∧ (∀ x ∈ es.toList, x.born < since) ∧ since ≤ c0 ∧ since ≤ ck ∧ (∀ x ∈ es.toList, seen.contains x.born = true ↔ ∃ k ∈ done, x.key = iD k) ∧
  (∀ k, done.getLast? = some k → c0 = ck ∧ ∃ (seen0 : Array Nat) (e : MapEntry), seen = seen0.push e.born ∧ e ∈ es.toList ∧ e.key = iD k)
theorem A4 {α : Type} {f : α → Value} {l : List (UInt32 × α)} {es : Array MapEntry} {ck : Nat} (h : MapIs f l es ck) : (∀ x ∈ es.toList, x.born < ck) ∧ (es.toList.map (·.born)).Nodup ∧ es.toList.Pairwise (fun x y => x.key ≠ y.key) := (stamped_iff es ck).1 h.st
theorem A3 {α : Type} {f : α → Value} {l : List (UInt32 × α)} {es : Array MapEntry} {ck : Nat} (h : MapIs f l es ck) {e : MapEntry} (he : e ∈ es.toList) : ∃ k x, dI l k = some x ∧ e.key = iD k ∧ e.val = f x ∧ k ∈ l.map (·.1) := by
 obtain ⟨j, hj⟩ := List.getElem?_of_mem he
 obtain ⟨p, hp, h1, h2⟩ := h.at_ hj
 exact ⟨p.1, p.2, yl h.nodup (List.mem_of_getElem? hp), h1, h2, List.mem_map.2 ⟨p, List.mem_of_getElem? hp, rfl⟩⟩
theorem Ha {α : Type} {f : α → Value} {l : List (UInt32 × α)} {es : Array MapEntry} {ck : Nat} (h : MapIs f l es ck) {k : UInt32} (hk : k ∈ l.map (·.1)) : ∃ e ∈ es.toList, e.key = iD k := by
 have : iD k ∈ es.toList.map (·.key) := by rw [h.keys]; obtain ⟨p, hp, rfl⟩ := List.mem_map.1 hk; exact List.mem_map.2 ⟨p, hp, rfl⟩
 obtain ⟨e, he, h1⟩ := List.mem_map.1 this
 exact ⟨e, he, h1⟩
theorem IterOK.start {α : Type} {f : α → Value} {l : List (UInt32 × α)} {b : Nat} {es : Array MapEntry} {ck : Nat} (h : MapIs f l es ck) : IterOK b es ck [] (some (.mapIter (some b) ck #[] ck)) :=
 ⟨ck, #[], ck, rfl, (A4 h).1, Nat.le_refl _, Nat.le_refl _, fun x _ => by simp, fun k hk => by simp at hk⟩
theorem Ca {α : Type} {f : α → Value} {l : List (UInt32 × α)} {b r : Nat} {es : Array MapEntry} {ck : Nat} {done : List UInt32} {w : World} (hm : MapIs f l es ck) (hb : w.heap[b]? = some (.map es ck)) (hI : IterOK b es ck done (w.heap[r]?)) (ty : TypeId) :
  ((∀ k ∈ l.map (·.1), k ∈ done) ∧ (Instr.next (.pointer (some ⟨r, 0, none⟩)) false ty).run P w = .ok (.tuple #[.bool false]) w) ∨
  ∃ k x w1 o, (w1 = w ∨ w1 = w.drew) ∧ dI l k = some x ∧ k ∈ l.map (·.1) ∧ k ∉ done ∧ IterOK b es ck (done ++ [k]) (some o) ∧
   (Instr.next (.pointer (some ⟨r, 0, none⟩)) false ty).run P w = .ok (.tuple #[.bool true, iD k, f x]) (setBlock w1 r o) := by
 obtain ⟨since, seen, c0, hr, hold, hsc, hsk, hl, hlast⟩ := hI.it
 rcases run_next_at (P := P) w ty r b since c0 seen es ck hr hb hold hsc with ⟨h0, hrun⟩ | ⟨e, he, w1, hal, hrun⟩
 ·refine .inl ⟨fun k hk => ?_, hrun⟩
  obtain ⟨e, he, hek⟩ := Ha hm hk
  obtain ⟨k', hk', e2⟩ := (hl e he).1 (all_seen es seen h0 e he)
  rw [hek] at e2
  rw [qS e2]; exact hk'
 ·obtain ⟨hem, hes⟩ := mem_left he
  obtain ⟨k, x, hx, h1, h2, h3⟩ := A3 hm hem
  have hnd : k ∉ done := fun hk => by
   have := (hl e hem).2 ⟨k, hk, h1⟩
   rw [hes] at this; cases this
  refine .inr ⟨k, x, w1, _, hal, hx, h3, hnd, ⟨since, seen.push e.born, ck, rfl, hold, hsk, hsk, fun y hy => ?_, fun k' hk' => ?_⟩, by rw [← h1, ← h2]; exact hrun⟩
  ·rw [contains_push, Bool.or_eq_true, hl y hy, beq_iff_eq]
   constructor
   ·rintro (⟨k', q1, q2⟩ | q)
    ·exact ⟨k', List.mem_append_left _ q1, q2⟩
    ·obtain rfl := born_inj (A4 hm).2.1 hy hem q
     exact ⟨k, by simp, h1⟩
   ·rintro ⟨k', q1, q2⟩
    rcases List.mem_append.1 q1 with q1 | q1
    ·exact .inl ⟨k', q1, q2⟩
    ·right
     obtain rfl := List.mem_singleton.1 q1
     rw [entry_eq_of_key (A4 hm).2.2 hy hem (by rw [q2, h1])]
  ·simp only [List.getLast?_append, List.getLast?_singleton, Option.some_or, Option.some.injEq] at hk'
   subst hk'
   exact ⟨rfl, seen, e, rfl, hem, h1⟩
theorem Ab {α : Type} {f : α → Value} {l : List (UInt32 × α)} {b r : Nat} {es : Array MapEntry} {ck : Nat} {done : List UInt32} {w : World} {k : UInt32} {x : α} (hm : MapIs f l es ck) (hb : w.heap[b]? = some (.map es ck)) (hI : IterOK b es ck done (w.heap[r]?)) (hl : done.getLast? = some k) (hx : dI l k = some x) :
  (Instr.entry (.pointer (some ⟨r, 0, none⟩))).run P w = .ok (.tuple #[iD k, f x]) w := by
 obtain ⟨since, seen, c0, hr, hold, hsc, hsk, _, hlast⟩ := hI.it
 obtain ⟨rfl, seen0, e, rfl, he, hek⟩ := hlast k hl
 obtain ⟨k', x', h0, h1, h2, h3⟩ := A3 hm he
 obtain rfl := qS (hek.symm.trans h1)
 rw [hx] at h0; cases h0
 rw [run_entry_at w r b since seen0 es c0 e hr hb he (A4 hm).2.1, hek, h2]
theorem ov {w : World} {r k : Nat} {o : Obj} (h : k ≠ r) : (setBlock w r o).heap[k]? = w.heap[k]? := by
 simp [setBlock, Array.getElem?_setIfInBounds, Ne.symm h]
theorem uS {w : World} {r : Nat} {o : Obj} (h : r < w.heap.size) : (setBlock w r o).heap[r]? = some o := by
 simp [setBlock, h]
structure IterAt (w : World) (b r : Nat) (es : Array MapEntry) (ck : Nat) (done : List UInt32) : Prop where
 map : w.heap[b]? = some (.map es ck)
 it : IterOK b es ck done (w.heap[r]?)
theorem IterAt.walk {w : World} {b r : Nat} {es : Array MapEntry} {ck : Nat} {done : List UInt32} (h : IterAt w b r es ck done) : ∃ o, w.heap[r]? = some o ∧ o.isWalk = true := by
 obtain ⟨_, _, _, hr, _⟩ := h.it.it
 exact ⟨_, hr, rfl⟩
theorem IterAt.keeps {w w' : World} {b r : Nat} {es : Array MapEntry} {ck : Nat} {done : List UInt32} (h : IterAt w b r es ck done) (k : KeepsWalks w w') : IterAt w' b r es ck done := by
 obtain ⟨o, ho, hw⟩ := h.walk
 refine ⟨k.same _ _ h.map rfl, ?_⟩
 rw [k.same _ _ ho hw, ← ho]; exact h.it
theorem IterAt.grown {w w' : World} {b r : Nat} {es : Array MapEntry} {ck : Nat} {done : List UInt32} (h : IterAt w b r es ck done) (g : w.grownBy w' none) : IterAt w' b r es ck done := by
 obtain ⟨o, ho, hw⟩ := h.walk
 refine ⟨(g.block b (Array.getElem?_eq_some_iff.1 h.map).1 (by simp)).trans h.map, ?_⟩
 rw [g.block r (Array.getElem?_eq_some_iff.1 ho).1 (by simp)]; exact h.it
theorem vZ {α : Type} {f : α → Value} {l : List (UInt32 × α)} {x : Operand} {t K e ty : TypeId} {pos : String} {after : Array Edge} {b : Nat} {es : Array MapEntry} {ck : Nat} {Ws : World} (hx : opv M x = some (.map (some b))) (hm : MapIs f l es ck) (hb : Ws.heap[b]? = some (.map es ck)) (ht : P.underlying t = some (.map K e)) (hd : Nat.ble (d + 1) N = true)
  (Kk : ∀ W1 r, Ws.grownBy W1 none → Ws.heap.size ≤ r → IterAt W1 b r es ck [] → Tr N (Bg.of0 W1) [] ((d, .pointer (some ⟨r, 0, none⟩)) :: M) (wpList P ops Q rest)) :
  Tr N (Bg.of0 Ws) [] M (wpList P ops Q (⟨some d, .range t x, ty, pos, after, none⟩ :: rest)) := by
 intro a w ha hw
 refine wpList_plain rfl fun K' hK => ?_
 have hg := hw.grown
 have hb' : w.heap[b]? = some (.map es ck) := (hg.block b (Array.getElem?_eq_some_iff.1 hb).1 (by simp)).trans hb
 have hrun := run_range_map (P := P) w t K e b es ck ht hb'
 unfold Oper.wp
 simp only [execOp, ha.eval hx, Sem.run_bind, hrun, Result.andThen_ok, Sem.run_pure, Oper.upon]
 have hlt : b < w.heap.size := (Array.getElem?_eq_some_iff.1 hb').1
 refine hK _ _ (Kk (w.alloc (.mapIter (some b) ck #[] ck)) w.heap.size ⟨hg.os, hg.tape, hg.output, ?_, fun k hk _ => ?_⟩ hg.size ⟨?_, ?_⟩ _ _ (ha.put (Nat.le_of_ble_eq_true hd)) (HpOK.start0 _))
 ·have := hg.size; simp; omega
 ·exact (Below.heap_alloc w _ k (Nat.lt_of_lt_of_le hk hg.size)).trans (hg.block k hk (by simp))
 ·exact (Below.heap_alloc w _ b hlt).trans hb'
 ·rw [World.alloc_heap_new]; exact IterOK.start hm
theorem zh {α : Type} {f : α → Value} {l : List (UInt32 × α)} {it id d1 d2 : Nat} {t1 t2 : TypeId} {p1 p2 : String} {a1 a2 : Array Edge} {b r : Nat} {es : Array MapEntry} {ck : Nat} {done : List UInt32} {Ws : World} (hx : look M it = some (.pointer (some ⟨r, 0, none⟩))) (hm : MapIs f l es ck) (hI : IterAt Ws b r es ck done)
  (hd1 : Nat.ble (d1 + 1) N = true) (hd2 : Nat.ble (d2 + 1) N = true)
  (K1 : ∀ k x W1 W2, dI l k = some x → k ∈ l.map (·.1) → k ∉ done → Ws.grownBy W1 none → W1.grownBy W2 (some r) → IterAt W1 b r es ck done → IterAt W2 b r es ck (done ++ [k]) →
   Tr N (Bg.of0 W2) [] ((d2, .bool true) :: (d1, .tuple #[.bool true, iD k, f x]) :: M) (Q .normal))
  (K0 : (∀ k ∈ l.map (·.1), k ∈ done) → Tr N (Bg.of0 Ws) [] ((d2, .bool false) :: (d1, .tuple #[.bool false]) :: M) (Q .normal)) :
  Tr N (Bg.of0 Ws) [] M ((Code.region id #[⟨some d1, .next (.tmp it) false, t1, p1, a1, none⟩, ⟨some d2, .extract (.tmp d1) 0, t2, p2, a2, none⟩] false).wp P Q) := by
 intro a w ha hw
 have hI' := hI.grown hw.grown
 have hit := ha.eval (x := .tmp it) (v := .pointer (some ⟨r, 0, none⟩)) hx
 refine wp_region_lit (l := [_, _]) (wpList_plain rfl fun K' hK => ?_)
 rcases Ca (P := P) hm hI'.map hI'.it t1 with ⟨h0, hrun⟩ | ⟨k, x, w1, o, hal, hx2, hkl, hkd, hI2, hrun⟩
 ·unfold Oper.wp
  simp only [execOp, hit, Sem.run_bind, hrun, Result.andThen_ok, Sem.run_pure, Oper.upon]
  refine hK _ _ ?_
  exact Ht (aN (x := .tmp d1) (vs := #[.bool false]) (by show look _ d1 = _; rw [dm, if_pos rfl]) rfl) hd2 (aD (K0 h0)) _ _ (ha.put (Nat.le_of_ble_eq_true hd1)) hw
 ·unfold Oper.wp
  simp only [execOp, hit, Sem.run_bind, hrun, Result.andThen_ok, Sem.run_pure, Oper.upon]
  refine hK _ _ ?_
  obtain ⟨o0, ho0, _⟩ := hI'.walk
  have hrl : r < w.heap.size := (Array.getElem?_eq_some_iff.1 ho0).1
  have hw1 : w1.heap = w.heap := by rcases hal with rfl | rfl <;> rfl
  have hg1 : w.grownBy (setBlock w1 r o) (some r) := by
   rcases hal with rfl | rfl <;> exact ⟨rfl, rfl, rfl, by simp [setBlock], fun i _ hi => ov (fun e1 => hi (by rw [e1]))⟩
  have hne : b ≠ r := fun e => by
   obtain ⟨_, _, _, hr, _⟩ := hI'.it.it
   rw [← e, hI'.map] at hr; cases hr
  have hI3 : IterAt (setBlock w1 r o) b r es ck (done ++ [k]) := by
   refine ⟨?_, ?_⟩
   ·rw [ov hne, hw1]; exact hI'.map
   ·rw [uS (by rw [hw1]; exact hrl)]; exact hI2
  exact Ht (aN (x := .tmp d1) (vs := #[.bool true, iD k, f x]) (by show look _ d1 = _; rw [dm, if_pos rfl]) rfl) hd2 (aD (K1 k x w (setBlock w1 r o) hx2 hkl hkd hw.grown hg1 hI' hI3)) _ _ (ha.put (Nat.le_of_ble_eq_true hd1)) (HpOK.start0 _)
theorem wh {α : Type} {f : α → Value} {l : List (UInt32 × α)} {x : Operand} {dst : Option Tmp} {ty : TypeId} {pos : String} {after : Array Edge} {g : Option (Nat × Bool)} {b r : Nat} {es : Array MapEntry} {ck : Nat} {done : List UInt32} {Ws : World} {k : UInt32} {y : α} (hx : opv M x = some (.pointer (some ⟨r, 0, none⟩))) (hm : MapIs f l es ck) (hI : IterAt Ws b r es ck done) (hl : done.getLast? = some k) (hy : dI l k = some y) :
  QS P N (Bg.of0 Ws) [] M ⟨dst, .entry x, ty, pos, after, g⟩ (.tuple #[iD k, f y]) :=
 cx fun A w ha hw => by
  have hI' := hI.grown hw.grown
  simp [execOp, ha.eval hx, Ab (P := P) hm hI'.map hI'.it hl hy]
end
theorem SeqStopsK.later {α : Type} {Fe : Fence} {n : Nat} {P : Program} {g : Nat} {lb : Array Value} {encs : α → Array Value} {Kp : World → World → Prop} {S Sp : List α → Prop} {Nm : Nat} {w w' : World} (h : SeqStopsK Fe n P g lb encs Kp S Sp Nm w) (hb : Below w.heap.size w w') : SeqStopsK Fe n P g lb encs Kp S Sp Nm w' :=
 fun l J Jx W hW h1 h2 h3 h4 => h l J Jx W (hb.trans (hW.mono hb.size)) h1 h2 h3 h4
section
variable {P : Program} {Q : Exit → Act → World → Prop} {N : Nat} {F : Bg} {L : List Ent} {M : Fr}
theorem AA {α ι : Type} {gO : Operand} {p d rid : Nat} {ty : TypeId} {pos : String} {after : Array Edge} {body : Code} {gf : Nat} {lb : List Value} (enc : α → Value) (S : List α → Prop) (okI : List α → ι → Prop) (L' : ι → List Ent) (Nm : Nat) (j0 : ι)
  (hF0 : F.dr = 0) (hM : look M mk0 = some undef) (hg : opv M gO = some (.func (.func gf) #[] lb.toArray)) (eg : ∀ (args : Array Value) (w : World), (callFunc gf args).run P w = .ok (.enter gf args) w)
  (hp : Nat.ble (p + 1) N = true) (hd : Nat.ble (d + 1) N = true) (hL : Pick L (L' j0)) (h0 : okI [] j0) (hc : ∀ j, CellsOnly (L' j))
  (hseq : ∀ w F1, F.le F1 → HpOK F1 (L' j0) w → SeqStopsK Fence.wide 2 P gf lb.toArray (fun x => #[enc x]) KeepsWalks S (fun _ => True) Nm w)
  (hbody : ∀ pre x j l0 F1, F.le F1 → okI pre j → pre.length < Nm → Tr N F1 (L' j) ((d, enc x) :: (p, enc x) :: M) (body.wpIn (Fence.wide.inRound l0) 1 P (fun e a W' => e = .normal ∧ ∃ j', okI (pre ++ [x]) j' ∧ HpOK F1 (L' j') W')))
  (hdone : ∀ xs j D F1, F.le F1 → S xs → okI xs j → Tr N F1 (D1 D :: L' j) (qc M ++ [(mk0 + 1 + D, undef)]) (Q .normal)) :
  Tr N F L M ((Code.rangeFunc gO #[p] (Code.region rid #[⟨some d, .assign (.tmp p), ty, pos, after, none⟩] false) body).wp P Q) := by
 intro a w ha hw
 have ha0 := ha.defers0 hM
 obtain ⟨F1, e1, h1, full1⟩ := (hL.heap hw).freeze
 have hF1 : F1.dr = 0 := e1.dr.trans hF0
 have hB : ∀ b o, F1.blk b = some o → b < w.heap.size := fun b o e => (Array.getElem?_eq_some_iff.1 (h1.bg b o e)).1
 refine (wpIn_wide (n := 3)).1 ?_
 refine wpIn_rangeFunc_ownF (n := 3) rfl (by omega) (ha.eval hg) trivial eg (hseq w F1 e1 h1) KeepsWalks.trans (fun W l o o' hl ho hc hw => KeepsWalks.putObj o' ho hw) (Below.refl _ _) (fun _ => rfl)
  (fun pre W => ∃ j, okI pre j ∧ HpOK F1 (L' j) W) (fun _ _ _ => False) (fun pre W W' row ⟨j, k1, k2⟩ hgr hr => ⟨j, k1, k2.turned (hc j) hF1 hB hgr hr⟩) (fun _ _ _ _ _ h _ _ => h) ⟨j0, h0, h1⟩
  (fun x => { tmps := (a.tmps.setIfInBounds p (enc x)).setIfInBounds d (enc x), defers := [] }) ?_ ?_ ?_ (fun _ _ _ _ _ _ h _ => h.elim)
 ·intro l x W K hK
  refine wpIn_region_lit (l := [⟨some d, .assign (.tmp p), ty, pos, after, none⟩]) (wpListIn_plain rfl fun K' hK' => ?_)
  refine ⟨fun _ _ => trivial, ?_⟩
  rw [Oper.semAt_eq _ _ _ (fun c h => by cases h)]
  have hpN : p < a.tmps.size := by rw [ha.size]; exact Nat.le_of_ble_eq_true hp
  simp only [execOp, Sem.run_pure, Oper.uponIn, Act.put, Act.eval]
  refine hK' _ _ ?_
  show wpListIn _ _ _ _ _ [] _ W
  unfold wpListIn
  show K _ W
  have e : ((#[p].zip #[enc x]).foldl (fun t (pv : Nat × Value) => t.setIfInBounds pv.1 pv.2) a.tmps) = a.tmps.setIfInBounds p (enc x) := by simp
  have e2 : (a.tmps.setIfInBounds p (enc x)).getD p undef = enc x := by simp [Array.getD_eq_getD_getElem?, hpN]
  have e3 : ((#[p].zip #[enc x]).foldl (fun t (pv : Nat × Value) => t.setIfInBounds pv.1 pv.2) a.tmps).getD p undef = enc x := by rw [e]; exact e2
  simp only [e] at e3 ⊢
  first
   | (rw [e3]; exact hK)
   | (simp only [e2]; exact hK)
   | (simpa [e2] using hK)
 ·rintro l pre x W ⟨j, k1, k2⟩ hlen
  obtain ⟨F2, e2, h2, hn2, full2⟩ := k2.freezeN
  have ht := hbody pre x j l F2 (e1.trans e2) k1 hlen
  have hfr : FrOK N ((d, enc x) :: (p, enc x) :: M) { tmps := (a.tmps.setIfInBounds p (enc x)).setIfInBounds d (enc x), defers := [] } := by
   have hz := (ha.put (v := enc x) (Nat.le_of_ble_eq_true hp)).put (v := enc x) (Nat.le_of_ble_eq_true hd)
   have hz' : ((a.put (some p) (enc x)).put (some d) (enc x)) = { tmps := (a.tmps.setIfInBounds p (enc x)).setIfInBounds d (enc x), defers := a.defers } := rfl
   rw [hz', ha0] at hz
   exact hz
  refine wpIn_mono (ht _ W hfr h2) fun e a' W' hq => ?_
  obtain ⟨rfl, j', k3, k4⟩ := hq
  have keep : ∀ k o, W.heap[k]? = some o → k ∉ cT (L' j) → W'.heap[k]? = some o := fun k o hk hn => k4.bg k o (full2 k o hn hk)
  have hsz : W.heap.size ≤ W'.heap.size := by rw [← hn2]; exact k4.n
  refine ⟨⟨hsz, fun k o hk ho => keep k o hk fun hm => ?_⟩, ⟨hsz, fun k o hk ho => keep k o hk fun hm => ?_⟩, ⟨j', k3, k4.weaken e2⟩⟩
  ·obtain ⟨o2, ho2, hc2⟩ := tg h2 (hc j) hm
   rw [hk] at ho2; cases ho2; rw [ho] at hc2; cases hc2
  ·obtain ⟨o2, ho2, hc2⟩ := tg h2 (hc j) hm
   rw [hk] at ho2; cases ho2
   cases o <;> simp_all [Obj.isCells, Obj.isWalk]
 ·rintro D xs W hD hS ⟨j, k1, k2⟩ hK
  have hDl : D < W.heap.size := (Array.getElem?_eq_some_iff.1 hK).1
  have hDn : D ∉ cT (L' j) := fun hm => by
   obtain ⟨o, ho, hcc⟩ := tg k2 (hc j) hm
   rw [hK] at ho; cases ho; cases hcc
  refine hdone xs j D F1 e1 hS k1 _ W (ha.marked' ha0) ⟨k2.os, k2.tape, k2.out, k2.n, k2.dr, k2.bg, fun e he => ?_, ?_, ?_, ?_⟩
  ·rcases List.mem_cons.1 he with rfl | he
   ·exact hK
   ·exact k2.ent e he
  ·exact List.nodup_cons.2 ⟨hDn, k2.nodup⟩
  ·intro b hb
   rcases List.mem_cons.1 hb with rfl | hb
   ·exact hDl
   ·exact k2.lt b hb
  ·intro b hb
   rcases List.mem_cons.1 hb with rfl | hb
   ·refine ⟨?_, Nat.le_trans (Nat.le_trans F1.lo_le h1.n) hD⟩
    cases e : F1.blk b with
    | none => rfl
    | some o => have := hB b o e; omega
   ·exact k2.sep b hb
theorem EN {D : Nat} {fn : Func} {R : Ending → World → Prop} {t : Tmp} {v : Value} {L1 : List Ent} (hr : fn.results = #[.tmp t]) (hv : look M t = some v) (hD : look M (mk0 + 1 + D) = some undef) (hm : Del (D1 D) L L1)
  (h : ∀ w, HpOK F L1 w → R (.returned v) w) : Tr N F L M (AX (bodyPostM Fence.wide 3 P fn R) .ret) := by
 intro a w ha hw
 refine ⟨rfl, ?_⟩
 have hf := hw.front hm
 have hK : w.heap[D]? = some (.deferred (some [])) := hf.ent _ (.head _)
 show LeavesInM Fence.wide 3 P fn a.tmps R a.defers .returning w
 rw [ha.defersD D hD]
 refine ⟨by simp, .inl ⟨_, _, rfl, run_takeDeferred hK, ?_⟩⟩
 have h2 : HpOK F (⟨some D, fun _ => True⟩ :: L1) (w.putObj D (.deferred none)) :=
  HpOK.set (p := fun o => o = some (.deferred (some []))) (p' := fun _ => True) hf (.here _) rfl rfl rfl (grownBy_putObj' w D _).size (Nat.le_refl _) (fun k hk hkb => (grownBy_putObj' w D _).block k hk (fun e => hkb (Option.some.inj e))) trivial
 have h3 : HpOK F L1 (w.putObj D (.deferred none)) := h2.mem (List.sublist_cons_self _ _)
 exact ⟨_, results_tmp hr a.tmps P _, by rw [ha.val t v hv]; exact h _ h3⟩
end
theorem yq {α : Type} {l : List (UInt32 × α)} {done : List UInt32} (hn : (l.map (·.1)).Nodup) (h1 : done.Nodup) (h2 : ∀ k ∈ done, k ∈ l.map (·.1)) (h3 : ∀ k ∈ l.map (·.1), k ∈ done) : done.Perm (l.map (·.1)) :=
 (List.perm_ext_iff_of_nodup h1 hn).2 fun a => ⟨h2 a, h3 a⟩
theorem mW : ∀ {l l' : List UInt32}, l.Nodup → (∀ x ∈ l, x ∈ l') → l.length ≤ l'.length
 | [], _, _, _ => Nat.zero_le _
 | x :: l, l', hn, hs => by
  have hx : x ∈ l' := hs x (.head _)
  have h1 := List.nodup_cons.1 hn
  have h2 := mW (l' := l'.erase x) h1.2 fun y hy => (List.mem_erase_of_ne (fun (e : y = x) => h1.1 (by rw [← e]; exact hy))).2 (hs y (.tail _ hy))
  rw [List.length_erase_of_mem hx] at h2
  have := List.length_pos_of_mem hx
  simp only [List.length_cons]
  omega
theorem A6 {α : Type} {l : List (UInt32 × α)} {done : List UInt32} {k : UInt32} (h1 : done.Nodup) (h2 : ∀ k ∈ done, k ∈ l.map (·.1)) (hk : k ∈ l.map (·.1)) (hd : k ∉ done) : done.length < l.length := by
 have h3 : (k :: done).Nodup := List.nodup_cons.2 ⟨hd, h1⟩
 have := mW (l := k :: done) (l' := l.map (·.1)) h3 fun x hx => by
  rcases List.mem_cons.1 hx with rfl | hx
  ·exact hk
  ·exact h2 x hx
 simp at this
 omega
theorem tY {done : List UInt32} {k : UInt32} (h1 : done.Nodup) (hd : k ∉ done) : (done ++ [k]).Nodup := by
 rw [List.nodup_append]
 exact ⟨h1, by simp, fun a ha b hb => by rw [List.mem_singleton.1 hb]; rintro rfl; exact hd ha⟩
section
open Go.Sort
def fQ (l : List UInt32) : List UInt32 := l.mergeSort fun x y => decide (x ≤ y)
theorem lm (l : List UInt32) : (fQ l).Perm l := List.mergeSort_perm _ _
theorem qx (l : List UInt32) : (fQ l).length = l.length := (lm l).length_eq
theorem HK (a b c : UInt32) : decide (a ≤ b) = true → decide (b ≤ c) = true → decide (a ≤ c) = true := by
 simp only [decide_eq_true_eq, UInt32.le_iff_toNat_le]; omega
theorem lS (l : List UInt32) : (fQ l).Pairwise (fun x y => x ≤ y) := by
 have := List.pairwise_mergeSort (le := fun x y : UInt32 => decide (x ≤ y)) HK (fun a b => by simp only [Bool.or_eq_true, decide_eq_true_eq, UInt32.le_iff_toNat_le]; omega) l
 exact this.imp (fun h => of_decide_eq_true h)
theorem rD {l l' : List UInt32} (hp : l.Perm l') (h : l.Pairwise (fun x y => x ≤ y)) (h' : l'.Pairwise (fun x y => x ≤ y)) : l = l' :=
 hp.eq_of_pairwise (fun a b _ _ h1 h2 => by rw [UInt32.le_iff_toNat_le] at h1 h2; exact UInt32.toNat_inj.1 (by omega)) h h'
theorem qw {l l' : List UInt32} (h : l.Perm l') : fQ l = fQ l' :=
 rD ((lm l).trans (h.trans (lm l').symm)) (lS l) (lS l')
end
end Go.HL
namespace Go.HL
open Go Go.RowKit Go.ChangeMaps Go.MapKept
section
variable {P : Program} {ops : Array Oper} {Q : Exit → Act → World → Prop} {N : Nat} {F : Bg} {L : List Ent} {M : Fr} {dst : Option Tmp} {ty : TypeId} {pos : String} {after : Array Edge} {g : Option (Nat × Bool)} {rest : List Oper} {d : Nat}
end
section
variable {P : Program} {ops : Array Oper} {Q : Exit → Act → World → Prop} {N : Nat} {F : Bg} {L : List Ent} {M : Fr} {rest : List Oper} {d : Nat}
end
theorem Pick.skip {e : Ent} {L L' : List Ent} (h : Pick L L') : Pick (e :: L) L' := by
 induction h with
 | nil => exact .nil _
 | cons hd _ ih => exact .cons (.there _ hd) ih
section
variable {l : List SecV} {a : UInt32} {n : Int}
end
end Go.HL
namespace Go.HL
open Go Go.RowKit
theorem ti (n : UInt32) : (n &&& 31).toNat = od n := by
 unfold od
 rw [UInt32.toNat_and, UInt32.toNat_mod]
 exact Nat.and_two_pow_sub_one_eq_mod n.toNat 5
theorem cnt_lt (n : UInt32) : od n < 32 := by
 unfold od
 rw [UInt32.toNat_mod]
 exact Nat.mod_lt _ (by decide)
theorem Gc {a b : UInt32} {op : Int} (h : ¬ (op < 3 ∨ 15 < op)) {o : Nat} (ho : o = (op - 3).toNat) :
  ([.int .u32 (a + b).toNat, .int .u32 (a - b).toNat, .int .u32 (a * b).toNat, .int .u32 (a &&& b).toNat, .int .u32 (a ||| b).toNat, .int .u32 (a ^^^ b).toNat, .int .u32 (mT a (od b)).toNat, .int .u32 (qD a (od b)).toNat, .int .u32 (Fl a (od b)).toNat,
   .int .u32 (qM (decide (a = b))).toNat, .int .u32 (qM (decide (a ≠ b))).toNat, .int .u32 (qM (zQ a b)).toNat, .int .u32 (qM (decide (a < b))).toNat] : List Value)[o]? = some (.int .u32 (Hm op a b).toNat) := by
 subst ho
 have hk : op = 3 ∨ op = 4 ∨ op = 5 ∨ op = 6 ∨ op = 7 ∨ op = 8 ∨ op = 9 ∨ op = 10 ∨ op = 11 ∨ op = 12 ∨ op = 13 ∨ op = 14 ∨ op = 15 := by omega
 rcases hk with rfl | rfl | rfl | rfl | rfl | rfl | rfl | rfl | rfl | rfl | rfl | rfl | rfl <;> rfl
section
variable {P : Program} {N : Nat} {F : Bg} {L : List Ent} {M : Fr}
end
section
variable {bM : Nat} {vi vo eff : Value}
end
end Go.HL
namespace Go.Proofs.YtiajjbhcpeadfaaGreat
open Go Go.HL Go.RowKit
theorem xY (a b : UInt32) (w : World) :
  Cr Tryz.prog 306 #[.int .u32 a.toNat, .int .u32 b.toNat] w (.int .u32 (mT a (od b)).toNat) := by
 refine enter Tryz.func306 rfl Tryz.ntmps306 rfl ?_
 refine ah (zz0 (ab rfl) (aI (zz0 (aa rfl) (zz0 (aa rfl) (zz0 (nk (n := 31) rfl rfl) ?_)))))
 refine zz0 (nc rfl rfl (by omega)) ?_
 refine zz0 (ab rfl) (ad (aC ?_))
 refine aX Tryz.results306 rfl (fun w' hw => ?_)
 exact ⟨by rw [← ti]; rfl, hw.b0⟩
theorem tK (a b : UInt32) (w : World) :
  Cr Tryz.prog 307 #[.int .u32 a.toNat, .int .u32 b.toNat] w (.int .u32 (qD a (od b)).toNat) := by
 refine enter Tryz.func307 rfl Tryz.ntmps307 rfl ?_
 refine ah (zz0 (ab rfl) (aI (zz0 (aa rfl) (zz0 (aa rfl) (zz0 (nk (n := 31) rfl rfl) ?_)))))
 refine zz0 (E3 rfl rfl (by omega)) ?_
 refine zz0 (ab rfl) (ad (aC ?_))
 refine aX Tryz.results307 rfl (fun w' hw => ?_)
 exact ⟨by rw [← ti]; rfl, hw.b0⟩
theorem Dh (a b : UInt32) (w : World) :
  Cr Tryz.prog 308 #[.int .u32 a.toNat, .int .u32 b.toNat] w (.int .u32 (Fl a (od b)).toNat) := by
 refine enter Tryz.func308 rfl Tryz.ntmps308 rfl ?_
 refine ah (zz0 (ab rfl) (aI (zz0 (aa rfl) (zz0 (mN rfl aS jC) (zz0 (aa rfl) (zz0 (nk (n := 31) rfl rfl) ?_))))))
 refine zz0 (sj rfl rfl (Int.natCast_nonneg _)) ?_
 refine zz0 (gU rfl jC aS) (zz0 (ab rfl) (ad (aC ?_)))
 refine aX Tryz.results308 rfl (fun w' hw => ?_)
 exact ⟨by unfold Fl; rw [← ti, Int.toNat_natCast, Nat.min_eq_left (by rw [ti]; exact Nat.le_of_lt (cnt_lt b))], hw.b0⟩
theorem nv (x : Bool) (w : World) :
  Cr Tryz.prog 309 #[.bool x] w (.int .u32 (qM x).toNat) := by
 refine enter Tryz.func309 rfl Tryz.ntmps309 rfl ?_
 refine ah (zz0 (ab rfl) (ad (an (ah (zz0 (aa rfl) (ad ?_))))))
 refine au rfl ?_ ?_ <;> intro h1 <;> try simp only [bs] at h1
 ·refine ah (zz0 (ab rfl) (ad (aC (ay ?_))))
  refine aX Tryz.results309 rfl (fun w' hw => ?_)
  exact ⟨by rw [show x = true by assumption]; rfl, hw.b0⟩
 refine dz (zz0 (ab rfl) (ad (aC ?_)))
 refine aX Tryz.results309 rfl (fun w' hw => ?_)
 exact ⟨by rw [show x = false by simp_all]; rfl, hw.b0⟩
theorem Ap (op : Int) (a b : UInt32) (w : World) :
  Cr Tryz.prog 277 #[.int .i64 op, .int .u32 a.toNat, .int .u32 b.toNat] w (.tuple #[.int .u32 (EL op a b).1.toNat, .int .i64 (EL op a b).2]) := by
 refine enter Tryz.func277 rfl Tryz.ntmps277 rfl ?_
 refine ah (zz0 (ab rfl) (zz0 (ab rfl) (ad (an (ah (zz0 (aa rfl) (zz0 (bT rfl rfl) (zz0 (aa rfl) ?_))))))))
 apply dV
 ·exact (rfl : _ = (3, 11, 14))
 ·exact rfl
 ·intro hF1; have hF1' := hF1
  try simp only [bs] at hF1'
  refine zz6 hF1 (aa rfl) (zz6 hF1 (fg rfl rfl) (zz0 (aU rfl hF1 rfl) ?_))
  refine aD (ac ?_)
  exact aK (Sub.cons rfl (bD 3 rfl))
 ·intro hT1
  refine zz9 hT1 (zz9 hT1 (zz0 (aV rfl hT1 rfl) ?_))
  refine aD (ac ?_)
  exact aK (Sub.cons rfl (bD 3 rfl))
 refine ad ?_
 refine au rfl ?_ ?_ <;> intro h2 <;> try simp only [bs] at h2
 ·refine ah (zz0 (ab rfl) (zz0 (ab rfl) (ad (aC (ay ?_)))))
  refine dE Tryz.results277 rfl rfl (fun w' hw => ?_)
  exact ⟨by unfold EL; rw [if_pos (by assumption)]; rfl, hw.b0⟩
 refine dz (zz0 (aa rfl) (zz0 (aa rfl) (zz0 (gJ rfl rfl) ?_)))
 refine zz0 (aa rfl) (zz0 (aa rfl) (zz0 (fk rfl rfl) ?_))
 refine zz0 (aa rfl) (zz0 (aa rfl) (zz0 (ng rfl rfl) ?_))
 refine zz0 (aa rfl) (zz0 (aa rfl) (zz0 (nk rfl rfl) ?_))
 refine zz0 (aa rfl) (zz0 (aa rfl) (zz0 (rn rfl rfl) ?_))
 refine zz0 (aa rfl) (zz0 (aa rfl) (zz0 (EX rfl rfl) ?_))
 refine zz0 (aa rfl) (zz0 (aa rfl) (zz0 (az rfl Tryz.call306 (fun w hw => xY a b w)) ?_))
 refine zz0 (aa rfl) (zz0 (aa rfl) (zz0 (az rfl Tryz.call307 (fun w hw => tK a b w)) ?_))
 refine zz0 (aa rfl) (zz0 (aa rfl) (zz0 (az rfl Tryz.call308 (fun w hw => Dh a b w)) ?_))
 refine zz0 (aa rfl) (zz0 (aa rfl) (zz0 (eE rfl rfl) ?_))
 refine zz0 (az rfl nK (fun w hw => nv (decide (a = b)) w)) ?_
 refine zz0 (aa rfl) (zz0 (aa rfl) (zz0 (iU rfl rfl) ?_))
 refine zz0 (az rfl nK (fun w hw => nv (decide (a ≠ b)) w)) ?_
 refine zz0 (aa rfl) (zz0 (mN rfl aS jC) (zz0 (aa rfl) (zz0 (mN rfl aS jC) (zz0 (bT rfl rfl) (zz0 (az rfl nK (fun w hw => nv (zQ a b) w)) ?_)))))
 refine zz0 (aa rfl) (zz0 (aa rfl) (zz0 (iu rfl rfl) ?_))
 refine zz0 (az rfl nK (fun w hw => nv (decide (a < b)) w)) ?_
 refine zz0 (bK (vs := [(0, _), (1, _), (2, _), (3, _), (4, _), (5, _), (6, _), (7, _), (8, _), (9, _), (10, _), (11, _), (12, _)]) rfl rfl (iv _ _ _ _ _ _ _ _ _ _ _ _ _)) ?_
 refine dC Tryz.zeroValue324 rfl (fun b3 => ?_)
 refine zz5 rfl rfl Tryz.sizeOf324 ?_
 refine ad (an ?_)
 have hop : ¬ (op < 3 ∨ 15 < op) := by omega
 refine ar (zz0 (aa rfl) (zz0 (ei rfl rfl) ?_))
 refine zz0 (dH rfl rfl Tryz.underlying324 ae (by omega)) ?_
 refine zz0 (oW (v := .int .u32 (Hm op a b).toNat) rfl (by repeat constructor) am (Gc (by assumption) (by simp))) ?_
 refine zz0 (ab rfl) (zz0 (ab rfl) (ad (aC ?_)))
 refine dE Tryz.results277 rfl rfl (fun w' hw => ?_)
 exact ⟨by unfold EL; rw [if_neg hop], hw.b0⟩
end Go.Proofs.YtiajjbhcpeadfaaGreat
namespace Go.HL
open Go
structure VSet where
 em : Bool
 top : Bool
 lo : UInt32
 hi : UInt32
 st : UInt32
 deriving DecidableEq, Inhabited
def bO : Enc VSet := ⟨5, fun s => [.bool s.em, .bool s.top, .int .u32 s.lo.toNat, .int .u32 s.hi.toNat, .int .u32 s.st.toNat], fun _ => rfl, fun x v h => by simp at h; rcases h with h | h | h | h | h <;> subst h <;> rfl⟩
theorem tL : zw bO [.bool, .bool, .int .u32, .int .u32, .int .u32] [0, 1, 2, 3, 4] := by
 intro x y
 refine ⟨fun j o e ho he => ?_, ?_⟩
 ·rcases j with _ | _ | _ | _ | _ | j <;> simp at ho he <;> subst ho <;> subst he <;> trivial
 ·obtain ⟨a0, a1, a2, a3, a4⟩ := x
  obtain ⟨c0, c1, c2, c3, c4⟩ := y
  rw [Bool.eq_iff_iff]
  simp [u6, bO]
  simp only [← UInt32.toNat_inj]
  try omega
section
variable {P : Program} {N : Nat} {F : Bg} {L : List Ent} {M : Fr} {dst : Option Tmp} {ty : TypeId} {pos : String} {after : Array Edge} {g : Option (Nat × Bool)}
theorem uH {x : Operand} {t : TypeId} {n : UInt32} (h : opv M x = some (.int .u32 n.toNat)) : QS P N F L M ⟨dst, .unOp .neg t x, ty, pos, after, g⟩ (.int .u32 (0 - n).toNat) := by
 have := Hx (P := P) (N := N) (F := F) (L := L) (dst := dst) (ty := ty) (pos := pos) (after := after) (g := g) (t := t) h
 have e : IntKind.u32.wrap (-(n.toNat : Int)) = ((0 - n).toNat : Int) := by
  rw [IntKind.wrap_u32, UInt32.toNat_sub, UInt32.toNat_zero]
  have := n.toNat_lt
  omega
 rwa [e] at this
end
theorem GR {a : UInt32} (h : 0 < a) : a ≠ 0 := by intro e; subst e; exact absurd h (by decide)
theorem tZ {a : UInt32} (h : a ≠ 0) : 0 < a.toNat := by
 have : a.toNat ≠ 0 := fun e => h (UInt32.toNat_inj.1 e)
 omega
def zeroS : VSet := ⟨false, false, 0, 0, 0⟩
def oa : VSet := ⟨false, true, 0, 0, 0⟩
def emptyS : VSet := ⟨true, false, 0, 0, 0⟩
def gP (n : UInt32) : VSet := ⟨false, false, n, n, 0⟩
def db (lo hi st : UInt32) : VSet :=
 if hi < lo then emptyS else if st = 0 ∨ hi - lo < st then gP lo else if lo = 0 ∧ hi = 4294967295 ∧ st = 1 then oa
 else ⟨false, false, lo, hi - (hi - lo) % st, st⟩
def iI (s : VSet) : Bool :=
 if s.top = true ∨ s.em = true then decide (s = oa) || decide (s = emptyS) else if s.st = 0 then decide (s.lo = s.hi)
 else decide (s.lo < s.hi) && decide ((s.hi - s.lo) % s.st = 0) && (decide (0 < s.lo) || decide (s.hi < 4294967295) || decide (1 < s.st))
def aZ (s : VSet) : VSet := if iI s = true then s else oa
def qC (s : VSet) : Bool := !s.top && !s.em && decide (s.st = 0)
def A9 (s : VSet) (n : UInt32) : Bool :=
 if s.top = true ∨ s.em = true then s.top else if s.st = 0 then decide (n = s.lo)
 else decide (s.lo ≤ n) && decide (n ≤ s.hi) && decide ((n - s.lo) % s.st = 0)
def q7 (s : VSet) (n : UInt32) : Bool := A9 (aZ s) n
def l7 (s : VSet) : Int :=
 if s.top = true then 4294967296 else if s.em = true then 0 else if s.st = 0 then 1 else (((s.hi - s.lo) / s.st).toNat : Int) + 1
def ff (s : VSet) : Int := l7 (aZ s)
def kx (a b : UInt32) : UInt32 := UInt32.ofNat (Nat.gcd a.toNat b.toNat)
def mm (a b : UInt32) : UInt32 := if b < a then b else a
def kZ (a b : UInt32) : UInt32 := if a < b then b else a
def lB (a b : VSet) : VSet :=
 if a.top = true ∨ b.top = true then oa else if a.em = true then b else if b.em = true then a
 else db (mm a.lo b.lo) (kZ a.hi b.hi) (kx (kx a.st b.st) (kZ a.lo b.lo - mm a.lo b.lo))
def gA (a b : VSet) : VSet := lB (aZ a) (aZ b)
def elK (s : VSet) (k : Nat) : List UInt32 := (List.range k).map fun (j : Nat) => s.lo + u32 (j : Int) * s.st
theorem Et (s : VSet) (k : Nat) : elK s (k + 1) = elK s k ++ [s.lo + u32 (k : Int) * s.st] := by
 unfold elK; rw [List.range_succ, List.map_append]; rfl
theorem Bi (s : VSet) (k : Nat) : (elK s k).length = k := by unfold elK; simp
def wT (s : VSet) : List UInt32 := elK s (ff s).toNat
def eY (s : VSet) : List UInt32 × Int := if 64 < ff s then ([], 6) else (wT (aZ s), 0)
theorem oG (s : VSet) : iI (aZ s) = true := by
 unfold aZ
 split
 ·assumption
 ·rfl
theorem jL (s : VSet) : aZ (aZ s) = aZ s := by
 exact if_pos (oG s)
theorem oy (m n : UInt32) : (if n < m then n else m) = mm m n := rfl
theorem oC (m n : UInt32) : (if m < n then n else m) = kZ m n := rfl
theorem DX (x : UInt32) {y : UInt32} (h : y ≠ 0) : (x % y).toNat < y.toNat := by
 have : y.toNat ≠ 0 := fun e => h (UInt32.toNat_inj.1 e)
 rw [UInt32.toNat_mod]; exact Nat.mod_lt _ (by omega)
theorem Ee {a b : UInt32} (h : b ≠ 0) : kx b (a % b) = kx a b := by
 unfold kx
 rw [UInt32.toNat_mod, Nat.gcd_comm b.toNat, ← Nat.gcd_rec, Nat.gcd_comm]
theorem Ed (a : UInt32) : kx a 0 = a := by
 unfold kx
 rw [UInt32.toNat_zero, Nat.gcd_zero_right]
 exact UInt32.ofNat_toNat
theorem GG {s : VSet} (h : iI s = true) (ht : s.top = false) (he : s.em = false) : s.st ≠ 0 ∧ s.lo < s.hi ∧ (s.hi - s.lo) % s.st = 0 ∨ s.st = 0 ∧ s.lo = s.hi := by
 unfold iI at h
 rw [if_neg (by rw [ht, he]; simp)] at h
 by_cases h0 : s.st = 0
 ·rw [if_pos h0] at h; exact .inr ⟨h0, by simpa using h⟩
 ·rw [if_neg h0] at h
  simp only [Bool.and_eq_true, decide_eq_true_eq] at h
  exact .inl ⟨h0, h.1.1, h.1.2⟩
end Go.HL
namespace Go.Proofs.YtiajjbhcpeadfaaGreat
open Go Go.HL Go.RowKit
theorem jv (n : UInt32) (w : World) :
  Cr Tryz.prog 36 #[.int .u32 n.toNat] w (.agg (bO.enc (gP n)).toArray) := by
 refine enter Tryz.func36 rfl Tryz.ntmps36 rfl ?_
 refine ah ?_
 refine dC cG rfl (fun b1 => ?_)
 refine aI (zz0 (aa rfl) (zz0 (aa rfl) (zz0 (bK (vs := [(2, _), (3, _)]) rfl rfl (s7 _ _)) ?_)))
 refine aB bO rfl rfl ak ?_
 refine ad (aC ?_)
 refine eO Tryz.results36 rfl aJ ak (fun w' hw => ?_)
 exact ⟨rfl, hw.b0⟩
theorem jP (w : World) :
  Cr Tryz.prog 37 #[] w (.agg (bO.enc oa).toArray) := by
 refine enter Tryz.func37 rfl Tryz.ntmps37 rfl ?_
 refine ah ?_
 refine dC cG rfl (fun b1 => ?_)
 refine aI (zz0 (bK (vs := [(1, _)]) rfl rfl (vg _)) ?_)
 refine aB bO rfl rfl ak ?_
 refine ad (aC ?_)
 refine eO Tryz.results37 rfl aJ ak (fun w' hw => ?_)
 exact ⟨rfl, hw.b0⟩
theorem jR (w : World) :
  Cr Tryz.prog 91 #[] w (.agg (bO.enc emptyS).toArray) := by
 refine enter Tryz.func91 rfl Tryz.ntmps91 rfl ?_
 refine ah ?_
 refine dC cG rfl (fun b1 => ?_)
 refine aI (zz0 (bK (vs := [(0, _)]) rfl rfl (vh _)) ?_)
 refine aB bO rfl rfl ak ?_
 refine ad (aC ?_)
 refine eO Tryz.results91 rfl aJ ak (fun w' hw => ?_)
 exact ⟨rfl, hw.b0⟩
theorem dK (lo hi st : UInt32) (w : World) :
  Cr Tryz.prog 35 #[.int .u32 lo.toNat, .int .u32 hi.toNat, .int .u32 st.toNat] w (.agg (bO.enc (db lo hi st)).toArray) := by
 refine enter Tryz.func35 rfl Tryz.ntmps35 rfl ?_
 refine ah ?_
 refine dC cG rfl (fun b1 => ?_)
 refine ad (an (aF (ah (zz0 (aa rfl) (zz0 (aa rfl) (zz0 (kD rfl rfl) ?_))))))
 refine zz0 (ab rfl) (ad ?_)
 refine au rfl ?_ ?_ <;> intro h2 <;> try simp only [bs] at h2
 ·refine ah (zz0 (az rfl je (fun w hw => jR w)) ?_)
  refine aB bO rfl rfl ak ?_
  refine ad (aC (bv (ay ?_)))
  refine eO lj rfl aJ ak (fun w' hw => ?_)
  refine ⟨?_, hw.b0⟩
  unfold db
  repeat' (first | rfl | (exfalso; first | (simp_all; done) | grind) | split)
 refine ah (zz0 (aa rfl) (zz0 (eE (n := 0) rfl rfl) ?_))
 refine zz0 (aa rfl) ?_
 apply dV
 ·exact (rfl : _ = (6, 15, 21))
 ·exact rfl
 ·intro hF3; have hF3' := hF3
  try simp only [bs] at hF3'
  refine zz6 hF3 (aa rfl) (zz6 hF3 (aa rfl) (zz6 hF3 (fk rfl rfl) ?_))
  refine zz6 hF3 (aa rfl) (zz6 hF3 (iu rfl rfl) ?_)
  refine zz0 (aU rfl hF3 rfl) ?_
  refine aD (ac ?_)
  exact aK (Sub.cons rfl (bD 6 rfl))
 ·intro hT3
  refine zz9 hT3 (zz9 hT3 (zz9 hT3 (zz9 hT3 (zz9 hT3 (zz0 (aV rfl hT3 rfl) ?_)))))
  refine aD (ac ?_)
  exact aK (Sub.cons rfl (bD 6 rfl))
 refine zz0 (ab rfl) (ad ?_)
 refine au rfl ?_ ?_ <;> intro h4 <;> try simp only [bs] at h4
 ·refine ah (zz0 (aa rfl) (zz0 (az rfl ix (fun w hw => jv lo w)) ?_))
  refine aB bO rfl rfl ak ?_
  refine ad (aC (bv (ay ?_)))
  refine eO lj rfl aJ ak (fun w' hw => ?_)
  refine ⟨?_, hw.b0⟩
  unfold db
  repeat' (first | rfl | (exfalso; first | (simp_all; done) | grind) | split)
 refine ah (zz0 (aa rfl) (zz0 (eE (n := 0) rfl rfl) ?_))
 refine zz0 (aa rfl) ?_
 apply cH
 ·exact (rfl : _ = (3, 27, 30))
 ·exact rfl
 ·intro hT5; have hT5' := hT5
  try simp only [bs] at hT5'
  refine zz6 hT5 (aa rfl) (zz6 hT5 (eE (n := 4294967295) rfl rfl) ?_)
  refine zz0 (aV rfl hT5 rfl) ?_
  refine aD (ac ?_)
  exact aK (Sub.cons rfl (bD 3 rfl))
 ·intro hF5
  refine zz9 hF5 (zz9 hF5 (zz0 (aU rfl hF5 rfl) ?_))
  refine aD (ac ?_)
  exact aK (Sub.cons rfl (bD 3 rfl))
 refine zz0 (aa rfl) ?_
 apply cH
 ·exact (rfl : _ = (3, 31, 34))
 ·exact rfl
 ·intro hT6; have hT6' := hT6
  try simp only [bs] at hT6'
  refine zz6 hT6 (aa rfl) (zz6 hT6 (eE (n := 1) rfl rfl) ?_)
  refine zz0 (aV rfl hT6 rfl) ?_
  refine aD (ac ?_)
  exact aK (Sub.cons rfl (bD 3 rfl))
 ·intro hF6
  refine zz9 hF6 (zz9 hF6 (zz0 (aU rfl hF6 rfl) ?_))
  refine aD (ac ?_)
  exact aK (Sub.cons rfl (bD 3 rfl))
 refine zz0 (ab rfl) (ad ?_)
 refine au rfl ?_ ?_ <;> intro h7 <;> try simp only [bs] at h7
 ·refine ah (zz0 (az rfl fO (fun w hw => jP w)) ?_)
  refine aB bO rfl rfl ak ?_
  refine ad (aC (bv (ay ?_)))
  refine eO lj rfl aJ ak (fun w' hw => ?_)
  refine ⟨?_, hw.b0⟩
  unfold db
  repeat' (first | rfl | (exfalso; first | (simp_all; done) | grind) | split)
 refine cd (aY (ac (an ?_)))
 have hst0 : st ≠ 0 := (by assumption : ¬st = 0 ∧ ¬hi - lo < st).1
 refine ar (zz0 (aa rfl) (zz0 (aa rfl) (zz0 (aa rfl) (zz0 (aa rfl) (zz0 (fk rfl rfl) ?_)))))
 refine zz0 (aa rfl) (zz0 (nf rfl rfl (by first | decide | assumption)) ?_)
 refine zz0 (fk rfl rfl) ?_
 refine zz0 (aa rfl) (zz0 (bK (vs := [(2, _), (3, _), (4, _)]) rfl rfl (rx _ _ _)) ?_)
 refine aB bO rfl rfl ak ?_
 refine ad (aC ?_)
 refine eO lj rfl aJ ak (fun w' hw => ?_)
 refine ⟨?_, hw.b0⟩
 unfold db
 repeat' (first | rfl | (exfalso; first | (simp_all; done) | grind) | split)
theorem tC (a : VSet) (w : World) :
  Cr Tryz.prog 40 #[.agg (bO.enc a).toArray] w (.bool (iI a)) := by
 refine enter Tryz.func40 rfl Tryz.ntmps40 rfl ?_
 refine ah ?_
 refine dG rfl rfl (fun b1 => ?_)
 refine zz0 (ab rfl) (ad (an (aF (an (ah (zz0 (zz2 (off := 1) (ft := 4) rfl ao rfl bS) ?_))))))
 refine zz0 (aH rfl cE) ?_
 refine zz0 (ab rfl) (ad ?_)
 apply dP
 ·exact rfl
 ·intro hO2
  try simp only [bs] at hO2
  refine ar (zz0 (zz2 (off := 0) (ft := 4) rfl ao rfl bS) ?_)
  refine zz0 (aH rfl cE) ?_
  refine zz0 (ab rfl) (ad ?_)
  exact eD rfl (zz8 3 rfl)
 refine ac ?_
 refine au rfl ?_ ?_ <;> intro h3 <;> try simp only [bs] at h3
 ·refine an (gZ aP ?_)
  refine aw (bG rfl aJ ak) ?_
  refine aw (az rfl fO (fun w hw => jP w)) ?_
  refine aw (BB rfl rfl tL ao (oZ _ ao) rfl qn wj) ?_
  refine aw (aa rfl) ?_
  apply tq
  ·exact (rfl : _ = (4, 11, 15))
  ·exact rfl
  ·intro hF4; have hF4' := hF4
   try simp only [bs] at hF4'
   refine bX hF4 (bG rfl aJ ak) ?_
   refine bX hF4 (az rfl je (fun w hw => jR w)) ?_
   refine bX hF4 (BB rfl rfl tL ao (oZ _ ao) rfl qn wj) ?_
   refine aw (aU rfl hF4 rfl) ?_
   exact dj (Sub.cons rfl (bD 4 rfl))
  ·intro hT4
   refine bW hT4 (bW hT4 (bW hT4 (aw (aV rfl hT4 rfl) ?_)))
   exact dj (Sub.cons rfl (bD 4 rfl))
  refine aw (ab rfl) (bH ?_)
  refine ac (aC (bv (ay ?_)))
  refine aX Tryz.results40 rfl (fun w' hw => ?_)
  refine ⟨?_, hw.b0⟩
  unfold iI
  repeat' (first | rfl | (exfalso; first | (simp_all; done) | grind) | split)
 refine ah (zz0 (zz2 (off := 4) (ft := 23) rfl ao rfl ae) ?_)
 refine zz0 (aH rfl am) ?_
 refine zz0 (eE (n := 0) rfl rfl) ?_
 refine zz0 (ab rfl) (ad ?_)
 refine au rfl ?_ ?_ <;> intro h5 <;> try simp only [bs] at h5
 ·refine ah (zz0 (zz2 (off := 2) (ft := 23) rfl ao rfl ae) ?_)
  refine zz0 (aH rfl am) ?_
  refine zz0 (zz2 (off := 3) (ft := 23) rfl ao rfl ae) ?_
  refine zz0 (aH rfl am) ?_
  refine zz0 (eE rfl rfl) ?_
  refine zz0 (ab rfl) (ad (aC (bv (ay ?_))))
  refine aX Tryz.results40 rfl (fun w' hw => ?_)
  refine ⟨?_, hw.b0⟩
  unfold iI
  repeat' (first | rfl | (exfalso; first | (simp_all; done) | grind) | split)
 refine cd (aY (ac (ah (zz0 (zz2 (off := 2) (ft := 23) rfl ao rfl ae) ?_))))
 refine zz0 (aH rfl am) ?_
 refine zz0 (zz2 (off := 3) (ft := 23) rfl ao rfl ae) ?_
 refine zz0 (aH rfl am) ?_
 refine zz0 (iu rfl rfl) ?_
 refine zz0 (aa rfl) ?_
 apply cH
 ·exact (rfl : _ = (10, 30, 40))
 ·exact rfl
 ·intro hT6; have hT6' := hT6
  try simp only [bs] at hT6'
  refine zz6 hT6 (zz2 (off := 3) (ft := 23) rfl ao rfl ae) ?_
  refine zz6 hT6 (aH rfl am) ?_
  refine zz6 hT6 (zz2 (off := 2) (ft := 23) rfl ao rfl ae) ?_
  refine zz6 hT6 (aH rfl am) ?_
  refine zz6 hT6 (fk rfl rfl) ?_
  refine zz6 hT6 (zz2 (off := 4) (ft := 23) rfl ao rfl ae) ?_
  refine zz6 hT6 (aH rfl am) ?_
  refine zz6 hT6 (nf rfl rfl (by first | decide | assumption)) ?_
  refine zz6 hT6 (eE (n := 0) rfl rfl) ?_
  refine zz0 (aV rfl hT6 rfl) ?_
  refine aD (ac ?_)
  exact aK (Sub.cons rfl (bD 10 rfl))
 ·intro hF6
  refine zz9 hF6 (zz9 hF6 (zz9 hF6 (zz9 hF6 (zz9 hF6 (zz9 hF6 (zz9 hF6 (zz9 hF6 (zz9 hF6 (zz0 (aU rfl hF6 rfl) ?_)))))))))
  refine aD (ac ?_)
  exact aK (Sub.cons rfl (bD 10 rfl))
 refine zz0 (aa rfl) ?_
 apply cH
 ·exact (rfl : _ = (14, 41, 55))
 ·exact rfl
 ·intro hT7; have hT7' := hT7
  try simp only [bs] at hT7'
  refine zz6 hT7 (zz2 (off := 2) (ft := 23) rfl ao rfl ae) ?_
  refine zz6 hT7 (aH rfl am) ?_
  refine zz6 hT7 (kD (n := 0) rfl rfl) ?_
  refine zz6 hT7 (aa rfl) ?_
  apply dV
  ·exact (rfl : _ = (4, 45, 49))
  ·exact rfl
  ·intro hF8; have hF8' := hF8
   try simp only [bs] at hF8'
   refine zz6 hF8 (zz2 (off := 3) (ft := 23) rfl ao rfl ae) ?_
   refine zz6 hF8 (aH rfl am) ?_
   refine zz6 hF8 (iu (n := 4294967295) rfl rfl) ?_
   refine zz6 hT7 (aU rfl hF8 rfl) ?_
   refine aD (ac ?_)
   exact aK (Sub.cons rfl (bD 4 rfl))
  ·intro hT8
   refine zz9 hT8 (zz9 hT8 (zz9 hT8 (zz6 hT7 (aV rfl hT8 rfl) ?_)))
   refine aD (ac ?_)
   exact aK (Sub.cons rfl (bD 4 rfl))
  refine zz6 hT7 (aa rfl) ?_
  apply dV
  ·exact (rfl : _ = (4, 50, 54))
  ·exact rfl
  ·intro hF9; have hF9' := hF9
   try simp only [bs] at hF9'
   refine zz6 hF9 (zz2 (off := 4) (ft := 23) rfl ao rfl ae) ?_
   refine zz6 hF9 (aH rfl am) ?_
   refine zz6 hF9 (kD (n := 1) rfl rfl) ?_
   refine zz6 hT7 (aU rfl hF9 rfl) ?_
   refine aD (ac ?_)
   exact aK (Sub.cons rfl (bD 4 rfl))
  ·intro hT9
   refine zz9 hT9 (zz9 hT9 (zz9 hT9 (zz6 hT7 (aV rfl hT9 rfl) ?_)))
   refine aD (ac ?_)
   exact aK (Sub.cons rfl (bD 4 rfl))
  refine zz0 (aV rfl hT7 rfl) ?_
  refine aD (ac ?_)
  exact aK (Sub.cons rfl (bD 8 rfl))
 ·intro hF7
  refine zz9 hF7 (zz9 hF7 (zz9 hF7 (zz9 hF7 (gw ?_))))
  refine gw ?_
  refine gw ?_
  refine zz9 hF7 (zz9 hF7 (gw ?_))
  refine gw ?_
  refine gw ?_
  refine zz9 hF7 (zz0 (aU rfl hF7 rfl) ?_)
  refine aD (ac ?_)
  exact aK (Sub.cons rfl (bD 14 rfl))
 refine zz0 (ab rfl) (ad (aC ?_))
 refine aX Tryz.results40 rfl (fun w' hw => ?_)
 refine ⟨?_, hw.b0⟩
 unfold iI
 repeat' (first | rfl | (exfalso; first | (simp_all; done) | grind) | split)
theorem g4 (a : VSet) (w : World) :
  Cr Tryz.prog 47 #[.agg (bO.enc a).toArray] w (.agg (bO.enc (aZ a)).toArray) := by
 refine enter Tryz.func47 rfl Tryz.ntmps47 rfl ?_
 refine ah ?_
 refine dG rfl rfl (fun b1 => ?_)
 refine dC cG rfl (fun b2 => ?_)
 refine ad (an (ah (zz0 (bG rfl aJ ak) ?_)))
 refine zz0 (az rfl Tryz.call40 (fun w hw => tC a w)) ?_
 refine zz0 (cP rfl) (ad ?_)
 refine au rfl ?_ ?_ <;> intro h3 <;> try simp only [bs] at h3
 ·refine ah (zz0 (az rfl fO (fun w hw => jP w)) ?_)
  refine aB bO rfl rfl ak ?_
  refine ad (aC (ay ?_))
  refine eO Tryz.results47 rfl aJ ak (fun w' hw => ?_)
  refine ⟨?_, hw.b0⟩
  unfold aZ
  repeat' (first | rfl | (exfalso; first | (simp_all; done) | grind) | split)
 refine dz (zz0 (bG rfl aJ ak) ?_)
 refine aB bO rfl rfl ak ?_
 refine ad (aC ?_)
 refine eO Tryz.results47 rfl aJ ak (fun w' hw => ?_)
 refine ⟨?_, hw.b0⟩
 unfold aZ
 repeat' (first | rfl | (exfalso; first | (simp_all; done) | grind) | split)
theorem rE (a : VSet) (w : World) :
  Cr Tryz.prog 324 #[.agg (bO.enc a).toArray] w (.bool (qC a)) := by
 refine enter Tryz.func324 rfl Tryz.ntmps324 rfl ?_
 refine ah ?_
 refine dG rfl rfl (fun b1 => ?_)
 refine zz0 (ab rfl) (aI (zz0 (zz2 (off := 1) (ft := 4) rfl ao rfl bS) ?_))
 refine zz0 (aH rfl cE) ?_
 refine zz0 (cP rfl) (zz0 (aa rfl) ?_)
 apply cH
 ·exact (rfl : _ = (4, 6, 10))
 ·exact rfl
 ·intro hT2; have hT2' := hT2
  try simp only [bs] at hT2'
  refine zz6 hT2 (zz2 (off := 0) (ft := 4) rfl ao rfl bS) ?_
  refine zz6 hT2 (aH rfl cE) ?_
  refine zz6 hT2 (cP rfl) (zz0 (aV rfl hT2 rfl) ?_)
  refine aD (ac ?_)
  exact aK (Sub.cons rfl (bD 4 rfl))
 ·intro hF2
  refine zz9 hF2 (zz9 hF2 (zz9 hF2 (zz0 (aU rfl hF2 rfl) ?_)))
  refine aD (ac ?_)
  exact aK (Sub.cons rfl (bD 4 rfl))
 refine zz0 (aa rfl) ?_
 apply cH
 ·exact (rfl : _ = (4, 11, 15))
 ·exact rfl
 ·intro hT3; have hT3' := hT3
  try simp only [bs] at hT3'
  refine zz6 hT3 (zz2 (off := 4) (ft := 23) rfl ao rfl ae) ?_
  refine zz6 hT3 (aH rfl am) ?_
  refine zz6 hT3 (eE (n := 0) rfl rfl) ?_
  refine zz0 (aV rfl hT3 rfl) ?_
  refine aD (ac ?_)
  exact aK (Sub.cons rfl (bD 4 rfl))
 ·intro hF3
  refine zz9 hF3 (zz9 hF3 (zz9 hF3 (zz0 (aU rfl hF3 rfl) ?_)))
  refine aD (ac ?_)
  exact aK (Sub.cons rfl (bD 4 rfl))
 refine zz0 (ab rfl) (ad (aC ?_))
 refine aX Tryz.results324 rfl (fun w' hw => ?_)
 refine ⟨?_, hw.b0⟩
 unfold qC
 repeat' (first | rfl | (exfalso; first | (simp_all; done) | grind) | split)
theorem l8 (a : VSet) (n : UInt32) (w : World) :
  Cr Tryz.prog 15 #[.agg (bO.enc a).toArray, .int .u32 n.toNat] w (.bool (q7 a n)) := by
 refine enter Tryz.func15 rfl Tryz.ntmps15 rfl ?_
 refine ah ?_
 refine dG rfl rfl (fun b1 => ?_)
 refine zz0 (ab rfl) (aI (zz0 (bG rfl aJ ak) ?_))
 refine zz0 (az rfl gg (fun w hw => g4 a w)) ?_
 refine aB bO rfl rfl ak ?_
 refine ad (an (aF (an (ah (zz0 (zz2 (off := 1) (ft := 4) rfl ao rfl bS) ?_)))))
 refine zz0 (aH rfl cE) ?_
 refine zz0 (ab rfl) (ad ?_)
 apply dP
 ·exact rfl
 ·intro hO2
  try simp only [bs] at hO2
  refine ar (zz0 (zz2 (off := 0) (ft := 4) rfl ao rfl bS) ?_)
  refine zz0 (aH rfl cE) ?_
  refine zz0 (ab rfl) (ad ?_)
  exact eD rfl (zz8 3 rfl)
 refine ac ?_
 refine au rfl ?_ ?_ <;> intro h3 <;> try simp only [bs] at h3
 ·refine ah (zz0 (zz2 (off := 1) (ft := 4) rfl ao rfl bS) ?_)
  refine zz0 (aH rfl cE) ?_
  refine zz0 (ab rfl) (ad (aC (bv (ay ?_))))
  refine aX Tryz.results15 rfl (fun w' hw => ?_)
  refine ⟨?_, hw.b0⟩
  unfold q7 A9
  repeat' (first | rfl | (exfalso; first | (simp_all; done) | grind) | split)
 refine ah (zz0 (zz2 (off := 4) (ft := 23) rfl ao rfl ae) ?_)
 refine zz0 (aH rfl am) ?_
 refine zz0 (eE (n := 0) rfl rfl) ?_
 refine zz0 (ab rfl) (ad ?_)
 refine au rfl ?_ ?_ <;> intro h4 <;> try simp only [bs] at h4
 ·refine ah (zz0 (aa rfl) (zz0 (zz2 (off := 2) (ft := 23) rfl ao rfl ae) ?_))
  refine zz0 (aH rfl am) ?_
  refine zz0 (eE rfl rfl) ?_
  refine zz0 (ab rfl) (ad (aC (bv (ay ?_))))
  refine aX Tryz.results15 rfl (fun w' hw => ?_)
  refine ⟨?_, hw.b0⟩
  unfold q7 A9
  repeat' (first | rfl | (exfalso; first | (simp_all; done) | grind) | split)
 refine cd (aY (ac (ah (zz0 (aa rfl) (zz0 (zz2 (off := 2) (ft := 23) rfl ao rfl ae) ?_)))))
 refine zz0 (aH rfl am) ?_
 refine zz0 (nj rfl rfl) ?_
 refine zz0 (aa rfl) ?_
 apply cH
 ·exact (rfl : _ = (5, 26, 31))
 ·exact rfl
 ·intro hT5; have hT5' := hT5
  try simp only [bs] at hT5'
  refine zz6 hT5 (aa rfl) (zz6 hT5 (zz2 (off := 3) (ft := 23) rfl ao rfl ae) ?_)
  refine zz6 hT5 (aH rfl am) ?_
  refine zz6 hT5 (uL rfl rfl) ?_
  refine zz0 (aV rfl hT5 rfl) ?_
  refine aD (ac ?_)
  exact aK (Sub.cons rfl (bD 5 rfl))
 ·intro hF5
  refine zz9 hF5 (zz9 hF5 (zz9 hF5 (zz9 hF5 (zz0 (aU rfl hF5 rfl) ?_))))
  refine aD (ac ?_)
  exact aK (Sub.cons rfl (bD 5 rfl))
 refine zz0 (aa rfl) ?_
 apply cH
 ·exact (rfl : _ = (9, 32, 41))
 ·exact rfl
 ·intro hT6; have hT6' := hT6
  try simp only [bs] at hT6'
  refine zz6 hT6 (aa rfl) (zz6 hT6 (zz2 (off := 2) (ft := 23) rfl ao rfl ae) ?_)
  refine zz6 hT6 (aH rfl am) ?_
  refine zz6 hT6 (fk rfl rfl) ?_
  refine zz6 hT6 (zz2 (off := 4) (ft := 23) rfl ao rfl ae) ?_
  refine zz6 hT6 (aH rfl am) ?_
  refine zz6 hT6 (nf rfl rfl (by first | decide | assumption)) ?_
  refine zz6 hT6 (eE (n := 0) rfl rfl) ?_
  refine zz0 (aV rfl hT6 rfl) ?_
  refine aD (ac ?_)
  exact aK (Sub.cons rfl (bD 9 rfl))
 ·intro hF6
  refine zz9 hF6 (zz9 hF6 (zz9 hF6 (zz9 hF6 (zz9 hF6 (zz9 hF6 (zz9 hF6 (zz9 hF6 (zz0 (aU rfl hF6 rfl) ?_))))))))
  refine aD (ac ?_)
  exact aK (Sub.cons rfl (bD 9 rfl))
 refine zz0 (ab rfl) (ad (aC ?_))
 refine aX Tryz.results15 rfl (fun w' hw => ?_)
 refine ⟨?_, hw.b0⟩
 unfold q7 A9
 repeat' (first | rfl | (exfalso; first | (simp_all; done) | grind) | split)
theorem yN (a : VSet) (w : World) :
  Cr Tryz.prog 100 #[.agg (bO.enc a).toArray] w (.int .i64 (ff a)) := by
 have hd := ((aZ a).hi - (aZ a).lo).toNat_lt
 have hq : (((aZ a).hi - (aZ a).lo) / (aZ a).st).toNat ≤ ((aZ a).hi - (aZ a).lo).toNat := by rw [UInt32.toNat_div]; exact Nat.div_le_self _ _
 refine enter Tryz.func100 rfl Tryz.ntmps100 rfl ?_
 refine ah ?_
 refine dG rfl rfl (fun b1 => ?_)
 refine zz0 (ab rfl) (aI (zz0 (bG rfl aJ ak) ?_))
 refine zz0 (az rfl gg (fun w hw => g4 a w)) ?_
 refine aB bO rfl rfl ak ?_
 refine ad (an (aF (ah (zz0 (zz2 (off := 1) (ft := 4) rfl ao rfl bS) ?_))))
 refine zz0 (aH rfl cE) ?_
 refine zz0 (ab rfl) (ad ?_)
 refine au rfl ?_ ?_ <;> intro h2 <;> try simp only [bs] at h2
 ·refine ah (zz0 (ab rfl) (ad (aC (bv (ay ?_)))))
  refine aX kl rfl (fun w' hw => ?_)
  refine ⟨?_, hw.b0⟩
  unfold ff l7
  repeat' (first | rfl | (exfalso; first | (simp_all; done) | grind) | split)
 refine ah (zz0 (zz2 (off := 0) (ft := 4) rfl ao rfl bS) ?_)
 refine zz0 (aH rfl cE) ?_
 refine zz0 (ab rfl) (ad ?_)
 refine au rfl ?_ ?_ <;> intro h3 <;> try simp only [bs] at h3
 ·refine ah (zz0 (ab rfl) (ad (aC (bv (ay ?_)))))
  refine aX kl rfl (fun w' hw => ?_)
  refine ⟨?_, hw.b0⟩
  unfold ff l7
  repeat' (first | rfl | (exfalso; first | (simp_all; done) | grind) | split)
 refine ah (zz0 (zz2 (off := 4) (ft := 23) rfl ao rfl ae) ?_)
 refine zz0 (aH rfl am) ?_
 refine zz0 (eE (n := 0) rfl rfl) ?_
 refine zz0 (ab rfl) (ad ?_)
 refine au rfl ?_ ?_ <;> intro h4 <;> try simp only [bs] at h4
 ·refine ah (zz0 (ab rfl) (ad (aC (bv (ay ?_)))))
  refine aX kl rfl (fun w' hw => ?_)
  refine ⟨?_, hw.b0⟩
  unfold ff l7
  repeat' (first | rfl | (exfalso; first | (simp_all; done) | grind) | split)
 refine cd (aY (ac (ah (zz0 (zz2 (off := 3) (ft := 23) rfl ao rfl ae) ?_))))
 refine zz0 (aH rfl am) ?_
 refine zz0 (zz2 (off := 2) (ft := 23) rfl ao rfl ae) ?_
 refine zz0 (aH rfl am) ?_
 refine zz0 (fk rfl rfl) ?_
 refine zz0 (zz2 (off := 4) (ft := 23) rfl ao rfl ae) ?_
 refine zz0 (aH rfl am) ?_
 refine zz0 (E4 rfl rfl (by first | decide | assumption)) ?_
 refine zz0 (sP rfl aS ba) (zz0 (cB rfl rfl) ?_)
 refine zz0 (ab rfl) (ad (aC ?_))
 refine aX kl rfl (fun w' hw => ?_)
 refine ⟨?_, hw.b0⟩
 unfold ff l7
 repeat' (first | rfl | (exfalso; first | (simp_all; done) | grind) | split)
theorem wR (a b : UInt32) (w : World) :
  Cr Tryz.prog 228 #[.int .u32 a.toNat, .int .u32 b.toNat] w (.int .u32 (kx a b).toNat) := by
 refine enter Tryz.func228 rfl Tryz.ntmps228 rfl ?_
 refine ah (zz0 (ab rfl) (ad (an (aF ?_))))
 refine bL (ι := UInt32 × UInt32) (fun ⟨x, y⟩ => kx x y = kx a b) (fun _ => _) (fun ⟨x, y⟩ => []) (fun ⟨x, y⟩ => [(0, .int .u32 x.toNat), (1, .int .u32 y.toNat)]) (fun ⟨x, y⟩ => y.toNat) (a, b) rfl (Front.c (Front.c Front.nil)) (by repeat' constructor) rfl (fun i hi m hm => ?_)
 obtain ⟨x, y⟩ := i
 replace hi : kx x y = kx a b := hi
 replace hm : m = y.toNat := hm
 change Tr _ _ [] ([(0, .int .u32 x.toNat), (1, .int .u32 y.toNat)] ++ _) _
 refine an (ah (zz0 (aa rfl) (zz0 (iU (n := 0) rfl rfl) ?_)))
 refine ad ?_
 refine au rfl ?_ ?_ <;> intro h1 <;> try simp only [bs] at h1
 ·refine bC (aF (gZ aP ?_))
  refine aw (aa rfl) (aw (aa rfl) (aw (aa rfl) (aw (nf rfl rfl (by first | decide | assumption)) ?_)))
  refine aw (ab rfl) (aw (ab rfl) (bH ?_))
  refine aY (ac ?_)
  have hlt := DX x (by assumption : y ≠ 0)
  refine cK (y, x % y) (Front.c (Front.c Front.nil)) (zz8 10 rfl) (o := (by show kx y (x % y) = _; rw [Ee (by assumption)]; exact hi))
 refine bJ (aG (aG (bj (ac (ah (zz0 (aa rfl) (zz0 (ab rfl) (ad (aC ?_)))))))))
 refine aX Tryz.results228 rfl (fun w' hw => ?_)
 exact ⟨by rw [← hi, show y = 0 by simp_all, Ed], hw.b0⟩
theorem wL (a b : VSet) (w : World) :
  Cr Tryz.prog 166 #[.agg (bO.enc a).toArray, .agg (bO.enc b).toArray] w (.agg (bO.enc (gA a b)).toArray) := by
 refine enter Tryz.func166 rfl Tryz.ntmps166 rfl ?_
 refine ah ?_
 refine dG rfl rfl (fun b1 => ?_)
 refine dG rfl rfl (fun b2 => ?_)
 refine dC cG rfl (fun b3 => ?_)
 refine ad (an (fy 0 4 aP ?_))
 refine bE ?_
 refine aw (bG rfl aJ ak) ?_
 refine aw (az rfl gg (fun w hw => g4 a w)) ?_
 refine aw (bG rfl aJ ak) ?_
 refine aw (az rfl gg (fun w hw => g4 b w)) ?_
 refine bH ?_
 refine aB bO rfl rfl ak ?_
 refine aB bO rfl rfl ak ?_
 refine ad (an (aF (ah (zz0 (zz2 (off := 1) (ft := 4) rfl ao rfl bS) ?_))))
 refine zz0 (aH rfl cE) ?_
 refine zz0 (aa rfl) ?_
 apply dV
 ·exact (rfl : _ = (3, 13, 16))
 ·exact rfl
 ·intro hF4; have hF4' := hF4
  try simp only [bs] at hF4'
  refine zz6 hF4 (zz2 (off := 1) (ft := 4) rfl ao rfl bS) ?_
  refine zz6 hF4 (aH rfl cE) ?_
  refine zz0 (aU rfl hF4 rfl) ?_
  refine aD (ac ?_)
  exact aK (Sub.cons rfl (bD 3 rfl))
 ·intro hT4
  refine zz9 hT4 (zz9 hT4 (zz0 (aV rfl hT4 rfl) ?_))
  refine aD (ac ?_)
  exact aK (Sub.cons rfl (bD 3 rfl))
 refine zz0 (ab rfl) (ad ?_)
 refine au rfl ?_ ?_ <;> intro h5 <;> try simp only [bs] at h5
 ·refine ah (zz0 (az rfl fO (fun w hw => jP w)) ?_)
  refine aB bO rfl rfl ak ?_
  refine ad (aC (bv (ay ?_)))
  refine eO kh rfl aJ ak (fun w' hw => ?_)
  try simp only [oy, oC]
  refine ⟨?_, hw.b0⟩
  unfold gA lB
  repeat' (first | rfl | (exfalso; first | (simp_all; done) | grind) | split)
 refine ah (zz0 (zz2 (off := 0) (ft := 4) rfl ao rfl bS) ?_)
 refine zz0 (aH rfl cE) ?_
 refine zz0 (ab rfl) (ad ?_)
 refine au rfl ?_ ?_ <;> intro h6 <;> try simp only [bs] at h6
 ·refine ah (zz0 (bG rfl aJ ak) ?_)
  refine aB bO rfl rfl ak ?_
  refine ad (aC (bv (ay ?_)))
  refine eO kh rfl aJ ak (fun w' hw => ?_)
  try simp only [oy, oC]
  refine ⟨?_, hw.b0⟩
  unfold gA lB
  repeat' (first | rfl | (exfalso; first | (simp_all; done) | grind) | split)
 refine ah (zz0 (zz2 (off := 0) (ft := 4) rfl ao rfl bS) ?_)
 refine zz0 (aH rfl cE) ?_
 refine zz0 (ab rfl) (ad ?_)
 refine au rfl ?_ ?_ <;> intro h7 <;> try simp only [bs] at h7
 ·refine ah (zz0 (bG rfl aJ ak) ?_)
  refine aB bO rfl rfl ak ?_
  refine ad (aC (bv (ay ?_)))
  refine eO kh rfl aJ ak (fun w' hw => ?_)
  try simp only [oy, oC]
  refine ⟨?_, hw.b0⟩
  unfold gA lB
  repeat' (first | rfl | (exfalso; first | (simp_all; done) | grind) | split)
 refine cd (aY (ac (an (gZ aP ?_))))
 refine aw (zz2 (off := 4) (ft := 23) rfl ao rfl ae) ?_
 refine aw (aH rfl am) ?_
 refine aw (zz2 (off := 4) (ft := 23) rfl ao rfl ae) ?_
 refine aw (aH rfl am) ?_
 refine aw (az rfl nL (fun w hw => wR _ _ w)) ?_
 refine aw (zz2 (off := 2) (ft := 23) rfl ao rfl ae) ?_
 refine aw (aH rfl am) ?_
 refine aw (zz2 (off := 2) (ft := 23) rfl ao rfl ae) ?_
 refine aw (aH rfl am) ?_
 refine aw (oV rfl rfl) ?_
 refine aw (zz2 (off := 2) (ft := 23) rfl ao rfl ae) ?_
 refine aw (aH rfl am) ?_
 refine aw (zz2 (off := 2) (ft := 23) rfl ao rfl ae) ?_
 refine aw (aH rfl am) ?_
 refine aw (oU rfl rfl) ?_
 refine aw (fk rfl rfl) ?_
 refine aw (az rfl nL (fun w hw => wR _ _ w)) ?_
 refine aw (ab rfl) (bH ?_)
 refine ac (ah (zz0 (zz2 (off := 2) (ft := 23) rfl ao rfl ae) ?_))
 refine zz0 (aH rfl am) ?_
 refine zz0 (zz2 (off := 2) (ft := 23) rfl ao rfl ae) ?_
 refine zz0 (aH rfl am) ?_
 refine zz0 (oU rfl rfl) ?_
 refine zz0 (zz2 (off := 3) (ft := 23) rfl ao rfl ae) ?_
 refine zz0 (aH rfl am) ?_
 refine zz0 (zz2 (off := 3) (ft := 23) rfl ao rfl ae) ?_
 refine zz0 (aH rfl am) ?_
 refine zz0 (oV rfl rfl) ?_
 refine zz0 (aa rfl) (zz0 (az rfl eA (fun w hw => dK _ _ _ w)) ?_)
 refine aB bO rfl rfl ak ?_
 refine ad (aC ?_)
 refine eO kh rfl aJ ak (fun w' hw => ?_)
 try simp only [oy, oC]
 refine ⟨?_, hw.b0⟩
 unfold gA lB
 repeat' (first | rfl | (exfalso; first | (simp_all; done) | grind) | split)
end Go.Proofs.YtiajjbhcpeadfaaGreat
namespace Go.HL
open Go
def oh (a b : VSet) : Bool :=
 if a.em = true ∨ b.top = true then true else if a.top = true ∨ b.em = true then false
 else q7 b a.lo && q7 b a.hi && (decide (a.st = 0) || decide (0 < b.st) && decide (a.st % b.st = 0))
def nn (a b : VSet) : Bool := oh (aZ a) (aZ b)
def qE (a : VSet) (k : UInt32) : VSet :=
 if a.top = true ∨ 4294967295 < (a.hi.toNat : Int) * k.toNat then oa else db (a.lo * k) (a.hi * k) (a.st * k)
def te (a : VSet) (n : UInt32) : VSet := db 0 (if a.top = false then mm n a.hi else n) (n &&& (0 - n))
def jr (op : Int) (a b : VSet) : VSet :=
 if qC b = false then oa else if op = 5 then qE a b.lo else if op = 9 then qE a (mT 1 (od b.lo))
 else if op = 6 then te a b.lo else if op = 10 ∧ a.top = false then db (qD a.lo (od b.lo)) (qD a.hi (od b.lo)) 1 else oa
def ii (op : Int) (a b : VSet) : VSet :=
 if op = 12 ∨ op = 13 ∨ op = 14 ∨ op = 15 then db 0 1 1
 else if op = 3 ∧ (a.top = false ∧ b.top = false) ∧ (a.hi.toNat : Int) + b.hi.toNat ≤ 4294967295 then db (a.lo + b.lo) (a.hi + b.hi) (kx a.st b.st)
 else if op = 4 ∧ (a.top = false ∧ b.top = false) ∧ b.hi ≤ a.lo then db (a.lo - b.hi) (a.hi - b.lo) (kx a.st b.st)
 else jr op a b
def ij (op : Int) (a b : VSet) : VSet :=
 if op < 3 ∨ 15 < op then oa else if a.em = true ∨ b.em = true then emptyS else if qC a = true ∧ qC b = true then gP (EL op a.lo b.lo).1
 else ii op a b
def fU (op : Int) (a b : VSet) : VSet := ij op (aZ a) (aZ b)
def rU (a : VSet) (lo : UInt32) : Int := (a.lo.toNat : Int) + (((lo - a.lo).toNat : Int) + a.st.toNat - 1) / (a.st.toNat : Int) * a.st.toNat
def lY (o : VSet) : List UInt32 → VSet → VSet
 | [], out => out
 | n :: t, out => lY o t (if q7 o n = true then gA out (gP n) else out)
def vy (a b : VSet) : VSet :=
 if ((mm a.hi b.hi).toNat : Int) < rU a (kZ a.lo b.lo) then emptyS else db (u32 (rU a (kZ a.lo b.lo))) (mm a.hi b.hi) a.st
def qQ (a b few other : VSet) : VSet := if (eY few).2 = 0 then lY other (eY few).1 emptyS else vy a b
def oz (a b : VSet) : VSet :=
 if b.top = true then a else if a.top = true then b else if 64 < ff a then qQ a b b a else qQ a b a b
def lz (a b : VSet) : VSet := oz (aZ a) (aZ b)
def nq (a c : VSet) : VSet := if c.top = true then c else db (if c.lo < a.lo then c.lo % c.st else c.lo) (if a.hi < c.hi then 4294967295 else c.hi) c.st
def kV (a b : VSet) : VSet :=
 if nn b a = true then a else if a.em = true then b else if a.top = true ∨ b.top = true then oa else nq a (gA a b)
def lw (a b : VSet) : VSet := kV (aZ a) (aZ b)
theorem zP (o : VSet) (l : List UInt32) (n : UInt32) (out : VSet) : lY o (l ++ [n]) out = if q7 o n = true then gA (lY o l out) (gP n) else lY o l out := by
 induction l generalizing out with
 | nil => rfl
 | cons x t ih => exact ih _
theorem vx {o : VSet} {l : List UInt32} {k : Nat} (h : k < l.length) (out : VSet) :
  lY o (l.take (k + 1)) out = if q7 o (l.getD k default) = true then gA (lY o (l.take k) out) (gP (l.getD k default)) else lY o (l.take k) out := by
 rw [dB h, zP]
theorem DZ {o : VSet} {l : List UInt32} {k : Nat} (h : k < l.length) {out : VSet} (hy : q7 o (l.getD k default) = true) : gA (lY o (l.take k) out) (gP (l.getD k default)) = lY o (l.take (k + 1)) out := by
 rw [vx h, if_pos hy]
theorem FC {o : VSet} {l : List UInt32} {k : Nat} (h : k < l.length) {out : VSet} (hy : q7 o (l.getD k default) = false) : lY o (l.take k) out = lY o (l.take (k + 1)) out := by
 rw [vx h, if_neg (by rw [hy]; simp)]
theorem count_le (s : VSet) : ff s ≤ 4294967296 := by
 unfold ff l7
 have h := ((aZ s).hi - (aZ s).lo).toNat_lt
 repeat' split
 all_goals try omega
 have : (((aZ s).hi - (aZ s).lo) / (aZ s).st).toNat ≤ ((aZ s).hi - (aZ s).lo).toNat := by rw [UInt32.toNat_div]; exact Nat.div_le_self _ _
 omega
theorem Ew (s : VSet) : 0 ≤ ff s := by
 unfold ff l7
 repeat' split
 all_goals omega
theorem vM {s : VSet} (h : (eY s).2 = 0) : (eY s).1.length ≤ 64 := by
 unfold eY at h ⊢
 by_cases hc : 64 < ff s
 ·rw [if_pos hc] at h; simp at h
 ·rw [if_neg hc]
  unfold wT
  rw [Bi]
  rw [show ff (aZ s) = ff s by unfold ff; rw [jL]]
  omega
theorem G5 {s : VSet} (h : aZ s = s) (h1 : 64 < ff s) (h2 : s.top = false) : s.st ≠ 0 := by
 intro e
 unfold ff l7 at h1
 rw [h, if_neg (by rw [h2]; simp), if_pos e] at h1
 split at h1 <;> omega
theorem HG (a k : UInt32) : 0 ≤ (a.toNat : Int) * k.toNat ∧ (a.toNat : Int) * k.toNat ≤ 18446744065119617025 := by
 have h := Nat.mul_le_mul (show a.toNat ≤ 4294967295 by have := a.toNat_lt; omega) (show k.toNat ≤ 4294967295 by have := k.toNat_lt; omega)
 have e : (a.toNat : Int) * k.toNat = ((a.toNat * k.toNat : Nat) : Int) := by push_cast; rfl
 omega
theorem FI (a : VSet) (lo : UInt32) (h : a.st ≠ 0) : 0 ≤ rU a lo ∧ rU a lo ≤ 18446744073709551615 ∧
  0 ≤ (((lo - a.lo).toNat : Int) + a.st.toNat - 1) / (a.st.toNat : Int) * a.st.toNat ∧ (((lo - a.lo).toNat : Int) + a.st.toNat - 1) / (a.st.toNat : Int) * a.st.toNat ≤ 8589934590 := by
 have hp := tZ h
 have h1 := a.lo.toNat_lt; have h2 := a.st.toNat_lt; have h3 := (lo - a.lo).toNat_lt
 have h4 := Int.ediv_mul_le (((lo - a.lo).toNat : Int) + a.st.toNat - 1) (b := (a.st.toNat : Int)) (by omega)
 have h5 : 0 ≤ (((lo - a.lo).toNat : Int) + a.st.toNat - 1) / (a.st.toNat : Int) := Int.ediv_nonneg (by omega) (by omega)
 have h6 := Int.mul_nonneg h5 (show (0 : Int) ≤ a.st.toNat by omega)
 unfold rU
 omega
theorem Ef (x y : UInt32) (h : y ≠ 0) : (kx x y).toNat = Nat.gcd x.toNat y.toNat := by
 unfold kx
 rw [UInt32.toNat_ofNat']
 have h1 := tZ h
 have h2 := Nat.gcd_le_right x.toNat h1
 have h3 := y.toNat_lt
 exact Nat.mod_eq_of_lt (by omega)
theorem FG {a b : VSet} (ha : iI a = true) (hb : iI b = true) (hat : a.top = false) (hae : a.em = false) (hbt : b.top = false) (hbe : b.em = false)
  (h : (lB a b).lo < a.lo) : (lB a b).st ≠ 0 ∨ (lB a b).top = true := by
 have hal : a.lo.toNat ≤ a.hi.toNat := by
  rcases GG ha hat hae with h | h
  ·have := h.2.1; rw [UInt32.lt_iff_toNat_lt] at this; omega
  ·rw [h.2]; omega
 have e : lB a b = db (mm a.lo b.lo) (kZ a.hi b.hi) (kx (kx a.st b.st) (kZ a.lo b.lo - mm a.lo b.lo)) := by
  unfold lB; rw [if_neg (by rw [hat, hbt]; simp), if_neg (by rw [hae]; simp), if_neg (by rw [hbe]; simp)]
 have hmx : a.hi.toNat ≤ (kZ a.hi b.hi).toNat := by
  unfold kZ; split <;> rename_i q <;> rw [UInt32.lt_iff_toNat_lt] at q <;> omega
 have hmn : (mm a.lo b.lo).toNat ≤ a.lo.toNat := by
  unfold mm; split <;> rename_i q <;> rw [UInt32.lt_iff_toNat_lt] at q <;> omega
 rw [e] at h ⊢
 unfold db at h ⊢
 rw [if_neg (by rw [UInt32.lt_iff_toNat_lt]; omega)] at h ⊢
 by_cases hc : kx (kx a.st b.st) (kZ a.lo b.lo - mm a.lo b.lo) = 0 ∨ kZ a.hi b.hi - mm a.lo b.lo < kx (kx a.st b.st) (kZ a.lo b.lo - mm a.lo b.lo)
 ·exfalso
  rw [if_pos hc] at h
  have hlt : (mm a.lo b.lo).toNat < a.lo.toNat := by simpa only [gP, UInt32.lt_iff_toNat_lt] using h
  have hm2 : a.lo.toNat = (kZ a.lo b.lo).toNat := by
   unfold mm at hlt; unfold kZ
   split at hlt <;> rename_i q <;> rw [UInt32.lt_iff_toNat_lt] at q
   ·rw [if_neg (by rw [UInt32.lt_iff_toNat_lt]; omega)]
   ·omega
  have hd : (kZ a.lo b.lo - mm a.lo b.lo).toNat = (kZ a.lo b.lo).toNat - (mm a.lo b.lo).toNat := UInt32.toNat_sub_of_le _ _ (by rw [UInt32.le_iff_toNat_le]; omega)
  have hd2 : (kZ a.hi b.hi - mm a.lo b.lo).toNat = (kZ a.hi b.hi).toNat - (mm a.lo b.lo).toNat := UInt32.toNat_sub_of_le _ _ (by rw [UInt32.le_iff_toNat_le]; omega)
  have hne : kZ a.lo b.lo - mm a.lo b.lo ≠ 0 := by
   intro q; rw [q, UInt32.toNat_zero] at hd; omega
  have hg := Ef (kx a.st b.st) _ hne
  have hg1 := Nat.gcd_le_right (kx a.st b.st).toNat (tZ hne)
  have hg2 : 0 < Nat.gcd (kx a.st b.st).toNat (kZ a.lo b.lo - mm a.lo b.lo).toNat := Nat.gcd_pos_of_pos_right _ (tZ hne)
  rcases hc with q | q
  ·rw [q, UInt32.toNat_zero] at hg; omega
  ·rw [UInt32.lt_iff_toNat_lt] at q; omega
 ·rw [if_neg hc] at h ⊢
  split
  ·exact .inr rfl
  ·exact .inl (fun q => hc (.inl q))
theorem yv (a b : VSet) : gA (aZ a) (aZ b) = lB (aZ a) (aZ b) := by
 unfold gA; rw [jL, jL]
theorem C0 {a b : VSet} (hw : nn (aZ b) (aZ a) = false) (hae : (aZ a).em = false) (hat : (aZ a).top = false) (hbt : (aZ b).top = false)
  (ht : (gA (aZ a) (aZ b)).top = false) (h : (gA (aZ a) (aZ b)).lo < (aZ a).lo) : (gA (aZ a) (aZ b)).st ≠ 0 := by
 have hbe : (aZ b).em = false := by
  cases q : (aZ b).em
  ·rfl
  ·unfold nn oh at hw
   rw [jL, if_pos (.inl q)] at hw
   exact absurd hw (by simp)
 rw [yv] at ht h ⊢
 exact (FG (oG a) (oG b) hat hae hbt hbe h).resolve_right (by rw [ht]; simp)
theorem Es {s : VSet} (h : (eY s).2 ≠ 0) : 64 < ff s := by
 unfold eY at h
 by_cases hc : 64 < ff s
 ·exact hc
 ·rw [if_neg hc] at h; exact absurd rfl h
end Go.HL
