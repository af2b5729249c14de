/- Own rules and walks, part 2. -/
import Derived.Test.YtpeaodkfbjenpaaGreatB1
set_option linter.unusedSimpArgs false
set_option linter.unusedVariables false
set_option linter.unusedSectionVars false
set_option maxRecDepth 100000
set_option maxHeartbeats 16000000
namespace Go.Proofs.YtpeaodkfbjenpaaGreat
open Go Go.HL Go.RowKit
theorem j1 (r : Int) (w : World) :
  Calls Tryz.prog 83 #[.int .i64 r] w (fun e w' => e = .returned (.bool (j2 r)) ∧ Ext w w') := by
 refine enter Tryz.func83 rfl Tryz.ntmps83 rfl ?_
 refine af (ab (zz0 (ad rfl) (ae (aa (af (ab (zz0 (ac rfl) (zz0 (dl rfl rfl) (zz0 (ac rfl) ?_)))))))))
 apply bF
 ·exact (rfl : _ = (3, 5, 8))
 ·exact rfl
 ·intro hT1; have hT1' := hT1
  try simp only [bs] at hT1'
  refine zz5 hT1 (ac rfl) (zz5 hT1 (cE rfl rfl) (zz0 (aE rfl hT1 rfl) ?_))
  refine ae (aa ?_)
  exact aw (Sub.cons rfl (zz7 3 rfl))
 ·intro hF1
  refine zz6 hF1 (zz6 hF1 (zz0 (aF rfl hF1 rfl) ?_))
  refine ae (aa ?_)
  exact aw (Sub.cons rfl (zz7 3 rfl))
 refine zz0 (ad rfl) (ae (aa (ao ?_)))
 refine aI Tryz.results83 rfl (fun w' hw => ?_)
 exact ⟨rfl, hw.below (Bg.le.refl _)⟩
theorem qj (n : UInt32) (w : World) :
  Calls Tryz.prog 157 #[.int .u32 n.toNat] w (fun e w' => e = .returned (.bool (iQ n)) ∧ Ext w w') := by
 refine enter Tryz.func157 rfl Tryz.ntmps157 rfl ?_
 refine af (ab (zz0 (ad rfl) (ae (aa (af (ab (zz0 (ac rfl) (zz0 (uL (n := 127) rfl rfl) ?_))))))))
 refine zz0 (ac rfl) ?_
 apply cZ
 ·exact (rfl : _ = (3, 5, 8))
 ·exact rfl
 ·intro hF1; have hF1' := hF1
  try simp only [bs] at hF1'
  refine zz5 hF1 (ac rfl) (zz5 hF1 (mR (n := 4294967168) rfl rfl) ?_)
  refine zz0 (aF rfl hF1 rfl) ?_
  refine ae (aa ?_)
  exact aw (Sub.cons rfl (zz7 3 rfl))
 ·intro hT1
  refine zz6 hT1 (zz6 hT1 (zz0 (aE rfl hT1 rfl) ?_))
  refine ae (aa ?_)
  exact aw (Sub.cons rfl (zz7 3 rfl))
 refine zz0 (ad rfl) (ae (aa (ao ?_)))
 refine aI Tryz.results157 rfl (fun w' hw => ?_)
 exact ⟨rfl, hw.below (Bg.le.refl _)⟩
theorem vD (i : Ins) (w : World) :
  Calls Tryz.prog 112 #[.agg (eC.enc i).toArray] w (fun e w' => e = .returned ((.tuple #[.int .u8 (gB i).toNat, .int .i64 5, .bool (decide (gB i ≠ 0))])) ∧ Ext w w') := by
 refine enter Tryz.func112 rfl Tryz.ntmps112 rfl ?_
 refine af (ab ?_)
 refine cM rfl rfl rfl (fun b1 => ?_)
 refine zz0 (ad rfl) (zz0 (ad rfl) (zz0 (ad rfl) (ae (aa (af (ab (zz0 (ad rfl) (ae (aa ?_)))))))))
 refine eJ (ι := UInt8) (fun c => c = gB i) (fun _ => Bg.of w) (fun c => [cellE b1 (eC.enc i) 114]) (fun c => [(5, .int .u8 c.toNat)]) ?_ (fun c hi => ?_)
 ·skip
  refine af (ab (zz0 (zz3 (off := 2) (ft := 3) rfl ag rfl aj) ?_))
  refine zz0 (aM rfl aD) ?_
  refine zz0 (zz3 (off := 4) (ft := 3) rfl ag rfl aj) ?_
  refine zz0 (aM rfl aD) ?_
  refine zz0 (bE (vs := [(0, _), (1, _)]) rfl rfl (eo _ _)) ?_
  refine ae (aa (aQ (af (ab (zz0 (bE (vs := [(0, _), (1, _)]) rfl rfl (eo _ _)) ?_)))))
  refine zz0 (jR rfl rfl eL aO aj aD iw) ?_
  refine zz0 (ad rfl) (ae (aa ?_))
  refine ak rfl ?_ ?_ <;> intro h2 <;> try simp only [bs] at h2
  ·refine ab (zz0 (ad rfl) (ae (a9 (aa ?_))))
   apply aZ (80 : UInt8)
   ·exact rfl
   ·exact (.cons (by first | rfl | exact am rfl (by omega) | exact am rfl (by simp) | exact aS rfl (by simp)) Front.nil)
   ·exact bQ 9 rfl
   ·exact (by repeat' constructor)
   ·exact (by unfold gB; repeat (first | rw [if_pos (by omega)] | rw [if_neg (by omega)]))
  ·refine af (ab (zz0 (bE (vs := [(0, _), (1, _)]) rfl rfl (eo _ _)) ?_))
   refine zz0 (jR rfl rfl eL aO aj aD iw) ?_
   refine zz0 (ad rfl) (ae (aa ?_))
   refine ak rfl ?_ ?_ <;> intro h3 <;> try simp only [bs] at h3
   ·refine ab (zz0 (ad rfl) (ae (a9 (aa ?_))))
    apply aZ (81 : UInt8)
    ·exact rfl
    ·exact (.cons (by first | rfl | exact am rfl (by omega) | exact am rfl (by simp) | exact aS rfl (by simp)) Front.nil)
    ·exact bQ 12 rfl
    ·exact (by repeat' constructor)
    ·exact (by unfold gB; repeat (first | rw [if_pos (by omega)] | rw [if_neg (by omega)]))
   ·refine af (ab (zz0 (bE (vs := [(0, _), (1, _)]) rfl rfl (eo _ _)) ?_))
    refine zz0 (jR rfl rfl eL aO aj aD iw) ?_
    refine zz0 (ad rfl) (ae (aa ?_))
    refine ak rfl ?_ ?_ <;> intro h4 <;> try simp only [bs] at h4
    ·refine ab (zz0 (ad rfl) (ae (a9 (aa ?_))))
     apply aZ (82 : UInt8)
     ·exact rfl
     ·exact (.cons (by first | rfl | exact am rfl (by omega) | exact am rfl (by simp) | exact aS rfl (by simp)) Front.nil)
     ·exact bQ 15 rfl
     ·exact (by repeat' constructor)
     ·exact (by unfold gB; repeat (first | rw [if_pos (by omega)] | rw [if_neg (by omega)]))
    ·refine af (ab (zz0 (bE (vs := [(0, _), (1, _)]) rfl rfl (eo _ _)) ?_))
     refine zz0 (jR rfl rfl eL aO aj aD iw) ?_
     refine zz0 (ad rfl) (ae (aa ?_))
     refine ak rfl ?_ ?_ <;> intro h5 <;> try simp only [bs] at h5
     ·refine ab (zz0 (ad rfl) (ae (a9 (aa ?_))))
      apply aZ (83 : UInt8)
      ·exact rfl
      ·exact (.cons (by first | rfl | exact am rfl (by omega) | exact am rfl (by simp) | exact aS rfl (by simp)) Front.nil)
      ·exact bQ 18 rfl
      ·exact (by repeat' constructor)
      ·exact (by unfold gB; repeat (first | rw [if_pos (by omega)] | rw [if_neg (by omega)]))
     ·refine af (ab (zz0 (bE (vs := [(0, _), (1, _)]) rfl rfl (eo _ _)) ?_))
      refine zz0 (jR rfl rfl eL aO aj aD iw) ?_
      refine zz0 (ad rfl) (ae (aa ?_))
      refine ak rfl ?_ ?_ <;> intro h6 <;> try simp only [bs] at h6
      ·refine ab (zz0 (ad rfl) (ae (a9 (aa ?_))))
       apply aZ (84 : UInt8)
       ·exact rfl
       ·exact (.cons (by first | rfl | exact am rfl (by omega) | exact am rfl (by simp) | exact aS rfl (by simp)) Front.nil)
       ·exact bQ 21 rfl
       ·exact (by repeat' constructor)
       ·exact (by unfold gB; repeat (first | rw [if_pos (by omega)] | rw [if_neg (by omega)]))
      ·refine af (ab (zz0 (bE (vs := [(0, _), (1, _)]) rfl rfl (eo _ _)) ?_))
       refine zz0 (jR rfl rfl eL aO aj aD iw) ?_
       refine zz0 (ad rfl) (ae (aa ?_))
       refine ak rfl ?_ ?_ <;> intro h7 <;> try simp only [bs] at h7
       ·refine ab (zz0 (ad rfl) (ae (a9 (aa ?_))))
        apply aZ (85 : UInt8)
        ·exact rfl
        ·exact (.cons (by first | rfl | exact am rfl (by omega) | exact am rfl (by simp) | exact aS rfl (by simp)) Front.nil)
        ·exact bQ 24 rfl
        ·exact (by repeat' constructor)
        ·exact (by unfold gB; repeat (first | rw [if_pos (by omega)] | rw [if_neg (by omega)]))
       ·refine af (ab (zz0 (bE (vs := [(0, _), (1, _)]) rfl rfl (eo _ _)) ?_))
        refine zz0 (jR rfl rfl eL aO aj aD iw) ?_
        refine zz0 (ad rfl) (ae (aa ?_))
        refine ak rfl ?_ ?_ <;> intro h8 <;> try simp only [bs] at h8
        ·refine ab (zz0 (ad rfl) (ae (a9 (aa ?_))))
         apply aZ (86 : UInt8)
         ·exact rfl
         ·exact (.cons (by first | rfl | exact am rfl (by omega) | exact am rfl (by simp) | exact aS rfl (by simp)) Front.nil)
         ·exact bQ 27 rfl
         ·exact (by repeat' constructor)
         ·exact (by unfold gB; repeat (first | rw [if_pos (by omega)] | rw [if_neg (by omega)]))
        ·refine af (ab (zz0 (bE (vs := [(0, _), (1, _)]) rfl rfl (eo _ _)) ?_))
         refine zz0 (jR rfl rfl eL aO aj aD iw) ?_
         refine zz0 (ad rfl) (ae (aa ?_))
         refine ak rfl ?_ ?_ <;> intro h9 <;> try simp only [bs] at h9
         ·refine ab (zz0 (ad rfl) (ae (a9 (aa ?_))))
          apply aZ (87 : UInt8)
          ·exact rfl
          ·exact (.cons (by first | rfl | exact am rfl (by omega) | exact am rfl (by simp) | exact aS rfl (by simp)) Front.nil)
          ·exact bQ 30 rfl
          ·exact (by repeat' constructor)
          ·exact (by unfold gB; repeat (first | rw [if_pos (by omega)] | rw [if_neg (by omega)]))
         ·refine ax (a9 (aa ?_))
          apply aZ (0 : UInt8)
          ·exact rfl
          ·exact (.cons (by first | rfl | exact am rfl (by omega) | exact am rfl (by simp) | exact aS rfl (by simp)) Front.nil)
          ·exact bQ 29 rfl
          ·exact (by repeat' constructor)
          ·exact (by unfold gB; repeat (first | rw [if_pos (by omega)] | rw [if_neg (by omega)]))
 ·skip
  replace hi : c = gB i := hi
  change Tr _ _ [cellE b1 (eC.enc i) 114] ([(5, .int .u8 c.toNat)] ++ _) _
  refine af (ab (zz0 (ac rfl) (zz0 (ac rfl) (zz0 (mt (n := 0) rfl rfl) ?_))))
  refine zz0 (ad rfl) (zz0 (ad rfl) (zz0 (ad rfl) (ae (aa (ao ?_)))))
  refine eD Tryz.results112 rfl rfl rfl (fun w' hw => ?_)
  exact ⟨by subst hi; rfl, hw.below (Bg.le.refl _)⟩
theorem pe (i : Ins) (w : World) :
  Calls Tryz.prog 113 #[.agg (eC.enc i).toArray] w (fun e w' => e = .returned ((.tuple #[.int .u8 (mM i).1.toNat, .int .i64 (mM i).2.1, .bool (mM i).2.2])) ∧ Ext w w') := by
 refine enter Tryz.func113 rfl Tryz.ntmps113 rfl ?_
 refine af (ab ?_)
 refine cM rfl rfl rfl (fun b1 => ?_)
 refine zz0 (ad rfl) (zz0 (ad rfl) (zz0 (ad rfl) (ae (aa (af (af (ab (zz0 (zz3 (off := 5) (ft := 3) rfl ag rfl aj) ?_))))))))
 refine zz0 (aM rfl aD) ?_
 refine zz0 (cE rfl rfl) (zz0 (ac rfl) ?_)
 apply cZ
 ·exact (rfl : _ = (4, 8, 12))
 ·exact rfl
 ·intro hF2; have hF2' := hF2
  try simp only [bs] at hF2'
  refine zz5 hF2 (zz3 (off := 5) (ft := 3) rfl ag rfl aj) ?_
  refine zz5 hF2 (aM rfl aD) ?_
  refine zz5 hF2 (fG rfl rfl) (zz0 (aF rfl hF2 rfl) ?_)
  refine ae (aa ?_)
  exact aw (Sub.cons rfl (zz7 4 rfl))
 ·intro hT2
  refine zz6 hT2 (zz6 hT2 (zz6 hT2 (zz0 (aE rfl hT2 rfl) ?_)))
  refine ae (aa ?_)
  exact aw (Sub.cons rfl (zz7 4 rfl))
 refine ae (aa ?_)
 refine ak rfl ?_ ?_ <;> intro h3 <;> try simp only [bs] at h3
 ·refine af (ab (zz0 (ad rfl) (zz0 (ad rfl) (zz0 (ad rfl) (ae (aa (ao (an ?_))))))))
  refine eD iO rfl rfl rfl (fun w' hw => ?_)
  exact ⟨by unfold mM; (repeat (first | rw [if_pos (by omega)] | rw [if_neg (by omega)])) <;> rfl, hw.below (Bg.le.refl _)⟩
 ·refine ax (aa (af (aQ (af (ab (zz0 (zz3 (off := 2) (ft := 3) rfl ag rfl aj) ?_))))))
  refine zz0 (aM rfl aD) ?_
  refine zz0 (aN rfl rfl) (zz0 (ad rfl) (ae (aa ?_)))
  refine ak rfl ?_ ?_ <;> intro h4 <;> try simp only [bs] at h4
  ·refine af (ab (zz0 (zz3 (off := 5) (ft := 3) rfl ag rfl aj) ?_))
   refine zz0 (aM rfl aD) ?_
   refine zz0 (jD rfl aO bu) (zz0 (lc (m := 144) rfl rfl) ?_)
   refine zz0 (ad rfl) (zz0 (ad rfl) (zz0 (ad rfl) (ae (aa (ao (bf (an ?_)))))))
   refine eD iO rfl rfl rfl (fun w' hw => ?_)
   exact ⟨by unfold mM; (repeat (first | rw [if_pos (by omega)] | rw [if_neg (by omega)])) <;> rfl, hw.below (Bg.le.refl _)⟩
  ·refine af (ab (zz0 (zz3 (off := 3) (ft := 3) rfl ag rfl aj) ?_))
   refine zz0 (aM rfl aD) ?_
   refine zz0 (aN rfl rfl) (zz0 (ad rfl) (ae (aa ?_)))
   refine ak rfl ?_ ?_ <;> intro h5 <;> try simp only [bs] at h5
   ·refine af (ab (zz0 (zz3 (off := 5) (ft := 3) rfl ag rfl aj) ?_))
    refine zz0 (aM rfl aD) ?_
    refine zz0 (jD rfl aO bu) (zz0 (lc (m := 96) rfl rfl) ?_)
    refine zz0 (ad rfl) (zz0 (ad rfl) (zz0 (ad rfl) (ae (aa (ao (bf (an ?_)))))))
    refine eD iO rfl rfl rfl (fun w' hw => ?_)
    exact ⟨by unfold mM; (repeat (first | rw [if_pos (by omega)] | rw [if_neg (by omega)])) <;> rfl, hw.below (Bg.le.refl _)⟩
   ·refine af (ab (zz0 (zz3 (off := 3) (ft := 3) rfl ag rfl aj) ?_))
    refine zz0 (aM rfl aD) ?_
    refine zz0 (aN rfl rfl) (zz0 (ad rfl) (ae (aa ?_)))
    refine ak rfl ?_ ?_ <;> intro h6 <;> try simp only [bs] at h6
    ·refine af (ab (zz0 (zz3 (off := 5) (ft := 3) rfl ag rfl aj) ?_))
     refine zz0 (aM rfl aD) ?_
     refine zz0 (jD rfl aO bu) (zz0 (lc (m := 112) rfl rfl) ?_)
     refine zz0 (ad rfl) (zz0 (ad rfl) (zz0 (ad rfl) (ae (aa (ao (bf (an ?_)))))))
     refine eD iO rfl rfl rfl (fun w' hw => ?_)
     exact ⟨by unfold mM; (repeat (first | rw [if_pos (by omega)] | rw [if_neg (by omega)])) <;> rfl, hw.below (Bg.le.refl _)⟩
    ·refine ax (a9 (aa (af (ab (zz0 (ad rfl) (zz0 (ad rfl) (zz0 (ad rfl) (ae (aa (ao ?_))))))))))
     refine eD iO rfl rfl rfl (fun w' hw => ?_)
     exact ⟨by unfold mM; (repeat (first | rw [if_pos (by omega)] | rw [if_neg (by omega)])) <;> rfl, hw.below (Bg.le.refl _)⟩
theorem np (i : Ins) (w : World) (hI : InsOK i) :
  Calls Tryz.prog 79 #[.agg (eC.enc i).toArray] w (fun e w' => e = .returned ((.tuple #[.int .u8 (bD i).1.toNat, .int .i64 (bD i).2.1, .bool (bD i).2.2])) ∧ Ext w w') := by
 have hop := hI.op; unfold I64 at hop
 refine enter Tryz.func79 rfl Tryz.ntmps79 rfl ?_
 refine af (ab ?_)
 refine cM rfl rfl rfl (fun b1 => ?_)
 refine zz0 (ad rfl) (zz0 (ad rfl) (zz0 (ad rfl) (ae (aa (af (aQ (af (af (ab (zz0 (zz3 (off := 2) (ft := 3) rfl ag rfl aj) ?_))))))))))
 refine zz0 (aM rfl aD) ?_
 refine zz0 (aN rfl rfl) (zz0 (ad rfl) (ae (aa ?_)))
 apply cI
 ·exact rfl
 ·intro hO2
  try simp only [bs] at hO2
  refine af (ab (zz0 (zz3 (off := 2) (ft := 3) rfl ag rfl aj) ?_))
  refine zz0 (aM rfl aD) ?_
  refine zz0 (aN rfl rfl) (zz0 (ad rfl) (ae (aa ?_)))
  apply cI
  ·exact rfl
  ·intro hO3
   try simp only [bs] at hO3
   refine ab (zz0 (zz3 (off := 2) (ft := 3) rfl ag rfl aj) ?_)
   refine zz0 (aM rfl aD) ?_
   refine zz0 (aN rfl rfl) (zz0 (ad rfl) (ae (aa ?_)))
   exact cX rfl (bQ 4 rfl)
  refine aa ?_
  exact cX rfl (bQ 5 rfl)
 refine aa ?_
 refine ak rfl ?_ ?_ <;> intro h4 <;> try simp only [bs] at h4
 ·refine af (ab (zz0 (zz3 (off := 2) (ft := 3) rfl ag rfl aj) ?_))
  refine zz0 (aM rfl aD) ?_
  refine zz0 (jD rfl aO bu) (zz0 (ad rfl) (zz0 (ad rfl) (zz0 (ad rfl) (ae (aa (ao (bf (an ?_))))))))
  refine eD dy rfl rfl rfl (fun w' hw => ?_)
  exact ⟨by unfold bD; (repeat (first | rw [if_pos (by omega)] | rw [if_neg (by omega)])) <;> rfl, hw.below (Bg.le.refl _)⟩
 ·refine af (ab (zz0 (zz3 (off := 2) (ft := 3) rfl ag rfl aj) ?_))
  refine zz0 (aM rfl aD) ?_
  refine zz0 (aN rfl rfl) (zz0 (ad rfl) (ae (aa ?_)))
  refine ak rfl ?_ ?_ <;> intro h5 <;> try simp only [bs] at h5
  ·refine af (ab (zz0 (zz3 (off := 6) (ft := 3) rfl ag rfl aj) ?_))
   refine zz0 (aM rfl aD) ?_
   refine zz0 (wM rfl rfl) ?_
   refine zz0 (jD rfl aO bu) (zz0 (lc (m := 8) rfl rfl) ?_)
   refine zz0 (ad rfl) (zz0 (ad rfl) (zz0 (ad rfl) (ae (aa (ao (bf (an ?_)))))))
   refine eD dy rfl rfl rfl (fun w' hw => ?_)
   exact ⟨by unfold bD; (repeat (first | rw [if_pos (by omega)] | rw [if_neg (by omega)])) <;> rfl, hw.below (Bg.le.refl _)⟩
  ·refine af (ab (zz0 (zz3 (off := 2) (ft := 3) rfl ag rfl aj) ?_))
   refine zz0 (aM rfl aD) ?_
   refine zz0 (aN rfl rfl) (zz0 (ad rfl) (ae (aa ?_)))
   refine ak rfl ?_ ?_ <;> intro h6 <;> try simp only [bs] at h6
   ·refine af (ab (zz0 (zz3 (off := 6) (ft := 3) rfl ag rfl aj) ?_))
    refine zz0 (aM rfl aD) ?_
    refine zz0 (wM rfl rfl) ?_
    refine zz0 (jD rfl aO bu) (zz0 (lc (m := 16) rfl rfl) ?_)
    refine zz0 (ad rfl) (zz0 (ad rfl) (zz0 (ad rfl) (ae (aa (ao (bf (an ?_)))))))
    refine eD dy rfl rfl rfl (fun w' hw => ?_)
    exact ⟨by unfold bD; (repeat (first | rw [if_pos (by omega)] | rw [if_neg (by omega)])) <;> rfl, hw.below (Bg.le.refl _)⟩
   ·refine af (ab (zz0 (zz3 (off := 2) (ft := 3) rfl ag rfl aj) ?_))
    refine zz0 (aM rfl aD) ?_
    refine zz0 (dl rfl rfl) (zz0 (ac rfl) ?_)
    apply bF
    ·exact (rfl : _ = (4, 41, 45))
    ·exact rfl
    ·intro hT7; have hT7' := hT7
     try simp only [bs] at hT7'
     refine zz5 hT7 (zz3 (off := 2) (ft := 3) rfl ag rfl aj) ?_
     refine zz5 hT7 (aM rfl aD) ?_
     refine zz5 hT7 (dO rfl rfl) (zz0 (aE rfl hT7 rfl) ?_)
     refine ae (aa ?_)
     exact aw (Sub.cons rfl (zz7 4 rfl))
    ·intro hF7
     refine zz6 hF7 (zz6 hF7 (zz6 hF7 (zz0 (aF rfl hF7 rfl) ?_)))
     refine ae (aa ?_)
     exact aw (Sub.cons rfl (zz7 4 rfl))
    refine zz0 (ad rfl) (ae (aa ?_))
    refine ak rfl ?_ ?_ <;> intro h8 <;> try simp only [bs] at h8
    ·refine af (ab (zz0 (zz3 (off := 2) (ft := 3) rfl ag rfl aj) ?_))
     refine zz0 (aM rfl aD) ?_
     refine zz0 (eE rfl rfl) ?_
     refine zz0 (jD rfl aO bu) (zz0 (ad rfl) (ae (aa (af (ab (zz0 (zz3 (off := 3) (ft := 3) rfl ag rfl aj) ?_))))))
     refine zz0 (aM rfl aD) ?_
     refine ae (aa (aQ (af (ab (zz0 (aN rfl rfl) (zz0 (ad rfl) (ae (aa ?_))))))))
     refine ak rfl ?_ ?_ <;> intro h9 <;> try simp only [bs] at h9
     ·refine af (ab (zz0 (ac rfl) (zz0 (lc (m := 32) rfl rfl) ?_)))
      refine zz0 (ad rfl) (zz0 (ad rfl) (zz0 (ad rfl) (ae (aa (ao (bf (bf (an ?_))))))))
      refine eD dy rfl rfl rfl (fun w' hw => ?_)
      exact ⟨by unfold bD; (repeat (first | rw [if_pos (by omega)] | rw [if_neg (by omega)])) <;> rfl, hw.below (Bg.le.refl _)⟩
     ·refine af (ab (zz0 (aN rfl rfl) (zz0 (ad rfl) (ae (aa ?_)))))
      refine ak rfl ?_ ?_ <;> intro h10 <;> try simp only [bs] at h10
      ·refine af (ab (zz0 (ac rfl) (zz0 (lc (m := 48) rfl rfl) ?_)))
       refine zz0 (ad rfl) (zz0 (ad rfl) (zz0 (ad rfl) (ae (aa (ao (bf (bf (an ?_))))))))
       refine eD dy rfl rfl rfl (fun w' hw => ?_)
       exact ⟨by unfold bD; (repeat (first | rw [if_pos (by omega)] | rw [if_neg (by omega)])) <;> rfl, hw.below (Bg.le.refl _)⟩
      ·refine af (ab (zz0 (aN rfl rfl) (zz0 (ad rfl) (ae (aa ?_)))))
       refine ak rfl ?_ ?_ <;> intro h11 <;> try simp only [bs] at h11
       ·refine af (ab (zz0 (ac rfl) (zz0 (lc (m := 64) rfl rfl) ?_)))
        refine zz0 (ad rfl) (zz0 (ad rfl) (zz0 (ad rfl) (ae (aa (ao (bf (bf (an ?_))))))))
        refine eD dy rfl rfl rfl (fun w' hw => ?_)
        exact ⟨by unfold bD; (repeat (first | rw [if_pos (by omega)] | rw [if_neg (by omega)])) <;> rfl, hw.below (Bg.le.refl _)⟩
       ·refine ax (a9 (a9 (aa (af (ab (zz0 (ad rfl) (zz0 (ad rfl) (zz0 (ad rfl) (ae (aa (ao ?_)))))))))))
        refine eD dy rfl rfl rfl (fun w' hw => ?_)
        exact ⟨by unfold bD; (repeat (first | rw [if_pos (by omega)] | rw [if_neg (by omega)])) <;> rfl, hw.below (Bg.le.refl _)⟩
    ·refine af (af (ab (zz0 (zz3 (off := 2) (ft := 3) rfl ag rfl aj) ?_)))
     refine zz0 (aM rfl aD) ?_
     refine zz0 (aN rfl rfl) (zz0 (ad rfl) (ae (aa ?_)))
     apply cI
     ·exact rfl
     ·intro hO12
      try simp only [bs] at hO12
      refine af (ab (zz0 (zz3 (off := 2) (ft := 3) rfl ag rfl aj) ?_))
      refine zz0 (aM rfl aD) ?_
      refine zz0 (aN rfl rfl) (zz0 (ad rfl) (ae (aa ?_)))
      apply cI
      ·exact rfl
      ·intro hO13
       try simp only [bs] at hO13
       refine ab (zz0 (zz3 (off := 2) (ft := 3) rfl ag rfl aj) ?_)
       refine zz0 (aM rfl aD) ?_
       refine zz0 (aN rfl rfl) (zz0 (ad rfl) (ae (aa ?_)))
       exact cX rfl (bQ 4 rfl)
      refine aa ?_
      exact cX rfl (bQ 5 rfl)
     refine aa ?_
     refine ak rfl ?_ ?_ <;> intro h14 <;> try simp only [bs] at h14
     ·refine af (ab (zz0 (bK rfl bo aL) ?_))
      refine zz0 (aB rfl Tryz.call112 (fun w hw => vD i w)) ?_
      refine zz0 (ay rfl rfl) (zz0 (ay rfl rfl) (zz0 (ay rfl rfl) (zz0 (ad rfl) (zz0 (ad rfl) (zz0 (ad rfl) (ae (aa (ao (bf (an ?_))))))))))
      refine eD dy rfl rfl rfl (fun w' hw => ?_)
      exact ⟨by unfold bD; (repeat (first | rw [if_pos (by omega)] | rw [if_neg (by omega)])) <;> rfl, hw.below (Bg.le.refl _)⟩
     ·refine af (ab (zz0 (zz3 (off := 2) (ft := 3) rfl ag rfl aj) ?_))
      refine zz0 (aM rfl aD) ?_
      refine zz0 (aN rfl rfl) (zz0 (ad rfl) (ae (aa ?_)))
      refine ak rfl ?_ ?_ <;> intro h15 <;> try simp only [bs] at h15
      ·refine af (ab (zz0 (ad rfl) (zz0 (ad rfl) (zz0 (ad rfl) (ae (aa (ao (bf (an ?_)))))))))
       refine eD dy rfl rfl rfl (fun w' hw => ?_)
       exact ⟨by unfold bD; (repeat (first | rw [if_pos (by omega)] | rw [if_neg (by omega)])) <;> rfl, hw.below (Bg.le.refl _)⟩
      ·refine af (ab (zz0 (zz3 (off := 2) (ft := 3) rfl ag rfl aj) ?_))
       refine zz0 (aM rfl aD) ?_
       refine zz0 (aN rfl rfl) (zz0 (ac rfl) ?_)
       apply cZ
       ·exact (rfl : _ = (4, 87, 91))
       ·exact rfl
       ·intro hF16; have hF16' := hF16
        try simp only [bs] at hF16'
        refine zz5 hF16 (zz3 (off := 2) (ft := 3) rfl ag rfl aj) ?_
        refine zz5 hF16 (aM rfl aD) ?_
        refine zz5 hF16 (aN rfl rfl) (zz0 (aF rfl hF16 rfl) ?_)
        refine ae (aa ?_)
        exact aw (Sub.cons rfl (zz7 4 rfl))
       ·intro hT16
        refine zz6 hT16 (zz6 hT16 (zz6 hT16 (zz0 (aE rfl hT16 rfl) ?_)))
        refine ae (aa ?_)
        exact aw (Sub.cons rfl (zz7 4 rfl))
       refine zz0 (ad rfl) (ae (aa ?_))
       refine ak rfl ?_ ?_ <;> intro h17 <;> try simp only [bs] at h17
       ·refine af (ab (zz0 (bK rfl bo aL) ?_))
        refine zz0 (aB rfl Tryz.call113 (fun w hw => pe i w)) ?_
        refine zz0 (ay rfl rfl) (zz0 (ay rfl rfl) (zz0 (ay rfl rfl) (zz0 (ad rfl) (zz0 (ad rfl) (zz0 (ad rfl) (ae (aa (ao (bf (an ?_))))))))))
        refine eD dy rfl rfl rfl (fun w' hw => ?_)
        exact ⟨by unfold bD; (repeat (first | rw [if_pos (by omega)] | rw [if_neg (by omega)])) <;> rfl, hw.below (Bg.le.refl _)⟩
       ·refine af (ab (zz0 (zz3 (off := 2) (ft := 3) rfl ag rfl aj) ?_))
        refine zz0 (aM rfl aD) ?_
        refine zz0 (aN rfl rfl) (zz0 (ad rfl) (ae (aa ?_)))
        refine ak rfl ?_ ?_ <;> intro h18 <;> try simp only [bs] at h18
        ·refine af (ab (zz0 (ad rfl) (zz0 (ad rfl) (zz0 (ad rfl) (ae (aa (ao (bf (an ?_)))))))))
         refine eD dy rfl rfl rfl (fun w' hw => ?_)
         exact ⟨by unfold bD; (repeat (first | rw [if_pos (by omega)] | rw [if_neg (by omega)])) <;> rfl, hw.below (Bg.le.refl _)⟩
        ·refine af (ab (zz0 (zz3 (off := 2) (ft := 3) rfl ag rfl aj) ?_))
         refine zz0 (aM rfl aD) ?_
         refine zz0 (aN rfl rfl) (zz0 (ad rfl) (ae (aa ?_)))
         refine ak rfl ?_ ?_ <;> intro h19 <;> try simp only [bs] at h19
         ·refine af (ab (zz0 (ad rfl) (zz0 (ad rfl) (zz0 (ad rfl) (ae (aa (ao (bf (an ?_)))))))))
          refine eD dy rfl rfl rfl (fun w' hw => ?_)
          exact ⟨by unfold bD; (repeat (first | rw [if_pos (by omega)] | rw [if_neg (by omega)])) <;> rfl, hw.below (Bg.le.refl _)⟩
         ·refine af (ab (zz0 (zz3 (off := 2) (ft := 3) rfl ag rfl aj) ?_))
          refine zz0 (aM rfl aD) ?_
          refine zz0 (aN rfl rfl) (zz0 (ad rfl) (ae (aa ?_)))
          refine ak rfl ?_ ?_ <;> intro h20 <;> try simp only [bs] at h20
          ·refine af (ab (zz0 (ad rfl) (zz0 (ad rfl) (zz0 (ad rfl) (ae (aa (ao (bf (an ?_)))))))))
           refine eD dy rfl rfl rfl (fun w' hw => ?_)
           exact ⟨by unfold bD; (repeat (first | rw [if_pos (by omega)] | rw [if_neg (by omega)])) <;> rfl, hw.below (Bg.le.refl _)⟩
          ·refine af (ab (zz0 (zz3 (off := 2) (ft := 3) rfl ag rfl aj) ?_))
           refine zz0 (aM rfl aD) ?_
           refine zz0 (aN rfl rfl) (zz0 (ad rfl) (ae (aa ?_)))
           refine ak rfl ?_ ?_ <;> intro h21 <;> try simp only [bs] at h21
           ·refine af (ab (zz0 (ad rfl) (zz0 (ad rfl) (zz0 (ad rfl) (ae (aa (ao (bf (an ?_)))))))))
            refine eD dy rfl rfl rfl (fun w' hw => ?_)
            exact ⟨by unfold bD; (repeat (first | rw [if_pos (by omega)] | rw [if_neg (by omega)])) <;> rfl, hw.below (Bg.le.refl _)⟩
           ·refine af (ab (zz0 (zz3 (off := 2) (ft := 3) rfl ag rfl aj) ?_))
            refine zz0 (aM rfl aD) ?_
            refine zz0 (aN rfl rfl) (zz0 (ad rfl) (ae (aa ?_)))
            refine ak rfl ?_ ?_ <;> intro h22 <;> try simp only [bs] at h22
            ·refine af (ab (zz0 (ad rfl) (zz0 (ad rfl) (zz0 (ad rfl) (ae (aa (ao (bf (an ?_)))))))))
             refine eD dy rfl rfl rfl (fun w' hw => ?_)
             exact ⟨by unfold bD; (repeat (first | rw [if_pos (by omega)] | rw [if_neg (by omega)])) <;> rfl, hw.below (Bg.le.refl _)⟩
            ·refine af (ab (zz0 (zz3 (off := 2) (ft := 3) rfl ag rfl aj) ?_))
             refine zz0 (aM rfl aD) ?_
             refine zz0 (aN rfl rfl) (zz0 (ad rfl) (ae (aa ?_)))
             refine ak rfl ?_ ?_ <;> intro h23 <;> try simp only [bs] at h23
             ·refine af (ab (zz0 (ad rfl) (zz0 (ad rfl) (zz0 (ad rfl) (ae (aa (ao (bf (an ?_)))))))))
              refine eD dy rfl rfl rfl (fun w' hw => ?_)
              exact ⟨by unfold bD; (repeat (first | rw [if_pos (by omega)] | rw [if_neg (by omega)])) <;> rfl, hw.below (Bg.le.refl _)⟩
             ·refine ax (a9 (aa (af (ab (zz0 (ad rfl) (zz0 (ad rfl) (zz0 (ad rfl) (ae (aa (ao ?_))))))))))
              refine eD dy rfl rfl rfl (fun w' hw => ?_)
              exact ⟨by unfold bD; (repeat (first | rw [if_pos (by omega)] | rw [if_neg (by omega)])) <;> rfl, hw.below (Bg.le.refl _)⟩
theorem y6 (i : Ins) (s : Int) (w : World) :
  Calls Tryz.prog 156 #[.agg (eC.enc i).toArray, .int .i64 s] w (fun e w' => e = .returned (.agg (eC.enc (ky i s)).toArray) ∧ Ext w w') := by
 refine enter Tryz.func156 rfl Tryz.ntmps156 rfl ?_
 refine af (ab ?_)
 refine cM rfl rfl rfl (fun b1 => ?_)
 refine c9 du rfl (fun b2 => ?_)
 refine ae (aa (af (ab (zz0 (zz3 (off := 0) (ft := 23) rfl ag rfl ah) ?_))))
 refine zz0 (aM rfl az) ?_
 refine zz0 (zz3 (off := 2) (ft := 3) rfl ag rfl aj) ?_
 refine zz0 (aM rfl aD) ?_
 refine zz0 (zz3 (off := 8) (ft := 3) rfl ag rfl aj) ?_
 refine zz0 (aM rfl aD) ?_
 refine zz0 (bE (vs := [(0, _), (2, _), (8, _)]) rfl rfl (ny _ _ _)) ?_
 refine c9 du rfl (fun b3 => ?_)
 refine bw eC rfl rfl aL ?_
 refine ae (aa ?_)
 refine eJ (ι := Ins) (fun k1 => k1 = nK i s) (fun _ => Bg.of w) (fun k1 => [cellE b3 (eC.enc k1) 114, cellE b2 (eC.enc bU) 114, cellE b1 (eC.enc i) 114]) (fun k1 => []) ?_ (fun k1 hi => ?_)
 ·skip
  refine af (ab (zz0 (ac rfl) (ae (aa (aQ (af (af (ab (zz0 (aN rfl rfl) (zz0 (ad rfl) (ae (aa ?_))))))))))))
  apply cI
  ·exact rfl
  ·intro hO4
   try simp only [bs] at hO4
   refine ab (zz0 (aN rfl rfl) (zz0 (ad rfl) (ae (aa ?_))))
   exact cX rfl (bQ 2 rfl)
  refine aa ?_
  refine ak rfl ?_ ?_ <;> intro h5 <;> try simp only [bs] at h5
  ·refine ab (zz0 (zz3 (off := 6) (ft := 3) rfl ag rfl aj) ?_)
   refine zz0 (aM rfl aD) ?_
   refine zz0 (zz3 (off := 6) (ft := 3) rfl ag rfl aj) ?_
   refine zz1 (cs' := [_, _, _, _, _, _, _, _, _]) rfl rfl aj rfl ?_
   refine ae (a9 (aa ?_))
   apply aZ ⟨i.addr, 0, i.op, 0, 0, 0, i.a, 0, i.size⟩
   ·exact rfl
   ·exact Front.nil
   ·exact bQ 7 rfl
   ·exact (by repeat' constructor)
   ·exact (by simp only [nK]; congr 1 <;> first | rfl | (rw [if_pos (by omega)]) | (rw [if_neg (by omega)]))
  ·refine af (ab (zz0 (aN rfl rfl) (zz0 (ad rfl) (ae (aa ?_)))))
   refine ak rfl ?_ ?_ <;> intro h6 <;> try simp only [bs] at h6
   ·refine bI ([cellE b1 (eC.enc i) 114]) 8 rfl aU ?_
    refine zz2 0 rfl (zz3 (off := 6) (ft := 3) rfl ag rfl aj) ?_
    refine zz2 1 rfl (aM rfl aD) ?_
    refine zz2 2 rfl (zz3 (off := 7) (ft := 3) rfl ag rfl aj) ?_
    refine zz2 3 rfl (aM rfl aD) ?_
    refine zz2 4 rfl (zz3 (off := 6) (ft := 3) rfl ag rfl aj) ?_
    refine zz9 [5] (fun iq hq => ?_)
    obtain rfl := List.mem_singleton.1 hq
    refine aX rfl ?_
    refine zz1 (cs' := [_, _, _, _, _, _, _, _, _]) rfl rfl aj rfl ?_
    refine bB ?_
    refine zz2 6 rfl (zz3 (off := 7) (ft := 3) rfl ag rfl aj) ?_
    refine zz9 [7] (fun iq hq => ?_)
    obtain rfl := List.mem_singleton.1 hq
    refine aX rfl ?_
    refine zz1 (cs' := [_, _, _, _, _, _, _, _, _]) rfl rfl aj rfl ?_
    refine bB ?_
    refine eh ?_
    refine a9 (aa ?_)
    apply aZ ⟨i.addr, 0, i.op, 0, 0, 0, i.a, i.b, i.size⟩
    ·exact rfl
    ·exact Front.nil
    ·exact bQ 12 rfl
    ·exact (by repeat' constructor)
    ·exact (by simp only [nK]; congr 1 <;> first | rfl | (rw [if_pos (by omega)]) | (rw [if_neg (by omega)]))
   ·refine af (af (ab (zz0 (aN rfl rfl) (zz0 (ad rfl) (ae (aa ?_))))))
    apply cI
    ·exact rfl
    ·intro hO7
     try simp only [bs] at hO7
     refine ab (zz0 (aN rfl rfl) (zz0 (ad rfl) (ae (aa ?_))))
     exact cX rfl (bQ 2 rfl)
    refine aa ?_
    refine ak rfl ?_ ?_ <;> intro h8 <;> try simp only [bs] at h8
    ·refine bI ([cellE b1 (eC.enc i) 114]) 8 rfl aU ?_
     refine zz2 0 rfl (zz3 (off := 6) (ft := 3) rfl ag rfl aj) ?_
     refine zz2 1 rfl (aM rfl aD) ?_
     refine zz2 2 rfl (zz3 (off := 1) (ft := 23) rfl ag rfl ah) ?_
     refine zz2 3 rfl (aM rfl az) ?_
     refine zz2 4 rfl (zz3 (off := 6) (ft := 3) rfl ag rfl aj) ?_
     refine zz9 [5] (fun iq hq => ?_)
     obtain rfl := List.mem_singleton.1 hq
     refine aX rfl ?_
     refine zz1 (cs' := [_, _, _, _, _, _, _, _, _]) rfl rfl aj rfl ?_
     refine bB ?_
     refine zz2 6 rfl (zz3 (off := 1) (ft := 23) rfl ag rfl ah) ?_
     refine zz9 [7] (fun iq hq => ?_)
     obtain rfl := List.mem_singleton.1 hq
     refine aX rfl ?_
     refine zz1 (cs' := [_, _, _, _, _, _, _, _, _]) rfl rfl ah rfl ?_
     refine bB ?_
     refine eh ?_
     refine a9 (aa ?_)
     apply aZ ⟨i.addr, i.imm, i.op, 0, 0, 0, i.a, 0, i.size⟩
     ·exact rfl
     ·exact Front.nil
     ·exact bQ 15 rfl
     ·exact (by repeat' constructor)
     ·exact (by simp only [nK]; congr 1 <;> first | rfl | (rw [if_pos (by omega)]) | (rw [if_neg (by omega)]))
    ·refine af (ab (zz0 (aN rfl rfl) (zz0 (ad rfl) (ae (aa ?_)))))
     refine ak rfl ?_ ?_ <;> intro h9 <;> try simp only [bs] at h9
     ·refine bI ([cellE b1 (eC.enc i) 114]) 12 rfl aU ?_
      refine zz2 0 rfl (zz3 (off := 6) (ft := 3) rfl ag rfl aj) ?_
      refine zz2 1 rfl (aM rfl aD) ?_
      refine zz2 2 rfl (zz3 (off := 7) (ft := 3) rfl ag rfl aj) ?_
      refine zz2 3 rfl (aM rfl aD) ?_
      refine zz2 4 rfl (zz3 (off := 1) (ft := 23) rfl ag rfl ah) ?_
      refine zz2 5 rfl (aM rfl az) ?_
      refine zz2 6 rfl (zz3 (off := 6) (ft := 3) rfl ag rfl aj) ?_
      refine zz9 [7] (fun iq hq => ?_)
      obtain rfl := List.mem_singleton.1 hq
      refine aX rfl ?_
      refine zz1 (cs' := [_, _, _, _, _, _, _, _, _]) rfl rfl aj rfl ?_
      refine bB ?_
      refine zz2 8 rfl (zz3 (off := 7) (ft := 3) rfl ag rfl aj) ?_
      refine zz9 [9] (fun iq hq => ?_)
      obtain rfl := List.mem_singleton.1 hq
      refine aX rfl ?_
      refine zz1 (cs' := [_, _, _, _, _, _, _, _, _]) rfl rfl aj rfl ?_
      refine bB ?_
      refine zz2 10 rfl (zz3 (off := 1) (ft := 23) rfl ag rfl ah) ?_
      refine zz9 [11] (fun iq hq => ?_)
      obtain rfl := List.mem_singleton.1 hq
      refine aX rfl ?_
      refine zz1 (cs' := [_, _, _, _, _, _, _, _, _]) rfl rfl ah rfl ?_
      refine bB ?_
      refine eh ?_
      refine a9 (aa ?_)
      apply aZ ⟨i.addr, i.imm, i.op, 0, 0, 0, i.a, i.b, i.size⟩
      ·exact rfl
      ·exact Front.nil
      ·exact bQ 20 rfl
      ·exact (by repeat' constructor)
      ·exact (by simp only [nK]; congr 1 <;> first | rfl | (rw [if_pos (by omega)]) | (rw [if_neg (by omega)]))
     ·refine af (af (ab (zz0 (aN rfl rfl) (zz0 (ad rfl) (ae (aa ?_))))))
      apply cI
      ·exact rfl
      ·intro hO10
       try simp only [bs] at hO10
       refine ab (zz0 (aN rfl rfl) (zz0 (ad rfl) (ae (aa ?_))))
       exact cX rfl (bQ 2 rfl)
      refine aa ?_
      refine ak rfl ?_ ?_ <;> intro h11 <;> try simp only [bs] at h11
      ·refine ab (zz0 (zz3 (off := 1) (ft := 23) rfl ag rfl ah) ?_)
       refine zz0 (aM rfl az) ?_
       refine zz0 (zz3 (off := 1) (ft := 23) rfl ag rfl ah) ?_
       refine zz1 (cs' := [_, _, _, _, _, _, _, _, _]) rfl rfl ah rfl ?_
       refine ae (a9 (aa ?_))
       apply aZ ⟨i.addr, i.imm, i.op, 0, 0, 0, 0, 0, i.size⟩
       ·exact rfl
       ·exact Front.nil
       ·exact bQ 17 rfl
       ·exact (by repeat' constructor)
       ·exact (by simp only [nK]; congr 1 <;> first | rfl | (rw [if_pos (by omega)]) | (rw [if_neg (by omega)]))
      ·refine ax (a9 (aa ?_))
       apply aZ ⟨i.addr, 0, i.op, 0, 0, 0, 0, 0, i.size⟩
       ·exact rfl
       ·exact Front.nil
       ·exact bQ 14 rfl
       ·exact (by repeat' constructor)
       ·exact (by simp only [nK]; congr 1 <;> first | rfl | (rw [if_pos (by omega)]) | (rw [if_neg (by omega)]))
 ·skip
  replace hi : k1 = nK i s := hi
  change Tr _ _ [cellE b3 (eC.enc k1) 114, cellE b2 (eC.enc bU) 114, cellE b1 (eC.enc i) 114] ([] ++ _) _
  refine eJ (ι := Ins) (fun k2 => k2 = ky i s) (fun _ => Bg.of w) (fun k2 => [cellE b3 (eC.enc k2) 114, cellE b2 (eC.enc bU) 114, cellE b1 (eC.enc i) 114]) (fun k2 => []) ?_ (fun k2 hi => ?_)
  ·skip
   refine aQ (af (ab (zz0 (zz3 (off := 2) (ft := 3) rfl ag rfl aj) ?_)))
   refine zz0 (aM rfl aD) ?_
   refine zz0 (dl rfl rfl) (zz0 (ac rfl) ?_)
   apply bF
   ·exact (rfl : _ = (4, 58, 62))
   ·exact rfl
   ·intro hT12; have hT12' := hT12
    try simp only [bs] at hT12'
    refine zz5 hT12 (zz3 (off := 2) (ft := 3) rfl ag rfl aj) ?_
    refine zz5 hT12 (aM rfl aD) ?_
    refine zz5 hT12 (dO rfl rfl) (zz0 (aE rfl hT12 rfl) ?_)
    refine ae (aa ?_)
    exact aw (Sub.cons rfl (zz7 4 rfl))
   ·intro hF12
    refine zz6 hF12 (zz6 hF12 (zz6 hF12 (zz0 (aF rfl hF12 rfl) ?_)))
    refine ae (aa ?_)
    exact aw (Sub.cons rfl (zz7 4 rfl))
   refine zz0 (ad rfl) (ae (aa ?_))
   refine ak rfl ?_ ?_ <;> intro h13 <;> try simp only [bs] at h13
   ·refine ab (zz0 (zz3 (off := 3) (ft := 3) rfl ag rfl aj) ?_)
    refine zz0 (aM rfl aD) ?_
    refine zz0 (zz3 (off := 3) (ft := 3) rfl ag rfl aj) ?_
    refine zz1 (cs' := [_, _, _, _, _, _, _, _, _]) rfl rfl aj rfl ?_
    refine ae (a9 (aa ?_))
    apply aZ { k1 with form := i.form }
    ·exact rfl
    ·exact Front.nil
    ·exact bQ 9 rfl
    ·exact (by repeat' constructor)
    ·exact (by subst hi; rw [mH]; congr 1 <;> first | rfl | (rw [if_pos (by omega)]) | (rw [if_neg (by omega)]; rfl))
   ·refine af (af (ab (zz0 (zz3 (off := 2) (ft := 3) rfl ag rfl aj) ?_)))
    refine zz0 (aM rfl aD) ?_
    refine zz0 (aN rfl rfl) (zz0 (ad rfl) (ae (aa ?_)))
    apply cI
    ·exact rfl
    ·intro hO14
     try simp only [bs] at hO14
     refine af (ab (zz0 (zz3 (off := 2) (ft := 3) rfl ag rfl aj) ?_))
     refine zz0 (aM rfl aD) ?_
     refine zz0 (aN rfl rfl) (zz0 (ad rfl) (ae (aa ?_)))
     apply cI
     ·exact rfl
     ·intro hO15
      try simp only [bs] at hO15
      refine ab (zz0 (zz3 (off := 2) (ft := 3) rfl ag rfl aj) ?_)
      refine zz0 (aM rfl aD) ?_
      refine zz0 (aN rfl rfl) (zz0 (ad rfl) (ae (aa ?_)))
      exact cX rfl (bQ 4 rfl)
     refine aa ?_
     exact cX rfl (bQ 5 rfl)
    refine aa ?_
    refine ak rfl ?_ ?_ <;> intro h16 <;> try simp only [bs] at h16
    ·refine ab (zz0 (zz3 (off := 4) (ft := 3) rfl ag rfl aj) ?_)
     refine zz0 (aM rfl aD) ?_
     refine zz0 (zz3 (off := 4) (ft := 3) rfl ag rfl aj) ?_
     refine zz1 (cs' := [_, _, _, _, _, _, _, _, _]) rfl rfl aj rfl ?_
     refine ae (a9 (aa ?_))
     apply aZ { k1 with width := i.width }
     ·exact rfl
     ·exact Front.nil
     ·exact bQ 14 rfl
     ·exact (by repeat' constructor)
     ·exact (by subst hi; rw [mH]; congr 1 <;> first | rfl | (rw [if_pos (by omega)]) | (rw [if_neg (by omega)]; rfl))
    ·refine af (ab (zz0 (zz3 (off := 2) (ft := 3) rfl ag rfl aj) ?_))
     refine zz0 (aM rfl aD) ?_
     refine zz0 (aN rfl rfl) (zz0 (ad rfl) (ae (aa ?_)))
     refine ak rfl ?_ ?_ <;> intro h17 <;> try simp only [bs] at h17
     ·refine bI ([cellE b1 (eC.enc i) 114]) 8 rfl aU ?_
      refine zz2 0 rfl (zz3 (off := 3) (ft := 3) rfl ag rfl aj) ?_
      refine zz2 1 rfl (aM rfl aD) ?_
      refine zz2 2 rfl (zz3 (off := 5) (ft := 3) rfl ag rfl aj) ?_
      refine zz2 3 rfl (aM rfl aD) ?_
      refine zz2 4 rfl (zz3 (off := 3) (ft := 3) rfl ag rfl aj) ?_
      refine zz9 [5] (fun iq hq => ?_)
      obtain rfl := List.mem_singleton.1 hq
      refine aX rfl ?_
      refine zz1 (cs' := [_, _, _, _, _, _, _, _, _]) rfl rfl aj rfl ?_
      refine bB ?_
      refine zz2 6 rfl (zz3 (off := 5) (ft := 3) rfl ag rfl aj) ?_
      refine zz9 [7] (fun iq hq => ?_)
      obtain rfl := List.mem_singleton.1 hq
      refine aX rfl ?_
      refine zz1 (cs' := [_, _, _, _, _, _, _, _, _]) rfl rfl aj rfl ?_
      refine bB ?_
      refine eh ?_
      refine a9 (aa ?_)
      apply aZ { k1 with form := i.form, cc := i.cc }
      ·exact rfl
      ·exact Front.nil
      ·exact bQ 21 rfl
      ·exact (by repeat' constructor)
      ·exact (by subst hi; rw [mH]; congr 1 <;> first | rfl | (rw [if_pos (by omega)]) | (rw [if_neg (by omega)]; rfl))
     ·refine af (ab (zz0 (zz3 (off := 2) (ft := 3) rfl ag rfl aj) ?_))
      refine zz0 (aM rfl aD) ?_
      refine zz0 (aN rfl rfl) (zz0 (ad rfl) (ae (aa ?_)))
      refine ak rfl ?_ ?_ <;> intro h18 <;> try simp only [bs] at h18
      ·refine ab (zz0 (zz3 (off := 5) (ft := 3) rfl ag rfl aj) ?_)
       refine zz0 (aM rfl aD) ?_
       refine zz0 (zz3 (off := 5) (ft := 3) rfl ag rfl aj) ?_
       refine zz1 (cs' := [_, _, _, _, _, _, _, _, _]) rfl rfl aj rfl ?_
       refine ae (a9 (aa ?_))
       apply aZ { k1 with cc := i.cc }
       ·exact rfl
       ·exact Front.nil
       ·exact bQ 22 rfl
       ·exact (by repeat' constructor)
       ·exact (by subst hi; rw [mH]; congr 1 <;> first | rfl | (rw [if_pos (by omega)]) | (rw [if_neg (by omega)]; rfl))
      ·refine ax (a9 (aa ?_))
       apply aZ k1
       ·exact rfl
       ·exact Front.nil
       ·exact bQ 19 rfl
       ·exact (by repeat' constructor)
       ·exact (by subst hi; rw [mH, if_neg (by omega), if_neg (by omega), if_neg (by omega)]; rfl)
  ·skip
   replace hi : k2 = ky i s := hi
   change Tr _ _ [cellE b3 (eC.enc k2) 114, cellE b2 (eC.enc bU) 114, cellE b1 (eC.enc i) 114] ([] ++ _) _
   refine af (ab (zz0 (bK rfl bo aL) ?_))
   refine bw eC rfl rfl aL ?_
   refine ae (aa (ao ?_))
   refine fJ Tryz.results156 rfl (by repeat constructor) bo aL (by rfl) (fun w' hw => ?_)
   exact ⟨by subst hi; rfl, hw.below (Bg.le.refl _)⟩
theorem check_any (i : Ins) (w : World) (hI : InsOK i) :
  Calls Tryz.prog 155 #[.agg (eC.enc i).toArray] w (fun e w' => e = .returned ((.tuple #[.int .u8 (iU i).1.toNat, .int .i64 (iU i).2.1, .int .i64 (iU i).2.2])) ∧ Ext w w') := by
 refine enter Tryz.func155 rfl Tryz.ntmps155 rfl ?_
 refine af (ab ?_)
 refine cM rfl rfl rfl (fun b1 => ?_)
 refine zz0 (ad rfl) (zz0 (ad rfl) (zz0 (ad rfl) (ae (aa (af (ab (zz0 (bK rfl bo aL) ?_)))))))
 refine zz0 (aB rfl Tryz.call79 (fun w hw => np i w hI)) ?_
 refine zz0 (ac rfl) (zz0 (ay rfl rfl) (zz0 (ay rfl rfl) (zz0 (ay rfl rfl) (zz0 (ad rfl) (zz0 (ad rfl) (zz0 (ad rfl) (ae (aa (af (af (ja aU ?_)))))))))))
 refine aK (ac rfl) (aK (cj rfl) (aK (ac rfl) ?_))
 apply nS
 ·exact (rfl : _ = (5, 16, 21))
 ·exact rfl
 ·intro hF2; have hF2' := hF2
  try simp only [bs] at hF2'
  refine bY hF2 (zz3 (off := 6) (ft := 3) rfl ag rfl aj) ?_
  refine bY hF2 (aM rfl aD) ?_
  refine bY hF2 (aB rfl mZ (fun w hw => j1 i.a w)) ?_
  refine bY hF2 (cj rfl) (aK (aF rfl hF2 rfl) ?_)
  exact dh (Sub.cons rfl (zz7 5 rfl))
 ·intro hT2
  refine bZ hT2 (bZ hT2 (bZ hT2 (bZ hT2 (aK (aE rfl hT2 rfl) ?_))))
  exact dh (Sub.cons rfl (zz7 5 rfl))
 refine aK (ac rfl) ?_
 apply nS
 ·exact (rfl : _ = (5, 22, 27))
 ·exact rfl
 ·intro hF3; have hF3' := hF3
  try simp only [bs] at hF3'
  refine bY hF3 (zz3 (off := 7) (ft := 3) rfl ag rfl aj) ?_
  refine bY hF3 (aM rfl aD) ?_
  refine bY hF3 (aB rfl mZ (fun w hw => j1 i.b w)) ?_
  refine bY hF3 (cj rfl) (aK (aF rfl hF3 rfl) ?_)
  exact dh (Sub.cons rfl (zz7 5 rfl))
 ·intro hT3
  refine bZ hT3 (bZ hT3 (bZ hT3 (bZ hT3 (aK (aE rfl hT3 rfl) ?_))))
  exact dh (Sub.cons rfl (zz7 5 rfl))
 refine aK (ac rfl) ?_
 apply nS
 ·exact (rfl : _ = (6, 28, 34))
 ·exact rfl
 ·intro hF4; have hF4' := hF4
  try simp only [bs] at hF4'
  refine bY hF4 (bK rfl bo aL) ?_
  refine bY hF4 (ac rfl) (bY hF4 (aB rfl Tryz.call156 (fun w hw => y6 i (bD i).2.1 w)) ?_)
  refine bY hF4 (bK rfl bo aL) ?_
  refine bY hF4 (Bb rfl rfl y8 ag (s5 _ ag) rfl uN vT) ?_
  refine aK (aF rfl hF4 rfl) ?_
  exact dh (Sub.cons rfl (zz7 6 rfl))
 ·intro hT4
  refine bZ hT4 (bZ hT4 (bZ hT4 (bZ hT4 (bZ hT4 (aK (aE rfl hT4 rfl) ?_)))))
  exact dh (Sub.cons rfl (zz7 6 rfl))
 refine cH ?_
 refine aa ?_
 refine ak rfl ?_ ?_ <;> intro h5 <;> try simp only [bs] at h5
 ·refine af (ab (zz0 (ad rfl) (zz0 (ad rfl) (zz0 (ad rfl) (ae (aa (ao (an ?_))))))))
  refine eD lp rfl rfl rfl (fun w' hw => ?_)
  exact ⟨by rw [zD (by simp_all [or_assoc])]; rfl, hw.below (Bg.le.refl _)⟩
 ·refine ax (aa (af (af (ab (zz0 (ac rfl) (zz0 (aN rfl rfl) (zz0 (ac rfl) ?_)))))))
  apply cZ
  ·exact (rfl : _ = (3, 37, 40))
  ·exact rfl
  ·intro hF6; have hF6' := hF6
   try simp only [bs] at hF6'
   refine zz5 hF6 (ac rfl) (zz5 hF6 (aN rfl rfl) (zz0 (aF rfl hF6 rfl) ?_))
   refine ae (aa ?_)
   exact aw (Sub.cons rfl (zz7 3 rfl))
  ·intro hT6
   refine zz6 hT6 (zz6 hT6 (zz0 (aE rfl hT6 rfl) ?_))
   refine ae (aa ?_)
   exact aw (Sub.cons rfl (zz7 3 rfl))
  refine zz0 (ac rfl) ?_
  apply bF
  ·exact (rfl : _ = (5, 41, 46))
  ·exact rfl
  ·intro hT7; have hT7' := hT7
   try simp only [bs] at hT7'
   refine zz5 hT7 (zz3 (off := 1) (ft := 23) rfl ag rfl ah) ?_
   refine zz5 hT7 (aM rfl az) ?_
   refine zz5 hT7 (aB rfl Tryz.call157 (fun w hw => qj i.imm w)) ?_
   refine zz5 hT7 (cj rfl) (zz0 (aE rfl hT7 rfl) ?_)
   refine ae (aa ?_)
   exact aw (Sub.cons rfl (zz7 5 rfl))
  ·intro hF7
   refine zz6 hF7 (zz6 hF7 (zz6 hF7 (zz6 hF7 (zz0 (aF rfl hF7 rfl) ?_))))
   refine ae (aa ?_)
   exact aw (Sub.cons rfl (zz7 5 rfl))
  refine zz0 (ac rfl) ?_
  apply cZ
  ·exact (rfl : _ = (13, 47, 60))
  ·exact rfl
  ·intro hF8; have hF8' := hF8
   try simp only [bs] at hF8'
   refine zz5 hF8 (ac rfl) (zz5 hF8 (aN rfl rfl) (zz5 hF8 (ac rfl) ?_))
   apply bF
   ·exact (rfl : _ = (9, 50, 59))
   ·exact rfl
   ·intro hT9; have hT9' := hT9
    try simp only [bs] at hT9'
    refine zz5 hT9 (zz3 (off := 1) (ft := 23) rfl ag rfl ah) ?_
    refine zz5 hT9 (aM rfl az) ?_
    refine zz5 hT9 (zz3 (off := 0) (ft := 23) rfl ag rfl ah) ?_
    refine zz5 hT9 (aM rfl az) ?_
    refine zz5 hT9 (eX rfl rfl) ?_
    refine zz5 hT9 (eX (n := 2) rfl rfl) ?_
    refine zz5 hT9 (aB rfl Tryz.call157 (fun w hw => qj (i.imm - i.addr - 2) w)) ?_
    refine zz5 hT9 (cj rfl) (zz5 hF8 (aE rfl hT9 rfl) ?_)
    refine ae (aa ?_)
    exact aw (Sub.cons rfl (zz7 9 rfl))
   ·intro hF9
    refine zz6 hF9 (zz6 hF9 (zz6 hF9 (zz6 hF9 (zz6 hF9 (zz6 hF9 (zz6 hF9 (zz6 hF9 (zz5 hF8 (aF rfl hF9 rfl) ?_))))))))
    refine ae (aa ?_)
    exact aw (Sub.cons rfl (zz7 9 rfl))
   refine zz0 (aF rfl hF8 rfl) ?_
   refine ae (aa ?_)
   exact aw (Sub.cons rfl (zz7 5 rfl))
  ·intro hT8
   refine zz6 hT8 (zz6 hT8 (zz6 hT8 (dC rfl rfl rfl ?_)))
   refine dC rfl rfl rfl ?_
   refine dC rfl rfl rfl ?_
   refine dC rfl rfl rfl ?_
   refine dC rfl rfl rfl ?_
   refine dC rfl rfl rfl ?_
   refine dC rfl rfl rfl ?_
   refine dC rfl rfl rfl ?_
   refine zz6 hT8 (zz0 (aE rfl hT8 rfl) ?_)
   refine ae (aa ?_)
   exact aw (Sub.cons rfl (zz7 13 rfl))
  refine ae (aa ?_)
  refine ak rfl ?_ ?_ <;> intro h10 <;> try simp only [bs] at h10
  ·refine af (ab (zz0 (ad rfl) (zz0 (ad rfl) (zz0 (ad rfl) (ae (aa (ao (an ?_))))))))
   refine eD lp rfl rfl rfl (fun w' hw => ?_)
   exact ⟨by rw [zC (by simp_all) (by simp_all)]; rfl, hw.below (Bg.le.refl _)⟩
  ·refine ax (aa (af (ab (zz0 (ac rfl) (zz0 (ac rfl) (zz0 (ad rfl) (zz0 (ad rfl) (zz0 (ad rfl) (ae (aa (ao ?_)))))))))))
   refine eD lp rfl rfl rfl (fun w' hw => ?_)
   exact ⟨by rw [rP (BD (by simp_all) (by intro hc; rcases hc with ⟨h1 | h1, h2⟩ | ⟨h1, h2⟩ <;> simp_all))]; rfl, hw.below (Bg.le.refl _)⟩
theorem size_any (s : Int) (w : World) (hs : 0 ≤ s ∧ s ≤ 8) :
  Calls Tryz.prog 80 #[.int .i64 s] w (fun e w' => e = .returned (.int .i64 (cz s)) ∧ Ext w w') := by
 refine enter Tryz.func80 rfl Tryz.ntmps80 rfl ?_
 refine af (ab (zz0 (ad rfl) (ae (aa (af (ab (zz0 (ac rfl) (zz0 (oy rfl rfl eS (by refine ⟨by omega, ?_⟩; show s < 9; omega)) ?_))))))))
 refine zz0 (Ba (n := 48) rfl rfl) ?_
 refine zz0 (db rfl bu aO) (zz0 (ad rfl) (ae (aa (ao ?_))))
 refine aI Tryz.results80 rfl (fun w' hw => ?_)
 exact ⟨by obtain rfl | rfl | rfl | rfl | rfl | rfl | rfl | rfl | rfl : s = 0 ∨ s = 1 ∨ s = 2 ∨ s = 3 ∨ s = 4 ∨ s = 5 ∨ s = 6 ∨ s = 7 ∨ s = 8 := (by omega) <;> rfl, hw.below (Bg.le.refl _)⟩
theorem vh (i : Ins) (w : World) (hI : InsOK i) :
  Calls Tryz.prog 141 #[.agg (eC.enc i).toArray] w (fun e w' => e = .returned (.int .i64 (lF i)) ∧ Ext w w') := by
 refine enter Tryz.func141 rfl Tryz.ntmps141 rfl ?_
 refine af (ab ?_)
 refine cM rfl rfl rfl (fun b1 => ?_)
 refine zz0 (ad rfl) (ae (aa (af (ab (zz0 (bK rfl bo aL) ?_)))))
 refine zz0 (aB rfl Tryz.call155 (fun w hw => check_any i w hI)) ?_
 refine zz0 (ac rfl) (zz0 (ay rfl rfl) (zz0 (ay rfl rfl) (zz0 (ay rfl rfl) (zz0 (ad rfl) (zz0 (ad rfl) (zz0 (ad rfl) (ae (aa (af (af (ab (zz0 (ac rfl) (zz0 (dk rfl rfl) ?_)))))))))))))
 refine ae (aa ?_)
 refine ak rfl ?_ ?_ <;> intro h2 <;> try simp only [bs] at h2
 ·refine af (ab (zz0 (ad rfl) (ae (aa (ao (an ?_))))))
  refine aI Tryz.results141 rfl (fun w' hw => ?_)
  exact ⟨by unfold lF; rw [if_neg (by rw [← qA]; assumption)], hw.below (Bg.le.refl _)⟩
 ·refine ax (aa (af (ab (zz0 (ac rfl) (zz0 (aB rfl Tryz.call80 (fun w hw => size_any (iU i).2.1 w (sK i))) ?_)))))
  refine zz0 (ad rfl) (ae (aa (ao ?_)))
  refine aI Tryz.results141 rfl (fun w' hw => ?_)
  exact ⟨by have he : ln i = 0 := (by rw [← qA]; assumption); unfold lF; rw [if_pos he, rP he], hw.below (Bg.le.refl _)⟩
theorem nH (i : Ins) (w : World) (hI : InsOK i) :
  Calls Tryz.prog 116 #[.agg (eC.enc i).toArray] w (fun e w' => e = .returned (.int .u32 (cv i).toNat) ∧ Ext w w') := by
 refine enter Tryz.func116 rfl Tryz.ntmps116 rfl ?_
 refine af (ab ?_)
 refine cM rfl rfl rfl (fun b1 => ?_)
 refine zz0 (ad rfl) (ae (aa (af (ja aU ?_))))
 refine aK (zz3 (off := 0) (ft := 23) rfl ag rfl ah) ?_
 refine aK (aM rfl az) ?_
 refine aK (bK rfl bo aL) ?_
 refine aK (aB rfl Tryz.call141 (fun w hw => vh i w hI)) ?_
 refine aK (eY rfl aO aT) (aK (cL rfl rfl) ?_)
 refine aK (ad rfl) (cH ?_)
 refine aa (ao ?_)
 refine aI Tryz.results116 rfl (fun w' hw => ?_)
 exact ⟨rfl, hw.below (Bg.le.refl _)⟩
theorem ns (a : UInt32) (k : Int) (w : World) :
  Calls Tryz.prog 81 #[.int .u32 a.toNat, .int .i64 k] w (fun e w' => e = .returned (.int .u32 (jU a k).toNat) ∧ Ext w w') := by
 refine enter Tryz.func81 rfl Tryz.ntmps81 rfl ?_
 refine af (ab (zz0 (ad rfl) (ae (aa (af (af (ab (zz0 (ac rfl) (ae (aa (aQ (af (ab ?_)))))))))))))
 refine zz0 (aN rfl rfl) (zz0 (ad rfl) (ae (aa ?_)))
 refine ak rfl ?_ ?_ <;> intro h1 <;> try simp only [bs] at h1
 ·refine af (ab (zz0 (ac rfl) (zz0 (jE rfl aT jX) (zz0 (eY rfl jX aT) (zz0 (ad rfl) (ae (aa (ao (bf (an ?_))))))))))
  refine aI Tryz.results81 rfl (fun w' hw => ?_)
  exact ⟨by unfold jU; (repeat (first | rw [if_pos (by omega)] | rw [if_neg (by omega)])) <;> rfl, hw.below (Bg.le.refl _)⟩
 ·refine af (ab (zz0 (aN rfl rfl) (zz0 (ad rfl) (ae (aa ?_)))))
  refine ak rfl ?_ ?_ <;> intro h2 <;> try simp only [bs] at h2
  ·refine af (ab (zz0 (ac rfl) (zz0 (jE rfl aT Tryz.underlying162) (zz0 (eY rfl Tryz.underlying162 aT) (zz0 (ad rfl) (ae (aa (ao (bf (an ?_))))))))))
   refine aI Tryz.results81 rfl (fun w' hw => ?_)
   exact ⟨by unfold jU; (repeat (first | rw [if_pos (by omega)] | rw [if_neg (by omega)])) <;> rfl, hw.below (Bg.le.refl _)⟩
  ·refine ax (a9 (aa (af (ab (zz0 (ac rfl) (zz0 (ad rfl) (ae (aa (ao ?_)))))))))
   refine aI Tryz.results81 rfl (fun w' hw => ?_)
   exact ⟨by unfold jU; (repeat (first | rw [if_pos (by omega)] | rw [if_neg (by omega)])) <;> rfl, hw.below (Bg.le.refl _)⟩
end Go.Proofs.YtpeaodkfbjenpaaGreat
namespace Go.Proofs.YtpeaodkfbjenpaaGreat
open Go Go.HL Go.RowKit
theorem Al (c : UInt8) (w : World) :
  Calls Tryz.prog 78 #[.int .u8 c.toNat] w (fun e w' => e = .returned (.tuple #[.agg (eC.enc (rowP c).1).toArray, .bool (rowP c).2]) ∧ Ext w w') := by
 have hc1 := c.toNat_lt
 have hc2 : (c % 16).toNat = c.toNat % 16 := by rw [UInt8.toNat_mod]; rfl
 have hc3 : (c / 16).toNat = c.toNat / 16 := by rw [UInt8.toNat_div]; rfl
 refine enter Tryz.func78 rfl Tryz.ntmps78 rfl ?_
 refine af (ab ?_)
 refine c9 du rfl (fun b1 => ?_)
 refine zz0 (ad rfl) (ae (aa (zJ (af (ab (zz0 (ac rfl) (zz0 (rW rfl rfl) ?_)))))))
 refine zz0 (db rfl bu aO) (zz0 (ac rfl) (zz0 (qL rfl rfl) ?_))
 refine zz0 (db rfl bu aO) (zz0 (ad rfl) (zz0 (ad rfl) (ae (aa (af (aQ (af (ab (zz0 (ac rfl) (zz0 (sX (n := 2) rfl rfl) ?_))))))))))
 refine zz0 (ad rfl) (ae (aa ?_))
 refine ak rfl ?_ ?_ <;> intro h2 <;> try simp only [bs] at h2
 ·refine af (ab (zz0 (ac rfl) (zz0 (db rfl bu aO) (zz0 (bE (vs := [(2, _)]) rfl rfl (fr _)) ?_))))
  refine bw eC rfl rfl aL ?_
  refine zz0 (ad rfl) (ae (aa (ao (bf (an (iJ ?_))))))
  refine ei fN rfl rfl bo aL (fun w' hw => ?_)
  exact ⟨by clear hw; unfold rowP; (repeat (first | rw [if_pos (by first | assumption | omega)] | rw [if_neg (by first | assumption | omega | (intro hq; simp_all))])) <;> rfl, hw.below (Bg.le.refl _)⟩
 ·refine af (ab (zz0 (ac rfl) (zz0 (pF (n := 8) rfl rfl) ?_)))
  refine zz0 (ac rfl) ?_
  apply bF
  ·exact (rfl : _ = (3, 29, 32))
  ·exact rfl
  ·intro hT3; have hT3' := hT3
   try simp only [bs] at hT3'
   refine zz5 hT3 (ac rfl) (zz5 hT3 (mw (n := 16) rfl rfl) ?_)
   refine zz0 (aE rfl hT3 rfl) ?_
   refine ae (aa ?_)
   exact aw (Sub.cons rfl (zz7 3 rfl))
  ·intro hF3
   refine zz6 hF3 (zz6 hF3 (zz0 (aF rfl hF3 rfl) ?_))
   refine ae (aa ?_)
   exact aw (Sub.cons rfl (zz7 3 rfl))
  refine zz0 (ad rfl) (ae (aa ?_))
  refine ak rfl ?_ ?_ <;> intro h4 <;> try simp only [bs] at h4
  ·refine af (ab (zz0 (ac rfl) (zz0 (eE rfl rfl) ?_)))
   refine zz0 (bE (vs := [(2, _), (6, _)]) rfl rfl (lT _ _)) ?_
   refine bw eC rfl rfl aL ?_
   refine zz0 (ad rfl) (ae (aa (ao (bf (an (iJ ?_))))))
   refine ei fN rfl rfl bo aL (fun w' hw => ?_)
   exact ⟨by clear hw; unfold rowP; (repeat (first | rw [if_pos (by first | assumption | omega)] | rw [if_neg (by first | assumption | omega | (intro hq; simp_all))])) <;> rfl, hw.below (Bg.le.refl _)⟩
  ·refine af (ab (zz0 (ac rfl) (zz0 (pF (n := 16) rfl rfl) ?_)))
   refine zz0 (ac rfl) ?_
   apply bF
   ·exact (rfl : _ = (3, 39, 42))
   ·exact rfl
   ·intro hT5; have hT5' := hT5
    try simp only [bs] at hT5'
    refine zz5 hT5 (ac rfl) (zz5 hT5 (mw (n := 24) rfl rfl) ?_)
    refine zz0 (aE rfl hT5 rfl) ?_
    refine ae (aa ?_)
    exact aw (Sub.cons rfl (zz7 3 rfl))
   ·intro hF5
    refine zz6 hF5 (zz6 hF5 (zz0 (aF rfl hF5 rfl) ?_))
    refine ae (aa ?_)
    exact aw (Sub.cons rfl (zz7 3 rfl))
   refine zz0 (ad rfl) (ae (aa ?_))
   refine ak rfl ?_ ?_ <;> intro h6 <;> try simp only [bs] at h6
   ·refine af (ab (zz0 (ac rfl) (zz0 (bE (vs := [(2, _), (6, _)]) rfl rfl (lT _ _)) ?_)))
    refine bw eC rfl rfl aL ?_
    refine zz0 (ad rfl) (ae (aa (ao (bf (an (iJ ?_))))))
    refine ei fN rfl rfl bo aL (fun w' hw => ?_)
    exact ⟨by clear hw; unfold rowP; (repeat (first | rw [if_pos (by first | assumption | omega)] | rw [if_neg (by first | assumption | omega | (intro hq; simp_all))])) <;> rfl, hw.below (Bg.le.refl _)⟩
   ·refine af (ab (zz0 (ac rfl) (zz0 (dl rfl rfl) (zz0 (ac rfl) ?_))))
    apply bF
    ·exact (rfl : _ = (3, 48, 51))
    ·exact rfl
    ·intro hT7; have hT7' := hT7
     try simp only [bs] at hT7'
     refine zz5 hT7 (ac rfl) (zz5 hT7 (dO rfl rfl) (zz0 (aE rfl hT7 rfl) ?_))
     refine ae (aa ?_)
     exact aw (Sub.cons rfl (zz7 3 rfl))
    ·intro hF7
     refine zz6 hF7 (zz6 hF7 (zz0 (aF rfl hF7 rfl) ?_))
     refine ae (aa ?_)
     exact aw (Sub.cons rfl (zz7 3 rfl))
    refine zz0 (ac rfl) ?_
    apply bF
    ·exact (rfl : _ = (3, 52, 55))
    ·exact rfl
    ·intro hT8; have hT8' := hT8
     try simp only [bs] at hT8'
     refine zz5 hT8 (ac rfl) (zz5 hT8 (dO rfl rfl) (zz0 (aE rfl hT8 rfl) ?_))
     refine ae (aa ?_)
     exact aw (Sub.cons rfl (zz7 3 rfl))
    ·intro hF8
     refine zz6 hF8 (zz6 hF8 (zz0 (aF rfl hF8 rfl) ?_))
     refine ae (aa ?_)
     exact aw (Sub.cons rfl (zz7 3 rfl))
    refine zz0 (ad rfl) (ae (aa ?_))
    refine ak rfl ?_ ?_ <;> intro h9 <;> try simp only [bs] at h9
    ·refine af (ab (zz0 (ac rfl) (zz0 (dq rfl rfl) ?_)))
     refine zz0 (ac rfl) (zz0 (eE rfl rfl) ?_)
     refine zz0 (bE (vs := [(2, _), (3, _)]) rfl rfl (oC _ _)) ?_
     refine bw eC rfl rfl aL ?_
     refine zz0 (ad rfl) (ae (aa (ao (bf (an (iJ ?_))))))
     refine ei fN rfl rfl bo aL (fun w' hw => ?_)
     exact ⟨by clear hw; unfold rowP; (repeat (first | rw [if_pos (by first | assumption | omega)] | rw [if_neg (by first | assumption | omega | (intro hq; simp_all))])) <;> rfl, hw.below (Bg.le.refl _)⟩
    ·refine af (ab (zz0 (ac rfl) (zz0 (aN rfl rfl) (zz0 (ac rfl) ?_))))
     apply bF
     ·exact (rfl : _ = (3, 64, 67))
     ·exact rfl
     ·intro hT10; have hT10' := hT10
      try simp only [bs] at hT10'
      refine zz5 hT10 (ac rfl) (zz5 hT10 (dO rfl rfl) (zz0 (aE rfl hT10 rfl) ?_))
      refine ae (aa ?_)
      exact aw (Sub.cons rfl (zz7 3 rfl))
     ·intro hF10
      refine zz6 hF10 (zz6 hF10 (zz0 (aF rfl hF10 rfl) ?_))
      refine ae (aa ?_)
      exact aw (Sub.cons rfl (zz7 3 rfl))
     refine zz0 (ad rfl) (ae (aa ?_))
     refine ak rfl ?_ ?_ <;> intro h11 <;> try simp only [bs] at h11
     ·refine af (ab (zz0 (ac rfl) (zz0 (bE (vs := [(2, _), (3, _), (5, _)]) rfl rfl (kM _ _ _)) ?_)))
      refine bw eC rfl rfl aL ?_
      refine zz0 (ad rfl) (ae (aa (ao (bf (an (iJ ?_))))))
      refine ei fN rfl rfl bo aL (fun w' hw => ?_)
      exact ⟨by clear hw; unfold rowP; (repeat (first | rw [if_pos (by first | assumption | omega)] | rw [if_neg (by first | assumption | omega | (intro hq; simp_all))])) <;> rfl, hw.below (Bg.le.refl _)⟩
     ·refine af (ab (zz0 (ac rfl) (zz0 (aN rfl rfl) (zz0 (ac rfl) ?_))))
      apply bF
      ·exact (rfl : _ = (3, 73, 76))
      ·exact rfl
      ·intro hT12; have hT12' := hT12
       try simp only [bs] at hT12'
       refine zz5 hT12 (ac rfl) (zz5 hT12 (dO rfl rfl) (zz0 (aE rfl hT12 rfl) ?_))
       refine ae (aa ?_)
       exact aw (Sub.cons rfl (zz7 3 rfl))
      ·intro hF12
       refine zz6 hF12 (zz6 hF12 (zz0 (aF rfl hF12 rfl) ?_))
       refine ae (aa ?_)
       exact aw (Sub.cons rfl (zz7 3 rfl))
      refine zz0 (ad rfl) (ae (aa ?_))
      refine ak rfl ?_ ?_ <;> intro h13 <;> try simp only [bs] at h13
      ·refine af (ab (zz0 (ac rfl) (zz0 (bE (vs := [(2, _), (3, _), (5, _)]) rfl rfl (kM _ _ _)) ?_)))
       refine bw eC rfl rfl aL ?_
       refine zz0 (ad rfl) (ae (aa (ao (bf (an (iJ ?_))))))
       refine ei fN rfl rfl bo aL (fun w' hw => ?_)
       exact ⟨by clear hw; unfold rowP; (repeat (first | rw [if_pos (by first | assumption | omega)] | rw [if_neg (by first | assumption | omega | (intro hq; simp_all))])) <;> rfl, hw.below (Bg.le.refl _)⟩
      ·refine af (ab (zz0 (ac rfl) (zz0 (aN rfl rfl) (zz0 (ac rfl) ?_))))
       apply bF
       ·exact (rfl : _ = (3, 82, 85))
       ·exact rfl
       ·intro hT14; have hT14' := hT14
        try simp only [bs] at hT14'
        refine zz5 hT14 (ac rfl) (zz5 hT14 (dO rfl rfl) (zz0 (aE rfl hT14 rfl) ?_))
        refine ae (aa ?_)
        exact aw (Sub.cons rfl (zz7 3 rfl))
       ·intro hF14
        refine zz6 hF14 (zz6 hF14 (zz0 (aF rfl hF14 rfl) ?_))
        refine ae (aa ?_)
        exact aw (Sub.cons rfl (zz7 3 rfl))
       refine zz0 (ad rfl) (ae (aa ?_))
       refine ak rfl ?_ ?_ <;> intro h15 <;> try simp only [bs] at h15
       ·refine af (ab (zz0 (ac rfl) (zz0 (bE (vs := [(2, _), (5, _)]) rfl rfl (oz _ _)) ?_)))
        refine bw eC rfl rfl aL ?_
        refine zz0 (ad rfl) (ae (aa (ao (bf (an (iJ ?_))))))
        refine ei fN rfl rfl bo aL (fun w' hw => ?_)
        exact ⟨by clear hw; unfold rowP; (repeat (first | rw [if_pos (by first | assumption | omega)] | rw [if_neg (by first | assumption | omega | (intro hq; simp_all))])) <;> rfl, hw.below (Bg.le.refl _)⟩
       ·refine ax (a9 (aa (af (ab (zz0 (bE (vs := [(2, _), (4, _)]) rfl rfl (eN _ _)) ?_)))))
        refine zz0 (bE (vs := [(2, _), (4, _)]) rfl rfl (eN _ _)) ?_
        refine zz0 (bE (vs := [(2, _), (4, _)]) rfl rfl (eN _ _)) ?_
        refine zz0 (bE (vs := [(2, _), (4, _)]) rfl rfl (eN _ _)) ?_
        refine zz0 (bE (vs := [(2, _), (4, _)]) rfl rfl (eN _ _)) ?_
        refine zz0 (bE (vs := [(2, _), (4, _)]) rfl rfl (eN _ _)) ?_
        refine zz0 (bE (vs := [(2, _), (4, _)]) rfl rfl (eN _ _)) ?_
        refine zz0 (bE (vs := [(2, _), (4, _)]) rfl rfl (eN _ _)) ?_
        refine zz0 (bE (vs := [(2, _)]) rfl rfl (fr _)) ?_
        refine zz0 (bE (vs := [(2, _)]) rfl rfl (fr _)) ?_
        refine zz0 (bE (vs := [(2, _)]) rfl rfl (fr _)) ?_
        refine zz0 (bE (vs := [(2, _)]) rfl rfl (fr _)) ?_
        refine zz0 (bE (vs := [(2, _)]) rfl rfl (fr _)) ?_
        refine zz0 (bE (vs := [(2, _)]) rfl rfl (fr _)) ?_
        refine zz0 (bE (vs := [(2, _)]) rfl rfl (fr _)) ?_
        refine zz0 (bE (vs := [(0, _), (1, _), (2, _), (3, _), (4, _), (5, _), (6, _), (7, _), (8, _), (9, _), (10, _), (11, _), (12, _), (13, _), (14, _)]) rfl rfl (gp _ _ _ _ _ _ _ _ _ _ _ _ _ _ _ _ _ _ _ _ _ _ _ _ _ _ _ _ _ _ _ _ _ _ _ _ _ _ _ _ _ _ _ _ _ _ _ _ _ _ _ _ _ _ _ _ _ _ _ _ _ _ _ _ _ _ _ _ _ _ _ _ _ _ _ _ _ _ _ _ _ _ _ _ _ _ _ _ _ _ _ _ _ _ _ _ _ _ _ _ _ _ _ _ _ _ _ _ _ _ _ _ _ _ _ _ _ _ _ _ _ _ _ _ _ _ _ _ _ _ _ _ _ _ _)) ?_
        refine c9 Tryz.zeroValue161 rfl (fun b16 => ?_)
        refine j0 rfl rfl Tryz.sizeOf161 ?_
        refine ae (aa (af (ab ?_)))
        refine c9 du rfl (fun b17 => ?_)
        refine ae (aa (af (ab (zz0 (ad rfl) (ae (aa (af (zM ?_))))))))
        refine aa (af (af (ab (zz0 (bK rfl Tryz.isAgg161 Tryz.sizeOf161) ?_))))
        refine zz0 (ac rfl) (ae (aa (aQ ?_)))
        refine cp (ι := Nat) (fun k => k ≤ 15 ∧ mK c (ry.drop k) = mK c ry) (fun _ => _) (fun k => [cellE b17 (eC.enc bU) 114, cellE b1 (eC.enc bU) 114]) (fun k => [(105, .int .i64 (k : Nat))]) (fun k => 15 - k) 0 ⟨by omega, rfl⟩ (.cons (by first | rfl | exact am rfl (by omega) | exact am rfl (by simp) | exact aS rfl (by simp)) Front.nil) (by repeat' constructor) rfl (fun k hi m hm => ?_)
        replace hi : k ≤ 15 ∧ mK c (ry.drop k) = mK c ry := hi
        replace hm : m = 15 - k := hm
        change Tr _ _ [cellE b17 (eC.enc bU) 114, cellE b1 (eC.enc bU) 114] ([(105, .int .i64 (k : Nat))] ++ _) _
        obtain ⟨hk1, hk2⟩ := hi
        refine af (ab (zz0 (cE rfl rfl) (ae (aa (af ?_)))))
        refine ak rfl ?_ ?_ <;> intro h18 <;> try simp only [bs] at h18
        ·refine ax (aa (af (aQ (af (ab (zz0 (xW (E := eC) ry rfl rfl Tryz.underlying161 aL bo rfl rfl (by omega)) ?_))))))
         refine c9 du rfl (fun b19 => ?_)
         refine bw eC rfl rfl aL ?_
         refine ae (aa (af (ab (zz0 (bK rfl bo aL) ?_))))
         refine zz0 (aB rfl Tryz.call79 (fun w hw => np (ry.getD k default) w (rows_ok k (by omega)))) ?_
         refine zz0 (ac rfl) (zz0 (ay rfl rfl) (zz0 (ay rfl rfl) (zz0 (ay rfl rfl) (zz0 (ad rfl) (zz0 (ad rfl) (zz0 (ad rfl) (ae (aa (af (ab (zz0 (ac rfl) (zz0 (ac rfl) ?_))))))))))))
         apply bF
         ·exact (rfl : _ = (4, 115, 119))
         ·exact rfl
         ·intro hT20; have hT20' := hT20
          try simp only [bs] at hT20'
          refine zz5 hT20 (ac rfl) (zz5 hT20 (ac rfl) (zz5 hT20 (Be rfl rfl) ?_))
          refine zz0 (aE rfl hT20 rfl) ?_
          refine ae (aa ?_)
          exact aw (Sub.cons rfl (zz7 4 rfl))
         ·intro hF20
          refine zz6 hF20 (zz6 hF20 (zz6 hF20 (zz0 (aF rfl hF20 rfl) ?_)))
          refine ae (aa ?_)
          exact aw (Sub.cons rfl (zz7 4 rfl))
         refine ae (aa ?_)
         refine ak rfl ?_ ?_ <;> intro h21 <;> try simp only [bs] at h21
         ·refine af (ab (zz0 (bK rfl bo aL) ?_))
          refine bw eC rfl rfl aL ?_
          refine zz0 (ad rfl) (ae (aa (cm (ko rfl ?_))))
          refine aV (aV (bT (aa (af (ab (zz0 (bK rfl bo aL) ?_))))))
          refine zz0 (ac rfl) (bw eC rfl rfl aL ?_)
          refine zz0 (ad rfl) (ae (aa (ao (iJ ?_))))
          refine ei fN rfl rfl bo aL (fun w' hw => ?_)
          exact ⟨by clear hw; unfold rowP; (repeat (rw [if_neg (by first | assumption | omega | (intro hq; simp_all))])); rw [← hk2, drop_cons (k := k) (by show k < 15; omega), mK, if_pos (by assumption)]; rfl, hw.below (Bg.le.refl _)⟩
         ·refine ax (a9 (aa (ab (zz0 (dq rfl rfl) ?_))))
          refine zz0 (ac rfl) (ae (aa ?_))
          apply bP (k + 1)
          ·exact rfl
          ·exact (.cons (by first | rfl | exact am rfl (by omega) | exact am rfl (by simp) | exact aS rfl (by simp)) Front.nil)
          ·exact bQ 18 rfl
          ·exact (by repeat' constructor)
          ·exact ⟨by omega, by rw [← hk2, drop_cons (k := k) (by show k < 15; omega), mK, if_neg (by intro hq; simp_all)]⟩
          ·exact (by (try dsimp only); omega)
        ·refine cm (aV (aV (bT (aa (af (ab (zz0 (bK rfl bo aL) ?_)))))))
         refine zz0 (ac rfl) (bw eC rfl rfl aL ?_)
         refine zz0 (ad rfl) (ae (aa (ao (iJ ?_))))
         refine ei fN rfl rfl bo aL (fun w' hw => ?_)
         exact ⟨by clear hw; unfold rowP; (repeat (rw [if_neg (by first | assumption | omega | (intro hq; simp_all))])); obtain rfl : k = 15 := (by omega); rw [← hk2]; rfl, hw.below (Bg.le.refl _)⟩
theorem vp (b : List UInt8) (V : Value) (addr : UInt32) (w : World) (hV : Sl (hp w) dH b V) :
  Calls Tryz.prog 60 #[V, .int .u32 addr.toNat] w (fun e w' => e = .returned (.tuple #[.agg (eC.enc (gv b addr).1).toArray, .int .i64 (gv b addr).2]) ∧ Ext w w') := by
 have hV' : Sl (Bg.of w).blk dH b V := hV
 have hlen := hV.len_le
 refine enter Tryz.func60 rfl Tryz.ntmps60 rfl ?_
 refine af (ab ?_)
 refine c9 du rfl (fun b1 => ?_)
 refine zz0 (ad rfl) (ae (aa (af (af (ab (zz0 (ac rfl) (zz0 (gI rfl aG) ?_)))))))
 refine zz0 (aN rfl rfl) (ae (aa ?_))
 refine ak rfl ?_ ?_ <;> intro h2 <;> try simp only [bs] at h2
 ·refine af (ab (zz0 (bE (vs := []) rfl rfl (gr)) ?_))
  refine bw eC rfl rfl aL ?_
  refine zz0 (ad rfl) (ae (aa (ao (an ?_))))
  refine ei jj rfl rfl bo aL (fun w' hw => ?_)
  exact ⟨by rw [zt (by omega)]; rfl, hw.below (Bg.le.refl _)⟩
 ·refine ax (aa (af (ab (zz0 (ac rfl) (zz0 (gP rfl rfl aG bN) ?_)))))
  refine zz0 (gK rfl cw) ?_
  refine zz0 (aB rfl Tryz.call78 (fun w hw => Al (b.getD 0 default) w)) ?_
  refine zz0 (ac rfl) (zz0 (ay rfl rfl) (zz0 (ay rfl rfl) ?_))
  refine c9 du rfl (fun b3 => ?_)
  refine bw eC rfl rfl aL ?_
  refine zz0 (ad rfl) (ae (aa (af (af (ab (zz0 (ac rfl) (zz0 (cj rfl) (ae (aa ?_)))))))))
  refine ak rfl ?_ ?_ <;> intro h4 <;> try simp only [bs] at h4
  ·refine af (ab (zz0 (bE (vs := []) rfl rfl (gr)) ?_))
   refine bw eC rfl rfl aL ?_
   refine zz0 (ad rfl) (ae (aa (ao (an ?_))))
   refine ei jj rfl rfl bo aL (fun w' hw => ?_)
   exact ⟨by rw [zr (by omega) (by assumption)]; rfl, hw.below (Bg.le.refl _)⟩
  ·refine ax (aa (af (ab (zz0 (bK rfl bo aL) ?_))))
   refine zz0 (aB rfl Tryz.call79 (fun w hw => np (rowP (b.getD 0 default)).1 w (yu _))) ?_
   refine zz0 (ac rfl) (zz0 (ay rfl rfl) (zz0 (ay rfl rfl) (zz0 (ay rfl rfl) (zz0 (ad rfl) (zz0 (ad rfl) (zz0 (ad rfl) (ae (aa (af (ab (zz0 (ac rfl) (zz0 (aB rfl Tryz.call80 (fun w hw => size_any (bD (rowP (b.getD 0 default)).1).2.1 w (ll _))) ?_))))))))))))
   refine zz0 (ad rfl) (ae (aa (af (af (ab (zz0 (ac rfl) (zz0 (gI rfl aG) ?_)))))))
   refine zz0 (ac rfl) (zz0 (cE rfl rfl) (ae (aa ?_)))
   refine ak rfl ?_ ?_ <;> intro h5 <;> try simp only [bs] at h5
   ·refine af (ab (zz0 (bE (vs := []) rfl rfl (gr)) ?_))
    refine bw eC rfl rfl aL ?_
    refine zz0 (ad rfl) (ae (aa (ao (an ?_))))
    refine ei jj rfl rfl bo aL (fun w' hw => ?_)
    exact ⟨by rw [zq (by omega) (by assumption) (by assumption)]; rfl, hw.below (Bg.le.refl _)⟩
   ·refine ax (aa (af ?_))
    have hsz := pO (bD (rowP (b.getD 0 default)).1).2.1
    refine ab (zz0 (ac rfl) (zz0 (ac rfl) (zz0 (zz3 (off := 0) (ft := 23) rfl ag rfl ah) ?_)))
    refine zz1 (cs' := [_, _, _, _, _, _, _, _, _]) rfl rfl ah rfl ?_
    refine zz0 (zz3 (off := 8) (ft := 3) rfl ag rfl aj) ?_
    refine zz1 (cs' := [_, _, _, _, _, _, _, _, _]) rfl rfl aj rfl ?_
    refine ae (aa (af (ab (zz0 (ac rfl) (zz0 (ac rfl) (zz0 (eY rfl aO aT) (zz0 (cL rfl rfl) ?_)))))))
    refine zz0 (ad rfl) (ae (aa ?_))
    refine eJ (ι := Ins) (fun k1 => k1 = nb (bD (rowP (b.getD 0 default)).1).2.1 { (rowP (b.getD 0 default)).1 with addr := addr, size := cz (bD (rowP (b.getD 0 default)).1).2.1 } b) (fun _ => Bg.of w) (fun k1 => [cellE b3 (eC.enc k1) 114, cellE b1 (eC.enc bU) 114]) (fun k1 => []) ?_ (fun k1 hi => ?_)
    ·skip
     refine af (ab (zz0 (ac rfl) (ae (aa (aQ (af (af (ab (zz0 (aN rfl rfl) (zz0 (ad rfl) (ae (aa ?_))))))))))))
     apply cI
     ·exact rfl
     ·intro hO6
      try simp only [bs] at hO6
      refine af (ab (zz0 (aN rfl rfl) (zz0 (ad rfl) (ae (aa ?_)))))
      apply cI
      ·exact rfl
      ·intro hO7
       try simp only [bs] at hO7
       refine ab (zz0 (aN rfl rfl) (zz0 (ad rfl) (ae (aa ?_))))
       exact cX rfl (bQ 2 rfl)
      refine aa ?_
      exact cX rfl (bQ 3 rfl)
     refine aa ?_
     refine ak rfl ?_ ?_ <;> intro h8 <;> try simp only [bs] at h8
     ·refine ab (zz0 (ac rfl) (zz0 (gP rfl rfl aG bN) ?_))
      refine zz0 (gK rfl cw) ?_
      refine zz0 (db rfl bu aO) (zz0 (zz3 (off := 6) (ft := 3) rfl ag rfl aj) ?_)
      refine zz1 (cs' := [_, _, _, _, _, _, _, _, _]) rfl rfl aj rfl ?_
      refine ae (a9 (aa ?_))
      apply aZ { { (rowP (b.getD 0 default)).1 with addr := addr, size := cz (bD (rowP (b.getD 0 default)).1).2.1 } with a := (b.getD 1 default).toNat }
      ·exact rfl
      ·exact Front.nil
      ·exact bQ 9 rfl
      ·exact (by repeat' constructor)
      ·exact (by unfold nb; (repeat (first | rw [if_pos (by omega)] | rw [if_neg (by omega)])) <;> rfl)
     ·refine af (af (ab (zz0 (aN rfl rfl) (zz0 (ad rfl) (ae (aa ?_))))))
      apply cI
      ·exact rfl
      ·intro hO9
       try simp only [bs] at hO9
       refine ab (zz0 (aN rfl rfl) (zz0 (ad rfl) (ae (aa ?_))))
       exact cX rfl (bQ 2 rfl)
      refine aa ?_
      refine ak rfl ?_ ?_ <;> intro h10 <;> try simp only [bs] at h10
      ·refine bI ([cellE b1 (eC.enc bU) 114]) 14 rfl aU ?_
       refine zz2 0 rfl (ac rfl) ?_
       refine zz2 1 rfl (gP rfl rfl aG bN) ?_
       refine zz2 2 rfl (gK rfl cw) ?_
       refine zz2 3 rfl (rW rfl rfl) ?_
       refine zz2 4 rfl (db rfl bu aO) ?_
       refine zz2 5 rfl (ac rfl) ?_
       refine zz2 6 rfl (gP rfl rfl aG bN) ?_
       refine zz2 7 rfl (gK rfl cw) ?_
       refine zz2 8 rfl (qL rfl rfl) ?_
       refine zz2 9 rfl (db rfl bu aO) ?_
       refine zz2 10 rfl (zz3 (off := 6) (ft := 3) rfl ag rfl aj) ?_
       refine zz9 [11] (fun iq hq => ?_)
       obtain rfl := List.mem_singleton.1 hq
       refine aX rfl ?_
       refine zz1 (cs' := [_, _, _, _, _, _, _, _, _]) rfl rfl aj rfl ?_
       refine bB ?_
       refine zz2 12 rfl (zz3 (off := 7) (ft := 3) rfl ag rfl aj) ?_
       refine zz9 [13] (fun iq hq => ?_)
       obtain rfl := List.mem_singleton.1 hq
       refine aX rfl ?_
       refine zz1 (cs' := [_, _, _, _, _, _, _, _, _]) rfl rfl aj rfl ?_
       refine bB ?_
       refine eh ?_
       refine a9 (aa ?_)
       apply aZ { { (rowP (b.getD 0 default)).1 with addr := addr, size := cz (bD (rowP (b.getD 0 default)).1).2.1 } with a := (b.getD 1 default / 16).toNat, b := (b.getD 1 default % 16).toNat }
       ·exact rfl
       ·exact Front.nil
       ·exact bQ 19 rfl
       ·exact (by repeat' constructor)
       ·exact (by unfold nb; (repeat (first | rw [if_pos (by omega)] | rw [if_neg (by omega)])) <;> rfl)
      ·refine ax (a9 (aa ?_))
       apply aZ { (rowP (b.getD 0 default)).1 with addr := addr, size := cz (bD (rowP (b.getD 0 default)).1).2.1 }
       ·exact rfl
       ·exact Front.nil
       ·exact bQ 7 rfl
       ·exact (by repeat' constructor)
       ·exact (by unfold nb; (repeat (first | rw [if_pos (by omega)] | rw [if_neg (by omega)])) <;> rfl)
    ·skip
     replace hi : k1 = nb (bD (rowP (b.getD 0 default)).1).2.1 { (rowP (b.getD 0 default)).1 with addr := addr, size := cz (bD (rowP (b.getD 0 default)).1).2.1 } b := hi
     change Tr _ _ [cellE b3 (eC.enc k1) 114, cellE b1 (eC.enc bU) 114] ([] ++ _) _
     refine eJ (ι := Ins) (fun k2 => k2 = lj (bD (rowP (b.getD 0 default)).1).2.1 (nb (bD (rowP (b.getD 0 default)).1).2.1 { (rowP (b.getD 0 default)).1 with addr := addr, size := cz (bD (rowP (b.getD 0 default)).1).2.1 } b) b (addr + u32 (cz (bD (rowP (b.getD 0 default)).1).2.1))) (fun _ => Bg.of w) (fun k2 => [cellE b3 (eC.enc k2) 114, cellE b1 (eC.enc bU) 114]) (fun k2 => []) ?_ (fun k2 hi => ?_)
     ·skip
      refine af (ab (zz0 (ac rfl) (ae (aa (aQ (af (af (ab (zz0 (aN rfl rfl) (zz0 (ad rfl) (ae (aa ?_))))))))))))
      apply cI
      ·exact rfl
      ·intro hO11
       try simp only [bs] at hO11
       refine ab (zz0 (aN rfl rfl) (zz0 (ad rfl) (ae (aa ?_))))
       exact cX rfl (bQ 2 rfl)
      refine aa ?_
      refine ak rfl ?_ ?_ <;> intro h12 <;> try simp only [bs] at h12
      ·refine ab (zz0 (ac rfl) (zz0 (gP rfl rfl aG bN) ?_))
       refine zz0 (gK rfl cw) ?_
       refine zz0 (fq rfl bu aT) (zz0 (aB rfl Tryz.call81 (fun w hw => ns (b.getD 2 default).toUInt32 1 w)) ?_)
       refine zz0 (zz3 (off := 1) (ft := 23) rfl ag rfl ah) ?_
       refine zz1 (cs' := [_, _, _, _, _, _, _, _, _]) rfl rfl ah rfl ?_
       refine ae (a9 (aa ?_))
       rw [ut]
       apply aZ { k1 with imm := gz (b.getD 2 default) }
       ·exact rfl
       ·exact Front.nil
       ·exact bQ 10 rfl
       ·exact (by repeat' constructor)
       ·exact (by subst hi; unfold lj; (repeat (first | rw [if_pos (by omega)] | rw [if_neg (by omega)])) <;> rfl)
      ·refine af (ab (zz0 (aN rfl rfl) (zz0 (ad rfl) (ae (aa ?_)))))
       refine ak rfl ?_ ?_ <;> intro h13 <;> try simp only [bs] at h13
       ·refine ab (zz0 (ac rfl) (zz0 (aB rfl Tryz.call82 (fun w hw => get_any b V 2 4 w (hw.slF hV) (by omega))) ?_))
        refine zz0 (ac rfl) (zz0 (ay rfl rfl) (zz0 (ay rfl rfl) (zz0 (zz3 (off := 1) (ft := 23) rfl ag rfl ah) ?_)))
        refine zz1 (cs' := [_, _, _, _, _, _, _, _, _]) rfl rfl ah rfl ?_
        refine ae (a9 (aa ?_))
        rw [show (oq b 2 4).1 = fk b 2 from ul (k := 2) (by omega)]
        apply aZ { k1 with imm := fk b 2 }
        ·exact rfl
        ·exact Front.nil
        ·exact bQ 12 rfl
        ·exact (by repeat' constructor)
        ·exact (by subst hi; unfold lj; (repeat (first | rw [if_pos (by omega)] | rw [if_neg (by omega)])) <;> rfl)
       ·refine af (ab (zz0 (aN rfl rfl) (zz0 (ad rfl) (ae (aa ?_)))))
        refine ak rfl ?_ ?_ <;> intro h14 <;> try simp only [bs] at h14
        ·refine ab (zz0 (ac rfl) (zz0 (ac rfl) (zz0 (gP rfl rfl aG bN) ?_)))
         refine zz0 (gK rfl cw) ?_
         refine zz0 (fq rfl bu aT) (zz0 (aB rfl Tryz.call81 (fun w hw => ns (b.getD 1 default).toUInt32 1 w)) ?_)
         refine zz0 (cL rfl rfl) ?_
         refine zz0 (zz3 (off := 1) (ft := 23) rfl ag rfl ah) ?_
         refine zz1 (cs' := [_, _, _, _, _, _, _, _, _]) rfl rfl ah rfl ?_
         refine ae (a9 (aa ?_))
         rw [ut]
         apply aZ { k1 with imm := (addr + u32 (cz (bD (rowP (b.getD 0 default)).1).2.1)) + gz (b.getD 1 default) }
         ·exact rfl
         ·exact Front.nil
         ·exact bQ 16 rfl
         ·exact (by repeat' constructor)
         ·exact (by subst hi; unfold lj; (repeat (first | rw [if_pos (by omega)] | rw [if_neg (by omega)])) <;> rfl)
        ·refine af (ab (zz0 (aN rfl rfl) (zz0 (ad rfl) (ae (aa ?_)))))
         refine ak rfl ?_ ?_ <;> intro h15 <;> try simp only [bs] at h15
         ·refine af (ab (zz0 (ac rfl) (zz0 (aB rfl Tryz.call82 (fun w hw => get_any b V 1 4 w (hw.slF hV) (by omega))) ?_)))
          refine zz0 (ac rfl) (zz0 (ay rfl rfl) (zz0 (ay rfl rfl) (zz0 (ad rfl) (zz0 (ad rfl) (ae (aa (ab (zz0 (ac rfl) (zz0 (ac rfl) (zz0 (cL rfl rfl) ?_))))))))))
          refine zz0 (zz3 (off := 1) (ft := 23) rfl ag rfl ah) ?_
          refine zz1 (cs' := [_, _, _, _, _, _, _, _, _]) rfl rfl ah rfl ?_
          refine ae (a9 (aa ?_))
          rw [show (oq b 1 4).1 = fk b 1 from ul (k := 1) (by omega)]
          apply aZ { k1 with imm := (addr + u32 (cz (bD (rowP (b.getD 0 default)).1).2.1)) + fk b 1 }
          ·exact rfl
          ·exact Front.nil
          ·exact bQ 21 rfl
          ·exact (by repeat' constructor)
          ·exact (by subst hi; unfold lj; (repeat (first | rw [if_pos (by omega)] | rw [if_neg (by omega)])) <;> rfl)
         ·refine ax (a9 (aa ?_))
          apply aZ k1
          ·exact rfl
          ·exact Front.nil
          ·exact bQ 10 rfl
          ·exact (by repeat' constructor)
          ·exact (by subst hi; unfold lj; (repeat (first | rw [if_pos (by omega)] | rw [if_neg (by omega)])) <;> rfl)
     ·skip
      replace hi : k2 = lj (bD (rowP (b.getD 0 default)).1).2.1 (nb (bD (rowP (b.getD 0 default)).1).2.1 { (rowP (b.getD 0 default)).1 with addr := addr, size := cz (bD (rowP (b.getD 0 default)).1).2.1 } b) b (addr + u32 (cz (bD (rowP (b.getD 0 default)).1).2.1)) := hi
      change Tr _ _ [cellE b3 (eC.enc k2) 114, cellE b1 (eC.enc bU) 114] ([] ++ _) _
      refine af (af (ab (zz0 (zz3 (off := 6) (ft := 3) rfl ag rfl aj) ?_)))
      refine zz0 (aM rfl aD) ?_
      refine zz0 (aB rfl mZ (fun w hw => j1 k2.a w)) ?_
      refine zz0 (cj rfl) (zz0 (ac rfl) ?_)
      apply cZ
      ·exact (rfl : _ = (5, 118, 123))
      ·exact rfl
      ·intro hF16; have hF16' := hF16
       try simp only [bs] at hF16'
       refine zz5 hF16 (zz3 (off := 7) (ft := 3) rfl ag rfl aj) ?_
       refine zz5 hF16 (aM rfl aD) ?_
       refine zz5 hF16 (aB rfl mZ (fun w hw => j1 k2.b w)) ?_
       refine zz5 hF16 (cj rfl) (zz0 (aF rfl hF16 rfl) ?_)
       refine ae (aa ?_)
       exact aw (Sub.cons rfl (zz7 5 rfl))
      ·intro hT16
       refine zz6 hT16 (zz6 hT16 (zz6 hT16 (zz6 hT16 (zz0 (aE rfl hT16 rfl) ?_))))
       refine ae (aa ?_)
       exact aw (Sub.cons rfl (zz7 5 rfl))
      refine ae (aa ?_)
      refine ak rfl ?_ ?_ <;> intro h17 <;> try simp only [bs] at h17
      ·refine af (ab (zz0 (bE (vs := []) rfl rfl (gr)) ?_))
       refine bw eC rfl rfl aL ?_
       refine zz0 (ad rfl) (ae (aa (ao (an ?_))))
       refine ei jj rfl rfl bo aL (fun w' hw => ?_)
       exact ⟨by rw [vr (by omega) (by assumption) (by assumption) hi, if_pos (by assumption)]; rfl, hw.below (Bg.le.refl _)⟩
      ·refine ax (aa (af (ab (zz0 (bK rfl bo aL) ?_))))
       refine bw eC rfl rfl aL ?_
       refine zz0 (ad rfl) (ae (aa (ao ?_)))
       refine ei jj rfl rfl bo aL (fun w' hw => ?_)
       exact ⟨by rw [vr (by omega) (by assumption) (by assumption) hi, if_neg (by simp_all)]; rfl, hw.below (Bg.le.refl _)⟩
end Go.Proofs.YtpeaodkfbjenpaaGreat
namespace Go.HL
open Go Go.RowKit Go.Sort
section
variable {α : Type} {E : Enc α} {f : α → Value}
end
def Bg.less (w : World) (V : Value) : Bg := ⟨fun b => if some b = V.ownBlock then none else w.heap[b]?, 0, w.drawn, w.os, w.tape, w.output, 0, Nat.le_refl _⟩
theorem HpOK.startOwn {α : Type} {V : Value} {T : TypeId} {E : Enc α} {l : List α} {w : World} (h : (rowE V T E l).holds w) : HpOK (Bg.less w V) [rowE V T E l] w := by
  have hlt : ∀ b, V.ownBlock = some b → b < w.heap.size := fun b hV => by
    have h' : RowOK V T E l (V.ownBlock.bind (w.heap[·]?)) := h
    rcases h' with ⟨rfl, _⟩ | ⟨g, cap, cur, rfl, ho, _⟩
    · simp [Value.ownBlock] at hV
    · simp only [Value.ownBlock, Option.some.injEq] at hV
      subst hV
      exact (Array.getElem?_eq_some_iff.1 ho).1
  have hb : cg [rowE V T E l] = V.ownBlock.toList := by
    cases hV : V.ownBlock <;> simp [cg, rowE, hV]
  refine ⟨rfl, rfl, rfl, Nat.zero_le _, Nat.le_refl _, fun b o e => ?_, fun e he => ?_, ?_, fun b hm => ?_, fun b hm => ?_⟩
  · simp only [Bg.less] at e
    split at e
    · cases e
    · exact e
  · obtain rfl := List.mem_singleton.1 he; exact h
  · rw [hb]; cases V.ownBlock <;> simp
  · rw [hb] at hm; exact hlt b (by simpa using hm)
  · rw [hb] at hm
    have hm' : V.ownBlock = some b := by simpa using hm
    exact ⟨by simp only [Bg.less]; rw [if_pos hm'.symm], Nat.zero_le _⟩
theorem HpOK.mutOwn {α : Type} {V V' : Value} {T : TypeId} {E : Enc α} {l : List α} {L : List Ent} {w w' : World} (h : HpOK (Bg.less w V) L w') (hm : rowE V' T E l ∈ L) (hb : V'.ownBlock = V.ownBlock) : Mut w w' V ∧ (rowE V' T E l).holds w' := by
  have key : ∀ k, k < w.heap.size → some k ≠ V.ownBlock → w'.heap[k]? = w.heap[k]? := fun k hk hne => by
    have e : (Bg.less w V).blk k = some w.heap[k] := by simp only [Bg.less]; rw [if_neg hne]; simp [hk]
    rw [h.bg k _ e]; simp [hk]
  refine ⟨⟨h.os, h.tape, h.out, ?_, h.dr, key⟩, h.ent _ hm⟩
  rcases Nat.eq_zero_or_pos w.heap.size with h0 | h0
  · omega
  · have hk : w.heap.size - 1 < w.heap.size := by omega
    by_cases hne : some (w.heap.size - 1) = V.ownBlock
    · have : w.heap.size - 1 ∈ cg L := List.mem_filterMap.2 ⟨_, hm, by show V'.ownBlock = _; rw [hb, ← hne]⟩
      have := h.lt _ this
      omega
    · have h1 := key _ hk hne
      rw [Array.getElem?_eq_getElem hk] at h1
      have := (Array.getElem?_eq_some_iff.1 h1).1
      omega
theorem ij {α : Type} {T : TypeId} {E : Enc α} {l : List α} {V : Value} {P : Program} {f : FuncId} {fn : Func} {c : Code} {N : Nat} {args : List Value} {w : World} {R : Ending → World → Prop} (hr : (rowE V T E l).holds w) (hf : P.funcs[f]? = some fn) (hb : fn.body = some c) (hN : fn.ntmps = N) (hle : Nat.ble args.length N = true)
    (h : Tr N (Bg.less w V) [rowE V T E l] (j6 0 args) (c.wp P (bodyPost P fn R))) (hN0 : Nat.ble N mk0 = true := by rfl) : Calls P f args.toArray w R :=
  calls_of_wp hf hb (h _ w (mc (by rw [hN]; simp) hle hN0) (HpOK.startOwn hr))
section
variable {P : Program} {ops : Array Oper} {Q : Exit → Act → World → Prop} {N : Nat} {F : Bg} {L : List Ent} {M : Fr} {ty : TypeId} {pos : String} {after : Array Edge} {rest : List Oper} {d : Nat}
end
end Go.HL
namespace Go.HL
open Go Go.RowKit
section
variable {P : Program} {ops : Array Oper} {Q : Exit → Act → World → Prop} {N : Nat} {F : Bg} {L : List Ent} {M : Fr} {ty : TypeId} {pos : String} {after : Array Edge} {rest : List Oper} {d : Nat} {dst : Option Tmp} {g : Option (Nat × Bool)}
open Go.Lib (strCells strCells_length run_append_room_string run_append_grow_string)
def bts (s : ByteArray) : List UInt8 := s.data.toList
theorem nQ (s : ByteArray) : (bts s).length = s.size := by rw [bts, Array.length_toList]; rfl
theorem oW {α : Type} {E : Enc α} {l : List α} {T : TypeId} {f : FuncId} {xs : List Operand} {vs : List Value} {ts : Array TypeId} (φ : Value → Value) (hx : kN M xs = some vs)
    (he : ∀ (args : Array Value) (w : World), (callFunc f args).run P w = .ok (.enter f args) w)
    (hc : ∀ w, HpOK F L w → Calls P f vs.toArray w fun e w' => ∃ V, e = .returned (φ V) ∧ Ext w w' ∧ NewRow w w' T E l V) (hd : Nat.ble (d + 1) N = true)
    (K : ∀ V, Tr N F (rowE V T E l :: L) ((d, φ V) :: M) (wpList P ops Q rest)) :
    Tr N F L M (wpList P ops Q (⟨some d, .call { callee := .value (.func f), args := xs.toArray, argTypes := ts }, ty, pos, after, none⟩ :: rest)) := by
  intro a w ha hw
  refine wpList_plain rfl fun K' hK => ?_
  have hr : (execOp a.eval ⟨some d, .call { callee := .value (.func f), args := xs.toArray, argTypes := ts }, ty, pos, after, none⟩).run P w = .ok (.enter f vs.toArray) w := by
    have := ha.evals hx
    simp [execOp, resolve, Deferred.ofValue, Act.eval, invoke, he, this]
  unfold Oper.wp
  rw [hr]
  refine (hc w hw).mono fun e w' ⟨V, h1, h2, h3⟩ => ?_
  subst h1
  exact hK _ _ (K V _ _ (ha.put (Nat.le_of_ble_eq_true hd)) (hw.newRow h2 h3))
end
end Go.HL
namespace Go.HL
open Go Go.RowKit
theorem HpOK.freeze {F : Bg} {L : List Ent} {w : World} (h : HpOK F L w) : ∃ F', F.le F' ∧ HpOK F' L w ∧ ∀ b o, b ∉ cg L → w.heap[b]? = some o → F'.blk b = some o := by
  refine ⟨{ F with blk := fun b => if b ∈ cg L then none else w.heap[b]? }, ⟨fun b o e => ?_, Nat.le_refl _, rfl, rfl, rfl, rfl, rfl⟩, ⟨h.os, h.tape, h.out, h.n, h.dr, fun b o e => ?_, h.ent, h.nodup, h.lt, fun b hb => ⟨?_, (h.sep b hb).2⟩⟩, fun b o hb e => ?_⟩
  · have hn : b ∉ cg L := fun hb => by rw [(h.sep b hb).1] at e; cases e
    show (if b ∈ cg L then none else w.heap[b]?) = some o
    rw [if_neg hn]; exact h.bg b o e
  · have e' : (if b ∈ cg L then none else w.heap[b]?) = some o := e
    split at e'
    · cases e'
    · exact e'
  · show (if b ∈ cg L then none else w.heap[b]?) = none
    rw [if_pos hb]
  · show (if b ∈ cg L then none else w.heap[b]?) = some o
    rw [if_neg hb]; exact e
def qi (w w' : World) : Hp := fun b => if b < w.heap.size then none else w'.heap[b]?
theorem NewRow.sl {α : Type} {w w' : World} {T : TypeId} {E : Enc α} {l : List α} {V : Value} (h : NewRow w w' T E l V) : Sl (qi w w') E l V := by
  obtain ⟨h1, h2⟩ := h
  rcases h1 with ⟨rfl, rfl⟩ | ⟨g, cap, cur, rfl, ho, k1, k2, k3, k4⟩
  · exact Sl.nil _ _
  · refine RowOK.sl (T := T) (.inr ⟨g, cap, cur, rfl, ?_, k1, k2, k3, k4⟩)
    have hg := h2 g rfl
    show qi w w' g = _
    unfold qi; rw [if_neg (by omega)]; exact ho
section
variable {P : Program} {ops : Array Oper} {Q : Exit → Act → World → Prop} {N : Nat} {F : Bg} {L : List Ent} {M : Fr} {dst : Option Tmp} {ty : TypeId} {pos : String} {after : Array Edge} {g : Option (Nat × Bool)} {rest : List Oper} {d : Nat}
theorem m7 {α : Type} {V : Value} {T : TypeId} {E : Enc α} {l : List α} {L1 : List Ent} {X : Act → World → Prop} (hV : Del (rowE V T E l) L L1) (K : ∀ F', F.le F' → Sl F'.blk E l V → Tr N F' L1 M X) : Tr N F L M X := by
  intro a w ha hw
  have hf := hw.front hV
  have h1 : HpOK F L1 w := hf.mem (List.sublist_cons_self _ _)
  obtain ⟨F', e1, e2, e3⟩ := h1.freeze
  refine K F' e1 ?_ a w ha e2
  have hr : RowOK V T E l (V.ownBlock.bind (w.heap[·]?)) := hf.ent _ (.head _)
  rcases hr with ⟨rfl, rfl⟩ | ⟨gb, cap, cur, rfl, ho, k1, k2, k3, k4⟩
  · exact Sl.nil _ _
  · refine RowOK.sl (T := T) (.inr ⟨gb, cap, cur, rfl, ?_, k1, k2, k3, k4⟩)
    refine e3 gb _ ?_ ho
    have := hf.nodup
    rw [kj (b := gb) rfl, List.nodup_cons] at this
    exact this.1
structure NewEnts (w w' : World) (Ls : List Ent) : Prop where
  ent : ∀ e ∈ Ls, e.holds w'
  nodup : (cg Ls).Nodup
  lt : ∀ b ∈ cg Ls, b < w'.heap.size
  ge : ∀ b ∈ cg Ls, w.heap.size ≤ b
theorem HpOK.newEnts {w w' : World} {Ls : List Ent} (h : HpOK F L w) (hx : Ext w w') (hn : NewEnts w w' Ls) : HpOK F (Ls ++ L) w' := by
  have hg := h.grow hx
  have hbl : cg (Ls ++ L) = cg Ls ++ cg L := List.filterMap_append
  refine ⟨hg.os, hg.tape, hg.out, hg.n, hg.dr, hg.bg, fun e he => ?_, ?_, fun b hb => ?_, fun b hb => ?_⟩
  · rcases List.mem_append.1 he with he | he
    · exact hn.ent e he
    · exact hg.ent e he
  · rw [hbl, List.nodup_append]
    exact ⟨hn.nodup, hg.nodup, fun a ha b hb => by have := hn.ge a ha; have := h.lt b hb; omega⟩
  · rw [hbl] at hb
    rcases List.mem_append.1 hb with hb | hb
    · exact hn.lt b hb
    · exact hg.lt b hb
  · rw [hbl] at hb
    rcases List.mem_append.1 hb with hb | hb
    · have hge := hn.ge b hb
      refine ⟨?_, Nat.le_trans (Nat.le_trans F.lo_le h.n) hge⟩
      cases hF : F.blk b with
      | none => rfl
      | some o =>
        have := h.bg _ _ hF
        have := (Array.getElem?_eq_some_iff.1 this).1
        omega
    · exact hg.sep b hb
theorem HpOK.ents {w w' : World} {Ls : List Ent} (h : HpOK F L w') (hF : (Bg.of w).le F) (hs : Pick L Ls) : NewEnts w w' Ls := by
  have h' := hs.heap h
  refine ⟨h'.ent, h'.nodup, h'.lt, fun b hb => ?_⟩
  have := (h'.sep b hb).2
  rw [hF.lo] at this; exact this
theorem e7 {ι : Type} (φ : ι → Value) (Ls : ι → List Ent) {ok : ι → Prop} {f : FuncId} {xs : List Operand} {vs : List Value} {ts : Array TypeId} (hx : kN M xs = some vs)
    (he : ∀ (args : Array Value) (w : World), (callFunc f args).run P w = .ok (.enter f args) w)
    (hc : ∀ w, HpOK F L w → Calls P f vs.toArray w fun e w' => ∃ i, e = .returned (φ i) ∧ Ext w w' ∧ NewEnts w w' (Ls i) ∧ ok i) (hd : Nat.ble (d + 1) N = true)
    (K : ∀ i, ok i → Tr N F (Ls i ++ L) ((d, φ i) :: M) (wpList P ops Q rest)) :
    Tr N F L M (wpList P ops Q (⟨some d, .call { callee := .value (.func f), args := xs.toArray, argTypes := ts }, ty, pos, after, none⟩ :: rest)) := by
  intro a w ha hw
  refine wpList_plain rfl fun K' hK => ?_
  have hr : (execOp a.eval ⟨some d, .call { callee := .value (.func f), args := xs.toArray, argTypes := ts }, ty, pos, after, none⟩).run P w = .ok (.enter f vs.toArray) w := by
    have := ha.evals hx
    simp [execOp, resolve, Deferred.ofValue, Act.eval, invoke, he, this]
  unfold Oper.wp
  rw [hr]
  refine (hc w hw).mono fun e w' ⟨i, h1, h2, h3, h4⟩ => ?_
  subst h1
  exact hK _ _ (K i h4 _ _ (ha.put (Nat.le_of_ble_eq_true hd)) (hw.newEnts h2 h3))
theorem oo (z : Array Value) (k : Nat) (hz : z.size = 1) : (madeCells z k).toList = List.replicate k (z[0]!) := by
  apply List.ext_getElem?
  intro j
  by_cases hj : j < k
  · simp [madeCells, hj, hz, Nat.mod_one]
  · simp [madeCells, hj]
theorem kA {α : Type} (E : Enc α) (x : α) (v : Value) (hv : E.enc x = [v]) : ∀ n, (List.replicate n x).flatMap E.enc = List.replicate n v
  | 0 => rfl
  | n + 1 => by simp only [List.replicate_succ, List.flatMap_cons, hv, kA E x v hv n]; rfl
theorem wG {α : Type} {E : Enc α} (x : α) {x0 y : Operand} {t e : TypeId} {z v : Value} {n bytes : Nat} {k k' : IntKind} (hx : opv M x0 = some (.int k n)) (hy : opv M y = some (.int k' n)) (ht : P.underlying t = some (.slice e))
    (hinfo : (P.info? e).map (fun i => (i.zero, i.size, i.bytes)) = some (some z, 1, bytes)) (hz : z.cells = #[v]) (hE : E.enc x = [v]) (hk : E.k = 1) (hb : n ≤ 16777216 ∧ n * bytes ≤ 281474976710656) (hd : Nat.ble (d + 1) N = true)
    (K : ∀ b, Tr N F (rowE (.slice (some ⟨b, 0, none⟩) (List.replicate n x).length n) e E (List.replicate n x) :: L) ((d, .slice (some ⟨b, 0, none⟩) (List.replicate n x).length n) :: M) (wpList P ops Q rest)) :
    Tr N F L M (wpList P ops Q (⟨some d, .makeSlice t x0 y, ty, pos, after, none⟩ :: rest)) := by
  intro a w ha hw
  refine wpList_plain rfl fun K' hK => ?_
  obtain ⟨i, hi, hz', hsize, hby⟩ := oR hinfo
  have hb2 : (i.bytes : Int) * (n : Int) ≤ 281474976710656 := by
    rw [hby, ← Int.natCast_mul, Nat.mul_comm]
    have := hb.2; omega
  have hr := run_make (P := P) w t e i z ht hi hz' k k' (n : Int) (n : Int) (by omega) (by omega) hb2 (by omega)
  have he : (execOp a.eval ⟨some d, .makeSlice t x0 y, ty, pos, after, none⟩).run P w = .ok (.value (.slice (some ⟨w.heap.size, 0, none⟩) n n)) (w.alloc (.cells (madeCells z.cells (n * i.size)) e)) := by
    simp only [execOp, ha.eval hx, ha.eval hy, Sem.run_bind, hr, Result.andThen_ok, Sem.run_pure, Int.toNat_natCast]
  unfold Oper.wp
  rw [he]
  have hl : (List.replicate n x).length = n := List.length_replicate
  have := K w.heap.size
  rw [hl] at this
  refine hK _ _ (this _ _ (ha.put (Nat.le_of_ble_eq_true hd)) ?_)
  refine hw.alloc _ _ ?_
  have hm : (madeCells z.cells (n * i.size)).toList = List.replicate n v := by
    rw [hz, oo _ _ rfl, hsize, Nat.mul_one]; rfl
  have hs : (madeCells z.cells (n * i.size)).size = n := by rw [← Array.length_toList, hm]; simp
  have := kh (E := E) (l := List.replicate n x) (T := e) (b := w.heap.size) (cap := n) (cells := madeCells z.cells (n * i.size)) (by rw [hl]; exact Nat.le_refl _) (by unfold maxLen; omega) (by rw [hk, hs]; omega)
    (by rw [hm, hl, hk, Nat.mul_one, kA E x v hE, List.take_of_length_le (by simp)])
  rwa [hl] at this
open Go.Lib in
theorem uE {x : Operand} {s t e : TypeId} {u : TypeDesc} {b : ByteArray} (hx : opv M x = some (.string b)) (hs : P.underlying s = some u) (ht : P.underlying t = some (.slice e)) (he : P.underlying e = some (.int .u8)) (hb : b.size ≤ maxLen) (hd : Nat.ble (d + 1) N = true)
    (K : ∀ V F', F.le F' → Sl F'.blk dH (bts b) V → Tr N F' L ((d, V) :: M) (wpList P ops Q rest)) : Tr N F L M (wpList P ops Q (⟨some d, .convert s t x, ty, pos, after, none⟩ :: rest)) := by
  intro a w ha hw
  refine wpList_plain rfl fun K' hK => ?_
  have hr := Go.Lib.run_convert_string_bytes (P := P) w s t e b hs ht he
  have hge := grownCap_ge w b.size 0 e
  have hx2 : Ext w (bytesWorld w e b) := ⟨⟨rfl, rfl, rfl, by rw [bytesWorld_size]; omega, fun k hk => bytesWorld_at_old w e b k hk⟩, by simp [bytesWorld, World.freeze]⟩
  obtain ⟨F', e1, e2, e3⟩ := (hw.grow hx2).freeze
  have hnew := e3 w.heap.size _ (fun hm => by have := hw.lt _ hm; omega) (bytesWorld_at_new w e b)
  unfold Oper.wp
  simp only [execOp, ha.eval hx, Sem.run_bind, hr, Result.andThen_ok, Sem.run_pure, Oper.upon]
  refine hK _ _ (K _ F' e1 ?_ _ _ (ha.put (Nat.le_of_ble_eq_true hd)) e2)
  have hl := nQ b
  refine ⟨⟨some ⟨w.heap.size, 0, none⟩, grownCap w b.size 0 e, by rw [hl], by rw [hl]; exact hge, grownCap_le_maxLen w _ 0 e hb, fun _ => rfl⟩, fun i x hi => ⟨_, _, _, hnew, fun j v hj => ?_⟩⟩
  have hi' : i < b.size := by rw [← hl]; exact (List.getElem?_eq_some_iff.1 hi).1
  have hj' : j = 0 := by have := (List.getElem?_eq_some_iff.1 hj).1; simp [dH] at this; exact this
  subst hj'
  simp only [dH, List.getElem?_cons_zero, Option.some.injEq] at hj
  subst hj
  have hi2 : b.data[i]? = some x := by
    rw [← Array.getElem?_toList]; exact hi
  have hi3 : i < b.data.size := hi'
  simp [bytesCells, ofs, dH, Array.getElem?_append, hi2, hi3]
  intro h; omega
def CellsIn (h : Hp) (b : Nat) (vs : List Value) : Prop := ∃ (cs : Array Value) (T : TypeId) (fz : Nat × Nat), h b = some (.cells cs T fz) ∧ ∀ (j : Nat) (v : Value), vs[j]? = some v → cs[j]? = some v
theorem CellsIn.mono {h k : Hp} {b : Nat} {vs : List Value} (c : CellsIn h b vs) (hk : Hp.le h k) : CellsIn k b vs := let ⟨cs, T, fz, h1, h2⟩ := c; ⟨cs, T, fz, hk _ _ h1, h2⟩
theorem cellE.cellsIn {b : Nat} {cs : List Value} {T : TypeId} {w w' : World} (h : (cellE b cs T).holds w) (hx : Ext w w') : CellsIn (HL.hp w') b cs :=
  CellsIn.mono (h := HL.hp w) ⟨cs.toArray, T, (0, 0), h, fun j v hv => by simpa using hv⟩ hx.hp
theorem CellsIn.cell {h : Hp} {b : Nat} {vs : List Value} (c : CellsIn h b vs) {j : Nat} {v : Value} (hv : vs[j]? = some v) : Cell h b j v := let ⟨cs, T, fz, h1, h2⟩ := c; ⟨cs, T, fz, h1, h2 j v hv⟩
theorem rX {x : Operand} {t : TypeId} {b k : Nat} {vs : List Value} (hx : opv M x = some (.pointer (some ⟨b, 0, none⟩))) (hc : CellsIn F.blk b vs) (hagg : ∀ w, (isAgg t).run P w = .ok true w) (hz : ∀ w, (sizeOf t).run P w = .ok k w) (hl : vs.length = k) :
    QS P N F L M ⟨dst, .load t x, ty, pos, after, g⟩ (.agg vs.toArray) :=
  nW hx hagg hz hl fun w hw j v hj => by
    rw [Nat.zero_add]; exact ((hc.mono hw.bg).cell hj).at
theorem fQ {x : Operand} {t : TypeId} {b o : Nat} {v : Value} {vs : List Value} (hx : opv M x = some (.pointer (some ⟨b, o, none⟩))) (hc : CellsIn F.blk b vs) (hagg : ∀ w, (isAgg t).run P w = .ok false w) (hv : vs[o]? = some v) :
    QS P N F L M ⟨dst, .load t x, ty, pos, after, g⟩ v :=
  mQ hx hagg fun w hw => ((hc.mono hw.bg).cell hv).at
theorem Pick.refl : ∀ L : List Ent, Pick L L
  | [] => .nil _
  | e :: L => .cons (.here _) (Pick.refl L)
theorem k7 {α : Type} {V : Value} {T : TypeId} {E : Enc α} {l : List α} {X : Act → World → Prop} (hm : rowE V T E l ∈ L) (K : ∀ a c, V = .slice a l.length c → Tr N F L M X) : Tr N F L M X := by
  intro a w ha hw
  have hr : RowOK V T E l (V.ownBlock.bind (w.heap[·]?)) := hw.ent _ hm
  rcases hr with ⟨h1, h2⟩ | ⟨gb, cap, cur, h1, _⟩
  · exact K none 0 (by rw [h1, h2]; rfl) a w ha hw
  · exact K _ _ h1 a w ha hw
theorem jm {α : Type} {V : Value} {T : TypeId} {E : Enc α} {l : List α} {X : Act → World → Prop} (K : ∀ a c, V = .slice a l.length c → Tr N F L M X) (hm : rowE V T E l ∈ L := by repeat constructor) : Tr N F L M X := k7 hm K
end
end Go.HL
namespace Go.HL
open Go
structure SecV where
  name : ByteArray
  addr : UInt32
  data : List UInt8
  dp : Option Addr
  dc : Nat
  wr : Bool
  ex : Bool
  deriving Inhabited
def cf : Enc SecV := ⟨5, fun s => [.string s.name, .int .u32 s.addr.toNat, .slice s.dp s.data.length s.dc, .bool s.wr, .bool s.ex], fun _ => rfl,
  fun x v h => by simp at h; rcases h with h | h | h | h | h <;> subst h <;> rfl⟩
structure Sec where
  name : ByteArray
  addr : UInt32
  data : List UInt8
  wr : Bool
  ex : Bool
  deriving DecidableEq, Inhabited
def SecV.pl (s : SecV) : Sec := ⟨s.name, s.addr, s.data, s.wr, s.ex⟩
def DataIn (h : Hp) (l : List SecV) : Prop := ∀ s ∈ l, Sl h dH s.data (.slice s.dp s.data.length s.dc)
theorem DataIn.mono {h h' : Hp} {l : List SecV} (d : DataIn h l) (hh : Hp.le h h') : DataIn h' l := fun s hs => (d s hs).mono hh
def SecB (l : List SecV) : Prop := l.length ≤ 1000 ∧ ∀ s ∈ l, s.data.length ≤ 200000
theorem SecB.at {l : List SecV} (h : SecB l) {k : Nat} (hk : k < l.length) : (l.getD k default).data.length ≤ 200000 := h.2 _ (fU hk)
def AA (c : UInt8) : Bool := decide (c < 97) || decide (122 < c)
def Ag (c : UInt8) : Bool := decide (c < 65) || decide (90 < c)
def AY (c : UInt8) : Bool := decide (c < 48) || decide (57 < c)
def m9 (c : UInt8) : Bool := (((AA c && Ag c) && AY c) && decide (c ≠ 95)) && decide (c ≠ 46)
def qk (s : ByteArray) : Bool := !(bts s).any m9 && (decide (1 ≤ (s.size : Int)) && decide ((s.size : Int) ≤ 32))
def jW (s : SecV) : Int := min ((s.addr.toNat : Int) + s.data.length) 4294967295
def eO (s : SecV) : Rng := ⟨s.addr, u32 (jW s)⟩
theorem zk (s : SecV) : 0 ≤ jW s ∧ jW s ≤ 4294967295 := by unfold jW; omega
theorem Ah {n : Int} (h : 0 ≤ n ∧ n ≤ 4294967295) : ((u32 n).toNat : Int) = n := by
  unfold u32; rw [UInt32.toNat_ofNat']; omega
theorem mB (s : SecV) : ((eO s).hi.toNat : Int) = jW s := Ah (zk s)
def inS (a : UInt32) (s : SecV) : Bool := inR a (eO s)
theorem jG {a : UInt32} {s : SecV} : inS a s = true ↔ s.addr.toNat ≤ a.toNat ∧ (a.toNat : Int) < jW s := by
  have h := mB s
  simp only [inS, inR, Bool.and_eq_true, decide_eq_true_eq, UInt32.le_iff_toNat_le, UInt32.lt_iff_toNat_lt]
  have : (eO s).lo = s.addr := rfl
  rw [this]; omega
def cV (l : List SecV) (a : UInt32) : Int := eP (inS a) 0 l
theorem mb {α : Type} (p : α → Bool) : ∀ (l : List α) (k : Nat), -1 ≤ eP p k l ∧ eP p k l < (k : Int) + l.length
  | [], k => by simp [eP]; omega
  | x :: l, k => by
    unfold eP
    split
    · simp; omega
    · have := mb p l (k + 1); simp; omega
theorem g8 {l : List SecV} {a : UInt32} : -1 ≤ cV l a ∧ cV l a < l.length := by
  have := mb (inS a) l 0; unfold cV; omega
theorem sD {α : Type} [Inhabited α] (p : α → Bool) : ∀ (l : List α) (k : Nat), 0 ≤ eP p k l → (k : Int) ≤ eP p k l ∧ p (l.getD (eP p k l - k).toNat default) = true
  | [], k, h => by simp [eP] at h
  | x :: l, k, h => by
    unfold eP at h ⊢
    split
    · rename_i hx; simp [hx]
    · rename_i hx
      rw [if_neg hx] at h
      obtain ⟨h1, h2⟩ := sD p l (k + 1) h
      refine ⟨by omega, ?_⟩
      rw [show (eP p (k + 1) l - (k : Int)).toNat = (eP p (k + 1) l - ((k + 1 : Nat) : Int)).toNat + 1 by omega, List.getD_cons_succ]
      exact h2
theorem mJ {l : List SecV} {a : UInt32} (h : 0 ≤ cV l a) : inS a (l.getD (cV l a).toNat default) = true := by
  have := (sD (inS a) l 0 h).2
  rwa [Int.natCast_zero, Int.sub_zero] at this
def qc (l : List SecV) (a : UInt32) (n : Int) : Int × Int × Int :=
  if cV l a < 0 then (0, 0, 11) else if jW (l.getD (cV l a).toNat default) - a.toNat < n then (0, 0, 11) else (cV l a, (a.toNat : Int) - (l.getD (cV l a).toNat default).addr.toNat, 0)
theorem yK {l : List SecV} {a : UInt32} {n : Int} (h : cV l a < 0) : qc l a n = (0, 0, 11) := by unfold qc; rw [if_pos h]
theorem yJ {l : List SecV} {a : UInt32} {n : Int} (h : ¬ cV l a < 0) (h2 : jW (l.getD (cV l a).toNat default) - a.toNat < n) : qc l a n = (0, 0, 11) := by unfold qc; rw [if_neg h, if_pos h2]
theorem Bt {l : List SecV} {a : UInt32} (h : ¬ cV l a < 0) : (((eO (l.getD (cV l a).toNat default)).hi - a).toNat : Int) = jW (l.getD (cV l a).toNat default) - a.toNat := by
  have h1 := jG.1 (mJ (l := l) (a := a) (by omega))
  have h2 := mB (l.getD (cV l a).toNat default)
  rw [UInt32.toNat_sub_of_le]
  · omega
  · rw [UInt32.le_iff_toNat_le]; omega
theorem yI {l : List SecV} {a : UInt32} (h : ¬ cV l a < 0) : ((a - (l.getD (cV l a).toNat default).addr).toNat : Int) = (a.toNat : Int) - (l.getD (cV l a).toNat default).addr.toNat := by
  have h1 := jG.1 (mJ (l := l) (a := a) (by omega))
  rw [UInt32.toNat_sub_of_le]
  · omega
  · rw [UInt32.le_iff_toNat_le]; omega
def kW (a b : Rng) : Bool := decide ((if a.lo < b.lo then b.lo else a.lo) < (if b.hi < a.hi then b.hi else a.hi))
def pM : Rng := ⟨978944, 983040⟩
def iz (l : List SecV) (i : Nat) : Int :=
  let s := l.getD i default
  if (s.data.length : Int) > 65536 then 6 else if qk s.name = false then 3 else if (l.take i).any (fun x => decide (x.name = s.name)) = true then 8
  else if (s.addr.toNat : Int) + s.data.length > 4294967295 ∨ kW (eO s) pM = true then 7 else 0
def dQ (f : Nat → Int) : Nat → Nat → Int
  | _, 0 => 0
  | i, n + 1 => if f i ≠ 0 then f i else dQ f (i + 1) n
def je (l : List SecV) (i : Nat) : Bool := (l.take i).any fun x => kW (eO x) (eO (l.getD i default))
def dL (l : List SecV) : Int :=
  if (l.length : Int) > 16 then 6 else if dQ (iz l) 0 l.length ≠ 0 then dQ (iz l) 0 l.length
  else dQ (fun i => if je l i = true then 10 else 0) 0 l.length
theorem any_take_succ {α : Type} [Inhabited α] {p : α → Bool} {l : List α} {k : Nat} (h : k < l.length) : (l.take (k + 1)).any p = ((l.take k).any p || p (l.getD k default)) := by
  rw [hZ h, List.any_append]; simp
theorem sM {α : Type} {p : α → Bool} {l : List α} {k : Nat} (h : l.length ≤ k) : (l.take k).any p = l.any p := by rw [List.take_of_length_le h]
theorem rD {s : ByteArray} {k : Nat} (hk : k < s.size) (hb : m9 ((bts s).getD k default) = true) : qk s = false := by
  have h1 : (bts s).any m9 = true := List.any_eq_true.2 ⟨_, fU (by rw [nQ]; exact hk), hb⟩
  unfold qk; rw [h1]; rfl
theorem rC {s : ByteArray} {k : Nat} (hk : s.size ≤ k) (h : ((bts s).take k).any m9 = false) : qk s = (decide (1 ≤ (s.size : Int)) && decide ((s.size : Int) ≤ 32)) := by
  rw [sM (by rw [nQ]; exact hk)] at h
  unfold qk; rw [h]; rfl
theorem qu {f : Nat → Int} {k n : Nat} (hn : 0 < n) (h : f k ≠ 0) : dQ f k n = f k := by
  obtain ⟨m, rfl⟩ : ∃ m, n = m + 1 := ⟨n - 1, by omega⟩
  unfold dQ; rw [if_pos h]
theorem kY {f : Nat → Int} {k n : Nat} (hk : k < n) (h : f k = 0) : dQ f (k + 1) (n - (k + 1)) = dQ f k (n - k) := by
  obtain ⟨m, hm⟩ : ∃ m, n - k = m + 1 := ⟨n - k - 1, by omega⟩
  rw [hm, show n - (k + 1) = m by omega]
  conv => rhs; unfold dQ
  rw [if_neg (by simp [h])]
theorem sJ {l : List SecV} (h : (16 : Int) < l.length) : dL l = 6 := by unfold dL; rw [if_pos h]
theorem nP {l : List SecV} {k : Nat} {v : Int} (hl : ¬ (16 : Int) < l.length) (hk : k < l.length) (hi : dQ (iz l) k (l.length - k) = dQ (iz l) 0 l.length) (h : iz l k = v) (hv : v ≠ 0) : dL l = v := by
  rw [qu (by omega) (by rw [h]; exact hv), h] at hi
  unfold dL; rw [if_neg hl, ← hi, if_pos hv]
theorem wC {l : List SecV} {k : Nat} (hl : ¬ (16 : Int) < l.length) (h1 : dQ (iz l) 0 l.length = 0) (hk : k < l.length) (hi : dQ (fun i => if je l i = true then 10 else 0) k (l.length - k) = dQ (fun i => if je l i = true then 10 else 0) 0 l.length) (h : je l k = true) : dL l = 10 := by
  rw [qu (by omega) (by rw [if_pos h]; decide), if_pos h] at hi
  unfold dL; rw [if_neg hl, if_neg (by simp [h1]), ← hi]
theorem wB {l : List SecV} (hl : ¬ (16 : Int) < l.length) (h1 : dQ (iz l) 0 l.length = 0) (h2 : dQ (fun i => if je l i = true then 10 else 0) 0 l.length = 0) : dL l = 0 := by
  unfold dL; rw [if_neg hl, if_neg (by simp [h1]), h2]
theorem kX {f : Nat → Int} {k n : Nat} (hk : n ≤ k) : dQ f k (n - k) = 0 := by rw [show n - k = 0 by omega]; rfl
def vu (U : TypeId) (s : SecV) : Ent := rowE (.slice s.dp s.data.length s.dc) U dH s.data
def kR (T U : TypeId) (V : Value) (l : List SecV) : List Ent := rowE V T cf l :: l.reverse.map (vu U)
theorem tn {T U : TypeId} {V : Value} {l : List SecV} {s : SecV} (h : s ∈ l) : vu U s ∈ kR T U V l := .tail _ (List.mem_map.2 ⟨s, List.mem_reverse.2 h, rfl⟩)
end Go.HL
namespace Go.Proofs.YtpeaodkfbjenpaaGreat
open Go Go.HL Go.RowKit
theorem name_any (s : ByteArray) (w : World) (hs : s.size ≤ 9223372036854775807) :
  Calls Tryz.prog 68 #[.string s] w (fun e w' => e = .returned (.bool (qk s)) ∧ Ext w w') := by
 have hbl := nQ s
 refine enter Tryz.func68 rfl Tryz.ntmps68 rfl ?_
 refine af (ab (zz0 (ad rfl) (ae (aa (af (af (ab (zz0 (ac rfl) ?_))))))))
 refine uE rfl eS aG bu (by unfold maxLen; omega) rfl (fun V1 F1 hF1 hV1 => ?_)
 refine zz0 (gI rfl aG) ?_
 refine zz0 (ac rfl) (ae (aa (aQ ?_)))
 refine cp (ι := Nat) (fun k => k ≤ s.size ∧ ((bts s).take k).any m9 = false) (fun _ => _) (fun k => []) (fun k => [(8, .int .i64 (k : Nat))]) (fun k => s.size - k) 0 ⟨Nat.zero_le _, rfl⟩ (.cons (by first | rfl | exact am rfl (by omega) | exact am rfl (by simp) | exact aS rfl (by simp)) Front.nil) (by repeat' constructor) rfl (fun k hi m hm => ?_)
 replace hi : k ≤ s.size ∧ ((bts s).take k).any m9 = false := hi
 replace hm : m = s.size - k := hm
 change Tr _ _ [] ([(8, .int .i64 (k : Nat))] ++ _) _
 obtain ⟨hk1, hk2⟩ := hi
 refine af (ab (zz0 (cE rfl rfl) (ae (aa (af ?_)))))
 refine ak rfl ?_ ?_ <;> intro h2 <;> try simp only [bs] at h2
 ·refine ax (aa (af (aQ (af (ab (zz0 (i9 rfl rfl aG bN) ?_))))))
  refine zz0 (gK rfl cw) ?_
  refine zz0 (ad rfl) (ae (aa (af (ab (zz0 (ac rfl) (zz0 (mw (n := 97) rfl rfl) ?_))))))
  refine zz0 (ac rfl) ?_
  apply cZ
  ·exact (rfl : _ = (3, 14, 17))
  ·exact rfl
  ·intro hF3; have hF3' := hF3
   try simp only [bs] at hF3'
   refine zz5 hF3 (ac rfl) (zz5 hF3 (pE (n := 122) rfl rfl) ?_)
   refine zz0 (aF rfl hF3 rfl) ?_
   refine ae (aa ?_)
   exact aw (Sub.cons rfl (zz7 3 rfl))
  ·intro hT3
   refine zz6 hT3 (zz6 hT3 (zz0 (aE rfl hT3 rfl) ?_))
   refine ae (aa ?_)
   exact aw (Sub.cons rfl (zz7 3 rfl))
  refine zz0 (ac rfl) ?_
  apply bF
  ·exact (rfl : _ = (7, 18, 25))
  ·exact rfl
  ·intro hT4; have hT4' := hT4
   try simp only [bs] at hT4'
   refine zz5 hT4 (ac rfl) (zz5 hT4 (mw (n := 65) rfl rfl) ?_)
   refine zz5 hT4 (ac rfl) ?_
   apply cZ
   ·exact (rfl : _ = (3, 21, 24))
   ·exact rfl
   ·intro hF5; have hF5' := hF5
    try simp only [bs] at hF5'
    refine zz5 hF5 (ac rfl) (zz5 hF5 (pE (n := 90) rfl rfl) ?_)
    refine zz5 hT4 (aF rfl hF5 rfl) ?_
    refine ae (aa ?_)
    exact aw (Sub.cons rfl (zz7 3 rfl))
   ·intro hT5
    refine zz6 hT5 (zz6 hT5 (zz5 hT4 (aE rfl hT5 rfl) ?_))
    refine ae (aa ?_)
    exact aw (Sub.cons rfl (zz7 3 rfl))
   refine zz0 (aE rfl hT4 rfl) ?_
   refine ae (aa ?_)
   exact aw (Sub.cons rfl (zz7 5 rfl))
  ·intro hF4
   refine zz6 hF4 (zz6 hF4 (zz6 hF4 (dC rfl rfl rfl ?_)))
   refine dC rfl rfl rfl ?_
   refine zz6 hF4 (zz0 (aF rfl hF4 rfl) ?_)
   refine ae (aa ?_)
   exact aw (Sub.cons rfl (zz7 7 rfl))
  refine zz0 (ac rfl) ?_
  apply bF
  ·exact (rfl : _ = (7, 26, 33))
  ·exact rfl
  ·intro hT6; have hT6' := hT6
   try simp only [bs] at hT6'
   refine zz5 hT6 (ac rfl) (zz5 hT6 (mw (n := 48) rfl rfl) ?_)
   refine zz5 hT6 (ac rfl) ?_
   apply cZ
   ·exact (rfl : _ = (3, 29, 32))
   ·exact rfl
   ·intro hF7; have hF7' := hF7
    try simp only [bs] at hF7'
    refine zz5 hF7 (ac rfl) (zz5 hF7 (pE (n := 57) rfl rfl) ?_)
    refine zz5 hT6 (aF rfl hF7 rfl) ?_
    refine ae (aa ?_)
    exact aw (Sub.cons rfl (zz7 3 rfl))
   ·intro hT7
    refine zz6 hT7 (zz6 hT7 (zz5 hT6 (aE rfl hT7 rfl) ?_))
    refine ae (aa ?_)
    exact aw (Sub.cons rfl (zz7 3 rfl))
   refine zz0 (aE rfl hT6 rfl) ?_
   refine ae (aa ?_)
   exact aw (Sub.cons rfl (zz7 5 rfl))
  ·intro hF6
   refine zz6 hF6 (zz6 hF6 (zz6 hF6 (dC rfl rfl rfl ?_)))
   refine dC rfl rfl rfl ?_
   refine zz6 hF6 (zz0 (aF rfl hF6 rfl) ?_)
   refine ae (aa ?_)
   exact aw (Sub.cons rfl (zz7 7 rfl))
  refine zz0 (ac rfl) ?_
  apply bF
  ·exact (rfl : _ = (3, 34, 37))
  ·exact rfl
  ·intro hT8; have hT8' := hT8
   try simp only [bs] at hT8'
   refine zz5 hT8 (ac rfl) (zz5 hT8 (mt (n := 95) rfl rfl) ?_)
   refine zz0 (aE rfl hT8 rfl) ?_
   refine ae (aa ?_)
   exact aw (Sub.cons rfl (zz7 3 rfl))
  ·intro hF8
   refine zz6 hF8 (zz6 hF8 (zz0 (aF rfl hF8 rfl) ?_))
   refine ae (aa ?_)
   exact aw (Sub.cons rfl (zz7 3 rfl))
  refine zz0 (ac rfl) ?_
  apply bF
  ·exact (rfl : _ = (3, 38, 41))
  ·exact rfl
  ·intro hT9; have hT9' := hT9
   try simp only [bs] at hT9'
   refine zz5 hT9 (ac rfl) (zz5 hT9 (mt (n := 46) rfl rfl) ?_)
   refine zz0 (aE rfl hT9 rfl) ?_
   refine ae (aa ?_)
   exact aw (Sub.cons rfl (zz7 3 rfl))
  ·intro hF9
   refine zz6 hF9 (zz6 hF9 (zz0 (aF rfl hF9 rfl) ?_))
   refine ae (aa ?_)
   exact aw (Sub.cons rfl (zz7 3 rfl))
  refine ae (aa ?_)
  refine ak rfl ?_ ?_ <;> intro h10 <;> try simp only [bs] at h10
  ·refine af (ab (zz0 (ad rfl) (ae (aa (ao (bf (an (an (bf (an ?_))))))))))
   refine aI Tryz.results68 rfl (fun w' hw => ?_)
   have hbad : m9 ((bts s).getD k default) = true := by simp only [m9, AA, Ag, AY, bs]; assumption
   exact ⟨by rw [rD (by omega) hbad], hw.below hF1⟩
  ·refine ax (a9 (aa (ab (zz0 (dq rfl rfl) ?_))))
   refine zz0 (ac rfl) (ae (aa ?_))
   have hbad : m9 ((bts s).getD k default) = false := by simp only [m9, AA, Ag, AY, bs]; assumption
   apply bP (k + 1)
   ·exact rfl
   ·exact (.cons (by first | rfl | exact am rfl (by omega) | exact am rfl (by simp) | exact aS rfl (by simp)) Front.nil)
   ·exact bQ 19 rfl
   ·exact (by repeat' constructor)
   ·exact ⟨by omega, by rw [any_take_succ (by omega), hk2, hbad]; rfl⟩
   ·exact (by (try dsimp only); omega)
 ·refine cm (aV (aV (bT (aa (af (ab (zz0 (ac rfl) (zz0 (lQ rfl eS) ?_))))))))
  refine zz0 (dl rfl rfl) (zz0 (ac rfl) ?_)
  apply bF
  ·exact (rfl : _ = (4, 46, 50))
  ·exact rfl
  ·intro hT11; have hT11' := hT11
   try simp only [bs] at hT11'
   refine zz5 hT11 (ac rfl) (zz5 hT11 (lQ rfl eS) ?_)
   refine zz5 hT11 (dO rfl rfl) (zz0 (aE rfl hT11 rfl) ?_)
   refine ae (aa ?_)
   exact aw (Sub.cons rfl (zz7 4 rfl))
  ·intro hF11
   refine zz6 hF11 (zz6 hF11 (zz6 hF11 (zz0 (aF rfl hF11 rfl) ?_)))
   refine ae (aa ?_)
   exact aw (Sub.cons rfl (zz7 4 rfl))
  refine zz0 (ad rfl) (ae (aa (ao ?_)))
  refine aI Tryz.results68 rfl (fun w' hw => ?_)
  exact ⟨by rw [rC (by omega) hk2], hw.below hF1⟩
theorem oc (s : SecV) (w : World) (hs : s.data.length ≤ 200000) :
  Calls Tryz.prog 70 #[.agg (cf.enc s).toArray] w (fun e w' => e = .returned (.agg (zm.enc (eO s)).toArray) ∧ Ext w w') := by
 have hadr := s.addr.toNat_lt
 refine enter Tryz.func70 rfl Tryz.ntmps70 rfl ?_
 refine af (ab ?_)
 refine cM rfl rfl rfl (fun b1 => ?_)
 refine c9 Tryz.zeroValue125 rfl (fun b2 => ?_)
 refine ae (aa (af (ab (zz0 (zz3 (off := 1) (ft := 23) rfl bC rfl ah) ?_))))
 refine zz0 (aM rfl az) ?_
 refine zz0 (gl rfl aT cN) (zz0 (zz3 (off := 2) (ft := 62) rfl bC rfl de) ?_)
 refine zz0 (aM rfl dM) ?_
 refine zz0 (fR rfl aG) ?_
 refine zz0 (fY rfl aO cN (IntWalk.u64_in _ (by omega))) ?_
 refine zz0 (nY rfl rfl (by omega)) ?_
 refine zz0 (ad rfl) (ae (aa (af (ab (zz0 (zz3 (off := 1) (ft := 23) rfl bC rfl ah) ?_)))))
 refine zz0 (aM rfl az) ?_
 refine zz0 (ac rfl) (zz0 (lb rfl rfl) ?_)
 refine zz0 (eY rfl cN aT) (zz0 (bE (vs := [(0, _), (1, _)]) rfl rfl (lS _ _)) ?_)
 refine bw zm rfl rfl j8 ?_
 refine ae (aa (ao ?_))
 refine fJ Tryz.results70 rfl (by repeat constructor) Tryz.isAgg125 j8 (by rfl) (fun w' hw => ?_)
 exact ⟨rfl, hw.below (Bg.le.refl _)⟩
theorem wU (w : World) :
  Calls Tryz.prog 71 #[] w (fun e w' => e = .returned (.agg (zm.enc pM).toArray) ∧ Ext w w') := by
 refine enter Tryz.func71 rfl Tryz.ntmps71 rfl ?_
 refine af (ab ?_)
 refine c9 Tryz.zeroValue125 rfl (fun b1 => ?_)
 refine ae (aa (af (ab (zz0 (bE (vs := [(0, _), (1, _)]) rfl rfl (lS _ _)) ?_))))
 refine bw zm rfl rfl j8 ?_
 refine ae (aa (ao ?_))
 refine fJ Tryz.results71 rfl (by repeat constructor) Tryz.isAgg125 j8 (by rfl) (fun w' hw => ?_)
 exact ⟨rfl, hw.below (Bg.le.refl _)⟩
theorem ua (a b : Rng) (w : World) :
  Calls Tryz.prog 69 #[.agg (zm.enc a).toArray, .agg (zm.enc b).toArray] w (fun e w' => e = .returned (.bool (kW a b)) ∧ Ext w w') := by
 refine enter Tryz.func69 rfl Tryz.ntmps69 rfl ?_
 refine af (ab ?_)
 refine cM rfl rfl rfl (fun b1 => ?_)
 refine cM rfl rfl rfl (fun b2 => ?_)
 refine zz0 (ad rfl) (ae (aa (af (ab (zz0 (zz3 (off := 0) (ft := 23) rfl iD rfl ah) ?_)))))
 refine zz0 (aM rfl az) ?_
 refine zz0 (zz3 (off := 0) (ft := 23) rfl iD rfl ah) ?_
 refine zz0 (aM rfl az) ?_
 refine zz0 (Aa rfl rfl) ?_
 refine zz0 (zz3 (off := 1) (ft := 23) rfl iD rfl ah) ?_
 refine zz0 (aM rfl az) ?_
 refine zz0 (zz3 (off := 1) (ft := 23) rfl iD rfl ah) ?_
 refine zz0 (aM rfl az) ?_
 refine zz0 (zZ rfl rfl) ?_
 refine zz0 (gG rfl rfl) ?_
 refine zz0 (ad rfl) (ae (aa (ao ?_)))
 refine aI Tryz.results69 rfl (fun w' hw => ?_)
 exact ⟨rfl, hw.below (Bg.le.refl _)⟩
theorem vx (x s : SecV) (b : Nat) (w : World) (hc : CellsIn (hp w) b (cf.enc s)) :
  Calls Tryz.prog 67 #[.agg (cf.enc x).toArray, .pointer (some ⟨b, 0, none⟩)] w (fun e w' => e = .returned (.bool (decide (x.name = s.name))) ∧ Ext w w') := by
 have hc' : CellsIn (Bg.of w).blk b (cf.enc s) := hc
 refine enter Tryz.func67 rfl Tryz.ntmps67 rfl ?_
 refine af (ab ?_)
 refine cM rfl rfl rfl (fun b1 => ?_)
 refine zz0 (ad rfl) (ae (aa (af (ab (zz0 (zz3 (off := 0) (ft := 9) rfl bC rfl jx) ?_)))))
 refine zz0 (aM rfl kl) ?_
 refine zz0 (zz3 (off := 0) (ft := 9) rfl bC rfl jx) ?_
 refine zz0 (fQ rfl (by assumption) kl (by rfl)) ?_
 refine zz0 (qG rfl rfl) ?_
 refine zz0 (ad rfl) (ae (aa (ao ?_)))
 refine aI Tryz.results67 rfl (fun w' hw => ?_)
 exact ⟨rfl, hw.below (Bg.le.refl _)⟩
theorem vw (x s : SecV) (b : Nat) (w : World) (hc : CellsIn (hp w) b (cf.enc s)) (hx : x.data.length ≤ 200000) (hs : s.data.length ≤ 200000) :
  Calls Tryz.prog 72 #[.agg (cf.enc x).toArray, .pointer (some ⟨b, 0, none⟩)] w (fun e w' => e = .returned (.bool (kW (eO x) (eO s))) ∧ Ext w w') := by
 have hc' : CellsIn (Bg.of w).blk b (cf.enc s) := hc
 refine enter Tryz.func72 rfl Tryz.ntmps72 rfl ?_
 refine af (ab ?_)
 refine cM rfl rfl rfl (fun b1 => ?_)
 refine zz0 (ad rfl) (ae (aa (af (ja aU ?_))))
 refine aK (bK rfl eK bL) ?_
 refine aK (aB rfl Tryz.call70 (fun w hw => oc x w hx)) ?_
 refine aK (rX rfl (by assumption) eK bL (by rfl)) ?_
 refine aK (aB rfl Tryz.call70 (fun w hw => oc s w hs)) ?_
 refine aK (aB rfl Tryz.call69 (fun w hw => ua (eO x) (eO s) w)) ?_
 refine aK (ad rfl) (cH ?_)
 refine aa (ao ?_)
 refine aI Tryz.results72 rfl (fun w' hw => ?_)
 exact ⟨rfl, hw.below (Bg.le.refl _)⟩
theorem rb (l : List SecV) (V : Value) (g : FuncId) (cb : List Value) (w : World) (hV : Sl (hp w) cf l V) (eg : ∀ args w, (callFunc g args).run Tryz.prog w = .ok (.enter g args) w) (p : SecV → Bool) (hp : ∀ x, x ∈ l → ∀ w', Ext w w' → Calls Tryz.prog g ([Value.agg (cf.enc x).toArray] ++ cb).toArray w' fun e w'' => e = .returned (.bool (p x)) ∧ Ext w' w'') :
  Calls Tryz.prog 99 #[V, .func (.func g) #[] cb.toArray] w (fun e w' => e = .returned (.int .i64 (eP p 0 l)) ∧ Ext w w') := by
 have hV' : Sl (Bg.of w).blk cf l V := hV
 have hlen := hV.len_le
 refine enter Tryz.func99 rfl Tryz.ntmps99 rfl ?_
 refine af (ab (zz0 (ad rfl) (ae (aa (af (af (ab (zz0 (ac rfl) (zz0 (gI rfl bh) ?_)))))))))
 refine zz0 (ac rfl) (ae (aa (aQ ?_)))
 refine cp (ι := Nat) (fun k => k ≤ l.length ∧ eP p k (l.drop k) = eP p 0 l) (fun _ => _) (fun k => []) (fun k => [(8, .int .i64 (k : Nat))]) (fun k => l.length - k) 0 ⟨Nat.zero_le _, rfl⟩ (.cons (by first | rfl | exact am rfl (by omega) | exact am rfl (by simp) | exact aS rfl (by simp)) Front.nil) (by repeat' constructor) rfl (fun k hi m hm => ?_)
 replace hi : k ≤ l.length ∧ eP p k (l.drop k) = eP p 0 l := hi
 replace hm : m = l.length - k := hm
 change Tr _ _ [] ([(8, .int .i64 (k : Nat))] ++ _) _
 obtain ⟨hk1, hk2⟩ := hi
 refine af (ab (zz0 (cE rfl rfl) (ae (aa (af ?_)))))
 refine ak rfl ?_ ?_ <;> intro h1 <;> try simp only [bs] at h1
 ·refine ax (aa (af (aQ (af (ab (zz0 (ac rfl) (zz0 (ad rfl) (ae (aa (af (ab (zz0 (ac rfl) (zz0 (ac rfl) ?_)))))))))))))
  refine zz0 (ac rfl) (zz0 (i9 rfl rfl bh bL) ?_)
  refine zz0 (lx rfl (by assumption) eK bL (by rfl) (by omega)) ?_
  refine zz0 (Ad rfl rfl eg (fun w hw => hp _ (fU (by omega)) w (hw.below (Bg.le.refl _)))) ?_
  refine ae (aa ?_)
  refine ak rfl ?_ ?_ <;> intro h2 <;> try simp only [bs] at h2
  ·refine af (ab (zz0 (ac rfl) (zz0 (ad rfl) (ae (aa (ao (bf (an (an (bf (an ?_)))))))))))
   refine aI Tryz.results99 rfl (fun w' hw => ?_)
   exact ⟨by rw [← hk2, drop_cons (k := k) (by omega), eP, if_pos (by assumption)], hw.below (Bg.le.refl _)⟩
  ·refine ax (a9 (aa (ab (zz0 (dq rfl rfl) ?_))))
   refine zz0 (ac rfl) (ae (aa ?_))
   apply bP (k + 1)
   ·exact rfl
   ·exact (.cons (by first | rfl | exact am rfl (by omega) | exact am rfl (by simp) | exact aS rfl (by simp)) Front.nil)
   ·exact bQ 12 rfl
   ·exact (by repeat' constructor)
   ·exact ⟨by omega, by rw [← hk2, drop_cons (k := k) (by omega), eP, if_neg (by simp_all)]⟩
   ·exact (by (try dsimp only); omega)
 ·refine cm (aV (aV (bT (aa (af (ab (zz0 (ad rfl) (ae (aa (ao ?_))))))))))
  refine aI Tryz.results99 rfl (fun w' hw => ?_)
  exact ⟨by rw [← hk2, List.drop_of_length_le (by omega)]; rfl, hw.below (Bg.le.refl _)⟩
theorem lJ (l : List SecV) (V : Value) (g : FuncId) (cb : List Value) (w : World) (hV : Sl (hp w) cf l V) (eg : ∀ args w, (callFunc g args).run Tryz.prog w = .ok (.enter g args) w) (p : SecV → Bool) (hp : ∀ x, x ∈ l → ∀ w', Ext w w' → Calls Tryz.prog g ([Value.agg (cf.enc x).toArray] ++ cb).toArray w' fun e w'' => e = .returned (.bool (p x)) ∧ Ext w' w'') :
  Calls Tryz.prog 66 #[V, .func (.func g) #[] cb.toArray] w (fun e w' => e = .returned (.bool (l.any p)) ∧ Ext w w') := by
 refine enter Tryz.func66 rfl Tryz.ntmps66 rfl ?_
 refine af (ab (zz0 (ad rfl) (ae (aa (af (ab (zz0 (ac rfl) (zz0 (ac rfl) (zz0 (aB rfl Tryz.call99 (fun w hw => rb l V g cb w (hw.slF hV) eg p (fun x hx w'' h => hp x hx w'' ((hw.below (Bg.le.refl _)).trans h)))) ?_)))))))))
 refine zz0 (dl rfl rfl) (zz0 (ad rfl) (ae (aa (ao ?_))))
 refine aI Tryz.results66 rfl (fun w' hw => ?_)
 exact ⟨by rw [za], hw.below (Bg.le.refl _)⟩
theorem xH (l : List SecV) (V : Value) (w : World) (hV : Sl (hp w) cf l V) (hB : SecB l) (hN : ∀ s ∈ l, s.name.size ≤ 9223372036854775807) :
  Calls Tryz.prog 43 #[V] w (fun e w' => e = .returned (.int .i64 (dL l)) ∧ Ext w w') := by
 have hV' : Sl (Bg.of w).blk cf l V := hV
 have hlen := hB.1
 refine enter Tryz.func43 rfl Tryz.ntmps43 rfl ?_
 refine af (ab (zz0 (ad rfl) (ae (aa (af (af (ab (zz0 (ac rfl) (zz0 (gI rfl bh) ?_)))))))))
 refine zz0 (fG rfl rfl) (ae (aa ?_))
 refine ak rfl ?_ ?_ <;> intro h1 <;> try simp only [bs] at h1
 ·refine af (ab (zz0 (ad rfl) (ae (aa (ao (an ?_))))))
  refine aI gV rfl (fun w' hw => ?_)
  exact ⟨by rw [sJ (by assumption)], hw.below (Bg.le.refl _)⟩
 ·refine ax (aa (af (af (ab (zz0 (ac rfl) (zz0 (gI rfl bh) ?_))))))
  refine zz0 (ac rfl) (ae (aa (aQ ?_)))
  refine cp (ι := Nat) (fun k => k ≤ l.length ∧ dQ (iz l) k (l.length - k) = dQ (iz l) 0 l.length) (fun _ => _) (fun k => []) (fun k => [(13, .int .i64 (k : Nat))]) (fun k => l.length - k) 0 ⟨Nat.zero_le _, rfl⟩ (.cons (by first | rfl | exact am rfl (by omega) | exact am rfl (by simp) | exact aS rfl (by simp)) Front.nil) (by repeat' constructor) rfl (fun k hi m hm => ?_)
  replace hi : k ≤ l.length ∧ dQ (iz l) k (l.length - k) = dQ (iz l) 0 l.length := hi
  replace hm : m = l.length - k := hm
  change Tr _ _ [] ([(13, .int .i64 (k : Nat))] ++ _) _
  obtain ⟨hk1, hk2⟩ := hi
  have hadr := (l.getD k default).addr.toNat_lt
  have hdk : k < l.length → (l.getD k default).data.length ≤ 200000 := fun q => hB.at q
  refine af (ab (zz0 (cE rfl rfl) (ae (aa (af ?_)))))
  refine ak rfl ?_ ?_ <;> intro h2 <;> try simp only [bs] at h2
  ·refine ax (aa (af (aQ (af (ab (zz0 (ac rfl) (zz0 (i9 rfl rfl bh bL) ?_)))))))
   refine zz0 (lx rfl (by assumption) eK bL (by rfl) (by omega)) ?_
   refine c9 fl rfl (fun b3 => ?_)
   refine zz0 (ad rfl) (bw cf rfl rfl bL ?_)
   refine ae (aa (af (ab (zz0 (ac rfl) (zz0 (ac rfl) (zz0 (qN (lv := none) (hv := some (_, _)) rfl rfl rfl bh bL) ?_))))))
   refine zz0 (oY rfl rfl) ?_
   refine zz0 (aB rfl Tryz.call66 (fun w hw => lJ (l.take k) _ _ _ w (Sl.resl (l := 0) (h := k) (hw.slF hV) (by omega) (by omega)) Tryz.call67 (fun x => decide (x.name = (l.getD k default).name)) (fun x hx w'' h => vx x (l.getD k default) _ w'' (cellE.cellsIn (hw.ent _ (.head _)) h)))) ?_
   refine zz0 (ad rfl) (ae (aa (aQ (af (ab (zz0 (zz3 (off := 2) (ft := 62) rfl bC rfl de) ?_))))))
   refine zz0 (aM rfl dM) ?_
   refine zz0 (fR rfl aG) ?_
   refine zz0 (fG rfl rfl) (zz0 (ad rfl) (ae (aa ?_)))
   refine ak rfl ?_ ?_ <;> intro h4 <;> try simp only [bs] at h4
   ·refine af (ab (zz0 (ad rfl) (ae (aa (ao (bf (bf (an (an (bf (an ?_)))))))))))
    refine aI gV rfl (fun w' hw => ?_)
    exact ⟨by rw [nP (v := 6) (by assumption) (by omega) hk2 (by unfold iz; dsimp only; rw [if_pos (by assumption)]) (by decide)], hw.below (Bg.le.refl _)⟩
   ·refine af (ab (zz0 (zz3 (off := 0) (ft := 9) rfl bC rfl jx) ?_))
    refine zz0 (aM rfl kl) ?_
    refine zz0 (aB rfl Tryz.call68 (fun w hw => name_any (l.getD k default).name w (hN _ (fU (by omega))))) ?_
    refine zz0 (cj rfl) (zz0 (ad rfl) (ae (aa ?_)))
    refine ak rfl ?_ ?_ <;> intro h5 <;> try simp only [bs] at h5
    ·refine af (ab (zz0 (ad rfl) (ae (aa (ao (bf (bf (an (an (bf (an ?_)))))))))))
     refine aI gV rfl (fun w' hw => ?_)
     exact ⟨by rw [nP (v := 3) (by assumption) (by omega) hk2 (by unfold iz; dsimp only; rw [if_neg (by assumption), if_pos (by assumption)]) (by decide)], hw.below (Bg.le.refl _)⟩
    ·refine af (ab (zz0 (ac rfl) (zz0 (ad rfl) (ae (aa ?_)))))
     refine ak rfl ?_ ?_ <;> intro h6 <;> try simp only [bs] at h6
     ·refine af (ab (zz0 (ad rfl) (ae (aa (ao (bf (bf (an (an (bf (an ?_)))))))))))
      refine aI gV rfl (fun w' hw => ?_)
      exact ⟨by rw [nP (v := 8) (by assumption) (by omega) hk2 (by unfold iz; dsimp only; rw [if_neg (by assumption), if_neg (by simp_all), if_pos (by assumption)]) (by decide)], hw.below (Bg.le.refl _)⟩
     ·refine af (ab (zz0 (zz3 (off := 1) (ft := 23) rfl bC rfl ah) ?_))
      refine zz0 (aM rfl az) ?_
      refine zz0 (gl rfl aT cN) (zz0 (zz3 (off := 2) (ft := 62) rfl bC rfl de) ?_)
      refine zz0 (aM rfl dM) ?_
      refine zz0 (fR rfl aG) ?_
      refine zz0 (fY rfl aO cN (IntWalk.u64_in _ (by omega))) ?_
      refine zz0 (nY rfl rfl (by omega)) ?_
      refine zz0 (fG rfl rfl) (zz0 (ac rfl) ?_)
      apply cZ
      ·exact (rfl : _ = (5, 45, 50))
      ·exact rfl
      ·intro hF7; have hF7' := hF7
       try simp only [bs] at hF7'
       refine zz5 hF7 (bK rfl eK bL) ?_
       refine zz5 hF7 (aB rfl Tryz.call70 (fun w hw => oc (l.getD k default) w (hB.at (by omega)))) ?_
       refine zz5 hF7 (aB rfl Tryz.call71 (fun w hw => wU w)) ?_
       refine zz5 hF7 (aB rfl Tryz.call69 (fun w hw => ua (eO (l.getD k default)) pM w)) ?_
       refine zz0 (aF rfl hF7 rfl) ?_
       refine ae (aa ?_)
       exact aw (Sub.cons rfl (zz7 5 rfl))
      ·intro hT7
       refine zz6 hT7 (zz6 hT7 (zz6 hT7 (zz6 hT7 (zz0 (aE rfl hT7 rfl) ?_))))
       refine ae (aa ?_)
       exact aw (Sub.cons rfl (zz7 5 rfl))
      refine zz0 (ad rfl) (ae (aa ?_))
      refine ak rfl ?_ ?_ <;> intro h8 <;> try simp only [bs] at h8
      ·refine af (ab (zz0 (ad rfl) (ae (aa (ao (bf (bf (an (an (bf (an ?_)))))))))))
       refine aI gV rfl (fun w' hw => ?_)
       exact ⟨by rw [nP (v := 7) (by assumption) (by omega) hk2 (by unfold iz; dsimp only; rw [if_neg (by assumption), if_neg (by simp_all), if_neg (by simp_all), if_pos (by assumption)]) (by decide)], hw.below (Bg.le.refl _)⟩
      ·refine ax (a9 (a9 (aa (ab (zz0 (dq rfl rfl) ?_)))))
       refine zz0 (ac rfl) (ae (aa ?_))
       have hz : iz l k = 0 := by unfold iz; dsimp only; rw [if_neg (by assumption), if_neg (by simp_all), if_neg (by simp_all), if_neg (by simp_all)]
       apply bP (k + 1)
       ·exact rfl
       ·exact (.cons (by first | rfl | exact am rfl (by omega) | exact am rfl (by simp) | exact aS rfl (by simp)) Front.nil)
       ·exact bQ 39 rfl
       ·exact (by repeat' constructor)
       ·exact ⟨by omega, by rw [kY (by omega) hz, hk2]⟩
       ·exact (by (try dsimp only); omega)
  ·refine cm (aV (aV (bT (aa (af (af (ab (zz0 (ac rfl) (zz0 (gI rfl bh) ?_)))))))))
   refine zz0 (ac rfl) (ae (aa (aQ ?_)))
   have hz1 : dQ (iz l) 0 l.length = 0 := by rw [← hk2]; exact kX (by omega)
   clear hk2 hk1 hm hadr hdk
   refine cp (ι := Nat) (fun k => k ≤ l.length ∧ dQ (fun i => if je l i = true then 10 else 0) k (l.length - k) = dQ (fun i => if je l i = true then 10 else 0) 0 l.length) (fun _ => _) (fun k => []) (fun k => [(54, .int .i64 (k : Nat))]) (fun k => l.length - k) 0 ⟨Nat.zero_le _, rfl⟩ (.cons (by first | rfl | exact am rfl (by omega) | exact am rfl (by simp) | exact aS rfl (by simp)) Front.nil) (by repeat' constructor) rfl (fun k hi m hm => ?_)
   replace hi : k ≤ l.length ∧ dQ (fun i => if je l i = true then 10 else 0) k (l.length - k) = dQ (fun i => if je l i = true then 10 else 0) 0 l.length := hi
   replace hm : m = l.length - k := hm
   change Tr _ _ [] ([(54, .int .i64 (k : Nat))] ++ _) _
   obtain ⟨hk1, hk2⟩ := hi
   refine af (ab (zz0 (cE rfl rfl) (ae (aa (af ?_)))))
   refine ak rfl ?_ ?_ <;> intro h9 <;> try simp only [bs] at h9
   ·refine ax (aa (af (aQ (af (ab (zz0 (ac rfl) (zz0 (i9 rfl rfl bh bL) ?_)))))))
    refine zz0 (lx rfl (by assumption) eK bL (by rfl) (by omega)) ?_
    refine c9 fl rfl (fun b10 => ?_)
    refine zz0 (ad rfl) (bw cf rfl rfl bL ?_)
    refine ae (aa (af (ab (zz0 (ac rfl) (zz0 (ac rfl) (zz0 (qN (lv := none) (hv := some (_, _)) rfl rfl rfl bh bL) ?_))))))
    refine zz0 (oY rfl rfl) ?_
    refine zz0 (aB rfl Tryz.call66 (fun w hw => lJ (l.take k) _ _ _ w (Sl.resl (l := 0) (h := k) (hw.slF hV) (by omega) (by omega)) Tryz.call72 (fun x => kW (eO x) (eO (l.getD k default))) (fun x hx w'' h => vw x (l.getD k default) _ w'' (cellE.cellsIn (hw.ent _ (.head _)) h) (hB.2 x (List.mem_of_mem_take hx)) (hB.at (by omega))))) ?_
    refine ae (aa ?_)
    refine ak rfl ?_ ?_ <;> intro h11 <;> try simp only [bs] at h11
    ·refine af (ab (zz0 (ad rfl) (ae (aa (ao (bf (an (an (bf (an ?_))))))))))
     refine aI gV rfl (fun w' hw => ?_)
     exact ⟨by rw [wC (k := k) (by assumption) hz1 (by omega) hk2 (by assumption)], hw.below (Bg.le.refl _)⟩
    ·refine ax (a9 (aa (ab (zz0 (dq rfl rfl) ?_))))
     refine zz0 (ac rfl) (ae (aa ?_))
     have hz : je l k = false := by assumption
     apply bP (k + 1)
     ·exact rfl
     ·exact (.cons (by first | rfl | exact am rfl (by omega) | exact am rfl (by simp) | exact aS rfl (by simp)) Front.nil)
     ·exact bQ 14 rfl
     ·exact (by repeat' constructor)
     ·exact ⟨by omega, by rw [kY (by omega) (by rw [if_neg (by rw [hz]; decide)]), hk2]⟩
     ·exact (by (try dsimp only); omega)
   ·refine cm (aV (aV (bT (aa (af (ab (zz0 (ad rfl) (ae (aa (ao ?_))))))))))
    refine aI gV rfl (fun w' hw => ?_)
    exact ⟨by rw [wB (by assumption) hz1 (by rw [← hk2]; exact kX (by omega))], hw.below (Bg.le.refl _)⟩
end Go.Proofs.YtpeaodkfbjenpaaGreat
namespace Go.HL
open Go Go.RowKit
section
variable {P : Program} {ops : Array Oper} {Q : Exit → Act → World → Prop} {N : Nat} {F : Bg} {L : List Ent} {M : Fr} {ty : TypeId} {pos : String} {after : Array Edge} {rest : List Oper} {d : Nat} {op : Op}
theorem nh {α : Type} (E : Enc α) (x' : α) : ∀ (l : List α) (i : Nat), i < l.length → (l.set i x').flatMap E.enc = splice (l.flatMap E.enc) (i * E.k) (E.enc x')
  | [], i, h => by simp at h
  | y :: l, 0, _ => by
    simp only [List.set_cons_zero, List.flatMap_cons, Nat.zero_mul, splice, List.take_zero, List.nil_append, Nat.zero_add, E.len]
    rw [List.drop_append_of_le_length (by rw [E.len]; exact Nat.le_refl _), List.drop_of_length_le (by rw [E.len]; exact Nat.le_refl _)]; rfl
  | y :: l, i + 1, h => by
    have ih := nh E x' l i (by simpa using h)
    simp only [List.set_cons_succ, List.flatMap_cons, ih, splice]
    have hl : (E.enc y).length = E.k := E.len y
    rw [show (i + 1) * E.k = (E.enc y).length + i * E.k by rw [hl, Nat.add_mul]; omega, List.take_length_add_append, show (E.enc y).length + i * E.k + (E.enc x').length = (E.enc y).length + (i * E.k + (E.enc x').length) by omega, List.drop_length_add_append]
    simp only [List.append_assoc]
theorem ta {cs v : List Value} {o n : Nat} (h : o + v.length ≤ n) (hn : n ≤ cs.length) : (splice cs o v).take n = splice (cs.take n) o v := by
  apply List.ext_getElem?
  intro q
  simp only [splice, List.getElem?_take, List.getElem?_append, List.length_take, List.getElem?_drop, List.length_append]
  grind
theorem vE {α : Type} {E : Enc α} {l : List α} (x' : α) {x y : Operand} {t T : TypeId} {V v : Value} {i : Nat} {L' : List Ent} {dst : Option Tmp} (hx : opv M x = some (.pointer (some ⟨bk V, ofs V + i * E.k, none⟩))) (hy : opv M y = some v)
    (hz : ∀ w, (sizeOf t).run P w = .ok E.k w) (hput : Put (rowE V T E l) (rowE V T E (l.set i x')) L L') (hi : i < l.length) (hc : v.cells.toList = E.enc x') (hdst : dst = none)
    (K : Tr N F L' M (wpList P ops Q rest)) : Tr N F L M (wpList P ops Q (⟨dst, .store t x y, ty, pos, after, none⟩ :: rest)) := by
  subst hdst
  intro a w ha hw
  refine wpList_plain rfl fun K' hK => ?_
  have hr : RowOK V T E l (V.ownBlock.bind (w.heap[·]?)) := hw.ent _ hput.mem
  rcases hr with ⟨_, rfl⟩ | ⟨gb, cap, cur, rfl, ho, hc1, hc2, hc3, hc4⟩
  · simp at hi
  · have ho' : w.heap[gb]? = some (.cells cur T (0, 0)) := ho
    have hlt : i * E.k + E.k ≤ l.length * E.k := by rw [← Nat.succ_mul]; exact Nat.mul_le_mul_right _ hi
    have hle : l.length * E.k ≤ cur.size := Nat.le_trans (Nat.mul_le_mul_right _ hc1) hc3
    have hs : v.cells.size = E.k := by have := congrArg List.length hc; rw [E.len] at this; simpa using this
    have hst := pR (P := P) (w := w) (b := gb) (o := i * E.k) (cs := cur.toList) (T := T) (t := t) (v := v) (by simpa using ho') hz hs (by simp; omega) (by rw [hc]; intro u hu; exact E.one _ _ hu)
    simp only [bk, ofs, Nat.zero_add] at hx
    unfold Oper.wp
    simp only [execOp, ha.eval hx, ha.eval hy, Sem.run_bind, hst, Result.andThen_ok, Sem.run_pure, Oper.upon, Act.put]
    refine hK _ _ (K _ _ ha ?_)
    have e1 : rowE (.slice (some ⟨gb, 0, none⟩) l.length cap) T E l = ⟨some gb, RowOK (.slice (some ⟨gb, 0, none⟩) l.length cap) T E l⟩ := rfl
    have e2 : rowE (.slice (some ⟨gb, 0, none⟩) l.length cap) T E (l.set i x') = ⟨some gb, RowOK (.slice (some ⟨gb, 0, none⟩) l.length cap) T E (l.set i x')⟩ := rfl
    rw [e1, e2] at hput
    refine HpOK.set hw hput rfl rfl rfl (by simp) (Nat.le_refl _) (fun k _ hkb => setRow_other w gb k _ hkb) ?_
    rw [setRow_heap w gb _ _ T (0, 0) ho']
    have hll : (l.set i x').length = l.length := by simp
    refine .inr ⟨gb, cap, _, by rw [hll], rfl, by rw [hll]; exact hc1, hc2, ?_, ?_⟩
    · rw [List.size_toArray]
      simp only [splice, hc, List.length_append, List.length_take, List.length_drop, Array.length_toList, E.len]
      omega
    · rw [hll, nh E x' l i hi, ← hc4, hc, List.toList_toArray]
      refine ta ?_ ?_
      · rw [E.len]; omega
      · rw [Array.length_toList]; exact hle
theorem iS {α : Type} {E : Enc α} {l : List α} (x' : α) {x y : Operand} {t T : TypeId} {V v : Value} {i : Nat} {L' : List Ent} {dst : Option Tmp} (hx : opv M x = some (.pointer (some ⟨bk V, ofs V + i * E.k, none⟩))) (hy : opv M y = some v) (hz : ∀ w, (sizeOf t).run P w = .ok E.k w) (K : Tr N F L' M (wpList P ops Q rest)) (hput : Put (rowE V T E l) (rowE V T E (l.set i x')) L L' := by repeat constructor) (hi : i < l.length := by (try simp only [List.length_set]); omega) (hc : v.cells.toList = E.enc x' := by rfl) (hdst : dst = none := by rfl) : Tr N F L M (wpList P ops Q (⟨dst, .store t x y, ty, pos, after, none⟩ :: rest)) := vE x' hx hy hz hput hi hc hdst K
theorem nT {α : Type} {E : Enc α} {l l' : List α} {V : Value} {T : TypeId} {L0 : List Ent} {X : Act → World → Prop} (h : l = l') (K : Tr N F (rowE V T E l' :: L0) M X) : Tr N F (rowE V T E l :: L0) M X := h ▸ K
theorem i6 {X : Act → Prop} {v : Value} (h : ∀ F, QS P N F [] M ⟨some d, op, ty, pos, after, none⟩ v) (hp : jF op = true) (hd : Nat.ble (d + 1) N = true) (k : TrQ N ((d, v) :: M) (jT P ops X rest)) :
    TrQ N M (jT P ops X (⟨some d, op, ty, pos, after, none⟩ :: rest)) := fun a ha =>
  ⟨v, .inl ⟨by simp [Region.wanted], fun w => sV (h (Bg.of w)) hp ha (HpOK.start w)⟩, k _ (ha.put (Nat.le_of_ble_eq_true hd))⟩
end
end Go.HL
namespace Go.HL
open Go Go.RowKit
section
variable {P : Program} {ops : Array Oper} {Q : Exit → Act → World → Prop} {N : Nat} {F : Bg} {L : List Ent} {M : Fr} {dst : Option Tmp} {ty : TypeId} {pos : String} {after : Array Edge} {g : Option (Nat × Bool)} {rest : List Oper} {d : Nat}
theorem xX {x y : Operand} {t e : TypeId} {b o n k : Nat} {kk : IntKind} {i : Int} (hx : opv M x = some (.pointer (some ⟨b, o, none⟩))) (hy : opv M y = some (.int kk i)) (ht : P.underlying t = some (.array n e)) (hz : ∀ w, (sizeOf e).run P w = .ok k w)
    (hi : 0 ≤ i ∧ i < n) : QS P N F L M ⟨dst, .indexAddr t x y, ty, pos, after, g⟩ (.pointer (some ⟨b, o + i.toNat * k, none⟩)) :=
  cu fun A w ha hw => by
    simp [execOp, ha.eval hx, ha.eval hy, Instr.indexAt, asIntOf, run_underlying ht, Instr.sureAddr, hz, hi.1, hi.2, Addr.add_lit]
theorem fj {x y : Operand} {t e : TypeId} {b o n k : Nat} {kk : IntKind} {i : Int} (hx : opv M x = some (.pointer (some ⟨b, o, none⟩))) (hy : opv M y = some (.int kk i)) (ht : P.underlying t = some (.array n e)) (hz : ∀ w, (sizeOf e).run P w = .ok k w) (hi : 0 ≤ i ∧ i < n := by omega) : QS P N F L M ⟨dst, .indexAddr t x y, ty, pos, after, g⟩ (.pointer (some ⟨b, o + i.toNat * k, none⟩)) := xX hx hy ht hz hi
end
end Go.HL
namespace Go.Proofs.YtpeaodkfbjenpaaGreat
open Go Go.HL Go.RowKit
theorem jv (l : List UInt32) (V : Value) (w : World) (hV : Sl (hp w) av l V) (hb : l.length ≤ 1000000) :
  Calls Tryz.prog 36 #[V] w (fun e w' => ∃ V', e = .returned V' ∧ Ext w w' ∧ NewRow w w' 23 av (l) V') := by
 have hV' : Sl (Bg.of w).blk av l V := hV
 refine enter Tryz.func36 rfl Tryz.ntmps36 rfl ?_
 refine af (ab (zz0 (ad rfl) (ae (aa (af (af (ab (zz0 (ac rfl) (zz0 (nw rfl (by assumption) al) ?_)))))))))
 refine ae (aa ?_)
 refine ak rfl ?_ ?_ <;> intro h1 <;> try simp only [bs] at h1
 ·refine af (ab (zz0 (ad rfl) (ae (aa (ao (an ?_))))))
  refine aI Tryz.results36 rfl (fun w' hw => ?_)
  exact ⟨_, rfl, hw.below (Bg.le.refl _), ku (hV.isNil h1)⟩
 ·refine ax (aa (af (ab ?_)))
  refine pA av al ah rfl (fun V2 => ?_)
  refine zz0 (ac rfl) ?_
  refine gJ rfl rfl (by repeat constructor) (fun w hw => hw.slF (by assumption)) al gy (by rfl) (by rfl) (by (try simp only [List.length_cons, List.length_nil, List.length_append, List.length_take]); omega) (by unfold maxLen; (try simp only [List.length_cons, List.length_nil, List.length_append, List.length_take]); omega) rfl (fun V3 => ?_)
  refine zz0 (ad rfl) (ae (aa (ao ?_)))
  refine aI Tryz.results36 rfl (fun w' hw => ?_)
  exact ⟨_, rfl, hw.below (Bg.le.refl _), hw.new (.head _)⟩
theorem kf (a b : List UInt32) (V W : Value) (w : World) (hV : Sl (hp w) av a V) (hW : Sl (hp w) av b W) :
  Calls Tryz.prog 13 #[V, W] w (fun e w' => e = .returned (.bool (decide (a = b))) ∧ Ext w w') := by
 have hV' : Sl (Bg.of w).blk av a V := hV
 have hW' : Sl (Bg.of w).blk av b W := hW
 have hl1 := hV.len_le
 have hl2 := hW.len_le
 refine enter Tryz.func13 rfl Tryz.ntmps13 rfl ?_
 refine af (ab (zz0 (ad rfl) (ae (aa (af (af (ab (zz0 (ac rfl) (zz0 (gI rfl al) ?_)))))))))
 refine zz0 (ac rfl) (zz0 (gI rfl al) ?_)
 refine zz0 (dk rfl rfl) (ae (aa ?_))
 refine ak rfl ?_ ?_ <;> intro h1 <;> try simp only [bs] at h1
 ·refine af (ab (zz0 (ad rfl) (ae (aa (ao (an ?_))))))
  refine aI Tryz.results13 rfl (fun w' hw => ?_)
  exact ⟨by rw [decide_eq_false (fun e => by subst e; omega)], hw.below (Bg.le.refl _)⟩
 ·refine ax (aa (af (af (ab (zz0 (ad rfl) (ae (aa (aQ ?_))))))))
  refine cp (ι := Nat) (fun k => k ≤ a.length ∧ a.take k = b.take k) (fun _ => _) (fun k => []) (fun k => [(5, .int .i64 (k : Nat))]) (fun k => a.length - k) 0 ⟨by omega, rfl⟩ (.cons (by first | rfl | exact am rfl (by omega) | exact am rfl (by simp) | exact aS rfl (by simp)) Front.nil) (by repeat' constructor) rfl (fun k hi m hm => ?_)
  replace hi : k ≤ a.length ∧ a.take k = b.take k := hi
  replace hm : m = a.length - k := hm
  change Tr _ _ [] ([(5, .int .i64 (k : Nat))] ++ _) _
  obtain ⟨hk1, hk3⟩ := hi
  refine af (af (ab (zz0 (ac rfl) (zz0 (ac rfl) (zz0 (gI rfl al) ?_)))))
  refine zz0 (cE rfl rfl) (ae (aa ?_))
  refine ak rfl ?_ ?_ <;> intro h2 <;> try simp only [bs] at h2
  ·refine ax (aa (af (aQ (af (ja aU ?_)))))
   refine aK (ac rfl) (aK (ac rfl) (aK (i9 rfl rfl al ah) ?_))
   refine aK (gK rfl az) ?_
   refine aK (ac rfl) (aK (ac rfl) (aK (i9 rfl rfl al ah) ?_))
   refine aK (gK rfl az) ?_
   refine aK (jk rfl rfl) ?_
   refine cH ?_
   refine aa ?_
   refine ak rfl ?_ ?_ <;> intro h3 <;> try simp only [bs] at h3
   ·refine af (ab (zz0 (ad rfl) (ae (aa (ao (bf (an (an (bf (an ?_))))))))))
    refine aI Tryz.results13 rfl (fun w' hw => ?_)
    exact ⟨by rw [decide_eq_false (fun e => by subst e; simp_all)], hw.below (Bg.le.refl _)⟩
   ·refine ax (a9 (aa (ab (zz0 (ac rfl) (zz0 (dq rfl rfl) ?_)))))
    refine zz0 (ad rfl) (ae (aa ?_))
    apply bP (k + 1)
    ·exact rfl
    ·exact (.cons (by first | rfl | exact am rfl (by omega) | exact am rfl (by simp) | exact aS rfl (by simp)) Front.nil)
    ·exact bQ 17 rfl
    ·exact (by repeat' constructor)
    ·exact ⟨by omega, by rw [hZ (by omega), hZ (by omega), hk3]; congr 2⟩
    ·exact (by (try dsimp only); omega)
  ·refine cm (aV (aV (bT (aa (af (ab (zz0 (ad rfl) (ae (aa (ao ?_))))))))))
   refine aI Tryz.results13 rfl (fun w' hw => ?_)
   exact ⟨by rw [decide_eq_true (show a = b by rw [← List.take_of_length_le (show a.length ≤ k by omega), hk3, List.take_of_length_le (by omega)])], hw.below (Bg.le.refl _)⟩
end Go.Proofs.YtpeaodkfbjenpaaGreat
namespace Go.HL
open Go
theorem zo {b : List UInt8} {addr : UInt32} : InsOK (gv b addr).1 := by
  unfold gv
  split
  · exact ⟨by simp [bU, I64], by simp [bU, I64], by simp [bU, I64], by simp [bU, I64], by simp [bU, I64], by simp [bU, I64], by simp [bU, I64]⟩
  split
  · exact ⟨by simp [bU, I64], by simp [bU, I64], by simp [bU, I64], by simp [bU, I64], by simp [bU, I64], by simp [bU, I64], by simp [bU, I64]⟩
  split
  · exact ⟨by simp [bU, I64], by simp [bU, I64], by simp [bU, I64], by simp [bU, I64], by simp [bU, I64], by simp [bU, I64], by simp [bU, I64]⟩
  simp only
  split
  · exact ⟨by simp [bU, I64], by simp [bU, I64], by simp [bU, I64], by simp [bU, I64], by simp [bU, I64], by simp [bU, I64], by simp [bU, I64]⟩
  rename_i hr
  simp only [not_or, Bool.not_eq_false] at hr
  have ha := nD.1 hr.1
  have hb := nD.1 hr.2
  have hk := yu (b.getD 0 default)
  generalize (rowP (b.getD 0 default)).1 = k at *
  generalize (bD k).2.1 = s at *
  have hs : ∀ s k b nx, (f9 s k b nx).op = k.op ∧ (f9 s k b nx).form = k.form ∧ (f9 s k b nx).width = k.width ∧ (f9 s k b nx).cc = k.cc ∧ (f9 s k b nx).size = k.size := fun s k b nx => by
    unfold f9; repeat' split
    all_goals exact ⟨rfl, rfl, rfl, rfl, rfl⟩
  have hsz : 0 ≤ cz s ∧ cz s ≤ 6 := by unfold cz; repeat' split
                                       all_goals omega
  have h1 := hs s { k with addr := addr, size := cz s } b (addr + u32 (cz s))
  unfold uz at *
  show InsOK (f9 s { k with addr := addr, size := cz s } b (addr + u32 (cz s)))
  exact ⟨by rw [h1.1]; exact hk.op, by rw [h1.2.1]; exact hk.form, by rw [h1.2.2.1]; exact hk.width, by rw [h1.2.2.2.1]; exact hk.cc, by unfold I64; omega, by unfold I64; omega, by rw [h1.2.2.2.2]; unfold I64; show _ ≤ cz s ∧ cz s ≤ _; omega⟩
end Go.HL
namespace Go.HL
open Go
structure Flg where
  z : Bool
  n : Bool
  c : Bool
  v : Bool
  deriving DecidableEq, Inhabited
structure Mach where
  r0 : UInt32
  r1 : UInt32
  r2 : UInt32
  r3 : UInt32
  r4 : UInt32
  r5 : UInt32
  r6 : UInt32
  r7 : UInt32
  pc : UInt32
  f : Flg
  deriving DecidableEq, Inhabited
def gU : Enc Flg := ⟨4, fun f => [.bool f.z, .bool f.n, .bool f.c, .bool f.v], fun _ => rfl, fun x v h => by simp at h; rcases h with h | h | h | h <;> subst h <;> rfl⟩
def mY : Enc Mach := ⟨13, fun m => [.int .u32 m.r0.toNat, .int .u32 m.r1.toNat, .int .u32 m.r2.toNat, .int .u32 m.r3.toNat, .int .u32 m.r4.toNat, .int .u32 m.r5.toNat, .int .u32 m.r6.toNat, .int .u32 m.r7.toNat, .int .u32 m.pc.toNat, .bool m.f.z, .bool m.f.n, .bool m.f.c, .bool m.f.v], fun _ => rfl,
  fun x v h => by simp at h; rcases h with h | h | h | h | h | h | h | h | h | h | h | h | h <;> subst h <;> rfl⟩
def Mach.reg (m : Mach) (k : Int) : UInt32 :=
  if k = 0 then m.r0 else if k = 1 then m.r1 else if k = 2 then m.r2 else if k = 3 then m.r3 else if k = 4 then m.r4 else if k = 5 then m.r5 else if k = 6 then m.r6 else m.r7
def Mach.set (m : Mach) (k : Int) (x : UInt32) : Mach :=
  if k = 0 then { m with r0 := x } else if k = 1 then { m with r1 := x } else if k = 2 then { m with r2 := x } else if k = 3 then { m with r3 := x } else if k = 4 then { m with r4 := x } else if k = 5 then { m with r5 := x } else if k = 6 then { m with r6 := x } else { m with r7 := x }
theorem Mach.set_reg (m : Mach) (k : Int) : m.set k (m.reg k) = m := by
  unfold Mach.set
  repeat' split
  all_goals first | (rename_i h; subst h; rfl) | (unfold Mach.reg; simp [*])
theorem Mach.reg_cell (m : Mach) {k : Int} (hk : 0 ≤ k ∧ k < 8) : (mY.enc m)[k.toNat]? = some (.int .u32 (m.reg k).toNat) := by
  have hk' : k = 0 ∨ k = 1 ∨ k = 2 ∨ k = 3 ∨ k = 4 ∨ k = 5 ∨ k = 6 ∨ k = 7 := by omega
  rcases hk' with rfl | rfl | rfl | rfl | rfl | rfl | rfl | rfl <;> rfl
theorem Mach.set_cells (m : Mach) {k : Int} (hk : 0 ≤ k ∧ k < 8) (x : UInt32) (t : List Value) : splice (mY.enc m ++ t) k.toNat [.int .u32 x.toNat] = mY.enc (m.set k x) ++ t := by
  have hk' : k = 0 ∨ k = 1 ∨ k = 2 ∨ k = 3 ∨ k = 4 ∨ k = 5 ∨ k = 6 ∨ k = 7 := by omega
  rcases hk' with rfl | rfl | rfl | rfl | rfl | rfl | rfl | rfl <;> rfl
def fL (a : UInt32) : Bool := decide (2147483648 ≤ a)
def vg (a : UInt32) : Flg := ⟨decide (a = 0), fL a, false, false⟩
def uD (a b : UInt32) : Flg := ⟨decide (a + b = 0), fL (a + b), decide (a + b < a), decide (fL a = fL b) && decide (fL (a + b) ≠ fL a)⟩
def pI (a b : UInt32) : Flg := ⟨decide (a - b = 0), fL (a - b), decide (a < b), decide (fL a ≠ fL b) && decide (fL (a - b) ≠ fL a)⟩
def nA (a : UInt32) (n : Nat) : UInt32 := u32 ((IntKind.i32.wrap a.toNat).fdiv (2 ^ n))
def fb (n : UInt32) : Nat := (n % 32).toNat
def jY (b : Bool) : UInt32 := if b = true then 1 else 0
def sB (a b : UInt32) : Bool := decide (IntKind.i32.wrap a.toNat < IntKind.i32.wrap b.toNat)
def jM (op : Int) (a b : UInt32) : UInt32 :=
  if op = 3 then a + b else if op = 4 then a - b else if op = 5 then a * b else if op = 6 then a &&& b else if op = 7 then a ||| b else if op = 8 then a ^^^ b
  else if op = 9 then lB a (fb b) else if op = 10 then fS a (fb b) else if op = 11 then nA a (fb b)
  else if op = 12 then jY (decide (a = b)) else if op = 13 then jY (decide (a ≠ b)) else if op = 14 then jY (sB a b) else jY (decide (a < b))
def kE (op : Int) (a b : UInt32) : UInt32 × Int := if op < 3 ∨ 15 < op then (0, 2) else (jM op a b, 0)
def em (cc : Int) (f : Flg) : Bool :=
  if cc = 0 then true else if cc = 1 then f.z else if cc = 2 then !f.z else if cc = 3 then decide (f.n ≠ f.v) else if cc = 4 then decide (f.n = f.v) else if cc = 5 then f.z || decide (f.n ≠ f.v)
  else if cc = 6 then !f.z && decide (f.n = f.v) else if cc = 7 then f.c else if cc = 8 then !f.c else if cc = 9 then f.c || f.z else if cc = 10 then !f.c && !f.z
  else if cc = 11 then f.n else if cc = 12 then !f.n else if cc = 13 then f.v else if cc = 14 then !f.v else false
def e9 (a : UInt32) : Bool := decide (978944 ≤ a) && decide (a < 983040)
def iK (l : List SecV) (a : UInt32) : Bool := !e9 a && decide (cV l a < 0)
def eB (l : List SecV) (a : UInt32) : SecV := l.getD (cV l a).toNat default
def dW (l : List SecV) (a : UInt32) : Int :=
  if e9 a = true then 983040 - a.toNat else if cV l a < 0 then 0 else ((eB l a).addr.toNat : Int) + (eB l a).data.length - a.toNat
def jf (l : List SecV) (a : UInt32) : UInt8 := if e9 a = true ∨ cV l a < 0 then 0 else (eB l a).data.getD (a - (eB l a).addr).toNat 0
def wrA (l : List SecV) (a : UInt32) : Bool := e9 a || (eB l a).wr
def exA (l : List SecV) (a : UInt32) : Bool := !e9 a && (eB l a).ex
abbrev WrF := UInt32 → Option UInt8
def nj (l : List SecV) (w : WrF) (a : UInt32) : UInt8 := (w a).getD (jf l a)
def d6 (l : List SecV) (w : WrF) (a : UInt32) : Nat → List UInt8
  | 0 => []
  | n + 1 => nj l w a :: d6 l w (a + 1) n
def jp (n : Int) : Bool := decide (n = 1 ∨ n = 2 ∨ n = 4)
def leP : List UInt8 → UInt32
  | [] => 0
  | b :: t => b.toUInt32 + 256 * leP t
def cP (l : List SecV) (w : WrF) (a : UInt32) (n : Int) : UInt32 × Int :=
  if jp n = false then (0, 2) else if dW l a < n then (0, 11) else (leP (d6 l w a n.toNat), 0)
def w9 (w : WrF) (a : UInt32) (b : UInt8) : WrF := fun x => if x = a then some b else w x
def m8 (w : WrF) (a : UInt32) (n : UInt32) : Nat → WrF
  | 0 => w
  | k + 1 => w9 (m8 w a n k) (a + UInt32.ofNat k) (fS n (8 * k)).toUInt8
def bO (l : List SecV) (w : WrF) (a : UInt32) (n : Int) (x : UInt32) : WrF × Int :=
  if jp n = false then (w, 2) else if dW l a < n then (w, 11) else if wrA l a = false then (w, 12) else (m8 w a x n.toNat, 0)
def dB (l : List SecV) (w : WrF) (a : UInt32) : List UInt8 × Int :=
  if iK l a = true then ([], 11) else if exA l a = false then ([], 12) else (d6 l w a (min 6 (dW l a)).toNat, 0)
def i7 (l : List SecV) (w : WrF) : Prop := ∀ a, (w a).isSome = true → iK l a = false
def IsChg (l : List SecV) (w : WrF) (xs : List UInt32) : Prop := xs.Pairwise (· < ·) ∧ ∀ a, a ∈ xs ↔ ∃ b, w a = some b ∧ b ≠ jf l a
structure St where
  m : Mach
  w : WrF
  read : Nat
  out : List UInt32
  done : Bool
  err : Int
def fP (m : Mach) (i : Ins) : UInt32 := if i.form = 0 then m.reg i.b else i.imm
def gg (m : Mach) (i : Ins) : UInt32 × Flg :=
  if i.op = 5 then (fP m i, m.f) else if i.op = 6 then (m.reg i.a + fP m i, uD (m.reg i.a) (fP m i)) else if i.op = 7 then (m.reg i.a - fP m i, pI (m.reg i.a) (fP m i))
  else if i.op = 15 then (m.reg i.a, pI (m.reg i.a) (fP m i)) else if i.op = 19 then (m.reg i.b + i.imm, m.f) else if i.op = 25 then (jY (em i.cc m.f), m.f)
  else if 8 ≤ i.op ∧ i.op ≤ 14 then (jM (opX i.op) (m.reg i.a) (fP m i), vg (jM (opX i.op) (m.reg i.a) (fP m i))) else (m.reg i.a, m.f)
where opX (op : Int) : Int := if op = 8 then 6 else if op = 9 then 7 else if op = 10 then 8 else if op = 11 then 5 else op - 3
def f6 (s : St) (i : Ins) (nx : UInt32) : St := { s with m := { s.m.set i.a (gg s.m i).1 with f := (gg s.m i).2, pc := nx }, done := decide (i.op = 1) || s.done }
def Mach.to (m : Mach) (p : UInt32) : Mach := { m with pc := p }
def d5 (l : List SecV) (s : St) (i : Ins) (nx : UInt32) : St × Int :=
  if i.op = 3 then
    if (bO l s.w (s.m.r7 - 4) 4 (s.m.reg i.a)).2 ≠ 0 then (s, (bO l s.w (s.m.r7 - 4) 4 (s.m.reg i.a)).2)
    else ({ s with w := (bO l s.w (s.m.r7 - 4) 4 (s.m.reg i.a)).1, m := (s.m.set 7 (s.m.r7 - 4)).to nx }, 0)
  else if (cP l s.w s.m.r7 4).2 ≠ 0 then (s, (cP l s.w s.m.r7 4).2)
  else ({ s with m := ((s.m.set 7 (s.m.r7 + 4)).set i.a (cP l s.w s.m.r7 4).1).to nx }, 0)
def dj (l : List SecV) (s : St) (i : Ins) (nx : UInt32) : St × Int :=
  if i.op = 18 then
    if (bO l s.w (s.m.reg i.b + i.imm) i.width (s.m.reg i.a)).2 ≠ 0 then (s, (bO l s.w (s.m.reg i.b + i.imm) i.width (s.m.reg i.a)).2)
    else ({ s with w := (bO l s.w (s.m.reg i.b + i.imm) i.width (s.m.reg i.a)).1, m := s.m.to nx }, 0)
  else if (cP l s.w (s.m.reg i.b + i.imm) i.width).2 ≠ 0 then (s, (cP l s.w (s.m.reg i.b + i.imm) i.width).2)
  else ({ s with m := (s.m.set i.a (if i.op = 17 then jU (cP l s.w (s.m.reg i.b + i.imm) i.width).1 i.width else (cP l s.w (s.m.reg i.b + i.imm) i.width).1)).to nx }, 0)
def eF (l : List SecV) (s : St) (i : Ins) (nx : UInt32) : St × Int :=
  if i.op = 21 then ({ s with m := s.m.to (s.m.reg i.a) }, 0)
  else if i.op = 22 then
    if (cP l s.w (i.imm + 4 * s.m.reg i.a) 4).2 ≠ 0 then (s, (cP l s.w (i.imm + 4 * s.m.reg i.a) 4).2)
    else ({ s with m := s.m.to (cP l s.w (i.imm + 4 * s.m.reg i.a) 4).1 }, 0)
  else ({ s with m := s.m.to (if em i.cc s.m.f = true then i.imm else nx) }, 0)
def eR (l : List SecV) (s : St) (i : Ins) (nx : UInt32) : St × Int :=
  if i.op = 2 then
    if (cP l s.w s.m.r7 4).2 ≠ 0 then (s, (cP l s.w s.m.r7 4).2)
    else ({ s with m := (s.m.set 7 (s.m.r7 + 4)).to (cP l s.w s.m.r7 4).1, done := decide ((cP l s.w s.m.r7 4).1 = 4294967295) }, 0)
  else if (bO l s.w (s.m.r7 - 4) 4 nx).2 ≠ 0 then (s, (bO l s.w (s.m.r7 - 4) 4 nx).2)
  else ({ s with w := (bO l s.w (s.m.r7 - 4) 4 nx).1, m := (s.m.set 7 (s.m.r7 - 4)).to (if i.op = 24 then s.m.reg i.a else i.imm) }, 0)
def df (inp : List UInt32) (s : St) (i : Ins) (nx : UInt32) : St × Int :=
  if i.op = 26 then
    if inp.length ≤ s.read then (s, 14)
    else ({ s with m := (s.m.set i.a (inp.getD s.read default)).to nx, read := s.read + 1 }, 0)
  else if 4096 ≤ s.out.length then (s, 6)
  else ({ s with m := s.m.to nx, out := s.out ++ [s.m.reg i.a] }, 0)
def cU (l : List SecV) (inp : List UInt32) (s : St) (i : Ins) (nx : UInt32) : St × Int :=
  if i.op = 3 ∨ i.op = 4 then d5 l s i nx else if i.op = 16 ∨ i.op = 17 ∨ i.op = 18 then dj l s i nx else if i.op = 20 ∨ i.op = 21 ∨ i.op = 22 then eF l s i nx
  else if i.op = 23 ∨ i.op = 24 ∨ i.op = 2 then eR l s i nx else if i.op = 26 ∨ i.op = 27 then df inp s i nx else (f6 s i nx, 0)
def dX (l : List SecV) (inp : List UInt32) (s : St) : St × Int :=
  if (dB l s.w s.m.pc).2 ≠ 0 then (s, (dB l s.w s.m.pc).2)
  else if (gv (dB l s.w s.m.pc).1 s.m.pc).2 ≠ 0 then (s, (gv (dB l s.w s.m.pc).1 s.m.pc).2)
  else cU l inp s (gv (dB l s.w s.m.pc).1 s.m.pc).1 (cv (gv (dB l s.w s.m.pc).1 s.m.pc).1)
def stepS (l : List SecV) (inp : List UInt32) (s : St) : St × Int :=
  if s.done = true then (s, 21) else if s.err ≠ 0 then (s, s.err) else ({ (dX l inp s).1 with err := (dX l inp s).2 }, (dX l inp s).2)
def dm (l : List SecV) (inp : List UInt32) : Nat → St → St
  | 0, s => s
  | n + 1, s => if s.done = false ∧ s.err = 0 then dm l inp n (stepS l inp s).1 else s
def da (l : List SecV) (inp : List UInt32) : Nat → St → List UInt32
  | 0, s => []
  | n + 1, s => if s.done = false ∧ s.err = 0 then s.m.pc :: da l inp n (stepS l inp s).1 else []
def sg (e : UInt32) : Mach := ⟨0, 0, 0, 0, 0, 0, 0, 983036, e, ⟨false, false, false, false⟩⟩
def cJ (e : UInt32) : St := ⟨sg e, m8 (fun _ => none) 983036 4294967295 4, 0, [], false, 0⟩
end Go.HL
namespace Go.HL
open Go Go.Sort
open Go.Proofs (ltOf)
theorem rH (a b : UInt32) : (if a < b then b else a).toNat = max a.toNat b.toNat := by
  split <;> rename_i h <;> rw [UInt32.lt_iff_toNat_lt] at h <;> omega
end Go.HL
namespace Go.HL
open Go Go.Sort
theorem rF (a b : UInt32) : (if b < a then b else a).toNat = min a.toNat b.toNat := by
  split <;> rename_i h <;> rw [UInt32.lt_iff_toNat_lt] at h <;> omega
end Go.HL
namespace Go.HL
open Go Go.Sort
theorem t9 (x s : SecV) : kW (eO x) (eO s) = true ↔ ((0 < x.data.length ∧ 0 < s.data.length) ∧ (s.addr.toNat : Int) < jW x) ∧ (x.addr.toNat : Int) < jW s := by
  have h1 := mB x
  have h2 := mB s
  have e1 : (eO x).lo = x.addr := rfl
  have e2 : (eO s).lo = s.addr := rfl
  rw [kW, decide_eq_true_eq, UInt32.lt_iff_toNat_lt, rH, rF, e1, e2]
  unfold jW at *
  omega
theorem ob (s : SecV) : kW (eO s) pM = true ↔ (0 < s.data.length ∧ (s.addr.toNat : Int) < 983040) ∧ 978944 < jW s := by
  have h1 := mB s
  have e1 : (eO s).lo = s.addr := rfl
  have e2 : pM.lo.toNat = 978944 := rfl
  have e3 : pM.hi.toNat = 983040 := rfl
  rw [kW, decide_eq_true_eq, UInt32.lt_iff_toNat_lt, rH, rF, e1, e2, e3]
  unfold jW at *
  omega
def wt (l : List SecV) (a : UInt32) (n : Int) : Int × Bool := if cV l a < 0 then (0, false) else (cV l a, decide (n ≤ jW (l.getD (cV l a).toNat default) - a.toNat))
theorem BU {l : List SecV} {a : UInt32} {n : Int} (h : (wt l a n).2 = false) : qc l a n = (0, 0, 11) := by
  unfold wt at h
  split at h
  · exact yK (by assumption)
  · rename_i h1
    simp only [decide_eq_false_iff_not] at h
    exact yJ h1 (by omega)
theorem yC (c : UInt8) : m9 c = ((((!((decide (97 ≤ c) && decide (c ≤ 122)) || (decide (65 ≤ c) && decide (c ≤ 90)))) && (decide (c < 48) || decide (57 < c))) && decide (c ≠ 95)) && decide (c ≠ 46)) := by
  rw [Bool.eq_iff_iff]
  have e1 : (97 : UInt8).toNat = 97 := rfl
  have e2 : (122 : UInt8).toNat = 122 := rfl
  have e3 : (65 : UInt8).toNat = 65 := rfl
  have e4 : (90 : UInt8).toNat = 90 := rfl
  have e5 : (48 : UInt8).toNat = 48 := rfl
  have e6 : (57 : UInt8).toNat = 57 := rfl
  simp only [m9, AA, Ag, AY, Bool.and_eq_true, Bool.or_eq_true, Bool.not_eq_true', Bool.or_eq_false_iff, Bool.and_eq_false_iff, decide_eq_true_eq, decide_eq_false_iff_not, UInt8.lt_iff_toNat_lt, UInt8.le_iff_toNat_le, e1, e2, e3, e4, e5, e6]
  constructor
  · rintro ⟨⟨h, h2⟩, h3⟩; exact ⟨⟨by omega, h2⟩, h3⟩
  · rintro ⟨⟨h, h2⟩, h3⟩; exact ⟨⟨by omega, h2⟩, h3⟩
end Go.HL
namespace Go.HL
open Go Go.Sort
open Go.Proofs (ltOf)
theorem qp {α β : Type} (f : α → β) (p : β → Bool) : ∀ (l : List α) (k : Nat), eP (fun x => p (f x)) k l = eP p k (l.map f)
  | [], k => rfl
  | x :: l, k => by simp only [eP, List.map_cons, qp f p l (k + 1)]
theorem me {f : Nat → Int} : ∀ (n k : Nat), dQ f k n = 0 → ∀ i, k ≤ i → i < k + n → f i = 0
  | 0, k, _, i, h1, h2 => by omega
  | n + 1, k, h, i, h1, h2 => by
    unfold dQ at h
    split at h
    · rename_i q; exact absurd h q
    · rename_i q
      by_cases e : i = k
      · subst e; simpa using q
      · exact me n (k + 1) h i (by omega) (by omega)
theorem k5 {l : List SecV} (h : dL l = 0) : l.length ≤ 16 ∧ ∀ s ∈ l, s.data.length ≤ 65536 ∧ (s.addr.toNat : Int) + s.data.length ≤ 4294967295 := by
  unfold dL at h
  split at h
  · cases h
  · rename_i h0
    split at h
    · rename_i h1; exact absurd h h1
    · rename_i h1
      refine ⟨by omega, fun s hs => ?_⟩
      obtain ⟨j, hj, rfl⟩ := List.mem_iff_getElem.1 hs
      have h2 := me l.length 0 (by simpa using h1) j (Nat.zero_le _) (by omega)
      have e : l.getD j default = l[j] := by simp [List.getD_eq_getElem?_getD, hj]
      unfold iz at h2
      dsimp only at h2
      rw [e] at h2
      split at h2
      · cases h2
      · rename_i k1
        split at h2
        · cases h2
        · split at h2
          · cases h2
          · split at h2
            · cases h2
            · rename_i k2
              exact ⟨by omega, by have : ¬ (4294967295 : Int) < _ := fun q => k2 (.inl q); omega⟩
end Go.HL
namespace Go.HL
open Go Go.RowKit Go.MapKept
section
variable {α : Type}
def fy : List (UInt32 × α) → UInt32 → Option α
  | [], _ => none
  | p :: t, k => if k = p.1 then some p.2 else fy t k
def lm : List (UInt32 × α) → UInt32 → α → List (UInt32 × α)
  | [], k, x => [(k, x)]
  | p :: t, k, x => if k = p.1 then (k, x) :: t else p :: lm t k x
theorem yU (l : List (UInt32 × α)) (k j : UInt32) (x : α) : fy (lm l k x) j = if j = k then some x else fy l j := by
  induction l with
  | nil => simp [lm, fy]
  | cons p t ih =>
    unfold lm
    by_cases h : k = p.1
    · rw [if_pos h]
      unfold fy
      subst h
      by_cases c : j = p.1 <;> simp [c]
    · rw [if_neg h]
      by_cases c : j = p.1
      · have : ¬ j = k := fun q => h (q.symm.trans c)
        simp [fy, c, this]
        intro q; exact absurd q.symm h
      · simp [fy, c, ih]
theorem xw (l : List (UInt32 × α)) (k : UInt32) (x : α) : (lm l k x).map (·.1) = if (fy l k).isSome then l.map (·.1) else l.map (·.1) ++ [k] := by
  induction l with
  | nil => simp [lm, fy]
  | cons p t ih =>
    unfold lm fy
    by_cases h : k = p.1
    · simp [h]
    · rw [if_neg h, if_neg h, List.map_cons, ih]
      split <;> simp_all
theorem qm {l : List (UInt32 × α)} {k : UInt32} : (fy l k).isSome = true ↔ k ∈ l.map (·.1) := by
  induction l with
  | nil => simp [fy]
  | cons p t ih =>
    unfold fy
    by_cases h : k = p.1
    · simp [h]
    · rw [if_neg h, ih]; simp [h]
theorem yT (l : List (UInt32 × α)) (k : UInt32) (x : α) : (lm l k x).length ≤ l.length + 1 := by
  have := congrArg List.length (xw l k x)
  rw [List.length_map] at this
  split at this <;> simp at this <;> omega
theorem t7 {l : List (UInt32 × α)} (h : (l.map (·.1)).Nodup) {k : UInt32} {x : α} (hm : (k, x) ∈ l) : fy l k = some x := by
  induction l with
  | nil => cases hm
  | cons p t ih =>
    rw [List.map_cons, List.nodup_cons] at h
    unfold fy
    rcases List.mem_cons.1 hm with rfl | hm
    · simp
    · have : ¬ k = p.1 := fun q => h.1 (List.mem_map.2 ⟨_, hm, q⟩)
      rw [if_neg this]; exact ih h.2 hm
theorem t8 {l : List (UInt32 × α)} {k : UInt32} {x : α} (h : fy l k = some x) : (k, x) ∈ l := by
  induction l with
  | nil => simp [fy] at h
  | cons p t ih =>
    unfold fy at h
    split at h
    · rename_i e; cases h; subst e; exact .head _
    · exact .tail _ (ih h)
theorem sy : ∀ (l : List (UInt32 × α)) {j : Nat} {p : UInt32 × α}, (l.map (·.1)).Nodup → l[j]? = some p → fy l p.1 = some p.2 ∧ ∀ x, lm l p.1 x = l.set j (p.1, x)
  | [], j, p, _, h => by simp at h
  | q :: t, 0, p, _, h => by
    simp only [List.getElem?_cons_zero, Option.some.injEq] at h
    subst h
    exact ⟨by simp [fy], fun x => by simp [lm]⟩
  | q :: t, j + 1, p, hn, h => by
    rw [List.map_cons, List.nodup_cons] at hn
    simp only [List.getElem?_cons_succ] at h
    have hne : ¬ p.1 = q.1 := fun e => hn.1 (List.mem_map.2 ⟨p, List.mem_of_getElem? h, e⟩)
    obtain ⟨h1, h2⟩ := sy t hn.2 h
    exact ⟨by rw [fy, if_neg hne]; exact h1, fun x => by rw [lm, if_neg hne, h2 x]; rfl⟩
theorem yS {l : List (UInt32 × α)} {k : UInt32} (h : fy l k = none) (x : α) : lm l k x = l ++ [(k, x)] := by
  induction l with
  | nil => rfl
  | cons p t ih =>
    unfold fy at h
    split at h
    · cases h
    · rename_i hk; rw [lm, if_neg hk, ih h]; rfl
end
def iC (k : UInt32) : Value := .int .u32 (k.toNat : Int)
theorem nJ {a b : UInt32} (h : iC a = iC b) : a = b := by
  unfold iC at h
  injection h with _ h
  exact UInt32.toNat_inj.1 (by omega)
theorem kx (k : UInt32) : IsKey (.int .u32) (iC k) := by simp [IsKey, iC]
structure MapIs {α : Type} (f : α → Value) (l : List (UInt32 × α)) (es : Array MapEntry) (ck : Nat) : Prop where
  st : Stamped es ck
  ents : es.toList.map (fun e => (e.key, e.val)) = l.map fun p => (iC p.1, f p.2)
section
variable {α : Type} {f : α → Value} {l : List (UInt32 × α)} {es : Array MapEntry} {ck : Nat}
theorem MapIs.made : MapIs f [] #[] 0 := ⟨stamped_empty 0, rfl⟩
theorem MapIs.keys (h : MapIs f l es ck) : es.toList.map (·.key) = l.map fun p => iC p.1 := by
  have := congrArg (List.map Prod.fst) h.ents
  rw [List.map_map, List.map_map] at this
  exact this
theorem MapIs.nodup (h : MapIs f l es ck) : (l.map (·.1)).Nodup := by
  have h1 := h.st.2.2
  rw [h.keys] at h1
  have e : (l.map fun p => iC p.1) = (l.map (·.1)).map iC := by rw [List.map_map]; rfl
  rw [e] at h1
  exact List.Pairwise.imp (fun {a b} hne q => hne (by rw [q])) (List.pairwise_map.1 h1)
theorem MapIs.isKey (h : MapIs f l es ck) : ∀ x ∈ es.toList, IsKey (.int .u32) x.key := by
  intro x hx
  have : x.key ∈ es.toList.map (·.key) := List.mem_map.2 ⟨x, hx, rfl⟩
  rw [h.keys] at this
  obtain ⟨p, _, e⟩ := List.mem_map.1 this
  rw [← e]; exact kx _
theorem MapIs.at_ (h : MapIs f l es ck) {j : Nat} {e : MapEntry} (he : es.toList[j]? = some e) : ∃ p, l[j]? = some p ∧ e.key = iC p.1 ∧ e.val = f p.2 := by
  have h1 : (es.toList.map (fun e => (e.key, e.val)))[j]? = some (e.key, e.val) := by rw [List.getElem?_map, he]; rfl
  rw [h.ents, List.getElem?_map] at h1
  cases hl : l[j]? with
  | none => rw [hl] at h1; cases h1
  | some p =>
    rw [hl] at h1
    simp only [Option.map_some, Option.some.injEq, Prod.mk.injEq] at h1
    exact ⟨p, rfl, h1.1.symm, h1.2.symm⟩
theorem MapIs.find (h : MapIs f l es ck) (k : UInt32) :
    (Instr.findNow (.int .u32) (iC k) es.toList 0 = some none ∧ fy l k = none ∧ ∀ x ∈ es.toList, x.key ≠ iC k) ∨
    ∃ (j : Nat) (e : MapEntry) (x : α), Instr.findNow (.int .u32) (iC k) es.toList 0 = some (some (j, f x)) ∧ es.toList[j]? = some e ∧ e.key = iC k ∧ l[j]? = some (k, x) ∧ fy l k = some x := by
  rcases findNow_spec (kx k) es.toList 0 h.isKey with ⟨h1, h2⟩ | ⟨j, e, h1, h2, h3⟩
  · refine .inl ⟨h1, ?_, h2⟩
    cases hg : fy l k with
    | none => rfl
    | some x =>
      exfalso
      have hm := t8 hg
      have : iC k ∈ es.toList.map (·.key) := by rw [h.keys]; exact List.mem_map.2 ⟨_, hm, rfl⟩
      obtain ⟨e, he, hk⟩ := List.mem_map.1 this
      exact h2 e he hk
  · obtain ⟨p, p1, p2, p3⟩ := h.at_ h2
    have hk : p.1 = k := nJ (p2.symm.trans h3)
    obtain ⟨pk, px⟩ := p
    simp only at hk p3
    subst hk
    exact .inr ⟨j, e, px, by rw [h1, p3]; simp, h2, h3, p1, (sy l h.nodup p1).1⟩
theorem MapIs.push (h : MapIs f l es ck) {k : UInt32} (hk : fy l k = none) (x : α) : MapIs f (lm l k x) (es.push { key := iC k, val := f x, born := ck }) (ck + 1) := by
  refine ⟨stamped_push h.st ?_, ?_⟩
  · intro e he q
    have : iC k ∈ es.toList.map (·.key) := List.mem_map.2 ⟨e, he, q⟩
    rw [h.keys] at this
    obtain ⟨p, hp, e⟩ := List.mem_map.1 this
    have h1 := qm.2 (List.mem_map.2 ⟨p, hp, nJ e⟩ : k ∈ l.map (·.1))
    rw [hk] at h1; cases h1
  · rw [yS hk, Array.toList_push, List.map_append, List.map_append, h.ents]; rfl
theorem MapIs.modify (h : MapIs f l es ck) {k : UInt32} {j : Nat} {e : MapEntry} {x0 : α} (he : es.toList[j]? = some e) (hk : e.key = iC k) (hl : l[j]? = some (k, x0)) (x : α) :
    MapIs f (lm l k x) (es.modify j fun e => { e with key := iC k, val := f x }) ck := by
  have hj : es[j]? = some e := by simpa using he
  refine ⟨stamped_modify h.st _ _ (fun _ _ => rfl) (fun e' _ he' => by rw [hj] at he'; cases he'; exact hk.symm), ?_⟩
  rw [(sy l h.nodup hl).2 x]
  have hes := h.ents
  apply List.ext_getElem?
  intro i
  rw [List.getElem?_map, List.getElem?_map, Array.getElem?_toList, Array.getElem?_modify, List.getElem?_set]
  have hi : (es.toList.map (fun e => (e.key, e.val)))[i]? = (l.map fun p => (iC p.1, f p.2))[i]? := by rw [hes]
  rw [List.getElem?_map, List.getElem?_map, Array.getElem?_toList] at hi
  by_cases c : j = i
  · subst c
    have hlt : j < l.length := (List.getElem?_eq_some_iff.1 hl).1
    simp [hj, hlt]
  · simp only [c, if_false]; exact hi
end
def mapE {α : Type} (b : Nat) (f : α → Value) (l : List (UInt32 × α)) : Ent := ⟨some b, fun o => ∃ es ck, o = some (.map es ck) ∧ MapIs f l es ck⟩
def MapIn {α : Type} (h : Hp) (b : Nat) (f : α → Value) (l : List (UInt32 × α)) : Prop := ∃ es ck, h b = some (.map es ck) ∧ MapIs f l es ck
theorem MapIn.mono {α : Type} {h k : Hp} {b : Nat} {f : α → Value} {l : List (UInt32 × α)} (m : MapIn h b f l) (hk : Hp.le h k) : MapIn k b f l := by
  obtain ⟨es, ck, h1, h2⟩ := m
  exact ⟨es, ck, hk _ _ h1, h2⟩
theorem mapE.in_ {α : Type} {b : Nat} {f : α → Value} {l : List (UInt32 × α)} {w : World} (h : (mapE b f l).holds w) : MapIn (hp w) b f l := by
  obtain ⟨es, ck, h1, h2⟩ := h
  exact ⟨es, ck, h1, h2⟩
def xu {α : Type} (f : α → Value) (z : Value) : Option α → Value
  | some x => f x
  | none => z
section
variable {P : Program} {ops : Array Oper} {Q : Exit → Act → World → Prop} {N : Nat} {F : Bg} {L : List Ent} {M : Fr} {dst : Option Tmp} {ty : TypeId} {pos : String} {after : Array Edge} {g : Option (Nat × Bool)} {rest : List Oper} {d : Nat}
theorem ve {α : Type} {f : α → Value} {l : List (UInt32 × α)} {w : World} {t K e : TypeId} {z : Value} {b : Nat} (ht : P.underlying t = some (.map K e)) (hK : P.underlying K = some (.int .u32)) (hz : ∀ w, (zeroValue e).run P w = .ok z w)
    (hm : MapIn (HL.hp w) b f l) (k : UInt32) (c : Bool) : (Instr.lookup t (.map (some b)) (iC k) c).run P w = .ok (if c then .tuple #[xu f z (fy l k), .bool (fy l k).isSome] else xu f z (fy l k)) w := by
  obtain ⟨es, ck, hb, hm⟩ := hm
  replace hb : w.heap[b]? = some (.map es ck) := hb
  rcases hm.find k with ⟨h1, h2, _⟩ | ⟨j, e0, x, h1, _, _, _, h2⟩
  · cases c <;> simp [Instr.lookup, run_underlying ht, Go.MapKept.run_getObj_map hb, run_checkKey hK (kx k), run_findKey hK h1, hz, Result.andThen, h2, xu]
  · cases c <;> simp [Instr.lookup, run_underlying ht, Go.MapKept.run_getObj_map hb, run_checkKey hK (kx k), run_findKey hK h1, hz, Result.andThen, h2, xu]
theorem vO {α : Type} {f : α → Value} {l : List (UInt32 × α)} {x y : Operand} {t K e : TypeId} {z : Value} {b : Nat} {k : UInt32} (hx : opv M x = some (.map (some b))) (hy : opv M y = some (.int .u32 k.toNat)) (hm : MapIn F.blk b f l)
    (ht : P.underlying t = some (.map K e)) (hK : P.underlying K = some (.int .u32)) (hz : ∀ w, (zeroValue e).run P w = .ok z w) : QS P N F L M ⟨dst, .lookup t x y true, ty, pos, after, g⟩ (.tuple #[xu f z (fy l k), .bool (fy l k).isSome]) :=
  cu fun a w ha hw => by
    have hr := ve (P := P) ht hK hz (hm.mono hw.bg) k true
    simp only [iC] at hr
    simp [execOp, ha.eval hx, ha.eval hy, hr]
theorem vH {α : Type} (f : α → Value) {t : TypeId} (hd : Nat.ble (d + 1) N = true)
    (k : ∀ b, Tr N F (mapE b f [] :: L) ((d, .map (some b)) :: M) (wpList P ops Q rest)) : Tr N F L M (wpList P ops Q (⟨some d, .makeMap t none, ty, pos, after, none⟩ :: rest)) := by
  intro a w ha hw
  refine wpList_plain rfl fun K hK => ?_
  unfold Oper.wp
  have hr : (execOp a.eval ⟨some d, .makeMap t none, ty, pos, after, none⟩).run P w = .ok (.value (.map (some w.heap.size))) (w.alloc (.map #[] 0)) := by simp [execOp, Instr.makeMap]
  rw [hr]
  exact hK _ _ (k w.heap.size _ _ (ha.put (Nat.le_of_ble_eq_true hd)) (hw.alloc _ _ ⟨#[], 0, rfl, MapIs.made⟩))
theorem uR {α : Type} {f : α → Value} {l : List (UInt32 × α)} {w : World} {t K e : TypeId} {b : Nat} (ht : P.underlying t = some (.map K e)) (hK : P.underlying K = some (.int .u32)) (hm : MapIn (HL.hp w) b f l) (k : UInt32) (x : α) :
    ∃ es ck, (Instr.mapUpdate t (.map (some b)) (iC k) (f x)).run P w = .ok () { w with heap := w.heap.setIfInBounds b (.map es ck) } ∧ MapIs f (lm l k x) es ck := by
  obtain ⟨es, ck, hb, hm⟩ := hm
  replace hb : w.heap[b]? = some (.map es ck) := hb
  rcases hm.find k with ⟨h1, h2, h3⟩ | ⟨j, e0, x0, h1, h2, h3, h4, h5⟩
  · exact ⟨_, _, by simp [Instr.mapUpdate, run_underlying ht, Go.MapKept.run_getObj_map hb, run_checkKey hK (kx k), run_findKey hK h1, run_setObj_map _ hb, Result.andThen], hm.push h2 x⟩
  · have hj : es[j]? = some e0 := by simpa using h2
    exact ⟨_, _, by simp [Instr.mapUpdate, run_underlying ht, Go.MapKept.run_getObj_map hb, run_checkKey hK (kx k), run_findKey hK h1, hj, h3, run_keyThatStays (kx k), run_setObj_map _ hb, Result.andThen], hm.modify h2 h3 h4 x⟩
theorem sS {α : Type} {f : α → Value} {l : List (UInt32 × α)} (x0 : α) {x y v : Operand} {t K e : TypeId} {b : Nat} {k : UInt32} {L' : List Ent} {dst : Option Tmp} (hx : opv M x = some (.map (some b))) (hy : opv M y = some (.int .u32 k.toNat)) (hv : opv M v = some (f x0))
    (hput : Put (mapE b f l) (mapE b f (lm l k x0)) L L') (ht : P.underlying t = some (.map K e)) (hK : P.underlying K = some (.int .u32)) (hdst : dst = none)
    (Kk : Tr N F L' M (wpList P ops Q rest)) : Tr N F L M (wpList P ops Q (⟨dst, .mapUpdate t x y v, ty, pos, after, none⟩ :: rest)) := by
  subst hdst
  intro a w ha hw
  refine wpList_plain rfl fun K' hK' => ?_
  have hent := hw.ent _ hput.mem
  have hin : MapIn (HL.hp w) b f l := mapE.in_ hent
  obtain ⟨es0, ck0, hb, _⟩ := hin
  have hb' : w.heap[b]? = some (.map es0 ck0) := hb
  obtain ⟨es, ck, hr, hM⟩ := uR (P := P) ht hK (mapE.in_ hent) k x0
  simp only [iC] at hr
  unfold Oper.wp
  simp only [execOp, ha.eval hx, ha.eval hy, ha.eval hv, Sem.run_bind, hr, Result.andThen_ok, Sem.run_pure, Oper.upon, Act.put]
  refine hK' _ _ (Kk _ _ ha ?_)
  have hset := heap_set (o' := .map es ck) hb'
  exact HpOK.set hw hput rfl rfl rfl (by simp) (Nat.le_refl _) (fun k _ hkb => hset.2 k hkb) ⟨es, ck, hset.1, hM⟩
end
end Go.HL
namespace Go.HL
open Go Go.RowKit
inductive Split : List Ent → List Ent → List Ent → Prop
  | nil (L : List Ent) : Split L [] L
  | cons {e : Ent} {L L1 Lo R : List Ent} (h : Del e L L1) (k : Split L1 Lo R) : Split L (e :: Lo) R
theorem Split.perm {L Lo R : List Ent} (h : Split L Lo R) : L.Perm (Lo ++ R) := by
  induction h with
  | nil L => exact .refl _
  | cons h _ ih => exact h.perm.trans (ih.cons _)
structure OwnAt (w : World) (L : List Ent) : Prop where
  ent : ∀ e ∈ L, e.holds w
  nodup : (cg L).Nodup
  lt : ∀ b ∈ cg L, b < w.heap.size
theorem HpOK.ownAt {F : Bg} {L : List Ent} {w : World} (h : HpOK F L w) : OwnAt w L := ⟨h.ent, h.nodup, h.lt⟩
theorem OwnAt.left {w : World} {A B : List Ent} (h : OwnAt w (A ++ B)) : OwnAt w A := by
  have hb : cg (A ++ B) = cg A ++ cg B := List.filterMap_append
  exact ⟨fun e he => h.ent e (List.mem_append_left _ he), (List.nodup_append.1 (hb ▸ h.nodup)).1, fun b m => h.lt b (by rw [hb]; exact List.mem_append_left _ m)⟩
def Bg.lessB (w : World) (bs : List Nat) (d : Nat) : Bg := ⟨fun b => if b ∈ bs then none else w.heap[b]?, w.heap.size, d, w.os, w.tape, w.output, 0, Nat.zero_le _⟩
theorem OwnAt.start {w : World} {L : List Ent} {d : Nat} (h : OwnAt w L) (hd : d ≤ w.drawn) : HpOK (Bg.lessB w (cg L) d) L w := by
  refine ⟨rfl, rfl, rfl, Nat.le_refl _, hd, fun b o e => ?_, h.ent, h.nodup, h.lt, fun b m => ⟨?_, Nat.zero_le _⟩⟩
  · have e' : (if b ∈ cg L then none else w.heap[b]?) = some o := e
    split at e'
    · cases e'
    · exact e'
  · show (if b ∈ cg L then none else w.heap[b]?) = none
    rw [if_pos m]
theorem HpOK.lessB {F : Bg} {L Lo R : List Ent} {w : World} {d : Nat} (h : HpOK F L w) (hs : Split L Lo R) : Hp.le F.blk (Bg.lessB w (cg Lo) d).blk := fun b o e => by
  show (if b ∈ cg Lo then none else w.heap[b]?) = some o
  rw [if_neg, h.bg b o e]
  intro m
  have hb : cg (Lo ++ R) = cg Lo ++ cg R := List.filterMap_append
  have := (h.perm hs.perm.symm).sep b (by rw [hb]; exact List.mem_append_left _ m)
  rw [this.1] at e; cases e
structure Upd (d : Nat) (w w' : World) (bs : List Nat) (Ls : List Ent) : Prop where
  os : w'.os = w.os
  tape : w'.tape = w.tape
  output : w'.output = w.output
  size : w.heap.size ≤ w'.heap.size
  dr : d ≤ w'.drawn
  block : ∀ k, k < w.heap.size → k ∉ bs → w'.heap[k]? = w.heap[k]?
  ent : ∀ e ∈ Ls, e.holds w'
  nodup : (cg Ls).Nodup
  lt : ∀ b ∈ cg Ls, b < w'.heap.size
  own : ∀ b ∈ cg Ls, b ∈ bs ∨ w.heap.size ≤ b
theorem HpOK.upd {F : Bg} {L Ls : List Ent} {w w' : World} {bs : List Nat} {d : Nat} (h : HpOK F L w') (hF : (Bg.lessB w bs d).le F) (hs : Pick L Ls) : Upd d w w' bs Ls := by
  have h' := hs.heap h
  refine ⟨h.os.trans hF.os, h.tape.trans hF.tape, h.out.trans hF.out, Nat.le_trans hF.n h.n, by have := h.dr; rw [hF.dr] at this; exact this, fun k hk hn => ?_, h'.ent, h'.nodup, h'.lt, fun b hb => ?_⟩
  · have e : (Bg.lessB w bs d).blk k = some w.heap[k] := by
      show (if k ∈ bs then none else w.heap[k]?) = _
      rw [if_neg hn]; simp [hk]
    rw [h.bg k _ (hF.blk k _ e)]; simp [hk]
  · by_cases hm : b ∈ bs
    · exact .inl hm
    · right
      rcases Nat.lt_or_ge b w.heap.size with hlt | hge
      · have e : (Bg.lessB w bs d).blk b = some w.heap[b] := by
          show (if b ∈ bs then none else w.heap[b]?) = _
          rw [if_neg hm]; simp [hlt]
        have := (h'.sep b hb).1
        rw [hF.blk b _ e] at this; cases this
      · exact hge
theorem HpOK.updated {F : Bg} {Lo R Ls : List Ent} {w w' : World} {d : Nat} (h : HpOK F (Lo ++ R) w) (hd : F.dr ≤ d) (u : Upd d w w' (cg Lo) Ls) : HpOK F (Ls ++ R) w' := by
  have hb : cg (Lo ++ R) = cg Lo ++ cg R := List.filterMap_append
  have hb' : cg (Ls ++ R) = cg Ls ++ cg R := List.filterMap_append
  have hnd := List.nodup_append.1 (hb ▸ h.nodup)
  have notR : ∀ b ∈ cg R, b ∉ cg Lo := fun b hr hl => hnd.2.2 b hl b hr rfl
  have ltR : ∀ b ∈ cg R, b < w.heap.size := fun b hr => h.lt b (by rw [hb]; exact List.mem_append_right _ hr)
  refine ⟨u.os.trans h.os, u.tape.trans h.tape, u.output.trans h.out, Nat.le_trans h.n u.size, Nat.le_trans hd u.dr, fun b o e => ?_, fun e he => ?_, ?_, fun b m => ?_, fun b m => ?_⟩
  · have h1 := h.bg b o e
    rw [u.block b (Array.getElem?_eq_some_iff.1 h1).1 (fun m => by
      have := (h.sep b (by rw [hb]; exact List.mem_append_left _ m)).1
      rw [this] at e; cases e)]
    exact h1
  · rcases List.mem_append.1 he with he | he
    · exact u.ent e he
    · have hh := h.ent e (List.mem_append_right _ he)
      unfold Ent.holds at *
      cases hk : e.blk with
      | none => rw [hk] at hh; exact hh
      | some b =>
        rw [hk] at hh
        simp only [Option.bind_some] at *
        have hm : b ∈ cg R := List.mem_filterMap.2 ⟨e, he, hk⟩
        rw [u.block b (ltR b hm) (notR b hm)]; exact hh
  · rw [hb', List.nodup_append]
    refine ⟨u.nodup, hnd.2.1, fun a ha b hr e => ?_⟩
    subst e
    rcases u.own a ha with m | m
    · exact notR a hr m
    · have := ltR a hr; omega
  · rw [hb'] at m
    rcases List.mem_append.1 m with m | m
    · exact u.lt b m
    · exact Nat.lt_of_lt_of_le (ltR b m) u.size
  · rw [hb'] at m
    rcases List.mem_append.1 m with m | m
    · rcases u.own b m with q | q
      · exact h.sep b (by rw [hb]; exact List.mem_append_left _ q)
      · refine ⟨?_, Nat.le_trans (Nat.le_trans F.lo_le h.n) q⟩
        cases hF : F.blk b with
        | none => rfl
        | some o =>
          have := h.bg _ _ hF
          have := (Array.getElem?_eq_some_iff.1 this).1
          omega
    · exact h.sep b (by rw [hb]; exact List.mem_append_right _ m)
section
variable {P : Program} {ops : Array Oper} {Q : Exit → Act → World → Prop} {N : Nat} {F : Bg} {L : List Ent} {M : Fr} {ty : TypeId} {pos : String} {after : Array Edge} {rest : List Oper} {d : Nat}
theorem ik {L : List Ent} {bs : List Nat} {f : FuncId} {fn : Func} {c : Code} {args : List Value} {w : World} {R : Ending → World → Prop} {dd : Nat} (ho : OwnAt w L) (hbs : cg L = bs) (hdd : dd ≤ w.drawn) (hf : P.funcs[f]? = some fn) (hb : fn.body = some c) (hN : fn.ntmps = N) (hle : Nat.ble args.length N = true)
    (h : Tr N (Bg.lessB w bs dd) L (j6 0 args) (c.wp P (bodyPost P fn R))) (hN0 : Nat.ble N mk0 = true := by rfl) : Calls P f args.toArray w R := by
  subst hbs
  exact calls_of_wp hf hb (h _ w (mc (by rw [hN]; simp) hle hN0) (ho.start hdd))
theorem vL {ι : Type} (φ : ι → Value) (Lo : List Ent) (Ls : ι → List Ent) {ok : ι → Prop} {f : FuncId} {xs : List Operand} {vs : List Value} {ts : Array TypeId} {R : List Ent} {dd : World → Nat} {dst : Option Tmp} (hx : kN M xs = some vs)
    (he : ∀ (args : Array Value) (w : World), (callFunc f args).run P w = .ok (.enter f args) w) (hs : Split L Lo R) (hdd : ∀ w, HpOK F L w → F.dr ≤ dd w)
    (hc : ∀ w, HpOK F L w → Calls P f vs.toArray w fun e w' => ∃ i, e = .returned (φ i) ∧ Upd (dd w) w w' (cg Lo) (Ls i) ∧ ok i)
    (K : ∀ i, ok i → ∀ a w, FrOK N M a → HpOK F (Ls i ++ R) w → wpList P ops Q rest (a.put dst (φ i)) w) :
    Tr N F L M (wpList P ops Q (⟨dst, .call { callee := .value (.func f), args := xs.toArray, argTypes := ts }, ty, pos, after, none⟩ :: rest)) := by
  intro a w ha hw
  refine wpList_plain rfl fun K' hK => ?_
  have hr : (execOp a.eval ⟨dst, .call { callee := .value (.func f), args := xs.toArray, argTypes := ts }, ty, pos, after, none⟩).run P w = .ok (.enter f vs.toArray) w := by
    have := ha.evals hx
    simp [execOp, resolve, Deferred.ofValue, Act.eval, invoke, he, this]
  unfold Oper.wp
  rw [hr]
  refine (hc w hw).mono fun e w' ⟨i, h1, h2, h3⟩ => ?_
  subst h1
  exact hK _ _ (K i h3 _ _ ha ((hw.perm hs.perm.symm).updated (hdd w hw) h2))
theorem cT {ι : Type} (φ : ι → Value) (Lo : List Ent) (Ls : ι → List Ent) {ok : ι → Prop} {f : FuncId} {xs : List Operand} {vs : List Value} {ts : Array TypeId} {R : List Ent} {dd : World → Nat} (hx : kN M xs = some vs)
    (he : ∀ (args : Array Value) (w : World), (callFunc f args).run P w = .ok (.enter f args) w) (hs : Split L Lo R) (hdd : ∀ w, HpOK F L w → F.dr ≤ dd w)
    (hc : ∀ w, HpOK F L w → Calls P f vs.toArray w fun e w' => ∃ i, e = .returned (φ i) ∧ Upd (dd w) w w' (cg Lo) (Ls i) ∧ ok i) (hd : Nat.ble (d + 1) N = true)
    (K : ∀ i, ok i → Tr N F (Ls i ++ R) ((d, φ i) :: M) (wpList P ops Q rest)) :
    Tr N F L M (wpList P ops Q (⟨some d, .call { callee := .value (.func f), args := xs.toArray, argTypes := ts }, ty, pos, after, none⟩ :: rest)) :=
  vL φ Lo Ls hx he hs hdd hc fun i hi a w ha hw => K i hi _ _ (ha.put (Nat.le_of_ble_eq_true hd)) hw
end
end Go.HL
namespace Go.HL
open Go Go.RowKit
def Bg.of0 (w : World) : Bg := { Bg.of w with dr := 0 }
theorem HpOK.start0 (w : World) : HpOK (Bg.of0 w) [] w :=
  ⟨rfl, rfl, rfl, Nat.le_refl _, Nat.zero_le _, fun _ _ h => h, fun _ h => (by cases h), (by simp [cg]), fun _ h => (by simp [cg] at h), fun _ h => (by simp [cg] at h)⟩
theorem HpOK.below0 {w0 w : World} {F : Bg} {L : List Ent} (h : HpOK F L w) (hF : (Bg.of0 w0).le F) : Below w0.heap.size w0 w :=
  ⟨h.os.trans hF.os, h.tape.trans hF.tape, h.out.trans hF.out, Nat.le_trans hF.n h.n, fun k hk => by
    have e : (Bg.of0 w0).blk k = some w0.heap[k] := by simp [Bg.of0, Bg.of, hk]
    rw [h.bg k _ (hF.blk k _ e)]; simp [hk]⟩
theorem HpOK.weaken {F G : Bg} {L : List Ent} {w : World} (h : HpOK G L w) (hF : F.le G) : HpOK F L w :=
  ⟨h.os.trans hF.os, h.tape.trans hF.tape, h.out.trans hF.out, Nat.le_trans hF.n h.n, by rw [← hF.dr]; exact h.dr, fun b o e => h.bg b o (hF.blk b o e), h.ent, h.nodup, h.lt, fun b hb => by
    refine ⟨?_, by rw [← hF.lo]; exact (h.sep b hb).2⟩
    cases e : F.blk b with
    | none => rfl
    | some o =>
      have h2 := hF.blk b o e
      rw [(h.sep b hb).1] at h2
      cases h2⟩
section
variable {P : Program} {ops : Array Oper} {Q : Exit → Act → World → Prop} {N : Nat} {F : Bg} {L : List Ent} {M : Fr} {l0 n : Nat}
end
section
variable {P : Program} {Q : Exit → Act → World → Prop} {N : Nat} {F : Bg} {L : List Ent} {M : Fr}
end
section
variable {P : Program} {N : Nat} {F : Bg} {L : List Ent} {M : Fr}
end
section
variable {P : Program} {Q : Exit → Act → World → Prop} {N : Nat} {F : Bg} {L : List Ent} {M : Fr}
theorem mf {f : FuncId} {fn : Func} {c : Code} {args : List Value} {w : World} {R : Ending → World → Prop} (hf : P.funcs[f]? = some fn) (hb : fn.body = some c) (hN : fn.ntmps = N) (hle : Nat.ble args.length N = true)
    (h : Tr N (Bg.of0 w) [] (j6 0 args) (c.wp P (bodyPost P fn R))) (hN0 : Nat.ble N mk0 = true := by rfl) : Calls P f args.toArray w R :=
  calls_of_wp hf hb (h _ w (mc (by rw [hN]; simp) hle hN0) (HpOK.start0 w))
end
section
open Classical
end
section
variable {P : Program} {N : Nat} {F : Bg} {L : List Ent} {M : Fr}
end
theorem HpOK.ents0 {F : Bg} {L : List Ent} {w w' : World} {Ls : List Ent} (h : HpOK F L w') (hl : F.lo = w.heap.size) (hs : Pick L Ls) : NewEnts w w' Ls := by
  have h' := hs.heap h
  refine ⟨h'.ent, h'.nodup, h'.lt, fun b hb => ?_⟩
  rw [← hl]; exact (h'.sep b hb).2
end Go.HL
namespace Go.HL
open Go Go.RowKit
section
variable {P : Program} {ops : Array Oper} {Q : Exit → Act → World → Prop} {N : Nat} {F : Bg} {L : List Ent} {M : Fr} {ty : TypeId} {pos : String} {after : Array Edge} {rest : List Oper} {d : Nat} {dst : Option Tmp} {g : Option (Nat × Bool)}
def yD (w w' : World) : World := { w' with drawn := max w.drawn w'.drawn }
theorem qw {w w' : World} (h : Below w.heap.size w w') : Ext w (yD w w') := ⟨⟨h.os, h.tape, h.output, h.size, h.block⟩, Nat.le_max_left _ _⟩
theorem HpOK.redrew {w w' : World} (h : HpOK F L (HL.yD w w')) (h0 : F.dr = 0) : HpOK F L w' := ⟨h.os, h.tape, h.out, h.n, by rw [h0]; exact Nat.zero_le _, h.bg, h.ent, h.nodup, h.lt, h.sep⟩
theorem HpOK.grow0 {w w' : World} (h : HpOK F L w) (hb : Below w.heap.size w w') (h0 : F.dr = 0) : HpOK F L w' := (h.grow (qw hb)).redrew h0
theorem kK {f : FuncId} {xs : List Operand} {vs : List Value} {ts : Array TypeId} {v : Value} (h0 : F.dr = 0) (hx : kN M xs = some vs)
    (he : ∀ (args : Array Value) (w : World), (callFunc f args).run P w = .ok (.enter f args) w)
    (hc : ∀ w, HpOK F L w → Calls P f vs.toArray w fun e w' => e = .returned v ∧ Below w.heap.size w w') :
    QS P N F L M ⟨dst, .call { callee := .value (.func f), args := xs.toArray, argTypes := ts }, ty, pos, after, g⟩ v := by
  intro a w ha hw
  have hr : (execOp a.eval ⟨dst, .call { callee := .value (.func f), args := xs.toArray, argTypes := ts }, ty, pos, after, g⟩).run P w = .ok (.enter f vs.toArray) w := by
    have := ha.evals hx
    simp [execOp, resolve, Deferred.ofValue, Act.eval, invoke, he, this]
  unfold Oper.quietAt
  rw [hr]
  exact ⟨rfl, (hc w hw).mono fun e w' ⟨h1, h2⟩ => ⟨h1, hw.grow0 h2 h0⟩⟩
theorem nU {ι : Type} (φ : ι → Value) (Ls : ι → List Ent) {ok : ι → Prop} {f : FuncId} {xs : List Operand} {vs : List Value} {ts : Array TypeId} (h0 : F.dr = 0) (hx : kN M xs = some vs)
    (he : ∀ (args : Array Value) (w : World), (callFunc f args).run P w = .ok (.enter f args) w)
    (hc : ∀ w, HpOK F L w → Calls P f vs.toArray w fun e w' => ∃ i, e = .returned (φ i) ∧ Below w.heap.size w w' ∧ NewEnts w w' (Ls i) ∧ ok i) (hd : Nat.ble (d + 1) N = true)
    (K : ∀ i, ok i → Tr N F (Ls i ++ L) ((d, φ i) :: M) (wpList P ops Q rest)) :
    Tr N F L M (wpList P ops Q (⟨some d, .call { callee := .value (.func f), args := xs.toArray, argTypes := ts }, ty, pos, after, none⟩ :: rest)) := by
  intro a w ha hw
  refine wpList_plain rfl fun K' hK => ?_
  have hr : (execOp a.eval ⟨some d, .call { callee := .value (.func f), args := xs.toArray, argTypes := ts }, ty, pos, after, none⟩).run P w = .ok (.enter f vs.toArray) w := by
    have := ha.evals hx
    simp [execOp, resolve, Deferred.ofValue, Act.eval, invoke, he, this]
  unfold Oper.wp
  rw [hr]
  refine (hc w hw).mono fun e w' ⟨i, h1, h2, h3, h4⟩ => ?_
  subst h1
  have hn : NewEnts w (yD w w') (Ls i) := ⟨h3.ent, h3.nodup, h3.lt, h3.ge⟩
  exact hK _ _ (K i h4 _ _ (ha.put (Nat.le_of_ble_eq_true hd)) ((hw.newEnts (qw h2) hn).redrew h0))
end
end Go.HL
namespace Go.HL
open Go Go.RowKit
def vis (H : Hp) (n : Nat) (h : Hp) : Hp := fun b => if b < n then H b else h b
theorem lg {H h : Hp} {n : Nat} (hH : Hp.le H h) : Hp.le (vis H n h) h := fun b o e => by
  unfold vis at e; split at e
  · exact hH b o e
  · exact e
theorem bV {H h h' : Hp} {n : Nat} (hh : Hp.le h h') : Hp.le (vis H n h) (vis H n h') := fun b o e => by
  unfold vis at e ⊢; split at e
  · rw [if_pos (by assumption)]; exact e
  · rw [if_neg (by assumption)]; exact hh b o e
theorem mG {H h : Hp} {w : World} (hH : Hp.le H (hp w)) : Hp.le H (vis H w.heap.size h) := fun b o e => by
  have : w.heap[b]? = some o := hH b o e
  unfold vis
  rw [if_pos (Array.getElem?_eq_some_iff.1 this).1]; exact e
section
variable {P : Program} {ops : Array Oper} {Q : Exit → Act → World → Prop} {N : Nat} {F : Bg} {L : List Ent} {M : Fr} {dst : Option Tmp} {ty : TypeId} {pos : String} {after : Array Edge} {g : Option (Nat × Bool)} {rest : List Oper} {d : Nat}
theorem fK {ι : Type} {R : Hp → ι → Prop} (φ : ι → Value) {H0 : Hp} {n : Nat} (hn : F.lo = n) (hH : Hp.le H0 F.blk) {f : FuncId} {xs : List Operand} {vs : List Value} {ts : Array TypeId} (hR : ∀ h h' i, Hp.le h h' → R h i → R h' i) (hx : kN M xs = some vs)
    (he : ∀ (args : Array Value) (w : World), (callFunc f args).run P w = .ok (.enter f args) w)
    (hc : ∀ w, HpOK F L w → Hp.le (vis H0 n F.blk) (HL.hp w) → Calls P f vs.toArray w fun e w' => ∃ i, e = .returned (φ i) ∧ Ext w w' ∧ R (vis (vis H0 n F.blk) w.heap.size (HL.hp w')) i) (hd : Nat.ble (d + 1) N = true)
    (K : ∀ i F', F.le F' → R (vis H0 n F'.blk) i → Tr N F' L ((d, φ i) :: M) (wpList P ops Q rest)) :
    Tr N F L M (wpList P ops Q (⟨some d, .call { callee := .value (.func f), args := xs.toArray, argTypes := ts }, ty, pos, after, none⟩ :: rest)) := by
  subst hn
  intro a w ha hw
  refine wpList_plain rfl fun K' hK => ?_
  have hr : (execOp a.eval ⟨some d, .call { callee := .value (.func f), args := xs.toArray, argTypes := ts }, ty, pos, after, none⟩).run P w = .ok (.enter f vs.toArray) w := by
    have := ha.evals hx
    simp [execOp, resolve, Deferred.ofValue, Act.eval, invoke, he, this]
  unfold Oper.wp
  rw [hr]
  refine (hc w hw ((lg hH).trans hw.hp)).mono fun e w' ⟨i, h1, h2, h3⟩ => ?_
  subst h1
  obtain ⟨F', e1, e2, e3⟩ := (hw.grow h2).freeze
  refine hK _ _ (K i F' e1 (hR _ _ _ ?_ h3) _ _ (ha.put (Nat.le_of_ble_eq_true hd)) e2)
  intro b o e
  unfold vis at e ⊢
  by_cases c : b < w.heap.size
  · rw [if_pos c] at e
    split at e
    · rw [if_pos (by assumption)]; exact e
    · rw [if_neg (by assumption)]; exact e1.blk b o e
  · rw [if_neg c] at e
    have hge : ¬ b < F.lo := by have := F.lo_le; have := hw.n; omega
    rw [if_neg hge]
    exact e3 b o (fun hm => by have := hw.lt b hm; omega) e
theorem vJ {α : Type} {V : Value} {T : TypeId} {E : Enc α} {l : List α} {L1 : List Ent} {X : Act → World → Prop} {H0 : Hp} {n : Nat} (hn : F.lo = n) (hV : Del (rowE V T E l) L L1) (K : ∀ F', F.le F' → Sl (vis H0 n F'.blk) E l V → Tr N F' L1 M X) : Tr N F L M X := by
  subst hn
  intro a w ha hw
  have hf := hw.front hV
  have h1 : HpOK F L1 w := hf.mem (List.sublist_cons_self _ _)
  obtain ⟨F', e1, e2, e3⟩ := h1.freeze
  refine K F' e1 ?_ a w ha e2
  have hr : RowOK V T E l (V.ownBlock.bind (w.heap[·]?)) := hf.ent _ (.head _)
  rcases hr with ⟨rfl, rfl⟩ | ⟨gb, cap, cur, rfl, ho, k1, k2, k3, k4⟩
  · exact Sl.nil _ _
  · refine RowOK.sl (T := T) (.inr ⟨gb, cap, cur, rfl, ?_, k1, k2, k3, k4⟩)
    have hm : gb ∈ cg (rowE (.slice (some ⟨gb, 0, none⟩) l.length cap) T E l :: L1) := by rw [kj (b := gb) rfl]; exact .head _
    have hlo := (hf.sep gb hm).2
    show vis H0 F.lo F'.blk gb = _
    unfold vis
    rw [if_neg (by omega)]
    refine e3 gb _ ?_ ho
    have := hf.nodup
    rw [kj (b := gb) rfl, List.nodup_cons] at this
    exact this.1
theorem vK {Ls R : List Ent} {X : Act → World → Prop} (hs : Split L Ls R) (K : ∀ F', F.le F' → (∀ e ∈ Ls, e.ok (e.blk.bind F'.blk)) → Tr N F' R M X) : Tr N F L M X := by
  intro a w ha hw
  have hp := hw.perm hs.perm.symm
  have h1 : HpOK F R w := hp.mem (List.sublist_append_right _ _)
  obtain ⟨F', e1, e2, e3⟩ := h1.freeze
  refine K F' e1 (fun e he => ?_) a w ha e2
  have hh := hp.ent e (List.mem_append_left _ he)
  unfold Ent.holds at hh
  cases hk : e.blk with
  | none => rw [hk] at hh; exact hh
  | some b =>
    rw [hk] at hh
    simp only [Option.bind_some] at hh ⊢
    have hbl : cg (Ls ++ R) = cg Ls ++ cg R := List.filterMap_append
    have hnd := List.nodup_append.1 (hbl ▸ hp.nodup)
    have hb : b ∈ cg Ls := List.mem_filterMap.2 ⟨e, he, hk⟩
    have hnot : b ∉ cg R := fun hr => hnd.2.2 b hb b hr rfl
    have hlt := hp.lt b (by rw [hbl]; exact List.mem_append_left _ hb)
    have hsome : w.heap[b]? = some w.heap[b] := by simp [hlt]
    rw [e3 b _ hnot hsome, ← hsome]; exact hh
theorem cellE.cellsInL {b : Nat} {cs : List Value} {T : TypeId} {h : Hp} {Ls : List Ent} (k : ∀ e ∈ Ls, e.ok (e.blk.bind h)) (hm : cellE b cs T ∈ Ls) : CellsIn h b cs := by
  have hk := k _ hm
  exact ⟨cs.toArray, T, (0, 0), hk, fun j v hv => by simpa using hv⟩
end
end Go.HL
namespace Go.HL
open Go
structure RegV where
  org : Nat
  data : List UInt8
  dp : Option Addr
  dc : Nat
  wr : Bool
  ex : Bool
  deriving Inhabited
def cD : Enc RegV := ⟨4, fun r => [.int .u64 r.org, .slice r.dp r.data.length r.dc, .bool r.wr, .bool r.ex], fun _ => rfl, fun x v h => by simp at h; rcases h with h | h | h | h <;> subst h <;> rfl⟩
def vU : RegV := ⟨0, [], none, 0, false, false⟩
def RegIn (h : Hp) (l : List RegV) : Prop := ∀ r ∈ l, Sl h dH r.data (.slice r.dp r.data.length r.dc)
theorem RegIn.mono {h h' : Hp} {l : List RegV} (d : RegIn h l) (hh : Hp.le h h') : RegIn h' l := fun s hs => (d s hs).mono hh
structure Reg where
  org : Nat
  data : List UInt8
  wr : Bool
  ex : Bool
def RegV.pl (r : RegV) : Reg := ⟨r.org, r.data, r.wr, r.ex⟩
def qR (s : SecV) : Reg := ⟨s.addr.toNat, s.data, s.wr, s.ex⟩
def uT : Reg := ⟨978944, List.replicate 4096 0, true, false⟩
def inG (a : UInt32) (r : RegV) : Bool := decide (r.org ≤ a.toNat) && decide (a.toNat < r.org + r.data.length)
def xA (a : UInt32) (r : Reg) : Bool := decide (r.org ≤ a.toNat) && decide (a.toNat < r.org + r.data.length)
def gR (rs : List RegV) (a : UInt32) : Int := eP (inG a) 0 rs
def dJ (rs : List RegV) (a : UInt32) : RegV := if gR rs a < 0 then vU else rs.getD (gR rs a).toNat default
structure MemOK (l : List SecV) (rs : List RegV) : Prop where
  chk : dL l = 0
  pl : rs.map RegV.pl = l.map qR ++ [uT]
theorem wu {α : Type} (p : α → Bool) : ∀ (l : List α) (k : Nat), 0 ≤ eP p k l → (k : Int) ≤ eP p k l ∧ eP p k l < (k : Int) + l.length
  | l, k, h => by
    have := mb p l k
    refine ⟨?_, this.2⟩
    induction l generalizing k with
    | nil => simp [eP] at h
    | cons x l ih =>
      unfold eP at h ⊢
      split
      · exact Int.le_refl _
      · rename_i hx
        rw [if_neg hx] at h
        have := ih (k + 1) h (mb p l (k + 1))
        omega
theorem uj {α : Type} (p : α → Bool) : ∀ (l m : List α) (k : Nat), eP p k (l ++ m) = if eP p k l < 0 then eP p (k + l.length) m else eP p k l
  | [], m, k => by simp [eP]
  | x :: l, m, k => by
    rw [List.cons_append, eP, eP, List.length_cons]
    by_cases h : p x = true
    · rw [if_pos h, if_pos h, if_neg (by omega)]
    · rw [if_neg h, if_neg h, uj p l m (k + 1), show k + 1 + l.length = k + (l.length + 1) by omega]
theorem nr {α β : Type} {p : α → Bool} {q : β → Bool} : ∀ (l : List α) (m : List β) (k : Nat), l.length = m.length → (∀ (i : Nat) (x : α) (y : β), l[i]? = some x → m[i]? = some y → p x = q y) → eP p k l = eP q k m
  | [], [], _, _, _ => rfl
  | [], y :: m, _, h, _ => by simp at h
  | x :: l, [], _, h, _ => by simp at h
  | x :: l, y :: m, k, h, hp => by
    unfold eP
    rw [hp 0 x y rfl rfl, nr l m (k + 1) (by simpa using h) (fun i a b ha hb => hp (i + 1) a b (by simpa using ha) (by simpa using hb))]
section
variable {l : List SecV} {rs : List RegV} {a : UInt32}
theorem MemOK.len (h : MemOK l rs) : rs.length = l.length + 1 := by
  have := congrArg List.length h.pl
  simpa using this
theorem MemOK.at_ (h : MemOK l rs) {k : Nat} (hk : k < rs.length) : (rs.getD k default).pl = if k < l.length then qR (l.getD k default) else uT := by
  have h1 : (rs.map RegV.pl)[k]? = some (rs.getD k default).pl := by
    rw [List.getElem?_map, jK hk]; rfl
  rw [h.pl, List.getElem?_append] at h1
  split
  · rename_i hl
    rw [if_pos (by simpa using hl), List.getElem?_map, jK hl] at h1
    simpa using h1.symm
  · rename_i hl
    rw [if_neg (by simpa using hl)] at h1
    have := h.len
    have hk0 : k - (l.map qR).length = 0 := by simp; omega
    rw [hk0] at h1
    simpa using h1.symm
theorem MemOK.bounds (h : MemOK l rs) : rs.length ≤ 17 ∧ ∀ r ∈ rs, r.data.length ≤ 65536 ∧ r.org + r.data.length ≤ 4294967295 := by
  obtain ⟨h1, h2⟩ := k5 h.chk
  refine ⟨by have := h.len; omega, fun r hr => ?_⟩
  have hm : r.pl ∈ l.map qR ++ [uT] := by rw [← h.pl]; exact List.mem_map.2 ⟨r, hr, rfl⟩
  rcases List.mem_append.1 hm with hm | hm
  · obtain ⟨s, hs, e⟩ := List.mem_map.1 hm
    have := h2 s hs
    have e1 : r.data = s.data := (congrArg Reg.data e).symm
    have e2 : r.org = s.addr.toNat := (congrArg Reg.org e).symm
    rw [e1, e2]; omega
  · have e := List.mem_singleton.1 hm
    have e1 : r.data = List.replicate 4096 0 := congrArg Reg.data e
    have e2 : r.org = 978944 := congrArg Reg.org e
    rw [e1, e2, List.length_replicate]; omega
theorem zx (h : dL l = 0) : ∀ i, i < l.length → je l i = false := by
  unfold dL at h
  split at h
  · simp at h
  · split at h
    · rename_i h1; exact absurd h h1
    · intro i hi
      have := me _ _ h i (Nat.zero_le _) (by omega)
      by_cases c : je l i = true
      · simp [c] at this
      · simpa using c
theorem rM (h : dL l = 0) {i j : Nat} (hij : i < j) (hj : j < l.length) (hi : inS a (l.getD i default) = true) (hj2 : inS a (l.getD j default) = true) : False := by
  have h1 := zx h j hj
  have h2 : (l.take j).any (fun x => kW (eO x) (eO (l.getD j default))) = true := List.any_eq_true.2 ⟨l.getD i default, by
    rw [List.mem_take_iff_getElem]; exact ⟨i, by omega, by rw [List.getD_eq_getElem?_getD, List.getElem?_eq_getElem (by omega)]; rfl⟩, by
    obtain ⟨p1, p2⟩ := jG.1 hi
    obtain ⟨q1, q2⟩ := jG.1 hj2
    refine (t9 _ _).2 ?_
    unfold jW at p2 q2 ⊢
    omega⟩
  unfold je at h1
  rw [h2] at h1
  cases h1
theorem rO (h : dL l = 0) {s : SecV} (hs : s ∈ l) : kW (eO s) pM = false := by
  obtain ⟨k, hk, e⟩ := List.getElem_of_mem hs
  have hl : ¬ (l.length : Int) > 16 := fun q => by rw [sJ (by omega)] at h; cases h
  unfold dL at h
  rw [if_neg hl] at h
  by_cases h1 : dQ (iz l) 0 l.length ≠ 0
  · rw [if_pos h1] at h; exact absurd h h1
  · have h2 := me l.length 0 (Decidable.not_not.1 h1) k (Nat.zero_le _) (by omega)
    unfold iz at h2
    have e' : l.getD k default = s := by rw [List.getD_eq_getElem?_getD, List.getElem?_eq_getElem hk, e]; rfl
    simp only [e'] at h2
    repeat' (split at h2 <;> try cases h2)
    rename_i q
    simp only [not_or, Bool.not_eq_true] at q
    exact q.2
theorem mN (h : dL l = 0) {s : SecV} (hs : s ∈ l) : inS a s = true ↔ s.addr.toNat ≤ a.toNat ∧ a.toNat < s.addr.toNat + s.data.length := by
  have := (k5 h).2 s hs
  rw [jG]
  unfold jW
  omega
theorem lG : e9 a = true ↔ 978944 ≤ a.toNat ∧ a.toNat < 983040 := by
  simp [e9, UInt32.le_iff_toNat_le, UInt32.lt_iff_toNat_lt]
theorem td (h : dL l = 0) (hs : e9 a = true) : cV l a = -1 := by
  obtain ⟨h1, h2⟩ := lG.1 hs
  rcases Int.lt_or_le (cV l a) 0 with q | q
  · have := g8 (l := l) (a := a); omega
  · exfalso
    have hlt := g8 (l := l) (a := a)
    have hin := mJ q
    have hm := fU (l := l) (k := (cV l a).toNat) (by omega)
    have h3 := rO h hm
    have h4 := (mN h hm).1 hin
    have hst := ob (l.getD (cV l a).toNat default)
    rw [h3] at hst
    have h5 := (k5 h).2 _ hm
    have := hst.2 ⟨⟨by omega, by omega⟩, by unfold jW; omega⟩
    cases this
theorem MemOK.idx (h : MemOK l rs) : gR rs a = if cV l a < 0 then (if e9 a = true then (l.length : Int) else -1) else cV l a := by
  have e1 : gR rs a = eP (xA a) 0 (rs.map RegV.pl) := by rw [← qp]; rfl
  rw [e1, h.pl, uj]
  have e2 : eP (xA a) 0 (l.map qR) = cV l a := by
    rw [← qp]
    refine nr l l 0 rfl (fun i x y hx hy => ?_)
    rw [hx] at hy; cases hy
    have hm : x ∈ l := List.mem_of_getElem? hx
    rw [Bool.eq_iff_iff, mN h.chk hm]
    simp only [xA, qR, Bool.and_eq_true]
    exact ⟨fun ⟨q1, q2⟩ => ⟨of_decide_eq_true q1, of_decide_eq_true q2⟩, fun ⟨q1, q2⟩ => ⟨decide_eq_true q1, decide_eq_true q2⟩⟩
  rw [e2]
  split
  · have e3 : eP (xA a) (0 + (l.map qR).length) [uT] = if e9 a = true then (l.length : Int) else -1 := by
      have : xA a uT = e9 a := by
        rw [Bool.eq_iff_iff, lG]
        simp only [xA, uT, List.length_replicate, Bool.and_eq_true]
        exact ⟨fun ⟨q1, q2⟩ => ⟨of_decide_eq_true q1, of_decide_eq_true q2⟩, fun ⟨q1, q2⟩ => ⟨decide_eq_true q1, decide_eq_true q2⟩⟩
      simp only [eP, this, List.length_map, Nat.zero_add]
    exact e3
  · rfl
theorem xI {b : UInt32} (h : dL l = 0) (hq : ¬ cV l a < 0) (hb : (eB l a).addr.toNat ≤ b.toNat ∧ b.toNat < (eB l a).addr.toNat + (eB l a).data.length) : cV l b = cV l a := by
  have ha := g8 (l := l) (a := a)
  have hlt := g8 (l := l) (a := b)
  have hm : eB l a ∈ l := fU (by omega)
  have hin : inS b (eB l a) = true := (mN h hm).2 hb
  have hge : 0 ≤ cV l b := (qq (inS b) l 0).2 (List.any_eq_true.2 ⟨_, hm, hin⟩)
  have hbin := mJ hge
  unfold eB at hin
  rcases Nat.lt_trichotomy (cV l b).toNat (cV l a).toNat with q | q | q
  · exact (rM h q (by omega) hbin hin).elim
  · omega
  · exact (rM h q (by omega) hin hbin).elim
theorem MemOK.reg (h : MemOK l rs) (hf : ¬ gR rs a < 0) : (dJ rs a).pl = (if e9 a = true then uT else qR (eB l a)) ∧ iK l a = false ∧ dJ rs a ∈ rs ∧ (dJ rs a).org ≤ a.toNat ∧ a.toNat < (dJ rs a).org + (dJ rs a).data.length := by
  have hb := wu (inG a) rs 0 (by unfold gR at hf; omega)
  have hk : (gR rs a).toNat < rs.length := by unfold gR; omega
  have hr : dJ rs a = rs.getD (gR rs a).toNat default := by unfold dJ; rw [if_neg hf]
  have hin : inG a (dJ rs a) = true := by
    have := sD (inG a) rs 0 (by unfold gR at hf; omega)
    rw [hr]
    have e : (eP (inG a) 0 rs - ((0 : Nat) : Int)).toNat = (gR rs a).toNat := by unfold gR; simp
    rw [e] at this
    exact this.2
  simp only [inG, Bool.and_eq_true, decide_eq_true_eq] at hin
  refine ⟨?_, ?_, by rw [hr]; exact fU hk, hin.1, hin.2⟩
  · rw [hr, h.at_ hk]
    have hx := h.idx (a := a)
    by_cases hs : e9 a = true
    · rw [if_pos hs]
      rw [td h.chk hs, if_pos (by decide), if_pos hs] at hx
      rw [if_neg (by omega)]
    · rw [if_neg hs]
      by_cases hq : cV l a < 0
      · rw [if_pos hq, if_neg hs] at hx; omega
      · rw [if_neg hq] at hx
        have := g8 (l := l) (a := a)
        rw [hx, if_pos (by omega)]; rfl
  · have hx := h.idx (a := a)
    unfold iK
    by_cases hs : e9 a = true
    · rw [hs]; rfl
    · by_cases hq : cV l a < 0
      · rw [if_pos hq, if_neg hs] at hx; omega
      · simp [hq]
theorem MemOK.none (h : MemOK l rs) (hf : gR rs a < 0) : iK l a = true ∧ dW l a = 0 := by
  have hx := h.idx (a := a)
  have hb := g8 (l := l) (a := a)
  by_cases hq : cV l a < 0
  · rw [if_pos hq] at hx
    by_cases hs : e9 a = true
    · rw [if_pos hs] at hx; omega
    · unfold iK dW
      rw [if_neg hs, if_pos hq]
      simp [hs, hq]
  · rw [if_neg hq] at hx; omega
theorem MemOK.rest (h : MemOK l rs) (hf : ¬ gR rs a < 0) : dW l a = ((dJ rs a).org : Int) + (dJ rs a).data.length - a.toNat := by
  obtain ⟨h1, h2, _, _, _⟩ := h.reg hf
  have e1 := congrArg Reg.org h1
  have e2 := congrArg Reg.data h1
  unfold dW
  by_cases hs : e9 a = true
  · rw [if_pos hs] at e1 e2 ⊢
    have e1' : (dJ rs a).org = 978944 := e1
    have e2' : (dJ rs a).data = List.replicate 4096 0 := e2
    rw [e1', e2', List.length_replicate]; omega
  · rw [if_neg hs] at e1 e2 ⊢
    have hq : ¬ cV l a < 0 := by
      intro q; unfold iK at h2; simp [hs, q] at h2
    have e1' : (dJ rs a).org = (eB l a).addr.toNat := e1
    have e2' : (dJ rs a).data = (eB l a).data := e2
    rw [if_neg hq, e1', e2']
theorem MemOK.rights (h : MemOK l rs) (hf : ¬ gR rs a < 0) : (dJ rs a).wr = wrA l a ∧ (dJ rs a).ex = exA l a := by
  obtain ⟨h1, _⟩ := h.reg hf
  have e1 := congrArg Reg.wr h1
  have e2 := congrArg Reg.ex h1
  unfold wrA exA
  by_cases hs : e9 a = true
  · rw [if_pos hs] at e1 e2
    rw [hs]; exact ⟨e1, e2⟩
  · rw [if_neg hs] at e1 e2
    simp only [hs, Bool.false_or, Bool.not_false, Bool.true_and]
    exact ⟨e1, e2⟩
theorem MemOK.same (h : MemOK l rs) (hf : ¬ gR rs a < 0) {b : UInt32} (hb : (dJ rs a).org ≤ b.toNat ∧ b.toNat < (dJ rs a).org + (dJ rs a).data.length) : ¬ gR rs b < 0 ∧ (dJ rs b).pl = (dJ rs a).pl ∧ e9 b = e9 a ∧ (e9 a = false → cV l b = cV l a) := by
  obtain ⟨h1, h2, _, _, _⟩ := h.reg hf
  have e1 := congrArg Reg.org h1
  have e2 := congrArg Reg.data h1
  by_cases hs : e9 a = true
  · rw [if_pos hs] at e1 e2
    have e1' : (dJ rs a).org = 978944 := e1
    have e2' : (dJ rs a).data = List.replicate 4096 0 := e2
    rw [e1', e2', List.length_replicate] at hb
    have hsb : e9 b = true := lG.2 hb
    have hx := h.idx (a := b)
    rw [td h.chk hsb, if_pos (by decide), if_pos hsb] at hx
    have hfb : ¬ gR rs b < 0 := by omega
    refine ⟨hfb, ?_, by rw [hs, hsb], fun q => by rw [hs] at q; cases q⟩
    rw [(h.reg hfb).1, h1, if_pos hsb, if_pos hs]
  · rw [if_neg hs] at e1 e2
    have hq : ¬ cV l a < 0 := by intro q; unfold iK at h2; simp [hs, q] at h2
    have e1' : (dJ rs a).org = (eB l a).addr.toNat := e1
    have e2' : (dJ rs a).data = (eB l a).data := e2
    rw [e1', e2'] at hb
    have hlt := g8 (l := l) (a := a)
    have hm : eB l a ∈ l := fU (by omega)
    have hsb : e9 b = false := by
      rw [← Bool.not_eq_true]; intro q
      obtain ⟨q1, q2⟩ := lG.1 q
      have h3 := rO h.chk hm
      have h5 := (k5 h.chk).2 _ hm
      have hst := ob (eB l a)
      rw [h3] at hst
      have := hst.2 ⟨⟨by omega, by omega⟩, by unfold jW; omega⟩
      cases this
    have hfeq : cV l b = cV l a := xI h.chk hq hb
    have hx := h.idx (a := b)
    rw [hfeq, if_neg hq] at hx
    have hfb : ¬ gR rs b < 0 := by omega
    refine ⟨hfb, ?_, by rw [hsb]; simpa using hs, fun _ => hfeq⟩
    rw [(h.reg hfb).1, h1, if_neg (by simp [hsb]), if_neg hs]
    unfold eB; rw [hfeq]
end
end Go.HL
namespace Go.HL
open Go
def u8V (x : UInt8) : Value := .int .u8 (x.toNat : Int)
abbrev WL := List (UInt32 × UInt8)
def cx (wl : WL) : WrF := fun a => fy wl a
theorem mU (k : Nat) : u32 (k : Int) = UInt32.ofNat k := by
  rw [← UInt32.toNat_inj]
  unfold u32
  simp only [UInt32.toNat_ofNat']
  omega
theorem qg (a : UInt32) (k : Nat) : a + 1 + UInt32.ofNat k = a + UInt32.ofNat (k + 1) := by
  rw [← UInt32.toNat_inj]
  simp only [UInt32.toNat_add, UInt32.toNat_ofNat', UInt32.toNat_one]
  omega
theorem sP {a : UInt32} {k : Nat} (h : a.toNat + k < 4294967296) : (a + UInt32.ofNat k).toNat = a.toNat + k := by
  simp only [UInt32.toNat_add, UInt32.toNat_ofNat']
  omega
def ovr (wl : WL) (a : UInt32) : List UInt8 → List UInt8
  | [] => []
  | b :: t => (fy wl a).getD b :: ovr wl (a + 1) t
theorem mW (wl : WL) : ∀ (l : List UInt8) (a : UInt32), (ovr wl a l).length = l.length
  | [], _ => rfl
  | b :: t, a => by simp [ovr, mW wl t]
theorem kV (wl : WL) : ∀ (l : List UInt8) (a : UInt32) (k : Nat), (ovr wl a l)[k]? = (l[k]?).map fun b => (fy wl (a + UInt32.ofNat k)).getD b
  | [], a, k => by simp [ovr]
  | b :: t, a, 0 => by
    have : a + UInt32.ofNat 0 = a := by rw [← UInt32.toNat_inj, sP (by have := a.toNat_lt; omega)]; rfl
    simp only [ovr, List.getElem?_cons_zero, Option.map_some, this]
  | b :: t, a, k + 1 => by
    simp only [ovr, List.getElem?_cons_succ]
    rw [kV wl t (a + 1) k, qg]
theorem Av {wl : WL} {a : UInt32} {l : List UInt8} {k : Nat} {x : UInt8} (hk : k < l.length) (h : fy wl (a + UInt32.ofNat k) = some x) : (ovr wl a (l.take k) ++ l.drop k).set k x = ovr wl a (l.take (k + 1)) ++ l.drop (k + 1) := by
  apply List.ext_getElem?
  intro j
  have h1 : (ovr wl a (l.take k)).length = k := by rw [mW, List.length_take]; omega
  have h2 : (ovr wl a (l.take (k + 1))).length = k + 1 := by rw [mW, List.length_take]; omega
  rw [List.getElem?_set, List.getElem?_append, List.getElem?_append, h1, h2]
  have hl : (ovr wl a (l.take k) ++ l.drop k).length = l.length := by rw [List.length_append, h1, List.length_drop]; omega
  rw [hl]
  by_cases c : k = j
  · subst c
    rw [if_pos rfl, if_pos hk, if_pos (by omega), kV, List.getElem?_take, if_pos (by omega), List.getElem?_eq_getElem hk]
    simp [h]
  · rw [if_neg c]
    by_cases c2 : j < k
    · rw [if_pos c2, if_pos (by omega), kV, kV, List.getElem?_take, List.getElem?_take, if_pos c2, if_pos (by omega)]
    · rw [if_neg c2, if_neg (by omega), List.getElem?_drop, List.getElem?_drop]
      congr 1; omega
theorem By {wl : WL} {a : UInt32} {l : List UInt8} {k : Nat} (hk : k < l.length) (h : fy wl (a + UInt32.ofNat k) = none) : ovr wl a (l.take k) ++ l.drop k = ovr wl a (l.take (k + 1)) ++ l.drop (k + 1) := by
  apply List.ext_getElem?
  intro j
  have h1 : (ovr wl a (l.take k)).length = k := by rw [mW, List.length_take]; omega
  have h2 : (ovr wl a (l.take (k + 1))).length = k + 1 := by rw [mW, List.length_take]; omega
  rw [List.getElem?_append, List.getElem?_append, h1, h2]
  by_cases c : k = j
  · subst c
    rw [if_neg (by omega), if_pos (by omega), kV, List.getElem?_take, if_pos (by omega), List.getElem?_drop, List.getElem?_eq_getElem (by omega : k + (k - k) < l.length)]
    simp [h, List.getElem?_eq_getElem hk]
  · by_cases c2 : j < k
    · rw [if_pos c2, if_pos (by omega), kV, kV, List.getElem?_take, List.getElem?_take, if_pos c2, if_pos (by omega)]
    · rw [if_neg c2, if_neg (by omega), List.getElem?_drop, List.getElem?_drop]
      congr 1; omega
def qb (r : RegV) (wl : WL) (a : UInt32) (n : Nat) : List UInt8 := ovr wl a ((r.data.drop (a.toNat - r.org)).take n)
theorem kD (l : List SecV) (w : WrF) : ∀ (n : Nat) (a : UInt32), (d6 l w a n).length = n
  | 0, _ => rfl
  | n + 1, a => by simp [d6, kD l w n]
theorem mi (l : List SecV) (w : WrF) : ∀ (n : Nat) (a : UInt32) (k : Nat), k < n → (d6 l w a n)[k]? = some (nj l w (a + UInt32.ofNat k))
  | 0, _, k, h => by omega
  | n + 1, a, 0, _ => by
    have : a + UInt32.ofNat 0 = a := by rw [← UInt32.toNat_inj, sP (by have := a.toNat_lt; omega)]; rfl
    simp only [d6, List.getElem?_cons_zero, this]
  | n + 1, a, k + 1, h => by
    simp only [d6, List.getElem?_cons_succ]
    rw [mi l w n (a + 1) k (by omega), qg]
section
variable {l : List SecV} {rs : List RegV} {a : UInt32} {wl : WL}
theorem MemOK.top (h : MemOK l rs) (hf : ¬ gR rs a < 0) : (dJ rs a).org + (dJ rs a).data.length ≤ 4294967295 ∧ (dJ rs a).data.length ≤ 65536 := by
  have := (h.bounds.2 _ (h.reg hf).2.2.1); omega
theorem MemOK.init (h : MemOK l rs) (hf : ¬ gR rs a < 0) {b : UInt32} (hb : (dJ rs a).org ≤ b.toNat ∧ b.toNat < (dJ rs a).org + (dJ rs a).data.length) : jf l b = (dJ rs a).data.getD (b.toNat - (dJ rs a).org) 0 := by
  obtain ⟨hfb, hpl, hst, hfi⟩ := h.same hf hb
  obtain ⟨h1, h2, _, _, _⟩ := h.reg hf
  have e1 := congrArg Reg.org h1
  have e2 := congrArg Reg.data h1
  unfold jf
  by_cases hs : e9 a = true
  · rw [if_pos (.inl (hst.trans hs))]
    rw [if_pos hs] at e2
    have e2' : (dJ rs a).data = List.replicate 4096 0 := e2
    rw [e2', List.getD_eq_getElem?_getD, List.getElem?_replicate]
    split <;> rfl
  · have hs' : e9 a = false := by simpa using hs
    rw [if_neg hs] at e1 e2
    have e1' : (dJ rs a).org = (eB l a).addr.toNat := e1
    have e2' : (dJ rs a).data = (eB l a).data := e2
    have hq : ¬ cV l a < 0 := by intro q; unfold iK at h2; simp [hs, q] at h2
    have hfe := hfi hs'
    rw [if_neg (by rw [hst, hfe]; simp [hs', hq])]
    have : eB l b = eB l a := by unfold eB; rw [hfe]
    rw [this, e1', e2', UInt32.toNat_sub_of_le _ _ (UInt32.le_iff_toNat_le.2 (by omega))]
theorem MemOK.pres (h : MemOK l rs) (hf : ¬ gR rs a < 0) {n : Nat} (hn : (n : Int) ≤ dW l a) : qb (dJ rs a) wl a n = d6 l (cx wl) a n := by
  have hr := h.rest hf
  obtain ⟨_, _, _, h1, h2⟩ := h.reg hf
  have ht := h.top hf
  have hl : ((dJ rs a).data.drop (a.toNat - (dJ rs a).org)).length = (dJ rs a).data.length - (a.toNat - (dJ rs a).org) := List.length_drop
  apply List.ext_getElem?
  intro k
  unfold qb
  rw [kV, List.getElem?_take]
  by_cases c : k < n
  · rw [if_pos c, mi l _ n a k c, List.getElem?_drop]
    have hk : a.toNat - (dJ rs a).org + k < (dJ rs a).data.length := by omega
    rw [List.getElem?_eq_getElem hk]
    have hb : (a + UInt32.ofNat k).toNat = a.toNat + k := sP (by omega)
    have hi := h.init hf (b := a + UInt32.ofNat k) (by omega)
    simp only [Option.map_some, Option.some.injEq]
    unfold nj cx
    rw [hi, hb, List.getD_eq_getElem?_getD, show a.toNat + k - (dJ rs a).org = a.toNat - (dJ rs a).org + k by omega, List.getElem?_eq_getElem hk]
    rfl
  · rw [if_neg c, List.getElem?_eq_none (by rw [kD]; omega)]; rfl
def leN : List UInt8 → Nat
  | [] => 0
  | b :: t => b.toNat + 256 * leN t
theorem vj : ∀ l : List UInt8, leN l < 256 ^ l.length
  | [] => by simp [leN]
  | b :: t => by
    have := vj t
    have hb := b.toNat_lt
    simp only [leN, List.length_cons, Nat.pow_succ]
    omega
theorem sC : ∀ l : List UInt8, l.length ≤ 4 → (leP l).toNat = leN l
  | [], _ => rfl
  | b :: t, h => by
    have hl : t.length ≤ 3 := by simpa using h
    have ih := sC t (by omega)
    have h1 := vj t
    have h2 : 256 ^ t.length ≤ 256 ^ 3 := Nat.pow_le_pow_right (by decide) hl
    have hb := b.toNat_lt
    simp only [leP, leN, UInt32.toNat_add, UInt32.toNat_mul, UInt8.toNat_toUInt32, ih]
    have : (256 : UInt32).toNat = 256 := rfl
    rw [this]
    have h3 : (256 : Nat) ^ 3 = 16777216 := by decide
    omega
theorem uf (b : UInt8) : ∀ l : List UInt8, leN (l ++ [b]) = leN l + 256 ^ l.length * b.toNat
  | [] => by simp [leN]
  | c :: t => by
    simp only [List.cons_append, leN, uf b t, List.length_cons, Nat.pow_succ]
    rw [Nat.mul_add, ← Nat.mul_assoc, Nat.mul_comm 256 (256 ^ t.length)]
    omega
theorem pw {l : List UInt8} {k : Nat} (hk : k < l.length) (hl : l.length ≤ 4) {c : Int} (hc : c = 8 * (k : Int)) : leP (l.take k) ||| lB (l.getD k default).toUInt32 c.toNat = leP (l.take (k + 1)) := by
  have h1 : (l.take k).length = k := by rw [List.length_take]; omega
  have e1 : l.take (k + 1) = l.take k ++ [l.getD k default] := hZ hk
  have hb := (l.getD k default).toNat_lt
  have hlt := vj (l.take k)
  rw [h1] at hlt
  have hp : (256 : Nat) ^ k = 2 ^ (8 * k) := by rw [Nat.pow_mul]
  have hk8 : 2 ^ (8 * k) * 256 ≤ 2 ^ 32 := by
    have : 2 ^ (8 * k) * 2 ^ 8 = 2 ^ (8 * k + 8) := by rw [Nat.pow_add]
    have h2 : 2 ^ (8 * k + 8) ≤ 2 ^ 32 := Nat.pow_le_pow_right (by decide) (by omega)
    omega
  rw [← UInt32.toNat_inj, UInt32.toNat_or, iW, sC _ (by omega), sC _ (by rw [List.length_take]; omega), e1, uf, h1, UInt8.toNat_toUInt32, show c.toNat = 8 * k by omega]
  have hm : (l.getD k default).toNat * 2 ^ (8 * k) < 2 ^ 32 := by
    have : (l.getD k default).toNat * 2 ^ (8 * k) ≤ 255 * 2 ^ (8 * k) := Nat.mul_le_mul_right _ (by omega)
    have hpos : 0 < 2 ^ (8 * k) := Nat.pow_pos (by decide)
    omega
  rw [show (4294967296 : Nat) = 2 ^ 32 from rfl, Nat.mod_eq_of_lt hm, ← Nat.shiftLeft_eq, Nat.or_comm, ← Nat.shiftLeft_add_eq_or_of_lt (by omega), Nat.shiftLeft_eq, hp]
  rw [Nat.mul_comm (2 ^ (8 * k))]
  omega
def sn (wl : WL) (a : UInt32) (n : UInt32) : Nat → WL
  | 0 => wl
  | k + 1 => lm (sn wl a n k) (a + UInt32.ofNat k) (fS n (8 * k)).toUInt8
theorem rA (wl : WL) (a n : UInt32) : ∀ k, cx (sn wl a n k) = m8 (cx wl) a n k
  | 0 => rfl
  | k + 1 => by
    funext x
    show fy (lm (sn wl a n k) _ _) x = w9 (m8 (cx wl) a n k) _ _ x
    rw [yU, ← rA wl a n k]; rfl
theorem tR (wl : WL) (a n : UInt32) : ∀ k, (sn wl a n k).length ≤ wl.length + k
  | 0 => Nat.le_refl _
  | k + 1 => by
    have := tR wl a n k
    have := yT (sn wl a n k) (a + UInt32.ofNat k) (fS n (8 * k)).toUInt8
    show (lm _ _ _).length ≤ _
    omega
theorem tQ (w : WrF) (a n x : UInt32) : ∀ k, k ≤ 4 → m8 w a n k x = (if ((x - a).toNat < k) then some (fS n (8 * (x - a).toNat)).toUInt8 else w x)
  | 0, _ => by simp [m8]
  | k + 1, hk => by
    unfold m8 w9
    rw [tQ w a n x k (by omega)]
    have ha := a.toNat_lt
    have hx := x.toNat_lt
    by_cases c : x = a + UInt32.ofNat k
    · rw [if_pos c]
      have : (x - a).toNat = k := by
        subst c
        rw [UInt32.toNat_sub, UInt32.toNat_add, UInt32.toNat_ofNat']
        omega
      rw [this, if_pos (by omega)]
    · rw [if_neg c]
      have : (x - a).toNat ≠ k := fun e => c (by
        rw [← UInt32.toNat_inj, UInt32.toNat_add, UInt32.toNat_ofNat']
        rw [UInt32.toNat_sub] at e
        omega)
      by_cases c2 : (x - a).toNat < k
      · rw [if_pos c2, if_pos (by omega)]
      · rw [if_neg c2, if_neg (by omega)]
theorem tP (h : MemOK l rs) {w : WrF} (hw : i7 l w) {n x : UInt32} {k : Nat} (hk : k ≤ 4) (hr : (k : Int) ≤ dW l a) : i7 l (m8 w a n k) := by
  intro b hb
  rw [tQ _ _ _ _ _ hk] at hb
  split at hb
  · rename_i c
    by_cases hf : gR rs a < 0
    · have := (h.none hf).2; omega
    · have hrest := h.rest hf
      have ht := h.top hf
      obtain ⟨_, _, _, h1, h2⟩ := h.reg hf
      have hb2 : b.toNat = a.toNat + (b - a).toNat := by
        have ha := a.toNat_lt
        have hbl := b.toNat_lt
        rw [UInt32.toNat_sub] at c ⊢
        omega
      obtain ⟨g1, _⟩ := h.same hf (b := b) (by omega)
      exact (h.reg g1).2.1
  · exact hw b hb
end
end Go.HL
namespace Go.HL
open Go Go.RowKit Go.ChangeMaps Go.MapKept
section
variable {P : Program} {ops : Array Oper} {Q : Exit → Act → World → Prop} {N : Nat} {F : Bg} {L : List Ent} {M : Fr} {rest : List Oper} {d : Nat}
structure IterOK (b : Nat) (es : Array MapEntry) (ck : Nat) (done : List UInt32) (o : Option Obj) : Prop where
  it : ∃ since seen c0, o = some (.mapIter (some b) since seen c0) ∧ (∀ x ∈ es.toList, x.born < since) ∧ since ≤ c0 ∧ since ≤ ck ∧ (∀ x ∈ es.toList, seen.contains x.born = true ↔ ∃ k ∈ done, x.key = iC k) ∧
    (∀ k, done.getLast? = some k → c0 = ck ∧ ∃ (seen0 : Array Nat) (e : MapEntry), seen = seen0.push e.born ∧ e ∈ es.toList ∧ e.key = iC k)
theorem wq {α : Type} {f : α → Value} {l : List (UInt32 × α)} {es : Array MapEntry} {ck : Nat} (h : MapIs f l es ck) : (∀ x ∈ es.toList, x.born < ck) ∧ (es.toList.map (·.born)).Nodup ∧ es.toList.Pairwise (fun x y => x.key ≠ y.key) := (stamped_iff es ck).1 h.st
theorem wo {α : Type} {f : α → Value} {l : List (UInt32 × α)} {es : Array MapEntry} {ck : Nat} (h : MapIs f l es ck) {e : MapEntry} (he : e ∈ es.toList) : ∃ k x, fy l k = some x ∧ e.key = iC k ∧ e.val = f x ∧ k ∈ l.map (·.1) := by
  obtain ⟨j, hj⟩ := List.getElem?_of_mem he
  obtain ⟨p, hp, h1, h2⟩ := h.at_ hj
  exact ⟨p.1, p.2, t7 h.nodup (List.mem_of_getElem? hp), h1, h2, List.mem_map.2 ⟨p, List.mem_of_getElem? hp, rfl⟩⟩
theorem BE {α : Type} {f : α → Value} {l : List (UInt32 × α)} {es : Array MapEntry} {ck : Nat} (h : MapIs f l es ck) {k : UInt32} (hk : k ∈ l.map (·.1)) : ∃ e ∈ es.toList, e.key = iC k := by
  have : iC k ∈ es.toList.map (·.key) := by rw [h.keys]; obtain ⟨p, hp, rfl⟩ := List.mem_map.1 hk; exact List.mem_map.2 ⟨p, hp, rfl⟩
  obtain ⟨e, he, h1⟩ := List.mem_map.1 this
  exact ⟨e, he, h1⟩
theorem IterOK.start {α : Type} {f : α → Value} {l : List (UInt32 × α)} {b : Nat} {es : Array MapEntry} {ck : Nat} (h : MapIs f l es ck) : IterOK b es ck [] (some (.mapIter (some b) ck #[] ck)) :=
  ⟨ck, #[], ck, rfl, (wq h).1, Nat.le_refl _, Nat.le_refl _, fun x _ => by simp, fun k hk => by simp at hk⟩
theorem xp {α : Type} {f : α → Value} {l : List (UInt32 × α)} {b r : Nat} {es : Array MapEntry} {ck : Nat} {done : List UInt32} {w : World} (hm : MapIs f l es ck) (hb : w.heap[b]? = some (.map es ck)) (hI : IterOK b es ck done (w.heap[r]?)) (ty : TypeId) :
    ((∀ k ∈ l.map (·.1), k ∈ done) ∧ (Instr.next (.pointer (some ⟨r, 0, none⟩)) false ty).run P w = .ok (.tuple #[.bool false]) w) ∨
    ∃ k x w1 o, (w1 = w ∨ w1 = w.drew) ∧ fy l k = some x ∧ k ∈ l.map (·.1) ∧ k ∉ done ∧ IterOK b es ck (done ++ [k]) (some o) ∧
      (Instr.next (.pointer (some ⟨r, 0, none⟩)) false ty).run P w = .ok (.tuple #[.bool true, iC k, f x]) (setBlock w1 r o) := by
  obtain ⟨since, seen, c0, hr, hold, hsc, hsk, hl, hlast⟩ := hI.it
  rcases run_next_at (P := P) w ty r b since c0 seen es ck hr hb hold hsc with ⟨h0, hrun⟩ | ⟨e, he, w1, hal, hrun⟩
  · refine .inl ⟨fun k hk => ?_, hrun⟩
    obtain ⟨e, he, hek⟩ := BE hm hk
    obtain ⟨k', hk', e2⟩ := (hl e he).1 (all_seen es seen h0 e he)
    rw [hek] at e2
    rw [nJ e2]; exact hk'
  · obtain ⟨hem, hes⟩ := mem_left he
    obtain ⟨k, x, hx, h1, h2, h3⟩ := wo hm hem
    have hnd : k ∉ done := fun hk => by
      have := (hl e hem).2 ⟨k, hk, h1⟩
      rw [hes] at this; cases this
    refine .inr ⟨k, x, w1, _, hal, hx, h3, hnd, ⟨since, seen.push e.born, ck, rfl, hold, hsk, hsk, fun y hy => ?_, fun k' hk' => ?_⟩, by rw [← h1, ← h2]; exact hrun⟩
    · rw [contains_push, Bool.or_eq_true, hl y hy, beq_iff_eq]
      constructor
      · rintro (⟨k', q1, q2⟩ | q)
        · exact ⟨k', List.mem_append_left _ q1, q2⟩
        · obtain rfl := born_inj (wq hm).2.1 hy hem q
          exact ⟨k, by simp, h1⟩
      · rintro ⟨k', q1, q2⟩
        rcases List.mem_append.1 q1 with q1 | q1
        · exact .inl ⟨k', q1, q2⟩
        · right
          obtain rfl := List.mem_singleton.1 q1
          rw [entry_eq_of_key (wq hm).2.2 hy hem (by rw [q2, h1])]
    · simp only [List.getLast?_append, List.getLast?_singleton, Option.some_or, Option.some.injEq] at hk'
      subst hk'
      exact ⟨rfl, seen, e, rfl, hem, h1⟩
theorem vm {α : Type} {f : α → Value} {l : List (UInt32 × α)} {b r : Nat} {es : Array MapEntry} {ck : Nat} {done : List UInt32} {w : World} {k : UInt32} {x : α} (hm : MapIs f l es ck) (hb : w.heap[b]? = some (.map es ck)) (hI : IterOK b es ck done (w.heap[r]?)) (hl : done.getLast? = some k) (hx : fy l k = some x) :
    (Instr.entry (.pointer (some ⟨r, 0, none⟩))).run P w = .ok (.tuple #[iC k, f x]) w := by
  obtain ⟨since, seen, c0, hr, hold, hsc, hsk, _, hlast⟩ := hI.it
  obtain ⟨rfl, seen0, e, rfl, he, hek⟩ := hlast k hl
  obtain ⟨k', x', h0, h1, h2, h3⟩ := wo hm he
  obtain rfl := nJ (hek.symm.trans h1)
  rw [hx] at h0; cases h0
  rw [run_entry_at w r b since seen0 es c0 e hr hb he (wq hm).2.1, hek, h2]
theorem pP {w : World} {r k : Nat} {o : Obj} (h : k ≠ r) : (setBlock w r o).heap[k]? = w.heap[k]? := by
  simp [setBlock, Array.getElem?_setIfInBounds, Ne.symm h]
theorem qQ {w : World} {r : Nat} {o : Obj} (h : r < w.heap.size) : (setBlock w r o).heap[r]? = some o := by
  simp [setBlock, h]
end
section
variable {P : Program} {Q : Exit → Act → World → Prop} {N : Nat} {F : Bg} {L : List Ent} {M : Fr}
end
theorem ol : ∀ {l l' : List UInt32}, l.Nodup → (∀ x ∈ l, x ∈ l') → l.length ≤ l'.length
  | [], _, _, _ => Nat.zero_le _
  | x :: l, l', hn, hs => by
    have hx : x ∈ l' := hs x (.head _)
    have h1 := List.nodup_cons.1 hn
    have h2 := ol (l' := l'.erase x) h1.2 fun y hy => (List.mem_erase_of_ne (fun (e : y = x) => h1.1 (by rw [← e]; exact hy))).2 (hs y (.tail _ hy))
    rw [List.length_erase_of_mem hx] at h2
    have := List.length_pos_of_mem hx
    simp only [List.length_cons]
    omega
theorem AD {α : Type} {l : List (UInt32 × α)} {done : List UInt32} {k : UInt32} (h1 : done.Nodup) (h2 : ∀ k ∈ done, k ∈ l.map (·.1)) (hk : k ∈ l.map (·.1)) (hd : k ∉ done) : done.length < l.length := by
  have h3 : (k :: done).Nodup := List.nodup_cons.2 ⟨hd, h1⟩
  have := ol (l := k :: done) (l' := l.map (·.1)) h3 fun x hx => by
    rcases List.mem_cons.1 hx with rfl | hx
    · exact hk
    · exact h2 x hx
  simp at this
  omega
theorem qh {done : List UInt32} {k : UInt32} (h1 : done.Nodup) (hd : k ∉ done) : (done ++ [k]).Nodup := by
  rw [List.nodup_append]
  exact ⟨h1, by simp, fun a ha b hb => by rw [List.mem_singleton.1 hb]; rintro rfl; exact hd ha⟩
section
open Go.Sort
def wV (l : List UInt32) : List UInt32 := l.mergeSort fun x y => decide (x ≤ y)
theorem rq (l : List UInt32) : (wV l).Perm l := List.mergeSort_perm _ _
theorem Ce (a b c : UInt32) : decide (a ≤ b) = true → decide (b ≤ c) = true → decide (a ≤ c) = true := by
  simp only [decide_eq_true_eq, UInt32.le_iff_toNat_le]; omega
theorem tg (l : List UInt32) : (wV l).Pairwise (fun x y => x ≤ y) := by
  have := List.pairwise_mergeSort (le := fun x y : UInt32 => decide (x ≤ y)) Ce (fun a b => by simp only [Bool.or_eq_true, decide_eq_true_eq, UInt32.le_iff_toNat_le]; omega) l
  exact this.imp (fun h => of_decide_eq_true h)
end
end Go.HL
namespace Go.HL
open Go Go.RowKit Go.ChangeMaps Go.MapKept
section
variable {P : Program} {ops : Array Oper} {Q : Exit → Act → World → Prop} {N : Nat} {F : Bg} {L : List Ent} {M : Fr} {dst : Option Tmp} {ty : TypeId} {pos : String} {after : Array Edge} {g : Option (Nat × Bool)} {rest : List Oper} {d : Nat}
theorem xb {t e : TypeId} {p : Option Addr} (ht : P.underlying t = some (.pointer e)) (d : Nat) (w : World) : (Op.equalIn (d + 1) t (.pointer p) (.pointer none)).run P w = .ok p.isNone w := by
  cases p <;> simp [Op.equalIn, run_underlying ht]
theorem qa {t e : TypeId} {p : Option Addr} (ht : P.underlying t = some (.pointer e)) (w : World) : (Op.equal t (.pointer p) (.pointer none)).run P w = .ok p.isNone w := xb ht 9999 w
theorem xy {t k e : TypeId} {p : Option Nat} (ht : P.underlying t = some (.map k e)) (d : Nat) (w : World) : (Op.equalIn (d + 1) t (.map p) (.map none)).run P w = .ok p.isNone w := by
  cases p <;> simp [Op.equalIn, run_underlying ht]
theorem vc {t k e : TypeId} {p : Option Nat} (ht : P.underlying t = some (.map k e)) (w : World) : (Op.equal t (.map p) (.map none)).run P w = .ok p.isNone w := xy ht 9999 w
theorem fX {x y : Operand} {t e u : TypeId} {p : Option Addr} {b : Bool} (hx : opv M x = some (.pointer p)) (hy : opv M y = some (.pointer none)) (ht : P.underlying t = some (.pointer e)) (hb : p.isNone = b) :
    QS P N F L M ⟨dst, .binOp .eql t x y u, ty, pos, after, g⟩ (.bool b) :=
  cu fun a w ha _ => by
    subst hb
    have he : (eqGuard .eql t x y (.pointer p) (.pointer none)).run P w = .ok () w := by unfold eqGuard; simp
    have hq := qa (P := P) (p := p) ht w
    simp [execOp, ha.eval hx, ha.eval hy, binOp, he, hq]
theorem qJ {x y : Operand} {t e u : TypeId} {p : Option Addr} {b : Bool} (hx : opv M x = some (.pointer p)) (hy : opv M y = some (.pointer none)) (ht : P.underlying t = some (.pointer e)) (hb : p.isSome = b) :
    QS P N F L M ⟨dst, .binOp .neq t x y u, ty, pos, after, g⟩ (.bool b) :=
  cu fun a w ha _ => by
    subst hb
    have he : (eqGuard .neq t x y (.pointer p) (.pointer none)).run P w = .ok () w := by unfold eqGuard; simp
    have hq := qa (P := P) (p := p) ht w
    simp [execOp, ha.eval hx, ha.eval hy, binOp, he, hq]
theorem zX {x y : Operand} {t k e u : TypeId} {p : Option Nat} {b : Bool} (hx : opv M x = some (.map p)) (hy : opv M y = some (.map none)) (ht : P.underlying t = some (.map k e)) (hb : p.isSome = b) :
    QS P N F L M ⟨dst, .binOp .neq t x y u, ty, pos, after, g⟩ (.bool b) :=
  cu fun a w ha _ => by
    subst hb
    have he : (eqGuard .neq t x y (.map p) (.map none)).run P w = .ok () w := by unfold eqGuard; simp
    have hq := vc (P := P) (p := p) ht w
    simp [execOp, ha.eval hx, ha.eval hy, binOp, he, hq]
theorem Ax (o : Option UInt8) : xu u8V (.int .u8 0) o = .int .u8 ((o.getD 0).toNat : Int) := by cases o <;> rfl
theorem uK {l : WL} {x y : Operand} {t K e : TypeId} {b : Nat} {k : UInt32} (hx : opv M x = some (.map (some b))) (hy : opv M y = some (.int .u32 k.toNat)) (hm : MapIn F.blk b u8V l)
    (ht : P.underlying t = some (.map K e)) (hK : P.underlying K = some (.int .u32)) (hz : ∀ w, (zeroValue e).run P w = .ok (.int .u8 0) w) : QS P N F L M ⟨dst, .lookup t x y true, ty, pos, after, g⟩ (.tuple #[.int .u8 ((fy l k).getD 0).toNat, .bool (fy l k).isSome]) := by
  have h := vO (P := P) (N := N) (F := F) (L := L) (M := M) (dst := dst) (ty := ty) (pos := pos) (after := after) (g := g) hx hy hm ht hK hz
  rw [Ax] at h; exact h
theorem xQ {ι : Type} (φ : ι → Value) (Lo : List Ent) (Ls : ι → List Ent) {ok : ι → Prop} {f : FuncId} {fx : Operand} {xs : List Operand} {vs : List Value} {ts : Array TypeId} {R : List Ent} {dd : World → Nat} (hf : opv M fx = some (.func (.func f) #[] #[])) (hx : kN M xs = some vs)
    (he : ∀ (args : Array Value) (w : World), (callFunc f args).run P w = .ok (.enter f args) w) (hs : Split L Lo R) (hdd : ∀ w, HpOK F L w → F.dr ≤ dd w)
    (hc : ∀ w, HpOK F L w → Calls P f vs.toArray w fun e w' => ∃ i, e = .returned (φ i) ∧ Upd (dd w) w w' (cg Lo) (Ls i) ∧ ok i) (hd : Nat.ble (d + 1) N = true)
    (K : ∀ i, ok i → Tr N F (Ls i ++ R) ((d, φ i) :: M) (wpList P ops Q rest)) :
    Tr N F L M (wpList P ops Q (⟨some d, .call { callee := .value fx, args := xs.toArray, argTypes := ts }, ty, pos, after, none⟩ :: rest)) := by
  intro a w ha hw
  refine wpList_plain rfl fun K' hK => ?_
  have hr : (execOp a.eval ⟨some d, .call { callee := .value fx, args := xs.toArray, argTypes := ts }, ty, pos, after, none⟩).run P w = .ok (.enter f vs.toArray) w := by
    have := ha.evals hx
    simp [execOp, resolve, Deferred.ofValue, ha.eval hf, invoke, he, this]
  unfold Oper.wp
  rw [hr]
  refine (hc w hw).mono fun e w' ⟨i, h1, h2, h3⟩ => ?_
  subst h1
  exact hK _ _ (K i h3 _ _ (ha.put (Nat.le_of_ble_eq_true hd)) ((hw.perm hs.perm.symm).updated (hdd w hw) h2))
theorem Upd.frame {dr : Nat} {w w' : World} {Lo Ls R : List Ent} (h : OwnAt w (Lo ++ R)) (u : Upd dr w w' (cg Lo) Ls) : Upd dr w w' (cg (Lo ++ R)) (Ls ++ R) := by
  have hb : cg (Lo ++ R) = cg Lo ++ cg R := List.filterMap_append
  have hb' : cg (Ls ++ R) = cg Ls ++ cg R := List.filterMap_append
  have hnd := List.nodup_append.1 (hb ▸ h.nodup)
  have notR : ∀ b ∈ cg R, b ∉ cg Lo := fun b hr hl => hnd.2.2 b hl b hr rfl
  have ltR : ∀ b ∈ cg R, b < w.heap.size := fun b hr => h.lt b (by rw [hb]; exact List.mem_append_right _ hr)
  refine ⟨u.os, u.tape, u.output, u.size, u.dr, fun k hk hn => u.block k hk (fun hm => hn (by rw [hb]; exact List.mem_append_left _ hm)), fun e he => ?_, ?_, fun b m => ?_, fun b m => ?_⟩
  · rcases List.mem_append.1 he with he | he
    · exact u.ent e he
    · have hh := h.ent e (List.mem_append_right _ he)
      unfold Ent.holds at *
      cases hk : e.blk with
      | none => rw [hk] at hh; exact hh
      | some b =>
        rw [hk] at hh
        simp only [Option.bind_some] at *
        have hm : b ∈ cg R := List.mem_filterMap.2 ⟨e, he, hk⟩
        rw [u.block b (ltR b hm) (notR b hm)]; exact hh
  · rw [hb', List.nodup_append]
    refine ⟨u.nodup, hnd.2.1, fun a ha b hr e => ?_⟩
    subst e
    rcases u.own a ha with m | m
    · exact notR a hr m
    · have := ltR a hr; omega
  · rw [hb'] at m
    rcases List.mem_append.1 m with m | m
    · exact u.lt b m
    · exact Nat.lt_of_lt_of_le (ltR b m) u.size
  · rw [hb'] at m
    rcases List.mem_append.1 m with m | m
    · rcases u.own b m with q | q
      · exact .inl (by rw [hb]; exact List.mem_append_left _ q)
      · exact .inr q
    · exact .inl (by rw [hb]; exact List.mem_append_right _ m)
end
def oQ (r b : Nat) (es : Array MapEntry) (ck : Nat) (done : List UInt32) : Ent := ⟨some r, IterOK b es ck done⟩
section
variable {P : Program} {ops : Array Oper} {Q : Exit → Act → World → Prop} {N : Nat} {F : Bg} {L : List Ent} {M : Fr} {rest : List Oper} {d : Nat}
theorem xP {α : Type} {f : α → Value} {l : List (UInt32 × α)} {x : Operand} {t K e ty : TypeId} {pos : String} {after : Array Edge} {b : Nat} {es : Array MapEntry} {ck : Nat} (hx : opv M x = some (.map (some b))) (hm : MapIs f l es ck) (hb : F.blk b = some (.map es ck)) (ht : P.underlying t = some (.map K e)) (hd : Nat.ble (d + 1) N = true)
    (Kk : ∀ r, Tr N F (oQ r b es ck [] :: L) ((d, .pointer (some ⟨r, 0, none⟩)) :: M) (wpList P ops Q rest)) : Tr N F L M (wpList P ops Q (⟨some d, .range t x, ty, pos, after, none⟩ :: rest)) := by
  intro a w ha hw
  refine wpList_plain rfl fun K' hK => ?_
  have hrun := run_range_map (P := P) w t K e b es ck ht (hw.bg b _ hb)
  unfold Oper.wp
  simp only [execOp, ha.eval hx, Sem.run_bind, hrun, Result.andThen_ok, Sem.run_pure, Oper.upon]
  exact hK _ _ (Kk w.heap.size _ _ (ha.put (Nat.le_of_ble_eq_true hd)) (hw.alloc _ _ (IterOK.start hm)))
theorem zL {α : Type} {f : α → Value} {l : List (UInt32 × α)} {it id d1 d2 : Nat} {t1 t2 : TypeId} {p1 p2 : String} {a1 a2 : Array Edge} {b r : Nat} {es : Array MapEntry} {ck : Nat} {done : List UInt32} {L1 : List Ent} (hx : look M it = some (.pointer (some ⟨r, 0, none⟩))) (hm : MapIs f l es ck) (hb : F.blk b = some (.map es ck)) (hI : Del (oQ r b es ck done) L L1)
    (hd1 : Nat.ble (d1 + 1) N = true) (hd2 : Nat.ble (d2 + 1) N = true)
    (K1 : ∀ k x, fy l k = some x → k ∈ l.map (·.1) → k ∉ done → Tr N F (oQ r b es ck (done ++ [k]) :: L1) ((d2, .bool true) :: (d1, .tuple #[.bool true, iC k, f x]) :: M) (Q .normal))
    (K0 : (∀ k ∈ l.map (·.1), k ∈ done) → Tr N F (oQ r b es ck done :: L1) ((d2, .bool false) :: (d1, .tuple #[.bool false]) :: M) (Q .normal)) :
    Tr N F L M ((Code.region id #[⟨some d1, .next (.tmp it) false, t1, p1, a1, none⟩, ⟨some d2, .extract (.tmp d1) 0, t2, p2, a2, none⟩] false).wp P Q) := by
  refine sR hI.perm.symm ?_
  intro a w ha hw
  have hit := ha.eval (x := .tmp it) (v := .pointer (some ⟨r, 0, none⟩)) hx
  have hII : IterOK b es ck done (w.heap[r]?) := hw.ent _ (.head _)
  refine wp_region_lit (l := [_, _]) (wpList_plain rfl fun K' hK => ?_)
  rcases xp (P := P) hm (hw.bg b _ hb) hII t1 with ⟨h0, hrun⟩ | ⟨k, x, w1, o, hal, hx2, hkl, hkd, hI2, hrun⟩
  · unfold Oper.wp
    simp only [execOp, hit, Sem.run_bind, hrun, Result.andThen_ok, Sem.run_pure, Oper.upon]
    refine hK _ _ ?_
    exact BO (ay (x := .tmp d1) (vs := #[.bool false]) (by show look _ d1 = _; rw [gC, if_pos rfl]) rfl) hd2 (ae (K0 h0)) _ _ (ha.put (Nat.le_of_ble_eq_true hd1)) hw
  · unfold Oper.wp
    simp only [execOp, hit, Sem.run_bind, hrun, Result.andThen_ok, Sem.run_pure, Oper.upon]
    refine hK _ _ ?_
    have hrl : r < w.heap.size := hw.lt r (by rw [kj (b := r) rfl]; exact .head _)
    have hw1 : w1.heap = w.heap := by rcases hal with rfl | rfl <;> rfl
    have hset : HpOK F (oQ r b es ck (done ++ [k]) :: L1) (setBlock w1 r o) := by
      refine HpOK.set (w := w) (b := r) hw (Put.here _) ?_ ?_ ?_ ?_ ?_ (fun j _ hj => ?_) ?_
      · rcases hal with rfl | rfl <;> rfl
      · rcases hal with rfl | rfl <;> rfl
      · rcases hal with rfl | rfl <;> rfl
      · rcases hal with rfl | rfl <;> simp [setBlock]
      · rcases hal with rfl | rfl
        · exact Nat.le_refl _
        · exact Nat.le_succ _
      · rw [pP hj, hw1]
      · rw [qQ (by rw [hw1]; exact hrl)]; exact hI2
    exact BO (ay (x := .tmp d1) (vs := #[.bool true, iC k, f x]) (by show look _ d1 = _; rw [gC, if_pos rfl]) rfl) hd2 (ae (K1 k x hx2 hkl hkd)) _ _ (ha.put (Nat.le_of_ble_eq_true hd1)) hset
theorem xZ {α : Type} {f : α → Value} {l : List (UInt32 × α)} {x : Operand} {dst : Option Tmp} {ty : TypeId} {pos : String} {after : Array Edge} {g : Option (Nat × Bool)} {b r : Nat} {es : Array MapEntry} {ck : Nat} {done : List UInt32} {k : UInt32} {y : α} (hx : opv M x = some (.pointer (some ⟨r, 0, none⟩))) (hm : MapIs f l es ck) (hb : F.blk b = some (.map es ck)) (hI : oQ r b es ck done ∈ L) (hl : done.getLast? = some k) (hy : fy l k = some y) :
    QS P N F L M ⟨dst, .entry x, ty, pos, after, g⟩ (.tuple #[iC k, f y]) :=
  cu fun A w ha hw => by
    have hII : IterOK b es ck done (w.heap[r]?) := hw.ent _ hI
    simp [execOp, ha.eval hx, vm (P := P) hm (hw.bg b _ hb) hII hl hy]
end
structure MemAt (h : Hp) (bM bm : Nat) (VR : Value) (rs : List RegV) : Prop where
  cells : CellsIn h bM [VR, .map (some bm)]
  regs : Sl h cD rs VR
  data : RegIn h rs
theorem MemAt.mono {h h' : Hp} {bM bm : Nat} {VR : Value} {rs : List RegV} (m : MemAt h bM bm VR rs) (hh : Hp.le h h') : MemAt h' bM bm VR rs := ⟨m.cells.mono hh, m.regs.mono hh, m.data.mono hh⟩
theorem uQ (h : Hp) : Sl h dH vU.data (.slice vU.dp vU.data.length vU.dc) := Sl.nil _ _
theorem MemAt.fnd {h : Hp} {bM bm : Nat} {VR : Value} {rs : List RegV} (m : MemAt h bM bm VR rs) (a : UInt32) : Sl h dH (dJ rs a).data (.slice (dJ rs a).dp (dJ rs a).data.length (dJ rs a).dc) := by
  unfold dJ
  split
  · exact uQ h
  · rename_i hf
    have hb := wu (inG a) rs 0 (by unfold gR at hf; omega)
    exact m.data _ (fU (by unfold gR; omega))
def zu (U : TypeId) (r : RegV) : Ent := rowE (.slice r.dp r.data.length r.dc) U dH r.data
def eI (U : TypeId) (rs : List RegV) : List Ent := rs.reverse.map (zu U)
theorem iy (U : TypeId) (rs : List RegV) (r : RegV) : eI U (rs ++ [r]) = zu U r :: eI U rs := by simp [eI]
theorem oJ {U : TypeId} {rs : List RegV} {r : RegV} (h : r ∈ rs) : zu U r ∈ eI U rs := List.mem_map.2 ⟨r, List.mem_reverse.2 h, rfl⟩
theorem Pick.skip {e : Ent} {L L' : List Ent} (h : Pick L L') : Pick (e :: L) L' := by
  induction h with
  | nil => exact .nil _
  | cons hd _ ih => exact .cons (.there _ hd) ih
theorem yV {h : Hp} {bM bm : Nat} {VR : Value} {T T2 U : TypeId} {rs : List RegV} {Ls : List Ent} (k : ∀ e ∈ Ls, e.ok (e.blk.bind h)) (h1 : cellE bM [VR, .map (some bm)] T ∈ Ls) (h2 : rowE VR T2 cD rs ∈ Ls) (h3 : ∀ e ∈ eI U rs, e ∈ Ls) : MemAt h bM bm VR rs :=
  ⟨cellE.cellsInL k h1, RowOK.sl (k _ h2), fun r hr => RowOK.sl (k _ (h3 _ (oJ hr)))⟩
def zB (l : List SecV) (wl : WL) (k : UInt32) : Bool := decide (jf l k ≠ (fy wl k).getD 0)
def nt (l : List SecV) (wl : WL) (done : List UInt32) : List UInt32 := done.filter (zB l wl)
theorem zA (l : List SecV) (wl : WL) (done : List UInt32) : (nt l wl done).length ≤ done.length := List.length_filter_le _ _
theorem zy {l : List SecV} {wl : WL} {done : List UInt32} {k : UInt32} {x : UInt8} (hx : fy wl k = some x) (h : jf l k ≠ x) : nt l wl done ++ [k] = nt l wl (done ++ [k]) := by
  unfold nt
  rw [List.filter_append, List.filter_cons_of_pos (by unfold zB; rw [hx]; exact decide_eq_true h)]; rfl
theorem A0 {l : List SecV} {wl : WL} {done : List UInt32} {k : UInt32} {x : UInt8} (hx : fy wl k = some x) (h : jf l k = x) : nt l wl done = nt l wl (done ++ [k]) := by
  unfold nt
  rw [List.filter_append, List.filter_cons_of_neg (by unfold zB; rw [hx]; simpa using h)]; simp
theorem A1 {l : List SecV} {wl : WL} {done : List UInt32} (hn : (wl.map (·.1)).Nodup) (h1 : done.Nodup) (h2 : ∀ k ∈ done, k ∈ wl.map (·.1)) (h3 : ∀ k ∈ wl.map (·.1), k ∈ done) : IsChg l (cx wl) (wV (nt l wl done)) := by
  refine ⟨?_, fun a => ?_⟩
  · have hnd : (nt l wl done).Nodup := h1.filter _
    have hs := tg (nt l wl done)
    have hd : (wV (nt l wl done)).Nodup := (rq _).nodup_iff.2 hnd
    refine (hs.and hd).imp fun {x y} ⟨q1, q2⟩ => ?_
    rw [UInt32.lt_iff_toNat_lt]
    rw [UInt32.le_iff_toNat_le] at q1
    have : x.toNat ≠ y.toNat := fun e => q2 (UInt32.toNat_inj.1 e)
    omega
  · rw [(rq _).mem_iff]
    unfold nt
    rw [List.mem_filter]
    constructor
    · rintro ⟨q1, q2⟩
      obtain ⟨x, hx⟩ := Option.isSome_iff_exists.1 (qm.2 (h2 a q1))
      refine ⟨x, hx, ?_⟩
      unfold zB at q2
      rw [hx] at q2
      exact fun e => (of_decide_eq_true q2) e.symm
    · rintro ⟨b, hb, hne⟩
      have hb' : fy wl a = some b := hb
      refine ⟨h3 a (qm.1 (by rw [hb']; rfl)), ?_⟩
      unfold zB
      rw [hb']
      exact decide_eq_true fun e => hne e.symm
def vd (l : List SecV) (rs : List RegV) (a : UInt32) (n : Int) : RegV := if dW l a < n then vU else dJ rs a
def jJ (l : List SecV) (a : UInt32) (n : Int) : Int := if dW l a < n then 11 else 0
section
variable {l : List SecV} {rs : List RegV} {a : UInt32} {n : Int} {w : WrF}
theorem MemOK.mapd (h : MemOK l rs) (hn : 1 ≤ n) : dW l a < n ↔ (gR rs a < 0 ∨ ((dJ rs a).org : Int) + (dJ rs a).data.length - a.toNat < n) := by
  by_cases hf : gR rs a < 0
  · have := (h.none hf).2
    exact ⟨fun _ => .inl hf, fun _ => by omega⟩
  · rw [h.rest hf]
    exact ⟨.inr, fun q => q.elim (fun q => absurd q hf) id⟩
theorem MemOK.mapd_ok (h : MemOK l rs) (hn : 1 ≤ n) (hq : ¬ dW l a < n) : ¬ gR rs a < 0 ∧ vd l rs a n = dJ rs a ∧ jJ l a n = 0 ∧ (dJ rs a).org ≤ a.toNat ∧ a.toNat ≤ (dJ rs a).org + (dJ rs a).data.length ∧ (dJ rs a).org + (dJ rs a).data.length ≤ 4294967295 := by
  rw [h.mapd hn] at hq
  have hf : ¬ gR rs a < 0 := fun q => hq (.inl q)
  have hq2 : ¬ dW l a < n := by rw [h.mapd hn]; exact hq
  obtain ⟨_, _, _, h1, h2⟩ := h.reg hf
  have := h.top hf
  exact ⟨hf, by unfold vd; rw [if_neg hq2], by unfold jJ; rw [if_neg hq2], h1, by omega, this.1⟩
theorem MemOK.pres6 {wl : WL} (h : MemOK l rs) (hf : ¬ gR rs a < 0) : qb (dJ rs a) wl a 6 = d6 l (cx wl) a (min 6 (dW l a)).toNat := by
  have hr := h.rest hf
  obtain ⟨_, _, _, h1, h2⟩ := h.reg hf
  rw [← h.pres hf (n := (min 6 (dW l a)).toNat) (by omega)]
  unfold qb
  congr 1
  rw [List.take_eq_take_iff, List.length_drop]
  omega
theorem yb : jp n = true ↔ n = 1 ∨ n = 2 ∨ n = 4 := by unfold jp; exact decide_eq_true_iff
theorem s7 (h : jp n = true) : 1 ≤ n ∧ n ≤ 4 := by have := yb.1 h; omega
theorem yZ (h : jp n = false) : cP l w a n = (0, 2) := by unfold cP; rw [if_pos h]
theorem yY (h : ¬ jp n = false) (h2 : dW l a < n) : cP l w a n = (0, 11) := by unfold cP; rw [if_neg h, if_pos h2]
theorem yX (h : ¬ jp n = false) (h2 : ¬ dW l a < n) : cP l w a n = (leP (d6 l w a n.toNat), 0) := by unfold cP; rw [if_neg h, if_neg h2]
theorem vZ {x : UInt32} (h : jp n = false) : bO l w a n x = (w, 2) := by unfold bO; rw [if_pos h]
theorem vY {x : UInt32} (h : ¬ jp n = false) (h2 : dW l a < n) : bO l w a n x = (w, 11) := by unfold bO; rw [if_neg h, if_pos h2]
theorem vX {x : UInt32} (h : ¬ jp n = false) (h2 : ¬ dW l a < n) (h3 : wrA l a = false) : bO l w a n x = (w, 12) := by unfold bO; rw [if_neg h, if_neg h2, if_pos h3]
theorem pg {x : UInt32} (h : ¬ jp n = false) (h2 : ¬ dW l a < n) (h3 : ¬ wrA l a = false) : bO l w a n x = (m8 w a x n.toNat, 0) := by unfold bO; rw [if_neg h, if_neg h2, if_neg h3]
theorem wx (h : iK l a = true) : dB l w a = ([], 11) := by unfold dB; rw [if_pos h]
theorem ww (h : ¬ iK l a = true) (h2 : exA l a = false) : dB l w a = ([], 12) := by unfold dB; rw [if_neg h, if_pos h2]
theorem wv (h : ¬ iK l a = true) (h2 : ¬ exA l a = false) : dB l w a = (d6 l w a (min 6 (dW l a)).toNat, 0) := by unfold dB; rw [if_neg h, if_neg h2]
end
structure Rts where
  w : Bool
  x : Bool
  deriving DecidableEq
def zl : Enc Rts := ⟨2, fun f => [.bool f.w, .bool f.x], fun _ => rfl, fun x v h => by simp at h; rcases h with h | h <;> subst h <;> rfl⟩
theorem tq : sb zl [.bool, .bool] [0, 1] := by
  intro x y
  refine ⟨fun j o e ho he => ?_, ?_⟩
  · rcases j with _ | _ | j <;> simp at ho he <;> subst ho <;> subst he <;> trivial
  · obtain ⟨a0, a1⟩ := x
    obtain ⟨c0, c1⟩ := y
    rw [Bool.eq_iff_iff]
    simp [qx, zl]
end Go.HL
namespace Go.HL
open Go Go.Sort
def ltW (x y : UInt32) : Bool := decide (x < y)
theorem sf : SWO ltW where
  irrefl x := by simp [ltW]
  trans x y z h1 h2 := by simp only [ltW, decide_eq_true_eq, UInt32.lt_iff_toNat_lt] at *; omega
  ntrans x y z h1 h2 := by simp only [ltW, decide_eq_false_iff_not, UInt32.lt_iff_toNat_lt] at *; omega
theorem dt {d : Array UInt32} {i : Nat} : d.toList.getD i default = d[i]! := by
  rw [List.getD_eq_getElem?_getD, Array.getElem?_toList, Array.getElem!_eq_getD, Array.getD_eq_getD_getElem?]
theorem gQ {d : Array UInt32} {i j : Nat} : (d.toList.set i d[j]!).set j d[i]! = (swp d i j).toList := by
  simp [swp, Array.toList_setIfInBounds]
theorem lY {d : Array UInt32} {i j : Nat} : (swp d i j).size = d.size := by simp [swp]
theorem ui {a b i : Nat} {d : Array UInt32} (h : b ≤ i) : insOuter ltW a b i d = d := by rw [insOuter, if_neg (by omega)]
theorem uh {a b i : Nat} {d : Array UInt32} (h : i < b) : insOuter ltW a b i d = insOuter ltW a b (i + 1) (insInner ltW a i d) := by rw [insOuter, if_pos h]
theorem o9 {a j : Nat} {d : Array UInt32} (h : a < j) (h2 : ltW d[j]! d[j - 1]! = true) : insInner ltW a j d = insInner ltW a (j - 1) (swp d j (j - 1)) := by
  cases j with
  | zero => omega
  | succ j => rw [insInner, if_pos (by simp only [Bool.and_eq_true, decide_eq_true_eq]; exact ⟨h, h2⟩)]; rfl
theorem nG {a j : Nat} {d : Array UInt32} (h : j ≤ a ∨ ltW d[j]! d[j - 1]! = false) : insInner ltW a j d = d := by
  cases j with
  | zero => rfl
  | succ j =>
    rw [insInner, if_neg]
    simp only [Bool.and_eq_true, decide_eq_true_eq]
    rintro ⟨h1, h2⟩
    rcases h with h | h
    · omega
    · rw [show j + 1 - 1 = j from rfl, h2] at h; cases h
theorem tj {hi f r : Nat} {d : Array UInt32} (h : hi ≤ 2 * r + 1) : siftDown ltW hi f r d = d := by rw [siftDown, dif_pos h]
theorem yi {hi f r : Nat} {d : Array UInt32} (h : 2 * r + 2 < hi) (hl : ltW d[f + (2 * r + 1)]! d[f + (2 * r + 1) + 1]! = true) :
    siftDown ltW hi f r d = if ltW d[f + r]! d[f + (2 * r + 2)]! = true then siftDown ltW hi f (2 * r + 2) (swp d (f + r) (f + (2 * r + 2))) else d := by
  rw [siftDown, dif_neg (by omega), if_pos (by simp only [Bool.and_eq_true, decide_eq_true_eq]; exact ⟨by omega, hl⟩), dif_pos h]
  cases ltW d[f + r]! d[f + (2 * r + 2)]! <;> rfl
theorem yj {hi f r : Nat} {d : Array UInt32} (h : 2 * r + 1 < hi) (hl : hi ≤ 2 * r + 2 ∨ ltW d[f + (2 * r + 1)]! d[f + (2 * r + 1) + 1]! = false) :
    siftDown ltW hi f r d = if ltW d[f + r]! d[f + (2 * r + 1)]! = true then siftDown ltW hi f (2 * r + 1) (swp d (f + r) (f + (2 * r + 1))) else d := by
  rw [siftDown, dif_neg (by omega), if_neg]
  · cases ltW d[f + r]! d[f + (2 * r + 1)]! <;> rfl
  · simp only [Bool.and_eq_true, decide_eq_true_eq]
    rintro ⟨q1, q2⟩
    rcases hl with hl | hl
    · omega
    · rw [q2] at hl; cases hl
theorem sift_size {hi f : Nat} : ∀ (n r : Nat) (d : Array UInt32), hi - r ≤ n → (siftDown ltW hi f r d).size = d.size
  | n, r, d, h => by
    by_cases c1 : hi ≤ 2 * r + 1
    · rw [tj c1]
    · cases n with
      | zero => omega
      | succ n =>
        by_cases c2 : 2 * r + 2 < hi ∧ ltW d[f + (2 * r + 1)]! d[f + (2 * r + 1) + 1]! = true
        · rw [yi c2.1 c2.2]
          split
          · rw [sift_size n (2 * r + 2) _ (by omega), lY]
          · rfl
        · rw [yj (by omega) (by
            by_cases q : 2 * r + 2 < hi
            · refine .inr ?_
              cases e : ltW d[f + (2 * r + 1)]! d[f + (2 * r + 1) + 1]!
              · rfl
              · exact absurd ⟨q, e⟩ c2
            · exact .inl (by omega))]
          split
          · rw [sift_size n (2 * r + 1) _ (by omega), lY]
          · rfl
theorem Bj {hi f r : Nat} {d : Array UInt32} : (siftDown ltW hi f r d).size = d.size := sift_size _ _ _ (Nat.le_refl _)
theorem yw {i j : Nat} {d : Array UInt32} (h : ¬ i < j) : reverseLoop i j d = d := by rw [reverseLoop, if_neg h]
theorem Bs {i j : Nat} {d : Array UInt32} (h : i < j) : reverseLoop i j d = reverseLoop (i + 1) (j - 1) (swp d i j) := by rw [reverseLoop, if_pos h]
theorem yc {p : UInt32 → Bool} {d : Array UInt32} {i j : Nat} (h : i ≤ j) (hp : p d[i]! = true) : scanUp p d j i = scanUp p d j (i + 1) := by
  rw [scanUp, if_pos (by simp only [Bool.and_eq_true, decide_eq_true_eq]; exact ⟨h, hp⟩)]
theorem se {p : UInt32 → Bool} {d : Array UInt32} {i j : Nat} (h : j < i ∨ p d[i]! = false) : scanUp p d j i = i := by
  rw [scanUp, if_neg]
  simp only [Bool.and_eq_true, decide_eq_true_eq]
  rintro ⟨q1, q2⟩
  rcases h with h | h
  · omega
  · rw [q2] at h; cases h
theorem sH {p : UInt32 → Bool} {d : Array UInt32} {i j : Nat} (h : i ≤ j) (h0 : 0 < j) (hp : p d[j]! = true) : scanDown p d i j = scanDown p d i (j - 1) := by
  obtain ⟨k, rfl⟩ : ∃ k, j = k + 1 := ⟨j - 1, by omega⟩
  rw [scanDown, if_pos (by simp only [Bool.and_eq_true, decide_eq_true_eq]; exact ⟨h, hp⟩)]; rfl
theorem ov {p : UInt32 → Bool} {d : Array UInt32} {i j : Nat} (h : j < i ∨ p d[j]! = false) : scanDown p d i j = j := by
  cases j with
  | zero => rfl
  | succ k =>
    rw [scanDown, if_neg]
    simp only [Bool.and_eq_true, decide_eq_true_eq]
    rintro ⟨q1, q2⟩
    rcases h with h | h
    · omega
    · rw [q2] at h; cases h
theorem yQ {a i j I J : Nat} {d : Array UInt32} (hI : scanUp (fun x => ltW x d[a]!) d j i = I) (hJ : scanDown (fun x => !ltW x d[a]!) d I j = J) (h : J < I) : partLoop ltW a i j d = (J, d) := by
  rw [partLoop]; simp only [hI, hJ]; rw [if_pos h]
theorem tY {a i j I J : Nat} {d : Array UInt32} (hI : scanUp (fun x => ltW x d[a]!) d j i = I) (hJ : scanDown (fun x => !ltW x d[a]!) d I j = J) (h : I < J) (h1 : i ≤ I) (h2 : J ≤ j) :
    partLoop ltW a i j d = partLoop ltW a (I + 1) (J - 1) (swp d I J) := by
  rw [partLoop]; simp only [hI, hJ]; rw [if_neg (by omega), dif_pos (by omega)]
theorem u3 {a i j I J : Nat} {d : Array UInt32} (hI : scanUp (fun x => !ltW d[a]! x) d j i = I) (hJ : scanDown (fun x => ltW d[a]! x) d I j = J) (h : J < I) : partEqLoop ltW a i j d = (I, d) := by
  rw [partEqLoop]; simp only [hI, hJ]; rw [if_pos h]
theorem xo {a i j I J : Nat} {d : Array UInt32} (hI : scanUp (fun x => !ltW d[a]! x) d j i = I) (hJ : scanDown (fun x => ltW d[a]! x) d I j = J) (h : I < J) (h1 : i ≤ I) (h2 : J ≤ j) :
    partEqLoop ltW a i j d = partEqLoop ltW a (I + 1) (J - 1) (swp d I J) := by
  rw [partEqLoop]; simp only [hI, hJ]; rw [if_neg (by omega), dif_pos (by omega)]
theorem B2 {b i : Nat} {d : Array UInt32} (h : i < b) (hl : ltW d[i]! d[i - 1]! = false) : scanSorted ltW d b i = scanSorted ltW d b (i + 1) := by
  rw [scanSorted, if_pos (by simp only [Bool.and_eq_true, decide_eq_true_eq, Bool.not_eq_true']; exact ⟨h, hl⟩)]
theorem Aj {b i : Nat} {d : Array UInt32} (h : b ≤ i ∨ ltW d[i]! d[i - 1]! = true) : scanSorted ltW d b i = i := by
  rw [scanSorted, if_neg]
  simp only [Bool.and_eq_true, decide_eq_true_eq, Bool.not_eq_true']
  rintro ⟨q1, q2⟩
  rcases h with h | h
  · omega
  · rw [q2] at h; cases h
theorem B6 {j : Nat} {d : Array UInt32} (h : 0 < j) (hl : ltW d[j]! d[j - 1]! = true) : shiftDown ltW j d = shiftDown ltW (j - 1) (swp d j (j - 1)) := by
  obtain ⟨k, rfl⟩ : ∃ k, j = k + 1 := ⟨j - 1, by omega⟩
  rw [shiftDown, if_neg (by rw [show k + 1 - 1 = k from rfl] at hl; simp [hl])]; rfl
theorem wa {j : Nat} {d : Array UInt32} (h : j = 0 ∨ ltW d[j]! d[j - 1]! = false) : shiftDown ltW j d = d := by
  cases j with
  | zero => rfl
  | succ k =>
    rcases h with h | h
    · omega
    · rw [shiftDown, if_pos (by rw [show k + 1 - 1 = k from rfl] at h; simp [h])]
theorem BZ {b j : Nat} {d : Array UInt32} (h : j < b) (hl : ltW d[j]! d[j - 1]! = true) : shiftUp ltW b j d = shiftUp ltW b (j + 1) (swp d j (j - 1)) := by
  rw [shiftUp, if_pos h, if_neg (by simp [hl])]
theorem vW {b j : Nat} {d : Array UInt32} (h : b ≤ j ∨ ltW d[j]! d[j - 1]! = false) : shiftUp ltW b j d = d := by
  rw [shiftUp]
  rcases h with h | h
  · rw [if_neg (by omega)]
  · split
    · rw [if_pos (by simp [h])]
    · rfl
theorem u5 {a b k i x : Nat} {d : Array UInt32} (hX : scanSorted ltW d b i = x) (h : x = b) : partialIns ltW a b (k + 1) i d = (d, true) := by
  rw [partialIns]; simp only [hX]; rw [if_pos h]
theorem Bw {a b k i x : Nat} {d : Array UInt32} (hX : scanSorted ltW d b i = x) (h : x ≠ b) (h2 : b - a < 50) : partialIns ltW a b (k + 1) i d = (d, false) := by
  rw [partialIns]; simp only [hX]; rw [if_neg h, if_pos h2]
theorem og {a b k i x : Nat} {d d3 d4 : Array UInt32} (hX : scanSorted ltW d b i = x) (h : x ≠ b) (h2 : ¬ b - a < 50) (h3 : d3 = if x - a ≥ 2 then shiftDown ltW (x - 1) (swp d x (x - 1)) else swp d x (x - 1)) (h4 : d4 = if b - x ≥ 2 then shiftUp ltW b (x + 1) d3 else d3) :
    partialIns ltW a b (k + 1) i d = partialIns ltW a b k x d4 := by
  rw [partialIns]; simp only [hX]; rw [if_neg h, if_neg h2, ← h3, ← h4]
end Go.HL
