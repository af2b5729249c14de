/- Own rules and walks, part 2. -/
import Derived.Test.YtpeaodkfbjenpaaB1
set_option linter.unusedSimpArgs false
set_option linter.unusedVariables false
set_option linter.unusedSectionVars false
namespace Go.Proofs.Ytpeaodkfbjenpaa
open Go Go.HL Go.RowKit
set_option maxRecDepth 100000 in
set_option maxHeartbeats 2000000 in
theorem register_any (r : Int) (w : World) :
  Calls Try.prog 73 #[.int .i64 r] w (fun e w' => e = .returned (.bool (regP r)) ∧ Ext w w') := by
 refine enter Try.func73 rfl Try.ntmps73 rfl ?_
 refine Tr.seq (Tr.region ?_)
 refine Tr.q (QS.assign rfl) rfl ?_
 refine Tr.nil (Tr.thenN (Tr.seq (Tr.region ?_)))
 refine Tr.q (QS.move rfl) rfl ?_
 refine Tr.q (QS.geq rfl rfl) rfl ?_
 refine Tr.q (QS.move rfl) rfl ?_
 apply Tr.andP
 ·exact (rfl : _ = (3, 5, 8))
 ·exact rfl
 ·intro hT1; have hT1' := hT1
  try simp only [bs] at hT1'
  refine Tr.gq rfl rfl hT1 (QS.move rfl) rfl ?_
  refine Tr.gq rfl rfl hT1 (QS.lss rfl rfl) rfl ?_
  refine Tr.q (QS.pickT rfl hT1 rfl) rfl ?_
  refine Tr.nil (Tr.thenN ?_)
  exact Tr.endX (Sub.cons rfl (Sub.dropN 3 (by kernel_rfl) rfl))
 ·intro hF1
  refine Tr.gskip rfl rfl hF1 rfl ?_
  refine Tr.gskip rfl rfl hF1 rfl ?_
  refine Tr.q (QS.pickF rfl hF1 rfl) rfl ?_
  refine Tr.nil (Tr.thenN ?_)
  exact Tr.endX (Sub.cons rfl (Sub.dropN 3 (by kernel_rfl) rfl))
 refine Tr.q (QS.assign rfl) rfl ?_
 refine Tr.nil (Tr.thenN (Tr.ret ?_))
 refine Tr.ret1 Try.results73 rfl (fun w' hw => ?_)
 exact ⟨rfl, hw.below (Bg.le.refl _)⟩
set_option maxRecDepth 100000 in
set_option maxHeartbeats 2000000 in
theorem narrow_any (n : UInt32) (w : World) :
  Calls Try.prog 81 #[.int .u32 n.toNat] w (fun e w' => e = .returned (.bool (narrowP n)) ∧ Ext w w') := by
 refine enter Try.func81 rfl Try.ntmps81 rfl ?_
 refine Tr.seq (Tr.region ?_)
 refine Tr.q (QS.assign rfl) rfl ?_
 refine Tr.nil (Tr.thenN (Tr.seq (Tr.region ?_)))
 refine Tr.q (QS.move rfl) rfl ?_
 refine Tr.q (QS.leq32 (n := 127) rfl rfl) rfl ?_
 refine Tr.q (QS.move rfl) rfl ?_
 apply Tr.orP
 ·exact (rfl : _ = (3, 5, 8))
 ·exact rfl
 ·intro hF1; have hF1' := hF1
  try simp only [bs] at hF1'
  refine Tr.gq rfl rfl hF1 (QS.move rfl) rfl ?_
  refine Tr.gq rfl rfl hF1 (QS.geq32 (n := 4294967168) rfl rfl) rfl ?_
  refine Tr.q (QS.pickF rfl hF1 rfl) rfl ?_
  refine Tr.nil (Tr.thenN ?_)
  exact Tr.endX (Sub.cons rfl (Sub.dropN 3 (by kernel_rfl) rfl))
 ·intro hT1
  refine Tr.gskip rfl rfl hT1 rfl ?_
  refine Tr.gskip rfl rfl hT1 rfl ?_
  refine Tr.q (QS.pickT rfl hT1 rfl) rfl ?_
  refine Tr.nil (Tr.thenN ?_)
  exact Tr.endX (Sub.cons rfl (Sub.dropN 3 (by kernel_rfl) rfl))
 refine Tr.q (QS.assign rfl) rfl ?_
 refine Tr.nil (Tr.thenN (Tr.ret ?_))
 refine Tr.ret1 Try.results81 rfl (fun w' hw => ?_)
 exact ⟨rfl, hw.below (Bg.le.refl _)⟩
set_option maxRecDepth 100000 in
set_option maxHeartbeats 2000000 in
theorem access_any (i : Ins) (w : World) :
  Calls Try.prog 85 #[.agg (encIns.enc i).toArray] w (fun e w' => e = .returned ((.tuple #[.int .u8 (accessP i).toNat, .int .i64 5, .bool (decide (accessP i ≠ 0))])) ∧ Ext w w') := by
 refine enter Try.func85 rfl Try.ntmps85 rfl ?_
 refine Tr.seq (Tr.region ?_)
 refine Tr.box rfl rfl rfl (fun b1 => ?_)
 refine Tr.q (QS.assign rfl) rfl ?_
 refine Tr.q (QS.assign rfl) rfl ?_
 refine Tr.q (QS.assign rfl) rfl ?_
 refine Tr.nil (Tr.thenN (Tr.seq (Tr.region ?_)))
 refine Tr.q (QS.assign rfl) rfl ?_
 refine Tr.nil (Tr.thenN ?_)
 refine Tr.seqJ (ι := UInt8) (fun c => c = accessP i) (fun _ => Bg.of w) (fun c => [cellE b1 (encIns.enc i) 67]) (fun c => [(5, .int .u8 c.toNat)]) ?_ (fun c hi => ?_)
 ·skip
  refine Tr.seq (Tr.region ?_)
  refine Tr.q (QS.fieldAddr (off := 2) (ft := 3) rfl Try.underlying67 rfl rfl Try.sizeOf3 (by decide)) rfl ?_
  refine Tr.q (QS.lV rfl Try.isAgg3) rfl ?_
  refine Tr.q (QS.fieldAddr (off := 4) (ft := 3) rfl Try.underlying67 rfl rfl Try.sizeOf3 (by decide)) rfl ?_
  refine Tr.q (QS.lV rfl Try.isAgg3) rfl ?_
  refine Tr.q (QS.build (vs := [(0, _), (1, _)]) rfl rfl (HLF.built141_0_1 _ _)) rfl ?_
  refine Tr.nil (Tr.thenN (Tr.block (Tr.seq (Tr.region ?_))))
  refine Tr.q (QS.build (vs := [(0, _), (1, _)]) rfl rfl (HLF.built141_0_1 _ _)) rfl ?_
  refine Tr.q (QS.eqlA2 rfl rfl Try.underlying141 Try.underlying3 Try.sizeOf3 Try.isAgg3 HLF.eqg141) rfl ?_
  refine Tr.q (QS.assign rfl) rfl ?_
  refine Tr.nil (Tr.thenN ?_)
  refine Tr.cond rfl (fun h2 => ?_) (fun h2 => ?_)
  ·try simp only [bs] at h2
   refine Tr.region ?_
   refine Tr.q (QS.assign rfl) rfl ?_
   refine Tr.nil (Tr.inN (Tr.thenN ?_))
   apply Tr.joined (80 : UInt8)
   ·exact rfl
   ·exact (.cons (by first | rfl | exact lookI rfl (by omega) | exact lookI rfl (by simp) | exact lookB rfl (by simp)) Front.nil)
   ·exact SubX.dropN 9 (by kernel_rfl) rfl
   ·exact (by repeat' constructor)
   ·exact (by unfold accessP; repeat (first | rw [if_pos (by omega)] | rw [if_neg (by omega)]))
  ·try simp only [bs] at h2
   refine Tr.seq (Tr.region ?_)
   refine Tr.q (QS.build (vs := [(0, _), (1, _)]) rfl rfl (HLF.built141_0_1 _ _)) rfl ?_
   refine Tr.q (QS.eqlA2 rfl rfl Try.underlying141 Try.underlying3 Try.sizeOf3 Try.isAgg3 HLF.eqg141) rfl ?_
   refine Tr.q (QS.assign rfl) rfl ?_
   refine Tr.nil (Tr.thenN ?_)
   refine Tr.cond rfl (fun h3 => ?_) (fun h3 => ?_)
   ·try simp only [bs] at h3
    refine Tr.region ?_
    refine Tr.q (QS.assign rfl) rfl ?_
    refine Tr.nil (Tr.inN (Tr.thenN ?_))
    apply Tr.joined (81 : UInt8)
    ·exact rfl
    ·exact (.cons (by first | rfl | exact lookI rfl (by omega) | exact lookI rfl (by simp) | exact lookB rfl (by simp)) Front.nil)
    ·exact SubX.dropN 12 (by kernel_rfl) rfl
    ·exact (by repeat' constructor)
    ·exact (by unfold accessP; repeat (first | rw [if_pos (by omega)] | rw [if_neg (by omega)]))
   ·try simp only [bs] at h3
    refine Tr.seq (Tr.region ?_)
    refine Tr.q (QS.build (vs := [(0, _), (1, _)]) rfl rfl (HLF.built141_0_1 _ _)) rfl ?_
    refine Tr.q (QS.eqlA2 rfl rfl Try.underlying141 Try.underlying3 Try.sizeOf3 Try.isAgg3 HLF.eqg141) rfl ?_
    refine Tr.q (QS.assign rfl) rfl ?_
    refine Tr.nil (Tr.thenN ?_)
    refine Tr.cond rfl (fun h4 => ?_) (fun h4 => ?_)
    ·try simp only [bs] at h4
     refine Tr.region ?_
     refine Tr.q (QS.assign rfl) rfl ?_
     refine Tr.nil (Tr.inN (Tr.thenN ?_))
     apply Tr.joined (82 : UInt8)
     ·exact rfl
     ·exact (.cons (by first | rfl | exact lookI rfl (by omega) | exact lookI rfl (by simp) | exact lookB rfl (by simp)) Front.nil)
     ·exact SubX.dropN 15 (by kernel_rfl) rfl
     ·exact (by repeat' constructor)
     ·exact (by unfold accessP; repeat (first | rw [if_pos (by omega)] | rw [if_neg (by omega)]))
    ·try simp only [bs] at h4
     refine Tr.seq (Tr.region ?_)
     refine Tr.q (QS.build (vs := [(0, _), (1, _)]) rfl rfl (HLF.built141_0_1 _ _)) rfl ?_
     refine Tr.q (QS.eqlA2 rfl rfl Try.underlying141 Try.underlying3 Try.sizeOf3 Try.isAgg3 HLF.eqg141) rfl ?_
     refine Tr.q (QS.assign rfl) rfl ?_
     refine Tr.nil (Tr.thenN ?_)
     refine Tr.cond rfl (fun h5 => ?_) (fun h5 => ?_)
     ·try simp only [bs] at h5
      refine Tr.region ?_
      refine Tr.q (QS.assign rfl) rfl ?_
      refine Tr.nil (Tr.inN (Tr.thenN ?_))
      apply Tr.joined (83 : UInt8)
      ·exact rfl
      ·exact (.cons (by first | rfl | exact lookI rfl (by omega) | exact lookI rfl (by simp) | exact lookB rfl (by simp)) Front.nil)
      ·exact SubX.dropN 18 (by kernel_rfl) rfl
      ·exact (by repeat' constructor)
      ·exact (by unfold accessP; repeat (first | rw [if_pos (by omega)] | rw [if_neg (by omega)]))
     ·try simp only [bs] at h5
      refine Tr.seq (Tr.region ?_)
      refine Tr.q (QS.build (vs := [(0, _), (1, _)]) rfl rfl (HLF.built141_0_1 _ _)) rfl ?_
      refine Tr.q (QS.eqlA2 rfl rfl Try.underlying141 Try.underlying3 Try.sizeOf3 Try.isAgg3 HLF.eqg141) rfl ?_
      refine Tr.q (QS.assign rfl) rfl ?_
      refine Tr.nil (Tr.thenN ?_)
      refine Tr.cond rfl (fun h6 => ?_) (fun h6 => ?_)
      ·try simp only [bs] at h6
       refine Tr.region ?_
       refine Tr.q (QS.assign rfl) rfl ?_
       refine Tr.nil (Tr.inN (Tr.thenN ?_))
       apply Tr.joined (84 : UInt8)
       ·exact rfl
       ·exact (.cons (by first | rfl | exact lookI rfl (by omega) | exact lookI rfl (by simp) | exact lookB rfl (by simp)) Front.nil)
       ·exact SubX.dropN 21 (by kernel_rfl) rfl
       ·exact (by repeat' constructor)
       ·exact (by unfold accessP; repeat (first | rw [if_pos (by omega)] | rw [if_neg (by omega)]))
      ·try simp only [bs] at h6
       refine Tr.seq (Tr.region ?_)
       refine Tr.q (QS.build (vs := [(0, _), (1, _)]) rfl rfl (HLF.built141_0_1 _ _)) rfl ?_
       refine Tr.q (QS.eqlA2 rfl rfl Try.underlying141 Try.underlying3 Try.sizeOf3 Try.isAgg3 HLF.eqg141) rfl ?_
       refine Tr.q (QS.assign rfl) rfl ?_
       refine Tr.nil (Tr.thenN ?_)
       refine Tr.cond rfl (fun h7 => ?_) (fun h7 => ?_)
       ·try simp only [bs] at h7
        refine Tr.region ?_
        refine Tr.q (QS.assign rfl) rfl ?_
        refine Tr.nil (Tr.inN (Tr.thenN ?_))
        apply Tr.joined (85 : UInt8)
        ·exact rfl
        ·exact (.cons (by first | rfl | exact lookI rfl (by omega) | exact lookI rfl (by simp) | exact lookB rfl (by simp)) Front.nil)
        ·exact SubX.dropN 24 (by kernel_rfl) rfl
        ·exact (by repeat' constructor)
        ·exact (by unfold accessP; repeat (first | rw [if_pos (by omega)] | rw [if_neg (by omega)]))
       ·try simp only [bs] at h7
        refine Tr.seq (Tr.region ?_)
        refine Tr.q (QS.build (vs := [(0, _), (1, _)]) rfl rfl (HLF.built141_0_1 _ _)) rfl ?_
        refine Tr.q (QS.eqlA2 rfl rfl Try.underlying141 Try.underlying3 Try.sizeOf3 Try.isAgg3 HLF.eqg141) rfl ?_
        refine Tr.q (QS.assign rfl) rfl ?_
        refine Tr.nil (Tr.thenN ?_)
        refine Tr.cond rfl (fun h8 => ?_) (fun h8 => ?_)
        ·try simp only [bs] at h8
         refine Tr.region ?_
         refine Tr.q (QS.assign rfl) rfl ?_
         refine Tr.nil (Tr.inN (Tr.thenN ?_))
         apply Tr.joined (86 : UInt8)
         ·exact rfl
         ·exact (.cons (by first | rfl | exact lookI rfl (by omega) | exact lookI rfl (by simp) | exact lookB rfl (by simp)) Front.nil)
         ·exact SubX.dropN 27 (by kernel_rfl) rfl
         ·exact (by repeat' constructor)
         ·exact (by unfold accessP; repeat (first | rw [if_pos (by omega)] | rw [if_neg (by omega)]))
        ·try simp only [bs] at h8
         refine Tr.seq (Tr.region ?_)
         refine Tr.q (QS.build (vs := [(0, _), (1, _)]) rfl rfl (HLF.built141_0_1 _ _)) rfl ?_
         refine Tr.q (QS.eqlA2 rfl rfl Try.underlying141 Try.underlying3 Try.sizeOf3 Try.isAgg3 HLF.eqg141) rfl ?_
         refine Tr.q (QS.assign rfl) rfl ?_
         refine Tr.nil (Tr.thenN ?_)
         refine Tr.cond rfl (fun h9 => ?_) (fun h9 => ?_)
         ·try simp only [bs] at h9
          refine Tr.region ?_
          refine Tr.q (QS.assign rfl) rfl ?_
          refine Tr.nil (Tr.inN (Tr.thenN ?_))
          apply Tr.joined (87 : UInt8)
          ·exact rfl
          ·exact (.cons (by first | rfl | exact lookI rfl (by omega) | exact lookI rfl (by simp) | exact lookB rfl (by simp)) Front.nil)
          ·exact SubX.dropN 30 (by kernel_rfl) rfl
          ·exact (by repeat' constructor)
          ·exact (by unfold accessP; repeat (first | rw [if_pos (by omega)] | rw [if_neg (by omega)]))
         ·try simp only [bs] at h9
          refine Tr.skip (Tr.inN (Tr.thenN ?_))
          apply Tr.joined (0 : UInt8)
          ·exact rfl
          ·exact (.cons (by first | rfl | exact lookI rfl (by omega) | exact lookI rfl (by simp) | exact lookB rfl (by simp)) Front.nil)
          ·exact SubX.dropN 29 (by kernel_rfl) rfl
          ·exact (by repeat' constructor)
          ·exact (by unfold accessP; repeat (first | rw [if_pos (by omega)] | rw [if_neg (by omega)]))
 ·skip
  replace hi : c = accessP i := hi
  change Tr _ _ [cellE b1 (encIns.enc i) 67] ([(5, .int .u8 c.toNat)] ++ _) _
  refine Tr.seq (Tr.region ?_)
  refine Tr.q (QS.move rfl) rfl ?_
  refine Tr.q (QS.move rfl) rfl ?_
  refine Tr.q (QS.neq8 (n := 0) rfl rfl) rfl ?_
  refine Tr.q (QS.assign rfl) rfl ?_
  refine Tr.q (QS.assign rfl) rfl ?_
  refine Tr.q (QS.assign rfl) rfl ?_
  refine Tr.nil (Tr.thenN (Tr.ret ?_))
  refine Tr.ret3 Try.results85 rfl rfl rfl (fun w' hw => ?_)
  exact ⟨by subst hi; rfl, hw.below (Bg.le.refl _)⟩
set_option maxRecDepth 100000 in
set_option maxHeartbeats 2000000 in
theorem conditional_any (i : Ins) (w : World) :
  Calls Try.prog 86 #[.agg (encIns.enc i).toArray] w (fun e w' => e = .returned ((.tuple #[.int .u8 (condP i).1.toNat, .int .i64 (condP i).2.1, .bool (condP i).2.2])) ∧ Ext w w') := by
 refine enter Try.func86 rfl Try.ntmps86 rfl ?_
 refine Tr.seq (Tr.region ?_)
 refine Tr.box rfl rfl rfl (fun b1 => ?_)
 refine Tr.q (QS.assign rfl) rfl ?_
 refine Tr.q (QS.assign rfl) rfl ?_
 refine Tr.q (QS.assign rfl) rfl ?_
 refine Tr.nil (Tr.thenN (Tr.seq (Tr.seq (Tr.region ?_))))
 refine Tr.q (QS.fieldAddr (off := 5) (ft := 3) rfl Try.underlying67 rfl rfl Try.sizeOf3 (by decide)) rfl ?_
 refine Tr.q (QS.lV rfl Try.isAgg3) rfl ?_
 refine Tr.q (QS.lss rfl rfl) rfl ?_
 refine Tr.q (QS.move rfl) rfl ?_
 apply Tr.orP
 ·exact (rfl : _ = (4, 8, 12))
 ·exact rfl
 ·intro hF2; have hF2' := hF2
  try simp only [bs] at hF2'
  refine Tr.gq rfl rfl hF2 (QS.fieldAddr (off := 5) (ft := 3) rfl Try.underlying67 rfl rfl Try.sizeOf3 (by decide)) rfl ?_
  refine Tr.gq rfl rfl hF2 (QS.lV rfl Try.isAgg3) rfl ?_
  refine Tr.gq rfl rfl hF2 (QS.gtr rfl rfl) rfl ?_
  refine Tr.q (QS.pickF rfl hF2 rfl) rfl ?_
  refine Tr.nil (Tr.thenN ?_)
  exact Tr.endX (Sub.cons rfl (Sub.dropN 4 (by kernel_rfl) rfl))
 ·intro hT2
  refine Tr.gskip rfl rfl hT2 rfl ?_
  refine Tr.gskip rfl rfl hT2 rfl ?_
  refine Tr.gskip rfl rfl hT2 rfl ?_
  refine Tr.q (QS.pickT rfl hT2 rfl) rfl ?_
  refine Tr.nil (Tr.thenN ?_)
  exact Tr.endX (Sub.cons rfl (Sub.dropN 4 (by kernel_rfl) rfl))
 refine Tr.nil (Tr.thenN ?_)
 refine Tr.cond rfl (fun h3 => ?_) (fun h3 => ?_)
 ·try simp only [bs] at h3
  refine Tr.seq (Tr.region ?_)
  refine Tr.q (QS.assign rfl) rfl ?_
  refine Tr.q (QS.assign rfl) rfl ?_
  refine Tr.q (QS.assign rfl) rfl ?_
  refine Tr.nil (Tr.thenN (Tr.ret (Tr.thenR ?_)))
  refine Tr.ret3 Try.results86 rfl rfl rfl (fun w' hw => ?_)
  exact ⟨by unfold condP; (repeat (first | rw [if_pos (by omega)] | rw [if_neg (by omega)])) <;> rfl, hw.below (Bg.le.refl _)⟩
 ·try simp only [bs] at h3
  refine Tr.skip (Tr.thenN (Tr.seq (Tr.block (Tr.seq (Tr.region ?_)))))
  refine Tr.q (QS.fieldAddr (off := 2) (ft := 3) rfl Try.underlying67 rfl rfl Try.sizeOf3 (by decide)) rfl ?_
  refine Tr.q (QS.lV rfl Try.isAgg3) rfl ?_
  refine Tr.q (QS.eql rfl rfl) rfl ?_
  refine Tr.q (QS.assign rfl) rfl ?_
  refine Tr.nil (Tr.thenN ?_)
  refine Tr.cond rfl (fun h4 => ?_) (fun h4 => ?_)
  ·try simp only [bs] at h4
   refine Tr.seq (Tr.region ?_)
   refine Tr.q (QS.fieldAddr (off := 5) (ft := 3) rfl Try.underlying67 rfl rfl Try.sizeOf3 (by decide)) rfl ?_
   refine Tr.q (QS.lV rfl Try.isAgg3) rfl ?_
   refine Tr.q (QS.cvtTo8 rfl Try.underlying3 Try.underlying5) rfl ?_
   refine Tr.q (QS.add8 (m := 144) rfl rfl) rfl ?_
   refine Tr.q (QS.assign rfl) rfl ?_
   refine Tr.q (QS.assign rfl) rfl ?_
   refine Tr.q (QS.assign rfl) rfl ?_
   refine Tr.nil (Tr.thenN (Tr.ret ?_))
   refine Tr.inR ?_
   refine Tr.thenR ?_
   refine Tr.ret3 Try.results86 rfl rfl rfl (fun w' hw => ?_)
   exact ⟨by unfold condP; (repeat (first | rw [if_pos (by omega)] | rw [if_neg (by omega)])) <;> rfl, hw.below (Bg.le.refl _)⟩
  ·try simp only [bs] at h4
   refine Tr.seq (Tr.region ?_)
   refine Tr.q (QS.fieldAddr (off := 3) (ft := 3) rfl Try.underlying67 rfl rfl Try.sizeOf3 (by decide)) rfl ?_
   refine Tr.q (QS.lV rfl Try.isAgg3) rfl ?_
   refine Tr.q (QS.eql rfl rfl) rfl ?_
   refine Tr.q (QS.assign rfl) rfl ?_
   refine Tr.nil (Tr.thenN ?_)
   refine Tr.cond rfl (fun h5 => ?_) (fun h5 => ?_)
   ·try simp only [bs] at h5
    refine Tr.seq (Tr.region ?_)
    refine Tr.q (QS.fieldAddr (off := 5) (ft := 3) rfl Try.underlying67 rfl rfl Try.sizeOf3 (by decide)) rfl ?_
    refine Tr.q (QS.lV rfl Try.isAgg3) rfl ?_
    refine Tr.q (QS.cvtTo8 rfl Try.underlying3 Try.underlying5) rfl ?_
    refine Tr.q (QS.add8 (m := 96) rfl rfl) rfl ?_
    refine Tr.q (QS.assign rfl) rfl ?_
    refine Tr.q (QS.assign rfl) rfl ?_
    refine Tr.q (QS.assign rfl) rfl ?_
    refine Tr.nil (Tr.thenN (Tr.ret ?_))
    refine Tr.inR ?_
    refine Tr.thenR ?_
    refine Tr.ret3 Try.results86 rfl rfl rfl (fun w' hw => ?_)
    exact ⟨by unfold condP; (repeat (first | rw [if_pos (by omega)] | rw [if_neg (by omega)])) <;> rfl, hw.below (Bg.le.refl _)⟩
   ·try simp only [bs] at h5
    refine Tr.seq (Tr.region ?_)
    refine Tr.q (QS.fieldAddr (off := 3) (ft := 3) rfl Try.underlying67 rfl rfl Try.sizeOf3 (by decide)) rfl ?_
    refine Tr.q (QS.lV rfl Try.isAgg3) rfl ?_
    refine Tr.q (QS.eql rfl rfl) rfl ?_
    refine Tr.q (QS.assign rfl) rfl ?_
    refine Tr.nil (Tr.thenN ?_)
    refine Tr.cond rfl (fun h6 => ?_) (fun h6 => ?_)
    ·try simp only [bs] at h6
     refine Tr.seq (Tr.region ?_)
     refine Tr.q (QS.fieldAddr (off := 5) (ft := 3) rfl Try.underlying67 rfl rfl Try.sizeOf3 (by decide)) rfl ?_
     refine Tr.q (QS.lV rfl Try.isAgg3) rfl ?_
     refine Tr.q (QS.cvtTo8 rfl Try.underlying3 Try.underlying5) rfl ?_
     refine Tr.q (QS.add8 (m := 112) rfl rfl) rfl ?_
     refine Tr.q (QS.assign rfl) rfl ?_
     refine Tr.q (QS.assign rfl) rfl ?_
     refine Tr.q (QS.assign rfl) rfl ?_
     refine Tr.nil (Tr.thenN (Tr.ret ?_))
     refine Tr.inR ?_
     refine Tr.thenR ?_
     refine Tr.ret3 Try.results86 rfl rfl rfl (fun w' hw => ?_)
     exact ⟨by unfold condP; (repeat (first | rw [if_pos (by omega)] | rw [if_neg (by omega)])) <;> rfl, hw.below (Bg.le.refl _)⟩
    ·try simp only [bs] at h6
     refine Tr.skip (Tr.inN (Tr.thenN (Tr.seq (Tr.region ?_))))
     refine Tr.q (QS.assign rfl) rfl ?_
     refine Tr.q (QS.assign rfl) rfl ?_
     refine Tr.q (QS.assign rfl) rfl ?_
     refine Tr.nil (Tr.thenN (Tr.ret ?_))
     refine Tr.ret3 Try.results86 rfl rfl rfl (fun w' hw => ?_)
     exact ⟨by unfold condP; (repeat (first | rw [if_pos (by omega)] | rw [if_neg (by omega)])) <;> rfl, hw.below (Bg.le.refl _)⟩
set_option maxRecDepth 100000 in
set_option maxHeartbeats 2000000 in
theorem opcode_any (i : Ins) (w : World) (hI : InsOK i) :
  Calls Try.prog 70 #[.agg (encIns.enc i).toArray] w (fun e w' => e = .returned ((.tuple #[.int .u8 (opcodeP i).1.toNat, .int .i64 (opcodeP i).2.1, .bool (opcodeP i).2.2])) ∧ Ext w w') := by
 have hop := hI.op; unfold I64 at hop
 refine enter Try.func70 rfl Try.ntmps70 rfl ?_
 refine Tr.seq (Tr.region ?_)
 refine Tr.box rfl rfl rfl (fun b1 => ?_)
 refine Tr.q (QS.assign rfl) rfl ?_
 refine Tr.q (QS.assign rfl) rfl ?_
 refine Tr.q (QS.assign rfl) rfl ?_
 refine Tr.nil (Tr.thenN (Tr.seq (Tr.block (Tr.seq (Tr.seq (Tr.region ?_))))))
 refine Tr.q (QS.fieldAddr (off := 2) (ft := 3) rfl Try.underlying67 rfl rfl Try.sizeOf3 (by decide)) rfl ?_
 refine Tr.q (QS.lV rfl Try.isAgg3) rfl ?_
 refine Tr.q (QS.eql rfl rfl) rfl ?_
 refine Tr.q (QS.assign rfl) rfl ?_
 refine Tr.nil (Tr.thenN ?_)
 apply Tr.condOr
 ·exact rfl
 ·intro hO2
  try simp only [bs] at hO2
  refine Tr.seq (Tr.region ?_)
  refine Tr.q (QS.fieldAddr (off := 2) (ft := 3) rfl Try.underlying67 rfl rfl Try.sizeOf3 (by decide)) rfl ?_
  refine Tr.q (QS.lV rfl Try.isAgg3) rfl ?_
  refine Tr.q (QS.eql rfl rfl) rfl ?_
  refine Tr.q (QS.assign rfl) rfl ?_
  refine Tr.nil (Tr.thenN ?_)
  apply Tr.condOr
  ·exact rfl
  ·intro hO3
   try simp only [bs] at hO3
   refine Tr.region ?_
   refine Tr.q (QS.fieldAddr (off := 2) (ft := 3) rfl Try.underlying67 rfl rfl Try.sizeOf3 (by decide)) rfl ?_
   refine Tr.q (QS.lV rfl Try.isAgg3) rfl ?_
   refine Tr.q (QS.eql rfl rfl) rfl ?_
   refine Tr.q (QS.assign rfl) rfl ?_
   refine Tr.nil (Tr.thenN ?_)
   exact Tr.endOr rfl (SubX.dropN 4 (by kernel_rfl) rfl)
  refine Tr.thenN ?_
  exact Tr.endOr rfl (SubX.dropN 5 (by kernel_rfl) rfl)
 refine Tr.thenN ?_
 refine Tr.cond rfl (fun h4 => ?_) (fun h4 => ?_)
 ·try simp only [bs] at h4
  refine Tr.seq (Tr.region ?_)
  refine Tr.q (QS.fieldAddr (off := 2) (ft := 3) rfl Try.underlying67 rfl rfl Try.sizeOf3 (by decide)) rfl ?_
  refine Tr.q (QS.lV rfl Try.isAgg3) rfl ?_
  refine Tr.q (QS.cvtTo8 rfl Try.underlying3 Try.underlying5) rfl ?_
  refine Tr.q (QS.assign rfl) rfl ?_
  refine Tr.q (QS.assign rfl) rfl ?_
  refine Tr.q (QS.assign rfl) rfl ?_
  refine Tr.nil (Tr.thenN (Tr.ret ?_))
  refine Tr.inR ?_
  refine Tr.thenR ?_
  refine Tr.ret3 Try.results70 rfl rfl rfl (fun w' hw => ?_)
  exact ⟨by unfold opcodeP; (repeat (first | rw [if_pos (by omega)] | rw [if_neg (by omega)])) <;> rfl, hw.below (Bg.le.refl _)⟩
 ·try simp only [bs] at h4
  refine Tr.seq (Tr.region ?_)
  refine Tr.q (QS.fieldAddr (off := 2) (ft := 3) rfl Try.underlying67 rfl rfl Try.sizeOf3 (by decide)) rfl ?_
  refine Tr.q (QS.lV rfl Try.isAgg3) rfl ?_
  refine Tr.q (QS.eql rfl rfl) rfl ?_
  refine Tr.q (QS.assign rfl) rfl ?_
  refine Tr.nil (Tr.thenN ?_)
  refine Tr.cond rfl (fun h5 => ?_) (fun h5 => ?_)
  ·try simp only [bs] at h5
   refine Tr.seq (Tr.region ?_)
   refine Tr.q (QS.fieldAddr (off := 6) (ft := 3) rfl Try.underlying67 rfl rfl Try.sizeOf3 (by decide)) rfl ?_
   refine Tr.q (QS.lV rfl Try.isAgg3) rfl ?_
   refine Tr.q (QS.and7 rfl rfl) rfl ?_
   refine Tr.q (QS.cvtTo8 rfl Try.underlying3 Try.underlying5) rfl ?_
   refine Tr.q (QS.add8 (m := 8) rfl rfl) rfl ?_
   refine Tr.q (QS.assign rfl) rfl ?_
   refine Tr.q (QS.assign rfl) rfl ?_
   refine Tr.q (QS.assign rfl) rfl ?_
   refine Tr.nil (Tr.thenN (Tr.ret ?_))
   refine Tr.inR ?_
   refine Tr.thenR ?_
   refine Tr.ret3 Try.results70 rfl rfl rfl (fun w' hw => ?_)
   exact ⟨by unfold opcodeP; (repeat (first | rw [if_pos (by omega)] | rw [if_neg (by omega)])) <;> rfl, hw.below (Bg.le.refl _)⟩
  ·try simp only [bs] at h5
   refine Tr.seq (Tr.region ?_)
   refine Tr.q (QS.fieldAddr (off := 2) (ft := 3) rfl Try.underlying67 rfl rfl Try.sizeOf3 (by decide)) rfl ?_
   refine Tr.q (QS.lV rfl Try.isAgg3) rfl ?_
   refine Tr.q (QS.eql rfl rfl) rfl ?_
   refine Tr.q (QS.assign rfl) rfl ?_
   refine Tr.nil (Tr.thenN ?_)
   refine Tr.cond rfl (fun h6 => ?_) (fun h6 => ?_)
   ·try simp only [bs] at h6
    refine Tr.seq (Tr.region ?_)
    refine Tr.q (QS.fieldAddr (off := 6) (ft := 3) rfl Try.underlying67 rfl rfl Try.sizeOf3 (by decide)) rfl ?_
    refine Tr.q (QS.lV rfl Try.isAgg3) rfl ?_
    refine Tr.q (QS.and7 rfl rfl) rfl ?_
    refine Tr.q (QS.cvtTo8 rfl Try.underlying3 Try.underlying5) rfl ?_
    refine Tr.q (QS.add8 (m := 16) rfl rfl) rfl ?_
    refine Tr.q (QS.assign rfl) rfl ?_
    refine Tr.q (QS.assign rfl) rfl ?_
    refine Tr.q (QS.assign rfl) rfl ?_
    refine Tr.nil (Tr.thenN (Tr.ret ?_))
    refine Tr.inR ?_
    refine Tr.thenR ?_
    refine Tr.ret3 Try.results70 rfl rfl rfl (fun w' hw => ?_)
    exact ⟨by unfold opcodeP; (repeat (first | rw [if_pos (by omega)] | rw [if_neg (by omega)])) <;> rfl, hw.below (Bg.le.refl _)⟩
   ·try simp only [bs] at h6
    refine Tr.seq (Tr.region ?_)
    refine Tr.q (QS.fieldAddr (off := 2) (ft := 3) rfl Try.underlying67 rfl rfl Try.sizeOf3 (by decide)) rfl ?_
    refine Tr.q (QS.lV rfl Try.isAgg3) rfl ?_
    refine Tr.q (QS.geq rfl rfl) rfl ?_
    refine Tr.q (QS.move rfl) rfl ?_
    apply Tr.andP
    ·exact (rfl : _ = (4, 41, 45))
    ·exact rfl
    ·intro hT7; have hT7' := hT7
     try simp only [bs] at hT7'
     refine Tr.gq rfl rfl hT7 (QS.fieldAddr (off := 2) (ft := 3) rfl Try.underlying67 rfl rfl Try.sizeOf3 (by decide)) rfl ?_
     refine Tr.gq rfl rfl hT7 (QS.lV rfl Try.isAgg3) rfl ?_
     refine Tr.gq rfl rfl hT7 (QS.leq rfl rfl) rfl ?_
     refine Tr.q (QS.pickT rfl hT7 rfl) rfl ?_
     refine Tr.nil (Tr.thenN ?_)
     exact Tr.endX (Sub.cons rfl (Sub.dropN 4 (by kernel_rfl) rfl))
    ·intro hF7
     refine Tr.gskip rfl rfl hF7 rfl ?_
     refine Tr.gskip rfl rfl hF7 rfl ?_
     refine Tr.gskip rfl rfl hF7 rfl ?_
     refine Tr.q (QS.pickF rfl hF7 rfl) rfl ?_
     refine Tr.nil (Tr.thenN ?_)
     exact Tr.endX (Sub.cons rfl (Sub.dropN 4 (by kernel_rfl) rfl))
    refine Tr.q (QS.assign rfl) rfl ?_
    refine Tr.nil (Tr.thenN ?_)
    refine Tr.cond rfl (fun h8 => ?_) (fun h8 => ?_)
    ·try simp only [bs] at h8
     refine Tr.seq (Tr.region ?_)
     refine Tr.q (QS.fieldAddr (off := 2) (ft := 3) rfl Try.underlying67 rfl rfl Try.sizeOf3 (by decide)) rfl ?_
     refine Tr.q (QS.lV rfl Try.isAgg3) rfl ?_
     refine Tr.q (QS.subI rfl rfl (by omega)) rfl ?_
     refine Tr.q (QS.cvtTo8 rfl Try.underlying3 Try.underlying5) rfl ?_
     refine Tr.q (QS.assign rfl) rfl ?_
     refine Tr.nil (Tr.thenN (Tr.seq (Tr.region ?_)))
     refine Tr.q (QS.fieldAddr (off := 3) (ft := 3) rfl Try.underlying67 rfl rfl Try.sizeOf3 (by decide)) rfl ?_
     refine Tr.q (QS.lV rfl Try.isAgg3) rfl ?_
     refine Tr.nil (Tr.thenN (Tr.block (Tr.seq (Tr.region ?_))))
     refine Tr.q (QS.eql rfl rfl) rfl ?_
     refine Tr.q (QS.assign rfl) rfl ?_
     refine Tr.nil (Tr.thenN ?_)
     refine Tr.cond rfl (fun h9 => ?_) (fun h9 => ?_)
     ·try simp only [bs] at h9
      refine Tr.seq (Tr.region ?_)
      refine Tr.q (QS.move rfl) rfl ?_
      refine Tr.q (QS.add8 (m := 32) rfl rfl) rfl ?_
      refine Tr.q (QS.assign rfl) rfl ?_
      refine Tr.q (QS.assign rfl) rfl ?_
      refine Tr.q (QS.assign rfl) rfl ?_
      refine Tr.nil (Tr.thenN (Tr.ret ?_))
      refine Tr.inR ?_
      refine Tr.inR ?_
      refine Tr.thenR ?_
      refine Tr.ret3 Try.results70 rfl rfl rfl (fun w' hw => ?_)
      exact ⟨by unfold opcodeP; (repeat (first | rw [if_pos (by omega)] | rw [if_neg (by omega)])) <;> rfl, hw.below (Bg.le.refl _)⟩
     ·try simp only [bs] at h9
      refine Tr.seq (Tr.region ?_)
      refine Tr.q (QS.eql rfl rfl) rfl ?_
      refine Tr.q (QS.assign rfl) rfl ?_
      refine Tr.nil (Tr.thenN ?_)
      refine Tr.cond rfl (fun h10 => ?_) (fun h10 => ?_)
      ·try simp only [bs] at h10
       refine Tr.seq (Tr.region ?_)
       refine Tr.q (QS.move rfl) rfl ?_
       refine Tr.q (QS.add8 (m := 48) rfl rfl) rfl ?_
       refine Tr.q (QS.assign rfl) rfl ?_
       refine Tr.q (QS.assign rfl) rfl ?_
       refine Tr.q (QS.assign rfl) rfl ?_
       refine Tr.nil (Tr.thenN (Tr.ret ?_))
       refine Tr.inR ?_
       refine Tr.inR ?_
       refine Tr.thenR ?_
       refine Tr.ret3 Try.results70 rfl rfl rfl (fun w' hw => ?_)
       exact ⟨by unfold opcodeP; (repeat (first | rw [if_pos (by omega)] | rw [if_neg (by omega)])) <;> rfl, hw.below (Bg.le.refl _)⟩
      ·try simp only [bs] at h10
       refine Tr.seq (Tr.region ?_)
       refine Tr.q (QS.eql rfl rfl) rfl ?_
       refine Tr.q (QS.assign rfl) rfl ?_
       refine Tr.nil (Tr.thenN ?_)
       refine Tr.cond rfl (fun h11 => ?_) (fun h11 => ?_)
       ·try simp only [bs] at h11
        refine Tr.seq (Tr.region ?_)
        refine Tr.q (QS.move rfl) rfl ?_
        refine Tr.q (QS.add8 (m := 64) rfl rfl) rfl ?_
        refine Tr.q (QS.assign rfl) rfl ?_
        refine Tr.q (QS.assign rfl) rfl ?_
        refine Tr.q (QS.assign rfl) rfl ?_
        refine Tr.nil (Tr.thenN (Tr.ret ?_))
        refine Tr.inR ?_
        refine Tr.inR ?_
        refine Tr.thenR ?_
        refine Tr.ret3 Try.results70 rfl rfl rfl (fun w' hw => ?_)
        exact ⟨by unfold opcodeP; (repeat (first | rw [if_pos (by omega)] | rw [if_neg (by omega)])) <;> rfl, hw.below (Bg.le.refl _)⟩
       ·try simp only [bs] at h11
        refine Tr.skip (Tr.inN (Tr.inN (Tr.thenN (Tr.seq (Tr.region ?_)))))
        refine Tr.q (QS.assign rfl) rfl ?_
        refine Tr.q (QS.assign rfl) rfl ?_
        refine Tr.q (QS.assign rfl) rfl ?_
        refine Tr.nil (Tr.thenN (Tr.ret ?_))
        refine Tr.ret3 Try.results70 rfl rfl rfl (fun w' hw => ?_)
        exact ⟨by unfold opcodeP; (repeat (first | rw [if_pos (by omega)] | rw [if_neg (by omega)])) <;> rfl, hw.below (Bg.le.refl _)⟩
    ·try simp only [bs] at h8
     refine Tr.seq (Tr.seq (Tr.region ?_))
     refine Tr.q (QS.fieldAddr (off := 2) (ft := 3) rfl Try.underlying67 rfl rfl Try.sizeOf3 (by decide)) rfl ?_
     refine Tr.q (QS.lV rfl Try.isAgg3) rfl ?_
     refine Tr.q (QS.eql rfl rfl) rfl ?_
     refine Tr.q (QS.assign rfl) rfl ?_
     refine Tr.nil (Tr.thenN ?_)
     apply Tr.condOr
     ·exact rfl
     ·intro hO12
      try simp only [bs] at hO12
      refine Tr.seq (Tr.region ?_)
      refine Tr.q (QS.fieldAddr (off := 2) (ft := 3) rfl Try.underlying67 rfl rfl Try.sizeOf3 (by decide)) rfl ?_
      refine Tr.q (QS.lV rfl Try.isAgg3) rfl ?_
      refine Tr.q (QS.eql rfl rfl) rfl ?_
      refine Tr.q (QS.assign rfl) rfl ?_
      refine Tr.nil (Tr.thenN ?_)
      apply Tr.condOr
      ·exact rfl
      ·intro hO13
       try simp only [bs] at hO13
       refine Tr.region ?_
       refine Tr.q (QS.fieldAddr (off := 2) (ft := 3) rfl Try.underlying67 rfl rfl Try.sizeOf3 (by decide)) rfl ?_
       refine Tr.q (QS.lV rfl Try.isAgg3) rfl ?_
       refine Tr.q (QS.eql rfl rfl) rfl ?_
       refine Tr.q (QS.assign rfl) rfl ?_
       refine Tr.nil (Tr.thenN ?_)
       exact Tr.endOr rfl (SubX.dropN 4 (by kernel_rfl) rfl)
      refine Tr.thenN ?_
      exact Tr.endOr rfl (SubX.dropN 5 (by kernel_rfl) rfl)
     refine Tr.thenN ?_
     refine Tr.cond rfl (fun h14 => ?_) (fun h14 => ?_)
     ·try simp only [bs] at h14
      refine Tr.seq (Tr.region ?_)
      refine Tr.q (QS.lW rfl Try.isAgg67 Try.sizeOf67) rfl ?_
      refine Tr.q (QS.call rfl Try.call85 (fun w hw => access_any i w)) rfl ?_
      refine Tr.q (QS.extract rfl rfl) rfl ?_
      refine Tr.q (QS.extract rfl rfl) rfl ?_
      refine Tr.q (QS.extract rfl rfl) rfl ?_
      refine Tr.q (QS.assign rfl) rfl ?_
      refine Tr.q (QS.assign rfl) rfl ?_
      refine Tr.q (QS.assign rfl) rfl ?_
      refine Tr.nil (Tr.thenN (Tr.ret ?_))
      refine Tr.inR ?_
      refine Tr.thenR ?_
      refine Tr.ret3 Try.results70 rfl rfl rfl (fun w' hw => ?_)
      exact ⟨by unfold opcodeP; (repeat (first | rw [if_pos (by omega)] | rw [if_neg (by omega)])) <;> rfl, hw.below (Bg.le.refl _)⟩
     ·try simp only [bs] at h14
      refine Tr.seq (Tr.region ?_)
      refine Tr.q (QS.fieldAddr (off := 2) (ft := 3) rfl Try.underlying67 rfl rfl Try.sizeOf3 (by decide)) rfl ?_
      refine Tr.q (QS.lV rfl Try.isAgg3) rfl ?_
      refine Tr.q (QS.eql rfl rfl) rfl ?_
      refine Tr.q (QS.assign rfl) rfl ?_
      refine Tr.nil (Tr.thenN ?_)
      refine Tr.cond rfl (fun h15 => ?_) (fun h15 => ?_)
      ·try simp only [bs] at h15
       refine Tr.seq (Tr.region ?_)
       refine Tr.q (QS.assign rfl) rfl ?_
       refine Tr.q (QS.assign rfl) rfl ?_
       refine Tr.q (QS.assign rfl) rfl ?_
       refine Tr.nil (Tr.thenN (Tr.ret ?_))
       refine Tr.inR ?_
       refine Tr.thenR ?_
       refine Tr.ret3 Try.results70 rfl rfl rfl (fun w' hw => ?_)
       exact ⟨by unfold opcodeP; (repeat (first | rw [if_pos (by omega)] | rw [if_neg (by omega)])) <;> rfl, hw.below (Bg.le.refl _)⟩
      ·try simp only [bs] at h15
       refine Tr.seq (Tr.region ?_)
       refine Tr.q (QS.fieldAddr (off := 2) (ft := 3) rfl Try.underlying67 rfl rfl Try.sizeOf3 (by decide)) rfl ?_
       refine Tr.q (QS.lV rfl Try.isAgg3) rfl ?_
       refine Tr.q (QS.eql rfl rfl) rfl ?_
       refine Tr.q (QS.move rfl) rfl ?_
       apply Tr.orP
       ·exact (rfl : _ = (4, 87, 91))
       ·exact rfl
       ·intro hF16; have hF16' := hF16
        try simp only [bs] at hF16'
        refine Tr.gq rfl rfl hF16 (QS.fieldAddr (off := 2) (ft := 3) rfl Try.underlying67 rfl rfl Try.sizeOf3 (by decide)) rfl ?_
        refine Tr.gq rfl rfl hF16 (QS.lV rfl Try.isAgg3) rfl ?_
        refine Tr.gq rfl rfl hF16 (QS.eql rfl rfl) rfl ?_
        refine Tr.q (QS.pickF rfl hF16 rfl) rfl ?_
        refine Tr.nil (Tr.thenN ?_)
        exact Tr.endX (Sub.cons rfl (Sub.dropN 4 (by kernel_rfl) rfl))
       ·intro hT16
        refine Tr.gskip rfl rfl hT16 rfl ?_
        refine Tr.gskip rfl rfl hT16 rfl ?_
        refine Tr.gskip rfl rfl hT16 rfl ?_
        refine Tr.q (QS.pickT rfl hT16 rfl) rfl ?_
        refine Tr.nil (Tr.thenN ?_)
        exact Tr.endX (Sub.cons rfl (Sub.dropN 4 (by kernel_rfl) rfl))
       refine Tr.q (QS.assign rfl) rfl ?_
       refine Tr.nil (Tr.thenN ?_)
       refine Tr.cond rfl (fun h17 => ?_) (fun h17 => ?_)
       ·try simp only [bs] at h17
        refine Tr.seq (Tr.region ?_)
        refine Tr.q (QS.lW rfl Try.isAgg67 Try.sizeOf67) rfl ?_
        refine Tr.q (QS.call rfl Try.call86 (fun w hw => conditional_any i w)) rfl ?_
        refine Tr.q (QS.extract rfl rfl) rfl ?_
        refine Tr.q (QS.extract rfl rfl) rfl ?_
        refine Tr.q (QS.extract rfl rfl) rfl ?_
        refine Tr.q (QS.assign rfl) rfl ?_
        refine Tr.q (QS.assign rfl) rfl ?_
        refine Tr.q (QS.assign rfl) rfl ?_
        refine Tr.nil (Tr.thenN (Tr.ret ?_))
        refine Tr.inR ?_
        refine Tr.thenR ?_
        refine Tr.ret3 Try.results70 rfl rfl rfl (fun w' hw => ?_)
        exact ⟨by unfold opcodeP; (repeat (first | rw [if_pos (by omega)] | rw [if_neg (by omega)])) <;> rfl, hw.below (Bg.le.refl _)⟩
       ·try simp only [bs] at h17
        refine Tr.seq (Tr.region ?_)
        refine Tr.q (QS.fieldAddr (off := 2) (ft := 3) rfl Try.underlying67 rfl rfl Try.sizeOf3 (by decide)) rfl ?_
        refine Tr.q (QS.lV rfl Try.isAgg3) rfl ?_
        refine Tr.q (QS.eql rfl rfl) rfl ?_
        refine Tr.q (QS.assign rfl) rfl ?_
        refine Tr.nil (Tr.thenN ?_)
        refine Tr.cond rfl (fun h18 => ?_) (fun h18 => ?_)
        ·try simp only [bs] at h18
         refine Tr.seq (Tr.region ?_)
         refine Tr.q (QS.assign rfl) rfl ?_
         refine Tr.q (QS.assign rfl) rfl ?_
         refine Tr.q (QS.assign rfl) rfl ?_
         refine Tr.nil (Tr.thenN (Tr.ret ?_))
         refine Tr.inR ?_
         refine Tr.thenR ?_
         refine Tr.ret3 Try.results70 rfl rfl rfl (fun w' hw => ?_)
         exact ⟨by unfold opcodeP; (repeat (first | rw [if_pos (by omega)] | rw [if_neg (by omega)])) <;> rfl, hw.below (Bg.le.refl _)⟩
        ·try simp only [bs] at h18
         refine Tr.seq (Tr.region ?_)
         refine Tr.q (QS.fieldAddr (off := 2) (ft := 3) rfl Try.underlying67 rfl rfl Try.sizeOf3 (by decide)) rfl ?_
         refine Tr.q (QS.lV rfl Try.isAgg3) rfl ?_
         refine Tr.q (QS.eql rfl rfl) rfl ?_
         refine Tr.q (QS.assign rfl) rfl ?_
         refine Tr.nil (Tr.thenN ?_)
         refine Tr.cond rfl (fun h19 => ?_) (fun h19 => ?_)
         ·try simp only [bs] at h19
          refine Tr.seq (Tr.region ?_)
          refine Tr.q (QS.assign rfl) rfl ?_
          refine Tr.q (QS.assign rfl) rfl ?_
          refine Tr.q (QS.assign rfl) rfl ?_
          refine Tr.nil (Tr.thenN (Tr.ret ?_))
          refine Tr.inR ?_
          refine Tr.thenR ?_
          refine Tr.ret3 Try.results70 rfl rfl rfl (fun w' hw => ?_)
          exact ⟨by unfold opcodeP; (repeat (first | rw [if_pos (by omega)] | rw [if_neg (by omega)])) <;> rfl, hw.below (Bg.le.refl _)⟩
         ·try simp only [bs] at h19
          refine Tr.seq (Tr.region ?_)
          refine Tr.q (QS.fieldAddr (off := 2) (ft := 3) rfl Try.underlying67 rfl rfl Try.sizeOf3 (by decide)) rfl ?_
          refine Tr.q (QS.lV rfl Try.isAgg3) rfl ?_
          refine Tr.q (QS.eql rfl rfl) rfl ?_
          refine Tr.q (QS.assign rfl) rfl ?_
          refine Tr.nil (Tr.thenN ?_)
          refine Tr.cond rfl (fun h20 => ?_) (fun h20 => ?_)
          ·try simp only [bs] at h20
           refine Tr.seq (Tr.region ?_)
           refine Tr.q (QS.assign rfl) rfl ?_
           refine Tr.q (QS.assign rfl) rfl ?_
           refine Tr.q (QS.assign rfl) rfl ?_
           refine Tr.nil (Tr.thenN (Tr.ret ?_))
           refine Tr.inR ?_
           refine Tr.thenR ?_
           refine Tr.ret3 Try.results70 rfl rfl rfl (fun w' hw => ?_)
           exact ⟨by unfold opcodeP; (repeat (first | rw [if_pos (by omega)] | rw [if_neg (by omega)])) <;> rfl, hw.below (Bg.le.refl _)⟩
          ·try simp only [bs] at h20
           refine Tr.seq (Tr.region ?_)
           refine Tr.q (QS.fieldAddr (off := 2) (ft := 3) rfl Try.underlying67 rfl rfl Try.sizeOf3 (by decide)) rfl ?_
           refine Tr.q (QS.lV rfl Try.isAgg3) rfl ?_
           refine Tr.q (QS.eql rfl rfl) rfl ?_
           refine Tr.q (QS.assign rfl) rfl ?_
           refine Tr.nil (Tr.thenN ?_)
           refine Tr.cond rfl (fun h21 => ?_) (fun h21 => ?_)
           ·try simp only [bs] at h21
            refine Tr.seq (Tr.region ?_)
            refine Tr.q (QS.assign rfl) rfl ?_
            refine Tr.q (QS.assign rfl) rfl ?_
            refine Tr.q (QS.assign rfl) rfl ?_
            refine Tr.nil (Tr.thenN (Tr.ret ?_))
            refine Tr.inR ?_
            refine Tr.thenR ?_
            refine Tr.ret3 Try.results70 rfl rfl rfl (fun w' hw => ?_)
            exact ⟨by unfold opcodeP; (repeat (first | rw [if_pos (by omega)] | rw [if_neg (by omega)])) <;> rfl, hw.below (Bg.le.refl _)⟩
           ·try simp only [bs] at h21
            refine Tr.seq (Tr.region ?_)
            refine Tr.q (QS.fieldAddr (off := 2) (ft := 3) rfl Try.underlying67 rfl rfl Try.sizeOf3 (by decide)) rfl ?_
            refine Tr.q (QS.lV rfl Try.isAgg3) rfl ?_
            refine Tr.q (QS.eql rfl rfl) rfl ?_
            refine Tr.q (QS.assign rfl) rfl ?_
            refine Tr.nil (Tr.thenN ?_)
            refine Tr.cond rfl (fun h22 => ?_) (fun h22 => ?_)
            ·try simp only [bs] at h22
             refine Tr.seq (Tr.region ?_)
             refine Tr.q (QS.assign rfl) rfl ?_
             refine Tr.q (QS.assign rfl) rfl ?_
             refine Tr.q (QS.assign rfl) rfl ?_
             refine Tr.nil (Tr.thenN (Tr.ret ?_))
             refine Tr.inR ?_
             refine Tr.thenR ?_
             refine Tr.ret3 Try.results70 rfl rfl rfl (fun w' hw => ?_)
             exact ⟨by unfold opcodeP; (repeat (first | rw [if_pos (by omega)] | rw [if_neg (by omega)])) <;> rfl, hw.below (Bg.le.refl _)⟩
            ·try simp only [bs] at h22
             refine Tr.seq (Tr.region ?_)
             refine Tr.q (QS.fieldAddr (off := 2) (ft := 3) rfl Try.underlying67 rfl rfl Try.sizeOf3 (by decide)) rfl ?_
             refine Tr.q (QS.lV rfl Try.isAgg3) rfl ?_
             refine Tr.q (QS.eql rfl rfl) rfl ?_
             refine Tr.q (QS.assign rfl) rfl ?_
             refine Tr.nil (Tr.thenN ?_)
             refine Tr.cond rfl (fun h23 => ?_) (fun h23 => ?_)
             ·try simp only [bs] at h23
              refine Tr.seq (Tr.region ?_)
              refine Tr.q (QS.assign rfl) rfl ?_
              refine Tr.q (QS.assign rfl) rfl ?_
              refine Tr.q (QS.assign rfl) rfl ?_
              refine Tr.nil (Tr.thenN (Tr.ret ?_))
              refine Tr.inR ?_
              refine Tr.thenR ?_
              refine Tr.ret3 Try.results70 rfl rfl rfl (fun w' hw => ?_)
              exact ⟨by unfold opcodeP; (repeat (first | rw [if_pos (by omega)] | rw [if_neg (by omega)])) <;> rfl, hw.below (Bg.le.refl _)⟩
             ·try simp only [bs] at h23
              refine Tr.skip (Tr.inN (Tr.thenN (Tr.seq (Tr.region ?_))))
              refine Tr.q (QS.assign rfl) rfl ?_
              refine Tr.q (QS.assign rfl) rfl ?_
              refine Tr.q (QS.assign rfl) rfl ?_
              refine Tr.nil (Tr.thenN (Tr.ret ?_))
              refine Tr.ret3 Try.results70 rfl rfl rfl (fun w' hw => ?_)
              exact ⟨by unfold opcodeP; (repeat (first | rw [if_pos (by omega)] | rw [if_neg (by omega)])) <;> rfl, hw.below (Bg.le.refl _)⟩
set_option maxRecDepth 100000 in
set_option maxHeartbeats 2000000 in
theorem kept_any (i : Ins) (s : Int) (w : World) :
  Calls Try.prog 80 #[.agg (encIns.enc i).toArray, .int .i64 s] w (fun e w' => e = .returned (.agg (encIns.enc (keptP i s)).toArray) ∧ Ext w w') := by
 refine enter Try.func80 rfl Try.ntmps80 rfl ?_
 refine Tr.seq (Tr.region ?_)
 refine Tr.box rfl rfl rfl (fun b1 => ?_)
 refine Tr.alloc Try.zeroValue67 rfl rfl (fun b2 => ?_)
 refine Tr.nil (Tr.thenN (Tr.seq (Tr.region ?_)))
 refine Tr.q (QS.fieldAddr (off := 0) (ft := 22) rfl Try.underlying67 rfl rfl Try.sizeOf22 (by decide)) rfl ?_
 refine Tr.q (QS.lV rfl Try.isAgg22) rfl ?_
 refine Tr.q (QS.fieldAddr (off := 2) (ft := 3) rfl Try.underlying67 rfl rfl Try.sizeOf3 (by decide)) rfl ?_
 refine Tr.q (QS.lV rfl Try.isAgg3) rfl ?_
 refine Tr.q (QS.fieldAddr (off := 8) (ft := 3) rfl Try.underlying67 rfl rfl Try.sizeOf3 (by decide)) rfl ?_
 refine Tr.q (QS.lV rfl Try.isAgg3) rfl ?_
 refine Tr.q (QS.build (vs := [(0, _), (2, _), (8, _)]) rfl rfl (HLF.built67_0_2_8 _ _ _)) rfl ?_
 refine Tr.alloc Try.zeroValue67 rfl rfl (fun b3 => ?_)
 refine Tr.storeW rfl rfl Try.sizeOf67 (by repeat constructor) (by rfl) (by rfl) (by first | exact List.all_eq_true.1 rfl | exact Enc.one _ _ | exact Enc.one encIns _) rfl ?_
 refine Tr.nil (Tr.thenN ?_)
 refine Tr.seqJ (ι := Ins) (fun k1 => k1 = kept1 i s) (fun _ => Bg.of w) (fun k1 => [cellE b3 (encIns.enc k1) 67, cellE b2 (encIns.enc zeroIns) 67, cellE b1 (encIns.enc i) 67]) (fun k1 => []) ?_ (fun k1 hi => ?_)
 ·skip
  refine Tr.seq (Tr.region ?_)
  refine Tr.q (QS.move rfl) rfl ?_
  refine Tr.nil (Tr.thenN (Tr.block (Tr.seq (Tr.seq (Tr.region ?_)))))
  refine Tr.q (QS.eql rfl rfl) rfl ?_
  refine Tr.q (QS.assign rfl) rfl ?_
  refine Tr.nil (Tr.thenN ?_)
  apply Tr.condOr
  ·exact rfl
  ·intro hO4
   try simp only [bs] at hO4
   refine Tr.region ?_
   refine Tr.q (QS.eql rfl rfl) rfl ?_
   refine Tr.q (QS.assign rfl) rfl ?_
   refine Tr.nil (Tr.thenN ?_)
   exact Tr.endOr rfl (SubX.dropN 2 (by kernel_rfl) rfl)
  refine Tr.thenN ?_
  refine Tr.cond rfl (fun h5 => ?_) (fun h5 => ?_)
  ·try simp only [bs] at h5
   refine Tr.region ?_
   refine Tr.q (QS.fieldAddr (off := 6) (ft := 3) rfl Try.underlying67 rfl rfl Try.sizeOf3 (by decide)) rfl ?_
   refine Tr.q (QS.lV rfl Try.isAgg3) rfl ?_
   refine Tr.q (QS.fieldAddr (off := 6) (ft := 3) rfl Try.underlying67 rfl rfl Try.sizeOf3 (by decide)) rfl ?_
   refine Tr.storeV (cs' := [_, _, _, _, _, _, _, _, _]) rfl rfl Try.sizeOf3 (by repeat constructor) rfl (by rfl) (by first | exact Nat.le_of_ble_eq_true rfl | simp) (by first | exact List.all_eq_true.1 rfl | (intro u hu; simp [Value.cells] at hu; simp_all [Value.oneCell'])) rfl ?_
   refine Tr.nil (Tr.inN (Tr.thenN ?_))
   apply Tr.joined ⟨i.addr, 0, i.op, 0, 0, 0, i.a, 0, i.size⟩
   ·exact rfl
   ·exact Front.nil
   ·exact SubX.dropN 7 (by kernel_rfl) rfl
   ·exact (by repeat' constructor)
   ·exact (by simp only [kept1]; congr 1 <;> first | rfl | (rw [if_pos (by omega)]) | (rw [if_neg (by omega)]))
  ·try simp only [bs] at h5
   refine Tr.seq (Tr.region ?_)
   refine Tr.q (QS.eql rfl rfl) rfl ?_
   refine Tr.q (QS.assign rfl) rfl ?_
   refine Tr.nil (Tr.thenN ?_)
   refine Tr.cond rfl (fun h6 => ?_) (fun h6 => ?_)
   ·try simp only [bs] at h6
    refine Tr.regionH ([cellE b1 (encIns.enc i) 67]) 8 rfl HLF.mixed ?_
    refine Tr.hT 0 rfl (by kernel_rfl) (panicIn (panicThen panicBody)) (QS.fieldAddr (off := 6) (ft := 3) rfl Try.underlying67 rfl rfl Try.sizeOf3 (by decide)) ?_
    refine Tr.hT 1 rfl (by kernel_rfl) (panicIn (panicThen panicBody)) (QS.lV rfl Try.isAgg3) ?_
    refine Tr.hT 2 rfl (by kernel_rfl) (panicIn (panicThen panicBody)) (QS.fieldAddr (off := 7) (ft := 3) rfl Try.underlying67 rfl rfl Try.sizeOf3 (by decide)) ?_
    refine Tr.hT 3 rfl (by kernel_rfl) (panicIn (panicThen panicBody)) (QS.lV rfl Try.isAgg3) ?_
    refine Tr.hT 4 rfl (by kernel_rfl) (panicIn (panicThen panicBody)) (QS.fieldAddr (off := 6) (ft := 3) rfl Try.underlying67 rfl rfl Try.sizeOf3 (by decide)) ?_
    refine Tr.hAll [5] (by kernel_rfl) (by simp) (fun iq hq => ?_)
    obtain rfl := List.mem_singleton.1 hq
    refine Tr.hOp rfl ?_
    refine Tr.storeV (cs' := [_, _, _, _, _, _, _, _, _]) rfl rfl Try.sizeOf3 (by repeat constructor) rfl (by rfl) (by first | exact Nat.le_of_ble_eq_true rfl | simp) (by first | exact List.all_eq_true.1 rfl | (intro u hu; simp [Value.cells] at hu; simp_all [Value.oneCell'])) rfl ?_
    refine Tr.hN ?_
    refine Tr.hT 6 rfl (by kernel_rfl) (panicIn (panicThen panicBody)) (QS.fieldAddr (off := 7) (ft := 3) rfl Try.underlying67 rfl rfl Try.sizeOf3 (by decide)) ?_
    refine Tr.hAll [7] (by kernel_rfl) (by simp) (fun iq hq => ?_)
    obtain rfl := List.mem_singleton.1 hq
    refine Tr.hOp rfl ?_
    refine Tr.storeV (cs' := [_, _, _, _, _, _, _, _, _]) rfl rfl Try.sizeOf3 (by repeat constructor) rfl (by rfl) (by first | exact Nat.le_of_ble_eq_true rfl | simp) (by first | exact List.all_eq_true.1 rfl | (intro u hu; simp [Value.cells] at hu; simp_all [Value.oneCell'])) rfl ?_
    refine Tr.hN ?_
    refine Tr.hDone (by kernel_rfl) ?_
    refine Tr.inN (Tr.thenN ?_)
    apply Tr.joined ⟨i.addr, 0, i.op, 0, 0, 0, i.a, i.b, i.size⟩
    ·exact rfl
    ·exact Front.nil
    ·exact SubX.dropN 12 (by kernel_rfl) rfl
    ·exact (by repeat' constructor)
    ·exact (by simp only [kept1]; congr 1 <;> first | rfl | (rw [if_pos (by omega)]) | (rw [if_neg (by omega)]))
   ·try simp only [bs] at h6
    refine Tr.seq (Tr.seq (Tr.region ?_))
    refine Tr.q (QS.eql rfl rfl) rfl ?_
    refine Tr.q (QS.assign rfl) rfl ?_
    refine Tr.nil (Tr.thenN ?_)
    apply Tr.condOr
    ·exact rfl
    ·intro hO7
     try simp only [bs] at hO7
     refine Tr.region ?_
     refine Tr.q (QS.eql rfl rfl) rfl ?_
     refine Tr.q (QS.assign rfl) rfl ?_
     refine Tr.nil (Tr.thenN ?_)
     exact Tr.endOr rfl (SubX.dropN 2 (by kernel_rfl) rfl)
    refine Tr.thenN ?_
    refine Tr.cond rfl (fun h8 => ?_) (fun h8 => ?_)
    ·try simp only [bs] at h8
     refine Tr.regionH ([cellE b1 (encIns.enc i) 67]) 8 rfl HLF.mixed ?_
     refine Tr.hT 0 rfl (by kernel_rfl) (panicIn (panicThen panicBody)) (QS.fieldAddr (off := 6) (ft := 3) rfl Try.underlying67 rfl rfl Try.sizeOf3 (by decide)) ?_
     refine Tr.hT 1 rfl (by kernel_rfl) (panicIn (panicThen panicBody)) (QS.lV rfl Try.isAgg3) ?_
     refine Tr.hT 2 rfl (by kernel_rfl) (panicIn (panicThen panicBody)) (QS.fieldAddr (off := 1) (ft := 22) rfl Try.underlying67 rfl rfl Try.sizeOf22 (by decide)) ?_
     refine Tr.hT 3 rfl (by kernel_rfl) (panicIn (panicThen panicBody)) (QS.lV rfl Try.isAgg22) ?_
     refine Tr.hT 4 rfl (by kernel_rfl) (panicIn (panicThen panicBody)) (QS.fieldAddr (off := 6) (ft := 3) rfl Try.underlying67 rfl rfl Try.sizeOf3 (by decide)) ?_
     refine Tr.hAll [5] (by kernel_rfl) (by simp) (fun iq hq => ?_)
     obtain rfl := List.mem_singleton.1 hq
     refine Tr.hOp rfl ?_
     refine Tr.storeV (cs' := [_, _, _, _, _, _, _, _, _]) rfl rfl Try.sizeOf3 (by repeat constructor) rfl (by rfl) (by first | exact Nat.le_of_ble_eq_true rfl | simp) (by first | exact List.all_eq_true.1 rfl | (intro u hu; simp [Value.cells] at hu; simp_all [Value.oneCell'])) rfl ?_
     refine Tr.hN ?_
     refine Tr.hT 6 rfl (by kernel_rfl) (panicIn (panicThen panicBody)) (QS.fieldAddr (off := 1) (ft := 22) rfl Try.underlying67 rfl rfl Try.sizeOf22 (by decide)) ?_
     refine Tr.hAll [7] (by kernel_rfl) (by simp) (fun iq hq => ?_)
     obtain rfl := List.mem_singleton.1 hq
     refine Tr.hOp rfl ?_
     refine Tr.storeV (cs' := [_, _, _, _, _, _, _, _, _]) rfl rfl Try.sizeOf22 (by repeat constructor) rfl (by rfl) (by first | exact Nat.le_of_ble_eq_true rfl | simp) (by first | exact List.all_eq_true.1 rfl | (intro u hu; simp [Value.cells] at hu; simp_all [Value.oneCell'])) rfl ?_
     refine Tr.hN ?_
     refine Tr.hDone (by kernel_rfl) ?_
     refine Tr.inN (Tr.thenN ?_)
     apply Tr.joined ⟨i.addr, i.imm, i.op, 0, 0, 0, i.a, 0, i.size⟩
     ·exact rfl
     ·exact Front.nil
     ·exact SubX.dropN 15 (by kernel_rfl) rfl
     ·exact (by repeat' constructor)
     ·exact (by simp only [kept1]; congr 1 <;> first | rfl | (rw [if_pos (by omega)]) | (rw [if_neg (by omega)]))
    ·try simp only [bs] at h8
     refine Tr.seq (Tr.region ?_)
     refine Tr.q (QS.eql rfl rfl) rfl ?_
     refine Tr.q (QS.assign rfl) rfl ?_
     refine Tr.nil (Tr.thenN ?_)
     refine Tr.cond rfl (fun h9 => ?_) (fun h9 => ?_)
     ·try simp only [bs] at h9
      refine Tr.regionH ([cellE b1 (encIns.enc i) 67]) 12 rfl HLF.mixed ?_
      refine Tr.hT 0 rfl (by kernel_rfl) (panicIn (panicThen panicBody)) (QS.fieldAddr (off := 6) (ft := 3) rfl Try.underlying67 rfl rfl Try.sizeOf3 (by decide)) ?_
      refine Tr.hT 1 rfl (by kernel_rfl) (panicIn (panicThen panicBody)) (QS.lV rfl Try.isAgg3) ?_
      refine Tr.hT 2 rfl (by kernel_rfl) (panicIn (panicThen panicBody)) (QS.fieldAddr (off := 7) (ft := 3) rfl Try.underlying67 rfl rfl Try.sizeOf3 (by decide)) ?_
      refine Tr.hT 3 rfl (by kernel_rfl) (panicIn (panicThen panicBody)) (QS.lV rfl Try.isAgg3) ?_
      refine Tr.hT 4 rfl (by kernel_rfl) (panicIn (panicThen panicBody)) (QS.fieldAddr (off := 1) (ft := 22) rfl Try.underlying67 rfl rfl Try.sizeOf22 (by decide)) ?_
      refine Tr.hT 5 rfl (by kernel_rfl) (panicIn (panicThen panicBody)) (QS.lV rfl Try.isAgg22) ?_
      refine Tr.hT 6 rfl (by kernel_rfl) (panicIn (panicThen panicBody)) (QS.fieldAddr (off := 6) (ft := 3) rfl Try.underlying67 rfl rfl Try.sizeOf3 (by decide)) ?_
      refine Tr.hAll [7] (by kernel_rfl) (by simp) (fun iq hq => ?_)
      obtain rfl := List.mem_singleton.1 hq
      refine Tr.hOp rfl ?_
      refine Tr.storeV (cs' := [_, _, _, _, _, _, _, _, _]) rfl rfl Try.sizeOf3 (by repeat constructor) rfl (by rfl) (by first | exact Nat.le_of_ble_eq_true rfl | simp) (by first | exact List.all_eq_true.1 rfl | (intro u hu; simp [Value.cells] at hu; simp_all [Value.oneCell'])) rfl ?_
      refine Tr.hN ?_
      refine Tr.hT 8 rfl (by kernel_rfl) (panicIn (panicThen panicBody)) (QS.fieldAddr (off := 7) (ft := 3) rfl Try.underlying67 rfl rfl Try.sizeOf3 (by decide)) ?_
      refine Tr.hAll [9] (by kernel_rfl) (by simp) (fun iq hq => ?_)
      obtain rfl := List.mem_singleton.1 hq
      refine Tr.hOp rfl ?_
      refine Tr.storeV (cs' := [_, _, _, _, _, _, _, _, _]) rfl rfl Try.sizeOf3 (by repeat constructor) rfl (by rfl) (by first | exact Nat.le_of_ble_eq_true rfl | simp) (by first | exact List.all_eq_true.1 rfl | (intro u hu; simp [Value.cells] at hu; simp_all [Value.oneCell'])) rfl ?_
      refine Tr.hN ?_
      refine Tr.hT 10 rfl (by kernel_rfl) (panicIn (panicThen panicBody)) (QS.fieldAddr (off := 1) (ft := 22) rfl Try.underlying67 rfl rfl Try.sizeOf22 (by decide)) ?_
      refine Tr.hAll [11] (by kernel_rfl) (by simp) (fun iq hq => ?_)
      obtain rfl := List.mem_singleton.1 hq
      refine Tr.hOp rfl ?_
      refine Tr.storeV (cs' := [_, _, _, _, _, _, _, _, _]) rfl rfl Try.sizeOf22 (by repeat constructor) rfl (by rfl) (by first | exact Nat.le_of_ble_eq_true rfl | simp) (by first | exact List.all_eq_true.1 rfl | (intro u hu; simp [Value.cells] at hu; simp_all [Value.oneCell'])) rfl ?_
      refine Tr.hN ?_
      refine Tr.hDone (by kernel_rfl) ?_
      refine Tr.inN (Tr.thenN ?_)
      apply Tr.joined ⟨i.addr, i.imm, i.op, 0, 0, 0, i.a, i.b, i.size⟩
      ·exact rfl
      ·exact Front.nil
      ·exact SubX.dropN 20 (by kernel_rfl) rfl
      ·exact (by repeat' constructor)
      ·exact (by simp only [kept1]; congr 1 <;> first | rfl | (rw [if_pos (by omega)]) | (rw [if_neg (by omega)]))
     ·try simp only [bs] at h9
      refine Tr.seq (Tr.seq (Tr.region ?_))
      refine Tr.q (QS.eql rfl rfl) rfl ?_
      refine Tr.q (QS.assign rfl) rfl ?_
      refine Tr.nil (Tr.thenN ?_)
      apply Tr.condOr
      ·exact rfl
      ·intro hO10
       try simp only [bs] at hO10
       refine Tr.region ?_
       refine Tr.q (QS.eql rfl rfl) rfl ?_
       refine Tr.q (QS.assign rfl) rfl ?_
       refine Tr.nil (Tr.thenN ?_)
       exact Tr.endOr rfl (SubX.dropN 2 (by kernel_rfl) rfl)
      refine Tr.thenN ?_
      refine Tr.cond rfl (fun h11 => ?_) (fun h11 => ?_)
      ·try simp only [bs] at h11
       refine Tr.region ?_
       refine Tr.q (QS.fieldAddr (off := 1) (ft := 22) rfl Try.underlying67 rfl rfl Try.sizeOf22 (by decide)) rfl ?_
       refine Tr.q (QS.lV rfl Try.isAgg22) rfl ?_
       refine Tr.q (QS.fieldAddr (off := 1) (ft := 22) rfl Try.underlying67 rfl rfl Try.sizeOf22 (by decide)) rfl ?_
       refine Tr.storeV (cs' := [_, _, _, _, _, _, _, _, _]) rfl rfl Try.sizeOf22 (by repeat constructor) rfl (by rfl) (by first | exact Nat.le_of_ble_eq_true rfl | simp) (by first | exact List.all_eq_true.1 rfl | (intro u hu; simp [Value.cells] at hu; simp_all [Value.oneCell'])) rfl ?_
       refine Tr.nil (Tr.inN (Tr.thenN ?_))
       apply Tr.joined ⟨i.addr, i.imm, i.op, 0, 0, 0, 0, 0, i.size⟩
       ·exact rfl
       ·exact Front.nil
       ·exact SubX.dropN 17 (by kernel_rfl) rfl
       ·exact (by repeat' constructor)
       ·exact (by simp only [kept1]; congr 1 <;> first | rfl | (rw [if_pos (by omega)]) | (rw [if_neg (by omega)]))
      ·try simp only [bs] at h11
       refine Tr.skip (Tr.inN (Tr.thenN ?_))
       apply Tr.joined ⟨i.addr, 0, i.op, 0, 0, 0, 0, 0, i.size⟩
       ·exact rfl
       ·exact Front.nil
       ·exact SubX.dropN 14 (by kernel_rfl) rfl
       ·exact (by repeat' constructor)
       ·exact (by simp only [kept1]; congr 1 <;> first | rfl | (rw [if_pos (by omega)]) | (rw [if_neg (by omega)]))
 ·skip
  replace hi : k1 = kept1 i s := hi
  change Tr _ _ [cellE b3 (encIns.enc k1) 67, cellE b2 (encIns.enc zeroIns) 67, cellE b1 (encIns.enc i) 67] ([] ++ _) _
  refine Tr.seqJ (ι := Ins) (fun k2 => k2 = keptP i s) (fun _ => Bg.of w) (fun k2 => [cellE b3 (encIns.enc k2) 67, cellE b2 (encIns.enc zeroIns) 67, cellE b1 (encIns.enc i) 67]) (fun k2 => []) ?_ (fun k2 hi => ?_)
  ·skip
   refine Tr.block (Tr.seq (Tr.region ?_))
   refine Tr.q (QS.fieldAddr (off := 2) (ft := 3) rfl Try.underlying67 rfl rfl Try.sizeOf3 (by decide)) rfl ?_
   refine Tr.q (QS.lV rfl Try.isAgg3) rfl ?_
   refine Tr.q (QS.geq rfl rfl) rfl ?_
   refine Tr.q (QS.move rfl) rfl ?_
   apply Tr.andP
   ·exact (rfl : _ = (4, 58, 62))
   ·exact rfl
   ·intro hT12; have hT12' := hT12
    try simp only [bs] at hT12'
    refine Tr.gq rfl rfl hT12 (QS.fieldAddr (off := 2) (ft := 3) rfl Try.underlying67 rfl rfl Try.sizeOf3 (by decide)) rfl ?_
    refine Tr.gq rfl rfl hT12 (QS.lV rfl Try.isAgg3) rfl ?_
    refine Tr.gq rfl rfl hT12 (QS.leq rfl rfl) rfl ?_
    refine Tr.q (QS.pickT rfl hT12 rfl) rfl ?_
    refine Tr.nil (Tr.thenN ?_)
    exact Tr.endX (Sub.cons rfl (Sub.dropN 4 (by kernel_rfl) rfl))
   ·intro hF12
    refine Tr.gskip rfl rfl hF12 rfl ?_
    refine Tr.gskip rfl rfl hF12 rfl ?_
    refine Tr.gskip rfl rfl hF12 rfl ?_
    refine Tr.q (QS.pickF rfl hF12 rfl) rfl ?_
    refine Tr.nil (Tr.thenN ?_)
    exact Tr.endX (Sub.cons rfl (Sub.dropN 4 (by kernel_rfl) rfl))
   refine Tr.q (QS.assign rfl) rfl ?_
   refine Tr.nil (Tr.thenN ?_)
   refine Tr.cond rfl (fun h13 => ?_) (fun h13 => ?_)
   ·try simp only [bs] at h13
    refine Tr.region ?_
    refine Tr.q (QS.fieldAddr (off := 3) (ft := 3) rfl Try.underlying67 rfl rfl Try.sizeOf3 (by decide)) rfl ?_
    refine Tr.q (QS.lV rfl Try.isAgg3) rfl ?_
    refine Tr.q (QS.fieldAddr (off := 3) (ft := 3) rfl Try.underlying67 rfl rfl Try.sizeOf3 (by decide)) rfl ?_
    refine Tr.storeV (cs' := [_, _, _, _, _, _, _, _, _]) rfl rfl Try.sizeOf3 (by repeat constructor) rfl (by rfl) (by first | exact Nat.le_of_ble_eq_true rfl | simp) (by first | exact List.all_eq_true.1 rfl | (intro u hu; simp [Value.cells] at hu; simp_all [Value.oneCell'])) rfl ?_
    refine Tr.nil (Tr.inN (Tr.thenN ?_))
    apply Tr.joined { k1 with form := i.form }
    ·exact rfl
    ·exact Front.nil
    ·exact SubX.dropN 9 (by kernel_rfl) rfl
    ·exact (by repeat' constructor)
    ·exact (by subst hi; rw [keptP_eq]; congr 1 <;> first | rfl | (rw [if_pos (by omega)]) | (rw [if_neg (by omega)]; rfl))
   ·try simp only [bs] at h13
    refine Tr.seq (Tr.seq (Tr.region ?_))
    refine Tr.q (QS.fieldAddr (off := 2) (ft := 3) rfl Try.underlying67 rfl rfl Try.sizeOf3 (by decide)) rfl ?_
    refine Tr.q (QS.lV rfl Try.isAgg3) rfl ?_
    refine Tr.q (QS.eql rfl rfl) rfl ?_
    refine Tr.q (QS.assign rfl) rfl ?_
    refine Tr.nil (Tr.thenN ?_)
    apply Tr.condOr
    ·exact rfl
    ·intro hO14
     try simp only [bs] at hO14
     refine Tr.seq (Tr.region ?_)
     refine Tr.q (QS.fieldAddr (off := 2) (ft := 3) rfl Try.underlying67 rfl rfl Try.sizeOf3 (by decide)) rfl ?_
     refine Tr.q (QS.lV rfl Try.isAgg3) rfl ?_
     refine Tr.q (QS.eql rfl rfl) rfl ?_
     refine Tr.q (QS.assign rfl) rfl ?_
     refine Tr.nil (Tr.thenN ?_)
     apply Tr.condOr
     ·exact rfl
     ·intro hO15
      try simp only [bs] at hO15
      refine Tr.region ?_
      refine Tr.q (QS.fieldAddr (off := 2) (ft := 3) rfl Try.underlying67 rfl rfl Try.sizeOf3 (by decide)) rfl ?_
      refine Tr.q (QS.lV rfl Try.isAgg3) rfl ?_
      refine Tr.q (QS.eql rfl rfl) rfl ?_
      refine Tr.q (QS.assign rfl) rfl ?_
      refine Tr.nil (Tr.thenN ?_)
      exact Tr.endOr rfl (SubX.dropN 4 (by kernel_rfl) rfl)
     refine Tr.thenN ?_
     exact Tr.endOr rfl (SubX.dropN 5 (by kernel_rfl) rfl)
    refine Tr.thenN ?_
    refine Tr.cond rfl (fun h16 => ?_) (fun h16 => ?_)
    ·try simp only [bs] at h16
     refine Tr.region ?_
     refine Tr.q (QS.fieldAddr (off := 4) (ft := 3) rfl Try.underlying67 rfl rfl Try.sizeOf3 (by decide)) rfl ?_
     refine Tr.q (QS.lV rfl Try.isAgg3) rfl ?_
     refine Tr.q (QS.fieldAddr (off := 4) (ft := 3) rfl Try.underlying67 rfl rfl Try.sizeOf3 (by decide)) rfl ?_
     refine Tr.storeV (cs' := [_, _, _, _, _, _, _, _, _]) rfl rfl Try.sizeOf3 (by repeat constructor) rfl (by rfl) (by first | exact Nat.le_of_ble_eq_true rfl | simp) (by first | exact List.all_eq_true.1 rfl | (intro u hu; simp [Value.cells] at hu; simp_all [Value.oneCell'])) rfl ?_
     refine Tr.nil (Tr.inN (Tr.thenN ?_))
     apply Tr.joined { k1 with width := i.width }
     ·exact rfl
     ·exact Front.nil
     ·exact SubX.dropN 14 (by kernel_rfl) rfl
     ·exact (by repeat' constructor)
     ·exact (by subst hi; rw [keptP_eq]; congr 1 <;> first | rfl | (rw [if_pos (by omega)]) | (rw [if_neg (by omega)]; rfl))
    ·try simp only [bs] at h16
     refine Tr.seq (Tr.region ?_)
     refine Tr.q (QS.fieldAddr (off := 2) (ft := 3) rfl Try.underlying67 rfl rfl Try.sizeOf3 (by decide)) rfl ?_
     refine Tr.q (QS.lV rfl Try.isAgg3) rfl ?_
     refine Tr.q (QS.eql rfl rfl) rfl ?_
     refine Tr.q (QS.assign rfl) rfl ?_
     refine Tr.nil (Tr.thenN ?_)
     refine Tr.cond rfl (fun h17 => ?_) (fun h17 => ?_)
     ·try simp only [bs] at h17
      refine Tr.regionH ([cellE b1 (encIns.enc i) 67]) 8 rfl HLF.mixed ?_
      refine Tr.hT 0 rfl (by kernel_rfl) (panicIn (panicThen panicBody)) (QS.fieldAddr (off := 3) (ft := 3) rfl Try.underlying67 rfl rfl Try.sizeOf3 (by decide)) ?_
      refine Tr.hT 1 rfl (by kernel_rfl) (panicIn (panicThen panicBody)) (QS.lV rfl Try.isAgg3) ?_
      refine Tr.hT 2 rfl (by kernel_rfl) (panicIn (panicThen panicBody)) (QS.fieldAddr (off := 5) (ft := 3) rfl Try.underlying67 rfl rfl Try.sizeOf3 (by decide)) ?_
      refine Tr.hT 3 rfl (by kernel_rfl) (panicIn (panicThen panicBody)) (QS.lV rfl Try.isAgg3) ?_
      refine Tr.hT 4 rfl (by kernel_rfl) (panicIn (panicThen panicBody)) (QS.fieldAddr (off := 3) (ft := 3) rfl Try.underlying67 rfl rfl Try.sizeOf3 (by decide)) ?_
      refine Tr.hAll [5] (by kernel_rfl) (by simp) (fun iq hq => ?_)
      obtain rfl := List.mem_singleton.1 hq
      refine Tr.hOp rfl ?_
      refine Tr.storeV (cs' := [_, _, _, _, _, _, _, _, _]) rfl rfl Try.sizeOf3 (by repeat constructor) rfl (by rfl) (by first | exact Nat.le_of_ble_eq_true rfl | simp) (by first | exact List.all_eq_true.1 rfl | (intro u hu; simp [Value.cells] at hu; simp_all [Value.oneCell'])) rfl ?_
      refine Tr.hN ?_
      refine Tr.hT 6 rfl (by kernel_rfl) (panicIn (panicThen panicBody)) (QS.fieldAddr (off := 5) (ft := 3) rfl Try.underlying67 rfl rfl Try.sizeOf3 (by decide)) ?_
      refine Tr.hAll [7] (by kernel_rfl) (by simp) (fun iq hq => ?_)
      obtain rfl := List.mem_singleton.1 hq
      refine Tr.hOp rfl ?_
      refine Tr.storeV (cs' := [_, _, _, _, _, _, _, _, _]) rfl rfl Try.sizeOf3 (by repeat constructor) rfl (by rfl) (by first | exact Nat.le_of_ble_eq_true rfl | simp) (by first | exact List.all_eq_true.1 rfl | (intro u hu; simp [Value.cells] at hu; simp_all [Value.oneCell'])) rfl ?_
      refine Tr.hN ?_
      refine Tr.hDone (by kernel_rfl) ?_
      refine Tr.inN (Tr.thenN ?_)
      apply Tr.joined { k1 with form := i.form, cc := i.cc }
      ·exact rfl
      ·exact Front.nil
      ·exact SubX.dropN 21 (by kernel_rfl) rfl
      ·exact (by repeat' constructor)
      ·exact (by subst hi; rw [keptP_eq]; congr 1 <;> first | rfl | (rw [if_pos (by omega)]) | (rw [if_neg (by omega)]; rfl))
     ·try simp only [bs] at h17
      refine Tr.seq (Tr.region ?_)
      refine Tr.q (QS.fieldAddr (off := 2) (ft := 3) rfl Try.underlying67 rfl rfl Try.sizeOf3 (by decide)) rfl ?_
      refine Tr.q (QS.lV rfl Try.isAgg3) rfl ?_
      refine Tr.q (QS.eql rfl rfl) rfl ?_
      refine Tr.q (QS.assign rfl) rfl ?_
      refine Tr.nil (Tr.thenN ?_)
      refine Tr.cond rfl (fun h18 => ?_) (fun h18 => ?_)
      ·try simp only [bs] at h18
       refine Tr.region ?_
       refine Tr.q (QS.fieldAddr (off := 5) (ft := 3) rfl Try.underlying67 rfl rfl Try.sizeOf3 (by decide)) rfl ?_
       refine Tr.q (QS.lV rfl Try.isAgg3) rfl ?_
       refine Tr.q (QS.fieldAddr (off := 5) (ft := 3) rfl Try.underlying67 rfl rfl Try.sizeOf3 (by decide)) rfl ?_
       refine Tr.storeV (cs' := [_, _, _, _, _, _, _, _, _]) rfl rfl Try.sizeOf3 (by repeat constructor) rfl (by rfl) (by first | exact Nat.le_of_ble_eq_true rfl | simp) (by first | exact List.all_eq_true.1 rfl | (intro u hu; simp [Value.cells] at hu; simp_all [Value.oneCell'])) rfl ?_
       refine Tr.nil (Tr.inN (Tr.thenN ?_))
       apply Tr.joined { k1 with cc := i.cc }
       ·exact rfl
       ·exact Front.nil
       ·exact SubX.dropN 22 (by kernel_rfl) rfl
       ·exact (by repeat' constructor)
       ·exact (by subst hi; rw [keptP_eq]; congr 1 <;> first | rfl | (rw [if_pos (by omega)]) | (rw [if_neg (by omega)]; rfl))
      ·try simp only [bs] at h18
       refine Tr.skip (Tr.inN (Tr.thenN ?_))
       apply Tr.joined k1
       ·exact rfl
       ·exact Front.nil
       ·exact SubX.dropN 19 (by kernel_rfl) rfl
       ·exact (by repeat' constructor)
       ·exact (by subst hi; rw [keptP_eq, if_neg (by omega), if_neg (by omega), if_neg (by omega)]; rfl)
  ·skip
   replace hi : k2 = keptP i s := hi
   change Tr _ _ [cellE b3 (encIns.enc k2) 67, cellE b2 (encIns.enc zeroIns) 67, cellE b1 (encIns.enc i) 67] ([] ++ _) _
   refine Tr.seq (Tr.region ?_)
   refine Tr.q (QS.lW rfl Try.isAgg67 Try.sizeOf67) rfl ?_
   refine Tr.storeW rfl rfl Try.sizeOf67 (by repeat constructor) (by rfl) (by rfl) (by first | exact List.all_eq_true.1 rfl | exact Enc.one _ _ | exact Enc.one encIns _) rfl ?_
   refine Tr.nil (Tr.thenN (Tr.ret ?_))
   refine Tr.retC1 Try.results80 rfl (by repeat constructor) Try.isAgg67 Try.sizeOf67 (by rfl) (fun w' hw => ?_)
   exact ⟨by subst hi; rfl, hw.below (Bg.le.refl _)⟩
set_option maxRecDepth 100000 in
set_option maxHeartbeats 2000000 in
theorem check_any (i : Ins) (w : World) (hI : InsOK i) :
  Calls Try.prog 63 #[.agg (encIns.enc i).toArray] w (fun e w' => e = .returned ((.tuple #[.int .u8 (checkP i).1.toNat, .int .i64 (checkP i).2.1, .int .i64 (checkP i).2.2])) ∧ Ext w w') := by
 refine enter Try.func63 rfl Try.ntmps63 rfl ?_
 refine Tr.seq (Tr.region ?_)
 refine Tr.box rfl rfl rfl (fun b1 => ?_)
 refine Tr.q (QS.assign rfl) rfl ?_
 refine Tr.q (QS.assign rfl) rfl ?_
 refine Tr.q (QS.assign rfl) rfl ?_
 refine Tr.nil (Tr.thenN (Tr.seq (Tr.region ?_)))
 refine Tr.q (QS.lW rfl Try.isAgg67 Try.sizeOf67) rfl ?_
 refine Tr.q (QS.call rfl Try.call70 (fun w hw => opcode_any i w hI)) rfl ?_
 refine Tr.q (QS.move rfl) rfl ?_
 refine Tr.q (QS.extract rfl rfl) rfl ?_
 refine Tr.q (QS.extract rfl rfl) rfl ?_
 refine Tr.q (QS.extract rfl rfl) rfl ?_
 refine Tr.q (QS.assign rfl) rfl ?_
 refine Tr.q (QS.assign rfl) rfl ?_
 refine Tr.q (QS.assign rfl) rfl ?_
 refine Tr.nil (Tr.thenN (Tr.seq (Tr.seq ?_)))
 refine Tr.regionQ HLF.mixed (by kernel_rfl) ?_
 refine TrQ.q (QS.move rfl) rfl ?_
 refine TrQ.q (QS.not rfl) rfl ?_
 refine TrQ.q (QS.move rfl) rfl ?_
 apply TrQ.orP
 ·exact (rfl : _ = (5, 16, 21))
 ·exact rfl
 ·intro hF2; have hF2' := hF2
  try simp only [bs] at hF2'
  refine TrQ.gq rfl rfl hF2 (QS.fieldAddr (off := 6) (ft := 3) rfl Try.underlying67 rfl rfl Try.sizeOf3 (by decide)) rfl ?_
  refine TrQ.gq rfl rfl hF2 (QS.lV rfl Try.isAgg3) rfl ?_
  refine TrQ.gq rfl rfl hF2 (QS.call rfl Try.call73 (fun w hw => register_any i.a w)) rfl ?_
  refine TrQ.gq rfl rfl hF2 (QS.not rfl) rfl ?_
  refine TrQ.q (QS.pickF rfl hF2 rfl) rfl ?_
  exact TrQ.end (Sub.cons rfl (Sub.dropN 5 (by kernel_rfl) rfl))
 ·intro hT2
  refine TrQ.gskip rfl rfl hT2 rfl ?_
  refine TrQ.gskip rfl rfl hT2 rfl ?_
  refine TrQ.gskip rfl rfl hT2 rfl ?_
  refine TrQ.gskip rfl rfl hT2 rfl ?_
  refine TrQ.q (QS.pickT rfl hT2 rfl) rfl ?_
  exact TrQ.end (Sub.cons rfl (Sub.dropN 5 (by kernel_rfl) rfl))
 refine TrQ.q (QS.move rfl) rfl ?_
 apply TrQ.orP
 ·exact (rfl : _ = (5, 22, 27))
 ·exact rfl
 ·intro hF3; have hF3' := hF3
  try simp only [bs] at hF3'
  refine TrQ.gq rfl rfl hF3 (QS.fieldAddr (off := 7) (ft := 3) rfl Try.underlying67 rfl rfl Try.sizeOf3 (by decide)) rfl ?_
  refine TrQ.gq rfl rfl hF3 (QS.lV rfl Try.isAgg3) rfl ?_
  refine TrQ.gq rfl rfl hF3 (QS.call rfl Try.call73 (fun w hw => register_any i.b w)) rfl ?_
  refine TrQ.gq rfl rfl hF3 (QS.not rfl) rfl ?_
  refine TrQ.q (QS.pickF rfl hF3 rfl) rfl ?_
  exact TrQ.end (Sub.cons rfl (Sub.dropN 5 (by kernel_rfl) rfl))
 ·intro hT3
  refine TrQ.gskip rfl rfl hT3 rfl ?_
  refine TrQ.gskip rfl rfl hT3 rfl ?_
  refine TrQ.gskip rfl rfl hT3 rfl ?_
  refine TrQ.gskip rfl rfl hT3 rfl ?_
  refine TrQ.q (QS.pickT rfl hT3 rfl) rfl ?_
  exact TrQ.end (Sub.cons rfl (Sub.dropN 5 (by kernel_rfl) rfl))
 refine TrQ.q (QS.move rfl) rfl ?_
 apply TrQ.orP
 ·exact (rfl : _ = (6, 28, 34))
 ·exact rfl
 ·intro hF4; have hF4' := hF4
  try simp only [bs] at hF4'
  refine TrQ.gq rfl rfl hF4 (QS.lW rfl Try.isAgg67 Try.sizeOf67) rfl ?_
  refine TrQ.gq rfl rfl hF4 (QS.move rfl) rfl ?_
  refine TrQ.gq rfl rfl hF4 (QS.call rfl Try.call80 (fun w hw => kept_any i (opcodeP i).2.1 w)) rfl ?_
  refine TrQ.gq rfl rfl hF4 (QS.lW rfl Try.isAgg67 Try.sizeOf67) rfl ?_
  refine TrQ.gq rfl rfl hF4 (QS.neqE rfl rfl insEqEnc Try.underlying67 (HLF.words67 _ Try.underlying67) rfl HLF.held67 HLF.eqg67) rfl ?_
  refine TrQ.q (QS.pickF rfl hF4 rfl) rfl ?_
  exact TrQ.end (Sub.cons rfl (Sub.dropN 6 (by kernel_rfl) rfl))
 ·intro hT4
  refine TrQ.gskip rfl rfl hT4 rfl ?_
  refine TrQ.gskip rfl rfl hT4 rfl ?_
  refine TrQ.gskip rfl rfl hT4 rfl ?_
  refine TrQ.gskip rfl rfl hT4 rfl ?_
  refine TrQ.gskip rfl rfl hT4 rfl ?_
  refine TrQ.q (QS.pickT rfl hT4 rfl) rfl ?_
  exact TrQ.end (Sub.cons rfl (Sub.dropN 6 (by kernel_rfl) rfl))
 refine TrQ.nil ?_
 refine Tr.thenN ?_
 refine Tr.cond rfl (fun h5 => ?_) (fun h5 => ?_)
 ·try simp only [bs] at h5
  refine Tr.seq (Tr.region ?_)
  refine Tr.q (QS.assign rfl) rfl ?_
  refine Tr.q (QS.assign rfl) rfl ?_
  refine Tr.q (QS.assign rfl) rfl ?_
  refine Tr.nil (Tr.thenN (Tr.ret (Tr.thenR ?_)))
  refine Tr.ret3 Try.results63 rfl rfl rfl (fun w' hw => ?_)
  exact ⟨by rw [checkP_2 (by simp_all [or_assoc])]; rfl, hw.below (Bg.le.refl _)⟩
 ·try simp only [bs] at h5
  refine Tr.skip (Tr.thenN (Tr.seq (Tr.seq (Tr.region ?_))))
  refine Tr.q (QS.move rfl) rfl ?_
  refine Tr.q (QS.eql rfl rfl) rfl ?_
  refine Tr.q (QS.move rfl) rfl ?_
  apply Tr.orP
  ·exact (rfl : _ = (3, 37, 40))
  ·exact rfl
  ·intro hF6; have hF6' := hF6
   try simp only [bs] at hF6'
   refine Tr.gq rfl rfl hF6 (QS.move rfl) rfl ?_
   refine Tr.gq rfl rfl hF6 (QS.eql rfl rfl) rfl ?_
   refine Tr.q (QS.pickF rfl hF6 rfl) rfl ?_
   refine Tr.nil (Tr.thenN ?_)
   exact Tr.endX (Sub.cons rfl (Sub.dropN 3 (by kernel_rfl) rfl))
  ·intro hT6
   refine Tr.gskip rfl rfl hT6 rfl ?_
   refine Tr.gskip rfl rfl hT6 rfl ?_
   refine Tr.q (QS.pickT rfl hT6 rfl) rfl ?_
   refine Tr.nil (Tr.thenN ?_)
   exact Tr.endX (Sub.cons rfl (Sub.dropN 3 (by kernel_rfl) rfl))
  refine Tr.q (QS.move rfl) rfl ?_
  apply Tr.andP
  ·exact (rfl : _ = (5, 41, 46))
  ·exact rfl
  ·intro hT7; have hT7' := hT7
   try simp only [bs] at hT7'
   refine Tr.gq rfl rfl hT7 (QS.fieldAddr (off := 1) (ft := 22) rfl Try.underlying67 rfl rfl Try.sizeOf22 (by decide)) rfl ?_
   refine Tr.gq rfl rfl hT7 (QS.lV rfl Try.isAgg22) rfl ?_
   refine Tr.gq rfl rfl hT7 (QS.call rfl Try.call81 (fun w hw => narrow_any i.imm w)) rfl ?_
   refine Tr.gq rfl rfl hT7 (QS.not rfl) rfl ?_
   refine Tr.q (QS.pickT rfl hT7 rfl) rfl ?_
   refine Tr.nil (Tr.thenN ?_)
   exact Tr.endX (Sub.cons rfl (Sub.dropN 5 (by kernel_rfl) rfl))
  ·intro hF7
   refine Tr.gskip rfl rfl hF7 rfl ?_
   refine Tr.gskip rfl rfl hF7 rfl ?_
   refine Tr.gskip rfl rfl hF7 rfl ?_
   refine Tr.gskip rfl rfl hF7 rfl ?_
   refine Tr.q (QS.pickF rfl hF7 rfl) rfl ?_
   refine Tr.nil (Tr.thenN ?_)
   exact Tr.endX (Sub.cons rfl (Sub.dropN 5 (by kernel_rfl) rfl))
  refine Tr.q (QS.move rfl) rfl ?_
  apply Tr.orP
  ·exact (rfl : _ = (13, 47, 60))
  ·exact rfl
  ·intro hF8; have hF8' := hF8
   try simp only [bs] at hF8'
   refine Tr.gq rfl rfl hF8 (QS.move rfl) rfl ?_
   refine Tr.gq rfl rfl hF8 (QS.eql rfl rfl) rfl ?_
   refine Tr.gq rfl rfl hF8 (QS.move rfl) rfl ?_
   apply Tr.andP
   ·exact (rfl : _ = (9, 50, 59))
   ·exact rfl
   ·intro hT9; have hT9' := hT9
    try simp only [bs] at hT9'
    refine Tr.gq rfl rfl hT9 (QS.fieldAddr (off := 1) (ft := 22) rfl Try.underlying67 rfl rfl Try.sizeOf22 (by decide)) rfl ?_
    refine Tr.gq rfl rfl hT9 (QS.lV rfl Try.isAgg22) rfl ?_
    refine Tr.gq rfl rfl hT9 (QS.fieldAddr (off := 0) (ft := 22) rfl Try.underlying67 rfl rfl Try.sizeOf22 (by decide)) rfl ?_
    refine Tr.gq rfl rfl hT9 (QS.lV rfl Try.isAgg22) rfl ?_
    refine Tr.gq rfl rfl hT9 (QS.sub32 rfl rfl) rfl ?_
    refine Tr.gq rfl rfl hT9 (QS.sub32 (n := 2) rfl rfl) rfl ?_
    refine Tr.gq rfl rfl hT9 (QS.call rfl Try.call81 (fun w hw => narrow_any (i.imm - i.addr - 2) w)) rfl ?_
    refine Tr.gq rfl rfl hT9 (QS.not rfl) rfl ?_
    refine Tr.gq rfl rfl hF8 (QS.pickT rfl hT9 rfl) rfl ?_
    refine Tr.nil (Tr.thenN ?_)
    exact Tr.endX (Sub.cons rfl (Sub.dropN 9 (by kernel_rfl) rfl))
   ·intro hF9
    refine Tr.gskip rfl rfl hF9 rfl ?_
    refine Tr.gskip rfl rfl hF9 rfl ?_
    refine Tr.gskip rfl rfl hF9 rfl ?_
    refine Tr.gskip rfl rfl hF9 rfl ?_
    refine Tr.gskip rfl rfl hF9 rfl ?_
    refine Tr.gskip rfl rfl hF9 rfl ?_
    refine Tr.gskip rfl rfl hF9 rfl ?_
    refine Tr.gskip rfl rfl hF9 rfl ?_
    refine Tr.gq rfl rfl hF8 (QS.pickF rfl hF9 rfl) rfl ?_
    refine Tr.nil (Tr.thenN ?_)
    exact Tr.endX (Sub.cons rfl (Sub.dropN 9 (by kernel_rfl) rfl))
   refine Tr.q (QS.pickF rfl hF8 rfl) rfl ?_
   refine Tr.nil (Tr.thenN ?_)
   exact Tr.endX (Sub.cons rfl (Sub.dropN 5 (by kernel_rfl) rfl))
  ·intro hT8
   refine Tr.gskip rfl rfl hT8 rfl ?_
   refine Tr.gskip rfl rfl hT8 rfl ?_
   refine Tr.gskip rfl rfl hT8 rfl ?_
   refine Tr.gskipU rfl rfl rfl ?_
   refine Tr.gskipU rfl rfl rfl ?_
   refine Tr.gskipU rfl rfl rfl ?_
   refine Tr.gskipU rfl rfl rfl ?_
   refine Tr.gskipU rfl rfl rfl ?_
   refine Tr.gskipU rfl rfl rfl ?_
   refine Tr.gskipU rfl rfl rfl ?_
   refine Tr.gskipU rfl rfl rfl ?_
   refine Tr.gskip rfl rfl hT8 rfl ?_
   refine Tr.q (QS.pickT rfl hT8 rfl) rfl ?_
   refine Tr.nil (Tr.thenN ?_)
   exact Tr.endX (Sub.cons rfl (Sub.dropN 13 (by kernel_rfl) rfl))
  refine Tr.nil (Tr.thenN ?_)
  refine Tr.cond rfl (fun h10 => ?_) (fun h10 => ?_)
  ·try simp only [bs] at h10
   refine Tr.seq (Tr.region ?_)
   refine Tr.q (QS.assign rfl) rfl ?_
   refine Tr.q (QS.assign rfl) rfl ?_
   refine Tr.q (QS.assign rfl) rfl ?_
   refine Tr.nil (Tr.thenN (Tr.ret (Tr.thenR ?_)))
   refine Tr.ret3 Try.results63 rfl rfl rfl (fun w' hw => ?_)
   exact ⟨by rw [checkP_7 (by simp_all) (by simp_all)]; rfl, hw.below (Bg.le.refl _)⟩
  ·try simp only [bs] at h10
   refine Tr.skip (Tr.thenN (Tr.seq (Tr.region ?_)))
   refine Tr.q (QS.move rfl) rfl ?_
   refine Tr.q (QS.move rfl) rfl ?_
   refine Tr.q (QS.assign rfl) rfl ?_
   refine Tr.q (QS.assign rfl) rfl ?_
   refine Tr.q (QS.assign rfl) rfl ?_
   refine Tr.nil (Tr.thenN (Tr.ret ?_))
   refine Tr.ret3 Try.results63 rfl rfl rfl (fun w' hw => ?_)
   exact ⟨by rw [checkP_ok (errP_0 (by simp_all) (by intro hc; rcases hc with ⟨h1 | h1, h2⟩ | ⟨h1, h2⟩ <;> simp_all))]; rfl, hw.below (Bg.le.refl _)⟩
set_option maxRecDepth 100000 in
set_option maxHeartbeats 2000000 in
theorem size_any (s : Int) (w : World) (hs : 0 ≤ s ∧ s ≤ 8) :
  Calls Try.prog 64 #[.int .i64 s] w (fun e w' => e = .returned (.int .i64 (sizeP s)) ∧ Ext w w') := by
 refine enter Try.func64 rfl Try.ntmps64 rfl ?_
 refine Tr.seq (Tr.region ?_)
 refine Tr.q (QS.assign rfl) rfl ?_
 refine Tr.nil (Tr.thenN (Tr.seq (Tr.region ?_)))
 refine Tr.q (QS.move rfl) rfl ?_
 refine Tr.q (QS.strIdx rfl rfl Try.underlying9 (by refine ⟨by omega, ?_⟩; show s < 9; omega)) rfl ?_
 refine Tr.q (QS.sub8 (n := 48) rfl rfl) rfl ?_
 refine Tr.q (QS.cvt8toI rfl Try.underlying5 Try.underlying3) rfl ?_
 refine Tr.q (QS.assign rfl) rfl ?_
 refine Tr.nil (Tr.thenN (Tr.ret ?_))
 refine Tr.ret1 Try.results64 rfl (fun w' hw => ?_)
 exact ⟨by obtain rfl | rfl | rfl | rfl | rfl | rfl | rfl | rfl | rfl : s = 0 ∨ s = 1 ∨ s = 2 ∨ s = 3 ∨ s = 4 ∨ s = 5 ∨ s = 6 ∨ s = 7 ∨ s = 8 := (by omega) <;> rfl, hw.below (Bg.le.refl _)⟩
set_option maxRecDepth 100000 in
set_option maxHeartbeats 2000000 in
theorem length_isa (i : Ins) (w : World) (hI : InsOK i) :
  Calls Try.prog 93 #[.agg (encIns.enc i).toArray] w (fun e w' => e = .returned (.int .i64 (lengthPI i)) ∧ Ext w w') := by
 refine enter Try.func93 rfl Try.ntmps93 rfl ?_
 refine Tr.seq (Tr.region ?_)
 refine Tr.box rfl rfl rfl (fun b1 => ?_)
 refine Tr.q (QS.assign rfl) rfl ?_
 refine Tr.nil (Tr.thenN (Tr.seq (Tr.region ?_)))
 refine Tr.q (QS.lW rfl Try.isAgg67 Try.sizeOf67) rfl ?_
 refine Tr.q (QS.call rfl Try.call63 (fun w hw => check_any i w hI)) rfl ?_
 refine Tr.q (QS.move rfl) rfl ?_
 refine Tr.q (QS.extract rfl rfl) rfl ?_
 refine Tr.q (QS.extract rfl rfl) rfl ?_
 refine Tr.q (QS.extract rfl rfl) rfl ?_
 refine Tr.q (QS.assign rfl) rfl ?_
 refine Tr.q (QS.assign rfl) rfl ?_
 refine Tr.q (QS.assign rfl) rfl ?_
 refine Tr.nil (Tr.thenN (Tr.seq (Tr.seq (Tr.region ?_))))
 refine Tr.q (QS.move rfl) rfl ?_
 refine Tr.q (QS.neq rfl rfl) rfl ?_
 refine Tr.nil (Tr.thenN ?_)
 refine Tr.cond rfl (fun h2 => ?_) (fun h2 => ?_)
 ·try simp only [bs] at h2
  refine Tr.seq (Tr.region ?_)
  refine Tr.q (QS.assign rfl) rfl ?_
  refine Tr.nil (Tr.thenN (Tr.ret (Tr.thenR ?_)))
  refine Tr.ret1 Try.results93 rfl (fun w' hw => ?_)
  exact ⟨by unfold lengthPI; rw [if_neg (by rw [← checkP_err]; assumption)], hw.below (Bg.le.refl _)⟩
 ·try simp only [bs] at h2
  refine Tr.skip (Tr.thenN (Tr.seq (Tr.region ?_)))
  refine Tr.q (QS.move rfl) rfl ?_
  refine Tr.q (QS.call rfl Try.call64 (fun w hw => size_any (checkP i).2.1 w (checkP_shape i))) rfl ?_
  refine Tr.q (QS.assign rfl) rfl ?_
  refine Tr.nil (Tr.thenN (Tr.ret ?_))
  refine Tr.ret1 Try.results93 rfl (fun w' hw => ?_)
  exact ⟨by have he : errP i = 0 := (by rw [← checkP_err]; assumption); unfold lengthPI; rw [if_pos he, checkP_ok he], hw.below (Bg.le.refl _)⟩
set_option maxRecDepth 100000 in
set_option maxHeartbeats 2000000 in
theorem next_isa (i : Ins) (w : World) (hI : InsOK i) :
  Calls Try.prog 88 #[.agg (encIns.enc i).toArray] w (fun e w' => e = .returned (.int .u32 (nextP i).toNat) ∧ Ext w w') := by
 refine enter Try.func88 rfl Try.ntmps88 rfl ?_
 refine Tr.seq (Tr.region ?_)
 refine Tr.box rfl rfl rfl (fun b1 => ?_)
 refine Tr.q (QS.assign rfl) rfl ?_
 refine Tr.nil (Tr.thenN (Tr.seq ?_))
 refine Tr.regionQ HLF.mixed (by kernel_rfl) ?_
 refine TrQ.q (QS.fieldAddr (off := 0) (ft := 22) rfl Try.underlying67 rfl rfl Try.sizeOf22 (by decide)) rfl ?_
 refine TrQ.q (QS.lV rfl Try.isAgg22) rfl ?_
 refine TrQ.q (QS.lW rfl Try.isAgg67 Try.sizeOf67) rfl ?_
 refine TrQ.q (QS.call rfl Try.call93 (fun w hw => length_isa i w hI)) rfl ?_
 refine TrQ.q (QS.cvtTo32 rfl Try.underlying3 Try.underlying22) rfl ?_
 refine TrQ.q (QS.add32 rfl rfl) rfl ?_
 refine TrQ.q (QS.assign rfl) rfl ?_
 refine TrQ.nil ?_
 refine Tr.thenN (Tr.ret ?_)
 refine Tr.ret1 Try.results88 rfl (fun w' hw => ?_)
 exact ⟨rfl, hw.below (Bg.le.refl _)⟩
set_option maxRecDepth 100000 in
set_option maxHeartbeats 2000000 in
theorem extend_any (a : UInt32) (k : Int) (w : World) :
  Calls Try.prog 71 #[.int .u32 a.toNat, .int .i64 k] w (fun e w' => e = .returned (.int .u32 (extP a k).toNat) ∧ Ext w w') := by
 refine enter Try.func71 rfl Try.ntmps71 rfl ?_
 refine Tr.seq (Tr.region ?_)
 refine Tr.q (QS.assign rfl) rfl ?_
 refine Tr.nil (Tr.thenN (Tr.seq (Tr.seq (Tr.region ?_))))
 refine Tr.q (QS.move rfl) rfl ?_
 refine Tr.nil (Tr.thenN (Tr.block (Tr.seq (Tr.region ?_))))
 refine Tr.q (QS.eql rfl rfl) rfl ?_
 refine Tr.q (QS.assign rfl) rfl ?_
 refine Tr.nil (Tr.thenN ?_)
 refine Tr.cond rfl (fun h1 => ?_) (fun h1 => ?_)
 ·try simp only [bs] at h1
  refine Tr.seq (Tr.region ?_)
  refine Tr.q (QS.move rfl) rfl ?_
  refine Tr.q (QS.cvt rfl Try.underlying22 Try.underlying134) rfl ?_
  refine Tr.q (QS.cvtTo32 rfl Try.underlying134 Try.underlying22) rfl ?_
  refine Tr.q (QS.assign rfl) rfl ?_
  refine Tr.nil (Tr.thenN (Tr.ret ?_))
  refine Tr.inR ?_
  refine Tr.thenR ?_
  refine Tr.ret1 Try.results71 rfl (fun w' hw => ?_)
  exact ⟨by unfold extP; (repeat (first | rw [if_pos (by omega)] | rw [if_neg (by omega)])) <;> rfl, hw.below (Bg.le.refl _)⟩
 ·try simp only [bs] at h1
  refine Tr.seq (Tr.region ?_)
  refine Tr.q (QS.eql rfl rfl) rfl ?_
  refine Tr.q (QS.assign rfl) rfl ?_
  refine Tr.nil (Tr.thenN ?_)
  refine Tr.cond rfl (fun h2 => ?_) (fun h2 => ?_)
  ·try simp only [bs] at h2
   refine Tr.seq (Tr.region ?_)
   refine Tr.q (QS.move rfl) rfl ?_
   refine Tr.q (QS.cvt rfl Try.underlying22 Try.underlying135) rfl ?_
   refine Tr.q (QS.cvtTo32 rfl Try.underlying135 Try.underlying22) rfl ?_
   refine Tr.q (QS.assign rfl) rfl ?_
   refine Tr.nil (Tr.thenN (Tr.ret ?_))
   refine Tr.inR ?_
   refine Tr.thenR ?_
   refine Tr.ret1 Try.results71 rfl (fun w' hw => ?_)
   exact ⟨by unfold extP; (repeat (first | rw [if_pos (by omega)] | rw [if_neg (by omega)])) <;> rfl, hw.below (Bg.le.refl _)⟩
  ·try simp only [bs] at h2
   refine Tr.skip (Tr.inN (Tr.thenN (Tr.seq (Tr.region ?_))))
   refine Tr.q (QS.move rfl) rfl ?_
   refine Tr.q (QS.assign rfl) rfl ?_
   refine Tr.nil (Tr.thenN (Tr.ret ?_))
   refine Tr.ret1 Try.results71 rfl (fun w' hw => ?_)
   exact ⟨by unfold extP; (repeat (first | rw [if_pos (by omega)] | rw [if_neg (by omega)])) <;> rfl, hw.below (Bg.le.refl _)⟩
end Go.Proofs.Ytpeaodkfbjenpaa
namespace Go.Proofs.Ytpeaodkfbjenpaa
open Go Go.HL Go.RowKit
set_option maxRecDepth 100000 in
set_option maxHeartbeats 2000000 in
theorem row_isa (c : UInt8) (w : World) :
  Calls Try.prog 69 #[.int .u8 c.toNat] w (fun e w' => e = .returned (.tuple #[.agg (encIns.enc (rowP c).1).toArray, .bool (rowP c).2]) ∧ Ext w w') := by
 have hc1 := c.toNat_lt
 have hc2 : (c % 16).toNat = c.toNat % 16 := by rw [UInt8.toNat_mod]; rfl
 have hc3 : (c / 16).toNat = c.toNat / 16 := by rw [UInt8.toNat_div]; rfl
 refine enter Try.func69 rfl Try.ntmps69 rfl ?_
 refine Tr.seq (Tr.region ?_)
 refine Tr.alloc Try.zeroValue67 rfl rfl (fun b1 => ?_)
 refine Tr.q (QS.assign rfl) rfl ?_
 refine Tr.nil (Tr.thenN ?_)
 refine Tr.scope ?_
 refine Tr.seq (Tr.region ?_)
 refine Tr.q (QS.move rfl) rfl ?_
 refine Tr.q (QS.shr8c4 rfl rfl) rfl ?_
 refine Tr.q (QS.cvt8toI rfl Try.underlying5 Try.underlying3) rfl ?_
 refine Tr.q (QS.move rfl) rfl ?_
 refine Tr.q (QS.and8c15 rfl rfl) rfl ?_
 refine Tr.q (QS.cvt8toI rfl Try.underlying5 Try.underlying3) rfl ?_
 refine Tr.q (QS.assign rfl) rfl ?_
 refine Tr.q (QS.assign rfl) rfl ?_
 refine Tr.nil (Tr.thenN (Tr.seq (Tr.block (Tr.seq (Tr.region ?_)))))
 refine Tr.q (QS.move rfl) rfl ?_
 refine Tr.q (QS.leq8 (n := 2) rfl rfl) rfl ?_
 refine Tr.q (QS.assign rfl) rfl ?_
 refine Tr.nil (Tr.thenN ?_)
 refine Tr.cond rfl (fun h2 => ?_) (fun h2 => ?_)
 ·try simp only [bs] at h2
  refine Tr.seq (Tr.region ?_)
  refine Tr.q (QS.move rfl) rfl ?_
  refine Tr.q (QS.cvt8toI rfl Try.underlying5 Try.underlying3) rfl ?_
  refine Tr.q (QS.build (vs := [(2, _)]) rfl rfl (HLF.built67_2 _)) rfl ?_
  refine Tr.storeW rfl rfl Try.sizeOf67 (by repeat constructor) (by rfl) (by rfl) (by first | exact List.all_eq_true.1 rfl | exact Enc.one _ _ | exact Enc.one encIns _) rfl ?_
  refine Tr.q (QS.assign rfl) rfl ?_
  refine Tr.nil (Tr.thenN (Tr.ret ?_))
  refine Tr.inR ?_
  refine Tr.thenR ?_
  refine Tr.scopeR ?_
  refine Tr.retC2 Try.results69 rfl rfl (by repeat constructor) Try.isAgg67 Try.sizeOf67 (by rfl) (fun w' hw => ?_)
  exact ⟨by clear hw; unfold rowP; (repeat (first | rw [if_pos (by first | assumption | omega)] | rw [if_neg (by first | assumption | omega | (intro hq; simp_all))])) <;> rfl, hw.below (Bg.le.refl _)⟩
 ·try simp only [bs] at h2
  refine Tr.seq (Tr.region ?_)
  refine Tr.q (QS.move rfl) rfl ?_
  refine Tr.q (QS.geq8 (n := 8) rfl rfl) rfl ?_
  refine Tr.q (QS.move rfl) rfl ?_
  apply Tr.andP
  ·exact (rfl : _ = (3, 29, 32))
  ·exact rfl
  ·intro hT3; have hT3' := hT3
   try simp only [bs] at hT3'
   refine Tr.gq rfl rfl hT3 (QS.move rfl) rfl ?_
   refine Tr.gq rfl rfl hT3 (QS.lss8 (n := 16) rfl rfl) rfl ?_
   refine Tr.q (QS.pickT rfl hT3 rfl) rfl ?_
   refine Tr.nil (Tr.thenN ?_)
   exact Tr.endX (Sub.cons rfl (Sub.dropN 3 (by kernel_rfl) rfl))
  ·intro hF3
   refine Tr.gskip rfl rfl hF3 rfl ?_
   refine Tr.gskip rfl rfl hF3 rfl ?_
   refine Tr.q (QS.pickF rfl hF3 rfl) rfl ?_
   refine Tr.nil (Tr.thenN ?_)
   exact Tr.endX (Sub.cons rfl (Sub.dropN 3 (by kernel_rfl) rfl))
  refine Tr.q (QS.assign rfl) rfl ?_
  refine Tr.nil (Tr.thenN ?_)
  refine Tr.cond rfl (fun h4 => ?_) (fun h4 => ?_)
  ·try simp only [bs] at h4
   refine Tr.seq (Tr.region ?_)
   refine Tr.q (QS.move rfl) rfl ?_
   refine Tr.q (QS.subI rfl rfl (by omega)) rfl ?_
   refine Tr.q (QS.build (vs := [(2, _), (6, _)]) rfl rfl (HLF.built67_2_6 _ _)) rfl ?_
   refine Tr.storeW rfl rfl Try.sizeOf67 (by repeat constructor) (by rfl) (by rfl) (by first | exact List.all_eq_true.1 rfl | exact Enc.one _ _ | exact Enc.one encIns _) rfl ?_
   refine Tr.q (QS.assign rfl) rfl ?_
   refine Tr.nil (Tr.thenN (Tr.ret ?_))
   refine Tr.inR ?_
   refine Tr.thenR ?_
   refine Tr.scopeR ?_
   refine Tr.retC2 Try.results69 rfl rfl (by repeat constructor) Try.isAgg67 Try.sizeOf67 (by rfl) (fun w' hw => ?_)
   exact ⟨by clear hw; unfold rowP; (repeat (first | rw [if_pos (by first | assumption | omega)] | rw [if_neg (by first | assumption | omega | (intro hq; simp_all))])) <;> rfl, hw.below (Bg.le.refl _)⟩
  ·try simp only [bs] at h4
   refine Tr.seq (Tr.region ?_)
   refine Tr.q (QS.move rfl) rfl ?_
   refine Tr.q (QS.geq8 (n := 16) rfl rfl) rfl ?_
   refine Tr.q (QS.move rfl) rfl ?_
   apply Tr.andP
   ·exact (rfl : _ = (3, 39, 42))
   ·exact rfl
   ·intro hT5; have hT5' := hT5
    try simp only [bs] at hT5'
    refine Tr.gq rfl rfl hT5 (QS.move rfl) rfl ?_
    refine Tr.gq rfl rfl hT5 (QS.lss8 (n := 24) rfl rfl) rfl ?_
    refine Tr.q (QS.pickT rfl hT5 rfl) rfl ?_
    refine Tr.nil (Tr.thenN ?_)
    exact Tr.endX (Sub.cons rfl (Sub.dropN 3 (by kernel_rfl) rfl))
   ·intro hF5
    refine Tr.gskip rfl rfl hF5 rfl ?_
    refine Tr.gskip rfl rfl hF5 rfl ?_
    refine Tr.q (QS.pickF rfl hF5 rfl) rfl ?_
    refine Tr.nil (Tr.thenN ?_)
    exact Tr.endX (Sub.cons rfl (Sub.dropN 3 (by kernel_rfl) rfl))
   refine Tr.q (QS.assign rfl) rfl ?_
   refine Tr.nil (Tr.thenN ?_)
   refine Tr.cond rfl (fun h6 => ?_) (fun h6 => ?_)
   ·try simp only [bs] at h6
    refine Tr.seq (Tr.region ?_)
    refine Tr.q (QS.move rfl) rfl ?_
    refine Tr.q (QS.build (vs := [(2, _), (6, _)]) rfl rfl (HLF.built67_2_6 _ _)) rfl ?_
    refine Tr.storeW rfl rfl Try.sizeOf67 (by repeat constructor) (by rfl) (by rfl) (by first | exact List.all_eq_true.1 rfl | exact Enc.one _ _ | exact Enc.one encIns _) rfl ?_
    refine Tr.q (QS.assign rfl) rfl ?_
    refine Tr.nil (Tr.thenN (Tr.ret ?_))
    refine Tr.inR ?_
    refine Tr.thenR ?_
    refine Tr.scopeR ?_
    refine Tr.retC2 Try.results69 rfl rfl (by repeat constructor) Try.isAgg67 Try.sizeOf67 (by rfl) (fun w' hw => ?_)
    exact ⟨by clear hw; unfold rowP; (repeat (first | rw [if_pos (by first | assumption | omega)] | rw [if_neg (by first | assumption | omega | (intro hq; simp_all))])) <;> rfl, hw.below (Bg.le.refl _)⟩
   ·try simp only [bs] at h6
    refine Tr.seq (Tr.region ?_)
    refine Tr.q (QS.move rfl) rfl ?_
    refine Tr.q (QS.geq rfl rfl) rfl ?_
    refine Tr.q (QS.move rfl) rfl ?_
    apply Tr.andP
    ·exact (rfl : _ = (3, 48, 51))
    ·exact rfl
    ·intro hT7; have hT7' := hT7
     try simp only [bs] at hT7'
     refine Tr.gq rfl rfl hT7 (QS.move rfl) rfl ?_
     refine Tr.gq rfl rfl hT7 (QS.leq rfl rfl) rfl ?_
     refine Tr.q (QS.pickT rfl hT7 rfl) rfl ?_
     refine Tr.nil (Tr.thenN ?_)
     exact Tr.endX (Sub.cons rfl (Sub.dropN 3 (by kernel_rfl) rfl))
    ·intro hF7
     refine Tr.gskip rfl rfl hF7 rfl ?_
     refine Tr.gskip rfl rfl hF7 rfl ?_
     refine Tr.q (QS.pickF rfl hF7 rfl) rfl ?_
     refine Tr.nil (Tr.thenN ?_)
     exact Tr.endX (Sub.cons rfl (Sub.dropN 3 (by kernel_rfl) rfl))
    refine Tr.q (QS.move rfl) rfl ?_
    apply Tr.andP
    ·exact (rfl : _ = (3, 52, 55))
    ·exact rfl
    ·intro hT8; have hT8' := hT8
     try simp only [bs] at hT8'
     refine Tr.gq rfl rfl hT8 (QS.move rfl) rfl ?_
     refine Tr.gq rfl rfl hT8 (QS.leq rfl rfl) rfl ?_
     refine Tr.q (QS.pickT rfl hT8 rfl) rfl ?_
     refine Tr.nil (Tr.thenN ?_)
     exact Tr.endX (Sub.cons rfl (Sub.dropN 3 (by kernel_rfl) rfl))
    ·intro hF8
     refine Tr.gskip rfl rfl hF8 rfl ?_
     refine Tr.gskip rfl rfl hF8 rfl ?_
     refine Tr.q (QS.pickF rfl hF8 rfl) rfl ?_
     refine Tr.nil (Tr.thenN ?_)
     exact Tr.endX (Sub.cons rfl (Sub.dropN 3 (by kernel_rfl) rfl))
    refine Tr.q (QS.assign rfl) rfl ?_
    refine Tr.nil (Tr.thenN ?_)
    refine Tr.cond rfl (fun h9 => ?_) (fun h9 => ?_)
    ·try simp only [bs] at h9
     refine Tr.seq (Tr.region ?_)
     refine Tr.q (QS.move rfl) rfl ?_
     refine Tr.q (QS.addI rfl rfl (by omega)) rfl ?_
     refine Tr.q (QS.move rfl) rfl ?_
     refine Tr.q (QS.subI rfl rfl (by omega)) rfl ?_
     refine Tr.q (QS.build (vs := [(2, _), (3, _)]) rfl rfl (HLF.built67_2_3 _ _)) rfl ?_
     refine Tr.storeW rfl rfl Try.sizeOf67 (by repeat constructor) (by rfl) (by rfl) (by first | exact List.all_eq_true.1 rfl | exact Enc.one _ _ | exact Enc.one encIns _) rfl ?_
     refine Tr.q (QS.assign rfl) rfl ?_
     refine Tr.nil (Tr.thenN (Tr.ret ?_))
     refine Tr.inR ?_
     refine Tr.thenR ?_
     refine Tr.scopeR ?_
     refine Tr.retC2 Try.results69 rfl rfl (by repeat constructor) Try.isAgg67 Try.sizeOf67 (by rfl) (fun w' hw => ?_)
     exact ⟨by clear hw; unfold rowP; (repeat (first | rw [if_pos (by first | assumption | omega)] | rw [if_neg (by first | assumption | omega | (intro hq; simp_all))])) <;> rfl, hw.below (Bg.le.refl _)⟩
    ·try simp only [bs] at h9
     refine Tr.seq (Tr.region ?_)
     refine Tr.q (QS.move rfl) rfl ?_
     refine Tr.q (QS.eql rfl rfl) rfl ?_
     refine Tr.q (QS.move rfl) rfl ?_
     apply Tr.andP
     ·exact (rfl : _ = (3, 64, 67))
     ·exact rfl
     ·intro hT10; have hT10' := hT10
      try simp only [bs] at hT10'
      refine Tr.gq rfl rfl hT10 (QS.move rfl) rfl ?_
      refine Tr.gq rfl rfl hT10 (QS.leq rfl rfl) rfl ?_
      refine Tr.q (QS.pickT rfl hT10 rfl) rfl ?_
      refine Tr.nil (Tr.thenN ?_)
      exact Tr.endX (Sub.cons rfl (Sub.dropN 3 (by kernel_rfl) rfl))
     ·intro hF10
      refine Tr.gskip rfl rfl hF10 rfl ?_
      refine Tr.gskip rfl rfl hF10 rfl ?_
      refine Tr.q (QS.pickF rfl hF10 rfl) rfl ?_
      refine Tr.nil (Tr.thenN ?_)
      exact Tr.endX (Sub.cons rfl (Sub.dropN 3 (by kernel_rfl) rfl))
     refine Tr.q (QS.assign rfl) rfl ?_
     refine Tr.nil (Tr.thenN ?_)
     refine Tr.cond rfl (fun h11 => ?_) (fun h11 => ?_)
     ·try simp only [bs] at h11
      refine Tr.seq (Tr.region ?_)
      refine Tr.q (QS.move rfl) rfl ?_
      refine Tr.q (QS.build (vs := [(2, _), (3, _), (5, _)]) rfl rfl (HLF.built67_2_3_5 _ _ _)) rfl ?_
      refine Tr.storeW rfl rfl Try.sizeOf67 (by repeat constructor) (by rfl) (by rfl) (by first | exact List.all_eq_true.1 rfl | exact Enc.one _ _ | exact Enc.one encIns _) rfl ?_
      refine Tr.q (QS.assign rfl) rfl ?_
      refine Tr.nil (Tr.thenN (Tr.ret ?_))
      refine Tr.inR ?_
      refine Tr.thenR ?_
      refine Tr.scopeR ?_
      refine Tr.retC2 Try.results69 rfl rfl (by repeat constructor) Try.isAgg67 Try.sizeOf67 (by rfl) (fun w' hw => ?_)
      exact ⟨by clear hw; unfold rowP; (repeat (first | rw [if_pos (by first | assumption | omega)] | rw [if_neg (by first | assumption | omega | (intro hq; simp_all))])) <;> rfl, hw.below (Bg.le.refl _)⟩
     ·try simp only [bs] at h11
      refine Tr.seq (Tr.region ?_)
      refine Tr.q (QS.move rfl) rfl ?_
      refine Tr.q (QS.eql rfl rfl) rfl ?_
      refine Tr.q (QS.move rfl) rfl ?_
      apply Tr.andP
      ·exact (rfl : _ = (3, 73, 76))
      ·exact rfl
      ·intro hT12; have hT12' := hT12
       try simp only [bs] at hT12'
       refine Tr.gq rfl rfl hT12 (QS.move rfl) rfl ?_
       refine Tr.gq rfl rfl hT12 (QS.leq rfl rfl) rfl ?_
       refine Tr.q (QS.pickT rfl hT12 rfl) rfl ?_
       refine Tr.nil (Tr.thenN ?_)
       exact Tr.endX (Sub.cons rfl (Sub.dropN 3 (by kernel_rfl) rfl))
      ·intro hF12
       refine Tr.gskip rfl rfl hF12 rfl ?_
       refine Tr.gskip rfl rfl hF12 rfl ?_
       refine Tr.q (QS.pickF rfl hF12 rfl) rfl ?_
       refine Tr.nil (Tr.thenN ?_)
       exact Tr.endX (Sub.cons rfl (Sub.dropN 3 (by kernel_rfl) rfl))
      refine Tr.q (QS.assign rfl) rfl ?_
      refine Tr.nil (Tr.thenN ?_)
      refine Tr.cond rfl (fun h13 => ?_) (fun h13 => ?_)
      ·try simp only [bs] at h13
       refine Tr.seq (Tr.region ?_)
       refine Tr.q (QS.move rfl) rfl ?_
       refine Tr.q (QS.build (vs := [(2, _), (3, _), (5, _)]) rfl rfl (HLF.built67_2_3_5 _ _ _)) rfl ?_
       refine Tr.storeW rfl rfl Try.sizeOf67 (by repeat constructor) (by rfl) (by rfl) (by first | exact List.all_eq_true.1 rfl | exact Enc.one _ _ | exact Enc.one encIns _) rfl ?_
       refine Tr.q (QS.assign rfl) rfl ?_
       refine Tr.nil (Tr.thenN (Tr.ret ?_))
       refine Tr.inR ?_
       refine Tr.thenR ?_
       refine Tr.scopeR ?_
       refine Tr.retC2 Try.results69 rfl rfl (by repeat constructor) Try.isAgg67 Try.sizeOf67 (by rfl) (fun w' hw => ?_)
       exact ⟨by clear hw; unfold rowP; (repeat (first | rw [if_pos (by first | assumption | omega)] | rw [if_neg (by first | assumption | omega | (intro hq; simp_all))])) <;> rfl, hw.below (Bg.le.refl _)⟩
      ·try simp only [bs] at h13
       refine Tr.seq (Tr.region ?_)
       refine Tr.q (QS.move rfl) rfl ?_
       refine Tr.q (QS.eql rfl rfl) rfl ?_
       refine Tr.q (QS.move rfl) rfl ?_
       apply Tr.andP
       ·exact (rfl : _ = (3, 82, 85))
       ·exact rfl
       ·intro hT14; have hT14' := hT14
        try simp only [bs] at hT14'
        refine Tr.gq rfl rfl hT14 (QS.move rfl) rfl ?_
        refine Tr.gq rfl rfl hT14 (QS.leq rfl rfl) rfl ?_
        refine Tr.q (QS.pickT rfl hT14 rfl) rfl ?_
        refine Tr.nil (Tr.thenN ?_)
        exact Tr.endX (Sub.cons rfl (Sub.dropN 3 (by kernel_rfl) rfl))
       ·intro hF14
        refine Tr.gskip rfl rfl hF14 rfl ?_
        refine Tr.gskip rfl rfl hF14 rfl ?_
        refine Tr.q (QS.pickF rfl hF14 rfl) rfl ?_
        refine Tr.nil (Tr.thenN ?_)
        exact Tr.endX (Sub.cons rfl (Sub.dropN 3 (by kernel_rfl) rfl))
       refine Tr.q (QS.assign rfl) rfl ?_
       refine Tr.nil (Tr.thenN ?_)
       refine Tr.cond rfl (fun h15 => ?_) (fun h15 => ?_)
       ·try simp only [bs] at h15
        refine Tr.seq (Tr.region ?_)
        refine Tr.q (QS.move rfl) rfl ?_
        refine Tr.q (QS.build (vs := [(2, _), (5, _)]) rfl rfl (HLF.built67_2_5 _ _)) rfl ?_
        refine Tr.storeW rfl rfl Try.sizeOf67 (by repeat constructor) (by rfl) (by rfl) (by first | exact List.all_eq_true.1 rfl | exact Enc.one _ _ | exact Enc.one encIns _) rfl ?_
        refine Tr.q (QS.assign rfl) rfl ?_
        refine Tr.nil (Tr.thenN (Tr.ret ?_))
        refine Tr.inR ?_
        refine Tr.thenR ?_
        refine Tr.scopeR ?_
        refine Tr.retC2 Try.results69 rfl rfl (by repeat constructor) Try.isAgg67 Try.sizeOf67 (by rfl) (fun w' hw => ?_)
        exact ⟨by clear hw; unfold rowP; (repeat (first | rw [if_pos (by first | assumption | omega)] | rw [if_neg (by first | assumption | omega | (intro hq; simp_all))])) <;> rfl, hw.below (Bg.le.refl _)⟩
       ·try simp only [bs] at h15
        refine Tr.skip (Tr.inN (Tr.thenN (Tr.seq (Tr.region ?_))))
        refine Tr.q (QS.build (vs := [(2, _), (4, _)]) rfl rfl (HLF.built67_2_4 _ _)) rfl ?_
        refine Tr.q (QS.build (vs := [(2, _), (4, _)]) rfl rfl (HLF.built67_2_4 _ _)) rfl ?_
        refine Tr.q (QS.build (vs := [(2, _), (4, _)]) rfl rfl (HLF.built67_2_4 _ _)) rfl ?_
        refine Tr.q (QS.build (vs := [(2, _), (4, _)]) rfl rfl (HLF.built67_2_4 _ _)) rfl ?_
        refine Tr.q (QS.build (vs := [(2, _), (4, _)]) rfl rfl (HLF.built67_2_4 _ _)) rfl ?_
        refine Tr.q (QS.build (vs := [(2, _), (4, _)]) rfl rfl (HLF.built67_2_4 _ _)) rfl ?_
        refine Tr.q (QS.build (vs := [(2, _), (4, _)]) rfl rfl (HLF.built67_2_4 _ _)) rfl ?_
        refine Tr.q (QS.build (vs := [(2, _), (4, _)]) rfl rfl (HLF.built67_2_4 _ _)) rfl ?_
        refine Tr.q (QS.build (vs := [(2, _)]) rfl rfl (HLF.built67_2 _)) rfl ?_
        refine Tr.q (QS.build (vs := [(2, _)]) rfl rfl (HLF.built67_2 _)) rfl ?_
        refine Tr.q (QS.build (vs := [(2, _)]) rfl rfl (HLF.built67_2 _)) rfl ?_
        refine Tr.q (QS.build (vs := [(2, _)]) rfl rfl (HLF.built67_2 _)) rfl ?_
        refine Tr.q (QS.build (vs := [(2, _)]) rfl rfl (HLF.built67_2 _)) rfl ?_
        refine Tr.q (QS.build (vs := [(2, _)]) rfl rfl (HLF.built67_2 _)) rfl ?_
        refine Tr.q (QS.build (vs := [(2, _)]) rfl rfl (HLF.built67_2 _)) rfl ?_
        refine Tr.q (QS.build (vs := [(0, _), (1, _), (2, _), (3, _), (4, _), (5, _), (6, _), (7, _), (8, _), (9, _), (10, _), (11, _), (12, _), (13, _), (14, _)]) rfl rfl (HLF.built133_0_1_2_3_4_5_6_7_8_9_10_11_12_13_14 _ _ _ _ _ _ _ _ _ _ _ _ _ _ _ _ _ _ _ _ _ _ _ _ _ _ _ _ _ _ _ _ _ _ _ _ _ _ _ _ _ _ _ _ _ _ _ _ _ _ _ _ _ _ _ _ _ _ _ _ _ _ _ _ _ _ _ _ _ _ _ _ _ _ _ _ _ _ _ _ _ _ _ _ _ _ _ _ _ _ _ _ _ _ _ _ _ _ _ _ _ _ _ _ _ _ _ _ _ _ _ _ _ _ _ _ _ _ _ _ _ _ _ _ _ _ _ _ _ _ _ _ _ _ _)) rfl ?_
        refine Tr.alloc Try.zeroValue133 rfl rfl (fun b16 => ?_)
        refine Tr.storeW rfl rfl Try.sizeOf133 (by repeat constructor) (by rfl) (by rfl) (by first | exact List.all_eq_true.1 rfl | exact Enc.one _ _ | (intro u hu; simp [Value.cells] at hu; simp_all [Value.oneCell'])) rfl ?_
        refine Tr.nil (Tr.thenN (Tr.seq (Tr.region ?_)))
        refine Tr.alloc Try.zeroValue67 rfl rfl (fun b17 => ?_)
        refine Tr.nil (Tr.thenN (Tr.seq (Tr.region ?_)))
        refine Tr.q (QS.assign rfl) rfl ?_
        refine Tr.nil (Tr.thenN (Tr.seq ?_))
        refine Tr.label ?_
        refine Tr.thenN (Tr.seq (Tr.seq (Tr.region ?_)))
        refine Tr.q (QS.lW rfl Try.isAgg133 Try.sizeOf133) rfl ?_
        refine Tr.q (QS.move rfl) rfl ?_
        refine Tr.nil (Tr.thenN (Tr.block ?_))
        refine Tr.loop (ι := Nat) (fun k => k ≤ 15 ∧ findPI c (rowsP.drop k) = findPI c rowsP) (fun _ => _) (fun k => [cellE b17 (encIns.enc zeroIns) 67, cellE b1 (encIns.enc zeroIns) 67]) (fun k => [(105, .int .i64 (k : Nat))]) (fun k => 15 - k) 0 ⟨by omega, rfl⟩ (.cons (by first | rfl | exact lookI rfl (by omega) | exact lookI rfl (by simp) | exact lookB rfl (by simp)) Front.nil) (by repeat' constructor) rfl (fun k hi m hm => ?_)
        replace hi : k ≤ 15 ∧ findPI c (rowsP.drop k) = findPI c rowsP := hi
        replace hm : m = 15 - k := hm
        change Tr _ _ [cellE b17 (encIns.enc zeroIns) 67, cellE b1 (encIns.enc zeroIns) 67] ([(105, .int .i64 (k : Nat))] ++ _) _
        obtain ⟨hk1, hk2⟩ := hi
        refine Tr.seq (Tr.region ?_)
        refine Tr.q (QS.lss rfl rfl) rfl ?_
        refine Tr.nil (Tr.thenN (Tr.seq ?_))
        refine Tr.cond rfl (fun h18 => ?_) (fun h18 => ?_)
        ·try simp only [bs] at h18
         refine Tr.skip (Tr.thenN (Tr.seq (Tr.block (Tr.seq (Tr.region ?_)))))
         refine Tr.q (QS.indexE (E := encIns) rowsP rfl rfl Try.underlying133 Try.sizeOf67 Try.isAgg67 rfl rfl (by omega)) rfl ?_
         refine Tr.alloc Try.zeroValue67 rfl rfl (fun b19 => ?_)
         refine Tr.storeW rfl rfl Try.sizeOf67 (by repeat constructor) (by rfl) (by rfl) (by first | exact List.all_eq_true.1 rfl | exact Enc.one _ _ | exact Enc.one encIns _) rfl ?_
         refine Tr.nil (Tr.thenN (Tr.seq (Tr.region ?_)))
         refine Tr.q (QS.lW rfl Try.isAgg67 Try.sizeOf67) rfl ?_
         refine Tr.q (QS.call rfl Try.call70 (fun w hw => opcode_any (rowsP.getD k default) w (rows_ok k (by omega)))) rfl ?_
         refine Tr.q (QS.move rfl) rfl ?_
         refine Tr.q (QS.extract rfl rfl) rfl ?_
         refine Tr.q (QS.extract rfl rfl) rfl ?_
         refine Tr.q (QS.extract rfl rfl) rfl ?_
         refine Tr.q (QS.assign rfl) rfl ?_
         refine Tr.q (QS.assign rfl) rfl ?_
         refine Tr.q (QS.assign rfl) rfl ?_
         refine Tr.nil (Tr.thenN (Tr.seq (Tr.region ?_)))
         refine Tr.q (QS.move rfl) rfl ?_
         refine Tr.q (QS.move rfl) rfl ?_
         apply Tr.andP
         ·exact (rfl : _ = (4, 115, 119))
         ·exact rfl
         ·intro hT20; have hT20' := hT20
          try simp only [bs] at hT20'
          refine Tr.gq rfl rfl hT20 (QS.move rfl) rfl ?_
          refine Tr.gq rfl rfl hT20 (QS.move rfl) rfl ?_
          refine Tr.gq rfl rfl hT20 (QS.eql8 rfl rfl) rfl ?_
          refine Tr.q (QS.pickT rfl hT20 rfl) rfl ?_
          refine Tr.nil (Tr.thenN ?_)
          exact Tr.endX (Sub.cons rfl (Sub.dropN 4 (by kernel_rfl) rfl))
         ·intro hF20
          refine Tr.gskip rfl rfl hF20 rfl ?_
          refine Tr.gskip rfl rfl hF20 rfl ?_
          refine Tr.gskip rfl rfl hF20 rfl ?_
          refine Tr.q (QS.pickF rfl hF20 rfl) rfl ?_
          refine Tr.nil (Tr.thenN ?_)
          exact Tr.endX (Sub.cons rfl (Sub.dropN 4 (by kernel_rfl) rfl))
         refine Tr.nil (Tr.thenN ?_)
         refine Tr.cond rfl (fun h21 => ?_) (fun h21 => ?_)
         ·try simp only [bs] at h21
          refine Tr.seq (Tr.region ?_)
          refine Tr.q (QS.lW rfl Try.isAgg67 Try.sizeOf67) rfl ?_
          refine Tr.storeW rfl rfl Try.sizeOf67 (by repeat constructor) (by rfl) (by rfl) (by first | exact List.all_eq_true.1 rfl | exact Enc.one _ _ | exact Enc.one encIns _) rfl ?_
          refine Tr.q (QS.assign rfl) rfl ?_
          refine Tr.nil (Tr.thenN ?_)
          refine Tr.exit ?_
          refine Tr.inMiss rfl ?_
          refine Tr.thenE (Tr.thenE (Tr.inHit (Tr.thenN (Tr.seq (Tr.region ?_)))))
          refine Tr.q (QS.lW rfl Try.isAgg67 Try.sizeOf67) rfl ?_
          refine Tr.q (QS.move rfl) rfl ?_
          refine Tr.storeW rfl rfl Try.sizeOf67 (by repeat constructor) (by rfl) (by rfl) (by first | exact List.all_eq_true.1 rfl | exact Enc.one _ _ | exact Enc.one encIns _) rfl ?_
          refine Tr.q (QS.assign rfl) rfl ?_
          refine Tr.nil (Tr.thenN (Tr.ret ?_))
          refine Tr.scopeR ?_
          refine Tr.retC2 Try.results69 rfl rfl (by repeat constructor) Try.isAgg67 Try.sizeOf67 (by rfl) (fun w' hw => ?_)
          exact ⟨by clear hw; unfold rowP; (repeat (rw [if_neg (by first | assumption | omega | (intro hq; simp_all))])); rw [← hk2, drop_cons (k := k) (by show k < 15; omega), findPI, if_pos (by assumption)]; rfl, hw.below (Bg.le.refl _)⟩
         ·try simp only [bs] at h21
          refine Tr.skip (Tr.inN (Tr.thenN (Tr.region ?_)))
          refine Tr.q (QS.addI rfl rfl (by omega)) rfl ?_
          refine Tr.q (QS.move rfl) rfl ?_
          refine Tr.nil (Tr.thenN ?_)
          apply Tr.again (k + 1)
          ·exact rfl
          ·exact (.cons (by first | rfl | exact lookI rfl (by omega) | exact lookI rfl (by simp) | exact lookB rfl (by simp)) Front.nil)
          ·exact SubX.dropN 18 (by kernel_rfl) rfl
          ·exact (by repeat' constructor)
          ·exact ⟨by omega, by rw [← hk2, drop_cons (k := k) (by show k < 15; omega), findPI, if_neg (by intro hq; simp_all)]⟩
          ·exact (by (try dsimp only); omega)
        ·try simp only [bs] at h18
         refine Tr.exit ?_
         refine Tr.thenE (Tr.thenE (Tr.inHit (Tr.thenN (Tr.seq (Tr.region ?_)))))
         refine Tr.q (QS.lW rfl Try.isAgg67 Try.sizeOf67) rfl ?_
         refine Tr.q (QS.move rfl) rfl ?_
         refine Tr.storeW rfl rfl Try.sizeOf67 (by repeat constructor) (by rfl) (by rfl) (by first | exact List.all_eq_true.1 rfl | exact Enc.one _ _ | exact Enc.one encIns _) rfl ?_
         refine Tr.q (QS.assign rfl) rfl ?_
         refine Tr.nil (Tr.thenN (Tr.ret ?_))
         refine Tr.scopeR ?_
         refine Tr.retC2 Try.results69 rfl rfl (by repeat constructor) Try.isAgg67 Try.sizeOf67 (by rfl) (fun w' hw => ?_)
         exact ⟨by clear hw; unfold rowP; (repeat (rw [if_neg (by first | assumption | omega | (intro hq; simp_all))])); obtain rfl : k = 15 := (by omega); rw [← hk2]; rfl, hw.below (Bg.le.refl _)⟩
set_option maxRecDepth 100000 in
set_option maxHeartbeats 2000000 in
theorem decode_isa (b : List UInt8) (V : Value) (addr : UInt32) (w : World) (hV : Sl (hp w) encU8 b V) :
  Calls Try.prog 61 #[V, .int .u32 addr.toNat] w (fun e w' => e = .returned (.tuple #[.agg (encIns.enc (decP b addr).1).toArray, .int .i64 (decP b addr).2]) ∧ Ext w w') := by
 have hV' : Sl (Bg.of w).blk encU8 b V := hV
 have hlen := hV.len_le
 refine enter Try.func61 rfl Try.ntmps61 rfl ?_
 refine Tr.seq (Tr.region ?_)
 refine Tr.alloc Try.zeroValue67 rfl rfl (fun b1 => ?_)
 refine Tr.q (QS.assign rfl) rfl ?_
 refine Tr.nil (Tr.thenN (Tr.seq (Tr.seq (Tr.region ?_))))
 refine Tr.q (QS.move rfl) rfl ?_
 refine Tr.q (QS.len rfl (by assumption) Try.underlying78) rfl ?_
 refine Tr.q (QS.eql rfl rfl) rfl ?_
 refine Tr.nil (Tr.thenN ?_)
 refine Tr.cond rfl (fun h2 => ?_) (fun h2 => ?_)
 ·try simp only [bs] at h2
  refine Tr.seq (Tr.region ?_)
  refine Tr.q (QS.build (vs := []) rfl rfl (HLF.built67)) rfl ?_
  refine Tr.storeW rfl rfl Try.sizeOf67 (by repeat constructor) (by rfl) (by rfl) (by first | exact List.all_eq_true.1 rfl | exact Enc.one _ _ | exact Enc.one encIns _) rfl ?_
  refine Tr.q (QS.assign rfl) rfl ?_
  refine Tr.nil (Tr.thenN (Tr.ret (Tr.thenR ?_)))
  refine Tr.retC2 Try.results61 rfl rfl (by repeat constructor) Try.isAgg67 Try.sizeOf67 (by rfl) (fun w' hw => ?_)
  exact ⟨by rw [decP_1 (by omega)]; rfl, hw.below (Bg.le.refl _)⟩
 ·try simp only [bs] at h2
  refine Tr.skip (Tr.thenN (Tr.seq (Tr.region ?_)))
  refine Tr.q (QS.move rfl) rfl ?_
  refine Tr.q (QS.idx rfl rfl (by assumption) Try.underlying78 Try.sizeOf5 (by rfl) (by omega)) rfl ?_
  refine Tr.q (QS.el1 rfl (by assumption) Try.isAgg5 (by omega) (by rfl)) rfl ?_
  refine Tr.q (QS.call rfl Try.call69 (fun w hw => row_isa (b.getD 0 default) w)) rfl ?_
  refine Tr.q (QS.move rfl) rfl ?_
  refine Tr.q (QS.extract rfl rfl) rfl ?_
  refine Tr.q (QS.extract rfl rfl) rfl ?_
  refine Tr.alloc Try.zeroValue67 rfl rfl (fun b3 => ?_)
  refine Tr.storeW rfl rfl Try.sizeOf67 (by repeat constructor) (by rfl) (by rfl) (by first | exact List.all_eq_true.1 rfl | exact Enc.one _ _ | exact Enc.one encIns _) rfl ?_
  refine Tr.q (QS.assign rfl) rfl ?_
  refine Tr.nil (Tr.thenN (Tr.seq (Tr.seq (Tr.region ?_))))
  refine Tr.q (QS.move rfl) rfl ?_
  refine Tr.q (QS.not rfl) rfl ?_
  refine Tr.nil (Tr.thenN ?_)
  refine Tr.cond rfl (fun h4 => ?_) (fun h4 => ?_)
  ·try simp only [bs] at h4
   refine Tr.seq (Tr.region ?_)
   refine Tr.q (QS.build (vs := []) rfl rfl (HLF.built67)) rfl ?_
   refine Tr.storeW rfl rfl Try.sizeOf67 (by repeat constructor) (by rfl) (by rfl) (by first | exact List.all_eq_true.1 rfl | exact Enc.one _ _ | exact Enc.one encIns _) rfl ?_
   refine Tr.q (QS.assign rfl) rfl ?_
   refine Tr.nil (Tr.thenN (Tr.ret (Tr.thenR ?_)))
   refine Tr.retC2 Try.results61 rfl rfl (by repeat constructor) Try.isAgg67 Try.sizeOf67 (by rfl) (fun w' hw => ?_)
   exact ⟨by rw [decP_2 (by omega) (by assumption)]; rfl, hw.below (Bg.le.refl _)⟩
  ·try simp only [bs] at h4
   refine Tr.skip (Tr.thenN (Tr.seq (Tr.region ?_)))
   refine Tr.q (QS.lW rfl Try.isAgg67 Try.sizeOf67) rfl ?_
   refine Tr.q (QS.call rfl Try.call70 (fun w hw => opcode_any (rowP (b.getD 0 default)).1 w (row_ok _))) rfl ?_
   refine Tr.q (QS.move rfl) rfl ?_
   refine Tr.q (QS.extract rfl rfl) rfl ?_
   refine Tr.q (QS.extract rfl rfl) rfl ?_
   refine Tr.q (QS.extract rfl rfl) rfl ?_
   refine Tr.q (QS.assign rfl) rfl ?_
   refine Tr.q (QS.assign rfl) rfl ?_
   refine Tr.q (QS.assign rfl) rfl ?_
   refine Tr.nil (Tr.thenN (Tr.seq (Tr.region ?_)))
   refine Tr.q (QS.move rfl) rfl ?_
   refine Tr.q (QS.call rfl Try.call64 (fun w hw => size_any (opcodeP (rowP (b.getD 0 default)).1).2.1 w (opcodeP_shape _))) rfl ?_
   refine Tr.q (QS.assign rfl) rfl ?_
   refine Tr.nil (Tr.thenN (Tr.seq (Tr.seq (Tr.region ?_))))
   refine Tr.q (QS.move rfl) rfl ?_
   refine Tr.q (QS.len rfl (by assumption) Try.underlying78) rfl ?_
   refine Tr.q (QS.move rfl) rfl ?_
   refine Tr.q (QS.lss rfl rfl) rfl ?_
   refine Tr.nil (Tr.thenN ?_)
   refine Tr.cond rfl (fun h5 => ?_) (fun h5 => ?_)
   ·try simp only [bs] at h5
    refine Tr.seq (Tr.region ?_)
    refine Tr.q (QS.build (vs := []) rfl rfl (HLF.built67)) rfl ?_
    refine Tr.storeW rfl rfl Try.sizeOf67 (by repeat constructor) (by rfl) (by rfl) (by first | exact List.all_eq_true.1 rfl | exact Enc.one _ _ | exact Enc.one encIns _) rfl ?_
    refine Tr.q (QS.assign rfl) rfl ?_
    refine Tr.nil (Tr.thenN (Tr.ret (Tr.thenR ?_)))
    refine Tr.retC2 Try.results61 rfl rfl (by repeat constructor) Try.isAgg67 Try.sizeOf67 (by rfl) (fun w' hw => ?_)
    exact ⟨by rw [decP_3 (by omega) (by assumption) (by assumption)]; rfl, hw.below (Bg.le.refl _)⟩
   ·try simp only [bs] at h5
    refine Tr.skip (Tr.thenN (Tr.seq ?_))
    have hsz := sizeP_spec (opcodeP (rowP (b.getD 0 default)).1).2.1
    refine Tr.region ?_
    refine Tr.q (QS.move rfl) rfl ?_
    refine Tr.q (QS.move rfl) rfl ?_
    refine Tr.q (QS.fieldAddr (off := 0) (ft := 22) rfl Try.underlying67 rfl rfl Try.sizeOf22 (by decide)) rfl ?_
    refine Tr.storeV (cs' := [_, _, _, _, _, _, _, _, _]) rfl rfl Try.sizeOf22 (by repeat constructor) rfl (by rfl) (by first | exact Nat.le_of_ble_eq_true rfl | simp) (by first | exact List.all_eq_true.1 rfl | (intro u hu; simp [Value.cells] at hu; simp_all [Value.oneCell'])) rfl ?_
    refine Tr.q (QS.fieldAddr (off := 8) (ft := 3) rfl Try.underlying67 rfl rfl Try.sizeOf3 (by decide)) rfl ?_
    refine Tr.storeV (cs' := [_, _, _, _, _, _, _, _, _]) rfl rfl Try.sizeOf3 (by repeat constructor) rfl (by rfl) (by first | exact Nat.le_of_ble_eq_true rfl | simp) (by first | exact List.all_eq_true.1 rfl | (intro u hu; simp [Value.cells] at hu; simp_all [Value.oneCell'])) rfl ?_
    refine Tr.nil (Tr.thenN (Tr.seq (Tr.region ?_)))
    refine Tr.q (QS.move rfl) rfl ?_
    refine Tr.q (QS.move rfl) rfl ?_
    refine Tr.q (QS.cvtTo32 rfl Try.underlying3 Try.underlying22) rfl ?_
    refine Tr.q (QS.add32 rfl rfl) rfl ?_
    refine Tr.q (QS.assign rfl) rfl ?_
    refine Tr.nil (Tr.thenN ?_)
    refine Tr.seqJ (ι := Ins) (fun k1 => k1 = setAB (opcodeP (rowP (b.getD 0 default)).1).2.1 { (rowP (b.getD 0 default)).1 with addr := addr, size := sizeP (opcodeP (rowP (b.getD 0 default)).1).2.1 } b) (fun _ => Bg.of w) (fun k1 => [cellE b3 (encIns.enc k1) 67, cellE b1 (encIns.enc zeroIns) 67]) (fun k1 => []) ?_ (fun k1 hi => ?_)
    ·skip
     refine Tr.seq (Tr.region ?_)
     refine Tr.q (QS.move rfl) rfl ?_
     refine Tr.nil (Tr.thenN (Tr.block (Tr.seq (Tr.seq (Tr.region ?_)))))
     refine Tr.q (QS.eql rfl rfl) rfl ?_
     refine Tr.q (QS.assign rfl) rfl ?_
     refine Tr.nil (Tr.thenN ?_)
     apply Tr.condOr
     ·exact rfl
     ·intro hO6
      try simp only [bs] at hO6
      refine Tr.seq (Tr.region ?_)
      refine Tr.q (QS.eql rfl rfl) rfl ?_
      refine Tr.q (QS.assign rfl) rfl ?_
      refine Tr.nil (Tr.thenN ?_)
      apply Tr.condOr
      ·exact rfl
      ·intro hO7
       try simp only [bs] at hO7
       refine Tr.region ?_
       refine Tr.q (QS.eql rfl rfl) rfl ?_
       refine Tr.q (QS.assign rfl) rfl ?_
       refine Tr.nil (Tr.thenN ?_)
       exact Tr.endOr rfl (SubX.dropN 2 (by kernel_rfl) rfl)
      refine Tr.thenN ?_
      exact Tr.endOr rfl (SubX.dropN 3 (by kernel_rfl) rfl)
     refine Tr.thenN ?_
     refine Tr.cond rfl (fun h8 => ?_) (fun h8 => ?_)
     ·try simp only [bs] at h8
      refine Tr.region ?_
      refine Tr.q (QS.move rfl) rfl ?_
      refine Tr.q (QS.idx rfl rfl (by assumption) Try.underlying78 Try.sizeOf5 (by rfl) (by omega)) rfl ?_
      refine Tr.q (QS.el1 rfl (by assumption) Try.isAgg5 (by omega) (by rfl)) rfl ?_
      refine Tr.q (QS.cvt8toI rfl Try.underlying5 Try.underlying3) rfl ?_
      refine Tr.q (QS.fieldAddr (off := 6) (ft := 3) rfl Try.underlying67 rfl rfl Try.sizeOf3 (by decide)) rfl ?_
      refine Tr.storeV (cs' := [_, _, _, _, _, _, _, _, _]) rfl rfl Try.sizeOf3 (by repeat constructor) rfl (by rfl) (by first | exact Nat.le_of_ble_eq_true rfl | simp) (by first | exact List.all_eq_true.1 rfl | (intro u hu; simp [Value.cells] at hu; simp_all [Value.oneCell'])) rfl ?_
      refine Tr.nil (Tr.inN (Tr.thenN ?_))
      apply Tr.joined { { (rowP (b.getD 0 default)).1 with addr := addr, size := sizeP (opcodeP (rowP (b.getD 0 default)).1).2.1 } with a := (b.getD 1 default).toNat }
      ·exact rfl
      ·exact Front.nil
      ·exact SubX.dropN 9 (by kernel_rfl) rfl
      ·exact (by repeat' constructor)
      ·exact (by unfold setAB; (repeat (first | rw [if_pos (by omega)] | rw [if_neg (by omega)])) <;> rfl)
     ·try simp only [bs] at h8
      refine Tr.seq (Tr.seq (Tr.region ?_))
      refine Tr.q (QS.eql rfl rfl) rfl ?_
      refine Tr.q (QS.assign rfl) rfl ?_
      refine Tr.nil (Tr.thenN ?_)
      apply Tr.condOr
      ·exact rfl
      ·intro hO9
       try simp only [bs] at hO9
       refine Tr.region ?_
       refine Tr.q (QS.eql rfl rfl) rfl ?_
       refine Tr.q (QS.assign rfl) rfl ?_
       refine Tr.nil (Tr.thenN ?_)
       exact Tr.endOr rfl (SubX.dropN 2 (by kernel_rfl) rfl)
      refine Tr.thenN ?_
      refine Tr.cond rfl (fun h10 => ?_) (fun h10 => ?_)
      ·try simp only [bs] at h10
       refine Tr.regionH ([cellE b1 (encIns.enc zeroIns) 67]) 14 rfl HLF.mixed ?_
       refine Tr.hT 0 rfl (by kernel_rfl) (panicIn (panicThen panicBody)) (QS.move rfl) ?_
       refine Tr.hT 1 rfl (by kernel_rfl) (panicIn (panicThen panicBody)) (QS.idx rfl rfl (by assumption) Try.underlying78 Try.sizeOf5 (by rfl) (by omega)) ?_
       refine Tr.hT 2 rfl (by kernel_rfl) (panicIn (panicThen panicBody)) (QS.el1 rfl (by assumption) Try.isAgg5 (by omega) (by rfl)) ?_
       refine Tr.hT 3 rfl (by kernel_rfl) (panicIn (panicThen panicBody)) (QS.shr8c4 rfl rfl) ?_
       refine Tr.hT 4 rfl (by kernel_rfl) (panicIn (panicThen panicBody)) (QS.cvt8toI rfl Try.underlying5 Try.underlying3) ?_
       refine Tr.hT 5 rfl (by kernel_rfl) (panicIn (panicThen panicBody)) (QS.move rfl) ?_
       refine Tr.hT 6 rfl (by kernel_rfl) (panicIn (panicThen panicBody)) (QS.idx rfl rfl (by assumption) Try.underlying78 Try.sizeOf5 (by rfl) (by omega)) ?_
       refine Tr.hT 7 rfl (by kernel_rfl) (panicIn (panicThen panicBody)) (QS.el1 rfl (by assumption) Try.isAgg5 (by omega) (by rfl)) ?_
       refine Tr.hT 8 rfl (by kernel_rfl) (panicIn (panicThen panicBody)) (QS.and8c15 rfl rfl) ?_
       refine Tr.hT 9 rfl (by kernel_rfl) (panicIn (panicThen panicBody)) (QS.cvt8toI rfl Try.underlying5 Try.underlying3) ?_
       refine Tr.hT 10 rfl (by kernel_rfl) (panicIn (panicThen panicBody)) (QS.fieldAddr (off := 6) (ft := 3) rfl Try.underlying67 rfl rfl Try.sizeOf3 (by decide)) ?_
       refine Tr.hAll [11] (by kernel_rfl) (by simp) (fun iq hq => ?_)
       obtain rfl := List.mem_singleton.1 hq
       refine Tr.hOp rfl ?_
       refine Tr.storeV (cs' := [_, _, _, _, _, _, _, _, _]) rfl rfl Try.sizeOf3 (by repeat constructor) rfl (by rfl) (by first | exact Nat.le_of_ble_eq_true rfl | simp) (by first | exact List.all_eq_true.1 rfl | (intro u hu; simp [Value.cells] at hu; simp_all [Value.oneCell'])) rfl ?_
       refine Tr.hN ?_
       refine Tr.hT 12 rfl (by kernel_rfl) (panicIn (panicThen panicBody)) (QS.fieldAddr (off := 7) (ft := 3) rfl Try.underlying67 rfl rfl Try.sizeOf3 (by decide)) ?_
       refine Tr.hAll [13] (by kernel_rfl) (by simp) (fun iq hq => ?_)
       obtain rfl := List.mem_singleton.1 hq
       refine Tr.hOp rfl ?_
       refine Tr.storeV (cs' := [_, _, _, _, _, _, _, _, _]) rfl rfl Try.sizeOf3 (by repeat constructor) rfl (by rfl) (by first | exact Nat.le_of_ble_eq_true rfl | simp) (by first | exact List.all_eq_true.1 rfl | (intro u hu; simp [Value.cells] at hu; simp_all [Value.oneCell'])) rfl ?_
       refine Tr.hN ?_
       refine Tr.hDone (by kernel_rfl) ?_
       refine Tr.inN (Tr.thenN ?_)
       apply Tr.joined { { (rowP (b.getD 0 default)).1 with addr := addr, size := sizeP (opcodeP (rowP (b.getD 0 default)).1).2.1 } with a := (b.getD 1 default / 16).toNat, b := (b.getD 1 default % 16).toNat }
       ·exact rfl
       ·exact Front.nil
       ·exact SubX.dropN 19 (by kernel_rfl) rfl
       ·exact (by repeat' constructor)
       ·exact (by unfold setAB; (repeat (first | rw [if_pos (by omega)] | rw [if_neg (by omega)])) <;> rfl)
      ·try simp only [bs] at h10
       refine Tr.skip (Tr.inN (Tr.thenN ?_))
       apply Tr.joined { (rowP (b.getD 0 default)).1 with addr := addr, size := sizeP (opcodeP (rowP (b.getD 0 default)).1).2.1 }
       ·exact rfl
       ·exact Front.nil
       ·exact SubX.dropN 7 (by kernel_rfl) rfl
       ·exact (by repeat' constructor)
       ·exact (by unfold setAB; (repeat (first | rw [if_pos (by omega)] | rw [if_neg (by omega)])) <;> rfl)
    ·skip
     replace hi : k1 = setAB (opcodeP (rowP (b.getD 0 default)).1).2.1 { (rowP (b.getD 0 default)).1 with addr := addr, size := sizeP (opcodeP (rowP (b.getD 0 default)).1).2.1 } b := hi
     change Tr _ _ [cellE b3 (encIns.enc k1) 67, cellE b1 (encIns.enc zeroIns) 67] ([] ++ _) _
     refine Tr.seqJ (ι := Ins) (fun k2 => k2 = setImm (opcodeP (rowP (b.getD 0 default)).1).2.1 (setAB (opcodeP (rowP (b.getD 0 default)).1).2.1 { (rowP (b.getD 0 default)).1 with addr := addr, size := sizeP (opcodeP (rowP (b.getD 0 default)).1).2.1 } b) b (addr + u32 (sizeP (opcodeP (rowP (b.getD 0 default)).1).2.1))) (fun _ => Bg.of w) (fun k2 => [cellE b3 (encIns.enc k2) 67, cellE b1 (encIns.enc zeroIns) 67]) (fun k2 => []) ?_ (fun k2 hi => ?_)
     ·skip
      refine Tr.seq (Tr.region ?_)
      refine Tr.q (QS.move rfl) rfl ?_
      refine Tr.nil (Tr.thenN (Tr.block (Tr.seq (Tr.seq (Tr.region ?_)))))
      refine Tr.q (QS.eql rfl rfl) rfl ?_
      refine Tr.q (QS.assign rfl) rfl ?_
      refine Tr.nil (Tr.thenN ?_)
      apply Tr.condOr
      ·exact rfl
      ·intro hO11
       try simp only [bs] at hO11
       refine Tr.region ?_
       refine Tr.q (QS.eql rfl rfl) rfl ?_
       refine Tr.q (QS.assign rfl) rfl ?_
       refine Tr.nil (Tr.thenN ?_)
       exact Tr.endOr rfl (SubX.dropN 2 (by kernel_rfl) rfl)
      refine Tr.thenN ?_
      refine Tr.cond rfl (fun h12 => ?_) (fun h12 => ?_)
      ·try simp only [bs] at h12
       refine Tr.region ?_
       refine Tr.q (QS.move rfl) rfl ?_
       refine Tr.q (QS.idx rfl rfl (by assumption) Try.underlying78 Try.sizeOf5 (by rfl) (by omega)) rfl ?_
       refine Tr.q (QS.el1 rfl (by assumption) Try.isAgg5 (by omega) (by rfl)) rfl ?_
       refine Tr.q (QS.cvt8to32 rfl Try.underlying5 Try.underlying22) rfl ?_
       refine Tr.q (QS.call rfl Try.call71 (fun w hw => extend_any (b.getD 2 default).toUInt32 1 w)) rfl ?_
       refine Tr.q (QS.fieldAddr (off := 1) (ft := 22) rfl Try.underlying67 rfl rfl Try.sizeOf22 (by decide)) rfl ?_
       refine Tr.storeV (cs' := [_, _, _, _, _, _, _, _, _]) rfl rfl Try.sizeOf22 (by repeat constructor) rfl (by rfl) (by first | exact Nat.le_of_ble_eq_true rfl | simp) (by first | exact List.all_eq_true.1 rfl | (intro u hu; simp [Value.cells] at hu; simp_all [Value.oneCell'])) rfl ?_
       refine Tr.nil (Tr.inN (Tr.thenN ?_))
       rw [ext_sext]
       apply Tr.joined { k1 with imm := sextP (b.getD 2 default) }
       ·exact rfl
       ·exact Front.nil
       ·exact SubX.dropN 10 (by kernel_rfl) rfl
       ·exact (by repeat' constructor)
       ·exact (by subst hi; unfold setImm; (repeat (first | rw [if_pos (by omega)] | rw [if_neg (by omega)])) <;> rfl)
      ·try simp only [bs] at h12
       refine Tr.seq (Tr.region ?_)
       refine Tr.q (QS.eql rfl rfl) rfl ?_
       refine Tr.q (QS.assign rfl) rfl ?_
       refine Tr.nil (Tr.thenN ?_)
       refine Tr.cond rfl (fun h13 => ?_) (fun h13 => ?_)
       ·try simp only [bs] at h13
        refine Tr.region ?_
        refine Tr.q (QS.move rfl) rfl ?_
        refine Tr.q (QS.call rfl Try.call72 (fun w hw => get_any b V 2 4 w (hw.slF hV) (by omega))) rfl ?_
        refine Tr.q (QS.move rfl) rfl ?_
        refine Tr.q (QS.extract rfl rfl) rfl ?_
        refine Tr.q (QS.extract rfl rfl) rfl ?_
        refine Tr.q (QS.fieldAddr (off := 1) (ft := 22) rfl Try.underlying67 rfl rfl Try.sizeOf22 (by decide)) rfl ?_
        refine Tr.storeV (cs' := [_, _, _, _, _, _, _, _, _]) rfl rfl Try.sizeOf22 (by repeat constructor) rfl (by rfl) (by first | exact Nat.le_of_ble_eq_true rfl | simp) (by first | exact List.all_eq_true.1 rfl | (intro u hu; simp [Value.cells] at hu; simp_all [Value.oneCell'])) rfl ?_
        refine Tr.nil (Tr.inN (Tr.thenN ?_))
        rw [show (getP b 2 4).1 = longP b 2 from get_long (k := 2) (by omega)]
        apply Tr.joined { k1 with imm := longP b 2 }
        ·exact rfl
        ·exact Front.nil
        ·exact SubX.dropN 12 (by kernel_rfl) rfl
        ·exact (by repeat' constructor)
        ·exact (by subst hi; unfold setImm; (repeat (first | rw [if_pos (by omega)] | rw [if_neg (by omega)])) <;> rfl)
       ·try simp only [bs] at h13
        refine Tr.seq (Tr.region ?_)
        refine Tr.q (QS.eql rfl rfl) rfl ?_
        refine Tr.q (QS.assign rfl) rfl ?_
        refine Tr.nil (Tr.thenN ?_)
        refine Tr.cond rfl (fun h14 => ?_) (fun h14 => ?_)
        ·try simp only [bs] at h14
         refine Tr.region ?_
         refine Tr.q (QS.move rfl) rfl ?_
         refine Tr.q (QS.move rfl) rfl ?_
         refine Tr.q (QS.idx rfl rfl (by assumption) Try.underlying78 Try.sizeOf5 (by rfl) (by omega)) rfl ?_
         refine Tr.q (QS.el1 rfl (by assumption) Try.isAgg5 (by omega) (by rfl)) rfl ?_
         refine Tr.q (QS.cvt8to32 rfl Try.underlying5 Try.underlying22) rfl ?_
         refine Tr.q (QS.call rfl Try.call71 (fun w hw => extend_any (b.getD 1 default).toUInt32 1 w)) rfl ?_
         refine Tr.q (QS.add32 rfl rfl) rfl ?_
         refine Tr.q (QS.fieldAddr (off := 1) (ft := 22) rfl Try.underlying67 rfl rfl Try.sizeOf22 (by decide)) rfl ?_
         refine Tr.storeV (cs' := [_, _, _, _, _, _, _, _, _]) rfl rfl Try.sizeOf22 (by repeat constructor) rfl (by rfl) (by first | exact Nat.le_of_ble_eq_true rfl | simp) (by first | exact List.all_eq_true.1 rfl | (intro u hu; simp [Value.cells] at hu; simp_all [Value.oneCell'])) rfl ?_
         refine Tr.nil (Tr.inN (Tr.thenN ?_))
         rw [ext_sext]
         apply Tr.joined { k1 with imm := (addr + u32 (sizeP (opcodeP (rowP (b.getD 0 default)).1).2.1)) + sextP (b.getD 1 default) }
         ·exact rfl
         ·exact Front.nil
         ·exact SubX.dropN 16 (by kernel_rfl) rfl
         ·exact (by repeat' constructor)
         ·exact (by subst hi; unfold setImm; (repeat (first | rw [if_pos (by omega)] | rw [if_neg (by omega)])) <;> rfl)
        ·try simp only [bs] at h14
         refine Tr.seq (Tr.region ?_)
         refine Tr.q (QS.eql rfl rfl) rfl ?_
         refine Tr.q (QS.assign rfl) rfl ?_
         refine Tr.nil (Tr.thenN ?_)
         refine Tr.cond rfl (fun h15 => ?_) (fun h15 => ?_)
         ·try simp only [bs] at h15
          refine Tr.seq (Tr.region ?_)
          refine Tr.q (QS.move rfl) rfl ?_
          refine Tr.q (QS.call rfl Try.call72 (fun w hw => get_any b V 1 4 w (hw.slF hV) (by omega))) rfl ?_
          refine Tr.q (QS.move rfl) rfl ?_
          refine Tr.q (QS.extract rfl rfl) rfl ?_
          refine Tr.q (QS.extract rfl rfl) rfl ?_
          refine Tr.q (QS.assign rfl) rfl ?_
          refine Tr.q (QS.assign rfl) rfl ?_
          refine Tr.nil (Tr.thenN (Tr.region ?_))
          refine Tr.q (QS.move rfl) rfl ?_
          refine Tr.q (QS.move rfl) rfl ?_
          refine Tr.q (QS.add32 rfl rfl) rfl ?_
          refine Tr.q (QS.fieldAddr (off := 1) (ft := 22) rfl Try.underlying67 rfl rfl Try.sizeOf22 (by decide)) rfl ?_
          refine Tr.storeV (cs' := [_, _, _, _, _, _, _, _, _]) rfl rfl Try.sizeOf22 (by repeat constructor) rfl (by rfl) (by first | exact Nat.le_of_ble_eq_true rfl | simp) (by first | exact List.all_eq_true.1 rfl | (intro u hu; simp [Value.cells] at hu; simp_all [Value.oneCell'])) rfl ?_
          refine Tr.nil (Tr.inN (Tr.thenN ?_))
          rw [show (getP b 1 4).1 = longP b 1 from get_long (k := 1) (by omega)]
          apply Tr.joined { k1 with imm := (addr + u32 (sizeP (opcodeP (rowP (b.getD 0 default)).1).2.1)) + longP b 1 }
          ·exact rfl
          ·exact Front.nil
          ·exact SubX.dropN 21 (by kernel_rfl) rfl
          ·exact (by repeat' constructor)
          ·exact (by subst hi; unfold setImm; (repeat (first | rw [if_pos (by omega)] | rw [if_neg (by omega)])) <;> rfl)
         ·try simp only [bs] at h15
          refine Tr.skip (Tr.inN (Tr.thenN ?_))
          apply Tr.joined k1
          ·exact rfl
          ·exact Front.nil
          ·exact SubX.dropN 10 (by kernel_rfl) rfl
          ·exact (by repeat' constructor)
          ·exact (by subst hi; unfold setImm; (repeat (first | rw [if_pos (by omega)] | rw [if_neg (by omega)])) <;> rfl)
     ·skip
      replace hi : k2 = setImm (opcodeP (rowP (b.getD 0 default)).1).2.1 (setAB (opcodeP (rowP (b.getD 0 default)).1).2.1 { (rowP (b.getD 0 default)).1 with addr := addr, size := sizeP (opcodeP (rowP (b.getD 0 default)).1).2.1 } b) b (addr + u32 (sizeP (opcodeP (rowP (b.getD 0 default)).1).2.1)) := hi
      change Tr _ _ [cellE b3 (encIns.enc k2) 67, cellE b1 (encIns.enc zeroIns) 67] ([] ++ _) _
      refine Tr.seq (Tr.seq (Tr.region ?_))
      refine Tr.q (QS.fieldAddr (off := 6) (ft := 3) rfl Try.underlying67 rfl rfl Try.sizeOf3 (by decide)) rfl ?_
      refine Tr.q (QS.lV rfl Try.isAgg3) rfl ?_
      refine Tr.q (QS.call rfl Try.call73 (fun w hw => register_any k2.a w)) rfl ?_
      refine Tr.q (QS.not rfl) rfl ?_
      refine Tr.q (QS.move rfl) rfl ?_
      apply Tr.orP
      ·exact (rfl : _ = (5, 118, 123))
      ·exact rfl
      ·intro hF16; have hF16' := hF16
       try simp only [bs] at hF16'
       refine Tr.gq rfl rfl hF16 (QS.fieldAddr (off := 7) (ft := 3) rfl Try.underlying67 rfl rfl Try.sizeOf3 (by decide)) rfl ?_
       refine Tr.gq rfl rfl hF16 (QS.lV rfl Try.isAgg3) rfl ?_
       refine Tr.gq rfl rfl hF16 (QS.call rfl Try.call73 (fun w hw => register_any k2.b w)) rfl ?_
       refine Tr.gq rfl rfl hF16 (QS.not rfl) rfl ?_
       refine Tr.q (QS.pickF rfl hF16 rfl) rfl ?_
       refine Tr.nil (Tr.thenN ?_)
       exact Tr.endX (Sub.cons rfl (Sub.dropN 5 (by kernel_rfl) rfl))
      ·intro hT16
       refine Tr.gskip rfl rfl hT16 rfl ?_
       refine Tr.gskip rfl rfl hT16 rfl ?_
       refine Tr.gskip rfl rfl hT16 rfl ?_
       refine Tr.gskip rfl rfl hT16 rfl ?_
       refine Tr.q (QS.pickT rfl hT16 rfl) rfl ?_
       refine Tr.nil (Tr.thenN ?_)
       exact Tr.endX (Sub.cons rfl (Sub.dropN 5 (by kernel_rfl) rfl))
      refine Tr.nil (Tr.thenN ?_)
      refine Tr.cond rfl (fun h17 => ?_) (fun h17 => ?_)
      ·try simp only [bs] at h17
       refine Tr.seq (Tr.region ?_)
       refine Tr.q (QS.build (vs := []) rfl rfl (HLF.built67)) rfl ?_
       refine Tr.storeW rfl rfl Try.sizeOf67 (by repeat constructor) (by rfl) (by rfl) (by first | exact List.all_eq_true.1 rfl | exact Enc.one _ _ | exact Enc.one encIns _) rfl ?_
       refine Tr.q (QS.assign rfl) rfl ?_
       refine Tr.nil (Tr.thenN (Tr.ret (Tr.thenR ?_)))
       refine Tr.retC2 Try.results61 rfl rfl (by repeat constructor) Try.isAgg67 Try.sizeOf67 (by rfl) (fun w' hw => ?_)
       exact ⟨by rw [decP_4 (by omega) (by assumption) (by assumption) hi, if_pos (by assumption)]; rfl, hw.below (Bg.le.refl _)⟩
      ·try simp only [bs] at h17
       refine Tr.skip (Tr.thenN (Tr.seq (Tr.region ?_)))
       refine Tr.q (QS.lW rfl Try.isAgg67 Try.sizeOf67) rfl ?_
       refine Tr.storeW rfl rfl Try.sizeOf67 (by repeat constructor) (by rfl) (by rfl) (by first | exact List.all_eq_true.1 rfl | exact Enc.one _ _ | exact Enc.one encIns _) rfl ?_
       refine Tr.q (QS.assign rfl) rfl ?_
       refine Tr.nil (Tr.thenN (Tr.ret ?_))
       refine Tr.retC2 Try.results61 rfl rfl (by repeat constructor) Try.isAgg67 Try.sizeOf67 (by rfl) (fun w' hw => ?_)
       exact ⟨by rw [decP_4 (by omega) (by assumption) (by assumption) hi, if_neg (by simp_all)]; rfl, hw.below (Bg.le.refl _)⟩
end Go.Proofs.Ytpeaodkfbjenpaa
namespace Go.HL
open Go Go.RowKit Go.Sort
section
variable {α : Type} {E : Enc α} {f : α → Value}
theorem Mut.refl (w : World) (V : Value) : Mut w w V := ⟨rfl, rfl, rfl, Nat.le_refl _, Nat.le_refl _, fun _ _ _ => rfl⟩
end
section
variable {P : Program} {ops : Array Oper} {Q : Exit → Act → World → Prop} {N : Nat} {F : Bg} {L : List Ent} {M : Fr} {ty : TypeId} {pos : String} {after : Array Edge} {rest : List Oper} {d : Nat}
end
end Go.HL
namespace Go.HL
open Go Go.RowKit
section
variable {P : Program} {ops : Array Oper} {Q : Exit → Act → World → Prop} {N : Nat} {F : Bg} {L : List Ent} {M : Fr} {ty : TypeId} {pos : String} {after : Array Edge} {rest : List Oper} {d : Nat} {dst : Option Tmp} {g : Option (Nat × Bool)}
open Go.Lib (strCells strCells_length run_append_room_string run_append_grow_string)
/-- The bytes of a text. -/
def bts (s : ByteArray) : List UInt8 := s.data.toList
theorem bts_len (s : ByteArray) : (bts s).length = s.size := by rw [bts, Array.length_toList]; rfl
/-- A call that hands back a value with a new row in it. -/
theorem Tr.callRowF {α : Type} {E : Enc α} {l : List α} {T : TypeId} {f : FuncId} {xs : List Operand} {vs : List Value} {ts : Array TypeId} (φ : Value → Value) (hx : opvs M xs = some vs)
    (he : ∀ (args : Array Value) (w : World), (callFunc f args).run P w = .ok (.enter f args) w)
    (hc : ∀ w, HpOK F L w → Calls P f vs.toArray w fun e w' => ∃ V, e = .returned (φ V) ∧ Ext w w' ∧ NewRow w w' T E l V) (hd : Nat.ble (d + 1) N = true)
    (K : ∀ V, Tr N F (rowE V T E l :: L) ((d, φ V) :: M) (wpList P ops Q rest)) :
    Tr N F L M (wpList P ops Q (⟨some d, .call { callee := .value (.func f), args := xs.toArray, argTypes := ts }, ty, pos, after, none⟩ :: rest)) := by
  intro a w ha hw
  refine wpList_plain rfl fun K' hK => ?_
  have hr : (execOp a.eval ⟨some d, .call { callee := .value (.func f), args := xs.toArray, argTypes := ts }, ty, pos, after, none⟩).run P w = .ok (.enter f vs.toArray) w := by
    have := ha.evals hx
    simp [execOp, resolve, Deferred.ofValue, Act.eval, invoke, he, this]
  unfold Oper.wp
  rw [hr]
  refine (hc w hw).mono fun e w' ⟨V, h1, h2, h3⟩ => ?_
  subst h1
  exact hK _ _ (K V _ _ (ha.put (Nat.le_of_ble_eq_true hd)) (hw.newRow h2 h3))
end
end Go.HL
namespace Go.HL
open Go Go.RowKit
theorem HpOK.freeze {F : Bg} {L : List Ent} {w : World} (h : HpOK F L w) : ∃ F', F.le F' ∧ HpOK F' L w ∧ ∀ b o, b ∉ blks L → w.heap[b]? = some o → F'.blk b = some o := by
  refine ⟨{ F with blk := fun b => if b ∈ blks L then none else w.heap[b]? }, ⟨fun b o e => ?_, Nat.le_refl _, rfl, rfl, rfl, rfl, rfl⟩, ⟨h.os, h.tape, h.out, h.n, h.dr, fun b o e => ?_, h.ent, h.nodup, h.lt, fun b hb => ⟨?_, (h.sep b hb).2⟩⟩, fun b o hb e => ?_⟩
  · have hn : b ∉ blks L := fun hb => by rw [(h.sep b hb).1] at e; cases e
    show (if b ∈ blks L then none else w.heap[b]?) = some o
    rw [if_neg hn]; exact h.bg b o e
  · have e' : (if b ∈ blks L then none else w.heap[b]?) = some o := e
    split at e'
    · cases e'
    · exact e'
  · show (if b ∈ blks L then none else w.heap[b]?) = none
    rw [if_pos hb]
  · show (if b ∈ blks L then none else w.heap[b]?) = some o
    rw [if_neg hb]; exact e
/-- What lies in blocks that the world did not have before. -/
def newHp (w w' : World) : Hp := fun b => if b < w.heap.size then none else w'.heap[b]?
/-- A row made in a call reads in the new blocks. -/
theorem NewRow.sl {α : Type} {w w' : World} {T : TypeId} {E : Enc α} {l : List α} {V : Value} (h : NewRow w w' T E l V) : Sl (newHp w w') E l V := by
  obtain ⟨h1, h2⟩ := h
  rcases h1 with ⟨rfl, rfl⟩ | ⟨g, cap, cur, rfl, ho, k1, k2, k3, k4⟩
  · exact Sl.nil _ _
  · refine RowOK.sl (T := T) (.inr ⟨g, cap, cur, rfl, ?_, k1, k2, k3, k4⟩)
    have hg := h2 g rfl
    show newHp w w' g = _
    unfold newHp; rw [if_neg (by omega)]; exact ho
section
variable {P : Program} {ops : Array Oper} {Q : Exit → Act → World → Prop} {N : Nat} {F : Bg} {L : List Ent} {M : Fr} {dst : Option Tmp} {ty : TypeId} {pos : String} {after : Array Edge} {g : Option (Nat × Bool)} {rest : List Oper} {d : Nat}
/-- A row of one's own is only read from now on. -/
theorem Tr.frozen {α : Type} {V : Value} {T : TypeId} {E : Enc α} {l : List α} {L1 : List Ent} {X : Act → World → Prop} (hV : Del (rowE V T E l) L L1) (K : ∀ F', F.le F' → Sl F'.blk E l V → Tr N F' L1 M X) : Tr N F L M X := by
  intro a w ha hw
  have hf := hw.front hV
  have h1 : HpOK F L1 w := hf.mem (List.sublist_cons_self _ _)
  obtain ⟨F', e1, e2, e3⟩ := h1.freeze
  refine K F' e1 ?_ a w ha e2
  have hr : RowOK V T E l (V.ownBlock.bind (w.heap[·]?)) := hf.ent _ (.head _)
  rcases hr with ⟨rfl, rfl⟩ | ⟨gb, cap, cur, rfl, ho, k1, k2, k3, k4⟩
  · exact Sl.nil _ _
  · refine RowOK.sl (T := T) (.inr ⟨gb, cap, cur, rfl, ?_, k1, k2, k3, k4⟩)
    refine e3 gb _ ?_ ho
    have := hf.nodup
    rw [blks_some (b := gb) rfl, List.nodup_cons] at this
    exact this.1
structure NewEnts (w w' : World) (Ls : List Ent) : Prop where
  ent : ∀ e ∈ Ls, e.holds w'
  nodup : (blks Ls).Nodup
  lt : ∀ b ∈ blks Ls, b < w'.heap.size
  ge : ∀ b ∈ blks Ls, w.heap.size ≤ b
theorem HpOK.newEnts {w w' : World} {Ls : List Ent} (h : HpOK F L w) (hx : Ext w w') (hn : NewEnts w w' Ls) : HpOK F (Ls ++ L) w' := by
  have hg := h.grow hx
  have hbl : blks (Ls ++ L) = blks Ls ++ blks L := List.filterMap_append
  refine ⟨hg.os, hg.tape, hg.out, hg.n, hg.dr, hg.bg, fun e he => ?_, ?_, fun b hb => ?_, fun b hb => ?_⟩
  · rcases List.mem_append.1 he with he | he
    · exact hn.ent e he
    · exact hg.ent e he
  · rw [hbl, List.nodup_append]
    exact ⟨hn.nodup, hg.nodup, fun a ha b hb => by have := hn.ge a ha; have := h.lt b hb; omega⟩
  · rw [hbl] at hb
    rcases List.mem_append.1 hb with hb | hb
    · exact hn.lt b hb
    · exact hg.lt b hb
  · rw [hbl] at hb
    rcases List.mem_append.1 hb with hb | hb
    · have hge := hn.ge b hb
      refine ⟨?_, Nat.le_trans (Nat.le_trans F.lo_le h.n) hge⟩
      cases hF : F.blk b with
      | none => rfl
      | some o =>
        have := h.bg _ _ hF
        have := (Array.getElem?_eq_some_iff.1 this).1
        omega
    · exact hg.sep b hb
theorem HpOK.ents {w w' : World} {Ls : List Ent} (h : HpOK F L w') (hF : (Bg.of w).le F) (hs : Pick L Ls) : NewEnts w w' Ls := by
  have h' := hs.heap h
  refine ⟨h'.ent, h'.nodup, h'.lt, fun b hb => ?_⟩
  have := (h'.sep b hb).2
  rw [hF.lo] at this; exact this
/-- A call that hands back a value with many new rows in it. -/
theorem Tr.callEnts {ι : Type} (φ : ι → Value) (Ls : ι → List Ent) {ok : ι → Prop} {f : FuncId} {xs : List Operand} {vs : List Value} {ts : Array TypeId} (hx : opvs M xs = some vs)
    (he : ∀ (args : Array Value) (w : World), (callFunc f args).run P w = .ok (.enter f args) w)
    (hc : ∀ w, HpOK F L w → Calls P f vs.toArray w fun e w' => ∃ i, e = .returned (φ i) ∧ Ext w w' ∧ NewEnts w w' (Ls i) ∧ ok i) (hd : Nat.ble (d + 1) N = true)
    (K : ∀ i, ok i → Tr N F (Ls i ++ L) ((d, φ i) :: M) (wpList P ops Q rest)) :
    Tr N F L M (wpList P ops Q (⟨some d, .call { callee := .value (.func f), args := xs.toArray, argTypes := ts }, ty, pos, after, none⟩ :: rest)) := by
  intro a w ha hw
  refine wpList_plain rfl fun K' hK => ?_
  have hr : (execOp a.eval ⟨some d, .call { callee := .value (.func f), args := xs.toArray, argTypes := ts }, ty, pos, after, none⟩).run P w = .ok (.enter f vs.toArray) w := by
    have := ha.evals hx
    simp [execOp, resolve, Deferred.ofValue, Act.eval, invoke, he, this]
  unfold Oper.wp
  rw [hr]
  refine (hc w hw).mono fun e w' ⟨i, h1, h2, h3, h4⟩ => ?_
  subst h1
  exact hK _ _ (K i h4 _ _ (ha.put (Nat.le_of_ble_eq_true hd)) (hw.newEnts h2 h3))
theorem madeCells_toList (z : Array Value) (k : Nat) (hz : z.size = 1) : (madeCells z k).toList = List.replicate k (z[0]!) := by
  apply List.ext_getElem?
  intro j
  by_cases hj : j < k
  · simp [madeCells, hj, hz, Nat.mod_one]
  · simp [madeCells, hj]
theorem flatMap_replicate1 {α : Type} (E : Enc α) (x : α) (v : Value) (hv : E.enc x = [v]) : ∀ n, (List.replicate n x).flatMap E.enc = List.replicate n v
  | 0 => rfl
  | n + 1 => by simp only [List.replicate_succ, List.flatMap_cons, hv, flatMap_replicate1 E x v hv n]; rfl
theorem Tr.make {α : Type} {E : Enc α} (x : α) {x0 y : Operand} {t e : TypeId} {z v : Value} {n bytes : Nat} {k k' : IntKind} (hx : opv M x0 = some (.int k n)) (hy : opv M y = some (.int k' n)) (ht : P.underlying t = some (.slice e))
    (hinfo : (P.info? e).map (fun i => (i.zero, i.size, i.bytes)) = some (some z, 1, bytes)) (hz : z.cells = #[v]) (hE : E.enc x = [v]) (hk : E.k = 1) (hb : n ≤ 16777216 ∧ n * bytes ≤ 281474976710656) (hd : Nat.ble (d + 1) N = true)
    (K : ∀ b, Tr N F (rowE (.slice (some ⟨b, 0, none⟩) (List.replicate n x).length n) e E (List.replicate n x) :: L) ((d, .slice (some ⟨b, 0, none⟩) (List.replicate n x).length n) :: M) (wpList P ops Q rest)) :
    Tr N F L M (wpList P ops Q (⟨some d, .makeSlice t x0 y, ty, pos, after, none⟩ :: rest)) := by
  intro a w ha hw
  refine wpList_plain rfl fun K' hK => ?_
  obtain ⟨i, hi, hz', hsize, hby⟩ := info_parts' hinfo
  have hb2 : (i.bytes : Int) * (n : Int) ≤ 281474976710656 := by
    rw [hby, ← Int.natCast_mul, Nat.mul_comm]
    have := hb.2; omega
  have hr := run_make (P := P) w t e i z ht hi hz' k k' (n : Int) (n : Int) (by omega) (by omega) hb2 (by omega)
  have he : (execOp a.eval ⟨some d, .makeSlice t x0 y, ty, pos, after, none⟩).run P w = .ok (.value (.slice (some ⟨w.heap.size, 0, none⟩) n n)) (w.alloc (.cells (madeCells z.cells (n * i.size)) e)) := by
    simp only [execOp, ha.eval hx, ha.eval hy, Sem.run_bind, hr, Result.andThen_ok, Sem.run_pure, Int.toNat_natCast]
  unfold Oper.wp
  rw [he]
  have hl : (List.replicate n x).length = n := List.length_replicate
  have := K w.heap.size
  rw [hl] at this
  refine hK _ _ (this _ _ (ha.put (Nat.le_of_ble_eq_true hd)) ?_)
  refine hw.alloc _ _ ?_
  have hm : (madeCells z.cells (n * i.size)).toList = List.replicate n v := by
    rw [hz, madeCells_toList _ _ rfl, hsize, Nat.mul_one]; rfl
  have hs : (madeCells z.cells (n * i.size)).size = n := by rw [← Array.length_toList, hm]; simp
  have := rowOK_new (E := E) (l := List.replicate n x) (T := e) (b := w.heap.size) (cap := n) (cells := madeCells z.cells (n * i.size)) (by rw [hl]; exact Nat.le_refl _) (by unfold maxLen; omega) (by rw [hk, hs]; omega)
    (by rw [hm, hl, hk, Nat.mul_one, flatMap_replicate1 E x v hE, List.take_of_length_le (by simp)])
  rwa [hl] at this
open Go.Lib in
theorem Tr.strBytes {x : Operand} {s t e : TypeId} {u : TypeDesc} {b : ByteArray} (hx : opv M x = some (.string b)) (hs : P.underlying s = some u) (ht : P.underlying t = some (.slice e)) (he : P.underlying e = some (.int .u8)) (hb : b.size ≤ maxLen) (hd : Nat.ble (d + 1) N = true)
    (K : ∀ V F', F.le F' → Sl F'.blk encU8 (bts b) V → Tr N F' L ((d, V) :: M) (wpList P ops Q rest)) : Tr N F L M (wpList P ops Q (⟨some d, .convert s t x, ty, pos, after, none⟩ :: rest)) := by
  intro a w ha hw
  refine wpList_plain rfl fun K' hK => ?_
  have hr := Go.Lib.run_convert_string_bytes (P := P) w s t e b hs ht he
  have hge := grownCap_ge w b.size 0 e
  have hx2 : Ext w (bytesWorld w e b) := ⟨⟨rfl, rfl, rfl, by rw [bytesWorld_size]; omega, fun k hk => bytesWorld_at_old w e b k hk⟩, by simp [bytesWorld, World.freeze]⟩
  obtain ⟨F', e1, e2, e3⟩ := (hw.grow hx2).freeze
  have hnew := e3 w.heap.size _ (fun hm => by have := hw.lt _ hm; omega) (bytesWorld_at_new w e b)
  unfold Oper.wp
  simp only [execOp, ha.eval hx, Sem.run_bind, hr, Result.andThen_ok, Sem.run_pure, Oper.upon]
  refine hK _ _ (K _ F' e1 ?_ _ _ (ha.put (Nat.le_of_ble_eq_true hd)) e2)
  have hl := bts_len b
  refine ⟨⟨some ⟨w.heap.size, 0, none⟩, grownCap w b.size 0 e, by rw [hl], by rw [hl]; exact hge, grownCap_le_maxLen w _ 0 e hb, fun _ => rfl⟩, fun i x hi => ⟨_, _, _, hnew, fun j v hj => ?_⟩⟩
  have hi' : i < b.size := by rw [← hl]; exact (List.getElem?_eq_some_iff.1 hi).1
  have hj' : j = 0 := by have := (List.getElem?_eq_some_iff.1 hj).1; simp [encU8] at this; exact this
  subst hj'
  simp only [encU8, List.getElem?_cons_zero, Option.some.injEq] at hj
  subst hj
  have hi2 : b.data[i]? = some x := by
    rw [← Array.getElem?_toList]; exact hi
  have hi3 : i < b.data.size := hi'
  simp [bytesCells, ofs, encU8, Array.getElem?_append, hi2, hi3]
  intro h; omega
def CellsIn (h : Hp) (b : Nat) (vs : List Value) : Prop := ∃ (cs : Array Value) (T : TypeId) (fz : Nat × Nat), h b = some (.cells cs T fz) ∧ ∀ (j : Nat) (v : Value), vs[j]? = some v → cs[j]? = some v
theorem CellsIn.mono {h k : Hp} {b : Nat} {vs : List Value} (c : CellsIn h b vs) (hk : Hp.le h k) : CellsIn k b vs := let ⟨cs, T, fz, h1, h2⟩ := c; ⟨cs, T, fz, hk _ _ h1, h2⟩
theorem cellE.cellsIn {b : Nat} {cs : List Value} {T : TypeId} {w w' : World} (h : (cellE b cs T).holds w) (hx : Ext w w') : CellsIn (HL.hp w') b cs :=
  CellsIn.mono (h := HL.hp w) ⟨cs.toArray, T, (0, 0), h, fun j v hv => by simpa using hv⟩ hx.hp
theorem CellsIn.cell {h : Hp} {b : Nat} {vs : List Value} (c : CellsIn h b vs) {j : Nat} {v : Value} (hv : vs[j]? = some v) : Cell h b j v := let ⟨cs, T, fz, h1, h2⟩ := c; ⟨cs, T, fz, h1, h2 j v hv⟩
theorem QS.loadCA {x : Operand} {t : TypeId} {b k : Nat} {vs : List Value} (hx : opv M x = some (.pointer (some ⟨b, 0, none⟩))) (hc : CellsIn F.blk b vs) (hagg : ∀ w, (isAgg t).run P w = .ok true w) (hz : ∀ w, (sizeOf t).run P w = .ok k w) (hl : vs.length = k) :
    QS P N F L M ⟨dst, .load t x, ty, pos, after, g⟩ (.agg vs.toArray) :=
  QS.loadA hx hagg hz hl fun w hw j v hj => by
    rw [Nat.zero_add]; exact ((hc.mono hw.bg).cell hj).at
theorem QS.loadCF {x : Operand} {t : TypeId} {b o : Nat} {v : Value} {vs : List Value} (hx : opv M x = some (.pointer (some ⟨b, o, none⟩))) (hc : CellsIn F.blk b vs) (hagg : ∀ w, (isAgg t).run P w = .ok false w) (hv : vs[o]? = some v) :
    QS P N F L M ⟨dst, .load t x, ty, pos, after, g⟩ v :=
  QS.load1 hx hagg fun w hw => ((hc.mono hw.bg).cell hv).at
theorem Pick.refl : ∀ L : List Ent, Pick L L
  | [] => .nil _
  | e :: L => .cons (.here _) (Pick.refl L)
theorem NewEnts.row {α : Type} {w w' : World} {Ls : List Ent} {V : Value} {T : TypeId} {E : Enc α} {l : List α} (h : NewEnts w w' Ls) (hm : rowE V T E l ∈ Ls) : NewRow w w' T E l V :=
  ⟨h.ent _ hm, fun b hb => h.ge b (List.mem_filterMap.2 ⟨_, hm, hb⟩)⟩
/-- What a row's slice value is like. -/
theorem Tr.rowShape {α : Type} {V : Value} {T : TypeId} {E : Enc α} {l : List α} {X : Act → World → Prop} (hm : rowE V T E l ∈ L) (K : ∀ a c, V = .slice a l.length c → Tr N F L M X) : Tr N F L M X := by
  intro a w ha hw
  have hr : RowOK V T E l (V.ownBlock.bind (w.heap[·]?)) := hw.ent _ hm
  rcases hr with ⟨h1, h2⟩ | ⟨gb, cap, cur, h1, _⟩
  · exact K none 0 (by rw [h1, h2]; rfl) a w ha hw
  · exact K _ _ h1 a w ha hw
end
end Go.HL
namespace Go.HL
open Go
/-- A section, and where its bytes lie. -/
structure SecV where
  name : ByteArray
  addr : UInt32
  data : List UInt8
  dp : Option Addr
  dc : Nat
  wr : Bool
  ex : Bool
  deriving Inhabited
def encSec : Enc SecV := ⟨5, fun s => [.string s.name, .int .u32 s.addr.toNat, .slice s.dp s.data.length s.dc, .bool s.wr, .bool s.ex], fun _ => rfl,
  fun x v h => by simp at h; rcases h with h | h | h | h | h <;> subst h <;> rfl⟩
structure Sec where
  name : ByteArray
  addr : UInt32
  data : List UInt8
  wr : Bool
  ex : Bool
  deriving DecidableEq, Inhabited
def SecV.pl (s : SecV) : Sec := ⟨s.name, s.addr, s.data, s.wr, s.ex⟩
/-- The sections' bytes read. -/
def DataIn (h : Hp) (l : List SecV) : Prop := ∀ s ∈ l, Sl h encU8 s.data (.slice s.dp s.data.length s.dc)
theorem DataIn.mono {h h' : Hp} {l : List SecV} (d : DataIn h l) (hh : Hp.le h h') : DataIn h' l := fun s hs => (d s hs).mono hh
/-- Not too much. -/
def SecB (l : List SecV) : Prop := l.length ≤ 1000 ∧ ∀ s ∈ l, s.data.length ≤ 200000
theorem SecB.at {l : List SecV} (h : SecB l) {k : Nat} (hk : k < l.length) : (l.getD k default).data.length ≤ 200000 := h.2 _ (mem_getD hk)
def lowB (c : UInt8) : Bool := decide (c < 97) || decide (122 < c)
def uppB (c : UInt8) : Bool := decide (c < 65) || decide (90 < c)
def digB (c : UInt8) : Bool := decide (c < 48) || decide (57 < c)
/-- No sign of a name. -/
def badB (c : UInt8) : Bool := (((lowB c && uppB c) && digB c) && decide (c ≠ 95)) && decide (c ≠ 46)
def nameP (s : ByteArray) : Bool := !(bts s).any badB && (decide (1 ≤ (s.size : Int)) && decide ((s.size : Int) ≤ 32))
def endP (s : SecV) : Int := min ((s.addr.toNat : Int) + s.data.length) 4294967295
def spaceP (s : SecV) : Rng := ⟨s.addr, u32 (endP s)⟩
theorem endP_rng (s : SecV) : 0 ≤ endP s ∧ endP s ≤ 4294967295 := by unfold endP; omega
theorem u32_val {n : Int} (h : 0 ≤ n ∧ n ≤ 4294967295) : ((u32 n).toNat : Int) = n := by
  unfold u32; rw [UInt32.toNat_ofNat']; omega
theorem space_hi (s : SecV) : ((spaceP s).hi.toNat : Int) = endP s := u32_val (endP_rng s)
def inS (a : UInt32) (s : SecV) : Bool := inR a (spaceP s)
theorem inS_iff {a : UInt32} {s : SecV} : inS a s = true ↔ s.addr.toNat ≤ a.toNat ∧ (a.toNat : Int) < endP s := by
  have h := space_hi s
  simp only [inS, inR, Bool.and_eq_true, decide_eq_true_eq, UInt32.le_iff_toNat_le, UInt32.lt_iff_toNat_lt]
  have : (spaceP s).lo = s.addr := rfl
  rw [this]; omega
def findP (l : List SecV) (a : UInt32) : Int := idxP (inS a) 0 l
theorem idxP_bound {α : Type} (p : α → Bool) : ∀ (l : List α) (k : Nat), -1 ≤ idxP p k l ∧ idxP p k l < (k : Int) + l.length
  | [], k => by simp [idxP]; omega
  | x :: l, k => by
    unfold idxP
    split
    · simp; omega
    · have := idxP_bound p l (k + 1); simp; omega
theorem findP_lt {l : List SecV} {a : UInt32} : -1 ≤ findP l a ∧ findP l a < l.length := by
  have := idxP_bound (inS a) l 0; unfold findP; omega
theorem idxP_at {α : Type} [Inhabited α] (p : α → Bool) : ∀ (l : List α) (k : Nat), 0 ≤ idxP p k l → (k : Int) ≤ idxP p k l ∧ p (l.getD (idxP p k l - k).toNat default) = true
  | [], k, h => by simp [idxP] at h
  | x :: l, k, h => by
    unfold idxP at h ⊢
    split
    · rename_i hx; simp [hx]
    · rename_i hx
      rw [if_neg hx] at h
      obtain ⟨h1, h2⟩ := idxP_at p l (k + 1) h
      refine ⟨by omega, ?_⟩
      rw [show (idxP p (k + 1) l - (k : Int)).toNat = (idxP p (k + 1) l - ((k + 1 : Nat) : Int)).toNat + 1 by omega, List.getD_cons_succ]
      exact h2
theorem findP_in {l : List SecV} {a : UInt32} (h : 0 ≤ findP l a) : inS a (l.getD (findP l a).toNat default) = true := by
  have := (idxP_at (inS a) l 0 h).2
  rwa [Int.natCast_zero, Int.sub_zero] at this
/-- A list of sections made anew. -/
def SecsAt (h : Hp) (ls : List Sec) (V : Value) : Prop := ∃ l, Sl h encSec l V ∧ DataIn h l ∧ l.map SecV.pl = ls
theorem SecsAt.mono {h h' : Hp} {ls : List Sec} {V : Value} (s : SecsAt h ls V) (hh : Hp.le h h') : SecsAt h' ls V := let ⟨l, a, b, c⟩ := s; ⟨l, a.mono hh, b.mono hh, c⟩
def meetP (a b : Rng) : Bool := decide ((if a.lo < b.lo then b.lo else a.lo) < (if b.hi < a.hi then b.hi else a.hi))
def stackP : Rng := ⟨978944, 983040⟩
/-- The first error of a section after others. -/
def oneP (l : List SecV) (i : Nat) : Int :=
  let s := l.getD i default
  if (s.data.length : Int) > 65536 then 6 else if nameP s.name = false then 3 else if (l.take i).any (fun x => decide (x.name = s.name)) = true then 8
  else if (s.addr.toNat : Int) + s.data.length > 4294967295 ∨ meetP (spaceP s) stackP = true then 7 else 0
def firstP (f : Nat → Int) : Nat → Nat → Int
  | _, 0 => 0
  | i, n + 1 => if f i ≠ 0 then f i else firstP f (i + 1) n
def overP (l : List SecV) (i : Nat) : Bool := (l.take i).any fun x => meetP (spaceP x) (spaceP (l.getD i default))
def checkS (l : List SecV) : Int :=
  if (l.length : Int) > 16 then 6 else if firstP (oneP l) 0 l.length ≠ 0 then firstP (oneP l) 0 l.length
  else firstP (fun i => if overP l i = true then 10 else 0) 0 l.length
theorem any_take_succ {α : Type} [Inhabited α] {p : α → Bool} {l : List α} {k : Nat} (h : k < l.length) : (l.take (k + 1)).any p = ((l.take k).any p || p (l.getD k default)) := by
  rw [take_succ h, List.any_append]; simp
theorem any_take_all {α : Type} {p : α → Bool} {l : List α} {k : Nat} (h : l.length ≤ k) : (l.take k).any p = l.any p := by rw [List.take_of_length_le h]
theorem nameP_bad {s : ByteArray} {k : Nat} (hk : k < s.size) (hb : badB ((bts s).getD k default) = true) : nameP s = false := by
  have h1 : (bts s).any badB = true := List.any_eq_true.2 ⟨_, mem_getD (by rw [bts_len]; exact hk), hb⟩
  unfold nameP; rw [h1]; rfl
theorem nameP_end {s : ByteArray} {k : Nat} (hk : s.size ≤ k) (h : ((bts s).take k).any badB = false) : nameP s = (decide (1 ≤ (s.size : Int)) && decide ((s.size : Int) ≤ 32)) := by
  rw [any_take_all (by rw [bts_len]; exact hk)] at h
  unfold nameP; rw [h]; rfl
theorem firstP_hit {f : Nat → Int} {k n : Nat} (hn : 0 < n) (h : f k ≠ 0) : firstP f k n = f k := by
  obtain ⟨m, rfl⟩ : ∃ m, n = m + 1 := ⟨n - 1, by omega⟩
  unfold firstP; rw [if_pos h]
theorem firstP_next {f : Nat → Int} {k n : Nat} (hk : k < n) (h : f k = 0) : firstP f (k + 1) (n - (k + 1)) = firstP f k (n - k) := by
  obtain ⟨m, hm⟩ : ∃ m, n - k = m + 1 := ⟨n - k - 1, by omega⟩
  rw [hm, show n - (k + 1) = m by omega]
  conv => rhs; unfold firstP
  rw [if_neg (by simp [h])]
theorem check_0 {l : List SecV} (h : (16 : Int) < l.length) : checkS l = 6 := by unfold checkS; rw [if_pos h]
theorem check_1 {l : List SecV} {k : Nat} {v : Int} (hl : ¬ (16 : Int) < l.length) (hk : k < l.length) (hi : firstP (oneP l) k (l.length - k) = firstP (oneP l) 0 l.length) (h : oneP l k = v) (hv : v ≠ 0) : checkS l = v := by
  rw [firstP_hit (by omega) (by rw [h]; exact hv), h] at hi
  unfold checkS; rw [if_neg hl, ← hi, if_pos hv]
theorem check_2 {l : List SecV} {k : Nat} (hl : ¬ (16 : Int) < l.length) (h1 : firstP (oneP l) 0 l.length = 0) (hk : k < l.length) (hi : firstP (fun i => if overP l i = true then 10 else 0) k (l.length - k) = firstP (fun i => if overP l i = true then 10 else 0) 0 l.length) (h : overP l k = true) : checkS l = 10 := by
  rw [firstP_hit (by omega) (by rw [if_pos h]; decide), if_pos h] at hi
  unfold checkS; rw [if_neg hl, if_neg (by simp [h1]), ← hi]
theorem check_3 {l : List SecV} (hl : ¬ (16 : Int) < l.length) (h1 : firstP (oneP l) 0 l.length = 0) (h2 : firstP (fun i => if overP l i = true then 10 else 0) 0 l.length = 0) : checkS l = 0 := by
  unfold checkS; rw [if_neg hl, if_neg (by simp [h1]), h2]
theorem firstP_zero {f : Nat → Int} {k n : Nat} (hk : n ≤ k) : firstP f k (n - k) = 0 := by rw [show n - k = 0 by omega]; rfl
theorem SecsAt.nil {h : Hp} : SecsAt h [] (.slice none 0 0) := ⟨[], Sl.nil _ _, fun s hs => (by simp at hs), rfl⟩
end Go.HL
namespace Go.Proofs.Ytpeaodkfbjenpaa
open Go Go.HL Go.RowKit
set_option maxRecDepth 100000 in
set_option maxHeartbeats 2000000 in
theorem name_any (s : ByteArray) (w : World) (hs : s.size ≤ 9223372036854775807) :
  Calls Try.prog 52 #[.string s] w (fun e w' => e = .returned (.bool (nameP s)) ∧ Ext w w') := by
 have hbl := bts_len s
 refine enter Try.func52 rfl Try.ntmps52 rfl ?_
 refine Tr.seq (Tr.region ?_)
 refine Tr.q (QS.assign rfl) rfl ?_
 refine Tr.nil (Tr.thenN (Tr.seq (Tr.seq (Tr.region ?_))))
 refine Tr.q (QS.move rfl) rfl ?_
 refine Tr.strBytes rfl Try.underlying9 Try.underlying78 Try.underlying5 (by unfold maxLen; omega) rfl (fun V1 F1 hF1 hV1 => ?_)
 refine Tr.q (QS.len rfl (by assumption) Try.underlying78) rfl ?_
 refine Tr.q (QS.move rfl) rfl ?_
 refine Tr.nil (Tr.thenN (Tr.block ?_))
 refine Tr.loop (ι := Nat) (fun k => k ≤ s.size ∧ ((bts s).take k).any badB = false) (fun _ => _) (fun k => []) (fun k => [(8, .int .i64 (k : Nat))]) (fun k => s.size - k) 0 ⟨Nat.zero_le _, rfl⟩ (.cons (by first | rfl | exact lookI rfl (by omega) | exact lookI rfl (by simp) | exact lookB rfl (by simp)) Front.nil) (by repeat' constructor) rfl (fun k hi m hm => ?_)
 replace hi : k ≤ s.size ∧ ((bts s).take k).any badB = false := hi
 replace hm : m = s.size - k := hm
 change Tr _ _ [] ([(8, .int .i64 (k : Nat))] ++ _) _
 obtain ⟨hk1, hk2⟩ := hi
 refine Tr.seq (Tr.region ?_)
 refine Tr.q (QS.lss rfl rfl) rfl ?_
 refine Tr.nil (Tr.thenN (Tr.seq ?_))
 refine Tr.cond rfl (fun h2 => ?_) (fun h2 => ?_)
 ·try simp only [bs] at h2
  refine Tr.skip (Tr.thenN (Tr.seq (Tr.block (Tr.seq (Tr.region ?_)))))
  refine Tr.q (QS.idxN rfl rfl (by assumption) Try.underlying78 Try.sizeOf5 (by rfl) (by omega)) rfl ?_
  refine Tr.q (QS.el1 rfl (by assumption) Try.isAgg5 (by omega) (by rfl)) rfl ?_
  refine Tr.q (QS.assign rfl) rfl ?_
  refine Tr.nil (Tr.thenN (Tr.seq (Tr.region ?_)))
  refine Tr.q (QS.move rfl) rfl ?_
  refine Tr.q (QS.lss8 (n := 97) rfl rfl) rfl ?_
  refine Tr.q (QS.move rfl) rfl ?_
  apply Tr.orP
  ·exact (rfl : _ = (3, 14, 17))
  ·exact rfl
  ·intro hF3; have hF3' := hF3
   try simp only [bs] at hF3'
   refine Tr.gq rfl rfl hF3 (QS.move rfl) rfl ?_
   refine Tr.gq rfl rfl hF3 (QS.gtr8 (n := 122) rfl rfl) rfl ?_
   refine Tr.q (QS.pickF rfl hF3 rfl) rfl ?_
   refine Tr.nil (Tr.thenN ?_)
   exact Tr.endX (Sub.cons rfl (Sub.dropN 3 (by kernel_rfl) rfl))
  ·intro hT3
   refine Tr.gskip rfl rfl hT3 rfl ?_
   refine Tr.gskip rfl rfl hT3 rfl ?_
   refine Tr.q (QS.pickT rfl hT3 rfl) rfl ?_
   refine Tr.nil (Tr.thenN ?_)
   exact Tr.endX (Sub.cons rfl (Sub.dropN 3 (by kernel_rfl) rfl))
  refine Tr.q (QS.move rfl) rfl ?_
  apply Tr.andP
  ·exact (rfl : _ = (7, 18, 25))
  ·exact rfl
  ·intro hT4; have hT4' := hT4
   try simp only [bs] at hT4'
   refine Tr.gq rfl rfl hT4 (QS.move rfl) rfl ?_
   refine Tr.gq rfl rfl hT4 (QS.lss8 (n := 65) rfl rfl) rfl ?_
   refine Tr.gq rfl rfl hT4 (QS.move rfl) rfl ?_
   apply Tr.orP
   ·exact (rfl : _ = (3, 21, 24))
   ·exact rfl
   ·intro hF5; have hF5' := hF5
    try simp only [bs] at hF5'
    refine Tr.gq rfl rfl hF5 (QS.move rfl) rfl ?_
    refine Tr.gq rfl rfl hF5 (QS.gtr8 (n := 90) rfl rfl) rfl ?_
    refine Tr.gq rfl rfl hT4 (QS.pickF rfl hF5 rfl) rfl ?_
    refine Tr.nil (Tr.thenN ?_)
    exact Tr.endX (Sub.cons rfl (Sub.dropN 3 (by kernel_rfl) rfl))
   ·intro hT5
    refine Tr.gskip rfl rfl hT5 rfl ?_
    refine Tr.gskip rfl rfl hT5 rfl ?_
    refine Tr.gq rfl rfl hT4 (QS.pickT rfl hT5 rfl) rfl ?_
    refine Tr.nil (Tr.thenN ?_)
    exact Tr.endX (Sub.cons rfl (Sub.dropN 3 (by kernel_rfl) rfl))
   refine Tr.q (QS.pickT rfl hT4 rfl) rfl ?_
   refine Tr.nil (Tr.thenN ?_)
   exact Tr.endX (Sub.cons rfl (Sub.dropN 5 (by kernel_rfl) rfl))
  ·intro hF4
   refine Tr.gskip rfl rfl hF4 rfl ?_
   refine Tr.gskip rfl rfl hF4 rfl ?_
   refine Tr.gskip rfl rfl hF4 rfl ?_
   refine Tr.gskipU rfl rfl rfl ?_
   refine Tr.gskipU rfl rfl rfl ?_
   refine Tr.gskip rfl rfl hF4 rfl ?_
   refine Tr.q (QS.pickF rfl hF4 rfl) rfl ?_
   refine Tr.nil (Tr.thenN ?_)
   exact Tr.endX (Sub.cons rfl (Sub.dropN 7 (by kernel_rfl) rfl))
  refine Tr.q (QS.move rfl) rfl ?_
  apply Tr.andP
  ·exact (rfl : _ = (7, 26, 33))
  ·exact rfl
  ·intro hT6; have hT6' := hT6
   try simp only [bs] at hT6'
   refine Tr.gq rfl rfl hT6 (QS.move rfl) rfl ?_
   refine Tr.gq rfl rfl hT6 (QS.lss8 (n := 48) rfl rfl) rfl ?_
   refine Tr.gq rfl rfl hT6 (QS.move rfl) rfl ?_
   apply Tr.orP
   ·exact (rfl : _ = (3, 29, 32))
   ·exact rfl
   ·intro hF7; have hF7' := hF7
    try simp only [bs] at hF7'
    refine Tr.gq rfl rfl hF7 (QS.move rfl) rfl ?_
    refine Tr.gq rfl rfl hF7 (QS.gtr8 (n := 57) rfl rfl) rfl ?_
    refine Tr.gq rfl rfl hT6 (QS.pickF rfl hF7 rfl) rfl ?_
    refine Tr.nil (Tr.thenN ?_)
    exact Tr.endX (Sub.cons rfl (Sub.dropN 3 (by kernel_rfl) rfl))
   ·intro hT7
    refine Tr.gskip rfl rfl hT7 rfl ?_
    refine Tr.gskip rfl rfl hT7 rfl ?_
    refine Tr.gq rfl rfl hT6 (QS.pickT rfl hT7 rfl) rfl ?_
    refine Tr.nil (Tr.thenN ?_)
    exact Tr.endX (Sub.cons rfl (Sub.dropN 3 (by kernel_rfl) rfl))
   refine Tr.q (QS.pickT rfl hT6 rfl) rfl ?_
   refine Tr.nil (Tr.thenN ?_)
   exact Tr.endX (Sub.cons rfl (Sub.dropN 5 (by kernel_rfl) rfl))
  ·intro hF6
   refine Tr.gskip rfl rfl hF6 rfl ?_
   refine Tr.gskip rfl rfl hF6 rfl ?_
   refine Tr.gskip rfl rfl hF6 rfl ?_
   refine Tr.gskipU rfl rfl rfl ?_
   refine Tr.gskipU rfl rfl rfl ?_
   refine Tr.gskip rfl rfl hF6 rfl ?_
   refine Tr.q (QS.pickF rfl hF6 rfl) rfl ?_
   refine Tr.nil (Tr.thenN ?_)
   exact Tr.endX (Sub.cons rfl (Sub.dropN 7 (by kernel_rfl) rfl))
  refine Tr.q (QS.move rfl) rfl ?_
  apply Tr.andP
  ·exact (rfl : _ = (3, 34, 37))
  ·exact rfl
  ·intro hT8; have hT8' := hT8
   try simp only [bs] at hT8'
   refine Tr.gq rfl rfl hT8 (QS.move rfl) rfl ?_
   refine Tr.gq rfl rfl hT8 (QS.neq8 (n := 95) rfl rfl) rfl ?_
   refine Tr.q (QS.pickT rfl hT8 rfl) rfl ?_
   refine Tr.nil (Tr.thenN ?_)
   exact Tr.endX (Sub.cons rfl (Sub.dropN 3 (by kernel_rfl) rfl))
  ·intro hF8
   refine Tr.gskip rfl rfl hF8 rfl ?_
   refine Tr.gskip rfl rfl hF8 rfl ?_
   refine Tr.q (QS.pickF rfl hF8 rfl) rfl ?_
   refine Tr.nil (Tr.thenN ?_)
   exact Tr.endX (Sub.cons rfl (Sub.dropN 3 (by kernel_rfl) rfl))
  refine Tr.q (QS.move rfl) rfl ?_
  apply Tr.andP
  ·exact (rfl : _ = (3, 38, 41))
  ·exact rfl
  ·intro hT9; have hT9' := hT9
   try simp only [bs] at hT9'
   refine Tr.gq rfl rfl hT9 (QS.move rfl) rfl ?_
   refine Tr.gq rfl rfl hT9 (QS.neq8 (n := 46) rfl rfl) rfl ?_
   refine Tr.q (QS.pickT rfl hT9 rfl) rfl ?_
   refine Tr.nil (Tr.thenN ?_)
   exact Tr.endX (Sub.cons rfl (Sub.dropN 3 (by kernel_rfl) rfl))
  ·intro hF9
   refine Tr.gskip rfl rfl hF9 rfl ?_
   refine Tr.gskip rfl rfl hF9 rfl ?_
   refine Tr.q (QS.pickF rfl hF9 rfl) rfl ?_
   refine Tr.nil (Tr.thenN ?_)
   exact Tr.endX (Sub.cons rfl (Sub.dropN 3 (by kernel_rfl) rfl))
  refine Tr.nil (Tr.thenN ?_)
  refine Tr.cond rfl (fun h10 => ?_) (fun h10 => ?_)
  ·try simp only [bs] at h10
   refine Tr.seq (Tr.region ?_)
   refine Tr.q (QS.assign rfl) rfl ?_
   refine Tr.nil (Tr.thenN (Tr.ret ?_))
   refine Tr.inR ?_
   refine Tr.thenR (Tr.thenR ?_)
   refine Tr.inR ?_
   refine Tr.thenR ?_
   refine Tr.ret1 Try.results52 rfl (fun w' hw => ?_)
   have hbad : badB ((bts s).getD k default) = true := by simp only [badB, lowB, uppB, digB, bs]; assumption
   exact ⟨by rw [nameP_bad (by omega) hbad], hw.below hF1⟩
  ·try simp only [bs] at h10
   refine Tr.skip (Tr.inN (Tr.thenN (Tr.region ?_)))
   refine Tr.q (QS.addI rfl rfl (by omega)) rfl ?_
   refine Tr.q (QS.move rfl) rfl ?_
   refine Tr.nil (Tr.thenN ?_)
   have hbad : badB ((bts s).getD k default) = false := by simp only [badB, lowB, uppB, digB, bs]; assumption
   apply Tr.again (k + 1)
   ·exact rfl
   ·exact (.cons (by first | rfl | exact lookI rfl (by omega) | exact lookI rfl (by simp) | exact lookB rfl (by simp)) Front.nil)
   ·exact SubX.dropN 19 (by kernel_rfl) rfl
   ·exact (by repeat' constructor)
   ·exact ⟨by omega, by rw [any_take_succ (by omega), hk2, hbad]; rfl⟩
   ·exact (by (try dsimp only); omega)
 ·try simp only [bs] at h2
  refine Tr.exit ?_
  refine Tr.thenE (Tr.thenE (Tr.inHit (Tr.thenN (Tr.seq (Tr.region ?_)))))
  refine Tr.q (QS.move rfl) rfl ?_
  refine Tr.q (QS.lenStr rfl Try.underlying9) rfl ?_
  refine Tr.q (QS.geq rfl rfl) rfl ?_
  refine Tr.q (QS.move rfl) rfl ?_
  apply Tr.andP
  ·exact (rfl : _ = (4, 46, 50))
  ·exact rfl
  ·intro hT11; have hT11' := hT11
   try simp only [bs] at hT11'
   refine Tr.gq rfl rfl hT11 (QS.move rfl) rfl ?_
   refine Tr.gq rfl rfl hT11 (QS.lenStr rfl Try.underlying9) rfl ?_
   refine Tr.gq rfl rfl hT11 (QS.leq rfl rfl) rfl ?_
   refine Tr.q (QS.pickT rfl hT11 rfl) rfl ?_
   refine Tr.nil (Tr.thenN ?_)
   exact Tr.endX (Sub.cons rfl (Sub.dropN 4 (by kernel_rfl) rfl))
  ·intro hF11
   refine Tr.gskip rfl rfl hF11 rfl ?_
   refine Tr.gskip rfl rfl hF11 rfl ?_
   refine Tr.gskip rfl rfl hF11 rfl ?_
   refine Tr.q (QS.pickF rfl hF11 rfl) rfl ?_
   refine Tr.nil (Tr.thenN ?_)
   exact Tr.endX (Sub.cons rfl (Sub.dropN 4 (by kernel_rfl) rfl))
  refine Tr.q (QS.assign rfl) rfl ?_
  refine Tr.nil (Tr.thenN (Tr.ret ?_))
  refine Tr.ret1 Try.results52 rfl (fun w' hw => ?_)
  exact ⟨by rw [nameP_end (by omega) hk2], hw.below hF1⟩
set_option maxRecDepth 100000 in
set_option maxHeartbeats 2000000 in
theorem space_any (s : SecV) (w : World) (hs : s.data.length ≤ 200000) :
  Calls Try.prog 54 #[.agg (encSec.enc s).toArray] w (fun e w' => e = .returned (.agg (encRng.enc (spaceP s)).toArray) ∧ Ext w w') := by
 have hadr := s.addr.toNat_lt
 refine enter Try.func54 rfl Try.ntmps54 rfl ?_
 refine Tr.seq (Tr.region ?_)
 refine Tr.box rfl rfl rfl (fun b1 => ?_)
 refine Tr.alloc Try.zeroValue104 rfl rfl (fun b2 => ?_)
 refine Tr.nil (Tr.thenN (Tr.seq (Tr.region ?_)))
 refine Tr.q (QS.fieldAddr (off := 1) (ft := 22) rfl Try.underlying80 rfl rfl Try.sizeOf22 (by decide)) rfl ?_
 refine Tr.q (QS.lV rfl Try.isAgg22) rfl ?_
 refine Tr.q (QS.cvt32toU rfl Try.underlying22 Try.underlying81) rfl ?_
 refine Tr.q (QS.fieldAddr (off := 2) (ft := 78) rfl Try.underlying80 rfl rfl Try.sizeOf78 (by decide)) rfl ?_
 refine Tr.q (QS.lV rfl Try.isAgg78) rfl ?_
 refine Tr.q (QS.lenNil rfl Try.underlying78) rfl ?_
 refine Tr.q (QS.cvtIn rfl Try.underlying3 Try.underlying81 (IntWalk.u64_in _ (by omega))) rfl ?_
 refine Tr.q (QS.addU rfl rfl (by omega)) rfl ?_
 refine Tr.q (QS.assign rfl) rfl ?_
 refine Tr.nil (Tr.thenN (Tr.seq (Tr.region ?_)))
 refine Tr.q (QS.fieldAddr (off := 1) (ft := 22) rfl Try.underlying80 rfl rfl Try.sizeOf22 (by decide)) rfl ?_
 refine Tr.q (QS.lV rfl Try.isAgg22) rfl ?_
 refine Tr.q (QS.move rfl) rfl ?_
 refine Tr.q (QS.min2 rfl rfl) rfl ?_
 refine Tr.q (QS.cvtTo32 rfl Try.underlying81 Try.underlying22) rfl ?_
 refine Tr.q (QS.build (vs := [(0, _), (1, _)]) rfl rfl (HLF.built104_0_1 _ _)) rfl ?_
 refine Tr.storeW rfl rfl Try.sizeOf104 (by repeat constructor) (by rfl) (by rfl) (by first | exact List.all_eq_true.1 rfl | exact Enc.one _ _ | exact Enc.one encRng _) rfl ?_
 refine Tr.nil (Tr.thenN (Tr.ret ?_))
 refine Tr.retC1 Try.results54 rfl (by repeat constructor) Try.isAgg104 Try.sizeOf104 (by rfl) (fun w' hw => ?_)
 exact ⟨rfl, hw.below (Bg.le.refl _)⟩
set_option maxRecDepth 100000 in
set_option maxHeartbeats 2000000 in
theorem stack_any (w : World) :
  Calls Try.prog 55 #[] w (fun e w' => e = .returned (.agg (encRng.enc stackP).toArray) ∧ Ext w w') := by
 refine enter Try.func55 rfl Try.ntmps55 rfl ?_
 refine Tr.seq (Tr.region ?_)
 refine Tr.alloc Try.zeroValue104 rfl rfl (fun b1 => ?_)
 refine Tr.nil (Tr.thenN (Tr.seq (Tr.region ?_)))
 refine Tr.q (QS.build (vs := [(0, _), (1, _)]) rfl rfl (HLF.built104_0_1 _ _)) rfl ?_
 refine Tr.storeW rfl rfl Try.sizeOf104 (by repeat constructor) (by rfl) (by rfl) (by first | exact List.all_eq_true.1 rfl | exact Enc.one _ _ | exact Enc.one encRng _) rfl ?_
 refine Tr.nil (Tr.thenN (Tr.ret ?_))
 refine Tr.retC1 Try.results55 rfl (by repeat constructor) Try.isAgg104 Try.sizeOf104 (by rfl) (fun w' hw => ?_)
 exact ⟨rfl, hw.below (Bg.le.refl _)⟩
set_option maxRecDepth 100000 in
set_option maxHeartbeats 2000000 in
theorem meet_any (a b : Rng) (w : World) :
  Calls Try.prog 53 #[.agg (encRng.enc a).toArray, .agg (encRng.enc b).toArray] w (fun e w' => e = .returned (.bool (meetP a b)) ∧ Ext w w') := by
 refine enter Try.func53 rfl Try.ntmps53 rfl ?_
 refine Tr.seq (Tr.region ?_)
 refine Tr.box rfl rfl rfl (fun b1 => ?_)
 refine Tr.box rfl rfl rfl (fun b2 => ?_)
 refine Tr.q (QS.assign rfl) rfl ?_
 refine Tr.nil (Tr.thenN (Tr.seq (Tr.region ?_)))
 refine Tr.q (QS.fieldAddr (off := 0) (ft := 22) rfl Try.underlying104 rfl rfl Try.sizeOf22 (by decide)) rfl ?_
 refine Tr.q (QS.lV rfl Try.isAgg22) rfl ?_
 refine Tr.q (QS.fieldAddr (off := 0) (ft := 22) rfl Try.underlying104 rfl rfl Try.sizeOf22 (by decide)) rfl ?_
 refine Tr.q (QS.lV rfl Try.isAgg22) rfl ?_
 refine Tr.q (QS.max32 rfl rfl) rfl ?_
 refine Tr.q (QS.fieldAddr (off := 1) (ft := 22) rfl Try.underlying104 rfl rfl Try.sizeOf22 (by decide)) rfl ?_
 refine Tr.q (QS.lV rfl Try.isAgg22) rfl ?_
 refine Tr.q (QS.fieldAddr (off := 1) (ft := 22) rfl Try.underlying104 rfl rfl Try.sizeOf22 (by decide)) rfl ?_
 refine Tr.q (QS.lV rfl Try.isAgg22) rfl ?_
 refine Tr.q (QS.min32 rfl rfl) rfl ?_
 refine Tr.q (QS.lss32 rfl rfl) rfl ?_
 refine Tr.q (QS.assign rfl) rfl ?_
 refine Tr.nil (Tr.thenN (Tr.ret ?_))
 refine Tr.ret1 Try.results53 rfl (fun w' hw => ?_)
 exact ⟨rfl, hw.below (Bg.le.refl _)⟩
set_option maxRecDepth 100000 in
set_option maxHeartbeats 2000000 in
theorem check1_any (x s : SecV) (b : Nat) (w : World) (hc : CellsIn (hp w) b (encSec.enc s)) :
  Calls Try.prog 51 #[.agg (encSec.enc x).toArray, .pointer (some ⟨b, 0, none⟩)] w (fun e w' => e = .returned (.bool (decide (x.name = s.name))) ∧ Ext w w') := by
 have hc' : CellsIn (Bg.of w).blk b (encSec.enc s) := hc
 refine enter Try.func51 rfl Try.ntmps51 rfl ?_
 refine Tr.seq (Tr.region ?_)
 refine Tr.box rfl rfl rfl (fun b1 => ?_)
 refine Tr.q (QS.assign rfl) rfl ?_
 refine Tr.nil (Tr.thenN (Tr.seq (Tr.region ?_)))
 refine Tr.q (QS.fieldAddr (off := 0) (ft := 9) rfl Try.underlying80 rfl rfl Try.sizeOf9 (by decide)) rfl ?_
 refine Tr.q (QS.lV rfl Try.isAgg9) rfl ?_
 refine Tr.q (QS.fieldAddr (off := 0) (ft := 9) rfl Try.underlying80 rfl rfl Try.sizeOf9 (by decide)) rfl ?_
 refine Tr.q (QS.loadCF rfl (by assumption) Try.isAgg9 (by rfl)) rfl ?_
 refine Tr.q (QS.str_eql rfl rfl) rfl ?_
 refine Tr.q (QS.assign rfl) rfl ?_
 refine Tr.nil (Tr.thenN (Tr.ret ?_))
 refine Tr.ret1 Try.results51 rfl (fun w' hw => ?_)
 exact ⟨rfl, hw.below (Bg.le.refl _)⟩
set_option maxRecDepth 100000 in
set_option maxHeartbeats 2000000 in
theorem check2_any (x s : SecV) (b : Nat) (w : World) (hc : CellsIn (hp w) b (encSec.enc s)) (hx : x.data.length ≤ 200000) (hs : s.data.length ≤ 200000) :
  Calls Try.prog 56 #[.agg (encSec.enc x).toArray, .pointer (some ⟨b, 0, none⟩)] w (fun e w' => e = .returned (.bool (meetP (spaceP x) (spaceP s))) ∧ Ext w w') := by
 have hc' : CellsIn (Bg.of w).blk b (encSec.enc s) := hc
 refine enter Try.func56 rfl Try.ntmps56 rfl ?_
 refine Tr.seq (Tr.region ?_)
 refine Tr.box rfl rfl rfl (fun b1 => ?_)
 refine Tr.q (QS.assign rfl) rfl ?_
 refine Tr.nil (Tr.thenN (Tr.seq ?_))
 refine Tr.regionQ HLF.mixed (by kernel_rfl) ?_
 refine TrQ.q (QS.lW rfl Try.isAgg80 Try.sizeOf80) rfl ?_
 refine TrQ.q (QS.call rfl Try.call54 (fun w hw => space_any x w hx)) rfl ?_
 refine TrQ.q (QS.loadCA rfl (by assumption) Try.isAgg80 Try.sizeOf80 (by rfl)) rfl ?_
 refine TrQ.q (QS.call rfl Try.call54 (fun w hw => space_any s w hs)) rfl ?_
 refine TrQ.q (QS.call rfl Try.call53 (fun w hw => meet_any (spaceP x) (spaceP s) w)) rfl ?_
 refine TrQ.q (QS.assign rfl) rfl ?_
 refine TrQ.nil ?_
 refine Tr.thenN (Tr.ret ?_)
 refine Tr.ret1 Try.results56 rfl (fun w' hw => ?_)
 exact ⟨rfl, hw.below (Bg.le.refl _)⟩
set_option maxRecDepth 100000 in
set_option maxHeartbeats 2000000 in
theorem indexFunc_sec (l : List SecV) (V : Value) (g : FuncId) (cb : List Value) (w : World) (hV : Sl (hp w) encSec l V) (eg : ∀ args w, (callFunc g args).run Try.prog w = .ok (.enter g args) w) (p : SecV → Bool) (hp : ∀ x, x ∈ l → ∀ w', Ext w w' → Calls Try.prog g ([Value.agg (encSec.enc x).toArray] ++ cb).toArray w' fun e w'' => e = .returned (.bool (p x)) ∧ Ext w' w'') :
  Calls Try.prog 67 #[V, .func (.func g) #[] cb.toArray] w (fun e w' => e = .returned (.int .i64 (idxP p 0 l)) ∧ Ext w w') := by
 have hV' : Sl (Bg.of w).blk encSec l V := hV
 have hlen := hV.len_le
 refine enter Try.func67 rfl Try.ntmps67 rfl ?_
 refine Tr.seq (Tr.region ?_)
 refine Tr.q (QS.assign rfl) rfl ?_
 refine Tr.nil (Tr.thenN (Tr.seq (Tr.seq (Tr.region ?_))))
 refine Tr.q (QS.move rfl) rfl ?_
 refine Tr.q (QS.len rfl (by assumption) Try.underlying64) rfl ?_
 refine Tr.q (QS.move rfl) rfl ?_
 refine Tr.nil (Tr.thenN (Tr.block ?_))
 refine Tr.loop (ι := Nat) (fun k => k ≤ l.length ∧ idxP p k (l.drop k) = idxP p 0 l) (fun _ => _) (fun k => []) (fun k => [(8, .int .i64 (k : Nat))]) (fun k => l.length - k) 0 ⟨Nat.zero_le _, rfl⟩ (.cons (by first | rfl | exact lookI rfl (by omega) | exact lookI rfl (by simp) | exact lookB rfl (by simp)) Front.nil) (by repeat' constructor) rfl (fun k hi m hm => ?_)
 replace hi : k ≤ l.length ∧ idxP p k (l.drop k) = idxP p 0 l := hi
 replace hm : m = l.length - k := hm
 change Tr _ _ [] ([(8, .int .i64 (k : Nat))] ++ _) _
 obtain ⟨hk1, hk2⟩ := hi
 refine Tr.seq (Tr.region ?_)
 refine Tr.q (QS.lss rfl rfl) rfl ?_
 refine Tr.nil (Tr.thenN (Tr.seq ?_))
 refine Tr.cond rfl (fun h1 => ?_) (fun h1 => ?_)
 ·try simp only [bs] at h1
  refine Tr.skip (Tr.thenN (Tr.seq (Tr.block (Tr.seq (Tr.region ?_)))))
  refine Tr.q (QS.move rfl) rfl ?_
  refine Tr.q (QS.assign rfl) rfl ?_
  refine Tr.nil (Tr.thenN (Tr.seq (Tr.region ?_)))
  refine Tr.q (QS.move rfl) rfl ?_
  refine Tr.q (QS.move rfl) rfl ?_
  refine Tr.q (QS.move rfl) rfl ?_
  refine Tr.q (QS.idxN rfl rfl (by assumption) Try.underlying64 Try.sizeOf80 (by rfl) (by omega)) rfl ?_
  refine Tr.q (QS.elA rfl (by assumption) Try.isAgg80 Try.sizeOf80 (by rfl) (by omega)) rfl ?_
  refine Tr.q (QS.callV rfl rfl eg (fun w hw => hp _ (mem_getD (by omega)) w (hw.below (Bg.le.refl _)))) rfl ?_
  refine Tr.nil (Tr.thenN ?_)
  refine Tr.cond rfl (fun h2 => ?_) (fun h2 => ?_)
  ·try simp only [bs] at h2
   refine Tr.seq (Tr.region ?_)
   refine Tr.q (QS.move rfl) rfl ?_
   refine Tr.q (QS.assign rfl) rfl ?_
   refine Tr.nil (Tr.thenN (Tr.ret ?_))
   refine Tr.inR ?_
   refine Tr.thenR (Tr.thenR ?_)
   refine Tr.inR ?_
   refine Tr.thenR ?_
   refine Tr.ret1 Try.results67 rfl (fun w' hw => ?_)
   exact ⟨by rw [← hk2, drop_cons (k := k) (by omega), idxP, if_pos (by assumption)], hw.below (Bg.le.refl _)⟩
  ·try simp only [bs] at h2
   refine Tr.skip (Tr.inN (Tr.thenN (Tr.region ?_)))
   refine Tr.q (QS.addI rfl rfl (by omega)) rfl ?_
   refine Tr.q (QS.move rfl) rfl ?_
   refine Tr.nil (Tr.thenN ?_)
   apply Tr.again (k + 1)
   ·exact rfl
   ·exact (.cons (by first | rfl | exact lookI rfl (by omega) | exact lookI rfl (by simp) | exact lookB rfl (by simp)) Front.nil)
   ·exact SubX.dropN 12 (by kernel_rfl) rfl
   ·exact (by repeat' constructor)
   ·exact ⟨by omega, by rw [← hk2, drop_cons (k := k) (by omega), idxP, if_neg (by simp_all)]⟩
   ·exact (by (try dsimp only); omega)
 ·try simp only [bs] at h1
  refine Tr.exit ?_
  refine Tr.thenE (Tr.thenE (Tr.inHit (Tr.thenN (Tr.seq (Tr.region ?_)))))
  refine Tr.q (QS.assign rfl) rfl ?_
  refine Tr.nil (Tr.thenN (Tr.ret ?_))
  refine Tr.ret1 Try.results67 rfl (fun w' hw => ?_)
  exact ⟨by rw [← hk2, List.drop_of_length_le (by omega)]; rfl, hw.below (Bg.le.refl _)⟩
set_option maxRecDepth 100000 in
set_option maxHeartbeats 2000000 in
theorem containsFunc_sec (l : List SecV) (V : Value) (g : FuncId) (cb : List Value) (w : World) (hV : Sl (hp w) encSec l V) (eg : ∀ args w, (callFunc g args).run Try.prog w = .ok (.enter g args) w) (p : SecV → Bool) (hp : ∀ x, x ∈ l → ∀ w', Ext w w' → Calls Try.prog g ([Value.agg (encSec.enc x).toArray] ++ cb).toArray w' fun e w'' => e = .returned (.bool (p x)) ∧ Ext w' w'') :
  Calls Try.prog 50 #[V, .func (.func g) #[] cb.toArray] w (fun e w' => e = .returned (.bool (l.any p)) ∧ Ext w w') := by
 refine enter Try.func50 rfl Try.ntmps50 rfl ?_
 refine Tr.seq (Tr.region ?_)
 refine Tr.q (QS.assign rfl) rfl ?_
 refine Tr.nil (Tr.thenN (Tr.seq (Tr.region ?_)))
 refine Tr.q (QS.move rfl) rfl ?_
 refine Tr.q (QS.move rfl) rfl ?_
 refine Tr.q (QS.call rfl Try.call67 (fun w hw => indexFunc_sec l V g cb w (hw.slF hV) eg p (fun x hx w'' h => hp x hx w'' ((hw.below (Bg.le.refl _)).trans h)))) rfl ?_
 refine Tr.q (QS.geq rfl rfl) rfl ?_
 refine Tr.q (QS.assign rfl) rfl ?_
 refine Tr.nil (Tr.thenN (Tr.ret ?_))
 refine Tr.ret1 Try.results50 rfl (fun w' hw => ?_)
 exact ⟨by rw [idxP_any], hw.below (Bg.le.refl _)⟩
set_option maxRecDepth 100000 in
set_option maxHeartbeats 2000000 in
theorem check_sec (l : List SecV) (V : Value) (w : World) (hV : Sl (hp w) encSec l V) (hB : SecB l) (hN : ∀ s ∈ l, s.name.size ≤ 9223372036854775807) :
  Calls Try.prog 32 #[V] w (fun e w' => e = .returned (.int .i64 (checkS l)) ∧ Ext w w') := by
 have hV' : Sl (Bg.of w).blk encSec l V := hV
 have hlen := hB.1
 refine enter Try.func32 rfl Try.ntmps32 rfl ?_
 refine Tr.seq (Tr.region ?_)
 refine Tr.q (QS.assign rfl) rfl ?_
 refine Tr.nil (Tr.thenN (Tr.seq (Tr.seq (Tr.region ?_))))
 refine Tr.q (QS.move rfl) rfl ?_
 refine Tr.q (QS.len rfl (by assumption) Try.underlying64) rfl ?_
 refine Tr.q (QS.gtr rfl rfl) rfl ?_
 refine Tr.nil (Tr.thenN ?_)
 refine Tr.cond rfl (fun h1 => ?_) (fun h1 => ?_)
 ·try simp only [bs] at h1
  refine Tr.seq (Tr.region ?_)
  refine Tr.q (QS.assign rfl) rfl ?_
  refine Tr.nil (Tr.thenN (Tr.ret (Tr.thenR ?_)))
  refine Tr.ret1 Try.results32 rfl (fun w' hw => ?_)
  exact ⟨by rw [check_0 (by assumption)], hw.below (Bg.le.refl _)⟩
 ·try simp only [bs] at h1
  refine Tr.skip (Tr.thenN (Tr.seq (Tr.seq (Tr.region ?_))))
  refine Tr.q (QS.move rfl) rfl ?_
  refine Tr.q (QS.len rfl (by assumption) Try.underlying64) rfl ?_
  refine Tr.q (QS.move rfl) rfl ?_
  refine Tr.nil (Tr.thenN (Tr.block ?_))
  refine Tr.loop (ι := Nat) (fun k => k ≤ l.length ∧ firstP (oneP l) k (l.length - k) = firstP (oneP l) 0 l.length) (fun _ => _) (fun k => []) (fun k => [(13, .int .i64 (k : Nat))]) (fun k => l.length - k) 0 ⟨Nat.zero_le _, rfl⟩ (.cons (by first | rfl | exact lookI rfl (by omega) | exact lookI rfl (by simp) | exact lookB rfl (by simp)) Front.nil) (by repeat' constructor) rfl (fun k hi m hm => ?_)
  replace hi : k ≤ l.length ∧ firstP (oneP l) k (l.length - k) = firstP (oneP l) 0 l.length := hi
  replace hm : m = l.length - k := hm
  change Tr _ _ [] ([(13, .int .i64 (k : Nat))] ++ _) _
  obtain ⟨hk1, hk2⟩ := hi
  have hadr := (l.getD k default).addr.toNat_lt
  have hdk : k < l.length → (l.getD k default).data.length ≤ 200000 := fun q => hB.at q
  refine Tr.seq (Tr.region ?_)
  refine Tr.q (QS.lss rfl rfl) rfl ?_
  refine Tr.nil (Tr.thenN (Tr.seq ?_))
  refine Tr.cond rfl (fun h2 => ?_) (fun h2 => ?_)
  ·try simp only [bs] at h2
   refine Tr.skip (Tr.thenN (Tr.seq (Tr.block (Tr.seq (Tr.region ?_)))))
   refine Tr.q (QS.move rfl) rfl ?_
   refine Tr.q (QS.idxN rfl rfl (by assumption) Try.underlying64 Try.sizeOf80 (by rfl) (by omega)) rfl ?_
   refine Tr.q (QS.elA rfl (by assumption) Try.isAgg80 Try.sizeOf80 (by rfl) (by omega)) rfl ?_
   refine Tr.alloc Try.zeroValue80 rfl rfl (fun b3 => ?_)
   refine Tr.q (QS.assign rfl) rfl ?_
   refine Tr.storeW rfl rfl Try.sizeOf80 (by repeat constructor) (by rfl) (by rfl) (by first | exact List.all_eq_true.1 rfl | exact Enc.one _ _ | exact Enc.one encSec _) rfl ?_
   refine Tr.nil (Tr.thenN (Tr.seq (Tr.region ?_)))
   refine Tr.q (QS.move rfl) rfl ?_
   refine Tr.q (QS.move rfl) rfl ?_
   refine Tr.q (QS.slice (lv := none) (hv := some (_, _)) rfl (by assumption) rfl rfl Try.underlying64 Try.sizeOf80 (by rfl) (by simp only [loOf, hiOf] <;> first | omega | assumption | (simp only [NatCast.natCast, Int.ofNat_eq_natCast]; omega)) (by simp only [loOf, hiOf] <;> first | omega | assumption | (simp only [NatCast.natCast, Int.ofNat_eq_natCast]; omega)) (by simp only [loOf, hiOf] <;> first | omega | assumption | (simp only [NatCast.natCast, Int.ofNat_eq_natCast]; omega))) rfl ?_
   refine Tr.q (QS.makeFunc rfl rfl) rfl ?_
   refine Tr.q (QS.call rfl Try.call50 (fun w hw => containsFunc_sec (l.take k) _ _ _ w (Sl.resl (l := 0) (h := k) (hw.slF hV) (by omega) (by omega)) Try.call51 (fun x => decide (x.name = (l.getD k default).name)) (fun x hx w'' h => check1_any x (l.getD k default) _ w'' (cellE.cellsIn (hw.ent _ (.head _)) h)))) rfl ?_
   refine Tr.q (QS.assign rfl) rfl ?_
   refine Tr.nil (Tr.thenN (Tr.block (Tr.seq (Tr.region ?_))))
   refine Tr.q (QS.fieldAddr (off := 2) (ft := 78) rfl Try.underlying80 rfl rfl Try.sizeOf78 (by decide)) rfl ?_
   refine Tr.q (QS.lV rfl Try.isAgg78) rfl ?_
   refine Tr.q (QS.lenNil rfl Try.underlying78) rfl ?_
   refine Tr.q (QS.gtr rfl rfl) rfl ?_
   refine Tr.q (QS.assign rfl) rfl ?_
   refine Tr.nil (Tr.thenN ?_)
   refine Tr.cond rfl (fun h4 => ?_) (fun h4 => ?_)
   ·try simp only [bs] at h4
    refine Tr.seq (Tr.region ?_)
    refine Tr.q (QS.assign rfl) rfl ?_
    refine Tr.nil (Tr.thenN (Tr.ret ?_))
    refine Tr.inR ?_
    refine Tr.inR ?_
    refine Tr.thenR (Tr.thenR ?_)
    refine Tr.inR ?_
    refine Tr.thenR ?_
    refine Tr.ret1 Try.results32 rfl (fun w' hw => ?_)
    exact ⟨by rw [check_1 (v := 6) (by assumption) (by omega) hk2 (by unfold oneP; dsimp only; rw [if_pos (by assumption)]) (by decide)], hw.below (Bg.le.refl _)⟩
   ·try simp only [bs] at h4
    refine Tr.seq (Tr.region ?_)
    refine Tr.q (QS.fieldAddr (off := 0) (ft := 9) rfl Try.underlying80 rfl rfl Try.sizeOf9 (by decide)) rfl ?_
    refine Tr.q (QS.lV rfl Try.isAgg9) rfl ?_
    refine Tr.q (QS.call rfl Try.call52 (fun w hw => name_any (l.getD k default).name w (hN _ (mem_getD (by omega))))) rfl ?_
    refine Tr.q (QS.not rfl) rfl ?_
    refine Tr.q (QS.assign rfl) rfl ?_
    refine Tr.nil (Tr.thenN ?_)
    refine Tr.cond rfl (fun h5 => ?_) (fun h5 => ?_)
    ·try simp only [bs] at h5
     refine Tr.seq (Tr.region ?_)
     refine Tr.q (QS.assign rfl) rfl ?_
     refine Tr.nil (Tr.thenN (Tr.ret ?_))
     refine Tr.inR ?_
     refine Tr.inR ?_
     refine Tr.thenR (Tr.thenR ?_)
     refine Tr.inR ?_
     refine Tr.thenR ?_
     refine Tr.ret1 Try.results32 rfl (fun w' hw => ?_)
     exact ⟨by rw [check_1 (v := 3) (by assumption) (by omega) hk2 (by unfold oneP; dsimp only; rw [if_neg (by assumption), if_pos (by assumption)]) (by decide)], hw.below (Bg.le.refl _)⟩
    ·try simp only [bs] at h5
     refine Tr.seq (Tr.region ?_)
     refine Tr.q (QS.move rfl) rfl ?_
     refine Tr.q (QS.assign rfl) rfl ?_
     refine Tr.nil (Tr.thenN ?_)
     refine Tr.cond rfl (fun h6 => ?_) (fun h6 => ?_)
     ·try simp only [bs] at h6
      refine Tr.seq (Tr.region ?_)
      refine Tr.q (QS.assign rfl) rfl ?_
      refine Tr.nil (Tr.thenN (Tr.ret ?_))
      refine Tr.inR ?_
      refine Tr.inR ?_
      refine Tr.thenR (Tr.thenR ?_)
      refine Tr.inR ?_
      refine Tr.thenR ?_
      refine Tr.ret1 Try.results32 rfl (fun w' hw => ?_)
      exact ⟨by rw [check_1 (v := 8) (by assumption) (by omega) hk2 (by unfold oneP; dsimp only; rw [if_neg (by assumption), if_neg (by simp_all), if_pos (by assumption)]) (by decide)], hw.below (Bg.le.refl _)⟩
     ·try simp only [bs] at h6
      refine Tr.seq (Tr.region ?_)
      refine Tr.q (QS.fieldAddr (off := 1) (ft := 22) rfl Try.underlying80 rfl rfl Try.sizeOf22 (by decide)) rfl ?_
      refine Tr.q (QS.lV rfl Try.isAgg22) rfl ?_
      refine Tr.q (QS.cvt32toU rfl Try.underlying22 Try.underlying81) rfl ?_
      refine Tr.q (QS.fieldAddr (off := 2) (ft := 78) rfl Try.underlying80 rfl rfl Try.sizeOf78 (by decide)) rfl ?_
      refine Tr.q (QS.lV rfl Try.isAgg78) rfl ?_
      refine Tr.q (QS.lenNil rfl Try.underlying78) rfl ?_
      refine Tr.q (QS.cvtIn rfl Try.underlying3 Try.underlying81 (IntWalk.u64_in _ (by omega))) rfl ?_
      refine Tr.q (QS.addU rfl rfl (by omega)) rfl ?_
      refine Tr.q (QS.gtr rfl rfl) rfl ?_
      refine Tr.q (QS.move rfl) rfl ?_
      apply Tr.orP
      ·exact (rfl : _ = (5, 45, 50))
      ·exact rfl
      ·intro hF7; have hF7' := hF7
       try simp only [bs] at hF7'
       refine Tr.gq rfl rfl hF7 (QS.lW rfl Try.isAgg80 Try.sizeOf80) rfl ?_
       refine Tr.gq rfl rfl hF7 (QS.call rfl Try.call54 (fun w hw => space_any (l.getD k default) w (hB.at (by omega)))) rfl ?_
       refine Tr.gq rfl rfl hF7 (QS.call rfl Try.call55 (fun w hw => stack_any w)) rfl ?_
       refine Tr.gq rfl rfl hF7 (QS.call rfl Try.call53 (fun w hw => meet_any (spaceP (l.getD k default)) stackP w)) rfl ?_
       refine Tr.q (QS.pickF rfl hF7 rfl) rfl ?_
       refine Tr.nil (Tr.thenN ?_)
       exact Tr.endX (Sub.cons rfl (Sub.dropN 5 (by kernel_rfl) rfl))
      ·intro hT7
       refine Tr.gskip rfl rfl hT7 rfl ?_
       refine Tr.gskip rfl rfl hT7 rfl ?_
       refine Tr.gskip rfl rfl hT7 rfl ?_
       refine Tr.gskip rfl rfl hT7 rfl ?_
       refine Tr.q (QS.pickT rfl hT7 rfl) rfl ?_
       refine Tr.nil (Tr.thenN ?_)
       exact Tr.endX (Sub.cons rfl (Sub.dropN 5 (by kernel_rfl) rfl))
      refine Tr.q (QS.assign rfl) rfl ?_
      refine Tr.nil (Tr.thenN ?_)
      refine Tr.cond rfl (fun h8 => ?_) (fun h8 => ?_)
      ·try simp only [bs] at h8
       refine Tr.seq (Tr.region ?_)
       refine Tr.q (QS.assign rfl) rfl ?_
       refine Tr.nil (Tr.thenN (Tr.ret ?_))
       refine Tr.inR ?_
       refine Tr.inR ?_
       refine Tr.thenR (Tr.thenR ?_)
       refine Tr.inR ?_
       refine Tr.thenR ?_
       refine Tr.ret1 Try.results32 rfl (fun w' hw => ?_)
       exact ⟨by rw [check_1 (v := 7) (by assumption) (by omega) hk2 (by unfold oneP; dsimp only; rw [if_neg (by assumption), if_neg (by simp_all), if_neg (by simp_all), if_pos (by assumption)]) (by decide)], hw.below (Bg.le.refl _)⟩
      ·try simp only [bs] at h8
       refine Tr.skip (Tr.inN (Tr.inN (Tr.thenN (Tr.region ?_))))
       refine Tr.q (QS.addI rfl rfl (by omega)) rfl ?_
       refine Tr.q (QS.move rfl) rfl ?_
       refine Tr.nil (Tr.thenN ?_)
       have hz : oneP l k = 0 := by unfold oneP; dsimp only; rw [if_neg (by assumption), if_neg (by simp_all), if_neg (by simp_all), if_neg (by simp_all)]
       apply Tr.again (k + 1)
       ·exact rfl
       ·exact (.cons (by first | rfl | exact lookI rfl (by omega) | exact lookI rfl (by simp) | exact lookB rfl (by simp)) Front.nil)
       ·exact SubX.dropN 39 (by kernel_rfl) rfl
       ·exact (by repeat' constructor)
       ·exact ⟨by omega, by rw [firstP_next (by omega) hz, hk2]⟩
       ·exact (by (try dsimp only); omega)
  ·try simp only [bs] at h2
   refine Tr.exit ?_
   refine Tr.thenE (Tr.thenE (Tr.inHit (Tr.thenN (Tr.seq (Tr.seq (Tr.region ?_))))))
   refine Tr.q (QS.move rfl) rfl ?_
   refine Tr.q (QS.len rfl (by assumption) Try.underlying64) rfl ?_
   refine Tr.q (QS.move rfl) rfl ?_
   refine Tr.nil (Tr.thenN (Tr.block ?_))
   have hz1 : firstP (oneP l) 0 l.length = 0 := by rw [← hk2]; exact firstP_zero (by omega)
   clear hk2 hk1 hm hadr hdk
   refine Tr.loop (ι := Nat) (fun k => k ≤ l.length ∧ firstP (fun i => if overP l i = true then 10 else 0) k (l.length - k) = firstP (fun i => if overP l i = true then 10 else 0) 0 l.length) (fun _ => _) (fun k => []) (fun k => [(54, .int .i64 (k : Nat))]) (fun k => l.length - k) 0 ⟨Nat.zero_le _, rfl⟩ (.cons (by first | rfl | exact lookI rfl (by omega) | exact lookI rfl (by simp) | exact lookB rfl (by simp)) Front.nil) (by repeat' constructor) rfl (fun k hi m hm => ?_)
   replace hi : k ≤ l.length ∧ firstP (fun i => if overP l i = true then 10 else 0) k (l.length - k) = firstP (fun i => if overP l i = true then 10 else 0) 0 l.length := hi
   replace hm : m = l.length - k := hm
   change Tr _ _ [] ([(54, .int .i64 (k : Nat))] ++ _) _
   obtain ⟨hk1, hk2⟩ := hi
   refine Tr.seq (Tr.region ?_)
   refine Tr.q (QS.lss rfl rfl) rfl ?_
   refine Tr.nil (Tr.thenN (Tr.seq ?_))
   refine Tr.cond rfl (fun h9 => ?_) (fun h9 => ?_)
   ·try simp only [bs] at h9
    refine Tr.skip (Tr.thenN (Tr.seq (Tr.block (Tr.seq (Tr.region ?_)))))
    refine Tr.q (QS.move rfl) rfl ?_
    refine Tr.q (QS.idxN rfl rfl (by assumption) Try.underlying64 Try.sizeOf80 (by rfl) (by omega)) rfl ?_
    refine Tr.q (QS.elA rfl (by assumption) Try.isAgg80 Try.sizeOf80 (by rfl) (by omega)) rfl ?_
    refine Tr.alloc Try.zeroValue80 rfl rfl (fun b10 => ?_)
    refine Tr.q (QS.assign rfl) rfl ?_
    refine Tr.storeW rfl rfl Try.sizeOf80 (by repeat constructor) (by rfl) (by rfl) (by first | exact List.all_eq_true.1 rfl | exact Enc.one _ _ | exact Enc.one encSec _) rfl ?_
    refine Tr.nil (Tr.thenN (Tr.seq (Tr.region ?_)))
    refine Tr.q (QS.move rfl) rfl ?_
    refine Tr.q (QS.move rfl) rfl ?_
    refine Tr.q (QS.slice (lv := none) (hv := some (_, _)) rfl (by assumption) rfl rfl Try.underlying64 Try.sizeOf80 (by rfl) (by simp only [loOf, hiOf] <;> first | omega | assumption | (simp only [NatCast.natCast, Int.ofNat_eq_natCast]; omega)) (by simp only [loOf, hiOf] <;> first | omega | assumption | (simp only [NatCast.natCast, Int.ofNat_eq_natCast]; omega)) (by simp only [loOf, hiOf] <;> first | omega | assumption | (simp only [NatCast.natCast, Int.ofNat_eq_natCast]; omega))) rfl ?_
    refine Tr.q (QS.makeFunc rfl rfl) rfl ?_
    refine Tr.q (QS.call rfl Try.call50 (fun w hw => containsFunc_sec (l.take k) _ _ _ w (Sl.resl (l := 0) (h := k) (hw.slF hV) (by omega) (by omega)) Try.call56 (fun x => meetP (spaceP x) (spaceP (l.getD k default))) (fun x hx w'' h => check2_any x (l.getD k default) _ w'' (cellE.cellsIn (hw.ent _ (.head _)) h) (hB.2 x (List.mem_of_mem_take hx)) (hB.at (by omega))))) rfl ?_
    refine Tr.nil (Tr.thenN ?_)
    refine Tr.cond rfl (fun h11 => ?_) (fun h11 => ?_)
    ·try simp only [bs] at h11
     refine Tr.seq (Tr.region ?_)
     refine Tr.q (QS.assign rfl) rfl ?_
     refine Tr.nil (Tr.thenN (Tr.ret ?_))
     refine Tr.inR ?_
     refine Tr.thenR (Tr.thenR ?_)
     refine Tr.inR ?_
     refine Tr.thenR ?_
     refine Tr.ret1 Try.results32 rfl (fun w' hw => ?_)
     exact ⟨by rw [check_2 (k := k) (by assumption) hz1 (by omega) hk2 (by assumption)], hw.below (Bg.le.refl _)⟩
    ·try simp only [bs] at h11
     refine Tr.skip (Tr.inN (Tr.thenN (Tr.region ?_)))
     refine Tr.q (QS.addI rfl rfl (by omega)) rfl ?_
     refine Tr.q (QS.move rfl) rfl ?_
     refine Tr.nil (Tr.thenN ?_)
     have hz : overP l k = false := by assumption
     apply Tr.again (k + 1)
     ·exact rfl
     ·exact (.cons (by first | rfl | exact lookI rfl (by omega) | exact lookI rfl (by simp) | exact lookB rfl (by simp)) Front.nil)
     ·exact SubX.dropN 14 (by kernel_rfl) rfl
     ·exact (by repeat' constructor)
     ·exact ⟨by omega, by rw [firstP_next (by omega) (by rw [if_neg (by rw [hz]; decide)]), hk2]⟩
     ·exact (by (try dsimp only); omega)
   ·try simp only [bs] at h9
    refine Tr.exit ?_
    refine Tr.thenE (Tr.thenE (Tr.inHit (Tr.thenN (Tr.seq (Tr.region ?_)))))
    refine Tr.q (QS.assign rfl) rfl ?_
    refine Tr.nil (Tr.thenN (Tr.ret ?_))
    refine Tr.ret1 Try.results32 rfl (fun w' hw => ?_)
    exact ⟨by rw [check_3 (by assumption) hz1 (by rw [← hk2]; exact firstP_zero (by omega))], hw.below (Bg.le.refl _)⟩
end Go.Proofs.Ytpeaodkfbjenpaa
namespace Go.HL
open Go Go.RowKit
section
variable {P : Program} {ops : Array Oper} {Q : Exit → Act → World → Prop} {N : Nat} {F : Bg} {L : List Ent} {M : Fr} {ty : TypeId} {pos : String} {after : Array Edge} {rest : List Oper} {d : Nat} {op : Op}
theorem flatMap_setEl {α : Type} (E : Enc α) (x' : α) : ∀ (l : List α) (i : Nat), i < l.length → (l.set i x').flatMap E.enc = splice (l.flatMap E.enc) (i * E.k) (E.enc x')
  | [], i, h => by simp at h
  | y :: l, 0, _ => by
    simp only [List.set_cons_zero, List.flatMap_cons, Nat.zero_mul, splice, List.take_zero, List.nil_append, Nat.zero_add, E.len]
    rw [List.drop_append_of_le_length (by rw [E.len]; exact Nat.le_refl _), List.drop_of_length_le (by rw [E.len]; exact Nat.le_refl _)]; rfl
  | y :: l, i + 1, h => by
    have ih := flatMap_setEl E x' l i (by simpa using h)
    simp only [List.set_cons_succ, List.flatMap_cons, ih, splice]
    have hl : (E.enc y).length = E.k := E.len y
    rw [show (i + 1) * E.k = (E.enc y).length + i * E.k by rw [hl, Nat.add_mul]; omega, List.take_length_add_append, show (E.enc y).length + i * E.k + (E.enc x').length = (E.enc y).length + (i * E.k + (E.enc x').length) by omega, List.drop_length_add_append]
    simp only [List.append_assoc]
theorem take_splice {cs v : List Value} {o n : Nat} (h : o + v.length ≤ n) (hn : n ≤ cs.length) : (splice cs o v).take n = splice (cs.take n) o v := by
  apply List.ext_getElem?
  intro q
  simp only [splice, List.getElem?_take, List.getElem?_append, List.length_take, List.getElem?_drop, List.length_append]
  grind
/-- A store of a whole element of one's own slice. -/
theorem Tr.storeEl {α : Type} {E : Enc α} {l : List α} (x' : α) {x y : Operand} {t T : TypeId} {V v : Value} {i : Nat} {L' : List Ent} {dst : Option Tmp} (hx : opv M x = some (.pointer (some ⟨bk V, ofs V + i * E.k, none⟩))) (hy : opv M y = some v)
    (hz : ∀ w, (sizeOf t).run P w = .ok E.k w) (hput : Put (rowE V T E l) (rowE V T E (l.set i x')) L L') (hi : i < l.length) (hc : v.cells.toList = E.enc x') (hdst : dst = none)
    (K : Tr N F L' M (wpList P ops Q rest)) : Tr N F L M (wpList P ops Q (⟨dst, .store t x y, ty, pos, after, none⟩ :: rest)) := by
  subst hdst
  intro a w ha hw
  refine wpList_plain rfl fun K' hK => ?_
  have hr : RowOK V T E l (V.ownBlock.bind (w.heap[·]?)) := hw.ent _ hput.mem
  rcases hr with ⟨_, rfl⟩ | ⟨gb, cap, cur, rfl, ho, hc1, hc2, hc3, hc4⟩
  · simp at hi
  · have ho' : w.heap[gb]? = some (.cells cur T (0, 0)) := ho
    have hlt : i * E.k + E.k ≤ l.length * E.k := by rw [← Nat.succ_mul]; exact Nat.mul_le_mul_right _ hi
    have hle : l.length * E.k ≤ cur.size := Nat.le_trans (Nat.mul_le_mul_right _ hc1) hc3
    have hs : v.cells.size = E.k := by have := congrArg List.length hc; rw [E.len] at this; simpa using this
    have hst := run_storeV (P := P) (w := w) (b := gb) (o := i * E.k) (cs := cur.toList) (T := T) (t := t) (v := v) (by simpa using ho') hz hs (by simp; omega) (by rw [hc]; intro u hu; exact E.one _ _ hu)
    simp only [bk, ofs, Nat.zero_add] at hx
    unfold Oper.wp
    simp only [execOp, ha.eval hx, ha.eval hy, Sem.run_bind, hst, Result.andThen_ok, Sem.run_pure, Oper.upon, Act.put]
    refine hK _ _ (K _ _ ha ?_)
    have e1 : rowE (.slice (some ⟨gb, 0, none⟩) l.length cap) T E l = ⟨some gb, RowOK (.slice (some ⟨gb, 0, none⟩) l.length cap) T E l⟩ := rfl
    have e2 : rowE (.slice (some ⟨gb, 0, none⟩) l.length cap) T E (l.set i x') = ⟨some gb, RowOK (.slice (some ⟨gb, 0, none⟩) l.length cap) T E (l.set i x')⟩ := rfl
    rw [e1, e2] at hput
    refine HpOK.set hw hput rfl rfl rfl (by simp) (Nat.le_refl _) (fun k _ hkb => setRow_other w gb k _ hkb) ?_
    rw [setRow_heap w gb _ _ T (0, 0) ho']
    have hll : (l.set i x').length = l.length := by simp
    refine .inr ⟨gb, cap, _, by rw [hll], rfl, by rw [hll]; exact hc1, hc2, ?_, ?_⟩
    · rw [List.size_toArray]
      simp only [splice, hc, List.length_append, List.length_take, List.length_drop, Array.length_toList, E.len]
      omega
    · rw [hll, flatMap_setEl E x' l i hi, ← hc4, hc, List.toList_toArray]
      refine take_splice ?_ ?_
      · rw [E.len]; omega
      · rw [Array.length_toList]; exact hle
theorem Tr.rowEq {α : Type} {E : Enc α} {l l' : List α} {V : Value} {T : TypeId} {L0 : List Ent} {X : Act → World → Prop} (h : l = l') (K : Tr N F (rowE V T E l' :: L0) M X) : Tr N F (rowE V T E l :: L0) M X := h ▸ K
end
end Go.HL
namespace Go.HL
open Go Go.RowKit
section
variable {P : Program} {ops : Array Oper} {Q : Exit → Act → World → Prop} {N : Nat} {F : Bg} {L : List Ent} {M : Fr} {dst : Option Tmp} {ty : TypeId} {pos : String} {after : Array Edge} {g : Option (Nat × Bool)} {rest : List Oper} {d : Nat}
/-- An element's address in an array behind a pointer. -/
theorem QS.idxArr {x y : Operand} {t e : TypeId} {b o n k : Nat} {kk : IntKind} {i : Int} (hx : opv M x = some (.pointer (some ⟨b, o, none⟩))) (hy : opv M y = some (.int kk i)) (ht : P.underlying t = some (.array n e)) (hz : ∀ w, (sizeOf e).run P w = .ok k w)
    (hi : 0 ≤ i ∧ i < n) : QS P N F L M ⟨dst, .indexAddr t x y, ty, pos, after, g⟩ (.pointer (some ⟨b, o + i.toNat * k, none⟩)) :=
  QS.of_run fun A w ha hw => by
    simp [execOp, ha.eval hx, ha.eval hy, Instr.indexAt, asIntOf, run_underlying ht, Instr.sureAddr, hz, hi.1, hi.2, Addr.add_lit]
end
end Go.HL
namespace Go.Proofs.Ytpeaodkfbjenpaa
open Go Go.HL Go.RowKit
set_option maxRecDepth 100000 in
set_option maxHeartbeats 2000000 in
theorem clone_u32 (l : List UInt32) (V : Value) (w : World) (hV : Sl (hp w) encU32 l V) (hb : l.length ≤ 1000000) :
  Calls Try.prog 36 #[V] w (fun e w' => ∃ V', e = .returned V' ∧ Ext w w' ∧ NewRow w w' 22 encU32 (l) V') := by
 have hV' : Sl (Bg.of w).blk encU32 l V := hV
 refine enter Try.func36 rfl Try.ntmps36 rfl ?_
 refine Tr.seq (Tr.region ?_)
 refine Tr.q (QS.assign rfl) rfl ?_
 refine Tr.nil (Tr.thenN (Tr.seq (Tr.seq (Tr.region ?_))))
 refine Tr.q (QS.move rfl) rfl ?_
 refine Tr.q (QS.eqlNilS rfl (by assumption) Try.underlying34) rfl ?_
 refine Tr.nil (Tr.thenN ?_)
 refine Tr.cond rfl (fun h1 => ?_) (fun h1 => ?_)
 ·try simp only [bs] at h1
  refine Tr.seq (Tr.region ?_)
  refine Tr.q (QS.assign rfl) rfl ?_
  refine Tr.nil (Tr.thenN (Tr.ret (Tr.thenR ?_)))
  refine Tr.ret1 Try.results36 rfl (fun w' hw => ?_)
  exact ⟨_, rfl, hw.below (Bg.le.refl _), newRow_nil (hV.isNil h1)⟩
 ·try simp only [bs] at h1
  refine Tr.skip (Tr.thenN (Tr.seq (Tr.region ?_)))
  refine Tr.lit0 encU32 Try.underlying34 Try.sizeOf22 rfl (fun V2 => ?_)
  refine Tr.q (QS.move rfl) rfl ?_
  refine Tr.appendOf rfl rfl (by repeat constructor) (fun w hw => hw.slF (by assumption)) Try.underlying34 HLF.info22 (by rfl) (by rfl) (by (try simp only [List.length_cons, List.length_nil, List.length_append, List.length_take]); omega) (by unfold maxLen; (try simp only [List.length_cons, List.length_nil, List.length_append, List.length_take]); omega) rfl (fun V3 => ?_)
  refine Tr.q (QS.assign rfl) rfl ?_
  refine Tr.nil (Tr.thenN (Tr.ret ?_))
  refine Tr.ret1 Try.results36 rfl (fun w' hw => ?_)
  exact ⟨_, rfl, hw.below (Bg.le.refl _), hw.new (.head _)⟩
end Go.Proofs.Ytpeaodkfbjenpaa
namespace Go.HL
open Go
theorem dec_ok {b : List UInt8} {addr : UInt32} : InsOK (decP b addr).1 := by
  unfold decP
  split
  · exact ⟨by simp [zeroIns, I64], by simp [zeroIns, I64], by simp [zeroIns, I64], by simp [zeroIns, I64], by simp [zeroIns, I64], by simp [zeroIns, I64], by simp [zeroIns, I64]⟩
  split
  · exact ⟨by simp [zeroIns, I64], by simp [zeroIns, I64], by simp [zeroIns, I64], by simp [zeroIns, I64], by simp [zeroIns, I64], by simp [zeroIns, I64], by simp [zeroIns, I64]⟩
  split
  · exact ⟨by simp [zeroIns, I64], by simp [zeroIns, I64], by simp [zeroIns, I64], by simp [zeroIns, I64], by simp [zeroIns, I64], by simp [zeroIns, I64], by simp [zeroIns, I64]⟩
  simp only
  split
  · exact ⟨by simp [zeroIns, I64], by simp [zeroIns, I64], by simp [zeroIns, I64], by simp [zeroIns, I64], by simp [zeroIns, I64], by simp [zeroIns, I64], by simp [zeroIns, I64]⟩
  rename_i hr
  simp only [not_or, Bool.not_eq_false] at hr
  have ha := regP_iff.1 hr.1
  have hb := regP_iff.1 hr.2
  have hk := row_ok (b.getD 0 default)
  generalize (rowP (b.getD 0 default)).1 = k at *
  generalize (opcodeP k).2.1 = s at *
  have hs : ∀ s k b nx, (applyP s k b nx).op = k.op ∧ (applyP s k b nx).form = k.form ∧ (applyP s k b nx).width = k.width ∧ (applyP s k b nx).cc = k.cc ∧ (applyP s k b nx).size = k.size := fun s k b nx => by
    unfold applyP; repeat' split
    all_goals exact ⟨rfl, rfl, rfl, rfl, rfl⟩
  have hsz : 0 ≤ sizeP s ∧ sizeP s ≤ 6 := by unfold sizeP; repeat' split
                                             all_goals omega
  have h1 := hs s { k with addr := addr, size := sizeP s } b (addr + u32 (sizeP s))
  unfold bodyP at *
  show InsOK (applyP s { k with addr := addr, size := sizeP s } b (addr + u32 (sizeP s)))
  exact ⟨by rw [h1.1]; exact hk.op, by rw [h1.2.1]; exact hk.form, by rw [h1.2.2.1]; exact hk.width, by rw [h1.2.2.2.1]; exact hk.cc, by unfold I64; omega, by unfold I64; omega, by rw [h1.2.2.2.2]; unfold I64; show _ ≤ sizeP s ∧ sizeP s ≤ _; omega⟩
end Go.HL
namespace Go.HL
open Go
structure Flg where
  z : Bool
  n : Bool
  c : Bool
  v : Bool
  deriving DecidableEq, Inhabited
structure Mach where
  r0 : UInt32
  r1 : UInt32
  r2 : UInt32
  r3 : UInt32
  r4 : UInt32
  r5 : UInt32
  r6 : UInt32
  r7 : UInt32
  pc : UInt32
  f : Flg
  deriving DecidableEq, Inhabited
def encFlg : Enc Flg := ⟨4, fun f => [.bool f.z, .bool f.n, .bool f.c, .bool f.v], fun _ => rfl, fun x v h => by simp at h; rcases h with h | h | h | h <;> subst h <;> rfl⟩
def encMach : Enc Mach := ⟨13, fun m => [.int .u32 m.r0.toNat, .int .u32 m.r1.toNat, .int .u32 m.r2.toNat, .int .u32 m.r3.toNat, .int .u32 m.r4.toNat, .int .u32 m.r5.toNat, .int .u32 m.r6.toNat, .int .u32 m.r7.toNat, .int .u32 m.pc.toNat, .bool m.f.z, .bool m.f.n, .bool m.f.c, .bool m.f.v], fun _ => rfl,
  fun x v h => by simp at h; rcases h with h | h | h | h | h | h | h | h | h | h | h | h | h <;> subst h <;> rfl⟩
def Mach.reg (m : Mach) (k : Int) : UInt32 :=
  if k = 0 then m.r0 else if k = 1 then m.r1 else if k = 2 then m.r2 else if k = 3 then m.r3 else if k = 4 then m.r4 else if k = 5 then m.r5 else if k = 6 then m.r6 else m.r7
def Mach.set (m : Mach) (k : Int) (x : UInt32) : Mach :=
  if k = 0 then { m with r0 := x } else if k = 1 then { m with r1 := x } else if k = 2 then { m with r2 := x } else if k = 3 then { m with r3 := x } else if k = 4 then { m with r4 := x } else if k = 5 then { m with r5 := x } else if k = 6 then { m with r6 := x } else { m with r7 := x }
theorem Mach.reg_cell (m : Mach) {k : Int} (hk : 0 ≤ k ∧ k < 8) : (encMach.enc m)[k.toNat]? = some (.int .u32 (m.reg k).toNat) := by
  have hk' : k = 0 ∨ k = 1 ∨ k = 2 ∨ k = 3 ∨ k = 4 ∨ k = 5 ∨ k = 6 ∨ k = 7 := by omega
  rcases hk' with rfl | rfl | rfl | rfl | rfl | rfl | rfl | rfl <;> rfl
theorem Mach.set_cells (m : Mach) {k : Int} (hk : 0 ≤ k ∧ k < 8) (x : UInt32) (t : List Value) : splice (encMach.enc m ++ t) k.toNat [.int .u32 x.toNat] = encMach.enc (m.set k x) ++ t := by
  have hk' : k = 0 ∨ k = 1 ∨ k = 2 ∨ k = 3 ∨ k = 4 ∨ k = 5 ∨ k = 6 ∨ k = 7 := by omega
  rcases hk' with rfl | rfl | rfl | rfl | rfl | rfl | rfl | rfl <;> rfl
def sgnP (a : UInt32) : Bool := decide (2147483648 ≤ a)
def logF (a : UInt32) : Flg := ⟨decide (a = 0), sgnP a, false, false⟩
def addF (a b : UInt32) : Flg := ⟨decide (a + b = 0), sgnP (a + b), decide (a + b < a), decide (sgnP a = sgnP b) && decide (sgnP (a + b) ≠ sgnP a)⟩
def subF (a b : UInt32) : Flg := ⟨decide (a - b = 0), sgnP (a - b), decide (a < b), decide (sgnP a ≠ sgnP b) && decide (sgnP (a - b) ≠ sgnP a)⟩
def sarP (a : UInt32) (n : Nat) : UInt32 := u32 ((IntKind.i32.wrap a.toNat).fdiv (2 ^ n))
def cntP (n : UInt32) : Nat := (n % 32).toNat
def num01 (b : Bool) : UInt32 := if b = true then 1 else 0
def lowSgn (a b : UInt32) : Bool := decide (IntKind.i32.wrap a.toNat < IntKind.i32.wrap b.toNat)
def binP (op : Int) (a b : UInt32) : UInt32 :=
  if op = 3 then a + b else if op = 4 then a - b else if op = 5 then a * b else if op = 6 then a &&& b else if op = 7 then a ||| b else if op = 8 then a ^^^ b
  else if op = 9 then shl32 a (cntP b) else if op = 10 then shr32 a (cntP b) else if op = 11 then sarP a (cntP b)
  else if op = 12 then num01 (decide (a = b)) else if op = 13 then num01 (decide (a ≠ b)) else if op = 14 then num01 (lowSgn a b) else num01 (decide (a < b))
def appP (op : Int) (a b : UInt32) : UInt32 × Int := if op < 3 ∨ 15 < op then (0, 2) else (binP op a b, 0)
def holdsP (cc : Int) (f : Flg) : Bool :=
  if cc = 0 then true else if cc = 1 then f.z else if cc = 2 then !f.z else if cc = 3 then decide (f.n ≠ f.v) else if cc = 4 then decide (f.n = f.v) else if cc = 5 then f.z || decide (f.n ≠ f.v)
  else if cc = 6 then !f.z && decide (f.n = f.v) else if cc = 7 then f.c else if cc = 8 then !f.c else if cc = 9 then f.c || f.z else if cc = 10 then !f.c && !f.z
  else if cc = 11 then f.n else if cc = 12 then !f.n else if cc = 13 then f.v else if cc = 14 then !f.v else false
def inStk (a : UInt32) : Bool := decide (978944 ≤ a) && decide (a < 983040)
def noReg (l : List SecV) (a : UInt32) : Bool := !inStk a && decide (findP l a < 0)
def secA (l : List SecV) (a : UInt32) : SecV := l.getD (findP l a).toNat default
def restA (l : List SecV) (a : UInt32) : Int :=
  if inStk a = true then 983040 - a.toNat else if findP l a < 0 then 0 else ((secA l a).addr.toNat : Int) + (secA l a).data.length - a.toNat
def initA (l : List SecV) (a : UInt32) : UInt8 := if inStk a = true ∨ findP l a < 0 then 0 else (secA l a).data.getD (a - (secA l a).addr).toNat 0
def wrA (l : List SecV) (a : UInt32) : Bool := inStk a || (secA l a).wr
def exA (l : List SecV) (a : UInt32) : Bool := !inStk a && (secA l a).ex
abbrev WrF := UInt32 → Option UInt8
def byteA (l : List SecV) (w : WrF) (a : UInt32) : UInt8 := (w a).getD (initA l a)
def bytesA (l : List SecV) (w : WrF) (a : UInt32) : Nat → List UInt8
  | 0 => []
  | n + 1 => byteA l w a :: bytesA l w (a + 1) n
def widP (n : Int) : Bool := decide (n = 1 ∨ n = 2 ∨ n = 4)
def leP : List UInt8 → UInt32
  | [] => 0
  | b :: t => b.toUInt32 + 256 * leP t
def loadA (l : List SecV) (w : WrF) (a : UInt32) (n : Int) : UInt32 × Int :=
  if widP n = false then (0, 2) else if restA l a < n then (0, 11) else (leP (bytesA l w a n.toNat), 0)
def putW (w : WrF) (a : UInt32) (b : UInt8) : WrF := fun x => if x = a then some b else w x
def putN (w : WrF) (a : UInt32) (n : UInt32) : Nat → WrF
  | 0 => w
  | k + 1 => putW (putN w a n k) (a + UInt32.ofNat k) (shr32 n (8 * k)).toUInt8
def storeA (l : List SecV) (w : WrF) (a : UInt32) (n : Int) (x : UInt32) : WrF × Int :=
  if widP n = false then (w, 2) else if restA l a < n then (w, 11) else if wrA l a = false then (w, 12) else (putN w a x n.toNat, 0)
def fetchA (l : List SecV) (w : WrF) (a : UInt32) : List UInt8 × Int :=
  if noReg l a = true then ([], 11) else if exA l a = false then ([], 12) else (bytesA l w a (min 6 (restA l a)).toNat, 0)
/-- The addresses whose bytes are not as they were. -/
def IsChg (l : List SecV) (w : WrF) (xs : List UInt32) : Prop := xs.Pairwise (· < ·) ∧ ∀ a, a ∈ xs ↔ ∃ b, w a = some b ∧ b ≠ initA l a
structure St where
  m : Mach
  w : WrF
  read : Nat
  out : List UInt32
  done : Bool
  err : Int
def srcP (m : Mach) (i : Ins) : UInt32 := if i.form = 0 then m.reg i.b else i.imm
def aluP (m : Mach) (i : Ins) : UInt32 × Flg :=
  if i.op = 5 then (srcP m i, m.f) else if i.op = 6 then (m.reg i.a + srcP m i, addF (m.reg i.a) (srcP m i)) else if i.op = 7 then (m.reg i.a - srcP m i, subF (m.reg i.a) (srcP m i))
  else if i.op = 15 then (m.reg i.a, subF (m.reg i.a) (srcP m i)) else if i.op = 19 then (m.reg i.b + i.imm, m.f) else if i.op = 25 then (num01 (holdsP i.cc m.f), m.f)
  else if 8 ≤ i.op ∧ i.op ≤ 14 then (binP (opX i.op) (m.reg i.a) (srcP m i), logF (binP (opX i.op) (m.reg i.a) (srcP m i))) else (m.reg i.a, m.f)
where opX (op : Int) : Int := if op = 8 then 6 else if op = 9 then 7 else if op = 10 then 8 else if op = 11 then 5 else op - 3
def plainS (s : St) (i : Ins) (nx : UInt32) : St := { s with m := { s.m.set i.a (aluP s.m i).1 with f := (aluP s.m i).2, pc := nx }, done := decide (i.op = 1) || s.done }
def Mach.to (m : Mach) (p : UInt32) : Mach := { m with pc := p }
def stackS (l : List SecV) (s : St) (i : Ins) (nx : UInt32) : St × Int :=
  if i.op = 3 then
    if (storeA l s.w (s.m.r7 - 4) 4 (s.m.reg i.a)).2 ≠ 0 then (s, (storeA l s.w (s.m.r7 - 4) 4 (s.m.reg i.a)).2)
    else ({ s with w := (storeA l s.w (s.m.r7 - 4) 4 (s.m.reg i.a)).1, m := (s.m.set 7 (s.m.r7 - 4)).to nx }, 0)
  else if (loadA l s.w s.m.r7 4).2 ≠ 0 then (s, (loadA l s.w s.m.r7 4).2)
  else ({ s with m := ((s.m.set 7 (s.m.r7 + 4)).set i.a (loadA l s.w s.m.r7 4).1).to nx }, 0)
def accessS (l : List SecV) (s : St) (i : Ins) (nx : UInt32) : St × Int :=
  if i.op = 18 then
    if (storeA l s.w (s.m.reg i.b + i.imm) i.width (s.m.reg i.a)).2 ≠ 0 then (s, (storeA l s.w (s.m.reg i.b + i.imm) i.width (s.m.reg i.a)).2)
    else ({ s with w := (storeA l s.w (s.m.reg i.b + i.imm) i.width (s.m.reg i.a)).1, m := s.m.to nx }, 0)
  else if (loadA l s.w (s.m.reg i.b + i.imm) i.width).2 ≠ 0 then (s, (loadA l s.w (s.m.reg i.b + i.imm) i.width).2)
  else ({ s with m := (s.m.set i.a (if i.op = 17 then extP (loadA l s.w (s.m.reg i.b + i.imm) i.width).1 i.width else (loadA l s.w (s.m.reg i.b + i.imm) i.width).1)).to nx }, 0)
def jumpS (l : List SecV) (s : St) (i : Ins) (nx : UInt32) : St × Int :=
  if i.op = 21 then ({ s with m := s.m.to (s.m.reg i.a) }, 0)
  else if i.op = 22 then
    if (loadA l s.w (i.imm + 4 * s.m.reg i.a) 4).2 ≠ 0 then (s, (loadA l s.w (i.imm + 4 * s.m.reg i.a) 4).2)
    else ({ s with m := s.m.to (loadA l s.w (i.imm + 4 * s.m.reg i.a) 4).1 }, 0)
  else ({ s with m := s.m.to (if holdsP i.cc s.m.f = true then i.imm else nx) }, 0)
def callS (l : List SecV) (s : St) (i : Ins) (nx : UInt32) : St × Int :=
  if i.op = 2 then
    if (loadA l s.w s.m.r7 4).2 ≠ 0 then (s, (loadA l s.w s.m.r7 4).2)
    else ({ s with m := (s.m.set 7 (s.m.r7 + 4)).to (loadA l s.w s.m.r7 4).1, done := decide ((loadA l s.w s.m.r7 4).1 = 4294967295) }, 0)
  else if (storeA l s.w (s.m.r7 - 4) 4 nx).2 ≠ 0 then (s, (storeA l s.w (s.m.r7 - 4) 4 nx).2)
  else ({ s with w := (storeA l s.w (s.m.r7 - 4) 4 nx).1, m := (s.m.set 7 (s.m.r7 - 4)).to (if i.op = 24 then s.m.reg i.a else i.imm) }, 0)
def transS (inp : List UInt32) (s : St) (i : Ins) (nx : UInt32) : St × Int :=
  if i.op = 26 then
    if inp.length ≤ s.read then (s, 14)
    else ({ s with m := (s.m.set i.a (inp.getD s.read default)).to nx, read := s.read + 1 }, 0)
  else if 4096 ≤ s.out.length then (s, 6)
  else ({ s with m := s.m.to nx, out := s.out ++ [s.m.reg i.a] }, 0)
def effS (l : List SecV) (inp : List UInt32) (s : St) (i : Ins) (nx : UInt32) : St × Int :=
  if i.op = 3 ∨ i.op = 4 then stackS l s i nx else if i.op = 16 ∨ i.op = 17 ∨ i.op = 18 then accessS l s i nx else if i.op = 20 ∨ i.op = 21 ∨ i.op = 22 then jumpS l s i nx
  else if i.op = 23 ∨ i.op = 24 ∨ i.op = 2 then callS l s i nx else if i.op = 26 ∨ i.op = 27 then transS inp s i nx else (plainS s i nx, 0)
def execS (l : List SecV) (inp : List UInt32) (s : St) : St × Int :=
  if (fetchA l s.w s.m.pc).2 ≠ 0 then (s, (fetchA l s.w s.m.pc).2)
  else if (decP (fetchA l s.w s.m.pc).1 s.m.pc).2 ≠ 0 then (s, (decP (fetchA l s.w s.m.pc).1 s.m.pc).2)
  else effS l inp s (decP (fetchA l s.w s.m.pc).1 s.m.pc).1 (nextP (decP (fetchA l s.w s.m.pc).1 s.m.pc).1)
def stepS (l : List SecV) (inp : List UInt32) (s : St) : St × Int :=
  if s.done = true then (s, 21) else if s.err ≠ 0 then (s, s.err) else ({ (execS l inp s).1 with err := (execS l inp s).2 }, (execS l inp s).2)
def runS (l : List SecV) (inp : List UInt32) : Nat → St → St
  | 0, s => s
  | n + 1, s => if s.done = false ∧ s.err = 0 then runS l inp n (stepS l inp s).1 else s
/-- The addresses of a run's instructions. -/
def traceS (l : List SecV) (inp : List UInt32) : Nat → St → List UInt32
  | 0, s => []
  | n + 1, s => if s.done = false ∧ s.err = 0 then s.m.pc :: traceS l inp n (stepS l inp s).1 else []
def startM (e : UInt32) : Mach := ⟨0, 0, 0, 0, 0, 0, 0, 983036, e, ⟨false, false, false, false⟩⟩
def newS (e : UInt32) : St := ⟨startM e, putN (fun _ => none) 983036 4294967295 4, 0, [], false, 0⟩
end Go.HL
namespace Go.HL
open Go Go.Sort
open Go.Proofs (ltOf)
def Has (l : List Rng) (n : Nat) : Prop := ∃ r ∈ l, r.lo.toNat ≤ n ∧ n < r.hi.toNat
theorem Has.nil {n : Nat} : ¬ Has [] n := by rintro ⟨r, h, _⟩; simp at h
theorem Has.perm {a b : List Rng} (h : a.Perm b) {n : Nat} : Has a n ↔ Has b n :=
  ⟨fun ⟨r, m, q⟩ => ⟨r, h.mem_iff.1 m, q⟩, fun ⟨r, m, q⟩ => ⟨r, h.mem_iff.2 m, q⟩⟩
theorem max_toNat (a b : UInt32) : (if a < b then b else a).toNat = max a.toNat b.toNat := by
  split <;> rename_i h <;> rw [UInt32.lt_iff_toNat_lt] at h <;> omega
end Go.HL
namespace Go.HL
open Go Go.Sort
def SA (l : List UInt32) : Prop := l.Pairwise fun x y => x.toNat < y.toNat
theorem SA.nodup {l : List UInt32} (h : SA l) : l.Nodup := h.imp fun {a b} q e => by rw [e] at q; omega
theorem SA.lt {l : List UInt32} (h : SA l) {i j : Nat} (hij : i < j) (hj : j < l.length) : (l.getD i default).toNat < (l.getD j default).toNat := by
  have := List.pairwise_iff_getElem.1 h i j (by omega) hj hij
  simpa [List.getD_eq_getElem?_getD, hj, show i < l.length by omega] using this
/-- No cut lies inside a gap. -/
theorem SA.out {l : List UInt32} (h : SA l) {i : Nat} (hi : i + 1 < l.length) {x : UInt32} (hx : x ∈ l) : x.toNat ≤ (l.getD i default).toNat ∨ (l.getD (i + 1) default).toNat ≤ x.toNat := by
  obtain ⟨j, hj, rfl⟩ := List.mem_iff_getElem.1 hx
  have e : l[j] = l.getD j default := by simp [List.getD_eq_getElem?_getD, hj]
  rw [e]
  rcases Nat.lt_trichotomy j i with h1 | rfl | h1
  · exact .inl (Nat.le_of_lt (h.lt h1 (by omega)))
  · exact .inl (Nat.le_refl _)
  · rcases Nat.lt_or_ge (i + 1) j with h2 | h2
    · exact .inr (Nat.le_of_lt (h.lt h2 hj))
    · rw [show j = i + 1 by omega]; exact .inr (Nat.le_refl _)
end Go.HL
namespace Go.HL
open Go Go.Sort
theorem min_toNat (a b : UInt32) : (if b < a then b else a).toNat = min a.toNat b.toNat := by
  split <;> rename_i h <;> rw [UInt32.lt_iff_toNat_lt] at h <;> omega
end Go.HL
namespace Go.HL
open Go Go.Sort
theorem meet_iff (x s : SecV) : meetP (spaceP x) (spaceP s) = true ↔ ((0 < x.data.length ∧ 0 < s.data.length) ∧ (s.addr.toNat : Int) < endP x) ∧ (x.addr.toNat : Int) < endP s := by
  have h1 := space_hi x
  have h2 := space_hi s
  have e1 : (spaceP x).lo = x.addr := rfl
  have e2 : (spaceP s).lo = s.addr := rfl
  rw [meetP, decide_eq_true_eq, UInt32.lt_iff_toNat_lt, max_toNat, min_toNat, e1, e2]
  unfold endP at *
  omega
theorem stack_iff (s : SecV) : meetP (spaceP s) stackP = true ↔ (0 < s.data.length ∧ (s.addr.toNat : Int) < 983040) ∧ 978944 < endP s := by
  have h1 := space_hi s
  have e1 : (spaceP s).lo = s.addr := rfl
  have e2 : stackP.lo.toNat = 978944 := rfl
  have e3 : stackP.hi.toNat = 983040 := rfl
  rw [meetP, decide_eq_true_eq, UInt32.lt_iff_toNat_lt, max_toNat, min_toNat, e1, e2, e3]
  unfold endP at *
  omega
end Go.HL
namespace Go.HL
open Go Go.Sort
open Go.Proofs (ltOf)
theorem idxP_map {α β : Type} (f : α → β) (p : β → Bool) : ∀ (l : List α) (k : Nat), idxP (fun x => p (f x)) k l = idxP p k (l.map f)
  | [], k => rfl
  | x :: l, k => by simp only [idxP, List.map_cons, idxP_map f p l (k + 1)]
theorem firstP_all {f : Nat → Int} : ∀ (n k : Nat), firstP f k n = 0 → ∀ i, k ≤ i → i < k + n → f i = 0
  | 0, k, _, i, h1, h2 => by omega
  | n + 1, k, h, i, h1, h2 => by
    unfold firstP at h
    split at h
    · rename_i q; exact absurd h q
    · rename_i q
      by_cases e : i = k
      · subst e; simpa using q
      · exact firstP_all n (k + 1) h i (by omega) (by omega)
theorem check_facts {l : List SecV} (h : checkS l = 0) : l.length ≤ 16 ∧ ∀ s ∈ l, s.data.length ≤ 65536 ∧ (s.addr.toNat : Int) + s.data.length ≤ 4294967295 := by
  unfold checkS at h
  split at h
  · cases h
  · rename_i h0
    split at h
    · rename_i h1; exact absurd h h1
    · rename_i h1
      refine ⟨by omega, fun s hs => ?_⟩
      obtain ⟨j, hj, rfl⟩ := List.mem_iff_getElem.1 hs
      have h2 := firstP_all l.length 0 (by simpa using h1) j (Nat.zero_le _) (by omega)
      have e : l.getD j default = l[j] := by simp [List.getD_eq_getElem?_getD, hj]
      unfold oneP at h2
      dsimp only at h2
      rw [e] at h2
      split at h2
      · cases h2
      · rename_i k1
        split at h2
        · cases h2
        · split at h2
          · cases h2
          · split at h2
            · cases h2
            · rename_i k2
              exact ⟨by omega, by have : ¬ (4294967295 : Int) < _ := fun q => k2 (.inl q); omega⟩
end Go.HL
namespace Go.HL
open Go Go.RowKit Go.MapKept
section
variable {α : Type}
def mget : List (UInt32 × α) → UInt32 → Option α
  | [], _ => none
  | p :: t, k => if k = p.1 then some p.2 else mget t k
def mput : List (UInt32 × α) → UInt32 → α → List (UInt32 × α)
  | [], k, x => [(k, x)]
  | p :: t, k, x => if k = p.1 then (k, x) :: t else p :: mput t k x
theorem mget_put (l : List (UInt32 × α)) (k j : UInt32) (x : α) : mget (mput l k x) j = if j = k then some x else mget l j := by
  induction l with
  | nil => simp [mput, mget]
  | cons p t ih =>
    unfold mput
    by_cases h : k = p.1
    · rw [if_pos h]
      unfold mget
      subst h
      by_cases c : j = p.1 <;> simp [c]
    · rw [if_neg h]
      by_cases c : j = p.1
      · have : ¬ j = k := fun q => h (q.symm.trans c)
        simp [mget, c, this]
        intro q; exact absurd q.symm h
      · simp [mget, c, ih]
theorem mput_keys (l : List (UInt32 × α)) (k : UInt32) (x : α) : (mput l k x).map (·.1) = if (mget l k).isSome then l.map (·.1) else l.map (·.1) ++ [k] := by
  induction l with
  | nil => simp [mput, mget]
  | cons p t ih =>
    unfold mput mget
    by_cases h : k = p.1
    · simp [h]
    · rw [if_neg h, if_neg h, List.map_cons, ih]
      split <;> simp_all
theorem mget_mem {l : List (UInt32 × α)} {k : UInt32} : (mget l k).isSome = true ↔ k ∈ l.map (·.1) := by
  induction l with
  | nil => simp [mget]
  | cons p t ih =>
    unfold mget
    by_cases h : k = p.1
    · simp [h]
    · rw [if_neg h, ih]; simp [h]
theorem mput_len (l : List (UInt32 × α)) (k : UInt32) (x : α) : (mput l k x).length ≤ l.length + 1 := by
  have := congrArg List.length (mput_keys l k x)
  rw [List.length_map] at this
  split at this <;> simp at this <;> omega
theorem mem_of_mget {l : List (UInt32 × α)} {k : UInt32} {x : α} (h : mget l k = some x) : (k, x) ∈ l := by
  induction l with
  | nil => simp [mget] at h
  | cons p t ih =>
    unfold mget at h
    split at h
    · rename_i e; cases h; subst e; exact .head _
    · exact .tail _ (ih h)
/-- What stands at a key's place. -/
theorem mget_at : ∀ (l : List (UInt32 × α)) {j : Nat} {p : UInt32 × α}, (l.map (·.1)).Nodup → l[j]? = some p → mget l p.1 = some p.2 ∧ ∀ x, mput l p.1 x = l.set j (p.1, x)
  | [], j, p, _, h => by simp at h
  | q :: t, 0, p, _, h => by
    simp only [List.getElem?_cons_zero, Option.some.injEq] at h
    subst h
    exact ⟨by simp [mget], fun x => by simp [mput]⟩
  | q :: t, j + 1, p, hn, h => by
    rw [List.map_cons, List.nodup_cons] at hn
    simp only [List.getElem?_cons_succ] at h
    have hne : ¬ p.1 = q.1 := fun e => hn.1 (List.mem_map.2 ⟨p, List.mem_of_getElem? h, e⟩)
    obtain ⟨h1, h2⟩ := mget_at t hn.2 h
    exact ⟨by rw [mget, if_neg hne]; exact h1, fun x => by rw [mput, if_neg hne, h2 x]; rfl⟩
theorem mput_new {l : List (UInt32 × α)} {k : UInt32} (h : mget l k = none) (x : α) : mput l k x = l ++ [(k, x)] := by
  induction l with
  | nil => rfl
  | cons p t ih =>
    unfold mget at h
    split at h
    · cases h
    · rename_i hk; rw [mput, if_neg hk, ih h]; rfl
end
def keyV (k : UInt32) : Value := .int .u32 (k.toNat : Int)
theorem keyV_inj {a b : UInt32} (h : keyV a = keyV b) : a = b := by
  unfold keyV at h
  injection h with _ h
  exact UInt32.toNat_inj.1 (by omega)
theorem keyV_key (k : UInt32) : IsKey (.int .u32) (keyV k) := by simp [IsKey, keyV]
structure MapIs {α : Type} (f : α → Value) (l : List (UInt32 × α)) (es : Array MapEntry) (ck : Nat) : Prop where
  st : Stamped es ck
  ents : es.toList.map (fun e => (e.key, e.val)) = l.map fun p => (keyV p.1, f p.2)
section
variable {α : Type} {f : α → Value} {l : List (UInt32 × α)} {es : Array MapEntry} {ck : Nat}
theorem MapIs.made : MapIs f [] #[] 0 := ⟨stamped_empty 0, rfl⟩
theorem MapIs.len (h : MapIs f l es ck) : es.size = l.length := by
  have := congrArg List.length h.ents
  simpa using this
theorem MapIs.keys (h : MapIs f l es ck) : es.toList.map (·.key) = l.map fun p => keyV p.1 := by
  have := congrArg (List.map Prod.fst) h.ents
  rw [List.map_map, List.map_map] at this
  exact this
theorem MapIs.nodup (h : MapIs f l es ck) : (l.map (·.1)).Nodup := by
  have h1 := h.st.2.2
  rw [h.keys] at h1
  have e : (l.map fun p => keyV p.1) = (l.map (·.1)).map keyV := by rw [List.map_map]; rfl
  rw [e] at h1
  exact List.Pairwise.imp (fun {a b} hne q => hne (by rw [q])) (List.pairwise_map.1 h1)
theorem MapIs.isKey (h : MapIs f l es ck) : ∀ x ∈ es.toList, IsKey (.int .u32) x.key := by
  intro x hx
  have : x.key ∈ es.toList.map (·.key) := List.mem_map.2 ⟨x, hx, rfl⟩
  rw [h.keys] at this
  obtain ⟨p, _, e⟩ := List.mem_map.1 this
  rw [← e]; exact keyV_key _
theorem MapIs.at_ (h : MapIs f l es ck) {j : Nat} {e : MapEntry} (he : es.toList[j]? = some e) : ∃ p, l[j]? = some p ∧ e.key = keyV p.1 ∧ e.val = f p.2 := by
  have h1 : (es.toList.map (fun e => (e.key, e.val)))[j]? = some (e.key, e.val) := by rw [List.getElem?_map, he]; rfl
  rw [h.ents, List.getElem?_map] at h1
  cases hl : l[j]? with
  | none => rw [hl] at h1; cases h1
  | some p =>
    rw [hl] at h1
    simp only [Option.map_some, Option.some.injEq, Prod.mk.injEq] at h1
    exact ⟨p, rfl, h1.1.symm, h1.2.symm⟩
/-- Looking for a key. -/
theorem MapIs.find (h : MapIs f l es ck) (k : UInt32) :
    (Instr.findNow (.int .u32) (keyV k) es.toList 0 = some none ∧ mget l k = none ∧ ∀ x ∈ es.toList, x.key ≠ keyV k) ∨
    ∃ (j : Nat) (e : MapEntry) (x : α), Instr.findNow (.int .u32) (keyV k) es.toList 0 = some (some (j, f x)) ∧ es.toList[j]? = some e ∧ e.key = keyV k ∧ l[j]? = some (k, x) ∧ mget l k = some x := by
  rcases findNow_spec (keyV_key k) es.toList 0 h.isKey with ⟨h1, h2⟩ | ⟨j, e, h1, h2, h3⟩
  · refine .inl ⟨h1, ?_, h2⟩
    cases hg : mget l k with
    | none => rfl
    | some x =>
      exfalso
      have hm := mem_of_mget hg
      have : keyV k ∈ es.toList.map (·.key) := by rw [h.keys]; exact List.mem_map.2 ⟨_, hm, rfl⟩
      obtain ⟨e, he, hk⟩ := List.mem_map.1 this
      exact h2 e he hk
  · obtain ⟨p, p1, p2, p3⟩ := h.at_ h2
    have hk : p.1 = k := keyV_inj (p2.symm.trans h3)
    obtain ⟨pk, px⟩ := p
    simp only at hk p3
    subst hk
    exact .inr ⟨j, e, px, by rw [h1, p3]; simp, h2, h3, p1, (mget_at l h.nodup p1).1⟩
theorem MapIs.push (h : MapIs f l es ck) {k : UInt32} (hk : mget l k = none) (x : α) : MapIs f (mput l k x) (es.push { key := keyV k, val := f x, born := ck }) (ck + 1) := by
  refine ⟨stamped_push h.st ?_, ?_⟩
  · intro e he q
    have : keyV k ∈ es.toList.map (·.key) := List.mem_map.2 ⟨e, he, q⟩
    rw [h.keys] at this
    obtain ⟨p, hp, e⟩ := List.mem_map.1 this
    have h1 := mget_mem.2 (List.mem_map.2 ⟨p, hp, keyV_inj e⟩ : k ∈ l.map (·.1))
    rw [hk] at h1; cases h1
  · rw [mput_new hk, Array.toList_push, List.map_append, List.map_append, h.ents]; rfl
theorem MapIs.modify (h : MapIs f l es ck) {k : UInt32} {j : Nat} {e : MapEntry} {x0 : α} (he : es.toList[j]? = some e) (hk : e.key = keyV k) (hl : l[j]? = some (k, x0)) (x : α) :
    MapIs f (mput l k x) (es.modify j fun e => { e with key := keyV k, val := f x }) ck := by
  have hj : es[j]? = some e := by simpa using he
  refine ⟨stamped_modify h.st _ _ (fun _ _ => rfl) (fun e' _ he' => by rw [hj] at he'; cases he'; exact hk.symm), ?_⟩
  rw [(mget_at l h.nodup hl).2 x]
  have hes := h.ents
  apply List.ext_getElem?
  intro i
  rw [List.getElem?_map, List.getElem?_map, Array.getElem?_toList, Array.getElem?_modify, List.getElem?_set]
  have hi : (es.toList.map (fun e => (e.key, e.val)))[i]? = (l.map fun p => (keyV p.1, f p.2))[i]? := by rw [hes]
  rw [List.getElem?_map, List.getElem?_map, Array.getElem?_toList] at hi
  by_cases c : j = i
  · subst c
    have hlt : j < l.length := (List.getElem?_eq_some_iff.1 hl).1
    simp [hj, hlt]
  · simp only [c, if_false]; exact hi
end
/-- A map of one's own. -/
def mapE {α : Type} (b : Nat) (f : α → Value) (l : List (UInt32 × α)) : Ent := ⟨some b, fun o => ∃ es ck, o = some (.map es ck) ∧ MapIs f l es ck⟩
/-- A map that is only read. -/
def MapIn {α : Type} (h : Hp) (b : Nat) (f : α → Value) (l : List (UInt32 × α)) : Prop := ∃ es ck, h b = some (.map es ck) ∧ MapIs f l es ck
theorem MapIn.mono {α : Type} {h k : Hp} {b : Nat} {f : α → Value} {l : List (UInt32 × α)} (m : MapIn h b f l) (hk : Hp.le h k) : MapIn k b f l := by
  obtain ⟨es, ck, h1, h2⟩ := m
  exact ⟨es, ck, hk _ _ h1, h2⟩
theorem mapE.in_ {α : Type} {b : Nat} {f : α → Value} {l : List (UInt32 × α)} {w : World} (h : (mapE b f l).holds w) : MapIn (hp w) b f l := by
  obtain ⟨es, ck, h1, h2⟩ := h
  exact ⟨es, ck, h1, h2⟩
/-- What a look-up gives. -/
def mval {α : Type} (f : α → Value) (z : Value) : Option α → Value
  | some x => f x
  | none => z
section
variable {P : Program} {ops : Array Oper} {Q : Exit → Act → World → Prop} {N : Nat} {F : Bg} {L : List Ent} {M : Fr} {dst : Option Tmp} {ty : TypeId} {pos : String} {after : Array Edge} {g : Option (Nat × Bool)} {rest : List Oper} {d : Nat}
theorem lookup_run {α : Type} {f : α → Value} {l : List (UInt32 × α)} {w : World} {t K e : TypeId} {z : Value} {b : Nat} (ht : P.underlying t = some (.map K e)) (hK : P.underlying K = some (.int .u32)) (hz : ∀ w, (zeroValue e).run P w = .ok z w)
    (hm : MapIn (HL.hp w) b f l) (k : UInt32) (c : Bool) : (Instr.lookup t (.map (some b)) (keyV k) c).run P w = .ok (if c then .tuple #[mval f z (mget l k), .bool (mget l k).isSome] else mval f z (mget l k)) w := by
  obtain ⟨es, ck, hb, hm⟩ := hm
  replace hb : w.heap[b]? = some (.map es ck) := hb
  rcases hm.find k with ⟨h1, h2, _⟩ | ⟨j, e0, x, h1, _, _, _, h2⟩
  · cases c <;> simp [Instr.lookup, run_underlying ht, Go.MapKept.run_getObj_map hb, run_checkKey hK (keyV_key k), run_findKey hK h1, hz, Result.andThen, h2, mval]
  · cases c <;> simp [Instr.lookup, run_underlying ht, Go.MapKept.run_getObj_map hb, run_checkKey hK (keyV_key k), run_findKey hK h1, hz, Result.andThen, h2, mval]
theorem QS.look {α : Type} {f : α → Value} {l : List (UInt32 × α)} {x y : Operand} {t K e : TypeId} {z : Value} {b : Nat} {k : UInt32} (hx : opv M x = some (.map (some b))) (hy : opv M y = some (.int .u32 k.toNat)) (hm : mapE b f l ∈ L)
    (ht : P.underlying t = some (.map K e)) (hK : P.underlying K = some (.int .u32)) (hz : ∀ w, (zeroValue e).run P w = .ok z w) : QS P N F L M ⟨dst, .lookup t x y false, ty, pos, after, g⟩ (mval f z (mget l k)) :=
  QS.of_run fun a w ha hw => by
    have hr := lookup_run (P := P) ht hK hz (mapE.in_ (hw.ent _ hm)) k false
    simp only [keyV] at hr
    simp [execOp, ha.eval hx, ha.eval hy, hr]
theorem QS.lookB {α : Type} {f : α → Value} {l : List (UInt32 × α)} {x y : Operand} {t K e : TypeId} {z : Value} {b : Nat} {k : UInt32} (hx : opv M x = some (.map (some b))) (hy : opv M y = some (.int .u32 k.toNat)) (hm : MapIn F.blk b f l)
    (ht : P.underlying t = some (.map K e)) (hK : P.underlying K = some (.int .u32)) (hz : ∀ w, (zeroValue e).run P w = .ok z w) : QS P N F L M ⟨dst, .lookup t x y false, ty, pos, after, g⟩ (mval f z (mget l k)) :=
  QS.of_run fun a w ha hw => by
    have hr := lookup_run (P := P) ht hK hz (hm.mono hw.bg) k false
    simp only [keyV] at hr
    simp [execOp, ha.eval hx, ha.eval hy, hr]
theorem QS.lookBOk {α : Type} {f : α → Value} {l : List (UInt32 × α)} {x y : Operand} {t K e : TypeId} {z : Value} {b : Nat} {k : UInt32} (hx : opv M x = some (.map (some b))) (hy : opv M y = some (.int .u32 k.toNat)) (hm : MapIn F.blk b f l)
    (ht : P.underlying t = some (.map K e)) (hK : P.underlying K = some (.int .u32)) (hz : ∀ w, (zeroValue e).run P w = .ok z w) : QS P N F L M ⟨dst, .lookup t x y true, ty, pos, after, g⟩ (.tuple #[mval f z (mget l k), .bool (mget l k).isSome]) :=
  QS.of_run fun a w ha hw => by
    have hr := lookup_run (P := P) ht hK hz (hm.mono hw.bg) k true
    simp only [keyV] at hr
    simp [execOp, ha.eval hx, ha.eval hy, hr]
theorem Tr.makeMap {α : Type} (f : α → Value) {t : TypeId} (hd : Nat.ble (d + 1) N = true)
    (k : ∀ b, Tr N F (mapE b f [] :: L) ((d, .map (some b)) :: M) (wpList P ops Q rest)) : Tr N F L M (wpList P ops Q (⟨some d, .makeMap t none, ty, pos, after, none⟩ :: rest)) := by
  intro a w ha hw
  refine wpList_plain rfl fun K hK => ?_
  unfold Oper.wp
  have hr : (execOp a.eval ⟨some d, .makeMap t none, ty, pos, after, none⟩).run P w = .ok (.value (.map (some w.heap.size))) (w.alloc (.map #[] 0)) := by simp [execOp, Instr.makeMap]
  rw [hr]
  exact hK _ _ (k w.heap.size _ _ (ha.put (Nat.le_of_ble_eq_true hd)) (hw.alloc _ _ ⟨#[], 0, rfl, MapIs.made⟩))
theorem update_run {α : Type} {f : α → Value} {l : List (UInt32 × α)} {w : World} {t K e : TypeId} {b : Nat} (ht : P.underlying t = some (.map K e)) (hK : P.underlying K = some (.int .u32)) (hm : MapIn (HL.hp w) b f l) (k : UInt32) (x : α) :
    ∃ es ck, (Instr.mapUpdate t (.map (some b)) (keyV k) (f x)).run P w = .ok () { w with heap := w.heap.setIfInBounds b (.map es ck) } ∧ MapIs f (mput l k x) es ck := by
  obtain ⟨es, ck, hb, hm⟩ := hm
  replace hb : w.heap[b]? = some (.map es ck) := hb
  rcases hm.find k with ⟨h1, h2, h3⟩ | ⟨j, e0, x0, h1, h2, h3, h4, h5⟩
  · exact ⟨_, _, by simp [Instr.mapUpdate, run_underlying ht, Go.MapKept.run_getObj_map hb, run_checkKey hK (keyV_key k), run_findKey hK h1, run_setObj_map _ hb, Result.andThen], hm.push h2 x⟩
  · have hj : es[j]? = some e0 := by simpa using h2
    exact ⟨_, _, by simp [Instr.mapUpdate, run_underlying ht, Go.MapKept.run_getObj_map hb, run_checkKey hK (keyV_key k), run_findKey hK h1, hj, h3, run_keyThatStays (keyV_key k), run_setObj_map _ hb, Result.andThen], hm.modify h2 h3 h4 x⟩
theorem Tr.mapUpdate {α : Type} {f : α → Value} {l : List (UInt32 × α)} (x0 : α) {x y v : Operand} {t K e : TypeId} {b : Nat} {k : UInt32} {L' : List Ent} {dst : Option Tmp} (hx : opv M x = some (.map (some b))) (hy : opv M y = some (.int .u32 k.toNat)) (hv : opv M v = some (f x0))
    (hput : Put (mapE b f l) (mapE b f (mput l k x0)) L L') (ht : P.underlying t = some (.map K e)) (hK : P.underlying K = some (.int .u32)) (hdst : dst = none)
    (Kk : Tr N F L' M (wpList P ops Q rest)) : Tr N F L M (wpList P ops Q (⟨dst, .mapUpdate t x y v, ty, pos, after, none⟩ :: rest)) := by
  subst hdst
  intro a w ha hw
  refine wpList_plain rfl fun K' hK' => ?_
  have hent := hw.ent _ hput.mem
  have hin : MapIn (HL.hp w) b f l := mapE.in_ hent
  obtain ⟨es0, ck0, hb, _⟩ := hin
  have hb' : w.heap[b]? = some (.map es0 ck0) := hb
  obtain ⟨es, ck, hr, hM⟩ := update_run (P := P) ht hK (mapE.in_ hent) k x0
  simp only [keyV] at hr
  unfold Oper.wp
  simp only [execOp, ha.eval hx, ha.eval hy, ha.eval hv, Sem.run_bind, hr, Result.andThen_ok, Sem.run_pure, Oper.upon, Act.put]
  refine hK' _ _ (Kk _ _ ha ?_)
  have hset := heap_set (o' := .map es ck) hb'
  exact HpOK.set hw hput rfl rfl rfl (by simp) (Nat.le_refl _) (fun k _ hkb => hset.2 k hkb) ⟨es, ck, hset.1, hM⟩
end
end Go.HL
namespace Go.HL
open Go Go.RowKit
/-- The entries of Lo stand in L; R is the rest. -/
inductive Split : List Ent → List Ent → List Ent → Prop
  | nil (L : List Ent) : Split L [] L
  | cons {e : Ent} {L L1 Lo R : List Ent} (h : Del e L L1) (k : Split L1 Lo R) : Split L (e :: Lo) R
theorem Split.perm {L Lo R : List Ent} (h : Split L Lo R) : L.Perm (Lo ++ R) := by
  induction h with
  | nil L => exact .refl _
  | cons h _ ih => exact h.perm.trans (ih.cons _)
/-- What a callee may rely on: these entries hold, each in a block of its own. -/
structure OwnAt (w : World) (L : List Ent) : Prop where
  ent : ∀ e ∈ L, e.holds w
  nodup : (blks L).Nodup
  lt : ∀ b ∈ blks L, b < w.heap.size
theorem HpOK.ownAt {F : Bg} {L : List Ent} {w : World} (h : HpOK F L w) : OwnAt w L := ⟨h.ent, h.nodup, h.lt⟩
theorem OwnAt.left {w : World} {A B : List Ent} (h : OwnAt w (A ++ B)) : OwnAt w A := by
  have hb : blks (A ++ B) = blks A ++ blks B := List.filterMap_append
  exact ⟨fun e he => h.ent e (List.mem_append_left _ he), (List.nodup_append.1 (hb ▸ h.nodup)).1, fun b m => h.lt b (by rw [hb]; exact List.mem_append_left _ m)⟩
/-- The world without the blocks bs. -/
def Bg.lessB (w : World) (bs : List Nat) (d : Nat) : Bg := ⟨fun b => if b ∈ bs then none else w.heap[b]?, w.heap.size, d, w.os, w.tape, w.output, 0, Nat.zero_le _⟩
theorem OwnAt.start {w : World} {L : List Ent} {d : Nat} (h : OwnAt w L) (hd : d ≤ w.drawn) : HpOK (Bg.lessB w (blks L) d) L w := by
  refine ⟨rfl, rfl, rfl, Nat.le_refl _, hd, fun b o e => ?_, h.ent, h.nodup, h.lt, fun b m => ⟨?_, Nat.zero_le _⟩⟩
  · have e' : (if b ∈ blks L then none else w.heap[b]?) = some o := e
    split at e'
    · cases e'
    · exact e'
  · show (if b ∈ blks L then none else w.heap[b]?) = none
    rw [if_pos m]
theorem HpOK.lessB {F : Bg} {L Lo R : List Ent} {w : World} {d : Nat} (h : HpOK F L w) (hs : Split L Lo R) : Hp.le F.blk (Bg.lessB w (blks Lo) d).blk := fun b o e => by
  show (if b ∈ blks Lo then none else w.heap[b]?) = some o
  rw [if_neg, h.bg b o e]
  intro m
  have hb : blks (Lo ++ R) = blks Lo ++ blks R := List.filterMap_append
  have := (h.perm hs.perm.symm).sep b (by rw [hb]; exact List.mem_append_left _ m)
  rw [this.1] at e; cases e
/-- What a callee leaves: only the blocks bs have changed, and the entries Ls hold, in these or in new blocks. -/
structure Upd (d : Nat) (w w' : World) (bs : List Nat) (Ls : List Ent) : Prop where
  os : w'.os = w.os
  tape : w'.tape = w.tape
  output : w'.output = w.output
  size : w.heap.size ≤ w'.heap.size
  dr : d ≤ w'.drawn
  block : ∀ k, k < w.heap.size → k ∉ bs → w'.heap[k]? = w.heap[k]?
  ent : ∀ e ∈ Ls, e.holds w'
  nodup : (blks Ls).Nodup
  lt : ∀ b ∈ blks Ls, b < w'.heap.size
  own : ∀ b ∈ blks Ls, b ∈ bs ∨ w.heap.size ≤ b
theorem HpOK.upd {F : Bg} {L Ls : List Ent} {w w' : World} {bs : List Nat} {d : Nat} (h : HpOK F L w') (hF : (Bg.lessB w bs d).le F) (hs : Pick L Ls) : Upd d w w' bs Ls := by
  have h' := hs.heap h
  refine ⟨h.os.trans hF.os, h.tape.trans hF.tape, h.out.trans hF.out, Nat.le_trans hF.n h.n, by have := h.dr; rw [hF.dr] at this; exact this, fun k hk hn => ?_, h'.ent, h'.nodup, h'.lt, fun b hb => ?_⟩
  · have e : (Bg.lessB w bs d).blk k = some w.heap[k] := by
      show (if k ∈ bs then none else w.heap[k]?) = _
      rw [if_neg hn]; simp [hk]
    rw [h.bg k _ (hF.blk k _ e)]; simp [hk]
  · by_cases hm : b ∈ bs
    · exact .inl hm
    · right
      rcases Nat.lt_or_ge b w.heap.size with hlt | hge
      · have e : (Bg.lessB w bs d).blk b = some w.heap[b] := by
          show (if b ∈ bs then none else w.heap[b]?) = _
          rw [if_neg hm]; simp [hlt]
        have := (h'.sep b hb).1
        rw [hF.blk b _ e] at this; cases this
      · exact hge
theorem HpOK.updated {F : Bg} {Lo R Ls : List Ent} {w w' : World} {d : Nat} (h : HpOK F (Lo ++ R) w) (hd : F.dr ≤ d) (u : Upd d w w' (blks Lo) Ls) : HpOK F (Ls ++ R) w' := by
  have hb : blks (Lo ++ R) = blks Lo ++ blks R := List.filterMap_append
  have hb' : blks (Ls ++ R) = blks Ls ++ blks R := List.filterMap_append
  have hnd := List.nodup_append.1 (hb ▸ h.nodup)
  have notR : ∀ b ∈ blks R, b ∉ blks Lo := fun b hr hl => hnd.2.2 b hl b hr rfl
  have ltR : ∀ b ∈ blks R, b < w.heap.size := fun b hr => h.lt b (by rw [hb]; exact List.mem_append_right _ hr)
  refine ⟨u.os.trans h.os, u.tape.trans h.tape, u.output.trans h.out, Nat.le_trans h.n u.size, Nat.le_trans hd u.dr, fun b o e => ?_, fun e he => ?_, ?_, fun b m => ?_, fun b m => ?_⟩
  · have h1 := h.bg b o e
    rw [u.block b (Array.getElem?_eq_some_iff.1 h1).1 (fun m => by
      have := (h.sep b (by rw [hb]; exact List.mem_append_left _ m)).1
      rw [this] at e; cases e)]
    exact h1
  · rcases List.mem_append.1 he with he | he
    · exact u.ent e he
    · have hh := h.ent e (List.mem_append_right _ he)
      unfold Ent.holds at *
      cases hk : e.blk with
      | none => rw [hk] at hh; exact hh
      | some b =>
        rw [hk] at hh
        simp only [Option.bind_some] at *
        have hm : b ∈ blks R := List.mem_filterMap.2 ⟨e, he, hk⟩
        rw [u.block b (ltR b hm) (notR b hm)]; exact hh
  · rw [hb', List.nodup_append]
    refine ⟨u.nodup, hnd.2.1, fun a ha b hr e => ?_⟩
    subst e
    rcases u.own a ha with m | m
    · exact notR a hr m
    · have := ltR a hr; omega
  · rw [hb'] at m
    rcases List.mem_append.1 m with m | m
    · exact u.lt b m
    · exact Nat.lt_of_lt_of_le (ltR b m) u.size
  · rw [hb'] at m
    rcases List.mem_append.1 m with m | m
    · rcases u.own b m with q | q
      · exact h.sep b (by rw [hb]; exact List.mem_append_left _ q)
      · refine ⟨?_, Nat.le_trans (Nat.le_trans F.lo_le h.n) q⟩
        cases hF : F.blk b with
        | none => rfl
        | some o =>
          have := h.bg _ _ hF
          have := (Array.getElem?_eq_some_iff.1 this).1
          omega
    · exact h.sep b (by rw [hb]; exact List.mem_append_right _ m)
section
variable {P : Program} {ops : Array Oper} {Q : Exit → Act → World → Prop} {N : Nat} {F : Bg} {L : List Ent} {M : Fr} {ty : TypeId} {pos : String} {after : Array Edge} {rest : List Oper} {d : Nat}
theorem enterB {L : List Ent} {bs : List Nat} {f : FuncId} {fn : Func} {c : Code} {args : List Value} {w : World} {R : Ending → World → Prop} {dd : Nat} (ho : OwnAt w L) (hbs : blks L = bs) (hdd : dd ≤ w.drawn) (hf : P.funcs[f]? = some fn) (hb : fn.body = some c) (hN : fn.ntmps = N) (hle : Nat.ble args.length N = true)
    (h : Tr N (Bg.lessB w bs dd) L (frameOf 0 args) (c.wp P (bodyPost P fn R))) (hN0 : Nat.ble N mk0 = true := by rfl) : Calls P f args.toArray w R := by
  subst hbs
  exact calls_of_wp hf hb (h _ w (frameOf_ok (by rw [hN]; simp) hle hN0) (ho.start hdd))
/-- A call that changes own blocks as told. -/
theorem Tr.callObj {ι : Type} (φ : ι → Value) (Lo : List Ent) (Ls : ι → List Ent) {ok : ι → Prop} {f : FuncId} {xs : List Operand} {vs : List Value} {ts : Array TypeId} {R : List Ent} {dd : World → Nat} {dst : Option Tmp} (hx : opvs M xs = some vs)
    (he : ∀ (args : Array Value) (w : World), (callFunc f args).run P w = .ok (.enter f args) w) (hs : Split L Lo R) (hdd : ∀ w, HpOK F L w → F.dr ≤ dd w)
    (hc : ∀ w, HpOK F L w → Calls P f vs.toArray w fun e w' => ∃ i, e = .returned (φ i) ∧ Upd (dd w) w w' (blks Lo) (Ls i) ∧ ok i)
    (K : ∀ i, ok i → ∀ a w, FrOK N M a → HpOK F (Ls i ++ R) w → wpList P ops Q rest (a.put dst (φ i)) w) :
    Tr N F L M (wpList P ops Q (⟨dst, .call { callee := .value (.func f), args := xs.toArray, argTypes := ts }, ty, pos, after, none⟩ :: rest)) := by
  intro a w ha hw
  refine wpList_plain rfl fun K' hK => ?_
  have hr : (execOp a.eval ⟨dst, .call { callee := .value (.func f), args := xs.toArray, argTypes := ts }, ty, pos, after, none⟩).run P w = .ok (.enter f vs.toArray) w := by
    have := ha.evals hx
    simp [execOp, resolve, Deferred.ofValue, Act.eval, invoke, he, this]
  unfold Oper.wp
  rw [hr]
  refine (hc w hw).mono fun e w' ⟨i, h1, h2, h3⟩ => ?_
  subst h1
  exact hK _ _ (K i h3 _ _ ha ((hw.perm hs.perm.symm).updated (hdd w hw) h2))
/-- The same, with a temporary for what it hands back. -/
theorem Tr.callO {ι : Type} (φ : ι → Value) (Lo : List Ent) (Ls : ι → List Ent) {ok : ι → Prop} {f : FuncId} {xs : List Operand} {vs : List Value} {ts : Array TypeId} {R : List Ent} {dd : World → Nat} (hx : opvs M xs = some vs)
    (he : ∀ (args : Array Value) (w : World), (callFunc f args).run P w = .ok (.enter f args) w) (hs : Split L Lo R) (hdd : ∀ w, HpOK F L w → F.dr ≤ dd w)
    (hc : ∀ w, HpOK F L w → Calls P f vs.toArray w fun e w' => ∃ i, e = .returned (φ i) ∧ Upd (dd w) w w' (blks Lo) (Ls i) ∧ ok i) (hd : Nat.ble (d + 1) N = true)
    (K : ∀ i, ok i → Tr N F (Ls i ++ R) ((d, φ i) :: M) (wpList P ops Q rest)) :
    Tr N F L M (wpList P ops Q (⟨some d, .call { callee := .value (.func f), args := xs.toArray, argTypes := ts }, ty, pos, after, none⟩ :: rest)) :=
  Tr.callObj φ Lo Ls hx he hs hdd hc fun i hi a w ha hw => K i hi _ _ (ha.put (Nat.le_of_ble_eq_true hd)) hw
end
end Go.HL
namespace Go.HL
open Go Go.RowKit
def Bg.of0 (w : World) : Bg := { Bg.of w with dr := 0 }
theorem HpOK.start0 (w : World) : HpOK (Bg.of0 w) [] w :=
  ⟨rfl, rfl, rfl, Nat.le_refl _, Nat.zero_le _, fun _ _ h => h, fun _ h => (by cases h), (by simp [blks]), fun _ h => (by simp [blks] at h), fun _ h => (by simp [blks] at h)⟩
theorem HpOK.below0 {w0 w : World} {F : Bg} {L : List Ent} (h : HpOK F L w) (hF : (Bg.of0 w0).le F) : Below w0.heap.size w0 w :=
  ⟨h.os.trans hF.os, h.tape.trans hF.tape, h.out.trans hF.out, Nat.le_trans hF.n h.n, fun k hk => by
    have e : (Bg.of0 w0).blk k = some w0.heap[k] := by simp [Bg.of0, Bg.of, hk]
    rw [h.bg k _ (hF.blk k _ e)]; simp [hk]⟩
def CellsOnly (L : List Ent) : Prop := ∀ e ∈ L, ∀ b, e.blk = some b → ∀ o, e.ok (some o) → o.isCells = true
theorem CellsOnly.nil : CellsOnly [] := fun _ h => by cases h
theorem CellsOnly.cell {b : Nat} {cs : List Value} {T : TypeId} {L : List Ent} (h : CellsOnly L) : CellsOnly (cellE b cs T :: L) := fun e he => by
  rcases List.mem_cons.1 he with rfl | he
  · intro _ _ o ho; cases ho; rfl
  · exact h e he
theorem CellsOnly.row {α : Type} {V : Value} {T : TypeId} {E : Enc α} {l : List α} {L : List Ent} (h : CellsOnly L) : CellsOnly (rowE V T E l :: L) := fun e he => by
  rcases List.mem_cons.1 he with rfl | he
  · intro b hb o ho
    rcases ho with ⟨rfl, _⟩ | ⟨g, cap, cur, _, ho, _⟩
    · cases hb
    · cases ho; rfl
  · exact h e he
def ownW (bs : List Nat) (W : World) (k : Nat) : Prop := k ∈ bs ∨ ∃ b ∈ bs, ∃ V, W.cell? ⟨b, 0, none⟩ = some V ∧ V.ownBlock = some k
structure KpW (bs : List Nat) (W W' : World) : Prop where
  size : W.heap.size ≤ W'.heap.size
  same : ∀ (k : Nat) (o : Obj), W.heap[k]? = some o → o.isCells = true → ¬ ownW bs W k → W'.heap[k]? = some o
  own : ∀ k, ownW bs W' k → ownW bs W k ∨ W.heap.size ≤ k
theorem KpW.trans {bs : List Nat} {A B C : World} (h : KpW bs A B) (k : KpW bs B C) : KpW bs A C :=
  ⟨Nat.le_trans h.size k.size, fun i o hi ho hn => k.same i o (h.same i o hi ho hn) ho fun hb => by
      rcases h.own i hb with h1 | h1
      · exact hn h1
      · have := (Array.getElem?_eq_some_iff.1 hi).1; omega,
    fun i hi => by
      rcases k.own i hi with h1 | h1
      · exact h.own i h1
      · exact .inr (Nat.le_trans h.size h1)⟩
section
variable {P : Program} {ops : Array Oper} {Q : Exit → Act → World → Prop} {N : Nat} {F : Bg} {L : List Ent} {M : Fr} {l0 n : Nat}
end
section
variable {P : Program} {Q : Exit → Act → World → Prop} {N : Nat} {F : Bg} {L : List Ent} {M : Fr}
end
section
variable {P : Program} {N : Nat} {F : Bg} {L : List Ent} {M : Fr}
end
section
variable {P : Program} {Q : Exit → Act → World → Prop} {N : Nat} {F : Bg} {L : List Ent} {M : Fr}
theorem enter0 {f : FuncId} {fn : Func} {c : Code} {args : List Value} {w : World} {R : Ending → World → Prop} (hf : P.funcs[f]? = some fn) (hb : fn.body = some c) (hN : fn.ntmps = N) (hle : Nat.ble args.length N = true)
    (h : Tr N (Bg.of0 w) [] (frameOf 0 args) (c.wp P (bodyPost P fn R))) (hN0 : Nat.ble N mk0 = true := by rfl) : Calls P f args.toArray w R :=
  calls_of_wp hf hb (h _ w (frameOf_ok (by rw [hN]; simp) hle hN0) (HpOK.start0 w))
end
section
open Classical
noncomputable def keptHp (bs : List Nat) (w W1 : World) : Hp := fun k => match W1.heap[k]? with
  | some o => if o.isCells = true ∧ ¬ ownW bs w k then some o else none
  | none => none
end
section
variable {P : Program} {N : Nat} {F : Bg} {L : List Ent} {M : Fr}
end
theorem HpOK.ents0 {F : Bg} {L : List Ent} {w w' : World} {Ls : List Ent} (h : HpOK F L w') (hl : F.lo = w.heap.size) (hs : Pick L Ls) : NewEnts w w' Ls := by
  have h' := hs.heap h
  refine ⟨h'.ent, h'.nodup, h'.lt, fun b hb => ?_⟩
  rw [← hl]; exact (h'.sep b hb).2
end Go.HL
namespace Go.HL
open Go Go.RowKit
section
variable {P : Program} {ops : Array Oper} {Q : Exit → Act → World → Prop} {N : Nat} {F : Bg} {L : List Ent} {M : Fr} {ty : TypeId} {pos : String} {after : Array Edge} {rest : List Oper} {d : Nat} {dst : Option Tmp} {g : Option (Nat × Bool)}
def redrew (w w' : World) : World := { w' with drawn := max w.drawn w'.drawn }
theorem ext_redrew {w w' : World} (h : Below w.heap.size w w') : Ext w (redrew w w') := ⟨⟨h.os, h.tape, h.output, h.size, h.block⟩, Nat.le_max_left _ _⟩
theorem HpOK.redrew {w w' : World} (h : HpOK F L (HL.redrew w w')) (h0 : F.dr = 0) : HpOK F L w' := ⟨h.os, h.tape, h.out, h.n, by rw [h0]; exact Nat.zero_le _, h.bg, h.ent, h.nodup, h.lt, h.sep⟩
theorem HpOK.grow0 {w w' : World} (h : HpOK F L w) (hb : Below w.heap.size w w') (h0 : F.dr = 0) : HpOK F L w' := (h.grow (ext_redrew hb)).redrew h0
theorem QS.call0 {f : FuncId} {xs : List Operand} {vs : List Value} {ts : Array TypeId} {v : Value} (h0 : F.dr = 0) (hx : opvs M xs = some vs)
    (he : ∀ (args : Array Value) (w : World), (callFunc f args).run P w = .ok (.enter f args) w)
    (hc : ∀ w, HpOK F L w → Calls P f vs.toArray w fun e w' => e = .returned v ∧ Below w.heap.size w w') :
    QS P N F L M ⟨dst, .call { callee := .value (.func f), args := xs.toArray, argTypes := ts }, ty, pos, after, g⟩ v := by
  intro a w ha hw
  have hr : (execOp a.eval ⟨dst, .call { callee := .value (.func f), args := xs.toArray, argTypes := ts }, ty, pos, after, g⟩).run P w = .ok (.enter f vs.toArray) w := by
    have := ha.evals hx
    simp [execOp, resolve, Deferred.ofValue, Act.eval, invoke, he, this]
  unfold Oper.quietAt
  rw [hr]
  exact ⟨rfl, (hc w hw).mono fun e w' ⟨h1, h2⟩ => ⟨h1, hw.grow0 h2 h0⟩⟩
theorem Tr.callEnts0 {ι : Type} (φ : ι → Value) (Ls : ι → List Ent) {ok : ι → Prop} {f : FuncId} {xs : List Operand} {vs : List Value} {ts : Array TypeId} (h0 : F.dr = 0) (hx : opvs M xs = some vs)
    (he : ∀ (args : Array Value) (w : World), (callFunc f args).run P w = .ok (.enter f args) w)
    (hc : ∀ w, HpOK F L w → Calls P f vs.toArray w fun e w' => ∃ i, e = .returned (φ i) ∧ Below w.heap.size w w' ∧ NewEnts w w' (Ls i) ∧ ok i) (hd : Nat.ble (d + 1) N = true)
    (K : ∀ i, ok i → Tr N F (Ls i ++ L) ((d, φ i) :: M) (wpList P ops Q rest)) :
    Tr N F L M (wpList P ops Q (⟨some d, .call { callee := .value (.func f), args := xs.toArray, argTypes := ts }, ty, pos, after, none⟩ :: rest)) := by
  intro a w ha hw
  refine wpList_plain rfl fun K' hK => ?_
  have hr : (execOp a.eval ⟨some d, .call { callee := .value (.func f), args := xs.toArray, argTypes := ts }, ty, pos, after, none⟩).run P w = .ok (.enter f vs.toArray) w := by
    have := ha.evals hx
    simp [execOp, resolve, Deferred.ofValue, Act.eval, invoke, he, this]
  unfold Oper.wp
  rw [hr]
  refine (hc w hw).mono fun e w' ⟨i, h1, h2, h3, h4⟩ => ?_
  subst h1
  have hn : NewEnts w (redrew w w') (Ls i) := ⟨h3.ent, h3.nodup, h3.lt, h3.ge⟩
  exact hK _ _ (K i h4 _ _ (ha.put (Nat.le_of_ble_eq_true hd)) ((hw.newEnts (ext_redrew h2) hn).redrew h0))
end
end Go.HL
namespace Go.HL
open Go Go.RowKit
/-- Blocks below n as H has them, the others as h has them. -/
def vis (H : Hp) (n : Nat) (h : Hp) : Hp := fun b => if b < n then H b else h b
theorem vis_le {H h : Hp} {n : Nat} (hH : Hp.le H h) : Hp.le (vis H n h) h := fun b o e => by
  unfold vis at e; split at e
  · exact hH b o e
  · exact e
theorem vis_mono {H h h' : Hp} {n : Nat} (hh : Hp.le h h') : Hp.le (vis H n h) (vis H n h') := fun b o e => by
  unfold vis at e ⊢; split at e
  · rw [if_pos (by assumption)]; exact e
  · rw [if_neg (by assumption)]; exact hh b o e
theorem HpOK.vis {F : Bg} {L : List Ent} {w : World} {H : Hp} {n : Nat} (h : HpOK F L w) : Hp.le (HL.vis H n F.blk) (HL.vis H n (HL.hp w)) := vis_mono h.hp
theorem Sl.vis {α : Type} {F : Bg} {E : Enc α} {l : List α} {V : Value} {H : Hp} {n : Nat} (s : Sl (HL.vis H n F.blk) E l V) (hH : Hp.le H F.blk) : Sl F.blk E l V := s.mono (vis_le hH)
section
variable {P : Program} {ops : Array Oper} {Q : Exit → Act → World → Prop} {N : Nat} {F : Bg} {L : List Ent} {M : Fr} {dst : Option Tmp} {ty : TypeId} {pos : String} {after : Array Edge} {g : Option (Nat × Bool)} {rest : List Oper} {d : Nat}
/-- A call that hands back something to be read: parts that the caller shows it (H0 and what is new since), or new ones. -/
theorem Tr.callV {ι : Type} {R : Hp → ι → Prop} (φ : ι → Value) {H0 : Hp} {n : Nat} (hn : F.lo = n) (hH : Hp.le H0 F.blk) {f : FuncId} {xs : List Operand} {vs : List Value} {ts : Array TypeId} (hR : ∀ h h' i, Hp.le h h' → R h i → R h' i) (hx : opvs M xs = some vs)
    (he : ∀ (args : Array Value) (w : World), (callFunc f args).run P w = .ok (.enter f args) w)
    (hc : ∀ w, HpOK F L w → Hp.le (vis H0 n F.blk) (HL.hp w) → Calls P f vs.toArray w fun e w' => ∃ i, e = .returned (φ i) ∧ Ext w w' ∧ R (vis (vis H0 n F.blk) w.heap.size (HL.hp w')) i) (hd : Nat.ble (d + 1) N = true)
    (K : ∀ i F', F.le F' → R (vis H0 n F'.blk) i → Tr N F' L ((d, φ i) :: M) (wpList P ops Q rest)) :
    Tr N F L M (wpList P ops Q (⟨some d, .call { callee := .value (.func f), args := xs.toArray, argTypes := ts }, ty, pos, after, none⟩ :: rest)) := by
  subst hn
  intro a w ha hw
  refine wpList_plain rfl fun K' hK => ?_
  have hr : (execOp a.eval ⟨some d, .call { callee := .value (.func f), args := xs.toArray, argTypes := ts }, ty, pos, after, none⟩).run P w = .ok (.enter f vs.toArray) w := by
    have := ha.evals hx
    simp [execOp, resolve, Deferred.ofValue, Act.eval, invoke, he, this]
  unfold Oper.wp
  rw [hr]
  refine (hc w hw ((vis_le hH).trans hw.hp)).mono fun e w' ⟨i, h1, h2, h3⟩ => ?_
  subst h1
  obtain ⟨F', e1, e2, e3⟩ := (hw.grow h2).freeze
  refine hK _ _ (K i F' e1 (hR _ _ _ ?_ h3) _ _ (ha.put (Nat.le_of_ble_eq_true hd)) e2)
  intro b o e
  unfold vis at e ⊢
  by_cases c : b < w.heap.size
  · rw [if_pos c] at e
    split at e
    · rw [if_pos (by assumption)]; exact e
    · rw [if_neg (by assumption)]; exact e1.blk b o e
  · rw [if_neg c] at e
    have hge : ¬ b < F.lo := by have := F.lo_le; have := hw.n; omega
    rw [if_neg hge]
    exact e3 b o (fun hm => by have := hw.lt b hm; omega) e
/-- Own entries become only read. -/
theorem Tr.frozenL {Ls R : List Ent} {X : Act → World → Prop} (hs : Split L Ls R) (K : ∀ F', F.le F' → (∀ e ∈ Ls, e.ok (e.blk.bind F'.blk)) → Tr N F' R M X) : Tr N F L M X := by
  intro a w ha hw
  have hp := hw.perm hs.perm.symm
  have h1 : HpOK F R w := hp.mem (List.sublist_append_right _ _)
  obtain ⟨F', e1, e2, e3⟩ := h1.freeze
  refine K F' e1 (fun e he => ?_) a w ha e2
  have hh := hp.ent e (List.mem_append_left _ he)
  unfold Ent.holds at hh
  cases hk : e.blk with
  | none => rw [hk] at hh; exact hh
  | some b =>
    rw [hk] at hh
    simp only [Option.bind_some] at hh ⊢
    have hbl : blks (Ls ++ R) = blks Ls ++ blks R := List.filterMap_append
    have hnd := List.nodup_append.1 (hbl ▸ hp.nodup)
    have hb : b ∈ blks Ls := List.mem_filterMap.2 ⟨e, he, hk⟩
    have hnot : b ∉ blks R := fun hr => hnd.2.2 b hb b hr rfl
    have hlt := hp.lt b (by rw [hbl]; exact List.mem_append_left _ hb)
    have hsome : w.heap[b]? = some w.heap[b] := by simp [hlt]
    rw [e3 b _ hnot hsome, ← hsome]; exact hh
theorem cellE.cellsInL {b : Nat} {cs : List Value} {T : TypeId} {h : Hp} {Ls : List Ent} (k : ∀ e ∈ Ls, e.ok (e.blk.bind h)) (hm : cellE b cs T ∈ Ls) : CellsIn h b cs := by
  have hk := k _ hm
  exact ⟨cs.toArray, T, (0, 0), hk, fun j v hv => by simpa using hv⟩
end
end Go.HL
namespace Go.HL
open Go
/-- A region of memory, and where its bytes lie. -/
structure RegV where
  org : Nat
  data : List UInt8
  dp : Option Addr
  dc : Nat
  wr : Bool
  ex : Bool
  deriving Inhabited
def encReg : Enc RegV := ⟨4, fun r => [.int .u64 r.org, .slice r.dp r.data.length r.dc, .bool r.wr, .bool r.ex], fun _ => rfl, fun x v h => by simp at h; rcases h with h | h | h | h <;> subst h <;> rfl⟩
def zeroReg : RegV := ⟨0, [], none, 0, false, false⟩
def RegIn (h : Hp) (l : List RegV) : Prop := ∀ r ∈ l, Sl h encU8 r.data (.slice r.dp r.data.length r.dc)
theorem RegIn.mono {h h' : Hp} {l : List RegV} (d : RegIn h l) (hh : Hp.le h h') : RegIn h' l := fun s hs => (d s hs).mono hh
structure Reg where
  org : Nat
  data : List UInt8
  wr : Bool
  ex : Bool
def RegV.pl (r : RegV) : Reg := ⟨r.org, r.data, r.wr, r.ex⟩
def secR (s : SecV) : Reg := ⟨s.addr.toNat, s.data, s.wr, s.ex⟩
def stkR : Reg := ⟨978944, List.replicate 4096 0, true, false⟩
def inG (a : UInt32) (r : RegV) : Bool := decide (r.org ≤ a.toNat) && decide (a.toNat < r.org + r.data.length)
def inGp (a : UInt32) (r : Reg) : Bool := decide (r.org ≤ a.toNat) && decide (a.toNat < r.org + r.data.length)
def fndI (rs : List RegV) (a : UInt32) : Int := idxP (inG a) 0 rs
def fndR (rs : List RegV) (a : UInt32) : RegV := if fndI rs a < 0 then zeroReg else rs.getD (fndI rs a).toNat default
/-- Regions that were made out of checked sections. -/
structure MemOK (l : List SecV) (rs : List RegV) : Prop where
  chk : checkS l = 0
  pl : rs.map RegV.pl = l.map secR ++ [stkR]
theorem idxP_ge {α : Type} (p : α → Bool) : ∀ (l : List α) (k : Nat), 0 ≤ idxP p k l → (k : Int) ≤ idxP p k l ∧ idxP p k l < (k : Int) + l.length
  | l, k, h => by
    have := idxP_bound p l k
    refine ⟨?_, this.2⟩
    induction l generalizing k with
    | nil => simp [idxP] at h
    | cons x l ih =>
      unfold idxP at h ⊢
      split
      · exact Int.le_refl _
      · rename_i hx
        rw [if_neg hx] at h
        have := ih (k + 1) h (idxP_bound p l (k + 1))
        omega
theorem idxP_app {α : Type} (p : α → Bool) : ∀ (l m : List α) (k : Nat), idxP p k (l ++ m) = if idxP p k l < 0 then idxP p (k + l.length) m else idxP p k l
  | [], m, k => by simp [idxP]
  | x :: l, m, k => by
    rw [List.cons_append, idxP, idxP, List.length_cons]
    by_cases h : p x = true
    · rw [if_pos h, if_pos h, if_neg (by omega)]
    · rw [if_neg h, if_neg h, idxP_app p l m (k + 1), show k + 1 + l.length = k + (l.length + 1) by omega]
theorem idxP_congr {α β : Type} {p : α → Bool} {q : β → Bool} : ∀ (l : List α) (m : List β) (k : Nat), l.length = m.length → (∀ (i : Nat) (x : α) (y : β), l[i]? = some x → m[i]? = some y → p x = q y) → idxP p k l = idxP q k m
  | [], [], _, _, _ => rfl
  | [], y :: m, _, h, _ => by simp at h
  | x :: l, [], _, h, _ => by simp at h
  | x :: l, y :: m, k, h, hp => by
    unfold idxP
    rw [hp 0 x y rfl rfl, idxP_congr l m (k + 1) (by simpa using h) (fun i a b ha hb => hp (i + 1) a b (by simpa using ha) (by simpa using hb))]
section
variable {l : List SecV} {rs : List RegV} {a : UInt32}
theorem MemOK.len (h : MemOK l rs) : rs.length = l.length + 1 := by
  have := congrArg List.length h.pl
  simpa using this
theorem MemOK.at_ (h : MemOK l rs) {k : Nat} (hk : k < rs.length) : (rs.getD k default).pl = if k < l.length then secR (l.getD k default) else stkR := by
  have h1 : (rs.map RegV.pl)[k]? = some (rs.getD k default).pl := by
    rw [List.getElem?_map, get_getD hk]; rfl
  rw [h.pl, List.getElem?_append] at h1
  split
  · rename_i hl
    rw [if_pos (by simpa using hl), List.getElem?_map, get_getD hl] at h1
    simpa using h1.symm
  · rename_i hl
    rw [if_neg (by simpa using hl)] at h1
    have := h.len
    have hk0 : k - (l.map secR).length = 0 := by simp; omega
    rw [hk0] at h1
    simpa using h1.symm
theorem MemOK.bounds (h : MemOK l rs) : rs.length ≤ 17 ∧ ∀ r ∈ rs, r.data.length ≤ 65536 ∧ r.org + r.data.length ≤ 4294967295 := by
  obtain ⟨h1, h2⟩ := check_facts h.chk
  refine ⟨by have := h.len; omega, fun r hr => ?_⟩
  have hm : r.pl ∈ l.map secR ++ [stkR] := by rw [← h.pl]; exact List.mem_map.2 ⟨r, hr, rfl⟩
  rcases List.mem_append.1 hm with hm | hm
  · obtain ⟨s, hs, e⟩ := List.mem_map.1 hm
    have := h2 s hs
    have e1 : r.data = s.data := (congrArg Reg.data e).symm
    have e2 : r.org = s.addr.toNat := (congrArg Reg.org e).symm
    rw [e1, e2]; omega
  · have e := List.mem_singleton.1 hm
    have e1 : r.data = List.replicate 4096 0 := congrArg Reg.data e
    have e2 : r.org = 978944 := congrArg Reg.org e
    rw [e1, e2, List.length_replicate]; omega
theorem chk_over (h : checkS l = 0) : ∀ i, i < l.length → overP l i = false := by
  unfold checkS at h
  split at h
  · simp at h
  · split at h
    · rename_i h1; exact absurd h h1
    · intro i hi
      have := firstP_all _ _ h i (Nat.zero_le _) (by omega)
      by_cases c : overP l i = true
      · simp [c] at this
      · simpa using c
/-- Two checked sections have no address in common. -/
theorem chk_apart (h : checkS l = 0) {i j : Nat} (hij : i < j) (hj : j < l.length) (hi : inS a (l.getD i default) = true) (hj2 : inS a (l.getD j default) = true) : False := by
  have h1 := chk_over h j hj
  have h2 : (l.take j).any (fun x => meetP (spaceP x) (spaceP (l.getD j default))) = true := List.any_eq_true.2 ⟨l.getD i default, by
    rw [List.mem_take_iff_getElem]; exact ⟨i, by omega, by rw [List.getD_eq_getElem?_getD, List.getElem?_eq_getElem (by omega)]; rfl⟩, by
    obtain ⟨p1, p2⟩ := inS_iff.1 hi
    obtain ⟨q1, q2⟩ := inS_iff.1 hj2
    refine (meet_iff _ _).2 ?_
    unfold endP at p2 q2 ⊢
    omega⟩
  unfold overP at h1
  rw [h2] at h1
  cases h1
/-- No checked section meets the stack. -/
theorem check_stk (h : checkS l = 0) {s : SecV} (hs : s ∈ l) : meetP (spaceP s) stackP = false := by
  obtain ⟨k, hk, e⟩ := List.getElem_of_mem hs
  have hl : ¬ (l.length : Int) > 16 := fun q => by rw [check_0 (by omega)] at h; cases h
  unfold checkS at h
  rw [if_neg hl] at h
  by_cases h1 : firstP (oneP l) 0 l.length ≠ 0
  · rw [if_pos h1] at h; exact absurd h h1
  · have h2 := firstP_all l.length 0 (Decidable.not_not.1 h1) k (Nat.zero_le _) (by omega)
    unfold oneP at h2
    have e' : l.getD k default = s := by rw [List.getD_eq_getElem?_getD, List.getElem?_eq_getElem hk, e]; rfl
    simp only [e'] at h2
    repeat' (split at h2 <;> try cases h2)
    rename_i q
    simp only [not_or, Bool.not_eq_true] at q
    exact q.2
theorem check_space (h : checkS l = 0) {s : SecV} (hs : s ∈ l) : inS a s = true ↔ s.addr.toNat ≤ a.toNat ∧ a.toNat < s.addr.toNat + s.data.length := by
  have := (check_facts h).2 s hs
  rw [inS_iff]
  unfold endP
  omega
theorem inStk_iff : inStk a = true ↔ 978944 ≤ a.toNat ∧ a.toNat < 983040 := by
  simp [inStk, UInt32.le_iff_toNat_le, UInt32.lt_iff_toNat_lt]
theorem stk_none (h : checkS l = 0) (hs : inStk a = true) : findP l a = -1 := by
  obtain ⟨h1, h2⟩ := inStk_iff.1 hs
  rcases Int.lt_or_le (findP l a) 0 with q | q
  · have := findP_lt (l := l) (a := a); omega
  · exfalso
    have hlt := findP_lt (l := l) (a := a)
    have hin := findP_in q
    have hm := mem_getD (l := l) (k := (findP l a).toNat) (by omega)
    have h3 := check_stk h hm
    have h4 := (check_space h hm).1 hin
    have hst := stack_iff (l.getD (findP l a).toNat default)
    rw [h3] at hst
    have h5 := (check_facts h).2 _ hm
    have := hst.2 ⟨⟨by omega, by omega⟩, by unfold endP; omega⟩
    cases this
theorem MemOK.idx (h : MemOK l rs) : fndI rs a = if findP l a < 0 then (if inStk a = true then (l.length : Int) else -1) else findP l a := by
  have e1 : fndI rs a = idxP (inGp a) 0 (rs.map RegV.pl) := by rw [← idxP_map]; rfl
  rw [e1, h.pl, idxP_app]
  have e2 : idxP (inGp a) 0 (l.map secR) = findP l a := by
    rw [← idxP_map]
    refine idxP_congr l l 0 rfl (fun i x y hx hy => ?_)
    rw [hx] at hy; cases hy
    have hm : x ∈ l := List.mem_of_getElem? hx
    rw [Bool.eq_iff_iff, check_space h.chk hm]
    simp only [inGp, secR, Bool.and_eq_true]
    exact ⟨fun ⟨q1, q2⟩ => ⟨of_decide_eq_true q1, of_decide_eq_true q2⟩, fun ⟨q1, q2⟩ => ⟨decide_eq_true q1, decide_eq_true q2⟩⟩
  rw [e2]
  split
  · have e3 : idxP (inGp a) (0 + (l.map secR).length) [stkR] = if inStk a = true then (l.length : Int) else -1 := by
      have : inGp a stkR = inStk a := by
        rw [Bool.eq_iff_iff, inStk_iff]
        simp only [inGp, stkR, List.length_replicate, Bool.and_eq_true]
        exact ⟨fun ⟨q1, q2⟩ => ⟨of_decide_eq_true q1, of_decide_eq_true q2⟩, fun ⟨q1, q2⟩ => ⟨decide_eq_true q1, decide_eq_true q2⟩⟩
      simp only [idxP, this, List.length_map, Nat.zero_add]
    exact e3
  · rfl
theorem check_one {b : UInt32} (h : checkS l = 0) (hq : ¬ findP l a < 0) (hb : (secA l a).addr.toNat ≤ b.toNat ∧ b.toNat < (secA l a).addr.toNat + (secA l a).data.length) : findP l b = findP l a := by
  have ha := findP_lt (l := l) (a := a)
  have hlt := findP_lt (l := l) (a := b)
  have hm : secA l a ∈ l := mem_getD (by omega)
  have hin : inS b (secA l a) = true := (check_space h hm).2 hb
  have hge : 0 ≤ findP l b := (idxP_iff (inS b) l 0).2 (List.any_eq_true.2 ⟨_, hm, hin⟩)
  have hbin := findP_in hge
  unfold secA at hin
  rcases Nat.lt_trichotomy (findP l b).toNat (findP l a).toNat with q | q | q
  · exact (chk_apart h q (by omega) hbin hin).elim
  · omega
  · exact (chk_apart h q (by omega) hin hbin).elim
/-- What the region of an address is. -/
theorem MemOK.reg (h : MemOK l rs) (hf : ¬ fndI rs a < 0) : (fndR rs a).pl = (if inStk a = true then stkR else secR (secA l a)) ∧ noReg l a = false ∧ fndR rs a ∈ rs ∧ (fndR rs a).org ≤ a.toNat ∧ a.toNat < (fndR rs a).org + (fndR rs a).data.length := by
  have hb := idxP_ge (inG a) rs 0 (by unfold fndI at hf; omega)
  have hk : (fndI rs a).toNat < rs.length := by unfold fndI; omega
  have hr : fndR rs a = rs.getD (fndI rs a).toNat default := by unfold fndR; rw [if_neg hf]
  have hin : inG a (fndR rs a) = true := by
    have := idxP_at (inG a) rs 0 (by unfold fndI at hf; omega)
    rw [hr]
    have e : (idxP (inG a) 0 rs - ((0 : Nat) : Int)).toNat = (fndI rs a).toNat := by unfold fndI; simp
    rw [e] at this
    exact this.2
  simp only [inG, Bool.and_eq_true, decide_eq_true_eq] at hin
  refine ⟨?_, ?_, by rw [hr]; exact mem_getD hk, hin.1, hin.2⟩
  · rw [hr, h.at_ hk]
    have hx := h.idx (a := a)
    by_cases hs : inStk a = true
    · rw [if_pos hs]
      rw [stk_none h.chk hs, if_pos (by decide), if_pos hs] at hx
      rw [if_neg (by omega)]
    · rw [if_neg hs]
      by_cases hq : findP l a < 0
      · rw [if_pos hq, if_neg hs] at hx; omega
      · rw [if_neg hq] at hx
        have := findP_lt (l := l) (a := a)
        rw [hx, if_pos (by omega)]; rfl
  · have hx := h.idx (a := a)
    unfold noReg
    by_cases hs : inStk a = true
    · rw [hs]; rfl
    · by_cases hq : findP l a < 0
      · rw [if_pos hq, if_neg hs] at hx; omega
      · simp [hq]
theorem MemOK.none (h : MemOK l rs) (hf : fndI rs a < 0) : noReg l a = true ∧ restA l a = 0 := by
  have hx := h.idx (a := a)
  have hb := findP_lt (l := l) (a := a)
  by_cases hq : findP l a < 0
  · rw [if_pos hq] at hx
    by_cases hs : inStk a = true
    · rw [if_pos hs] at hx; omega
    · unfold noReg restA
      rw [if_neg hs, if_pos hq]
      simp [hs, hq]
  · rw [if_neg hq] at hx; omega
theorem MemOK.rest (h : MemOK l rs) (hf : ¬ fndI rs a < 0) : restA l a = ((fndR rs a).org : Int) + (fndR rs a).data.length - a.toNat := by
  obtain ⟨h1, h2, _, _, _⟩ := h.reg hf
  have e1 := congrArg Reg.org h1
  have e2 := congrArg Reg.data h1
  unfold restA
  by_cases hs : inStk a = true
  · rw [if_pos hs] at e1 e2 ⊢
    have e1' : (fndR rs a).org = 978944 := e1
    have e2' : (fndR rs a).data = List.replicate 4096 0 := e2
    rw [e1', e2', List.length_replicate]; omega
  · rw [if_neg hs] at e1 e2 ⊢
    have hq : ¬ findP l a < 0 := by
      intro q; unfold noReg at h2; simp [hs, q] at h2
    have e1' : (fndR rs a).org = (secA l a).addr.toNat := e1
    have e2' : (fndR rs a).data = (secA l a).data := e2
    rw [if_neg hq, e1', e2']
theorem MemOK.rights (h : MemOK l rs) (hf : ¬ fndI rs a < 0) : (fndR rs a).wr = wrA l a ∧ (fndR rs a).ex = exA l a := by
  obtain ⟨h1, _⟩ := h.reg hf
  have e1 := congrArg Reg.wr h1
  have e2 := congrArg Reg.ex h1
  unfold wrA exA
  by_cases hs : inStk a = true
  · rw [if_pos hs] at e1 e2
    rw [hs]; exact ⟨e1, e2⟩
  · rw [if_neg hs] at e1 e2
    simp only [hs, Bool.false_or, Bool.not_false, Bool.true_and]
    exact ⟨e1, e2⟩
/-- Two addresses of one region. -/
theorem MemOK.same (h : MemOK l rs) (hf : ¬ fndI rs a < 0) {b : UInt32} (hb : (fndR rs a).org ≤ b.toNat ∧ b.toNat < (fndR rs a).org + (fndR rs a).data.length) : ¬ fndI rs b < 0 ∧ (fndR rs b).pl = (fndR rs a).pl ∧ inStk b = inStk a ∧ (inStk a = false → findP l b = findP l a) := by
  obtain ⟨h1, h2, _, _, _⟩ := h.reg hf
  have e1 := congrArg Reg.org h1
  have e2 := congrArg Reg.data h1
  by_cases hs : inStk a = true
  · rw [if_pos hs] at e1 e2
    have e1' : (fndR rs a).org = 978944 := e1
    have e2' : (fndR rs a).data = List.replicate 4096 0 := e2
    rw [e1', e2', List.length_replicate] at hb
    have hsb : inStk b = true := inStk_iff.2 hb
    have hx := h.idx (a := b)
    rw [stk_none h.chk hsb, if_pos (by decide), if_pos hsb] at hx
    have hfb : ¬ fndI rs b < 0 := by omega
    refine ⟨hfb, ?_, by rw [hs, hsb], fun q => by rw [hs] at q; cases q⟩
    rw [(h.reg hfb).1, h1, if_pos hsb, if_pos hs]
  · rw [if_neg hs] at e1 e2
    have hq : ¬ findP l a < 0 := by intro q; unfold noReg at h2; simp [hs, q] at h2
    have e1' : (fndR rs a).org = (secA l a).addr.toNat := e1
    have e2' : (fndR rs a).data = (secA l a).data := e2
    rw [e1', e2'] at hb
    have hlt := findP_lt (l := l) (a := a)
    have hm : secA l a ∈ l := mem_getD (by omega)
    have hsb : inStk b = false := by
      rw [← Bool.not_eq_true]; intro q
      obtain ⟨q1, q2⟩ := inStk_iff.1 q
      have h3 := check_stk h.chk hm
      have h5 := (check_facts h.chk).2 _ hm
      have hst := stack_iff (secA l a)
      rw [h3] at hst
      have := hst.2 ⟨⟨by omega, by omega⟩, by unfold endP; omega⟩
      cases this
    have hfeq : findP l b = findP l a := check_one h.chk hq hb
    have hx := h.idx (a := b)
    rw [hfeq, if_neg hq] at hx
    have hfb : ¬ fndI rs b < 0 := by omega
    refine ⟨hfb, ?_, by rw [hsb]; simpa using hs, fun _ => hfeq⟩
    rw [(h.reg hfb).1, h1, if_neg (by simp [hsb]), if_neg hs]
    unfold secA; rw [hfeq]
end
end Go.HL
namespace Go.HL
open Go
def u8V (x : UInt8) : Value := .int .u8 (x.toNat : Int)
abbrev WL := List (UInt32 × UInt8)
def mread (wl : WL) : WrF := fun a => mget wl a
theorem u32_nat (k : Nat) : u32 (k : Int) = UInt32.ofNat k := by
  rw [← UInt32.toNat_inj]
  unfold u32
  simp only [UInt32.toNat_ofNat']
  omega
theorem ofNat_succ (a : UInt32) (k : Nat) : a + 1 + UInt32.ofNat k = a + UInt32.ofNat (k + 1) := by
  rw [← UInt32.toNat_inj]
  simp only [UInt32.toNat_add, UInt32.toNat_ofNat', UInt32.toNat_one]
  omega
theorem add_nat {a : UInt32} {k : Nat} (h : a.toNat + k < 4294967296) : (a + UInt32.ofNat k).toNat = a.toNat + k := by
  simp only [UInt32.toNat_add, UInt32.toNat_ofNat']
  omega
def ovr (wl : WL) (a : UInt32) : List UInt8 → List UInt8
  | [] => []
  | b :: t => (mget wl a).getD b :: ovr wl (a + 1) t
theorem ovr_len (wl : WL) : ∀ (l : List UInt8) (a : UInt32), (ovr wl a l).length = l.length
  | [], _ => rfl
  | b :: t, a => by simp [ovr, ovr_len wl t]
theorem ovr_get (wl : WL) : ∀ (l : List UInt8) (a : UInt32) (k : Nat), (ovr wl a l)[k]? = (l[k]?).map fun b => (mget wl (a + UInt32.ofNat k)).getD b
  | [], a, k => by simp [ovr]
  | b :: t, a, 0 => by
    have : a + UInt32.ofNat 0 = a := by rw [← UInt32.toNat_inj, add_nat (by have := a.toNat_lt; omega)]; rfl
    simp only [ovr, List.getElem?_cons_zero, Option.map_some, this]
  | b :: t, a, k + 1 => by
    simp only [ovr, List.getElem?_cons_succ]
    rw [ovr_get wl t (a + 1) k, ofNat_succ]
theorem ovr_yes {wl : WL} {a : UInt32} {l : List UInt8} {k : Nat} {x : UInt8} (hk : k < l.length) (h : mget wl (a + UInt32.ofNat k) = some x) : (ovr wl a (l.take k) ++ l.drop k).set k x = ovr wl a (l.take (k + 1)) ++ l.drop (k + 1) := by
  apply List.ext_getElem?
  intro j
  have h1 : (ovr wl a (l.take k)).length = k := by rw [ovr_len, List.length_take]; omega
  have h2 : (ovr wl a (l.take (k + 1))).length = k + 1 := by rw [ovr_len, List.length_take]; omega
  rw [List.getElem?_set, List.getElem?_append, List.getElem?_append, h1, h2]
  have hl : (ovr wl a (l.take k) ++ l.drop k).length = l.length := by rw [List.length_append, h1, List.length_drop]; omega
  rw [hl]
  by_cases c : k = j
  · subst c
    rw [if_pos rfl, if_pos hk, if_pos (by omega), ovr_get, List.getElem?_take, if_pos (by omega), List.getElem?_eq_getElem hk]
    simp [h]
  · rw [if_neg c]
    by_cases c2 : j < k
    · rw [if_pos c2, if_pos (by omega), ovr_get, ovr_get, List.getElem?_take, List.getElem?_take, if_pos c2, if_pos (by omega)]
    · rw [if_neg c2, if_neg (by omega), List.getElem?_drop, List.getElem?_drop]
      congr 1; omega
theorem ovr_no {wl : WL} {a : UInt32} {l : List UInt8} {k : Nat} (hk : k < l.length) (h : mget wl (a + UInt32.ofNat k) = none) : ovr wl a (l.take k) ++ l.drop k = ovr wl a (l.take (k + 1)) ++ l.drop (k + 1) := by
  apply List.ext_getElem?
  intro j
  have h1 : (ovr wl a (l.take k)).length = k := by rw [ovr_len, List.length_take]; omega
  have h2 : (ovr wl a (l.take (k + 1))).length = k + 1 := by rw [ovr_len, List.length_take]; omega
  rw [List.getElem?_append, List.getElem?_append, h1, h2]
  by_cases c : k = j
  · subst c
    rw [if_neg (by omega), if_pos (by omega), ovr_get, List.getElem?_take, if_pos (by omega), List.getElem?_drop, List.getElem?_eq_getElem (by omega : k + (k - k) < l.length)]
    simp [h, List.getElem?_eq_getElem hk]
  · by_cases c2 : j < k
    · rw [if_pos c2, if_pos (by omega), ovr_get, ovr_get, List.getElem?_take, List.getElem?_take, if_pos c2, if_pos (by omega)]
    · rw [if_neg c2, if_neg (by omega), List.getElem?_drop, List.getElem?_drop]
      congr 1; omega
def presR (r : RegV) (wl : WL) (a : UInt32) (n : Nat) : List UInt8 := ovr wl a ((r.data.drop (a.toNat - r.org)).take n)
theorem bytesA_len (l : List SecV) (w : WrF) : ∀ (n : Nat) (a : UInt32), (bytesA l w a n).length = n
  | 0, _ => rfl
  | n + 1, a => by simp [bytesA, bytesA_len l w n]
theorem bytesA_get (l : List SecV) (w : WrF) : ∀ (n : Nat) (a : UInt32) (k : Nat), k < n → (bytesA l w a n)[k]? = some (byteA l w (a + UInt32.ofNat k))
  | 0, _, k, h => by omega
  | n + 1, a, 0, _ => by
    have : a + UInt32.ofNat 0 = a := by rw [← UInt32.toNat_inj, add_nat (by have := a.toNat_lt; omega)]; rfl
    simp only [bytesA, List.getElem?_cons_zero, this]
  | n + 1, a, k + 1, h => by
    simp only [bytesA, List.getElem?_cons_succ]
    rw [bytesA_get l w n (a + 1) k (by omega), ofNat_succ]
section
variable {l : List SecV} {rs : List RegV} {a : UInt32} {wl : WL}
theorem MemOK.top (h : MemOK l rs) (hf : ¬ fndI rs a < 0) : (fndR rs a).org + (fndR rs a).data.length ≤ 4294967295 ∧ (fndR rs a).data.length ≤ 65536 := by
  have := (h.bounds.2 _ (h.reg hf).2.2.1); omega
theorem MemOK.init (h : MemOK l rs) (hf : ¬ fndI rs a < 0) {b : UInt32} (hb : (fndR rs a).org ≤ b.toNat ∧ b.toNat < (fndR rs a).org + (fndR rs a).data.length) : initA l b = (fndR rs a).data.getD (b.toNat - (fndR rs a).org) 0 := by
  obtain ⟨hfb, hpl, hst, hfi⟩ := h.same hf hb
  obtain ⟨h1, h2, _, _, _⟩ := h.reg hf
  have e1 := congrArg Reg.org h1
  have e2 := congrArg Reg.data h1
  unfold initA
  by_cases hs : inStk a = true
  · rw [if_pos (.inl (hst.trans hs))]
    rw [if_pos hs] at e2
    have e2' : (fndR rs a).data = List.replicate 4096 0 := e2
    rw [e2', List.getD_eq_getElem?_getD, List.getElem?_replicate]
    split <;> rfl
  · have hs' : inStk a = false := by simpa using hs
    rw [if_neg hs] at e1 e2
    have e1' : (fndR rs a).org = (secA l a).addr.toNat := e1
    have e2' : (fndR rs a).data = (secA l a).data := e2
    have hq : ¬ findP l a < 0 := by intro q; unfold noReg at h2; simp [hs, q] at h2
    have hfe := hfi hs'
    rw [if_neg (by rw [hst, hfe]; simp [hs', hq])]
    have : secA l b = secA l a := by unfold secA; rw [hfe]
    rw [this, e1', e2', UInt32.toNat_sub_of_le _ _ (UInt32.le_iff_toNat_le.2 (by omega))]
theorem MemOK.pres (h : MemOK l rs) (hf : ¬ fndI rs a < 0) {n : Nat} (hn : (n : Int) ≤ restA l a) : presR (fndR rs a) wl a n = bytesA l (mread wl) a n := by
  have hr := h.rest hf
  obtain ⟨_, _, _, h1, h2⟩ := h.reg hf
  have ht := h.top hf
  have hl : ((fndR rs a).data.drop (a.toNat - (fndR rs a).org)).length = (fndR rs a).data.length - (a.toNat - (fndR rs a).org) := List.length_drop
  apply List.ext_getElem?
  intro k
  unfold presR
  rw [ovr_get, List.getElem?_take]
  by_cases c : k < n
  · rw [if_pos c, bytesA_get l _ n a k c, List.getElem?_drop]
    have hk : a.toNat - (fndR rs a).org + k < (fndR rs a).data.length := by omega
    rw [List.getElem?_eq_getElem hk]
    have hb : (a + UInt32.ofNat k).toNat = a.toNat + k := add_nat (by omega)
    have hi := h.init hf (b := a + UInt32.ofNat k) (by omega)
    simp only [Option.map_some, Option.some.injEq]
    unfold byteA mread
    rw [hi, hb, List.getD_eq_getElem?_getD, show a.toNat + k - (fndR rs a).org = a.toNat - (fndR rs a).org + k by omega, List.getElem?_eq_getElem hk]
    rfl
  · rw [if_neg c, List.getElem?_eq_none (by rw [bytesA_len]; omega)]; rfl
def leN : List UInt8 → Nat
  | [] => 0
  | b :: t => b.toNat + 256 * leN t
theorem leN_lt : ∀ l : List UInt8, leN l < 256 ^ l.length
  | [] => by simp [leN]
  | b :: t => by
    have := leN_lt t
    have hb := b.toNat_lt
    simp only [leN, List.length_cons, Nat.pow_succ]
    omega
theorem leP_nat : ∀ l : List UInt8, l.length ≤ 4 → (leP l).toNat = leN l
  | [], _ => rfl
  | b :: t, h => by
    have hl : t.length ≤ 3 := by simpa using h
    have ih := leP_nat t (by omega)
    have h1 := leN_lt t
    have h2 : 256 ^ t.length ≤ 256 ^ 3 := Nat.pow_le_pow_right (by decide) hl
    have hb := b.toNat_lt
    simp only [leP, leN, UInt32.toNat_add, UInt32.toNat_mul, UInt8.toNat_toUInt32, ih]
    have : (256 : UInt32).toNat = 256 := rfl
    rw [this]
    have h3 : (256 : Nat) ^ 3 = 16777216 := by decide
    omega
theorem leN_snoc (b : UInt8) : ∀ l : List UInt8, leN (l ++ [b]) = leN l + 256 ^ l.length * b.toNat
  | [] => by simp [leN]
  | c :: t => by
    simp only [List.cons_append, leN, leN_snoc b t, List.length_cons, Nat.pow_succ]
    rw [Nat.mul_add, ← Nat.mul_assoc, Nat.mul_comm 256 (256 ^ t.length)]
    omega
theorem le_step {l : List UInt8} {k : Nat} (hk : k < l.length) (hl : l.length ≤ 4) {c : Int} (hc : c = 8 * (k : Int)) : leP (l.take k) ||| shl32 (l.getD k default).toUInt32 c.toNat = leP (l.take (k + 1)) := by
  have h1 : (l.take k).length = k := by rw [List.length_take]; omega
  have e1 : l.take (k + 1) = l.take k ++ [l.getD k default] := take_succ hk
  have hb := (l.getD k default).toNat_lt
  have hlt := leN_lt (l.take k)
  rw [h1] at hlt
  have hp : (256 : Nat) ^ k = 2 ^ (8 * k) := by rw [Nat.pow_mul]
  have hk8 : 2 ^ (8 * k) * 256 ≤ 2 ^ 32 := by
    have : 2 ^ (8 * k) * 2 ^ 8 = 2 ^ (8 * k + 8) := by rw [Nat.pow_add]
    have h2 : 2 ^ (8 * k + 8) ≤ 2 ^ 32 := Nat.pow_le_pow_right (by decide) (by omega)
    omega
  rw [← UInt32.toNat_inj, UInt32.toNat_or, shl32_toNat, leP_nat _ (by omega), leP_nat _ (by rw [List.length_take]; omega), e1, leN_snoc, h1, UInt8.toNat_toUInt32, show c.toNat = 8 * k by omega]
  have hm : (l.getD k default).toNat * 2 ^ (8 * k) < 2 ^ 32 := by
    have : (l.getD k default).toNat * 2 ^ (8 * k) ≤ 255 * 2 ^ (8 * k) := Nat.mul_le_mul_right _ (by omega)
    have hpos : 0 < 2 ^ (8 * k) := Nat.pow_pos (by decide)
    omega
  rw [show (4294967296 : Nat) = 2 ^ 32 from rfl, Nat.mod_eq_of_lt hm, ← Nat.shiftLeft_eq, Nat.or_comm, ← Nat.shiftLeft_add_eq_or_of_lt (by omega), Nat.shiftLeft_eq, hp]
  rw [Nat.mul_comm (2 ^ (8 * k))]
  omega
def putL (wl : WL) (a : UInt32) (n : UInt32) : Nat → WL
  | 0 => wl
  | k + 1 => mput (putL wl a n k) (a + UInt32.ofNat k) (shr32 n (8 * k)).toUInt8
theorem putL_read (wl : WL) (a n : UInt32) : ∀ k, mread (putL wl a n k) = putN (mread wl) a n k
  | 0 => rfl
  | k + 1 => by
    funext x
    show mget (mput (putL wl a n k) _ _) x = putW (putN (mread wl) a n k) _ _ x
    rw [mget_put, ← putL_read wl a n k]; rfl
theorem putL_len (wl : WL) (a n : UInt32) : ∀ k, (putL wl a n k).length ≤ wl.length + k
  | 0 => Nat.le_refl _
  | k + 1 => by
    have := putL_len wl a n k
    have := mput_len (putL wl a n k) (a + UInt32.ofNat k) (shr32 n (8 * k)).toUInt8
    show (mput _ _ _).length ≤ _
    omega
end
end Go.HL
namespace Go.HL
open Go Go.RowKit Go.ChangeMaps Go.MapKept
section
variable {P : Program} {ops : Array Oper} {Q : Exit → Act → World → Prop} {N : Nat} {F : Bg} {L : List Ent} {M : Fr} {rest : List Oper} {d : Nat}
/-- An iterator over a map on its way: these keys have come. -/
structure IterOK (b : Nat) (es : Array MapEntry) (ck : Nat) (done : List UInt32) (o : Option Obj) : Prop where
  it : ∃ since seen c0, o = some (.mapIter (some b) since seen c0) ∧ (∀ x ∈ es.toList, x.born < since) ∧ since ≤ c0 ∧ since ≤ ck ∧ (∀ x ∈ es.toList, seen.contains x.born = true ↔ ∃ k ∈ done, x.key = keyV k) ∧
    (∀ k, done.getLast? = some k → c0 = ck ∧ ∃ (seen0 : Array Nat) (e : MapEntry), seen = seen0.push e.born ∧ e ∈ es.toList ∧ e.key = keyV k)
theorem mapSt {α : Type} {f : α → Value} {l : List (UInt32 × α)} {es : Array MapEntry} {ck : Nat} (h : MapIs f l es ck) : (∀ x ∈ es.toList, x.born < ck) ∧ (es.toList.map (·.born)).Nodup ∧ es.toList.Pairwise (fun x y => x.key ≠ y.key) := (stamped_iff es ck).1 h.st
theorem IterOK.start {α : Type} {f : α → Value} {l : List (UInt32 × α)} {b : Nat} {es : Array MapEntry} {ck : Nat} (h : MapIs f l es ck) : IterOK b es ck [] (some (.mapIter (some b) ck #[] ck)) :=
  ⟨ck, #[], ck, rfl, (mapSt h).1, Nat.le_refl _, Nat.le_refl _, fun x _ => by simp, fun k hk => by simp at hk⟩
end
section
variable {P : Program} {Q : Exit → Act → World → Prop} {N : Nat} {F : Bg} {L : List Ent} {M : Fr}
end
section
open Go.Sort
end
end Go.HL
