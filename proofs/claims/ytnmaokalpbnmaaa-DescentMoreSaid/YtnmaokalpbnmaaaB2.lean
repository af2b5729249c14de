/- Own rules and walks, part 2. -/
import Derived.Test.YtnmaokalpbnmaaaB1
set_option linter.unusedSimpArgs false
set_option linter.unusedVariables false
set_option linter.unusedSectionVars false
namespace Go.Proofs.Ytnmaokalpbnmaaa
open Go Go.HL Go.RowKit
set_option maxRecDepth 100000 in
set_option maxHeartbeats 2000000 in
theorem register_any (r : Int) (w : World) :
  Calls Try.prog 65 #[.int .i64 r] w (fun e w' => e = .returned (.bool (regP r)) ∧ Ext w w') := by
 refine enter Try.func65 rfl Try.ntmps65 rfl ?_
 refine Tr.seq (Tr.region ?_)
 refine Tr.q (QS.assign rfl) rfl ?_
 refine Tr.nil (Tr.thenN (Tr.seq (Tr.region ?_)))
 refine Tr.q (QS.move rfl) rfl ?_
 refine Tr.q (QS.geq rfl rfl) rfl ?_
 refine Tr.q (QS.move rfl) rfl ?_
 apply Tr.andP
 ·exact (rfl : _ = (3, 5, 8))
 ·exact rfl
 ·intro hT1; have hT1' := hT1
  try simp only [bs] at hT1'
  refine Tr.gq rfl rfl hT1 (QS.move rfl) rfl ?_
  refine Tr.gq rfl rfl hT1 (QS.lss rfl rfl) rfl ?_
  refine Tr.q (QS.pickT rfl hT1 rfl) rfl ?_
  refine Tr.nil (Tr.thenN ?_)
  exact Tr.endX (Sub.cons rfl (Sub.dropN 3 (by kernel_rfl) rfl))
 ·intro hF1
  refine Tr.gskip rfl rfl hF1 rfl ?_
  refine Tr.gskip rfl rfl hF1 rfl ?_
  refine Tr.q (QS.pickF rfl hF1 rfl) rfl ?_
  refine Tr.nil (Tr.thenN ?_)
  exact Tr.endX (Sub.cons rfl (Sub.dropN 3 (by kernel_rfl) rfl))
 refine Tr.q (QS.assign rfl) rfl ?_
 refine Tr.nil (Tr.thenN (Tr.ret ?_))
 refine Tr.ret1 Try.results65 rfl (fun w' hw => ?_)
 exact ⟨rfl, hw.below (Bg.le.refl _)⟩
set_option maxRecDepth 100000 in
set_option maxHeartbeats 2000000 in
theorem narrow_any (n : UInt32) (w : World) :
  Calls Try.prog 88 #[.int .u32 n.toNat] w (fun e w' => e = .returned (.bool (narrowP n)) ∧ Ext w w') := by
 refine enter Try.func88 rfl Try.ntmps88 rfl ?_
 refine Tr.seq (Tr.region ?_)
 refine Tr.q (QS.assign rfl) rfl ?_
 refine Tr.nil (Tr.thenN (Tr.seq (Tr.region ?_)))
 refine Tr.q (QS.move rfl) rfl ?_
 refine Tr.q (QS.leq32 (n := 127) rfl rfl) rfl ?_
 refine Tr.q (QS.move rfl) rfl ?_
 apply Tr.orP
 ·exact (rfl : _ = (3, 5, 8))
 ·exact rfl
 ·intro hF1; have hF1' := hF1
  try simp only [bs] at hF1'
  refine Tr.gq rfl rfl hF1 (QS.move rfl) rfl ?_
  refine Tr.gq rfl rfl hF1 (QS.geq32 (n := 4294967168) rfl rfl) rfl ?_
  refine Tr.q (QS.pickF rfl hF1 rfl) rfl ?_
  refine Tr.nil (Tr.thenN ?_)
  exact Tr.endX (Sub.cons rfl (Sub.dropN 3 (by kernel_rfl) rfl))
 ·intro hT1
  refine Tr.gskip rfl rfl hT1 rfl ?_
  refine Tr.gskip rfl rfl hT1 rfl ?_
  refine Tr.q (QS.pickT rfl hT1 rfl) rfl ?_
  refine Tr.nil (Tr.thenN ?_)
  exact Tr.endX (Sub.cons rfl (Sub.dropN 3 (by kernel_rfl) rfl))
 refine Tr.q (QS.assign rfl) rfl ?_
 refine Tr.nil (Tr.thenN (Tr.ret ?_))
 refine Tr.ret1 Try.results88 rfl (fun w' hw => ?_)
 exact ⟨rfl, hw.below (Bg.le.refl _)⟩
set_option maxRecDepth 100000 in
set_option maxHeartbeats 2000000 in
theorem access_any (i : Ins) (w : World) :
  Calls Try.prog 89 #[.agg (encIns.enc i).toArray] w (fun e w' => e = .returned ((.tuple #[.int .u8 (accessP i).toNat, .int .i64 5, .bool (decide (accessP i ≠ 0))])) ∧ Ext w w') := by
 refine enter Try.func89 rfl Try.ntmps89 rfl ?_
 refine Tr.seq (Tr.region ?_)
 refine Tr.box rfl rfl rfl (fun b1 => ?_)
 refine Tr.q (QS.assign rfl) rfl ?_
 refine Tr.q (QS.assign rfl) rfl ?_
 refine Tr.q (QS.assign rfl) rfl ?_
 refine Tr.nil (Tr.thenN (Tr.seq (Tr.region ?_)))
 refine Tr.q (QS.assign rfl) rfl ?_
 refine Tr.nil (Tr.thenN ?_)
 refine Tr.seqJ (ι := UInt8) (fun c => c = accessP i) (fun _ => Bg.of w) (fun c => [cellE b1 (encIns.enc i) 41]) (fun c => [(5, .int .u8 c.toNat)]) ?_ (fun c hi => ?_)
 ·skip
  refine Tr.seq (Tr.region ?_)
  refine Tr.q (QS.fieldAddr (off := 2) (ft := 3) rfl Try.underlying41 rfl rfl Try.sizeOf3 (by decide)) rfl ?_
  refine Tr.q (QS.lV rfl Try.isAgg3) rfl ?_
  refine Tr.q (QS.fieldAddr (off := 4) (ft := 3) rfl Try.underlying41 rfl rfl Try.sizeOf3 (by decide)) rfl ?_
  refine Tr.q (QS.lV rfl Try.isAgg3) rfl ?_
  refine Tr.q (QS.build (vs := [(0, _), (1, _)]) rfl rfl (HLF.built130_0_1 _ _)) rfl ?_
  refine Tr.nil (Tr.thenN (Tr.block (Tr.seq (Tr.region ?_))))
  refine Tr.q (QS.build (vs := [(0, _), (1, _)]) rfl rfl (HLF.built130_0_1 _ _)) rfl ?_
  refine Tr.q (QS.eqlA2 rfl rfl Try.underlying130 Try.underlying3 Try.sizeOf3 Try.isAgg3 HLF.eqg130) rfl ?_
  refine Tr.q (QS.assign rfl) rfl ?_
  refine Tr.nil (Tr.thenN ?_)
  refine Tr.cond rfl (fun h2 => ?_) (fun h2 => ?_)
  ·try simp only [bs] at h2
   refine Tr.region ?_
   refine Tr.q (QS.assign rfl) rfl ?_
   refine Tr.nil (Tr.inN (Tr.thenN ?_))
   apply Tr.joined (80 : UInt8)
   ·exact rfl
   ·exact (.cons (by first | rfl | exact lookI rfl (by omega) | exact lookI rfl (by simp) | exact lookB rfl (by simp)) Front.nil)
   ·exact SubX.dropN 9 (by kernel_rfl) rfl
   ·exact (by repeat' constructor)
   ·exact (by unfold accessP; repeat (first | rw [if_pos (by omega)] | rw [if_neg (by omega)]))
  ·try simp only [bs] at h2
   refine Tr.seq (Tr.region ?_)
   refine Tr.q (QS.build (vs := [(0, _), (1, _)]) rfl rfl (HLF.built130_0_1 _ _)) rfl ?_
   refine Tr.q (QS.eqlA2 rfl rfl Try.underlying130 Try.underlying3 Try.sizeOf3 Try.isAgg3 HLF.eqg130) rfl ?_
   refine Tr.q (QS.assign rfl) rfl ?_
   refine Tr.nil (Tr.thenN ?_)
   refine Tr.cond rfl (fun h3 => ?_) (fun h3 => ?_)
   ·try simp only [bs] at h3
    refine Tr.region ?_
    refine Tr.q (QS.assign rfl) rfl ?_
    refine Tr.nil (Tr.inN (Tr.thenN ?_))
    apply Tr.joined (81 : UInt8)
    ·exact rfl
    ·exact (.cons (by first | rfl | exact lookI rfl (by omega) | exact lookI rfl (by simp) | exact lookB rfl (by simp)) Front.nil)
    ·exact SubX.dropN 12 (by kernel_rfl) rfl
    ·exact (by repeat' constructor)
    ·exact (by unfold accessP; repeat (first | rw [if_pos (by omega)] | rw [if_neg (by omega)]))
   ·try simp only [bs] at h3
    refine Tr.seq (Tr.region ?_)
    refine Tr.q (QS.build (vs := [(0, _), (1, _)]) rfl rfl (HLF.built130_0_1 _ _)) rfl ?_
    refine Tr.q (QS.eqlA2 rfl rfl Try.underlying130 Try.underlying3 Try.sizeOf3 Try.isAgg3 HLF.eqg130) rfl ?_
    refine Tr.q (QS.assign rfl) rfl ?_
    refine Tr.nil (Tr.thenN ?_)
    refine Tr.cond rfl (fun h4 => ?_) (fun h4 => ?_)
    ·try simp only [bs] at h4
     refine Tr.region ?_
     refine Tr.q (QS.assign rfl) rfl ?_
     refine Tr.nil (Tr.inN (Tr.thenN ?_))
     apply Tr.joined (82 : UInt8)
     ·exact rfl
     ·exact (.cons (by first | rfl | exact lookI rfl (by omega) | exact lookI rfl (by simp) | exact lookB rfl (by simp)) Front.nil)
     ·exact SubX.dropN 15 (by kernel_rfl) rfl
     ·exact (by repeat' constructor)
     ·exact (by unfold accessP; repeat (first | rw [if_pos (by omega)] | rw [if_neg (by omega)]))
    ·try simp only [bs] at h4
     refine Tr.seq (Tr.region ?_)
     refine Tr.q (QS.build (vs := [(0, _), (1, _)]) rfl rfl (HLF.built130_0_1 _ _)) rfl ?_
     refine Tr.q (QS.eqlA2 rfl rfl Try.underlying130 Try.underlying3 Try.sizeOf3 Try.isAgg3 HLF.eqg130) rfl ?_
     refine Tr.q (QS.assign rfl) rfl ?_
     refine Tr.nil (Tr.thenN ?_)
     refine Tr.cond rfl (fun h5 => ?_) (fun h5 => ?_)
     ·try simp only [bs] at h5
      refine Tr.region ?_
      refine Tr.q (QS.assign rfl) rfl ?_
      refine Tr.nil (Tr.inN (Tr.thenN ?_))
      apply Tr.joined (83 : UInt8)
      ·exact rfl
      ·exact (.cons (by first | rfl | exact lookI rfl (by omega) | exact lookI rfl (by simp) | exact lookB rfl (by simp)) Front.nil)
      ·exact SubX.dropN 18 (by kernel_rfl) rfl
      ·exact (by repeat' constructor)
      ·exact (by unfold accessP; repeat (first | rw [if_pos (by omega)] | rw [if_neg (by omega)]))
     ·try simp only [bs] at h5
      refine Tr.seq (Tr.region ?_)
      refine Tr.q (QS.build (vs := [(0, _), (1, _)]) rfl rfl (HLF.built130_0_1 _ _)) rfl ?_
      refine Tr.q (QS.eqlA2 rfl rfl Try.underlying130 Try.underlying3 Try.sizeOf3 Try.isAgg3 HLF.eqg130) rfl ?_
      refine Tr.q (QS.assign rfl) rfl ?_
      refine Tr.nil (Tr.thenN ?_)
      refine Tr.cond rfl (fun h6 => ?_) (fun h6 => ?_)
      ·try simp only [bs] at h6
       refine Tr.region ?_
       refine Tr.q (QS.assign rfl) rfl ?_
       refine Tr.nil (Tr.inN (Tr.thenN ?_))
       apply Tr.joined (84 : UInt8)
       ·exact rfl
       ·exact (.cons (by first | rfl | exact lookI rfl (by omega) | exact lookI rfl (by simp) | exact lookB rfl (by simp)) Front.nil)
       ·exact SubX.dropN 21 (by kernel_rfl) rfl
       ·exact (by repeat' constructor)
       ·exact (by unfold accessP; repeat (first | rw [if_pos (by omega)] | rw [if_neg (by omega)]))
      ·try simp only [bs] at h6
       refine Tr.seq (Tr.region ?_)
       refine Tr.q (QS.build (vs := [(0, _), (1, _)]) rfl rfl (HLF.built130_0_1 _ _)) rfl ?_
       refine Tr.q (QS.eqlA2 rfl rfl Try.underlying130 Try.underlying3 Try.sizeOf3 Try.isAgg3 HLF.eqg130) rfl ?_
       refine Tr.q (QS.assign rfl) rfl ?_
       refine Tr.nil (Tr.thenN ?_)
       refine Tr.cond rfl (fun h7 => ?_) (fun h7 => ?_)
       ·try simp only [bs] at h7
        refine Tr.region ?_
        refine Tr.q (QS.assign rfl) rfl ?_
        refine Tr.nil (Tr.inN (Tr.thenN ?_))
        apply Tr.joined (85 : UInt8)
        ·exact rfl
        ·exact (.cons (by first | rfl | exact lookI rfl (by omega) | exact lookI rfl (by simp) | exact lookB rfl (by simp)) Front.nil)
        ·exact SubX.dropN 24 (by kernel_rfl) rfl
        ·exact (by repeat' constructor)
        ·exact (by unfold accessP; repeat (first | rw [if_pos (by omega)] | rw [if_neg (by omega)]))
       ·try simp only [bs] at h7
        refine Tr.seq (Tr.region ?_)
        refine Tr.q (QS.build (vs := [(0, _), (1, _)]) rfl rfl (HLF.built130_0_1 _ _)) rfl ?_
        refine Tr.q (QS.eqlA2 rfl rfl Try.underlying130 Try.underlying3 Try.sizeOf3 Try.isAgg3 HLF.eqg130) rfl ?_
        refine Tr.q (QS.assign rfl) rfl ?_
        refine Tr.nil (Tr.thenN ?_)
        refine Tr.cond rfl (fun h8 => ?_) (fun h8 => ?_)
        ·try simp only [bs] at h8
         refine Tr.region ?_
         refine Tr.q (QS.assign rfl) rfl ?_
         refine Tr.nil (Tr.inN (Tr.thenN ?_))
         apply Tr.joined (86 : UInt8)
         ·exact rfl
         ·exact (.cons (by first | rfl | exact lookI rfl (by omega) | exact lookI rfl (by simp) | exact lookB rfl (by simp)) Front.nil)
         ·exact SubX.dropN 27 (by kernel_rfl) rfl
         ·exact (by repeat' constructor)
         ·exact (by unfold accessP; repeat (first | rw [if_pos (by omega)] | rw [if_neg (by omega)]))
        ·try simp only [bs] at h8
         refine Tr.seq (Tr.region ?_)
         refine Tr.q (QS.build (vs := [(0, _), (1, _)]) rfl rfl (HLF.built130_0_1 _ _)) rfl ?_
         refine Tr.q (QS.eqlA2 rfl rfl Try.underlying130 Try.underlying3 Try.sizeOf3 Try.isAgg3 HLF.eqg130) rfl ?_
         refine Tr.q (QS.assign rfl) rfl ?_
         refine Tr.nil (Tr.thenN ?_)
         refine Tr.cond rfl (fun h9 => ?_) (fun h9 => ?_)
         ·try simp only [bs] at h9
          refine Tr.region ?_
          refine Tr.q (QS.assign rfl) rfl ?_
          refine Tr.nil (Tr.inN (Tr.thenN ?_))
          apply Tr.joined (87 : UInt8)
          ·exact rfl
          ·exact (.cons (by first | rfl | exact lookI rfl (by omega) | exact lookI rfl (by simp) | exact lookB rfl (by simp)) Front.nil)
          ·exact SubX.dropN 30 (by kernel_rfl) rfl
          ·exact (by repeat' constructor)
          ·exact (by unfold accessP; repeat (first | rw [if_pos (by omega)] | rw [if_neg (by omega)]))
         ·try simp only [bs] at h9
          refine Tr.skip (Tr.inN (Tr.thenN ?_))
          apply Tr.joined (0 : UInt8)
          ·exact rfl
          ·exact (.cons (by first | rfl | exact lookI rfl (by omega) | exact lookI rfl (by simp) | exact lookB rfl (by simp)) Front.nil)
          ·exact SubX.dropN 29 (by kernel_rfl) rfl
          ·exact (by repeat' constructor)
          ·exact (by unfold accessP; repeat (first | rw [if_pos (by omega)] | rw [if_neg (by omega)]))
 ·skip
  replace hi : c = accessP i := hi
  change Tr _ _ [cellE b1 (encIns.enc i) 41] ([(5, .int .u8 c.toNat)] ++ _) _
  refine Tr.seq (Tr.region ?_)
  refine Tr.q (QS.move rfl) rfl ?_
  refine Tr.q (QS.move rfl) rfl ?_
  refine Tr.q (QS.neq8 (n := 0) rfl rfl) rfl ?_
  refine Tr.q (QS.assign rfl) rfl ?_
  refine Tr.q (QS.assign rfl) rfl ?_
  refine Tr.q (QS.assign rfl) rfl ?_
  refine Tr.nil (Tr.thenN (Tr.ret ?_))
  refine Tr.ret3 Try.results89 rfl rfl rfl (fun w' hw => ?_)
  exact ⟨by subst hi; rfl, hw.below (Bg.le.refl _)⟩
set_option maxRecDepth 100000 in
set_option maxHeartbeats 2000000 in
theorem conditional_any (i : Ins) (w : World) :
  Calls Try.prog 90 #[.agg (encIns.enc i).toArray] w (fun e w' => e = .returned ((.tuple #[.int .u8 (condP i).1.toNat, .int .i64 (condP i).2.1, .bool (condP i).2.2])) ∧ Ext w w') := by
 refine enter Try.func90 rfl Try.ntmps90 rfl ?_
 refine Tr.seq (Tr.region ?_)
 refine Tr.box rfl rfl rfl (fun b1 => ?_)
 refine Tr.q (QS.assign rfl) rfl ?_
 refine Tr.q (QS.assign rfl) rfl ?_
 refine Tr.q (QS.assign rfl) rfl ?_
 refine Tr.nil (Tr.thenN (Tr.seq (Tr.seq (Tr.region ?_))))
 refine Tr.q (QS.fieldAddr (off := 5) (ft := 3) rfl Try.underlying41 rfl rfl Try.sizeOf3 (by decide)) rfl ?_
 refine Tr.q (QS.lV rfl Try.isAgg3) rfl ?_
 refine Tr.q (QS.lss rfl rfl) rfl ?_
 refine Tr.q (QS.move rfl) rfl ?_
 apply Tr.orP
 ·exact (rfl : _ = (4, 8, 12))
 ·exact rfl
 ·intro hF2; have hF2' := hF2
  try simp only [bs] at hF2'
  refine Tr.gq rfl rfl hF2 (QS.fieldAddr (off := 5) (ft := 3) rfl Try.underlying41 rfl rfl Try.sizeOf3 (by decide)) rfl ?_
  refine Tr.gq rfl rfl hF2 (QS.lV rfl Try.isAgg3) rfl ?_
  refine Tr.gq rfl rfl hF2 (QS.gtr rfl rfl) rfl ?_
  refine Tr.q (QS.pickF rfl hF2 rfl) rfl ?_
  refine Tr.nil (Tr.thenN ?_)
  exact Tr.endX (Sub.cons rfl (Sub.dropN 4 (by kernel_rfl) rfl))
 ·intro hT2
  refine Tr.gskip rfl rfl hT2 rfl ?_
  refine Tr.gskip rfl rfl hT2 rfl ?_
  refine Tr.gskip rfl rfl hT2 rfl ?_
  refine Tr.q (QS.pickT rfl hT2 rfl) rfl ?_
  refine Tr.nil (Tr.thenN ?_)
  exact Tr.endX (Sub.cons rfl (Sub.dropN 4 (by kernel_rfl) rfl))
 refine Tr.nil (Tr.thenN ?_)
 refine Tr.cond rfl (fun h3 => ?_) (fun h3 => ?_)
 ·try simp only [bs] at h3
  refine Tr.seq (Tr.region ?_)
  refine Tr.q (QS.assign rfl) rfl ?_
  refine Tr.q (QS.assign rfl) rfl ?_
  refine Tr.q (QS.assign rfl) rfl ?_
  refine Tr.nil (Tr.thenN (Tr.ret (Tr.thenR ?_)))
  refine Tr.ret3 Try.results90 rfl rfl rfl (fun w' hw => ?_)
  exact ⟨by unfold condP; (repeat (first | rw [if_pos (by omega)] | rw [if_neg (by omega)])) <;> rfl, hw.below (Bg.le.refl _)⟩
 ·try simp only [bs] at h3
  refine Tr.skip (Tr.thenN (Tr.seq (Tr.block (Tr.seq (Tr.region ?_)))))
  refine Tr.q (QS.fieldAddr (off := 2) (ft := 3) rfl Try.underlying41 rfl rfl Try.sizeOf3 (by decide)) rfl ?_
  refine Tr.q (QS.lV rfl Try.isAgg3) rfl ?_
  refine Tr.q (QS.eql rfl rfl) rfl ?_
  refine Tr.q (QS.assign rfl) rfl ?_
  refine Tr.nil (Tr.thenN ?_)
  refine Tr.cond rfl (fun h4 => ?_) (fun h4 => ?_)
  ·try simp only [bs] at h4
   refine Tr.seq (Tr.region ?_)
   refine Tr.q (QS.fieldAddr (off := 5) (ft := 3) rfl Try.underlying41 rfl rfl Try.sizeOf3 (by decide)) rfl ?_
   refine Tr.q (QS.lV rfl Try.isAgg3) rfl ?_
   refine Tr.q (QS.cvtTo8 rfl Try.underlying3 Try.underlying5) rfl ?_
   refine Tr.q (QS.add8 (m := 144) rfl rfl) rfl ?_
   refine Tr.q (QS.assign rfl) rfl ?_
   refine Tr.q (QS.assign rfl) rfl ?_
   refine Tr.q (QS.assign rfl) rfl ?_
   refine Tr.nil (Tr.thenN (Tr.ret ?_))
   refine Tr.inR ?_
   refine Tr.thenR ?_
   refine Tr.ret3 Try.results90 rfl rfl rfl (fun w' hw => ?_)
   exact ⟨by unfold condP; (repeat (first | rw [if_pos (by omega)] | rw [if_neg (by omega)])) <;> rfl, hw.below (Bg.le.refl _)⟩
  ·try simp only [bs] at h4
   refine Tr.seq (Tr.region ?_)
   refine Tr.q (QS.fieldAddr (off := 3) (ft := 3) rfl Try.underlying41 rfl rfl Try.sizeOf3 (by decide)) rfl ?_
   refine Tr.q (QS.lV rfl Try.isAgg3) rfl ?_
   refine Tr.q (QS.eql rfl rfl) rfl ?_
   refine Tr.q (QS.assign rfl) rfl ?_
   refine Tr.nil (Tr.thenN ?_)
   refine Tr.cond rfl (fun h5 => ?_) (fun h5 => ?_)
   ·try simp only [bs] at h5
    refine Tr.seq (Tr.region ?_)
    refine Tr.q (QS.fieldAddr (off := 5) (ft := 3) rfl Try.underlying41 rfl rfl Try.sizeOf3 (by decide)) rfl ?_
    refine Tr.q (QS.lV rfl Try.isAgg3) rfl ?_
    refine Tr.q (QS.cvtTo8 rfl Try.underlying3 Try.underlying5) rfl ?_
    refine Tr.q (QS.add8 (m := 96) rfl rfl) rfl ?_
    refine Tr.q (QS.assign rfl) rfl ?_
    refine Tr.q (QS.assign rfl) rfl ?_
    refine Tr.q (QS.assign rfl) rfl ?_
    refine Tr.nil (Tr.thenN (Tr.ret ?_))
    refine Tr.inR ?_
    refine Tr.thenR ?_
    refine Tr.ret3 Try.results90 rfl rfl rfl (fun w' hw => ?_)
    exact ⟨by unfold condP; (repeat (first | rw [if_pos (by omega)] | rw [if_neg (by omega)])) <;> rfl, hw.below (Bg.le.refl _)⟩
   ·try simp only [bs] at h5
    refine Tr.seq (Tr.region ?_)
    refine Tr.q (QS.fieldAddr (off := 3) (ft := 3) rfl Try.underlying41 rfl rfl Try.sizeOf3 (by decide)) rfl ?_
    refine Tr.q (QS.lV rfl Try.isAgg3) rfl ?_
    refine Tr.q (QS.eql rfl rfl) rfl ?_
    refine Tr.q (QS.assign rfl) rfl ?_
    refine Tr.nil (Tr.thenN ?_)
    refine Tr.cond rfl (fun h6 => ?_) (fun h6 => ?_)
    ·try simp only [bs] at h6
     refine Tr.seq (Tr.region ?_)
     refine Tr.q (QS.fieldAddr (off := 5) (ft := 3) rfl Try.underlying41 rfl rfl Try.sizeOf3 (by decide)) rfl ?_
     refine Tr.q (QS.lV rfl Try.isAgg3) rfl ?_
     refine Tr.q (QS.cvtTo8 rfl Try.underlying3 Try.underlying5) rfl ?_
     refine Tr.q (QS.add8 (m := 112) rfl rfl) rfl ?_
     refine Tr.q (QS.assign rfl) rfl ?_
     refine Tr.q (QS.assign rfl) rfl ?_
     refine Tr.q (QS.assign rfl) rfl ?_
     refine Tr.nil (Tr.thenN (Tr.ret ?_))
     refine Tr.inR ?_
     refine Tr.thenR ?_
     refine Tr.ret3 Try.results90 rfl rfl rfl (fun w' hw => ?_)
     exact ⟨by unfold condP; (repeat (first | rw [if_pos (by omega)] | rw [if_neg (by omega)])) <;> rfl, hw.below (Bg.le.refl _)⟩
    ·try simp only [bs] at h6
     refine Tr.skip (Tr.inN (Tr.thenN (Tr.seq (Tr.region ?_))))
     refine Tr.q (QS.assign rfl) rfl ?_
     refine Tr.q (QS.assign rfl) rfl ?_
     refine Tr.q (QS.assign rfl) rfl ?_
     refine Tr.nil (Tr.thenN (Tr.ret ?_))
     refine Tr.ret3 Try.results90 rfl rfl rfl (fun w' hw => ?_)
     exact ⟨by unfold condP; (repeat (first | rw [if_pos (by omega)] | rw [if_neg (by omega)])) <;> rfl, hw.below (Bg.le.refl _)⟩
set_option maxRecDepth 100000 in
set_option maxHeartbeats 2000000 in
theorem opcode_any (i : Ins) (w : World) (hI : InsOK i) :
  Calls Try.prog 61 #[.agg (encIns.enc i).toArray] w (fun e w' => e = .returned ((.tuple #[.int .u8 (opcodeP i).1.toNat, .int .i64 (opcodeP i).2.1, .bool (opcodeP i).2.2])) ∧ Ext w w') := by
 have hop := hI.op; unfold I64 at hop
 refine enter Try.func61 rfl Try.ntmps61 rfl ?_
 refine Tr.seq (Tr.region ?_)
 refine Tr.box rfl rfl rfl (fun b1 => ?_)
 refine Tr.q (QS.assign rfl) rfl ?_
 refine Tr.q (QS.assign rfl) rfl ?_
 refine Tr.q (QS.assign rfl) rfl ?_
 refine Tr.nil (Tr.thenN (Tr.seq (Tr.block (Tr.seq (Tr.seq (Tr.region ?_))))))
 refine Tr.q (QS.fieldAddr (off := 2) (ft := 3) rfl Try.underlying41 rfl rfl Try.sizeOf3 (by decide)) rfl ?_
 refine Tr.q (QS.lV rfl Try.isAgg3) rfl ?_
 refine Tr.q (QS.eql rfl rfl) rfl ?_
 refine Tr.q (QS.assign rfl) rfl ?_
 refine Tr.nil (Tr.thenN ?_)
 apply Tr.condOr
 ·exact rfl
 ·intro hO2
  try simp only [bs] at hO2
  refine Tr.seq (Tr.region ?_)
  refine Tr.q (QS.fieldAddr (off := 2) (ft := 3) rfl Try.underlying41 rfl rfl Try.sizeOf3 (by decide)) rfl ?_
  refine Tr.q (QS.lV rfl Try.isAgg3) rfl ?_
  refine Tr.q (QS.eql rfl rfl) rfl ?_
  refine Tr.q (QS.assign rfl) rfl ?_
  refine Tr.nil (Tr.thenN ?_)
  apply Tr.condOr
  ·exact rfl
  ·intro hO3
   try simp only [bs] at hO3
   refine Tr.region ?_
   refine Tr.q (QS.fieldAddr (off := 2) (ft := 3) rfl Try.underlying41 rfl rfl Try.sizeOf3 (by decide)) rfl ?_
   refine Tr.q (QS.lV rfl Try.isAgg3) rfl ?_
   refine Tr.q (QS.eql rfl rfl) rfl ?_
   refine Tr.q (QS.assign rfl) rfl ?_
   refine Tr.nil (Tr.thenN ?_)
   exact Tr.endOr rfl (SubX.dropN 4 (by kernel_rfl) rfl)
  refine Tr.thenN ?_
  exact Tr.endOr rfl (SubX.dropN 5 (by kernel_rfl) rfl)
 refine Tr.thenN ?_
 refine Tr.cond rfl (fun h4 => ?_) (fun h4 => ?_)
 ·try simp only [bs] at h4
  refine Tr.seq (Tr.region ?_)
  refine Tr.q (QS.fieldAddr (off := 2) (ft := 3) rfl Try.underlying41 rfl rfl Try.sizeOf3 (by decide)) rfl ?_
  refine Tr.q (QS.lV rfl Try.isAgg3) rfl ?_
  refine Tr.q (QS.cvtTo8 rfl Try.underlying3 Try.underlying5) rfl ?_
  refine Tr.q (QS.assign rfl) rfl ?_
  refine Tr.q (QS.assign rfl) rfl ?_
  refine Tr.q (QS.assign rfl) rfl ?_
  refine Tr.nil (Tr.thenN (Tr.ret ?_))
  refine Tr.inR ?_
  refine Tr.thenR ?_
  refine Tr.ret3 Try.results61 rfl rfl rfl (fun w' hw => ?_)
  exact ⟨by unfold opcodeP; (repeat (first | rw [if_pos (by omega)] | rw [if_neg (by omega)])) <;> rfl, hw.below (Bg.le.refl _)⟩
 ·try simp only [bs] at h4
  refine Tr.seq (Tr.region ?_)
  refine Tr.q (QS.fieldAddr (off := 2) (ft := 3) rfl Try.underlying41 rfl rfl Try.sizeOf3 (by decide)) rfl ?_
  refine Tr.q (QS.lV rfl Try.isAgg3) rfl ?_
  refine Tr.q (QS.eql rfl rfl) rfl ?_
  refine Tr.q (QS.assign rfl) rfl ?_
  refine Tr.nil (Tr.thenN ?_)
  refine Tr.cond rfl (fun h5 => ?_) (fun h5 => ?_)
  ·try simp only [bs] at h5
   refine Tr.seq (Tr.region ?_)
   refine Tr.q (QS.fieldAddr (off := 6) (ft := 3) rfl Try.underlying41 rfl rfl Try.sizeOf3 (by decide)) rfl ?_
   refine Tr.q (QS.lV rfl Try.isAgg3) rfl ?_
   refine Tr.q (QS.and7 rfl rfl) rfl ?_
   refine Tr.q (QS.cvtTo8 rfl Try.underlying3 Try.underlying5) rfl ?_
   refine Tr.q (QS.add8 (m := 8) rfl rfl) rfl ?_
   refine Tr.q (QS.assign rfl) rfl ?_
   refine Tr.q (QS.assign rfl) rfl ?_
   refine Tr.q (QS.assign rfl) rfl ?_
   refine Tr.nil (Tr.thenN (Tr.ret ?_))
   refine Tr.inR ?_
   refine Tr.thenR ?_
   refine Tr.ret3 Try.results61 rfl rfl rfl (fun w' hw => ?_)
   exact ⟨by unfold opcodeP; (repeat (first | rw [if_pos (by omega)] | rw [if_neg (by omega)])) <;> rfl, hw.below (Bg.le.refl _)⟩
  ·try simp only [bs] at h5
   refine Tr.seq (Tr.region ?_)
   refine Tr.q (QS.fieldAddr (off := 2) (ft := 3) rfl Try.underlying41 rfl rfl Try.sizeOf3 (by decide)) rfl ?_
   refine Tr.q (QS.lV rfl Try.isAgg3) rfl ?_
   refine Tr.q (QS.eql rfl rfl) rfl ?_
   refine Tr.q (QS.assign rfl) rfl ?_
   refine Tr.nil (Tr.thenN ?_)
   refine Tr.cond rfl (fun h6 => ?_) (fun h6 => ?_)
   ·try simp only [bs] at h6
    refine Tr.seq (Tr.region ?_)
    refine Tr.q (QS.fieldAddr (off := 6) (ft := 3) rfl Try.underlying41 rfl rfl Try.sizeOf3 (by decide)) rfl ?_
    refine Tr.q (QS.lV rfl Try.isAgg3) rfl ?_
    refine Tr.q (QS.and7 rfl rfl) rfl ?_
    refine Tr.q (QS.cvtTo8 rfl Try.underlying3 Try.underlying5) rfl ?_
    refine Tr.q (QS.add8 (m := 16) rfl rfl) rfl ?_
    refine Tr.q (QS.assign rfl) rfl ?_
    refine Tr.q (QS.assign rfl) rfl ?_
    refine Tr.q (QS.assign rfl) rfl ?_
    refine Tr.nil (Tr.thenN (Tr.ret ?_))
    refine Tr.inR ?_
    refine Tr.thenR ?_
    refine Tr.ret3 Try.results61 rfl rfl rfl (fun w' hw => ?_)
    exact ⟨by unfold opcodeP; (repeat (first | rw [if_pos (by omega)] | rw [if_neg (by omega)])) <;> rfl, hw.below (Bg.le.refl _)⟩
   ·try simp only [bs] at h6
    refine Tr.seq (Tr.region ?_)
    refine Tr.q (QS.fieldAddr (off := 2) (ft := 3) rfl Try.underlying41 rfl rfl Try.sizeOf3 (by decide)) rfl ?_
    refine Tr.q (QS.lV rfl Try.isAgg3) rfl ?_
    refine Tr.q (QS.geq rfl rfl) rfl ?_
    refine Tr.q (QS.move rfl) rfl ?_
    apply Tr.andP
    ·exact (rfl : _ = (4, 41, 45))
    ·exact rfl
    ·intro hT7; have hT7' := hT7
     try simp only [bs] at hT7'
     refine Tr.gq rfl rfl hT7 (QS.fieldAddr (off := 2) (ft := 3) rfl Try.underlying41 rfl rfl Try.sizeOf3 (by decide)) rfl ?_
     refine Tr.gq rfl rfl hT7 (QS.lV rfl Try.isAgg3) rfl ?_
     refine Tr.gq rfl rfl hT7 (QS.leq rfl rfl) rfl ?_
     refine Tr.q (QS.pickT rfl hT7 rfl) rfl ?_
     refine Tr.nil (Tr.thenN ?_)
     exact Tr.endX (Sub.cons rfl (Sub.dropN 4 (by kernel_rfl) rfl))
    ·intro hF7
     refine Tr.gskip rfl rfl hF7 rfl ?_
     refine Tr.gskip rfl rfl hF7 rfl ?_
     refine Tr.gskip rfl rfl hF7 rfl ?_
     refine Tr.q (QS.pickF rfl hF7 rfl) rfl ?_
     refine Tr.nil (Tr.thenN ?_)
     exact Tr.endX (Sub.cons rfl (Sub.dropN 4 (by kernel_rfl) rfl))
    refine Tr.q (QS.assign rfl) rfl ?_
    refine Tr.nil (Tr.thenN ?_)
    refine Tr.cond rfl (fun h8 => ?_) (fun h8 => ?_)
    ·try simp only [bs] at h8
     refine Tr.seq (Tr.region ?_)
     refine Tr.q (QS.fieldAddr (off := 2) (ft := 3) rfl Try.underlying41 rfl rfl Try.sizeOf3 (by decide)) rfl ?_
     refine Tr.q (QS.lV rfl Try.isAgg3) rfl ?_
     refine Tr.q (QS.subI rfl rfl (by omega)) rfl ?_
     refine Tr.q (QS.cvtTo8 rfl Try.underlying3 Try.underlying5) rfl ?_
     refine Tr.q (QS.assign rfl) rfl ?_
     refine Tr.nil (Tr.thenN (Tr.seq (Tr.region ?_)))
     refine Tr.q (QS.fieldAddr (off := 3) (ft := 3) rfl Try.underlying41 rfl rfl Try.sizeOf3 (by decide)) rfl ?_
     refine Tr.q (QS.lV rfl Try.isAgg3) rfl ?_
     refine Tr.nil (Tr.thenN (Tr.block (Tr.seq (Tr.region ?_))))
     refine Tr.q (QS.eql rfl rfl) rfl ?_
     refine Tr.q (QS.assign rfl) rfl ?_
     refine Tr.nil (Tr.thenN ?_)
     refine Tr.cond rfl (fun h9 => ?_) (fun h9 => ?_)
     ·try simp only [bs] at h9
      refine Tr.seq (Tr.region ?_)
      refine Tr.q (QS.move rfl) rfl ?_
      refine Tr.q (QS.add8 (m := 32) rfl rfl) rfl ?_
      refine Tr.q (QS.assign rfl) rfl ?_
      refine Tr.q (QS.assign rfl) rfl ?_
      refine Tr.q (QS.assign rfl) rfl ?_
      refine Tr.nil (Tr.thenN (Tr.ret ?_))
      refine Tr.inR ?_
      refine Tr.inR ?_
      refine Tr.thenR ?_
      refine Tr.ret3 Try.results61 rfl rfl rfl (fun w' hw => ?_)
      exact ⟨by unfold opcodeP; (repeat (first | rw [if_pos (by omega)] | rw [if_neg (by omega)])) <;> rfl, hw.below (Bg.le.refl _)⟩
     ·try simp only [bs] at h9
      refine Tr.seq (Tr.region ?_)
      refine Tr.q (QS.eql rfl rfl) rfl ?_
      refine Tr.q (QS.assign rfl) rfl ?_
      refine Tr.nil (Tr.thenN ?_)
      refine Tr.cond rfl (fun h10 => ?_) (fun h10 => ?_)
      ·try simp only [bs] at h10
       refine Tr.seq (Tr.region ?_)
       refine Tr.q (QS.move rfl) rfl ?_
       refine Tr.q (QS.add8 (m := 48) rfl rfl) rfl ?_
       refine Tr.q (QS.assign rfl) rfl ?_
       refine Tr.q (QS.assign rfl) rfl ?_
       refine Tr.q (QS.assign rfl) rfl ?_
       refine Tr.nil (Tr.thenN (Tr.ret ?_))
       refine Tr.inR ?_
       refine Tr.inR ?_
       refine Tr.thenR ?_
       refine Tr.ret3 Try.results61 rfl rfl rfl (fun w' hw => ?_)
       exact ⟨by unfold opcodeP; (repeat (first | rw [if_pos (by omega)] | rw [if_neg (by omega)])) <;> rfl, hw.below (Bg.le.refl _)⟩
      ·try simp only [bs] at h10
       refine Tr.seq (Tr.region ?_)
       refine Tr.q (QS.eql rfl rfl) rfl ?_
       refine Tr.q (QS.assign rfl) rfl ?_
       refine Tr.nil (Tr.thenN ?_)
       refine Tr.cond rfl (fun h11 => ?_) (fun h11 => ?_)
       ·try simp only [bs] at h11
        refine Tr.seq (Tr.region ?_)
        refine Tr.q (QS.move rfl) rfl ?_
        refine Tr.q (QS.add8 (m := 64) rfl rfl) rfl ?_
        refine Tr.q (QS.assign rfl) rfl ?_
        refine Tr.q (QS.assign rfl) rfl ?_
        refine Tr.q (QS.assign rfl) rfl ?_
        refine Tr.nil (Tr.thenN (Tr.ret ?_))
        refine Tr.inR ?_
        refine Tr.inR ?_
        refine Tr.thenR ?_
        refine Tr.ret3 Try.results61 rfl rfl rfl (fun w' hw => ?_)
        exact ⟨by unfold opcodeP; (repeat (first | rw [if_pos (by omega)] | rw [if_neg (by omega)])) <;> rfl, hw.below (Bg.le.refl _)⟩
       ·try simp only [bs] at h11
        refine Tr.skip (Tr.inN (Tr.inN (Tr.thenN (Tr.seq (Tr.region ?_)))))
        refine Tr.q (QS.assign rfl) rfl ?_
        refine Tr.q (QS.assign rfl) rfl ?_
        refine Tr.q (QS.assign rfl) rfl ?_
        refine Tr.nil (Tr.thenN (Tr.ret ?_))
        refine Tr.ret3 Try.results61 rfl rfl rfl (fun w' hw => ?_)
        exact ⟨by unfold opcodeP; (repeat (first | rw [if_pos (by omega)] | rw [if_neg (by omega)])) <;> rfl, hw.below (Bg.le.refl _)⟩
    ·try simp only [bs] at h8
     refine Tr.seq (Tr.seq (Tr.region ?_))
     refine Tr.q (QS.fieldAddr (off := 2) (ft := 3) rfl Try.underlying41 rfl rfl Try.sizeOf3 (by decide)) rfl ?_
     refine Tr.q (QS.lV rfl Try.isAgg3) rfl ?_
     refine Tr.q (QS.eql rfl rfl) rfl ?_
     refine Tr.q (QS.assign rfl) rfl ?_
     refine Tr.nil (Tr.thenN ?_)
     apply Tr.condOr
     ·exact rfl
     ·intro hO12
      try simp only [bs] at hO12
      refine Tr.seq (Tr.region ?_)
      refine Tr.q (QS.fieldAddr (off := 2) (ft := 3) rfl Try.underlying41 rfl rfl Try.sizeOf3 (by decide)) rfl ?_
      refine Tr.q (QS.lV rfl Try.isAgg3) rfl ?_
      refine Tr.q (QS.eql rfl rfl) rfl ?_
      refine Tr.q (QS.assign rfl) rfl ?_
      refine Tr.nil (Tr.thenN ?_)
      apply Tr.condOr
      ·exact rfl
      ·intro hO13
       try simp only [bs] at hO13
       refine Tr.region ?_
       refine Tr.q (QS.fieldAddr (off := 2) (ft := 3) rfl Try.underlying41 rfl rfl Try.sizeOf3 (by decide)) rfl ?_
       refine Tr.q (QS.lV rfl Try.isAgg3) rfl ?_
       refine Tr.q (QS.eql rfl rfl) rfl ?_
       refine Tr.q (QS.assign rfl) rfl ?_
       refine Tr.nil (Tr.thenN ?_)
       exact Tr.endOr rfl (SubX.dropN 4 (by kernel_rfl) rfl)
      refine Tr.thenN ?_
      exact Tr.endOr rfl (SubX.dropN 5 (by kernel_rfl) rfl)
     refine Tr.thenN ?_
     refine Tr.cond rfl (fun h14 => ?_) (fun h14 => ?_)
     ·try simp only [bs] at h14
      refine Tr.seq (Tr.region ?_)
      refine Tr.q (QS.lW rfl Try.isAgg41 Try.sizeOf41) rfl ?_
      refine Tr.q (QS.call rfl Try.call89 (fun w hw => access_any i w)) rfl ?_
      refine Tr.q (QS.extract rfl rfl) rfl ?_
      refine Tr.q (QS.extract rfl rfl) rfl ?_
      refine Tr.q (QS.extract rfl rfl) rfl ?_
      refine Tr.q (QS.assign rfl) rfl ?_
      refine Tr.q (QS.assign rfl) rfl ?_
      refine Tr.q (QS.assign rfl) rfl ?_
      refine Tr.nil (Tr.thenN (Tr.ret ?_))
      refine Tr.inR ?_
      refine Tr.thenR ?_
      refine Tr.ret3 Try.results61 rfl rfl rfl (fun w' hw => ?_)
      exact ⟨by unfold opcodeP; (repeat (first | rw [if_pos (by omega)] | rw [if_neg (by omega)])) <;> rfl, hw.below (Bg.le.refl _)⟩
     ·try simp only [bs] at h14
      refine Tr.seq (Tr.region ?_)
      refine Tr.q (QS.fieldAddr (off := 2) (ft := 3) rfl Try.underlying41 rfl rfl Try.sizeOf3 (by decide)) rfl ?_
      refine Tr.q (QS.lV rfl Try.isAgg3) rfl ?_
      refine Tr.q (QS.eql rfl rfl) rfl ?_
      refine Tr.q (QS.assign rfl) rfl ?_
      refine Tr.nil (Tr.thenN ?_)
      refine Tr.cond rfl (fun h15 => ?_) (fun h15 => ?_)
      ·try simp only [bs] at h15
       refine Tr.seq (Tr.region ?_)
       refine Tr.q (QS.assign rfl) rfl ?_
       refine Tr.q (QS.assign rfl) rfl ?_
       refine Tr.q (QS.assign rfl) rfl ?_
       refine Tr.nil (Tr.thenN (Tr.ret ?_))
       refine Tr.inR ?_
       refine Tr.thenR ?_
       refine Tr.ret3 Try.results61 rfl rfl rfl (fun w' hw => ?_)
       exact ⟨by unfold opcodeP; (repeat (first | rw [if_pos (by omega)] | rw [if_neg (by omega)])) <;> rfl, hw.below (Bg.le.refl _)⟩
      ·try simp only [bs] at h15
       refine Tr.seq (Tr.region ?_)
       refine Tr.q (QS.fieldAddr (off := 2) (ft := 3) rfl Try.underlying41 rfl rfl Try.sizeOf3 (by decide)) rfl ?_
       refine Tr.q (QS.lV rfl Try.isAgg3) rfl ?_
       refine Tr.q (QS.eql rfl rfl) rfl ?_
       refine Tr.q (QS.move rfl) rfl ?_
       apply Tr.orP
       ·exact (rfl : _ = (4, 87, 91))
       ·exact rfl
       ·intro hF16; have hF16' := hF16
        try simp only [bs] at hF16'
        refine Tr.gq rfl rfl hF16 (QS.fieldAddr (off := 2) (ft := 3) rfl Try.underlying41 rfl rfl Try.sizeOf3 (by decide)) rfl ?_
        refine Tr.gq rfl rfl hF16 (QS.lV rfl Try.isAgg3) rfl ?_
        refine Tr.gq rfl rfl hF16 (QS.eql rfl rfl) rfl ?_
        refine Tr.q (QS.pickF rfl hF16 rfl) rfl ?_
        refine Tr.nil (Tr.thenN ?_)
        exact Tr.endX (Sub.cons rfl (Sub.dropN 4 (by kernel_rfl) rfl))
       ·intro hT16
        refine Tr.gskip rfl rfl hT16 rfl ?_
        refine Tr.gskip rfl rfl hT16 rfl ?_
        refine Tr.gskip rfl rfl hT16 rfl ?_
        refine Tr.q (QS.pickT rfl hT16 rfl) rfl ?_
        refine Tr.nil (Tr.thenN ?_)
        exact Tr.endX (Sub.cons rfl (Sub.dropN 4 (by kernel_rfl) rfl))
       refine Tr.q (QS.assign rfl) rfl ?_
       refine Tr.nil (Tr.thenN ?_)
       refine Tr.cond rfl (fun h17 => ?_) (fun h17 => ?_)
       ·try simp only [bs] at h17
        refine Tr.seq (Tr.region ?_)
        refine Tr.q (QS.lW rfl Try.isAgg41 Try.sizeOf41) rfl ?_
        refine Tr.q (QS.call rfl Try.call90 (fun w hw => conditional_any i w)) rfl ?_
        refine Tr.q (QS.extract rfl rfl) rfl ?_
        refine Tr.q (QS.extract rfl rfl) rfl ?_
        refine Tr.q (QS.extract rfl rfl) rfl ?_
        refine Tr.q (QS.assign rfl) rfl ?_
        refine Tr.q (QS.assign rfl) rfl ?_
        refine Tr.q (QS.assign rfl) rfl ?_
        refine Tr.nil (Tr.thenN (Tr.ret ?_))
        refine Tr.inR ?_
        refine Tr.thenR ?_
        refine Tr.ret3 Try.results61 rfl rfl rfl (fun w' hw => ?_)
        exact ⟨by unfold opcodeP; (repeat (first | rw [if_pos (by omega)] | rw [if_neg (by omega)])) <;> rfl, hw.below (Bg.le.refl _)⟩
       ·try simp only [bs] at h17
        refine Tr.seq (Tr.region ?_)
        refine Tr.q (QS.fieldAddr (off := 2) (ft := 3) rfl Try.underlying41 rfl rfl Try.sizeOf3 (by decide)) rfl ?_
        refine Tr.q (QS.lV rfl Try.isAgg3) rfl ?_
        refine Tr.q (QS.eql rfl rfl) rfl ?_
        refine Tr.q (QS.assign rfl) rfl ?_
        refine Tr.nil (Tr.thenN ?_)
        refine Tr.cond rfl (fun h18 => ?_) (fun h18 => ?_)
        ·try simp only [bs] at h18
         refine Tr.seq (Tr.region ?_)
         refine Tr.q (QS.assign rfl) rfl ?_
         refine Tr.q (QS.assign rfl) rfl ?_
         refine Tr.q (QS.assign rfl) rfl ?_
         refine Tr.nil (Tr.thenN (Tr.ret ?_))
         refine Tr.inR ?_
         refine Tr.thenR ?_
         refine Tr.ret3 Try.results61 rfl rfl rfl (fun w' hw => ?_)
         exact ⟨by unfold opcodeP; (repeat (first | rw [if_pos (by omega)] | rw [if_neg (by omega)])) <;> rfl, hw.below (Bg.le.refl _)⟩
        ·try simp only [bs] at h18
         refine Tr.seq (Tr.region ?_)
         refine Tr.q (QS.fieldAddr (off := 2) (ft := 3) rfl Try.underlying41 rfl rfl Try.sizeOf3 (by decide)) rfl ?_
         refine Tr.q (QS.lV rfl Try.isAgg3) rfl ?_
         refine Tr.q (QS.eql rfl rfl) rfl ?_
         refine Tr.q (QS.assign rfl) rfl ?_
         refine Tr.nil (Tr.thenN ?_)
         refine Tr.cond rfl (fun h19 => ?_) (fun h19 => ?_)
         ·try simp only [bs] at h19
          refine Tr.seq (Tr.region ?_)
          refine Tr.q (QS.assign rfl) rfl ?_
          refine Tr.q (QS.assign rfl) rfl ?_
          refine Tr.q (QS.assign rfl) rfl ?_
          refine Tr.nil (Tr.thenN (Tr.ret ?_))
          refine Tr.inR ?_
          refine Tr.thenR ?_
          refine Tr.ret3 Try.results61 rfl rfl rfl (fun w' hw => ?_)
          exact ⟨by unfold opcodeP; (repeat (first | rw [if_pos (by omega)] | rw [if_neg (by omega)])) <;> rfl, hw.below (Bg.le.refl _)⟩
         ·try simp only [bs] at h19
          refine Tr.seq (Tr.region ?_)
          refine Tr.q (QS.fieldAddr (off := 2) (ft := 3) rfl Try.underlying41 rfl rfl Try.sizeOf3 (by decide)) rfl ?_
          refine Tr.q (QS.lV rfl Try.isAgg3) rfl ?_
          refine Tr.q (QS.eql rfl rfl) rfl ?_
          refine Tr.q (QS.assign rfl) rfl ?_
          refine Tr.nil (Tr.thenN ?_)
          refine Tr.cond rfl (fun h20 => ?_) (fun h20 => ?_)
          ·try simp only [bs] at h20
           refine Tr.seq (Tr.region ?_)
           refine Tr.q (QS.assign rfl) rfl ?_
           refine Tr.q (QS.assign rfl) rfl ?_
           refine Tr.q (QS.assign rfl) rfl ?_
           refine Tr.nil (Tr.thenN (Tr.ret ?_))
           refine Tr.inR ?_
           refine Tr.thenR ?_
           refine Tr.ret3 Try.results61 rfl rfl rfl (fun w' hw => ?_)
           exact ⟨by unfold opcodeP; (repeat (first | rw [if_pos (by omega)] | rw [if_neg (by omega)])) <;> rfl, hw.below (Bg.le.refl _)⟩
          ·try simp only [bs] at h20
           refine Tr.seq (Tr.region ?_)
           refine Tr.q (QS.fieldAddr (off := 2) (ft := 3) rfl Try.underlying41 rfl rfl Try.sizeOf3 (by decide)) rfl ?_
           refine Tr.q (QS.lV rfl Try.isAgg3) rfl ?_
           refine Tr.q (QS.eql rfl rfl) rfl ?_
           refine Tr.q (QS.assign rfl) rfl ?_
           refine Tr.nil (Tr.thenN ?_)
           refine Tr.cond rfl (fun h21 => ?_) (fun h21 => ?_)
           ·try simp only [bs] at h21
            refine Tr.seq (Tr.region ?_)
            refine Tr.q (QS.assign rfl) rfl ?_
            refine Tr.q (QS.assign rfl) rfl ?_
            refine Tr.q (QS.assign rfl) rfl ?_
            refine Tr.nil (Tr.thenN (Tr.ret ?_))
            refine Tr.inR ?_
            refine Tr.thenR ?_
            refine Tr.ret3 Try.results61 rfl rfl rfl (fun w' hw => ?_)
            exact ⟨by unfold opcodeP; (repeat (first | rw [if_pos (by omega)] | rw [if_neg (by omega)])) <;> rfl, hw.below (Bg.le.refl _)⟩
           ·try simp only [bs] at h21
            refine Tr.seq (Tr.region ?_)
            refine Tr.q (QS.fieldAddr (off := 2) (ft := 3) rfl Try.underlying41 rfl rfl Try.sizeOf3 (by decide)) rfl ?_
            refine Tr.q (QS.lV rfl Try.isAgg3) rfl ?_
            refine Tr.q (QS.eql rfl rfl) rfl ?_
            refine Tr.q (QS.assign rfl) rfl ?_
            refine Tr.nil (Tr.thenN ?_)
            refine Tr.cond rfl (fun h22 => ?_) (fun h22 => ?_)
            ·try simp only [bs] at h22
             refine Tr.seq (Tr.region ?_)
             refine Tr.q (QS.assign rfl) rfl ?_
             refine Tr.q (QS.assign rfl) rfl ?_
             refine Tr.q (QS.assign rfl) rfl ?_
             refine Tr.nil (Tr.thenN (Tr.ret ?_))
             refine Tr.inR ?_
             refine Tr.thenR ?_
             refine Tr.ret3 Try.results61 rfl rfl rfl (fun w' hw => ?_)
             exact ⟨by unfold opcodeP; (repeat (first | rw [if_pos (by omega)] | rw [if_neg (by omega)])) <;> rfl, hw.below (Bg.le.refl _)⟩
            ·try simp only [bs] at h22
             refine Tr.seq (Tr.region ?_)
             refine Tr.q (QS.fieldAddr (off := 2) (ft := 3) rfl Try.underlying41 rfl rfl Try.sizeOf3 (by decide)) rfl ?_
             refine Tr.q (QS.lV rfl Try.isAgg3) rfl ?_
             refine Tr.q (QS.eql rfl rfl) rfl ?_
             refine Tr.q (QS.assign rfl) rfl ?_
             refine Tr.nil (Tr.thenN ?_)
             refine Tr.cond rfl (fun h23 => ?_) (fun h23 => ?_)
             ·try simp only [bs] at h23
              refine Tr.seq (Tr.region ?_)
              refine Tr.q (QS.assign rfl) rfl ?_
              refine Tr.q (QS.assign rfl) rfl ?_
              refine Tr.q (QS.assign rfl) rfl ?_
              refine Tr.nil (Tr.thenN (Tr.ret ?_))
              refine Tr.inR ?_
              refine Tr.thenR ?_
              refine Tr.ret3 Try.results61 rfl rfl rfl (fun w' hw => ?_)
              exact ⟨by unfold opcodeP; (repeat (first | rw [if_pos (by omega)] | rw [if_neg (by omega)])) <;> rfl, hw.below (Bg.le.refl _)⟩
             ·try simp only [bs] at h23
              refine Tr.skip (Tr.inN (Tr.thenN (Tr.seq (Tr.region ?_))))
              refine Tr.q (QS.assign rfl) rfl ?_
              refine Tr.q (QS.assign rfl) rfl ?_
              refine Tr.q (QS.assign rfl) rfl ?_
              refine Tr.nil (Tr.thenN (Tr.ret ?_))
              refine Tr.ret3 Try.results61 rfl rfl rfl (fun w' hw => ?_)
              exact ⟨by unfold opcodeP; (repeat (first | rw [if_pos (by omega)] | rw [if_neg (by omega)])) <;> rfl, hw.below (Bg.le.refl _)⟩
set_option maxRecDepth 100000 in
set_option maxHeartbeats 2000000 in
theorem kept_any (i : Ins) (s : Int) (w : World) :
  Calls Try.prog 87 #[.agg (encIns.enc i).toArray, .int .i64 s] w (fun e w' => e = .returned (.agg (encIns.enc (keptP i s)).toArray) ∧ Ext w w') := by
 refine enter Try.func87 rfl Try.ntmps87 rfl ?_
 refine Tr.seq (Tr.region ?_)
 refine Tr.box rfl rfl rfl (fun b1 => ?_)
 refine Tr.alloc Try.zeroValue41 rfl rfl (fun b2 => ?_)
 refine Tr.nil (Tr.thenN (Tr.seq (Tr.region ?_)))
 refine Tr.q (QS.fieldAddr (off := 0) (ft := 39) rfl Try.underlying41 rfl rfl Try.sizeOf39 (by decide)) rfl ?_
 refine Tr.q (QS.lV rfl Try.isAgg39) rfl ?_
 refine Tr.q (QS.fieldAddr (off := 2) (ft := 3) rfl Try.underlying41 rfl rfl Try.sizeOf3 (by decide)) rfl ?_
 refine Tr.q (QS.lV rfl Try.isAgg3) rfl ?_
 refine Tr.q (QS.fieldAddr (off := 8) (ft := 3) rfl Try.underlying41 rfl rfl Try.sizeOf3 (by decide)) rfl ?_
 refine Tr.q (QS.lV rfl Try.isAgg3) rfl ?_
 refine Tr.q (QS.build (vs := [(0, _), (2, _), (8, _)]) rfl rfl (HLF.built41_0_2_8 _ _ _)) rfl ?_
 refine Tr.alloc Try.zeroValue41 rfl rfl (fun b3 => ?_)
 refine Tr.storeW rfl rfl Try.sizeOf41 (by repeat constructor) (by rfl) (by rfl) (by first | exact List.all_eq_true.1 rfl | exact Enc.one _ _ | exact Enc.one encIns _) rfl ?_
 refine Tr.nil (Tr.thenN ?_)
 refine Tr.seqJ (ι := Ins) (fun k1 => k1 = kept1 i s) (fun _ => Bg.of w) (fun k1 => [cellE b3 (encIns.enc k1) 41, cellE b2 (encIns.enc zeroIns) 41, cellE b1 (encIns.enc i) 41]) (fun k1 => []) ?_ (fun k1 hi => ?_)
 ·skip
  refine Tr.seq (Tr.region ?_)
  refine Tr.q (QS.move rfl) rfl ?_
  refine Tr.nil (Tr.thenN (Tr.block (Tr.seq (Tr.seq (Tr.region ?_)))))
  refine Tr.q (QS.eql rfl rfl) rfl ?_
  refine Tr.q (QS.assign rfl) rfl ?_
  refine Tr.nil (Tr.thenN ?_)
  apply Tr.condOr
  ·exact rfl
  ·intro hO4
   try simp only [bs] at hO4
   refine Tr.region ?_
   refine Tr.q (QS.eql rfl rfl) rfl ?_
   refine Tr.q (QS.assign rfl) rfl ?_
   refine Tr.nil (Tr.thenN ?_)
   exact Tr.endOr rfl (SubX.dropN 2 (by kernel_rfl) rfl)
  refine Tr.thenN ?_
  refine Tr.cond rfl (fun h5 => ?_) (fun h5 => ?_)
  ·try simp only [bs] at h5
   refine Tr.region ?_
   refine Tr.q (QS.fieldAddr (off := 6) (ft := 3) rfl Try.underlying41 rfl rfl Try.sizeOf3 (by decide)) rfl ?_
   refine Tr.q (QS.lV rfl Try.isAgg3) rfl ?_
   refine Tr.q (QS.fieldAddr (off := 6) (ft := 3) rfl Try.underlying41 rfl rfl Try.sizeOf3 (by decide)) rfl ?_
   refine Tr.storeV (cs' := [_, _, _, _, _, _, _, _, _]) rfl rfl Try.sizeOf3 (by repeat constructor) rfl (by rfl) (by first | exact Nat.le_of_ble_eq_true rfl | simp) (by first | exact List.all_eq_true.1 rfl | (intro u hu; simp [Value.cells] at hu; simp_all [Value.oneCell'])) rfl ?_
   refine Tr.nil (Tr.inN (Tr.thenN ?_))
   apply Tr.joined ⟨i.addr, 0, i.op, 0, 0, 0, i.a, 0, i.size⟩
   ·exact rfl
   ·exact Front.nil
   ·exact SubX.dropN 7 (by kernel_rfl) rfl
   ·exact (by repeat' constructor)
   ·exact (by simp only [kept1]; congr 1 <;> first | rfl | (rw [if_pos (by omega)]) | (rw [if_neg (by omega)]))
  ·try simp only [bs] at h5
   refine Tr.seq (Tr.region ?_)
   refine Tr.q (QS.eql rfl rfl) rfl ?_
   refine Tr.q (QS.assign rfl) rfl ?_
   refine Tr.nil (Tr.thenN ?_)
   refine Tr.cond rfl (fun h6 => ?_) (fun h6 => ?_)
   ·try simp only [bs] at h6
    refine Tr.regionH ([cellE b1 (encIns.enc i) 41]) 8 rfl HLF.mixed ?_
    refine Tr.hT 0 rfl (by kernel_rfl) (panicIn (panicThen panicBody)) (QS.fieldAddr (off := 6) (ft := 3) rfl Try.underlying41 rfl rfl Try.sizeOf3 (by decide)) ?_
    refine Tr.hT 1 rfl (by kernel_rfl) (panicIn (panicThen panicBody)) (QS.lV rfl Try.isAgg3) ?_
    refine Tr.hT 2 rfl (by kernel_rfl) (panicIn (panicThen panicBody)) (QS.fieldAddr (off := 7) (ft := 3) rfl Try.underlying41 rfl rfl Try.sizeOf3 (by decide)) ?_
    refine Tr.hT 3 rfl (by kernel_rfl) (panicIn (panicThen panicBody)) (QS.lV rfl Try.isAgg3) ?_
    refine Tr.hT 4 rfl (by kernel_rfl) (panicIn (panicThen panicBody)) (QS.fieldAddr (off := 6) (ft := 3) rfl Try.underlying41 rfl rfl Try.sizeOf3 (by decide)) ?_
    refine Tr.hAll [5] (by kernel_rfl) (by simp) (fun iq hq => ?_)
    obtain rfl := List.mem_singleton.1 hq
    refine Tr.hOp rfl ?_
    refine Tr.storeV (cs' := [_, _, _, _, _, _, _, _, _]) rfl rfl Try.sizeOf3 (by repeat constructor) rfl (by rfl) (by first | exact Nat.le_of_ble_eq_true rfl | simp) (by first | exact List.all_eq_true.1 rfl | (intro u hu; simp [Value.cells] at hu; simp_all [Value.oneCell'])) rfl ?_
    refine Tr.hN ?_
    refine Tr.hT 6 rfl (by kernel_rfl) (panicIn (panicThen panicBody)) (QS.fieldAddr (off := 7) (ft := 3) rfl Try.underlying41 rfl rfl Try.sizeOf3 (by decide)) ?_
    refine Tr.hAll [7] (by kernel_rfl) (by simp) (fun iq hq => ?_)
    obtain rfl := List.mem_singleton.1 hq
    refine Tr.hOp rfl ?_
    refine Tr.storeV (cs' := [_, _, _, _, _, _, _, _, _]) rfl rfl Try.sizeOf3 (by repeat constructor) rfl (by rfl) (by first | exact Nat.le_of_ble_eq_true rfl | simp) (by first | exact List.all_eq_true.1 rfl | (intro u hu; simp [Value.cells] at hu; simp_all [Value.oneCell'])) rfl ?_
    refine Tr.hN ?_
    refine Tr.hDone (by kernel_rfl) ?_
    refine Tr.inN (Tr.thenN ?_)
    apply Tr.joined ⟨i.addr, 0, i.op, 0, 0, 0, i.a, i.b, i.size⟩
    ·exact rfl
    ·exact Front.nil
    ·exact SubX.dropN 12 (by kernel_rfl) rfl
    ·exact (by repeat' constructor)
    ·exact (by simp only [kept1]; congr 1 <;> first | rfl | (rw [if_pos (by omega)]) | (rw [if_neg (by omega)]))
   ·try simp only [bs] at h6
    refine Tr.seq (Tr.seq (Tr.region ?_))
    refine Tr.q (QS.eql rfl rfl) rfl ?_
    refine Tr.q (QS.assign rfl) rfl ?_
    refine Tr.nil (Tr.thenN ?_)
    apply Tr.condOr
    ·exact rfl
    ·intro hO7
     try simp only [bs] at hO7
     refine Tr.region ?_
     refine Tr.q (QS.eql rfl rfl) rfl ?_
     refine Tr.q (QS.assign rfl) rfl ?_
     refine Tr.nil (Tr.thenN ?_)
     exact Tr.endOr rfl (SubX.dropN 2 (by kernel_rfl) rfl)
    refine Tr.thenN ?_
    refine Tr.cond rfl (fun h8 => ?_) (fun h8 => ?_)
    ·try simp only [bs] at h8
     refine Tr.regionH ([cellE b1 (encIns.enc i) 41]) 8 rfl HLF.mixed ?_
     refine Tr.hT 0 rfl (by kernel_rfl) (panicIn (panicThen panicBody)) (QS.fieldAddr (off := 6) (ft := 3) rfl Try.underlying41 rfl rfl Try.sizeOf3 (by decide)) ?_
     refine Tr.hT 1 rfl (by kernel_rfl) (panicIn (panicThen panicBody)) (QS.lV rfl Try.isAgg3) ?_
     refine Tr.hT 2 rfl (by kernel_rfl) (panicIn (panicThen panicBody)) (QS.fieldAddr (off := 1) (ft := 39) rfl Try.underlying41 rfl rfl Try.sizeOf39 (by decide)) ?_
     refine Tr.hT 3 rfl (by kernel_rfl) (panicIn (panicThen panicBody)) (QS.lV rfl Try.isAgg39) ?_
     refine Tr.hT 4 rfl (by kernel_rfl) (panicIn (panicThen panicBody)) (QS.fieldAddr (off := 6) (ft := 3) rfl Try.underlying41 rfl rfl Try.sizeOf3 (by decide)) ?_
     refine Tr.hAll [5] (by kernel_rfl) (by simp) (fun iq hq => ?_)
     obtain rfl := List.mem_singleton.1 hq
     refine Tr.hOp rfl ?_
     refine Tr.storeV (cs' := [_, _, _, _, _, _, _, _, _]) rfl rfl Try.sizeOf3 (by repeat constructor) rfl (by rfl) (by first | exact Nat.le_of_ble_eq_true rfl | simp) (by first | exact List.all_eq_true.1 rfl | (intro u hu; simp [Value.cells] at hu; simp_all [Value.oneCell'])) rfl ?_
     refine Tr.hN ?_
     refine Tr.hT 6 rfl (by kernel_rfl) (panicIn (panicThen panicBody)) (QS.fieldAddr (off := 1) (ft := 39) rfl Try.underlying41 rfl rfl Try.sizeOf39 (by decide)) ?_
     refine Tr.hAll [7] (by kernel_rfl) (by simp) (fun iq hq => ?_)
     obtain rfl := List.mem_singleton.1 hq
     refine Tr.hOp rfl ?_
     refine Tr.storeV (cs' := [_, _, _, _, _, _, _, _, _]) rfl rfl Try.sizeOf39 (by repeat constructor) rfl (by rfl) (by first | exact Nat.le_of_ble_eq_true rfl | simp) (by first | exact List.all_eq_true.1 rfl | (intro u hu; simp [Value.cells] at hu; simp_all [Value.oneCell'])) rfl ?_
     refine Tr.hN ?_
     refine Tr.hDone (by kernel_rfl) ?_
     refine Tr.inN (Tr.thenN ?_)
     apply Tr.joined ⟨i.addr, i.imm, i.op, 0, 0, 0, i.a, 0, i.size⟩
     ·exact rfl
     ·exact Front.nil
     ·exact SubX.dropN 15 (by kernel_rfl) rfl
     ·exact (by repeat' constructor)
     ·exact (by simp only [kept1]; congr 1 <;> first | rfl | (rw [if_pos (by omega)]) | (rw [if_neg (by omega)]))
    ·try simp only [bs] at h8
     refine Tr.seq (Tr.region ?_)
     refine Tr.q (QS.eql rfl rfl) rfl ?_
     refine Tr.q (QS.assign rfl) rfl ?_
     refine Tr.nil (Tr.thenN ?_)
     refine Tr.cond rfl (fun h9 => ?_) (fun h9 => ?_)
     ·try simp only [bs] at h9
      refine Tr.regionH ([cellE b1 (encIns.enc i) 41]) 12 rfl HLF.mixed ?_
      refine Tr.hT 0 rfl (by kernel_rfl) (panicIn (panicThen panicBody)) (QS.fieldAddr (off := 6) (ft := 3) rfl Try.underlying41 rfl rfl Try.sizeOf3 (by decide)) ?_
      refine Tr.hT 1 rfl (by kernel_rfl) (panicIn (panicThen panicBody)) (QS.lV rfl Try.isAgg3) ?_
      refine Tr.hT 2 rfl (by kernel_rfl) (panicIn (panicThen panicBody)) (QS.fieldAddr (off := 7) (ft := 3) rfl Try.underlying41 rfl rfl Try.sizeOf3 (by decide)) ?_
      refine Tr.hT 3 rfl (by kernel_rfl) (panicIn (panicThen panicBody)) (QS.lV rfl Try.isAgg3) ?_
      refine Tr.hT 4 rfl (by kernel_rfl) (panicIn (panicThen panicBody)) (QS.fieldAddr (off := 1) (ft := 39) rfl Try.underlying41 rfl rfl Try.sizeOf39 (by decide)) ?_
      refine Tr.hT 5 rfl (by kernel_rfl) (panicIn (panicThen panicBody)) (QS.lV rfl Try.isAgg39) ?_
      refine Tr.hT 6 rfl (by kernel_rfl) (panicIn (panicThen panicBody)) (QS.fieldAddr (off := 6) (ft := 3) rfl Try.underlying41 rfl rfl Try.sizeOf3 (by decide)) ?_
      refine Tr.hAll [7] (by kernel_rfl) (by simp) (fun iq hq => ?_)
      obtain rfl := List.mem_singleton.1 hq
      refine Tr.hOp rfl ?_
      refine Tr.storeV (cs' := [_, _, _, _, _, _, _, _, _]) rfl rfl Try.sizeOf3 (by repeat constructor) rfl (by rfl) (by first | exact Nat.le_of_ble_eq_true rfl | simp) (by first | exact List.all_eq_true.1 rfl | (intro u hu; simp [Value.cells] at hu; simp_all [Value.oneCell'])) rfl ?_
      refine Tr.hN ?_
      refine Tr.hT 8 rfl (by kernel_rfl) (panicIn (panicThen panicBody)) (QS.fieldAddr (off := 7) (ft := 3) rfl Try.underlying41 rfl rfl Try.sizeOf3 (by decide)) ?_
      refine Tr.hAll [9] (by kernel_rfl) (by simp) (fun iq hq => ?_)
      obtain rfl := List.mem_singleton.1 hq
      refine Tr.hOp rfl ?_
      refine Tr.storeV (cs' := [_, _, _, _, _, _, _, _, _]) rfl rfl Try.sizeOf3 (by repeat constructor) rfl (by rfl) (by first | exact Nat.le_of_ble_eq_true rfl | simp) (by first | exact List.all_eq_true.1 rfl | (intro u hu; simp [Value.cells] at hu; simp_all [Value.oneCell'])) rfl ?_
      refine Tr.hN ?_
      refine Tr.hT 10 rfl (by kernel_rfl) (panicIn (panicThen panicBody)) (QS.fieldAddr (off := 1) (ft := 39) rfl Try.underlying41 rfl rfl Try.sizeOf39 (by decide)) ?_
      refine Tr.hAll [11] (by kernel_rfl) (by simp) (fun iq hq => ?_)
      obtain rfl := List.mem_singleton.1 hq
      refine Tr.hOp rfl ?_
      refine Tr.storeV (cs' := [_, _, _, _, _, _, _, _, _]) rfl rfl Try.sizeOf39 (by repeat constructor) rfl (by rfl) (by first | exact Nat.le_of_ble_eq_true rfl | simp) (by first | exact List.all_eq_true.1 rfl | (intro u hu; simp [Value.cells] at hu; simp_all [Value.oneCell'])) rfl ?_
      refine Tr.hN ?_
      refine Tr.hDone (by kernel_rfl) ?_
      refine Tr.inN (Tr.thenN ?_)
      apply Tr.joined ⟨i.addr, i.imm, i.op, 0, 0, 0, i.a, i.b, i.size⟩
      ·exact rfl
      ·exact Front.nil
      ·exact SubX.dropN 20 (by kernel_rfl) rfl
      ·exact (by repeat' constructor)
      ·exact (by simp only [kept1]; congr 1 <;> first | rfl | (rw [if_pos (by omega)]) | (rw [if_neg (by omega)]))
     ·try simp only [bs] at h9
      refine Tr.seq (Tr.seq (Tr.region ?_))
      refine Tr.q (QS.eql rfl rfl) rfl ?_
      refine Tr.q (QS.assign rfl) rfl ?_
      refine Tr.nil (Tr.thenN ?_)
      apply Tr.condOr
      ·exact rfl
      ·intro hO10
       try simp only [bs] at hO10
       refine Tr.region ?_
       refine Tr.q (QS.eql rfl rfl) rfl ?_
       refine Tr.q (QS.assign rfl) rfl ?_
       refine Tr.nil (Tr.thenN ?_)
       exact Tr.endOr rfl (SubX.dropN 2 (by kernel_rfl) rfl)
      refine Tr.thenN ?_
      refine Tr.cond rfl (fun h11 => ?_) (fun h11 => ?_)
      ·try simp only [bs] at h11
       refine Tr.region ?_
       refine Tr.q (QS.fieldAddr (off := 1) (ft := 39) rfl Try.underlying41 rfl rfl Try.sizeOf39 (by decide)) rfl ?_
       refine Tr.q (QS.lV rfl Try.isAgg39) rfl ?_
       refine Tr.q (QS.fieldAddr (off := 1) (ft := 39) rfl Try.underlying41 rfl rfl Try.sizeOf39 (by decide)) rfl ?_
       refine Tr.storeV (cs' := [_, _, _, _, _, _, _, _, _]) rfl rfl Try.sizeOf39 (by repeat constructor) rfl (by rfl) (by first | exact Nat.le_of_ble_eq_true rfl | simp) (by first | exact List.all_eq_true.1 rfl | (intro u hu; simp [Value.cells] at hu; simp_all [Value.oneCell'])) rfl ?_
       refine Tr.nil (Tr.inN (Tr.thenN ?_))
       apply Tr.joined ⟨i.addr, i.imm, i.op, 0, 0, 0, 0, 0, i.size⟩
       ·exact rfl
       ·exact Front.nil
       ·exact SubX.dropN 17 (by kernel_rfl) rfl
       ·exact (by repeat' constructor)
       ·exact (by simp only [kept1]; congr 1 <;> first | rfl | (rw [if_pos (by omega)]) | (rw [if_neg (by omega)]))
      ·try simp only [bs] at h11
       refine Tr.skip (Tr.inN (Tr.thenN ?_))
       apply Tr.joined ⟨i.addr, 0, i.op, 0, 0, 0, 0, 0, i.size⟩
       ·exact rfl
       ·exact Front.nil
       ·exact SubX.dropN 14 (by kernel_rfl) rfl
       ·exact (by repeat' constructor)
       ·exact (by simp only [kept1]; congr 1 <;> first | rfl | (rw [if_pos (by omega)]) | (rw [if_neg (by omega)]))
 ·skip
  replace hi : k1 = kept1 i s := hi
  change Tr _ _ [cellE b3 (encIns.enc k1) 41, cellE b2 (encIns.enc zeroIns) 41, cellE b1 (encIns.enc i) 41] ([] ++ _) _
  refine Tr.seqJ (ι := Ins) (fun k2 => k2 = keptP i s) (fun _ => Bg.of w) (fun k2 => [cellE b3 (encIns.enc k2) 41, cellE b2 (encIns.enc zeroIns) 41, cellE b1 (encIns.enc i) 41]) (fun k2 => []) ?_ (fun k2 hi => ?_)
  ·skip
   refine Tr.block (Tr.seq (Tr.region ?_))
   refine Tr.q (QS.fieldAddr (off := 2) (ft := 3) rfl Try.underlying41 rfl rfl Try.sizeOf3 (by decide)) rfl ?_
   refine Tr.q (QS.lV rfl Try.isAgg3) rfl ?_
   refine Tr.q (QS.geq rfl rfl) rfl ?_
   refine Tr.q (QS.move rfl) rfl ?_
   apply Tr.andP
   ·exact (rfl : _ = (4, 58, 62))
   ·exact rfl
   ·intro hT12; have hT12' := hT12
    try simp only [bs] at hT12'
    refine Tr.gq rfl rfl hT12 (QS.fieldAddr (off := 2) (ft := 3) rfl Try.underlying41 rfl rfl Try.sizeOf3 (by decide)) rfl ?_
    refine Tr.gq rfl rfl hT12 (QS.lV rfl Try.isAgg3) rfl ?_
    refine Tr.gq rfl rfl hT12 (QS.leq rfl rfl) rfl ?_
    refine Tr.q (QS.pickT rfl hT12 rfl) rfl ?_
    refine Tr.nil (Tr.thenN ?_)
    exact Tr.endX (Sub.cons rfl (Sub.dropN 4 (by kernel_rfl) rfl))
   ·intro hF12
    refine Tr.gskip rfl rfl hF12 rfl ?_
    refine Tr.gskip rfl rfl hF12 rfl ?_
    refine Tr.gskip rfl rfl hF12 rfl ?_
    refine Tr.q (QS.pickF rfl hF12 rfl) rfl ?_
    refine Tr.nil (Tr.thenN ?_)
    exact Tr.endX (Sub.cons rfl (Sub.dropN 4 (by kernel_rfl) rfl))
   refine Tr.q (QS.assign rfl) rfl ?_
   refine Tr.nil (Tr.thenN ?_)
   refine Tr.cond rfl (fun h13 => ?_) (fun h13 => ?_)
   ·try simp only [bs] at h13
    refine Tr.region ?_
    refine Tr.q (QS.fieldAddr (off := 3) (ft := 3) rfl Try.underlying41 rfl rfl Try.sizeOf3 (by decide)) rfl ?_
    refine Tr.q (QS.lV rfl Try.isAgg3) rfl ?_
    refine Tr.q (QS.fieldAddr (off := 3) (ft := 3) rfl Try.underlying41 rfl rfl Try.sizeOf3 (by decide)) rfl ?_
    refine Tr.storeV (cs' := [_, _, _, _, _, _, _, _, _]) rfl rfl Try.sizeOf3 (by repeat constructor) rfl (by rfl) (by first | exact Nat.le_of_ble_eq_true rfl | simp) (by first | exact List.all_eq_true.1 rfl | (intro u hu; simp [Value.cells] at hu; simp_all [Value.oneCell'])) rfl ?_
    refine Tr.nil (Tr.inN (Tr.thenN ?_))
    apply Tr.joined { k1 with form := i.form }
    ·exact rfl
    ·exact Front.nil
    ·exact SubX.dropN 9 (by kernel_rfl) rfl
    ·exact (by repeat' constructor)
    ·exact (by subst hi; rw [keptP_eq]; congr 1 <;> first | rfl | (rw [if_pos (by omega)]) | (rw [if_neg (by omega)]; rfl))
   ·try simp only [bs] at h13
    refine Tr.seq (Tr.seq (Tr.region ?_))
    refine Tr.q (QS.fieldAddr (off := 2) (ft := 3) rfl Try.underlying41 rfl rfl Try.sizeOf3 (by decide)) rfl ?_
    refine Tr.q (QS.lV rfl Try.isAgg3) rfl ?_
    refine Tr.q (QS.eql rfl rfl) rfl ?_
    refine Tr.q (QS.assign rfl) rfl ?_
    refine Tr.nil (Tr.thenN ?_)
    apply Tr.condOr
    ·exact rfl
    ·intro hO14
     try simp only [bs] at hO14
     refine Tr.seq (Tr.region ?_)
     refine Tr.q (QS.fieldAddr (off := 2) (ft := 3) rfl Try.underlying41 rfl rfl Try.sizeOf3 (by decide)) rfl ?_
     refine Tr.q (QS.lV rfl Try.isAgg3) rfl ?_
     refine Tr.q (QS.eql rfl rfl) rfl ?_
     refine Tr.q (QS.assign rfl) rfl ?_
     refine Tr.nil (Tr.thenN ?_)
     apply Tr.condOr
     ·exact rfl
     ·intro hO15
      try simp only [bs] at hO15
      refine Tr.region ?_
      refine Tr.q (QS.fieldAddr (off := 2) (ft := 3) rfl Try.underlying41 rfl rfl Try.sizeOf3 (by decide)) rfl ?_
      refine Tr.q (QS.lV rfl Try.isAgg3) rfl ?_
      refine Tr.q (QS.eql rfl rfl) rfl ?_
      refine Tr.q (QS.assign rfl) rfl ?_
      refine Tr.nil (Tr.thenN ?_)
      exact Tr.endOr rfl (SubX.dropN 4 (by kernel_rfl) rfl)
     refine Tr.thenN ?_
     exact Tr.endOr rfl (SubX.dropN 5 (by kernel_rfl) rfl)
    refine Tr.thenN ?_
    refine Tr.cond rfl (fun h16 => ?_) (fun h16 => ?_)
    ·try simp only [bs] at h16
     refine Tr.region ?_
     refine Tr.q (QS.fieldAddr (off := 4) (ft := 3) rfl Try.underlying41 rfl rfl Try.sizeOf3 (by decide)) rfl ?_
     refine Tr.q (QS.lV rfl Try.isAgg3) rfl ?_
     refine Tr.q (QS.fieldAddr (off := 4) (ft := 3) rfl Try.underlying41 rfl rfl Try.sizeOf3 (by decide)) rfl ?_
     refine Tr.storeV (cs' := [_, _, _, _, _, _, _, _, _]) rfl rfl Try.sizeOf3 (by repeat constructor) rfl (by rfl) (by first | exact Nat.le_of_ble_eq_true rfl | simp) (by first | exact List.all_eq_true.1 rfl | (intro u hu; simp [Value.cells] at hu; simp_all [Value.oneCell'])) rfl ?_
     refine Tr.nil (Tr.inN (Tr.thenN ?_))
     apply Tr.joined { k1 with width := i.width }
     ·exact rfl
     ·exact Front.nil
     ·exact SubX.dropN 14 (by kernel_rfl) rfl
     ·exact (by repeat' constructor)
     ·exact (by subst hi; rw [keptP_eq]; congr 1 <;> first | rfl | (rw [if_pos (by omega)]) | (rw [if_neg (by omega)]; rfl))
    ·try simp only [bs] at h16
     refine Tr.seq (Tr.region ?_)
     refine Tr.q (QS.fieldAddr (off := 2) (ft := 3) rfl Try.underlying41 rfl rfl Try.sizeOf3 (by decide)) rfl ?_
     refine Tr.q (QS.lV rfl Try.isAgg3) rfl ?_
     refine Tr.q (QS.eql rfl rfl) rfl ?_
     refine Tr.q (QS.assign rfl) rfl ?_
     refine Tr.nil (Tr.thenN ?_)
     refine Tr.cond rfl (fun h17 => ?_) (fun h17 => ?_)
     ·try simp only [bs] at h17
      refine Tr.regionH ([cellE b1 (encIns.enc i) 41]) 8 rfl HLF.mixed ?_
      refine Tr.hT 0 rfl (by kernel_rfl) (panicIn (panicThen panicBody)) (QS.fieldAddr (off := 3) (ft := 3) rfl Try.underlying41 rfl rfl Try.sizeOf3 (by decide)) ?_
      refine Tr.hT 1 rfl (by kernel_rfl) (panicIn (panicThen panicBody)) (QS.lV rfl Try.isAgg3) ?_
      refine Tr.hT 2 rfl (by kernel_rfl) (panicIn (panicThen panicBody)) (QS.fieldAddr (off := 5) (ft := 3) rfl Try.underlying41 rfl rfl Try.sizeOf3 (by decide)) ?_
      refine Tr.hT 3 rfl (by kernel_rfl) (panicIn (panicThen panicBody)) (QS.lV rfl Try.isAgg3) ?_
      refine Tr.hT 4 rfl (by kernel_rfl) (panicIn (panicThen panicBody)) (QS.fieldAddr (off := 3) (ft := 3) rfl Try.underlying41 rfl rfl Try.sizeOf3 (by decide)) ?_
      refine Tr.hAll [5] (by kernel_rfl) (by simp) (fun iq hq => ?_)
      obtain rfl := List.mem_singleton.1 hq
      refine Tr.hOp rfl ?_
      refine Tr.storeV (cs' := [_, _, _, _, _, _, _, _, _]) rfl rfl Try.sizeOf3 (by repeat constructor) rfl (by rfl) (by first | exact Nat.le_of_ble_eq_true rfl | simp) (by first | exact List.all_eq_true.1 rfl | (intro u hu; simp [Value.cells] at hu; simp_all [Value.oneCell'])) rfl ?_
      refine Tr.hN ?_
      refine Tr.hT 6 rfl (by kernel_rfl) (panicIn (panicThen panicBody)) (QS.fieldAddr (off := 5) (ft := 3) rfl Try.underlying41 rfl rfl Try.sizeOf3 (by decide)) ?_
      refine Tr.hAll [7] (by kernel_rfl) (by simp) (fun iq hq => ?_)
      obtain rfl := List.mem_singleton.1 hq
      refine Tr.hOp rfl ?_
      refine Tr.storeV (cs' := [_, _, _, _, _, _, _, _, _]) rfl rfl Try.sizeOf3 (by repeat constructor) rfl (by rfl) (by first | exact Nat.le_of_ble_eq_true rfl | simp) (by first | exact List.all_eq_true.1 rfl | (intro u hu; simp [Value.cells] at hu; simp_all [Value.oneCell'])) rfl ?_
      refine Tr.hN ?_
      refine Tr.hDone (by kernel_rfl) ?_
      refine Tr.inN (Tr.thenN ?_)
      apply Tr.joined { k1 with form := i.form, cc := i.cc }
      ·exact rfl
      ·exact Front.nil
      ·exact SubX.dropN 21 (by kernel_rfl) rfl
      ·exact (by repeat' constructor)
      ·exact (by subst hi; rw [keptP_eq]; congr 1 <;> first | rfl | (rw [if_pos (by omega)]) | (rw [if_neg (by omega)]; rfl))
     ·try simp only [bs] at h17
      refine Tr.seq (Tr.region ?_)
      refine Tr.q (QS.fieldAddr (off := 2) (ft := 3) rfl Try.underlying41 rfl rfl Try.sizeOf3 (by decide)) rfl ?_
      refine Tr.q (QS.lV rfl Try.isAgg3) rfl ?_
      refine Tr.q (QS.eql rfl rfl) rfl ?_
      refine Tr.q (QS.assign rfl) rfl ?_
      refine Tr.nil (Tr.thenN ?_)
      refine Tr.cond rfl (fun h18 => ?_) (fun h18 => ?_)
      ·try simp only [bs] at h18
       refine Tr.region ?_
       refine Tr.q (QS.fieldAddr (off := 5) (ft := 3) rfl Try.underlying41 rfl rfl Try.sizeOf3 (by decide)) rfl ?_
       refine Tr.q (QS.lV rfl Try.isAgg3) rfl ?_
       refine Tr.q (QS.fieldAddr (off := 5) (ft := 3) rfl Try.underlying41 rfl rfl Try.sizeOf3 (by decide)) rfl ?_
       refine Tr.storeV (cs' := [_, _, _, _, _, _, _, _, _]) rfl rfl Try.sizeOf3 (by repeat constructor) rfl (by rfl) (by first | exact Nat.le_of_ble_eq_true rfl | simp) (by first | exact List.all_eq_true.1 rfl | (intro u hu; simp [Value.cells] at hu; simp_all [Value.oneCell'])) rfl ?_
       refine Tr.nil (Tr.inN (Tr.thenN ?_))
       apply Tr.joined { k1 with cc := i.cc }
       ·exact rfl
       ·exact Front.nil
       ·exact SubX.dropN 22 (by kernel_rfl) rfl
       ·exact (by repeat' constructor)
       ·exact (by subst hi; rw [keptP_eq]; congr 1 <;> first | rfl | (rw [if_pos (by omega)]) | (rw [if_neg (by omega)]; rfl))
      ·try simp only [bs] at h18
       refine Tr.skip (Tr.inN (Tr.thenN ?_))
       apply Tr.joined k1
       ·exact rfl
       ·exact Front.nil
       ·exact SubX.dropN 19 (by kernel_rfl) rfl
       ·exact (by repeat' constructor)
       ·exact (by subst hi; rw [keptP_eq, if_neg (by omega), if_neg (by omega), if_neg (by omega)]; rfl)
  ·skip
   replace hi : k2 = keptP i s := hi
   change Tr _ _ [cellE b3 (encIns.enc k2) 41, cellE b2 (encIns.enc zeroIns) 41, cellE b1 (encIns.enc i) 41] ([] ++ _) _
   refine Tr.seq (Tr.region ?_)
   refine Tr.q (QS.lW rfl Try.isAgg41 Try.sizeOf41) rfl ?_
   refine Tr.storeW rfl rfl Try.sizeOf41 (by repeat constructor) (by rfl) (by rfl) (by first | exact List.all_eq_true.1 rfl | exact Enc.one _ _ | exact Enc.one encIns _) rfl ?_
   refine Tr.nil (Tr.thenN (Tr.ret ?_))
   refine Tr.retC1 Try.results87 rfl (by repeat constructor) Try.isAgg41 Try.sizeOf41 (by rfl) (fun w' hw => ?_)
   exact ⟨by subst hi; rfl, hw.below (Bg.le.refl _)⟩
set_option maxRecDepth 100000 in
set_option maxHeartbeats 2000000 in
theorem check_any (i : Ins) (w : World) (hI : InsOK i) :
  Calls Try.prog 57 #[.agg (encIns.enc i).toArray] w (fun e w' => e = .returned ((.tuple #[.int .u8 (checkP i).1.toNat, .int .i64 (checkP i).2.1, .int .i64 (checkP i).2.2])) ∧ Ext w w') := by
 refine enter Try.func57 rfl Try.ntmps57 rfl ?_
 refine Tr.seq (Tr.region ?_)
 refine Tr.box rfl rfl rfl (fun b1 => ?_)
 refine Tr.q (QS.assign rfl) rfl ?_
 refine Tr.q (QS.assign rfl) rfl ?_
 refine Tr.q (QS.assign rfl) rfl ?_
 refine Tr.nil (Tr.thenN (Tr.seq (Tr.region ?_)))
 refine Tr.q (QS.lW rfl Try.isAgg41 Try.sizeOf41) rfl ?_
 refine Tr.q (QS.call rfl Try.call61 (fun w hw => opcode_any i w hI)) rfl ?_
 refine Tr.q (QS.move rfl) rfl ?_
 refine Tr.q (QS.extract rfl rfl) rfl ?_
 refine Tr.q (QS.extract rfl rfl) rfl ?_
 refine Tr.q (QS.extract rfl rfl) rfl ?_
 refine Tr.q (QS.assign rfl) rfl ?_
 refine Tr.q (QS.assign rfl) rfl ?_
 refine Tr.q (QS.assign rfl) rfl ?_
 refine Tr.nil (Tr.thenN (Tr.seq (Tr.seq ?_)))
 refine Tr.regionQ HLF.mixed (by kernel_rfl) ?_
 refine TrQ.q (QS.move rfl) rfl ?_
 refine TrQ.q (QS.not rfl) rfl ?_
 refine TrQ.q (QS.move rfl) rfl ?_
 apply TrQ.orP
 ·exact (rfl : _ = (5, 16, 21))
 ·exact rfl
 ·intro hF2; have hF2' := hF2
  try simp only [bs] at hF2'
  refine TrQ.gq rfl rfl hF2 (QS.fieldAddr (off := 6) (ft := 3) rfl Try.underlying41 rfl rfl Try.sizeOf3 (by decide)) rfl ?_
  refine TrQ.gq rfl rfl hF2 (QS.lV rfl Try.isAgg3) rfl ?_
  refine TrQ.gq rfl rfl hF2 (QS.call rfl Try.call65 (fun w hw => register_any i.a w)) rfl ?_
  refine TrQ.gq rfl rfl hF2 (QS.not rfl) rfl ?_
  refine TrQ.q (QS.pickF rfl hF2 rfl) rfl ?_
  exact TrQ.end (Sub.cons rfl (Sub.dropN 5 (by kernel_rfl) rfl))
 ·intro hT2
  refine TrQ.gskip rfl rfl hT2 rfl ?_
  refine TrQ.gskip rfl rfl hT2 rfl ?_
  refine TrQ.gskip rfl rfl hT2 rfl ?_
  refine TrQ.gskip rfl rfl hT2 rfl ?_
  refine TrQ.q (QS.pickT rfl hT2 rfl) rfl ?_
  exact TrQ.end (Sub.cons rfl (Sub.dropN 5 (by kernel_rfl) rfl))
 refine TrQ.q (QS.move rfl) rfl ?_
 apply TrQ.orP
 ·exact (rfl : _ = (5, 22, 27))
 ·exact rfl
 ·intro hF3; have hF3' := hF3
  try simp only [bs] at hF3'
  refine TrQ.gq rfl rfl hF3 (QS.fieldAddr (off := 7) (ft := 3) rfl Try.underlying41 rfl rfl Try.sizeOf3 (by decide)) rfl ?_
  refine TrQ.gq rfl rfl hF3 (QS.lV rfl Try.isAgg3) rfl ?_
  refine TrQ.gq rfl rfl hF3 (QS.call rfl Try.call65 (fun w hw => register_any i.b w)) rfl ?_
  refine TrQ.gq rfl rfl hF3 (QS.not rfl) rfl ?_
  refine TrQ.q (QS.pickF rfl hF3 rfl) rfl ?_
  exact TrQ.end (Sub.cons rfl (Sub.dropN 5 (by kernel_rfl) rfl))
 ·intro hT3
  refine TrQ.gskip rfl rfl hT3 rfl ?_
  refine TrQ.gskip rfl rfl hT3 rfl ?_
  refine TrQ.gskip rfl rfl hT3 rfl ?_
  refine TrQ.gskip rfl rfl hT3 rfl ?_
  refine TrQ.q (QS.pickT rfl hT3 rfl) rfl ?_
  exact TrQ.end (Sub.cons rfl (Sub.dropN 5 (by kernel_rfl) rfl))
 refine TrQ.q (QS.move rfl) rfl ?_
 apply TrQ.orP
 ·exact (rfl : _ = (6, 28, 34))
 ·exact rfl
 ·intro hF4; have hF4' := hF4
  try simp only [bs] at hF4'
  refine TrQ.gq rfl rfl hF4 (QS.lW rfl Try.isAgg41 Try.sizeOf41) rfl ?_
  refine TrQ.gq rfl rfl hF4 (QS.move rfl) rfl ?_
  refine TrQ.gq rfl rfl hF4 (QS.call rfl Try.call87 (fun w hw => kept_any i (opcodeP i).2.1 w)) rfl ?_
  refine TrQ.gq rfl rfl hF4 (QS.lW rfl Try.isAgg41 Try.sizeOf41) rfl ?_
  refine TrQ.gq rfl rfl hF4 (QS.neqE rfl rfl insEqEnc Try.underlying41 (HLF.words41 _ Try.underlying41) rfl HLF.held41 HLF.eqg41) rfl ?_
  refine TrQ.q (QS.pickF rfl hF4 rfl) rfl ?_
  exact TrQ.end (Sub.cons rfl (Sub.dropN 6 (by kernel_rfl) rfl))
 ·intro hT4
  refine TrQ.gskip rfl rfl hT4 rfl ?_
  refine TrQ.gskip rfl rfl hT4 rfl ?_
  refine TrQ.gskip rfl rfl hT4 rfl ?_
  refine TrQ.gskip rfl rfl hT4 rfl ?_
  refine TrQ.gskip rfl rfl hT4 rfl ?_
  refine TrQ.q (QS.pickT rfl hT4 rfl) rfl ?_
  exact TrQ.end (Sub.cons rfl (Sub.dropN 6 (by kernel_rfl) rfl))
 refine TrQ.nil ?_
 refine Tr.thenN ?_
 refine Tr.cond rfl (fun h5 => ?_) (fun h5 => ?_)
 ·try simp only [bs] at h5
  refine Tr.seq (Tr.region ?_)
  refine Tr.q (QS.assign rfl) rfl ?_
  refine Tr.q (QS.assign rfl) rfl ?_
  refine Tr.q (QS.assign rfl) rfl ?_
  refine Tr.nil (Tr.thenN (Tr.ret (Tr.thenR ?_)))
  refine Tr.ret3 Try.results57 rfl rfl rfl (fun w' hw => ?_)
  exact ⟨by rw [checkP_2 (by simp_all [or_assoc])]; rfl, hw.below (Bg.le.refl _)⟩
 ·try simp only [bs] at h5
  refine Tr.skip (Tr.thenN (Tr.seq (Tr.seq (Tr.region ?_))))
  refine Tr.q (QS.move rfl) rfl ?_
  refine Tr.q (QS.eql rfl rfl) rfl ?_
  refine Tr.q (QS.move rfl) rfl ?_
  apply Tr.orP
  ·exact (rfl : _ = (3, 37, 40))
  ·exact rfl
  ·intro hF6; have hF6' := hF6
   try simp only [bs] at hF6'
   refine Tr.gq rfl rfl hF6 (QS.move rfl) rfl ?_
   refine Tr.gq rfl rfl hF6 (QS.eql rfl rfl) rfl ?_
   refine Tr.q (QS.pickF rfl hF6 rfl) rfl ?_
   refine Tr.nil (Tr.thenN ?_)
   exact Tr.endX (Sub.cons rfl (Sub.dropN 3 (by kernel_rfl) rfl))
  ·intro hT6
   refine Tr.gskip rfl rfl hT6 rfl ?_
   refine Tr.gskip rfl rfl hT6 rfl ?_
   refine Tr.q (QS.pickT rfl hT6 rfl) rfl ?_
   refine Tr.nil (Tr.thenN ?_)
   exact Tr.endX (Sub.cons rfl (Sub.dropN 3 (by kernel_rfl) rfl))
  refine Tr.q (QS.move rfl) rfl ?_
  apply Tr.andP
  ·exact (rfl : _ = (5, 41, 46))
  ·exact rfl
  ·intro hT7; have hT7' := hT7
   try simp only [bs] at hT7'
   refine Tr.gq rfl rfl hT7 (QS.fieldAddr (off := 1) (ft := 39) rfl Try.underlying41 rfl rfl Try.sizeOf39 (by decide)) rfl ?_
   refine Tr.gq rfl rfl hT7 (QS.lV rfl Try.isAgg39) rfl ?_
   refine Tr.gq rfl rfl hT7 (QS.call rfl Try.call88 (fun w hw => narrow_any i.imm w)) rfl ?_
   refine Tr.gq rfl rfl hT7 (QS.not rfl) rfl ?_
   refine Tr.q (QS.pickT rfl hT7 rfl) rfl ?_
   refine Tr.nil (Tr.thenN ?_)
   exact Tr.endX (Sub.cons rfl (Sub.dropN 5 (by kernel_rfl) rfl))
  ·intro hF7
   refine Tr.gskip rfl rfl hF7 rfl ?_
   refine Tr.gskip rfl rfl hF7 rfl ?_
   refine Tr.gskip rfl rfl hF7 rfl ?_
   refine Tr.gskip rfl rfl hF7 rfl ?_
   refine Tr.q (QS.pickF rfl hF7 rfl) rfl ?_
   refine Tr.nil (Tr.thenN ?_)
   exact Tr.endX (Sub.cons rfl (Sub.dropN 5 (by kernel_rfl) rfl))
  refine Tr.q (QS.move rfl) rfl ?_
  apply Tr.orP
  ·exact (rfl : _ = (13, 47, 60))
  ·exact rfl
  ·intro hF8; have hF8' := hF8
   try simp only [bs] at hF8'
   refine Tr.gq rfl rfl hF8 (QS.move rfl) rfl ?_
   refine Tr.gq rfl rfl hF8 (QS.eql rfl rfl) rfl ?_
   refine Tr.gq rfl rfl hF8 (QS.move rfl) rfl ?_
   apply Tr.andP
   ·exact (rfl : _ = (9, 50, 59))
   ·exact rfl
   ·intro hT9; have hT9' := hT9
    try simp only [bs] at hT9'
    refine Tr.gq rfl rfl hT9 (QS.fieldAddr (off := 1) (ft := 39) rfl Try.underlying41 rfl rfl Try.sizeOf39 (by decide)) rfl ?_
    refine Tr.gq rfl rfl hT9 (QS.lV rfl Try.isAgg39) rfl ?_
    refine Tr.gq rfl rfl hT9 (QS.fieldAddr (off := 0) (ft := 39) rfl Try.underlying41 rfl rfl Try.sizeOf39 (by decide)) rfl ?_
    refine Tr.gq rfl rfl hT9 (QS.lV rfl Try.isAgg39) rfl ?_
    refine Tr.gq rfl rfl hT9 (QS.sub32 rfl rfl) rfl ?_
    refine Tr.gq rfl rfl hT9 (QS.sub32 (n := 2) rfl rfl) rfl ?_
    refine Tr.gq rfl rfl hT9 (QS.call rfl Try.call88 (fun w hw => narrow_any (i.imm - i.addr - 2) w)) rfl ?_
    refine Tr.gq rfl rfl hT9 (QS.not rfl) rfl ?_
    refine Tr.gq rfl rfl hF8 (QS.pickT rfl hT9 rfl) rfl ?_
    refine Tr.nil (Tr.thenN ?_)
    exact Tr.endX (Sub.cons rfl (Sub.dropN 9 (by kernel_rfl) rfl))
   ·intro hF9
    refine Tr.gskip rfl rfl hF9 rfl ?_
    refine Tr.gskip rfl rfl hF9 rfl ?_
    refine Tr.gskip rfl rfl hF9 rfl ?_
    refine Tr.gskip rfl rfl hF9 rfl ?_
    refine Tr.gskip rfl rfl hF9 rfl ?_
    refine Tr.gskip rfl rfl hF9 rfl ?_
    refine Tr.gskip rfl rfl hF9 rfl ?_
    refine Tr.gskip rfl rfl hF9 rfl ?_
    refine Tr.gq rfl rfl hF8 (QS.pickF rfl hF9 rfl) rfl ?_
    refine Tr.nil (Tr.thenN ?_)
    exact Tr.endX (Sub.cons rfl (Sub.dropN 9 (by kernel_rfl) rfl))
   refine Tr.q (QS.pickF rfl hF8 rfl) rfl ?_
   refine Tr.nil (Tr.thenN ?_)
   exact Tr.endX (Sub.cons rfl (Sub.dropN 5 (by kernel_rfl) rfl))
  ·intro hT8
   refine Tr.gskip rfl rfl hT8 rfl ?_
   refine Tr.gskip rfl rfl hT8 rfl ?_
   refine Tr.gskip rfl rfl hT8 rfl ?_
   refine Tr.gskipU rfl rfl rfl ?_
   refine Tr.gskipU rfl rfl rfl ?_
   refine Tr.gskipU rfl rfl rfl ?_
   refine Tr.gskipU rfl rfl rfl ?_
   refine Tr.gskipU rfl rfl rfl ?_
   refine Tr.gskipU rfl rfl rfl ?_
   refine Tr.gskipU rfl rfl rfl ?_
   refine Tr.gskipU rfl rfl rfl ?_
   refine Tr.gskip rfl rfl hT8 rfl ?_
   refine Tr.q (QS.pickT rfl hT8 rfl) rfl ?_
   refine Tr.nil (Tr.thenN ?_)
   exact Tr.endX (Sub.cons rfl (Sub.dropN 13 (by kernel_rfl) rfl))
  refine Tr.nil (Tr.thenN ?_)
  refine Tr.cond rfl (fun h10 => ?_) (fun h10 => ?_)
  ·try simp only [bs] at h10
   refine Tr.seq (Tr.region ?_)
   refine Tr.q (QS.assign rfl) rfl ?_
   refine Tr.q (QS.assign rfl) rfl ?_
   refine Tr.q (QS.assign rfl) rfl ?_
   refine Tr.nil (Tr.thenN (Tr.ret (Tr.thenR ?_)))
   refine Tr.ret3 Try.results57 rfl rfl rfl (fun w' hw => ?_)
   exact ⟨by rw [checkP_7 (by simp_all) (by simp_all)]; rfl, hw.below (Bg.le.refl _)⟩
  ·try simp only [bs] at h10
   refine Tr.skip (Tr.thenN (Tr.seq (Tr.region ?_)))
   refine Tr.q (QS.move rfl) rfl ?_
   refine Tr.q (QS.move rfl) rfl ?_
   refine Tr.q (QS.assign rfl) rfl ?_
   refine Tr.q (QS.assign rfl) rfl ?_
   refine Tr.q (QS.assign rfl) rfl ?_
   refine Tr.nil (Tr.thenN (Tr.ret ?_))
   refine Tr.ret3 Try.results57 rfl rfl rfl (fun w' hw => ?_)
   exact ⟨by rw [checkP_ok (errP_0 (by simp_all) (by intro hc; rcases hc with ⟨h1 | h1, h2⟩ | ⟨h1, h2⟩ <;> simp_all))]; rfl, hw.below (Bg.le.refl _)⟩
set_option maxRecDepth 100000 in
set_option maxHeartbeats 2000000 in
theorem size_any (s : Int) (w : World) (hs : 0 ≤ s ∧ s ≤ 8) :
  Calls Try.prog 62 #[.int .i64 s] w (fun e w' => e = .returned (.int .i64 (sizeP s)) ∧ Ext w w') := by
 refine enter Try.func62 rfl Try.ntmps62 rfl ?_
 refine Tr.seq (Tr.region ?_)
 refine Tr.q (QS.assign rfl) rfl ?_
 refine Tr.nil (Tr.thenN (Tr.seq (Tr.region ?_)))
 refine Tr.q (QS.move rfl) rfl ?_
 refine Tr.q (QS.strIdx rfl rfl Try.underlying9 (by refine ⟨by omega, ?_⟩; show s < 9; omega)) rfl ?_
 refine Tr.q (QS.sub8 (n := 48) rfl rfl) rfl ?_
 refine Tr.q (QS.cvt8toI rfl Try.underlying5 Try.underlying3) rfl ?_
 refine Tr.q (QS.assign rfl) rfl ?_
 refine Tr.nil (Tr.thenN (Tr.ret ?_))
 refine Tr.ret1 Try.results62 rfl (fun w' hw => ?_)
 exact ⟨by obtain rfl | rfl | rfl | rfl | rfl | rfl | rfl | rfl | rfl : s = 0 ∨ s = 1 ∨ s = 2 ∨ s = 3 ∨ s = 4 ∨ s = 5 ∨ s = 6 ∨ s = 7 ∨ s = 8 := (by omega) <;> rfl, hw.below (Bg.le.refl _)⟩
set_option maxRecDepth 100000 in
set_option maxHeartbeats 2000000 in
theorem valid_isa (i : Ins) (w : World) (hI : InsOK i) :
  Calls Try.prog 32 #[.agg (encIns.enc i).toArray] w (fun e w' => e = .returned (.bool (decide (errP i = 0))) ∧ Ext w w') := by
 refine enter Try.func32 rfl Try.ntmps32 rfl ?_
 refine Tr.seq (Tr.region ?_)
 refine Tr.box rfl rfl rfl (fun b1 => ?_)
 refine Tr.q (QS.assign rfl) rfl ?_
 refine Tr.nil (Tr.thenN (Tr.seq (Tr.region ?_)))
 refine Tr.q (QS.lW rfl Try.isAgg41 Try.sizeOf41) rfl ?_
 refine Tr.q (QS.call rfl Try.call57 (fun w hw => check_any i w hI)) rfl ?_
 refine Tr.q (QS.move rfl) rfl ?_
 refine Tr.q (QS.extract rfl rfl) rfl ?_
 refine Tr.q (QS.extract rfl rfl) rfl ?_
 refine Tr.q (QS.extract rfl rfl) rfl ?_
 refine Tr.q (QS.assign rfl) rfl ?_
 refine Tr.q (QS.assign rfl) rfl ?_
 refine Tr.q (QS.assign rfl) rfl ?_
 refine Tr.nil (Tr.thenN (Tr.seq (Tr.region ?_)))
 refine Tr.q (QS.move rfl) rfl ?_
 refine Tr.q (QS.eql rfl rfl) rfl ?_
 refine Tr.q (QS.assign rfl) rfl ?_
 refine Tr.nil (Tr.thenN (Tr.ret ?_))
 refine Tr.ret1 Try.results32 rfl (fun w' hw => ?_)
 exact ⟨by rw [checkP_err], hw.below (Bg.le.refl _)⟩
set_option maxRecDepth 100000 in
set_option maxHeartbeats 2000000 in
theorem length_isa (i : Ins) (w : World) (hI : InsOK i) :
  Calls Try.prog 58 #[.agg (encIns.enc i).toArray] w (fun e w' => e = .returned (.int .i64 (lengthPI i)) ∧ Ext w w') := by
 refine enter Try.func58 rfl Try.ntmps58 rfl ?_
 refine Tr.seq (Tr.region ?_)
 refine Tr.box rfl rfl rfl (fun b1 => ?_)
 refine Tr.q (QS.assign rfl) rfl ?_
 refine Tr.nil (Tr.thenN (Tr.seq (Tr.region ?_)))
 refine Tr.q (QS.lW rfl Try.isAgg41 Try.sizeOf41) rfl ?_
 refine Tr.q (QS.call rfl Try.call57 (fun w hw => check_any i w hI)) rfl ?_
 refine Tr.q (QS.move rfl) rfl ?_
 refine Tr.q (QS.extract rfl rfl) rfl ?_
 refine Tr.q (QS.extract rfl rfl) rfl ?_
 refine Tr.q (QS.extract rfl rfl) rfl ?_
 refine Tr.q (QS.assign rfl) rfl ?_
 refine Tr.q (QS.assign rfl) rfl ?_
 refine Tr.q (QS.assign rfl) rfl ?_
 refine Tr.nil (Tr.thenN (Tr.seq (Tr.seq (Tr.region ?_))))
 refine Tr.q (QS.move rfl) rfl ?_
 refine Tr.q (QS.neq rfl rfl) rfl ?_
 refine Tr.nil (Tr.thenN ?_)
 refine Tr.cond rfl (fun h2 => ?_) (fun h2 => ?_)
 ·try simp only [bs] at h2
  refine Tr.seq (Tr.region ?_)
  refine Tr.q (QS.assign rfl) rfl ?_
  refine Tr.nil (Tr.thenN (Tr.ret (Tr.thenR ?_)))
  refine Tr.ret1 Try.results58 rfl (fun w' hw => ?_)
  exact ⟨by unfold lengthPI; rw [if_neg (by rw [← checkP_err]; assumption)], hw.below (Bg.le.refl _)⟩
 ·try simp only [bs] at h2
  refine Tr.skip (Tr.thenN (Tr.seq (Tr.region ?_)))
  refine Tr.q (QS.move rfl) rfl ?_
  refine Tr.q (QS.call rfl Try.call62 (fun w hw => size_any (checkP i).2.1 w (checkP_shape i))) rfl ?_
  refine Tr.q (QS.assign rfl) rfl ?_
  refine Tr.nil (Tr.thenN (Tr.ret ?_))
  refine Tr.ret1 Try.results58 rfl (fun w' hw => ?_)
  exact ⟨by have he : errP i = 0 := (by rw [← checkP_err]; assumption); unfold lengthPI; rw [if_pos he, checkP_ok he], hw.below (Bg.le.refl _)⟩
set_option maxRecDepth 100000 in
set_option maxHeartbeats 2000000 in
theorem next_isa (i : Ins) (w : World) (hI : InsOK i) :
  Calls Try.prog 35 #[.agg (encIns.enc i).toArray] w (fun e w' => e = .returned (.int .u32 (nextP i).toNat) ∧ Ext w w') := by
 refine enter Try.func35 rfl Try.ntmps35 rfl ?_
 refine Tr.seq (Tr.region ?_)
 refine Tr.box rfl rfl rfl (fun b1 => ?_)
 refine Tr.q (QS.assign rfl) rfl ?_
 refine Tr.nil (Tr.thenN (Tr.seq ?_))
 refine Tr.regionQ HLF.mixed (by kernel_rfl) ?_
 refine TrQ.q (QS.fieldAddr (off := 0) (ft := 39) rfl Try.underlying41 rfl rfl Try.sizeOf39 (by decide)) rfl ?_
 refine TrQ.q (QS.lV rfl Try.isAgg39) rfl ?_
 refine TrQ.q (QS.lW rfl Try.isAgg41 Try.sizeOf41) rfl ?_
 refine TrQ.q (QS.call rfl Try.call58 (fun w hw => length_isa i w hI)) rfl ?_
 refine TrQ.q (QS.cvtTo32 rfl Try.underlying3 Try.underlying39) rfl ?_
 refine TrQ.q (QS.add32 rfl rfl) rfl ?_
 refine TrQ.q (QS.assign rfl) rfl ?_
 refine TrQ.nil ?_
 refine Tr.thenN (Tr.ret ?_)
 refine Tr.ret1 Try.results35 rfl (fun w' hw => ?_)
 exact ⟨rfl, hw.below (Bg.le.refl _)⟩
set_option maxRecDepth 100000 in
set_option maxHeartbeats 2000000 in
theorem ends_isa (i : Ins) (w : World) :
  Calls Try.prog 34 #[.agg (encIns.enc i).toArray] w (fun e w' => e = .returned (.bool (endsP i)) ∧ Ext w w') := by
 refine enter Try.func34 rfl Try.ntmps34 rfl ?_
 refine Tr.seq (Tr.region ?_)
 refine Tr.box rfl rfl rfl (fun b1 => ?_)
 refine Tr.q (QS.assign rfl) rfl ?_
 refine Tr.nil (Tr.thenN (Tr.seq (Tr.seq (Tr.region ?_))))
 refine Tr.q (QS.fieldAddr (off := 2) (ft := 3) rfl Try.underlying41 rfl rfl Try.sizeOf3 (by decide)) rfl ?_
 refine Tr.q (QS.lV rfl Try.isAgg3) rfl ?_
 refine Tr.nil (Tr.thenN (Tr.block (Tr.seq (Tr.seq (Tr.region ?_)))))
 refine Tr.q (QS.eql rfl rfl) rfl ?_
 refine Tr.q (QS.assign rfl) rfl ?_
 refine Tr.nil (Tr.thenN ?_)
 apply Tr.condOr
 ·exact rfl
 ·intro hO2
  try simp only [bs] at hO2
  refine Tr.seq (Tr.region ?_)
  refine Tr.q (QS.eql rfl rfl) rfl ?_
  refine Tr.q (QS.assign rfl) rfl ?_
  refine Tr.nil (Tr.thenN ?_)
  apply Tr.condOr
  ·exact rfl
  ·intro hO3
   try simp only [bs] at hO3
   refine Tr.seq (Tr.region ?_)
   refine Tr.q (QS.eql rfl rfl) rfl ?_
   refine Tr.q (QS.assign rfl) rfl ?_
   refine Tr.nil (Tr.thenN ?_)
   apply Tr.condOr
   ·exact rfl
   ·intro hO4
    try simp only [bs] at hO4
    refine Tr.region ?_
    refine Tr.q (QS.eql rfl rfl) rfl ?_
    refine Tr.q (QS.assign rfl) rfl ?_
    refine Tr.nil (Tr.thenN ?_)
    exact Tr.endOr rfl (SubX.dropN 2 (by kernel_rfl) rfl)
   refine Tr.thenN ?_
   exact Tr.endOr rfl (SubX.dropN 3 (by kernel_rfl) rfl)
  refine Tr.thenN ?_
  exact Tr.endOr rfl (SubX.dropN 3 (by kernel_rfl) rfl)
 refine Tr.thenN ?_
 refine Tr.cond rfl (fun h5 => ?_) (fun h5 => ?_)
 ·try simp only [bs] at h5
  refine Tr.seq (Tr.region ?_)
  refine Tr.q (QS.assign rfl) rfl ?_
  refine Tr.nil (Tr.thenN (Tr.ret ?_))
  refine Tr.inR ?_
  refine Tr.thenR ?_
  refine Tr.ret1 Try.results34 rfl (fun w' hw => ?_)
  exact ⟨by unfold endsP; rw [decide_eq_true (by omega)]; rfl, hw.below (Bg.le.refl _)⟩
 ·try simp only [bs] at h5
  refine Tr.skip (Tr.inN (Tr.thenN (Tr.seq (Tr.region ?_))))
  refine Tr.q (QS.fieldAddr (off := 2) (ft := 3) rfl Try.underlying41 rfl rfl Try.sizeOf3 (by decide)) rfl ?_
  refine Tr.q (QS.lV rfl Try.isAgg3) rfl ?_
  refine Tr.q (QS.eql rfl rfl) rfl ?_
  refine Tr.q (QS.move rfl) rfl ?_
  apply Tr.andP
  ·exact (rfl : _ = (4, 13, 17))
  ·exact rfl
  ·intro hT6; have hT6' := hT6
   try simp only [bs] at hT6'
   refine Tr.gq rfl rfl hT6 (QS.fieldAddr (off := 5) (ft := 3) rfl Try.underlying41 rfl rfl Try.sizeOf3 (by decide)) rfl ?_
   refine Tr.gq rfl rfl hT6 (QS.lV rfl Try.isAgg3) rfl ?_
   refine Tr.gq rfl rfl hT6 (QS.eql rfl rfl) rfl ?_
   refine Tr.q (QS.pickT rfl hT6 rfl) rfl ?_
   refine Tr.nil (Tr.thenN ?_)
   exact Tr.endX (Sub.cons rfl (Sub.dropN 4 (by kernel_rfl) rfl))
  ·intro hF6
   refine Tr.gskip rfl rfl hF6 rfl ?_
   refine Tr.gskip rfl rfl hF6 rfl ?_
   refine Tr.gskip rfl rfl hF6 rfl ?_
   refine Tr.q (QS.pickF rfl hF6 rfl) rfl ?_
   refine Tr.nil (Tr.thenN ?_)
   exact Tr.endX (Sub.cons rfl (Sub.dropN 4 (by kernel_rfl) rfl))
  refine Tr.q (QS.assign rfl) rfl ?_
  refine Tr.nil (Tr.thenN (Tr.ret ?_))
  refine Tr.ret1 Try.results34 rfl (fun w' hw => ?_)
  exact ⟨by unfold endsP; rw [decide_eq_false (p := i.op = 1 ∨ i.op = 2 ∨ i.op = 21 ∨ i.op = 22) (by omega)]; rfl, hw.below (Bg.le.refl _)⟩
set_option maxRecDepth 100000 in
set_option maxHeartbeats 2000000 in
theorem target_isa (i : Ins) (w : World) :
  Calls Try.prog 33 #[.agg (encIns.enc i).toArray] w (fun e w' => e = .returned (.tuple #[.int .u32 (targetP i).1.toNat, .bool (targetP i).2]) ∧ Ext w w') := by
 refine enter Try.func33 rfl Try.ntmps33 rfl ?_
 refine Tr.seq (Tr.region ?_)
 refine Tr.box rfl rfl rfl (fun b1 => ?_)
 refine Tr.q (QS.assign rfl) rfl ?_
 refine Tr.q (QS.assign rfl) rfl ?_
 refine Tr.nil (Tr.thenN (Tr.seq (Tr.seq (Tr.region ?_))))
 refine Tr.q (QS.fieldAddr (off := 2) (ft := 3) rfl Try.underlying41 rfl rfl Try.sizeOf3 (by decide)) rfl ?_
 refine Tr.q (QS.lV rfl Try.isAgg3) rfl ?_
 refine Tr.q (QS.eql rfl rfl) rfl ?_
 refine Tr.q (QS.move rfl) rfl ?_
 apply Tr.orP
 ·exact (rfl : _ = (4, 7, 11))
 ·exact rfl
 ·intro hF2; have hF2' := hF2
  try simp only [bs] at hF2'
  refine Tr.gq rfl rfl hF2 (QS.fieldAddr (off := 2) (ft := 3) rfl Try.underlying41 rfl rfl Try.sizeOf3 (by decide)) rfl ?_
  refine Tr.gq rfl rfl hF2 (QS.lV rfl Try.isAgg3) rfl ?_
  refine Tr.gq rfl rfl hF2 (QS.eql rfl rfl) rfl ?_
  refine Tr.q (QS.pickF rfl hF2 rfl) rfl ?_
  refine Tr.nil (Tr.thenN ?_)
  exact Tr.endX (Sub.cons rfl (Sub.dropN 4 (by kernel_rfl) rfl))
 ·intro hT2
  refine Tr.gskip rfl rfl hT2 rfl ?_
  refine Tr.gskip rfl rfl hT2 rfl ?_
  refine Tr.gskip rfl rfl hT2 rfl ?_
  refine Tr.q (QS.pickT rfl hT2 rfl) rfl ?_
  refine Tr.nil (Tr.thenN ?_)
  exact Tr.endX (Sub.cons rfl (Sub.dropN 4 (by kernel_rfl) rfl))
 refine Tr.nil (Tr.thenN ?_)
 refine Tr.cond rfl (fun h3 => ?_) (fun h3 => ?_)
 ·try simp only [bs] at h3
  refine Tr.seq (Tr.region ?_)
  refine Tr.q (QS.fieldAddr (off := 1) (ft := 39) rfl Try.underlying41 rfl rfl Try.sizeOf39 (by decide)) rfl ?_
  refine Tr.q (QS.lV rfl Try.isAgg39) rfl ?_
  refine Tr.q (QS.assign rfl) rfl ?_
  refine Tr.q (QS.assign rfl) rfl ?_
  refine Tr.nil (Tr.thenN (Tr.ret (Tr.thenR ?_)))
  refine Tr.ret2 Try.results33 rfl rfl (fun w' hw => ?_)
  exact ⟨by unfold targetP; (repeat (first | rw [if_pos (by omega)] | rw [if_neg (by omega)])) <;> rfl, hw.below (Bg.le.refl _)⟩
 ·try simp only [bs] at h3
  refine Tr.skip (Tr.thenN (Tr.seq (Tr.region ?_)))
  refine Tr.q (QS.assign rfl) rfl ?_
  refine Tr.q (QS.assign rfl) rfl ?_
  refine Tr.nil (Tr.thenN (Tr.ret ?_))
  refine Tr.ret2 Try.results33 rfl rfl (fun w' hw => ?_)
  exact ⟨by unfold targetP; (repeat (first | rw [if_pos (by omega)] | rw [if_neg (by omega)])) <;> rfl, hw.below (Bg.le.refl _)⟩
set_option maxRecDepth 100000 in
set_option maxHeartbeats 2000000 in
theorem extend_any (a : UInt32) (k : Int) (w : World) :
  Calls Try.prog 63 #[.int .u32 a.toNat, .int .i64 k] w (fun e w' => e = .returned (.int .u32 (extP a k).toNat) ∧ Ext w w') := by
 refine enter Try.func63 rfl Try.ntmps63 rfl ?_
 refine Tr.seq (Tr.region ?_)
 refine Tr.q (QS.assign rfl) rfl ?_
 refine Tr.nil (Tr.thenN (Tr.seq (Tr.seq (Tr.region ?_))))
 refine Tr.q (QS.move rfl) rfl ?_
 refine Tr.nil (Tr.thenN (Tr.block (Tr.seq (Tr.region ?_))))
 refine Tr.q (QS.eql rfl rfl) rfl ?_
 refine Tr.q (QS.assign rfl) rfl ?_
 refine Tr.nil (Tr.thenN ?_)
 refine Tr.cond rfl (fun h1 => ?_) (fun h1 => ?_)
 ·try simp only [bs] at h1
  refine Tr.seq (Tr.region ?_)
  refine Tr.q (QS.move rfl) rfl ?_
  refine Tr.q (QS.cvt rfl Try.underlying39 Try.underlying121) rfl ?_
  refine Tr.q (QS.cvtTo32 rfl Try.underlying121 Try.underlying39) rfl ?_
  refine Tr.q (QS.assign rfl) rfl ?_
  refine Tr.nil (Tr.thenN (Tr.ret ?_))
  refine Tr.inR ?_
  refine Tr.thenR ?_
  refine Tr.ret1 Try.results63 rfl (fun w' hw => ?_)
  exact ⟨by unfold extP; (repeat (first | rw [if_pos (by omega)] | rw [if_neg (by omega)])) <;> rfl, hw.below (Bg.le.refl _)⟩
 ·try simp only [bs] at h1
  refine Tr.seq (Tr.region ?_)
  refine Tr.q (QS.eql rfl rfl) rfl ?_
  refine Tr.q (QS.assign rfl) rfl ?_
  refine Tr.nil (Tr.thenN ?_)
  refine Tr.cond rfl (fun h2 => ?_) (fun h2 => ?_)
  ·try simp only [bs] at h2
   refine Tr.seq (Tr.region ?_)
   refine Tr.q (QS.move rfl) rfl ?_
   refine Tr.q (QS.cvt rfl Try.underlying39 Try.underlying122) rfl ?_
   refine Tr.q (QS.cvtTo32 rfl Try.underlying122 Try.underlying39) rfl ?_
   refine Tr.q (QS.assign rfl) rfl ?_
   refine Tr.nil (Tr.thenN (Tr.ret ?_))
   refine Tr.inR ?_
   refine Tr.thenR ?_
   refine Tr.ret1 Try.results63 rfl (fun w' hw => ?_)
   exact ⟨by unfold extP; (repeat (first | rw [if_pos (by omega)] | rw [if_neg (by omega)])) <;> rfl, hw.below (Bg.le.refl _)⟩
  ·try simp only [bs] at h2
   refine Tr.skip (Tr.inN (Tr.thenN (Tr.seq (Tr.region ?_))))
   refine Tr.q (QS.move rfl) rfl ?_
   refine Tr.q (QS.assign rfl) rfl ?_
   refine Tr.nil (Tr.thenN (Tr.ret ?_))
   refine Tr.ret1 Try.results63 rfl (fun w' hw => ?_)
   exact ⟨by unfold extP; (repeat (first | rw [if_pos (by omega)] | rw [if_neg (by omega)])) <;> rfl, hw.below (Bg.le.refl _)⟩
end Go.Proofs.Ytnmaokalpbnmaaa
namespace Go.Proofs.Ytnmaokalpbnmaaa
open Go Go.HL Go.RowKit
set_option maxRecDepth 100000 in
set_option maxHeartbeats 2000000 in
theorem row_isa (c : UInt8) (w : World) :
  Calls Try.prog 60 #[.int .u8 c.toNat] w (fun e w' => e = .returned (.tuple #[.agg (encIns.enc (rowP c).1).toArray, .bool (rowP c).2]) ∧ Ext w w') := by
 have hc1 := c.toNat_lt
 have hc2 : (c % 16).toNat = c.toNat % 16 := by rw [UInt8.toNat_mod]; rfl
 have hc3 : (c / 16).toNat = c.toNat / 16 := by rw [UInt8.toNat_div]; rfl
 refine enter Try.func60 rfl Try.ntmps60 rfl ?_
 refine Tr.seq (Tr.region ?_)
 refine Tr.alloc Try.zeroValue41 rfl rfl (fun b1 => ?_)
 refine Tr.q (QS.assign rfl) rfl ?_
 refine Tr.nil (Tr.thenN ?_)
 refine Tr.scope ?_
 refine Tr.seq (Tr.region ?_)
 refine Tr.q (QS.move rfl) rfl ?_
 refine Tr.q (QS.shr8c4 rfl rfl) rfl ?_
 refine Tr.q (QS.cvt8toI rfl Try.underlying5 Try.underlying3) rfl ?_
 refine Tr.q (QS.move rfl) rfl ?_
 refine Tr.q (QS.and8c15 rfl rfl) rfl ?_
 refine Tr.q (QS.cvt8toI rfl Try.underlying5 Try.underlying3) rfl ?_
 refine Tr.q (QS.assign rfl) rfl ?_
 refine Tr.q (QS.assign rfl) rfl ?_
 refine Tr.nil (Tr.thenN (Tr.seq (Tr.block (Tr.seq (Tr.region ?_)))))
 refine Tr.q (QS.move rfl) rfl ?_
 refine Tr.q (QS.leq8 (n := 2) rfl rfl) rfl ?_
 refine Tr.q (QS.assign rfl) rfl ?_
 refine Tr.nil (Tr.thenN ?_)
 refine Tr.cond rfl (fun h2 => ?_) (fun h2 => ?_)
 ·try simp only [bs] at h2
  refine Tr.seq (Tr.region ?_)
  refine Tr.q (QS.move rfl) rfl ?_
  refine Tr.q (QS.cvt8toI rfl Try.underlying5 Try.underlying3) rfl ?_
  refine Tr.q (QS.build (vs := [(2, _)]) rfl rfl (HLF.built41_2 _)) rfl ?_
  refine Tr.storeW rfl rfl Try.sizeOf41 (by repeat constructor) (by rfl) (by rfl) (by first | exact List.all_eq_true.1 rfl | exact Enc.one _ _ | exact Enc.one encIns _) rfl ?_
  refine Tr.q (QS.assign rfl) rfl ?_
  refine Tr.nil (Tr.thenN (Tr.ret ?_))
  refine Tr.inR ?_
  refine Tr.thenR ?_
  refine Tr.scopeR ?_
  refine Tr.retC2 Try.results60 rfl rfl (by repeat constructor) Try.isAgg41 Try.sizeOf41 (by rfl) (fun w' hw => ?_)
  exact ⟨by clear hw; unfold rowP; (repeat (first | rw [if_pos (by first | assumption | omega)] | rw [if_neg (by first | assumption | omega | (intro hq; simp_all))])) <;> rfl, hw.below (Bg.le.refl _)⟩
 ·try simp only [bs] at h2
  refine Tr.seq (Tr.region ?_)
  refine Tr.q (QS.move rfl) rfl ?_
  refine Tr.q (QS.geq8 (n := 8) rfl rfl) rfl ?_
  refine Tr.q (QS.move rfl) rfl ?_
  apply Tr.andP
  ·exact (rfl : _ = (3, 29, 32))
  ·exact rfl
  ·intro hT3; have hT3' := hT3
   try simp only [bs] at hT3'
   refine Tr.gq rfl rfl hT3 (QS.move rfl) rfl ?_
   refine Tr.gq rfl rfl hT3 (QS.lss8 (n := 16) rfl rfl) rfl ?_
   refine Tr.q (QS.pickT rfl hT3 rfl) rfl ?_
   refine Tr.nil (Tr.thenN ?_)
   exact Tr.endX (Sub.cons rfl (Sub.dropN 3 (by kernel_rfl) rfl))
  ·intro hF3
   refine Tr.gskip rfl rfl hF3 rfl ?_
   refine Tr.gskip rfl rfl hF3 rfl ?_
   refine Tr.q (QS.pickF rfl hF3 rfl) rfl ?_
   refine Tr.nil (Tr.thenN ?_)
   exact Tr.endX (Sub.cons rfl (Sub.dropN 3 (by kernel_rfl) rfl))
  refine Tr.q (QS.assign rfl) rfl ?_
  refine Tr.nil (Tr.thenN ?_)
  refine Tr.cond rfl (fun h4 => ?_) (fun h4 => ?_)
  ·try simp only [bs] at h4
   refine Tr.seq (Tr.region ?_)
   refine Tr.q (QS.move rfl) rfl ?_
   refine Tr.q (QS.subI rfl rfl (by omega)) rfl ?_
   refine Tr.q (QS.build (vs := [(2, _), (6, _)]) rfl rfl (HLF.built41_2_6 _ _)) rfl ?_
   refine Tr.storeW rfl rfl Try.sizeOf41 (by repeat constructor) (by rfl) (by rfl) (by first | exact List.all_eq_true.1 rfl | exact Enc.one _ _ | exact Enc.one encIns _) rfl ?_
   refine Tr.q (QS.assign rfl) rfl ?_
   refine Tr.nil (Tr.thenN (Tr.ret ?_))
   refine Tr.inR ?_
   refine Tr.thenR ?_
   refine Tr.scopeR ?_
   refine Tr.retC2 Try.results60 rfl rfl (by repeat constructor) Try.isAgg41 Try.sizeOf41 (by rfl) (fun w' hw => ?_)
   exact ⟨by clear hw; unfold rowP; (repeat (first | rw [if_pos (by first | assumption | omega)] | rw [if_neg (by first | assumption | omega | (intro hq; simp_all))])) <;> rfl, hw.below (Bg.le.refl _)⟩
  ·try simp only [bs] at h4
   refine Tr.seq (Tr.region ?_)
   refine Tr.q (QS.move rfl) rfl ?_
   refine Tr.q (QS.geq8 (n := 16) rfl rfl) rfl ?_
   refine Tr.q (QS.move rfl) rfl ?_
   apply Tr.andP
   ·exact (rfl : _ = (3, 39, 42))
   ·exact rfl
   ·intro hT5; have hT5' := hT5
    try simp only [bs] at hT5'
    refine Tr.gq rfl rfl hT5 (QS.move rfl) rfl ?_
    refine Tr.gq rfl rfl hT5 (QS.lss8 (n := 24) rfl rfl) rfl ?_
    refine Tr.q (QS.pickT rfl hT5 rfl) rfl ?_
    refine Tr.nil (Tr.thenN ?_)
    exact Tr.endX (Sub.cons rfl (Sub.dropN 3 (by kernel_rfl) rfl))
   ·intro hF5
    refine Tr.gskip rfl rfl hF5 rfl ?_
    refine Tr.gskip rfl rfl hF5 rfl ?_
    refine Tr.q (QS.pickF rfl hF5 rfl) rfl ?_
    refine Tr.nil (Tr.thenN ?_)
    exact Tr.endX (Sub.cons rfl (Sub.dropN 3 (by kernel_rfl) rfl))
   refine Tr.q (QS.assign rfl) rfl ?_
   refine Tr.nil (Tr.thenN ?_)
   refine Tr.cond rfl (fun h6 => ?_) (fun h6 => ?_)
   ·try simp only [bs] at h6
    refine Tr.seq (Tr.region ?_)
    refine Tr.q (QS.move rfl) rfl ?_
    refine Tr.q (QS.build (vs := [(2, _), (6, _)]) rfl rfl (HLF.built41_2_6 _ _)) rfl ?_
    refine Tr.storeW rfl rfl Try.sizeOf41 (by repeat constructor) (by rfl) (by rfl) (by first | exact List.all_eq_true.1 rfl | exact Enc.one _ _ | exact Enc.one encIns _) rfl ?_
    refine Tr.q (QS.assign rfl) rfl ?_
    refine Tr.nil (Tr.thenN (Tr.ret ?_))
    refine Tr.inR ?_
    refine Tr.thenR ?_
    refine Tr.scopeR ?_
    refine Tr.retC2 Try.results60 rfl rfl (by repeat constructor) Try.isAgg41 Try.sizeOf41 (by rfl) (fun w' hw => ?_)
    exact ⟨by clear hw; unfold rowP; (repeat (first | rw [if_pos (by first | assumption | omega)] | rw [if_neg (by first | assumption | omega | (intro hq; simp_all))])) <;> rfl, hw.below (Bg.le.refl _)⟩
   ·try simp only [bs] at h6
    refine Tr.seq (Tr.region ?_)
    refine Tr.q (QS.move rfl) rfl ?_
    refine Tr.q (QS.geq rfl rfl) rfl ?_
    refine Tr.q (QS.move rfl) rfl ?_
    apply Tr.andP
    ·exact (rfl : _ = (3, 48, 51))
    ·exact rfl
    ·intro hT7; have hT7' := hT7
     try simp only [bs] at hT7'
     refine Tr.gq rfl rfl hT7 (QS.move rfl) rfl ?_
     refine Tr.gq rfl rfl hT7 (QS.leq rfl rfl) rfl ?_
     refine Tr.q (QS.pickT rfl hT7 rfl) rfl ?_
     refine Tr.nil (Tr.thenN ?_)
     exact Tr.endX (Sub.cons rfl (Sub.dropN 3 (by kernel_rfl) rfl))
    ·intro hF7
     refine Tr.gskip rfl rfl hF7 rfl ?_
     refine Tr.gskip rfl rfl hF7 rfl ?_
     refine Tr.q (QS.pickF rfl hF7 rfl) rfl ?_
     refine Tr.nil (Tr.thenN ?_)
     exact Tr.endX (Sub.cons rfl (Sub.dropN 3 (by kernel_rfl) rfl))
    refine Tr.q (QS.move rfl) rfl ?_
    apply Tr.andP
    ·exact (rfl : _ = (3, 52, 55))
    ·exact rfl
    ·intro hT8; have hT8' := hT8
     try simp only [bs] at hT8'
     refine Tr.gq rfl rfl hT8 (QS.move rfl) rfl ?_
     refine Tr.gq rfl rfl hT8 (QS.leq rfl rfl) rfl ?_
     refine Tr.q (QS.pickT rfl hT8 rfl) rfl ?_
     refine Tr.nil (Tr.thenN ?_)
     exact Tr.endX (Sub.cons rfl (Sub.dropN 3 (by kernel_rfl) rfl))
    ·intro hF8
     refine Tr.gskip rfl rfl hF8 rfl ?_
     refine Tr.gskip rfl rfl hF8 rfl ?_
     refine Tr.q (QS.pickF rfl hF8 rfl) rfl ?_
     refine Tr.nil (Tr.thenN ?_)
     exact Tr.endX (Sub.cons rfl (Sub.dropN 3 (by kernel_rfl) rfl))
    refine Tr.q (QS.assign rfl) rfl ?_
    refine Tr.nil (Tr.thenN ?_)
    refine Tr.cond rfl (fun h9 => ?_) (fun h9 => ?_)
    ·try simp only [bs] at h9
     refine Tr.seq (Tr.region ?_)
     refine Tr.q (QS.move rfl) rfl ?_
     refine Tr.q (QS.addI rfl rfl (by omega)) rfl ?_
     refine Tr.q (QS.move rfl) rfl ?_
     refine Tr.q (QS.subI rfl rfl (by omega)) rfl ?_
     refine Tr.q (QS.build (vs := [(2, _), (3, _)]) rfl rfl (HLF.built41_2_3 _ _)) rfl ?_
     refine Tr.storeW rfl rfl Try.sizeOf41 (by repeat constructor) (by rfl) (by rfl) (by first | exact List.all_eq_true.1 rfl | exact Enc.one _ _ | exact Enc.one encIns _) rfl ?_
     refine Tr.q (QS.assign rfl) rfl ?_
     refine Tr.nil (Tr.thenN (Tr.ret ?_))
     refine Tr.inR ?_
     refine Tr.thenR ?_
     refine Tr.scopeR ?_
     refine Tr.retC2 Try.results60 rfl rfl (by repeat constructor) Try.isAgg41 Try.sizeOf41 (by rfl) (fun w' hw => ?_)
     exact ⟨by clear hw; unfold rowP; (repeat (first | rw [if_pos (by first | assumption | omega)] | rw [if_neg (by first | assumption | omega | (intro hq; simp_all))])) <;> rfl, hw.below (Bg.le.refl _)⟩
    ·try simp only [bs] at h9
     refine Tr.seq (Tr.region ?_)
     refine Tr.q (QS.move rfl) rfl ?_
     refine Tr.q (QS.eql rfl rfl) rfl ?_
     refine Tr.q (QS.move rfl) rfl ?_
     apply Tr.andP
     ·exact (rfl : _ = (3, 64, 67))
     ·exact rfl
     ·intro hT10; have hT10' := hT10
      try simp only [bs] at hT10'
      refine Tr.gq rfl rfl hT10 (QS.move rfl) rfl ?_
      refine Tr.gq rfl rfl hT10 (QS.leq rfl rfl) rfl ?_
      refine Tr.q (QS.pickT rfl hT10 rfl) rfl ?_
      refine Tr.nil (Tr.thenN ?_)
      exact Tr.endX (Sub.cons rfl (Sub.dropN 3 (by kernel_rfl) rfl))
     ·intro hF10
      refine Tr.gskip rfl rfl hF10 rfl ?_
      refine Tr.gskip rfl rfl hF10 rfl ?_
      refine Tr.q (QS.pickF rfl hF10 rfl) rfl ?_
      refine Tr.nil (Tr.thenN ?_)
      exact Tr.endX (Sub.cons rfl (Sub.dropN 3 (by kernel_rfl) rfl))
     refine Tr.q (QS.assign rfl) rfl ?_
     refine Tr.nil (Tr.thenN ?_)
     refine Tr.cond rfl (fun h11 => ?_) (fun h11 => ?_)
     ·try simp only [bs] at h11
      refine Tr.seq (Tr.region ?_)
      refine Tr.q (QS.move rfl) rfl ?_
      refine Tr.q (QS.build (vs := [(2, _), (3, _), (5, _)]) rfl rfl (HLF.built41_2_3_5 _ _ _)) rfl ?_
      refine Tr.storeW rfl rfl Try.sizeOf41 (by repeat constructor) (by rfl) (by rfl) (by first | exact List.all_eq_true.1 rfl | exact Enc.one _ _ | exact Enc.one encIns _) rfl ?_
      refine Tr.q (QS.assign rfl) rfl ?_
      refine Tr.nil (Tr.thenN (Tr.ret ?_))
      refine Tr.inR ?_
      refine Tr.thenR ?_
      refine Tr.scopeR ?_
      refine Tr.retC2 Try.results60 rfl rfl (by repeat constructor) Try.isAgg41 Try.sizeOf41 (by rfl) (fun w' hw => ?_)
      exact ⟨by clear hw; unfold rowP; (repeat (first | rw [if_pos (by first | assumption | omega)] | rw [if_neg (by first | assumption | omega | (intro hq; simp_all))])) <;> rfl, hw.below (Bg.le.refl _)⟩
     ·try simp only [bs] at h11
      refine Tr.seq (Tr.region ?_)
      refine Tr.q (QS.move rfl) rfl ?_
      refine Tr.q (QS.eql rfl rfl) rfl ?_
      refine Tr.q (QS.move rfl) rfl ?_
      apply Tr.andP
      ·exact (rfl : _ = (3, 73, 76))
      ·exact rfl
      ·intro hT12; have hT12' := hT12
       try simp only [bs] at hT12'
       refine Tr.gq rfl rfl hT12 (QS.move rfl) rfl ?_
       refine Tr.gq rfl rfl hT12 (QS.leq rfl rfl) rfl ?_
       refine Tr.q (QS.pickT rfl hT12 rfl) rfl ?_
       refine Tr.nil (Tr.thenN ?_)
       exact Tr.endX (Sub.cons rfl (Sub.dropN 3 (by kernel_rfl) rfl))
      ·intro hF12
       refine Tr.gskip rfl rfl hF12 rfl ?_
       refine Tr.gskip rfl rfl hF12 rfl ?_
       refine Tr.q (QS.pickF rfl hF12 rfl) rfl ?_
       refine Tr.nil (Tr.thenN ?_)
       exact Tr.endX (Sub.cons rfl (Sub.dropN 3 (by kernel_rfl) rfl))
      refine Tr.q (QS.assign rfl) rfl ?_
      refine Tr.nil (Tr.thenN ?_)
      refine Tr.cond rfl (fun h13 => ?_) (fun h13 => ?_)
      ·try simp only [bs] at h13
       refine Tr.seq (Tr.region ?_)
       refine Tr.q (QS.move rfl) rfl ?_
       refine Tr.q (QS.build (vs := [(2, _), (3, _), (5, _)]) rfl rfl (HLF.built41_2_3_5 _ _ _)) rfl ?_
       refine Tr.storeW rfl rfl Try.sizeOf41 (by repeat constructor) (by rfl) (by rfl) (by first | exact List.all_eq_true.1 rfl | exact Enc.one _ _ | exact Enc.one encIns _) rfl ?_
       refine Tr.q (QS.assign rfl) rfl ?_
       refine Tr.nil (Tr.thenN (Tr.ret ?_))
       refine Tr.inR ?_
       refine Tr.thenR ?_
       refine Tr.scopeR ?_
       refine Tr.retC2 Try.results60 rfl rfl (by repeat constructor) Try.isAgg41 Try.sizeOf41 (by rfl) (fun w' hw => ?_)
       exact ⟨by clear hw; unfold rowP; (repeat (first | rw [if_pos (by first | assumption | omega)] | rw [if_neg (by first | assumption | omega | (intro hq; simp_all))])) <;> rfl, hw.below (Bg.le.refl _)⟩
      ·try simp only [bs] at h13
       refine Tr.seq (Tr.region ?_)
       refine Tr.q (QS.move rfl) rfl ?_
       refine Tr.q (QS.eql rfl rfl) rfl ?_
       refine Tr.q (QS.move rfl) rfl ?_
       apply Tr.andP
       ·exact (rfl : _ = (3, 82, 85))
       ·exact rfl
       ·intro hT14; have hT14' := hT14
        try simp only [bs] at hT14'
        refine Tr.gq rfl rfl hT14 (QS.move rfl) rfl ?_
        refine Tr.gq rfl rfl hT14 (QS.leq rfl rfl) rfl ?_
        refine Tr.q (QS.pickT rfl hT14 rfl) rfl ?_
        refine Tr.nil (Tr.thenN ?_)
        exact Tr.endX (Sub.cons rfl (Sub.dropN 3 (by kernel_rfl) rfl))
       ·intro hF14
        refine Tr.gskip rfl rfl hF14 rfl ?_
        refine Tr.gskip rfl rfl hF14 rfl ?_
        refine Tr.q (QS.pickF rfl hF14 rfl) rfl ?_
        refine Tr.nil (Tr.thenN ?_)
        exact Tr.endX (Sub.cons rfl (Sub.dropN 3 (by kernel_rfl) rfl))
       refine Tr.q (QS.assign rfl) rfl ?_
       refine Tr.nil (Tr.thenN ?_)
       refine Tr.cond rfl (fun h15 => ?_) (fun h15 => ?_)
       ·try simp only [bs] at h15
        refine Tr.seq (Tr.region ?_)
        refine Tr.q (QS.move rfl) rfl ?_
        refine Tr.q (QS.build (vs := [(2, _), (5, _)]) rfl rfl (HLF.built41_2_5 _ _)) rfl ?_
        refine Tr.storeW rfl rfl Try.sizeOf41 (by repeat constructor) (by rfl) (by rfl) (by first | exact List.all_eq_true.1 rfl | exact Enc.one _ _ | exact Enc.one encIns _) rfl ?_
        refine Tr.q (QS.assign rfl) rfl ?_
        refine Tr.nil (Tr.thenN (Tr.ret ?_))
        refine Tr.inR ?_
        refine Tr.thenR ?_
        refine Tr.scopeR ?_
        refine Tr.retC2 Try.results60 rfl rfl (by repeat constructor) Try.isAgg41 Try.sizeOf41 (by rfl) (fun w' hw => ?_)
        exact ⟨by clear hw; unfold rowP; (repeat (first | rw [if_pos (by first | assumption | omega)] | rw [if_neg (by first | assumption | omega | (intro hq; simp_all))])) <;> rfl, hw.below (Bg.le.refl _)⟩
       ·try simp only [bs] at h15
        refine Tr.skip (Tr.inN (Tr.thenN (Tr.seq (Tr.region ?_))))
        refine Tr.q (QS.build (vs := [(2, _), (4, _)]) rfl rfl (HLF.built41_2_4 _ _)) rfl ?_
        refine Tr.q (QS.build (vs := [(2, _), (4, _)]) rfl rfl (HLF.built41_2_4 _ _)) rfl ?_
        refine Tr.q (QS.build (vs := [(2, _), (4, _)]) rfl rfl (HLF.built41_2_4 _ _)) rfl ?_
        refine Tr.q (QS.build (vs := [(2, _), (4, _)]) rfl rfl (HLF.built41_2_4 _ _)) rfl ?_
        refine Tr.q (QS.build (vs := [(2, _), (4, _)]) rfl rfl (HLF.built41_2_4 _ _)) rfl ?_
        refine Tr.q (QS.build (vs := [(2, _), (4, _)]) rfl rfl (HLF.built41_2_4 _ _)) rfl ?_
        refine Tr.q (QS.build (vs := [(2, _), (4, _)]) rfl rfl (HLF.built41_2_4 _ _)) rfl ?_
        refine Tr.q (QS.build (vs := [(2, _), (4, _)]) rfl rfl (HLF.built41_2_4 _ _)) rfl ?_
        refine Tr.q (QS.build (vs := [(2, _)]) rfl rfl (HLF.built41_2 _)) rfl ?_
        refine Tr.q (QS.build (vs := [(2, _)]) rfl rfl (HLF.built41_2 _)) rfl ?_
        refine Tr.q (QS.build (vs := [(2, _)]) rfl rfl (HLF.built41_2 _)) rfl ?_
        refine Tr.q (QS.build (vs := [(2, _)]) rfl rfl (HLF.built41_2 _)) rfl ?_
        refine Tr.q (QS.build (vs := [(2, _)]) rfl rfl (HLF.built41_2 _)) rfl ?_
        refine Tr.q (QS.build (vs := [(2, _)]) rfl rfl (HLF.built41_2 _)) rfl ?_
        refine Tr.q (QS.build (vs := [(2, _)]) rfl rfl (HLF.built41_2 _)) rfl ?_
        refine Tr.q (QS.build (vs := [(0, _), (1, _), (2, _), (3, _), (4, _), (5, _), (6, _), (7, _), (8, _), (9, _), (10, _), (11, _), (12, _), (13, _), (14, _)]) rfl rfl (HLF.built120_0_1_2_3_4_5_6_7_8_9_10_11_12_13_14 _ _ _ _ _ _ _ _ _ _ _ _ _ _ _ _ _ _ _ _ _ _ _ _ _ _ _ _ _ _ _ _ _ _ _ _ _ _ _ _ _ _ _ _ _ _ _ _ _ _ _ _ _ _ _ _ _ _ _ _ _ _ _ _ _ _ _ _ _ _ _ _ _ _ _ _ _ _ _ _ _ _ _ _ _ _ _ _ _ _ _ _ _ _ _ _ _ _ _ _ _ _ _ _ _ _ _ _ _ _ _ _ _ _ _ _ _ _ _ _ _ _ _ _ _ _ _ _ _ _ _ _ _ _ _)) rfl ?_
        refine Tr.alloc Try.zeroValue120 rfl rfl (fun b16 => ?_)
        refine Tr.storeW rfl rfl Try.sizeOf120 (by repeat constructor) (by rfl) (by rfl) (by first | exact List.all_eq_true.1 rfl | exact Enc.one _ _ | (intro u hu; simp [Value.cells] at hu; simp_all [Value.oneCell'])) rfl ?_
        refine Tr.nil (Tr.thenN (Tr.seq (Tr.region ?_)))
        refine Tr.alloc Try.zeroValue41 rfl rfl (fun b17 => ?_)
        refine Tr.nil (Tr.thenN (Tr.seq (Tr.region ?_)))
        refine Tr.q (QS.assign rfl) rfl ?_
        refine Tr.nil (Tr.thenN (Tr.seq ?_))
        refine Tr.label ?_
        refine Tr.thenN (Tr.seq (Tr.seq (Tr.region ?_)))
        refine Tr.q (QS.lW rfl Try.isAgg120 Try.sizeOf120) rfl ?_
        refine Tr.q (QS.move rfl) rfl ?_
        refine Tr.nil (Tr.thenN (Tr.block ?_))
        refine Tr.loop (ι := Nat) (fun k => k ≤ 15 ∧ findPI c (rowsP.drop k) = findPI c rowsP) (fun _ => _) (fun k => [cellE b17 (encIns.enc zeroIns) 41, cellE b1 (encIns.enc zeroIns) 41]) (fun k => [(105, .int .i64 (k : Nat))]) (fun k => 15 - k) 0 ⟨by omega, rfl⟩ (.cons (by first | rfl | exact lookI rfl (by omega) | exact lookI rfl (by simp) | exact lookB rfl (by simp)) Front.nil) (by repeat' constructor) rfl (fun k hi m hm => ?_)
        replace hi : k ≤ 15 ∧ findPI c (rowsP.drop k) = findPI c rowsP := hi
        replace hm : m = 15 - k := hm
        change Tr _ _ [cellE b17 (encIns.enc zeroIns) 41, cellE b1 (encIns.enc zeroIns) 41] ([(105, .int .i64 (k : Nat))] ++ _) _
        obtain ⟨hk1, hk2⟩ := hi
        refine Tr.seq (Tr.region ?_)
        refine Tr.q (QS.lss rfl rfl) rfl ?_
        refine Tr.nil (Tr.thenN (Tr.seq ?_))
        refine Tr.cond rfl (fun h18 => ?_) (fun h18 => ?_)
        ·try simp only [bs] at h18
         refine Tr.skip (Tr.thenN (Tr.seq (Tr.block (Tr.seq (Tr.region ?_)))))
         refine Tr.q (QS.indexE (E := encIns) rowsP rfl rfl Try.underlying120 Try.sizeOf41 Try.isAgg41 rfl rfl (by omega)) rfl ?_
         refine Tr.alloc Try.zeroValue41 rfl rfl (fun b19 => ?_)
         refine Tr.storeW rfl rfl Try.sizeOf41 (by repeat constructor) (by rfl) (by rfl) (by first | exact List.all_eq_true.1 rfl | exact Enc.one _ _ | exact Enc.one encIns _) rfl ?_
         refine Tr.nil (Tr.thenN (Tr.seq (Tr.region ?_)))
         refine Tr.q (QS.lW rfl Try.isAgg41 Try.sizeOf41) rfl ?_
         refine Tr.q (QS.call rfl Try.call61 (fun w hw => opcode_any (rowsP.getD k default) w (rows_ok k (by omega)))) rfl ?_
         refine Tr.q (QS.move rfl) rfl ?_
         refine Tr.q (QS.extract rfl rfl) rfl ?_
         refine Tr.q (QS.extract rfl rfl) rfl ?_
         refine Tr.q (QS.extract rfl rfl) rfl ?_
         refine Tr.q (QS.assign rfl) rfl ?_
         refine Tr.q (QS.assign rfl) rfl ?_
         refine Tr.q (QS.assign rfl) rfl ?_
         refine Tr.nil (Tr.thenN (Tr.seq (Tr.region ?_)))
         refine Tr.q (QS.move rfl) rfl ?_
         refine Tr.q (QS.move rfl) rfl ?_
         apply Tr.andP
         ·exact (rfl : _ = (4, 115, 119))
         ·exact rfl
         ·intro hT20; have hT20' := hT20
          try simp only [bs] at hT20'
          refine Tr.gq rfl rfl hT20 (QS.move rfl) rfl ?_
          refine Tr.gq rfl rfl hT20 (QS.move rfl) rfl ?_
          refine Tr.gq rfl rfl hT20 (QS.eql8 rfl rfl) rfl ?_
          refine Tr.q (QS.pickT rfl hT20 rfl) rfl ?_
          refine Tr.nil (Tr.thenN ?_)
          exact Tr.endX (Sub.cons rfl (Sub.dropN 4 (by kernel_rfl) rfl))
         ·intro hF20
          refine Tr.gskip rfl rfl hF20 rfl ?_
          refine Tr.gskip rfl rfl hF20 rfl ?_
          refine Tr.gskip rfl rfl hF20 rfl ?_
          refine Tr.q (QS.pickF rfl hF20 rfl) rfl ?_
          refine Tr.nil (Tr.thenN ?_)
          exact Tr.endX (Sub.cons rfl (Sub.dropN 4 (by kernel_rfl) rfl))
         refine Tr.nil (Tr.thenN ?_)
         refine Tr.cond rfl (fun h21 => ?_) (fun h21 => ?_)
         ·try simp only [bs] at h21
          refine Tr.seq (Tr.region ?_)
          refine Tr.q (QS.lW rfl Try.isAgg41 Try.sizeOf41) rfl ?_
          refine Tr.storeW rfl rfl Try.sizeOf41 (by repeat constructor) (by rfl) (by rfl) (by first | exact List.all_eq_true.1 rfl | exact Enc.one _ _ | exact Enc.one encIns _) rfl ?_
          refine Tr.q (QS.assign rfl) rfl ?_
          refine Tr.nil (Tr.thenN ?_)
          refine Tr.exit ?_
          refine Tr.inMiss rfl ?_
          refine Tr.thenE (Tr.thenE (Tr.inHit (Tr.thenN (Tr.seq (Tr.region ?_)))))
          refine Tr.q (QS.lW rfl Try.isAgg41 Try.sizeOf41) rfl ?_
          refine Tr.q (QS.move rfl) rfl ?_
          refine Tr.storeW rfl rfl Try.sizeOf41 (by repeat constructor) (by rfl) (by rfl) (by first | exact List.all_eq_true.1 rfl | exact Enc.one _ _ | exact Enc.one encIns _) rfl ?_
          refine Tr.q (QS.assign rfl) rfl ?_
          refine Tr.nil (Tr.thenN (Tr.ret ?_))
          refine Tr.scopeR ?_
          refine Tr.retC2 Try.results60 rfl rfl (by repeat constructor) Try.isAgg41 Try.sizeOf41 (by rfl) (fun w' hw => ?_)
          exact ⟨by clear hw; unfold rowP; (repeat (rw [if_neg (by first | assumption | omega | (intro hq; simp_all))])); rw [← hk2, drop_cons (k := k) (by show k < 15; omega), findPI, if_pos (by assumption)]; rfl, hw.below (Bg.le.refl _)⟩
         ·try simp only [bs] at h21
          refine Tr.skip (Tr.inN (Tr.thenN (Tr.region ?_)))
          refine Tr.q (QS.addI rfl rfl (by omega)) rfl ?_
          refine Tr.q (QS.move rfl) rfl ?_
          refine Tr.nil (Tr.thenN ?_)
          apply Tr.again (k + 1)
          ·exact rfl
          ·exact (.cons (by first | rfl | exact lookI rfl (by omega) | exact lookI rfl (by simp) | exact lookB rfl (by simp)) Front.nil)
          ·exact SubX.dropN 18 (by kernel_rfl) rfl
          ·exact (by repeat' constructor)
          ·exact ⟨by omega, by rw [← hk2, drop_cons (k := k) (by show k < 15; omega), findPI, if_neg (by intro hq; simp_all)]⟩
          ·exact (by (try dsimp only); omega)
        ·try simp only [bs] at h18
         refine Tr.exit ?_
         refine Tr.thenE (Tr.thenE (Tr.inHit (Tr.thenN (Tr.seq (Tr.region ?_)))))
         refine Tr.q (QS.lW rfl Try.isAgg41 Try.sizeOf41) rfl ?_
         refine Tr.q (QS.move rfl) rfl ?_
         refine Tr.storeW rfl rfl Try.sizeOf41 (by repeat constructor) (by rfl) (by rfl) (by first | exact List.all_eq_true.1 rfl | exact Enc.one _ _ | exact Enc.one encIns _) rfl ?_
         refine Tr.q (QS.assign rfl) rfl ?_
         refine Tr.nil (Tr.thenN (Tr.ret ?_))
         refine Tr.scopeR ?_
         refine Tr.retC2 Try.results60 rfl rfl (by repeat constructor) Try.isAgg41 Try.sizeOf41 (by rfl) (fun w' hw => ?_)
         exact ⟨by clear hw; unfold rowP; (repeat (rw [if_neg (by first | assumption | omega | (intro hq; simp_all))])); obtain rfl : k = 15 := (by omega); rw [← hk2]; rfl, hw.below (Bg.le.refl _)⟩
set_option maxRecDepth 100000 in
set_option maxHeartbeats 2000000 in
theorem decode_isa (b : List UInt8) (V : Value) (addr : UInt32) (w : World) (hV : Sl (hp w) encU8 b V) :
  Calls Try.prog 37 #[V, .int .u32 addr.toNat] w (fun e w' => e = .returned (.tuple #[.agg (encIns.enc (decP b addr).1).toArray, .int .i64 (decP b addr).2]) ∧ Ext w w') := by
 have hV' : Sl (Bg.of w).blk encU8 b V := hV
 have hlen := hV.len_le
 refine enter Try.func37 rfl Try.ntmps37 rfl ?_
 refine Tr.seq (Tr.region ?_)
 refine Tr.alloc Try.zeroValue41 rfl rfl (fun b1 => ?_)
 refine Tr.q (QS.assign rfl) rfl ?_
 refine Tr.nil (Tr.thenN (Tr.seq (Tr.seq (Tr.region ?_))))
 refine Tr.q (QS.move rfl) rfl ?_
 refine Tr.q (QS.len rfl (by assumption) Try.underlying61) rfl ?_
 refine Tr.q (QS.eql rfl rfl) rfl ?_
 refine Tr.nil (Tr.thenN ?_)
 refine Tr.cond rfl (fun h2 => ?_) (fun h2 => ?_)
 ·try simp only [bs] at h2
  refine Tr.seq (Tr.region ?_)
  refine Tr.q (QS.build (vs := []) rfl rfl (HLF.built41)) rfl ?_
  refine Tr.storeW rfl rfl Try.sizeOf41 (by repeat constructor) (by rfl) (by rfl) (by first | exact List.all_eq_true.1 rfl | exact Enc.one _ _ | exact Enc.one encIns _) rfl ?_
  refine Tr.q (QS.assign rfl) rfl ?_
  refine Tr.nil (Tr.thenN (Tr.ret (Tr.thenR ?_)))
  refine Tr.retC2 Try.results37 rfl rfl (by repeat constructor) Try.isAgg41 Try.sizeOf41 (by rfl) (fun w' hw => ?_)
  exact ⟨by rw [decP_1 (by omega)]; rfl, hw.below (Bg.le.refl _)⟩
 ·try simp only [bs] at h2
  refine Tr.skip (Tr.thenN (Tr.seq (Tr.region ?_)))
  refine Tr.q (QS.move rfl) rfl ?_
  refine Tr.q (QS.idx rfl rfl (by assumption) Try.underlying61 Try.sizeOf5 (by rfl) (by omega)) rfl ?_
  refine Tr.q (QS.el1 rfl (by assumption) Try.isAgg5 (by omega) (by rfl)) rfl ?_
  refine Tr.q (QS.call rfl Try.call60 (fun w hw => row_isa (b.getD 0 default) w)) rfl ?_
  refine Tr.q (QS.move rfl) rfl ?_
  refine Tr.q (QS.extract rfl rfl) rfl ?_
  refine Tr.q (QS.extract rfl rfl) rfl ?_
  refine Tr.alloc Try.zeroValue41 rfl rfl (fun b3 => ?_)
  refine Tr.storeW rfl rfl Try.sizeOf41 (by repeat constructor) (by rfl) (by rfl) (by first | exact List.all_eq_true.1 rfl | exact Enc.one _ _ | exact Enc.one encIns _) rfl ?_
  refine Tr.q (QS.assign rfl) rfl ?_
  refine Tr.nil (Tr.thenN (Tr.seq (Tr.seq (Tr.region ?_))))
  refine Tr.q (QS.move rfl) rfl ?_
  refine Tr.q (QS.not rfl) rfl ?_
  refine Tr.nil (Tr.thenN ?_)
  refine Tr.cond rfl (fun h4 => ?_) (fun h4 => ?_)
  ·try simp only [bs] at h4
   refine Tr.seq (Tr.region ?_)
   refine Tr.q (QS.build (vs := []) rfl rfl (HLF.built41)) rfl ?_
   refine Tr.storeW rfl rfl Try.sizeOf41 (by repeat constructor) (by rfl) (by rfl) (by first | exact List.all_eq_true.1 rfl | exact Enc.one _ _ | exact Enc.one encIns _) rfl ?_
   refine Tr.q (QS.assign rfl) rfl ?_
   refine Tr.nil (Tr.thenN (Tr.ret (Tr.thenR ?_)))
   refine Tr.retC2 Try.results37 rfl rfl (by repeat constructor) Try.isAgg41 Try.sizeOf41 (by rfl) (fun w' hw => ?_)
   exact ⟨by rw [decP_2 (by omega) (by assumption)]; rfl, hw.below (Bg.le.refl _)⟩
  ·try simp only [bs] at h4
   refine Tr.skip (Tr.thenN (Tr.seq (Tr.region ?_)))
   refine Tr.q (QS.lW rfl Try.isAgg41 Try.sizeOf41) rfl ?_
   refine Tr.q (QS.call rfl Try.call61 (fun w hw => opcode_any (rowP (b.getD 0 default)).1 w (row_ok _))) rfl ?_
   refine Tr.q (QS.move rfl) rfl ?_
   refine Tr.q (QS.extract rfl rfl) rfl ?_
   refine Tr.q (QS.extract rfl rfl) rfl ?_
   refine Tr.q (QS.extract rfl rfl) rfl ?_
   refine Tr.q (QS.assign rfl) rfl ?_
   refine Tr.q (QS.assign rfl) rfl ?_
   refine Tr.q (QS.assign rfl) rfl ?_
   refine Tr.nil (Tr.thenN (Tr.seq (Tr.region ?_)))
   refine Tr.q (QS.move rfl) rfl ?_
   refine Tr.q (QS.call rfl Try.call62 (fun w hw => size_any (opcodeP (rowP (b.getD 0 default)).1).2.1 w (opcodeP_shape _))) rfl ?_
   refine Tr.q (QS.assign rfl) rfl ?_
   refine Tr.nil (Tr.thenN (Tr.seq (Tr.seq (Tr.region ?_))))
   refine Tr.q (QS.move rfl) rfl ?_
   refine Tr.q (QS.len rfl (by assumption) Try.underlying61) rfl ?_
   refine Tr.q (QS.move rfl) rfl ?_
   refine Tr.q (QS.lss rfl rfl) rfl ?_
   refine Tr.nil (Tr.thenN ?_)
   refine Tr.cond rfl (fun h5 => ?_) (fun h5 => ?_)
   ·try simp only [bs] at h5
    refine Tr.seq (Tr.region ?_)
    refine Tr.q (QS.build (vs := []) rfl rfl (HLF.built41)) rfl ?_
    refine Tr.storeW rfl rfl Try.sizeOf41 (by repeat constructor) (by rfl) (by rfl) (by first | exact List.all_eq_true.1 rfl | exact Enc.one _ _ | exact Enc.one encIns _) rfl ?_
    refine Tr.q (QS.assign rfl) rfl ?_
    refine Tr.nil (Tr.thenN (Tr.ret (Tr.thenR ?_)))
    refine Tr.retC2 Try.results37 rfl rfl (by repeat constructor) Try.isAgg41 Try.sizeOf41 (by rfl) (fun w' hw => ?_)
    exact ⟨by rw [decP_3 (by omega) (by assumption) (by assumption)]; rfl, hw.below (Bg.le.refl _)⟩
   ·try simp only [bs] at h5
    refine Tr.skip (Tr.thenN (Tr.seq ?_))
    have hsz := sizeP_spec (opcodeP (rowP (b.getD 0 default)).1).2.1
    refine Tr.region ?_
    refine Tr.q (QS.move rfl) rfl ?_
    refine Tr.q (QS.move rfl) rfl ?_
    refine Tr.q (QS.fieldAddr (off := 0) (ft := 39) rfl Try.underlying41 rfl rfl Try.sizeOf39 (by decide)) rfl ?_
    refine Tr.storeV (cs' := [_, _, _, _, _, _, _, _, _]) rfl rfl Try.sizeOf39 (by repeat constructor) rfl (by rfl) (by first | exact Nat.le_of_ble_eq_true rfl | simp) (by first | exact List.all_eq_true.1 rfl | (intro u hu; simp [Value.cells] at hu; simp_all [Value.oneCell'])) rfl ?_
    refine Tr.q (QS.fieldAddr (off := 8) (ft := 3) rfl Try.underlying41 rfl rfl Try.sizeOf3 (by decide)) rfl ?_
    refine Tr.storeV (cs' := [_, _, _, _, _, _, _, _, _]) rfl rfl Try.sizeOf3 (by repeat constructor) rfl (by rfl) (by first | exact Nat.le_of_ble_eq_true rfl | simp) (by first | exact List.all_eq_true.1 rfl | (intro u hu; simp [Value.cells] at hu; simp_all [Value.oneCell'])) rfl ?_
    refine Tr.nil (Tr.thenN (Tr.seq (Tr.region ?_)))
    refine Tr.q (QS.move rfl) rfl ?_
    refine Tr.q (QS.move rfl) rfl ?_
    refine Tr.q (QS.cvtTo32 rfl Try.underlying3 Try.underlying39) rfl ?_
    refine Tr.q (QS.add32 rfl rfl) rfl ?_
    refine Tr.q (QS.assign rfl) rfl ?_
    refine Tr.nil (Tr.thenN ?_)
    refine Tr.seqJ (ι := Ins) (fun k1 => k1 = setAB (opcodeP (rowP (b.getD 0 default)).1).2.1 { (rowP (b.getD 0 default)).1 with addr := addr, size := sizeP (opcodeP (rowP (b.getD 0 default)).1).2.1 } b) (fun _ => Bg.of w) (fun k1 => [cellE b3 (encIns.enc k1) 41, cellE b1 (encIns.enc zeroIns) 41]) (fun k1 => []) ?_ (fun k1 hi => ?_)
    ·skip
     refine Tr.seq (Tr.region ?_)
     refine Tr.q (QS.move rfl) rfl ?_
     refine Tr.nil (Tr.thenN (Tr.block (Tr.seq (Tr.seq (Tr.region ?_)))))
     refine Tr.q (QS.eql rfl rfl) rfl ?_
     refine Tr.q (QS.assign rfl) rfl ?_
     refine Tr.nil (Tr.thenN ?_)
     apply Tr.condOr
     ·exact rfl
     ·intro hO6
      try simp only [bs] at hO6
      refine Tr.seq (Tr.region ?_)
      refine Tr.q (QS.eql rfl rfl) rfl ?_
      refine Tr.q (QS.assign rfl) rfl ?_
      refine Tr.nil (Tr.thenN ?_)
      apply Tr.condOr
      ·exact rfl
      ·intro hO7
       try simp only [bs] at hO7
       refine Tr.region ?_
       refine Tr.q (QS.eql rfl rfl) rfl ?_
       refine Tr.q (QS.assign rfl) rfl ?_
       refine Tr.nil (Tr.thenN ?_)
       exact Tr.endOr rfl (SubX.dropN 2 (by kernel_rfl) rfl)
      refine Tr.thenN ?_
      exact Tr.endOr rfl (SubX.dropN 3 (by kernel_rfl) rfl)
     refine Tr.thenN ?_
     refine Tr.cond rfl (fun h8 => ?_) (fun h8 => ?_)
     ·try simp only [bs] at h8
      refine Tr.region ?_
      refine Tr.q (QS.move rfl) rfl ?_
      refine Tr.q (QS.idx rfl rfl (by assumption) Try.underlying61 Try.sizeOf5 (by rfl) (by omega)) rfl ?_
      refine Tr.q (QS.el1 rfl (by assumption) Try.isAgg5 (by omega) (by rfl)) rfl ?_
      refine Tr.q (QS.cvt8toI rfl Try.underlying5 Try.underlying3) rfl ?_
      refine Tr.q (QS.fieldAddr (off := 6) (ft := 3) rfl Try.underlying41 rfl rfl Try.sizeOf3 (by decide)) rfl ?_
      refine Tr.storeV (cs' := [_, _, _, _, _, _, _, _, _]) rfl rfl Try.sizeOf3 (by repeat constructor) rfl (by rfl) (by first | exact Nat.le_of_ble_eq_true rfl | simp) (by first | exact List.all_eq_true.1 rfl | (intro u hu; simp [Value.cells] at hu; simp_all [Value.oneCell'])) rfl ?_
      refine Tr.nil (Tr.inN (Tr.thenN ?_))
      apply Tr.joined { { (rowP (b.getD 0 default)).1 with addr := addr, size := sizeP (opcodeP (rowP (b.getD 0 default)).1).2.1 } with a := (b.getD 1 default).toNat }
      ·exact rfl
      ·exact Front.nil
      ·exact SubX.dropN 9 (by kernel_rfl) rfl
      ·exact (by repeat' constructor)
      ·exact (by unfold setAB; (repeat (first | rw [if_pos (by omega)] | rw [if_neg (by omega)])) <;> rfl)
     ·try simp only [bs] at h8
      refine Tr.seq (Tr.seq (Tr.region ?_))
      refine Tr.q (QS.eql rfl rfl) rfl ?_
      refine Tr.q (QS.assign rfl) rfl ?_
      refine Tr.nil (Tr.thenN ?_)
      apply Tr.condOr
      ·exact rfl
      ·intro hO9
       try simp only [bs] at hO9
       refine Tr.region ?_
       refine Tr.q (QS.eql rfl rfl) rfl ?_
       refine Tr.q (QS.assign rfl) rfl ?_
       refine Tr.nil (Tr.thenN ?_)
       exact Tr.endOr rfl (SubX.dropN 2 (by kernel_rfl) rfl)
      refine Tr.thenN ?_
      refine Tr.cond rfl (fun h10 => ?_) (fun h10 => ?_)
      ·try simp only [bs] at h10
       refine Tr.regionH ([cellE b1 (encIns.enc zeroIns) 41]) 14 rfl HLF.mixed ?_
       refine Tr.hT 0 rfl (by kernel_rfl) (panicIn (panicThen panicBody)) (QS.move rfl) ?_
       refine Tr.hT 1 rfl (by kernel_rfl) (panicIn (panicThen panicBody)) (QS.idx rfl rfl (by assumption) Try.underlying61 Try.sizeOf5 (by rfl) (by omega)) ?_
       refine Tr.hT 2 rfl (by kernel_rfl) (panicIn (panicThen panicBody)) (QS.el1 rfl (by assumption) Try.isAgg5 (by omega) (by rfl)) ?_
       refine Tr.hT 3 rfl (by kernel_rfl) (panicIn (panicThen panicBody)) (QS.shr8c4 rfl rfl) ?_
       refine Tr.hT 4 rfl (by kernel_rfl) (panicIn (panicThen panicBody)) (QS.cvt8toI rfl Try.underlying5 Try.underlying3) ?_
       refine Tr.hT 5 rfl (by kernel_rfl) (panicIn (panicThen panicBody)) (QS.move rfl) ?_
       refine Tr.hT 6 rfl (by kernel_rfl) (panicIn (panicThen panicBody)) (QS.idx rfl rfl (by assumption) Try.underlying61 Try.sizeOf5 (by rfl) (by omega)) ?_
       refine Tr.hT 7 rfl (by kernel_rfl) (panicIn (panicThen panicBody)) (QS.el1 rfl (by assumption) Try.isAgg5 (by omega) (by rfl)) ?_
       refine Tr.hT 8 rfl (by kernel_rfl) (panicIn (panicThen panicBody)) (QS.and8c15 rfl rfl) ?_
       refine Tr.hT 9 rfl (by kernel_rfl) (panicIn (panicThen panicBody)) (QS.cvt8toI rfl Try.underlying5 Try.underlying3) ?_
       refine Tr.hT 10 rfl (by kernel_rfl) (panicIn (panicThen panicBody)) (QS.fieldAddr (off := 6) (ft := 3) rfl Try.underlying41 rfl rfl Try.sizeOf3 (by decide)) ?_
       refine Tr.hAll [11] (by kernel_rfl) (by simp) (fun iq hq => ?_)
       obtain rfl := List.mem_singleton.1 hq
       refine Tr.hOp rfl ?_
       refine Tr.storeV (cs' := [_, _, _, _, _, _, _, _, _]) rfl rfl Try.sizeOf3 (by repeat constructor) rfl (by rfl) (by first | exact Nat.le_of_ble_eq_true rfl | simp) (by first | exact List.all_eq_true.1 rfl | (intro u hu; simp [Value.cells] at hu; simp_all [Value.oneCell'])) rfl ?_
       refine Tr.hN ?_
       refine Tr.hT 12 rfl (by kernel_rfl) (panicIn (panicThen panicBody)) (QS.fieldAddr (off := 7) (ft := 3) rfl Try.underlying41 rfl rfl Try.sizeOf3 (by decide)) ?_
       refine Tr.hAll [13] (by kernel_rfl) (by simp) (fun iq hq => ?_)
       obtain rfl := List.mem_singleton.1 hq
       refine Tr.hOp rfl ?_
       refine Tr.storeV (cs' := [_, _, _, _, _, _, _, _, _]) rfl rfl Try.sizeOf3 (by repeat constructor) rfl (by rfl) (by first | exact Nat.le_of_ble_eq_true rfl | simp) (by first | exact List.all_eq_true.1 rfl | (intro u hu; simp [Value.cells] at hu; simp_all [Value.oneCell'])) rfl ?_
       refine Tr.hN ?_
       refine Tr.hDone (by kernel_rfl) ?_
       refine Tr.inN (Tr.thenN ?_)
       apply Tr.joined { { (rowP (b.getD 0 default)).1 with addr := addr, size := sizeP (opcodeP (rowP (b.getD 0 default)).1).2.1 } with a := (b.getD 1 default / 16).toNat, b := (b.getD 1 default % 16).toNat }
       ·exact rfl
       ·exact Front.nil
       ·exact SubX.dropN 19 (by kernel_rfl) rfl
       ·exact (by repeat' constructor)
       ·exact (by unfold setAB; (repeat (first | rw [if_pos (by omega)] | rw [if_neg (by omega)])) <;> rfl)
      ·try simp only [bs] at h10
       refine Tr.skip (Tr.inN (Tr.thenN ?_))
       apply Tr.joined { (rowP (b.getD 0 default)).1 with addr := addr, size := sizeP (opcodeP (rowP (b.getD 0 default)).1).2.1 }
       ·exact rfl
       ·exact Front.nil
       ·exact SubX.dropN 7 (by kernel_rfl) rfl
       ·exact (by repeat' constructor)
       ·exact (by unfold setAB; (repeat (first | rw [if_pos (by omega)] | rw [if_neg (by omega)])) <;> rfl)
    ·skip
     replace hi : k1 = setAB (opcodeP (rowP (b.getD 0 default)).1).2.1 { (rowP (b.getD 0 default)).1 with addr := addr, size := sizeP (opcodeP (rowP (b.getD 0 default)).1).2.1 } b := hi
     change Tr _ _ [cellE b3 (encIns.enc k1) 41, cellE b1 (encIns.enc zeroIns) 41] ([] ++ _) _
     refine Tr.seqJ (ι := Ins) (fun k2 => k2 = setImm (opcodeP (rowP (b.getD 0 default)).1).2.1 (setAB (opcodeP (rowP (b.getD 0 default)).1).2.1 { (rowP (b.getD 0 default)).1 with addr := addr, size := sizeP (opcodeP (rowP (b.getD 0 default)).1).2.1 } b) b (addr + u32 (sizeP (opcodeP (rowP (b.getD 0 default)).1).2.1))) (fun _ => Bg.of w) (fun k2 => [cellE b3 (encIns.enc k2) 41, cellE b1 (encIns.enc zeroIns) 41]) (fun k2 => []) ?_ (fun k2 hi => ?_)
     ·skip
      refine Tr.seq (Tr.region ?_)
      refine Tr.q (QS.move rfl) rfl ?_
      refine Tr.nil (Tr.thenN (Tr.block (Tr.seq (Tr.seq (Tr.region ?_)))))
      refine Tr.q (QS.eql rfl rfl) rfl ?_
      refine Tr.q (QS.assign rfl) rfl ?_
      refine Tr.nil (Tr.thenN ?_)
      apply Tr.condOr
      ·exact rfl
      ·intro hO11
       try simp only [bs] at hO11
       refine Tr.region ?_
       refine Tr.q (QS.eql rfl rfl) rfl ?_
       refine Tr.q (QS.assign rfl) rfl ?_
       refine Tr.nil (Tr.thenN ?_)
       exact Tr.endOr rfl (SubX.dropN 2 (by kernel_rfl) rfl)
      refine Tr.thenN ?_
      refine Tr.cond rfl (fun h12 => ?_) (fun h12 => ?_)
      ·try simp only [bs] at h12
       refine Tr.region ?_
       refine Tr.q (QS.move rfl) rfl ?_
       refine Tr.q (QS.idx rfl rfl (by assumption) Try.underlying61 Try.sizeOf5 (by rfl) (by omega)) rfl ?_
       refine Tr.q (QS.el1 rfl (by assumption) Try.isAgg5 (by omega) (by rfl)) rfl ?_
       refine Tr.q (QS.cvt8to32 rfl Try.underlying5 Try.underlying39) rfl ?_
       refine Tr.q (QS.call rfl Try.call63 (fun w hw => extend_any (b.getD 2 default).toUInt32 1 w)) rfl ?_
       refine Tr.q (QS.fieldAddr (off := 1) (ft := 39) rfl Try.underlying41 rfl rfl Try.sizeOf39 (by decide)) rfl ?_
       refine Tr.storeV (cs' := [_, _, _, _, _, _, _, _, _]) rfl rfl Try.sizeOf39 (by repeat constructor) rfl (by rfl) (by first | exact Nat.le_of_ble_eq_true rfl | simp) (by first | exact List.all_eq_true.1 rfl | (intro u hu; simp [Value.cells] at hu; simp_all [Value.oneCell'])) rfl ?_
       refine Tr.nil (Tr.inN (Tr.thenN ?_))
       rw [ext_sext]
       apply Tr.joined { k1 with imm := sextP (b.getD 2 default) }
       ·exact rfl
       ·exact Front.nil
       ·exact SubX.dropN 10 (by kernel_rfl) rfl
       ·exact (by repeat' constructor)
       ·exact (by subst hi; unfold setImm; (repeat (first | rw [if_pos (by omega)] | rw [if_neg (by omega)])) <;> rfl)
      ·try simp only [bs] at h12
       refine Tr.seq (Tr.region ?_)
       refine Tr.q (QS.eql rfl rfl) rfl ?_
       refine Tr.q (QS.assign rfl) rfl ?_
       refine Tr.nil (Tr.thenN ?_)
       refine Tr.cond rfl (fun h13 => ?_) (fun h13 => ?_)
       ·try simp only [bs] at h13
        refine Tr.region ?_
        refine Tr.q (QS.move rfl) rfl ?_
        refine Tr.q (QS.call rfl Try.call64 (fun w hw => get_any b V 2 4 w (hw.slF hV) (by omega))) rfl ?_
        refine Tr.q (QS.move rfl) rfl ?_
        refine Tr.q (QS.extract rfl rfl) rfl ?_
        refine Tr.q (QS.extract rfl rfl) rfl ?_
        refine Tr.q (QS.fieldAddr (off := 1) (ft := 39) rfl Try.underlying41 rfl rfl Try.sizeOf39 (by decide)) rfl ?_
        refine Tr.storeV (cs' := [_, _, _, _, _, _, _, _, _]) rfl rfl Try.sizeOf39 (by repeat constructor) rfl (by rfl) (by first | exact Nat.le_of_ble_eq_true rfl | simp) (by first | exact List.all_eq_true.1 rfl | (intro u hu; simp [Value.cells] at hu; simp_all [Value.oneCell'])) rfl ?_
        refine Tr.nil (Tr.inN (Tr.thenN ?_))
        rw [show (getP b 2 4).1 = longP b 2 from get_long (k := 2) (by omega)]
        apply Tr.joined { k1 with imm := longP b 2 }
        ·exact rfl
        ·exact Front.nil
        ·exact SubX.dropN 12 (by kernel_rfl) rfl
        ·exact (by repeat' constructor)
        ·exact (by subst hi; unfold setImm; (repeat (first | rw [if_pos (by omega)] | rw [if_neg (by omega)])) <;> rfl)
       ·try simp only [bs] at h13
        refine Tr.seq (Tr.region ?_)
        refine Tr.q (QS.eql rfl rfl) rfl ?_
        refine Tr.q (QS.assign rfl) rfl ?_
        refine Tr.nil (Tr.thenN ?_)
        refine Tr.cond rfl (fun h14 => ?_) (fun h14 => ?_)
        ·try simp only [bs] at h14
         refine Tr.region ?_
         refine Tr.q (QS.move rfl) rfl ?_
         refine Tr.q (QS.move rfl) rfl ?_
         refine Tr.q (QS.idx rfl rfl (by assumption) Try.underlying61 Try.sizeOf5 (by rfl) (by omega)) rfl ?_
         refine Tr.q (QS.el1 rfl (by assumption) Try.isAgg5 (by omega) (by rfl)) rfl ?_
         refine Tr.q (QS.cvt8to32 rfl Try.underlying5 Try.underlying39) rfl ?_
         refine Tr.q (QS.call rfl Try.call63 (fun w hw => extend_any (b.getD 1 default).toUInt32 1 w)) rfl ?_
         refine Tr.q (QS.add32 rfl rfl) rfl ?_
         refine Tr.q (QS.fieldAddr (off := 1) (ft := 39) rfl Try.underlying41 rfl rfl Try.sizeOf39 (by decide)) rfl ?_
         refine Tr.storeV (cs' := [_, _, _, _, _, _, _, _, _]) rfl rfl Try.sizeOf39 (by repeat constructor) rfl (by rfl) (by first | exact Nat.le_of_ble_eq_true rfl | simp) (by first | exact List.all_eq_true.1 rfl | (intro u hu; simp [Value.cells] at hu; simp_all [Value.oneCell'])) rfl ?_
         refine Tr.nil (Tr.inN (Tr.thenN ?_))
         rw [ext_sext]
         apply Tr.joined { k1 with imm := (addr + u32 (sizeP (opcodeP (rowP (b.getD 0 default)).1).2.1)) + sextP (b.getD 1 default) }
         ·exact rfl
         ·exact Front.nil
         ·exact SubX.dropN 16 (by kernel_rfl) rfl
         ·exact (by repeat' constructor)
         ·exact (by subst hi; unfold setImm; (repeat (first | rw [if_pos (by omega)] | rw [if_neg (by omega)])) <;> rfl)
        ·try simp only [bs] at h14
         refine Tr.seq (Tr.region ?_)
         refine Tr.q (QS.eql rfl rfl) rfl ?_
         refine Tr.q (QS.assign rfl) rfl ?_
         refine Tr.nil (Tr.thenN ?_)
         refine Tr.cond rfl (fun h15 => ?_) (fun h15 => ?_)
         ·try simp only [bs] at h15
          refine Tr.seq (Tr.region ?_)
          refine Tr.q (QS.move rfl) rfl ?_
          refine Tr.q (QS.call rfl Try.call64 (fun w hw => get_any b V 1 4 w (hw.slF hV) (by omega))) rfl ?_
          refine Tr.q (QS.move rfl) rfl ?_
          refine Tr.q (QS.extract rfl rfl) rfl ?_
          refine Tr.q (QS.extract rfl rfl) rfl ?_
          refine Tr.q (QS.assign rfl) rfl ?_
          refine Tr.q (QS.assign rfl) rfl ?_
          refine Tr.nil (Tr.thenN (Tr.region ?_))
          refine Tr.q (QS.move rfl) rfl ?_
          refine Tr.q (QS.move rfl) rfl ?_
          refine Tr.q (QS.add32 rfl rfl) rfl ?_
          refine Tr.q (QS.fieldAddr (off := 1) (ft := 39) rfl Try.underlying41 rfl rfl Try.sizeOf39 (by decide)) rfl ?_
          refine Tr.storeV (cs' := [_, _, _, _, _, _, _, _, _]) rfl rfl Try.sizeOf39 (by repeat constructor) rfl (by rfl) (by first | exact Nat.le_of_ble_eq_true rfl | simp) (by first | exact List.all_eq_true.1 rfl | (intro u hu; simp [Value.cells] at hu; simp_all [Value.oneCell'])) rfl ?_
          refine Tr.nil (Tr.inN (Tr.thenN ?_))
          rw [show (getP b 1 4).1 = longP b 1 from get_long (k := 1) (by omega)]
          apply Tr.joined { k1 with imm := (addr + u32 (sizeP (opcodeP (rowP (b.getD 0 default)).1).2.1)) + longP b 1 }
          ·exact rfl
          ·exact Front.nil
          ·exact SubX.dropN 21 (by kernel_rfl) rfl
          ·exact (by repeat' constructor)
          ·exact (by subst hi; unfold setImm; (repeat (first | rw [if_pos (by omega)] | rw [if_neg (by omega)])) <;> rfl)
         ·try simp only [bs] at h15
          refine Tr.skip (Tr.inN (Tr.thenN ?_))
          apply Tr.joined k1
          ·exact rfl
          ·exact Front.nil
          ·exact SubX.dropN 10 (by kernel_rfl) rfl
          ·exact (by repeat' constructor)
          ·exact (by subst hi; unfold setImm; (repeat (first | rw [if_pos (by omega)] | rw [if_neg (by omega)])) <;> rfl)
     ·skip
      replace hi : k2 = setImm (opcodeP (rowP (b.getD 0 default)).1).2.1 (setAB (opcodeP (rowP (b.getD 0 default)).1).2.1 { (rowP (b.getD 0 default)).1 with addr := addr, size := sizeP (opcodeP (rowP (b.getD 0 default)).1).2.1 } b) b (addr + u32 (sizeP (opcodeP (rowP (b.getD 0 default)).1).2.1)) := hi
      change Tr _ _ [cellE b3 (encIns.enc k2) 41, cellE b1 (encIns.enc zeroIns) 41] ([] ++ _) _
      refine Tr.seq (Tr.seq (Tr.region ?_))
      refine Tr.q (QS.fieldAddr (off := 6) (ft := 3) rfl Try.underlying41 rfl rfl Try.sizeOf3 (by decide)) rfl ?_
      refine Tr.q (QS.lV rfl Try.isAgg3) rfl ?_
      refine Tr.q (QS.call rfl Try.call65 (fun w hw => register_any k2.a w)) rfl ?_
      refine Tr.q (QS.not rfl) rfl ?_
      refine Tr.q (QS.move rfl) rfl ?_
      apply Tr.orP
      ·exact (rfl : _ = (5, 118, 123))
      ·exact rfl
      ·intro hF16; have hF16' := hF16
       try simp only [bs] at hF16'
       refine Tr.gq rfl rfl hF16 (QS.fieldAddr (off := 7) (ft := 3) rfl Try.underlying41 rfl rfl Try.sizeOf3 (by decide)) rfl ?_
       refine Tr.gq rfl rfl hF16 (QS.lV rfl Try.isAgg3) rfl ?_
       refine Tr.gq rfl rfl hF16 (QS.call rfl Try.call65 (fun w hw => register_any k2.b w)) rfl ?_
       refine Tr.gq rfl rfl hF16 (QS.not rfl) rfl ?_
       refine Tr.q (QS.pickF rfl hF16 rfl) rfl ?_
       refine Tr.nil (Tr.thenN ?_)
       exact Tr.endX (Sub.cons rfl (Sub.dropN 5 (by kernel_rfl) rfl))
      ·intro hT16
       refine Tr.gskip rfl rfl hT16 rfl ?_
       refine Tr.gskip rfl rfl hT16 rfl ?_
       refine Tr.gskip rfl rfl hT16 rfl ?_
       refine Tr.gskip rfl rfl hT16 rfl ?_
       refine Tr.q (QS.pickT rfl hT16 rfl) rfl ?_
       refine Tr.nil (Tr.thenN ?_)
       exact Tr.endX (Sub.cons rfl (Sub.dropN 5 (by kernel_rfl) rfl))
      refine Tr.nil (Tr.thenN ?_)
      refine Tr.cond rfl (fun h17 => ?_) (fun h17 => ?_)
      ·try simp only [bs] at h17
       refine Tr.seq (Tr.region ?_)
       refine Tr.q (QS.build (vs := []) rfl rfl (HLF.built41)) rfl ?_
       refine Tr.storeW rfl rfl Try.sizeOf41 (by repeat constructor) (by rfl) (by rfl) (by first | exact List.all_eq_true.1 rfl | exact Enc.one _ _ | exact Enc.one encIns _) rfl ?_
       refine Tr.q (QS.assign rfl) rfl ?_
       refine Tr.nil (Tr.thenN (Tr.ret (Tr.thenR ?_)))
       refine Tr.retC2 Try.results37 rfl rfl (by repeat constructor) Try.isAgg41 Try.sizeOf41 (by rfl) (fun w' hw => ?_)
       exact ⟨by rw [decP_4 (by omega) (by assumption) (by assumption) hi, if_pos (by assumption)]; rfl, hw.below (Bg.le.refl _)⟩
      ·try simp only [bs] at h17
       refine Tr.skip (Tr.thenN (Tr.seq (Tr.region ?_)))
       refine Tr.q (QS.lW rfl Try.isAgg41 Try.sizeOf41) rfl ?_
       refine Tr.storeW rfl rfl Try.sizeOf41 (by repeat constructor) (by rfl) (by rfl) (by first | exact List.all_eq_true.1 rfl | exact Enc.one _ _ | exact Enc.one encIns _) rfl ?_
       refine Tr.q (QS.assign rfl) rfl ?_
       refine Tr.nil (Tr.thenN (Tr.ret ?_))
       refine Tr.retC2 Try.results37 rfl rfl (by repeat constructor) Try.isAgg41 Try.sizeOf41 (by rfl) (fun w' hw => ?_)
       exact ⟨by rw [decP_4 (by omega) (by assumption) (by assumption) hi, if_neg (by simp_all)]; rfl, hw.below (Bg.le.refl _)⟩
end Go.Proofs.Ytnmaokalpbnmaaa
namespace Go.HL
open Go Go.RowKit Go.Sort
section
variable {α : Type} {E : Enc α} {f : α → Value}
theorem Mut.refl (w : World) (V : Value) : Mut w w V := ⟨rfl, rfl, rfl, Nat.le_refl _, Nat.le_refl _, fun _ _ _ => rfl⟩
end
def Bg.less (w : World) (V : Value) : Bg := ⟨fun b => if some b = V.ownBlock then none else w.heap[b]?, 0, w.drawn, w.os, w.tape, w.output, 0, Nat.le_refl _⟩
theorem HpOK.startOwn {α : Type} {V : Value} {T : TypeId} {E : Enc α} {l : List α} {w : World} (h : (rowE V T E l).holds w) : HpOK (Bg.less w V) [rowE V T E l] w := by
  have hlt : ∀ b, V.ownBlock = some b → b < w.heap.size := fun b hV => by
    have h' : RowOK V T E l (V.ownBlock.bind (w.heap[·]?)) := h
    rcases h' with ⟨rfl, _⟩ | ⟨g, cap, cur, rfl, ho, _⟩
    · simp [Value.ownBlock] at hV
    · simp only [Value.ownBlock, Option.some.injEq] at hV
      subst hV
      exact (Array.getElem?_eq_some_iff.1 ho).1
  have hb : blks [rowE V T E l] = V.ownBlock.toList := by
    cases hV : V.ownBlock <;> simp [blks, rowE, hV]
  refine ⟨rfl, rfl, rfl, Nat.zero_le _, Nat.le_refl _, fun b o e => ?_, fun e he => ?_, ?_, fun b hm => ?_, fun b hm => ?_⟩
  · simp only [Bg.less] at e
    split at e
    · cases e
    · exact e
  · obtain rfl := List.mem_singleton.1 he; exact h
  · rw [hb]; cases V.ownBlock <;> simp
  · rw [hb] at hm; exact hlt b (by simpa using hm)
  · rw [hb] at hm
    have hm' : V.ownBlock = some b := by simpa using hm
    exact ⟨by simp only [Bg.less]; rw [if_pos hm'.symm], Nat.zero_le _⟩
theorem HpOK.mutOwn {α : Type} {V V' : Value} {T : TypeId} {E : Enc α} {l : List α} {L : List Ent} {w w' : World} (h : HpOK (Bg.less w V) L w') (hm : rowE V' T E l ∈ L) (hb : V'.ownBlock = V.ownBlock) : Mut w w' V ∧ (rowE V' T E l).holds w' := by
  have key : ∀ k, k < w.heap.size → some k ≠ V.ownBlock → w'.heap[k]? = w.heap[k]? := fun k hk hne => by
    have e : (Bg.less w V).blk k = some w.heap[k] := by simp only [Bg.less]; rw [if_neg hne]; simp [hk]
    rw [h.bg k _ e]; simp [hk]
  refine ⟨⟨h.os, h.tape, h.out, ?_, h.dr, key⟩, h.ent _ hm⟩
  rcases Nat.eq_zero_or_pos w.heap.size with h0 | h0
  · omega
  · have hk : w.heap.size - 1 < w.heap.size := by omega
    by_cases hne : some (w.heap.size - 1) = V.ownBlock
    · have : w.heap.size - 1 ∈ blks L := List.mem_filterMap.2 ⟨_, hm, by show V'.ownBlock = _; rw [hb, ← hne]⟩
      have := h.lt _ this
      omega
    · have h1 := key _ hk hne
      rw [Array.getElem?_eq_getElem hk] at h1
      have := (Array.getElem?_eq_some_iff.1 h1).1
      omega
theorem enterOwn {α : Type} {T : TypeId} {E : Enc α} {l : List α} {V : Value} {P : Program} {f : FuncId} {fn : Func} {c : Code} {N : Nat} {args : List Value} {w : World} {R : Ending → World → Prop} (hr : (rowE V T E l).holds w) (hf : P.funcs[f]? = some fn) (hb : fn.body = some c) (hN : fn.ntmps = N) (hle : Nat.ble args.length N = true)
    (h : Tr N (Bg.less w V) [rowE V T E l] (frameOf 0 args) (c.wp P (bodyPost P fn R))) (hN0 : Nat.ble N mk0 = true := by rfl) : Calls P f args.toArray w R :=
  calls_of_wp hf hb (h _ w (frameOf_ok (by rw [hN]; simp) hle hN0) (HpOK.startOwn hr))
section
variable {P : Program} {ops : Array Oper} {Q : Exit → Act → World → Prop} {N : Nat} {F : Bg} {L : List Ent} {M : Fr} {ty : TypeId} {pos : String} {after : Array Edge} {rest : List Oper} {d : Nat}
/-- A call that changes one's own slice and hands it back, maybe shorter. -/
theorem Tr.callMutRow {α : Type} {E : Enc α} {l l' : List α} {V : Value} {T : TypeId} {f : FuncId} {xs : List Operand} {vs : List Value} {ts : Array TypeId} {L1 : List Ent} (hx : opvs M xs = some vs)
    (he : ∀ (args : Array Value) (w : World), (callFunc f args).run P w = .ok (.enter f args) w) (hV : Del (rowE V T E l) L L1)
    (hc : ∀ w, HpOK F L w → Calls P f vs.toArray w fun e w' => ∃ V', e = .returned V' ∧ V'.ownBlock = V.ownBlock ∧ Mut w w' V ∧ (rowE V' T E l').holds w') (hd : Nat.ble (d + 1) N = true)
    (K : ∀ V', V'.ownBlock = V.ownBlock → Tr N F (rowE V' T E l' :: L1) ((d, V') :: M) (wpList P ops Q rest)) :
    Tr N F L M (wpList P ops Q (⟨some d, .call { callee := .value (.func f), args := xs.toArray, argTypes := ts }, ty, pos, after, none⟩ :: rest)) := by
  intro a w ha hw
  refine wpList_plain rfl fun K' hK => ?_
  have hr : (execOp a.eval ⟨some d, .call { callee := .value (.func f), args := xs.toArray, argTypes := ts }, ty, pos, after, none⟩).run P w = .ok (.enter f vs.toArray) w := by
    have := ha.evals hx
    simp [execOp, resolve, Deferred.ofValue, Act.eval, invoke, he, this]
  unfold Oper.wp
  rw [hr]
  refine (hc w hw).mono fun e w' ⟨V', h1, h2, h3, h4⟩ => ?_
  subst h1
  refine hK _ _ (K V' h2 _ _ (ha.put (Nat.le_of_ble_eq_true hd)) ?_)
  have hf := hw.front hV
  cases hO : V.ownBlock with
  | none =>
    have hx : Ext w w' := ⟨⟨h3.os, h3.tape, h3.output, h3.size, fun k hk => h3.block k hk (by rw [hO]; simp)⟩, h3.dr⟩
    have hg := hf.grow hx
    have hbl : blks (rowE V' T E l' :: L1) = blks (rowE V T E l :: L1) := by simp only [blks, rowE, h2, List.filterMap_cons, hO]
    refine ⟨hg.os, hg.tape, hg.out, hg.n, hg.dr, hg.bg, fun e he => ?_, by rw [hbl]; exact hg.nodup, by rw [hbl]; exact hg.lt, by rw [hbl]; exact hg.sep⟩
    rcases List.mem_cons.1 he with rfl | he
    · exact h4
    · exact hg.ent e (.tail _ he)
  | some b =>
    have e1 : rowE V T E l = ⟨some b, RowOK V T E l⟩ := by simp [rowE, hO]
    have e2 : rowE V' T E l' = ⟨some b, RowOK V' T E l'⟩ := by simp [rowE, h2, hO]
    rw [e1] at hf
    rw [e2] at h4 ⊢
    exact HpOK.set hf (.here _) h3.os h3.tape h3.output h3.size h3.dr (fun k hk hkb => h3.block k hk (by rw [hO]; simpa using hkb)) h4
end
end Go.HL
namespace Go.HL
open Go Go.RowKit
variable {P : Program} {N : Nat} {F : Bg} {L : List Ent} {M : Fr} {dst : Option Tmp} {ty : TypeId} {pos : String} {after : Array Edge} {g : Option (Nat × Bool)}
theorem QS.sliceRow {α : Type} {E : Enc α} {xs : List α} {x : Operand} {lo hi : Option Operand} {lv hv : Option (IntKind × Int)} {t e : TypeId} {V : Value} {T : TypeId} {k : Nat} (hx : opv M x = some V) (hs : rowE V T E xs ∈ L)
    (hlo : lo.map (opv M) = lv.map fun p => some (.int p.1 p.2)) (hhi : hi.map (opv M) = hv.map fun p => some (.int p.1 p.2))
    (ht : P.underlying t = some (.slice e)) (hz : ∀ w, (sizeOf e).run P w = .ok k w) (hk : k = E.k) (h0 : 0 ≤ loOf lv) (h1 : loOf lv ≤ hiOf xs.length hv) (h2 : hiOf xs.length hv ≤ xs.length) :
    QS P N F L M ⟨dst, .slice t x lo hi none, ty, pos, after, g⟩ (HL.resl V (loOf lv).toNat (hiOf xs.length hv).toNat E.k) :=
  QS.of_run fun A w ha hw => by
    obtain ⟨a, c, rfl, hc1, hc2, _⟩ := (hw.row hs).shape
    have e1 : lo.map A.eval = lv.map fun p => Value.int p.1 p.2 := by
      cases lo with
      | none => cases lv <;> simp_all
      | some o =>
        cases lv with
        | none => simp at hlo
        | some p => simp only [Option.map_some, Option.some.injEq] at hlo ⊢; exact ha.eval hlo
    have e2 : hi.map A.eval = hv.map fun p => Value.int p.1 p.2 := by
      cases hi with
      | none => cases hv <;> simp_all
      | some o =>
        cases hv with
        | none => simp at hhi
        | some p => simp only [Option.map_some, Option.some.injEq] at hhi ⊢; exact ha.eval hhi
    have hr := sliceRun (P := P) ht hz w (a := a) (n := xs.length) (c := c) (fun w => boundsRun (P := P) w h0 h1 (by omega) hc1)
    subst hk
    simp only [execOp, ha.eval hx, e1, e2, Option.map_none, Sem.run_bind, hr, Result.andThen_ok, Sem.run_pure]
    rfl
end Go.HL
namespace Go.HL
open Go Go.RowKit
section
variable {P : Program} {ops : Array Oper} {Q : Exit → Act → World → Prop} {N : Nat} {F : Bg} {L : List Ent} {M : Fr} {ty : TypeId} {pos : String} {after : Array Edge} {rest : List Oper} {d : Nat} {dst : Option Tmp} {g : Option (Nat × Bool)}
open Go.Lib (strCells strCells_length run_append_room_string run_append_grow_string)
/-- The bytes of a text. -/
def bts (s : ByteArray) : List UInt8 := s.data.toList
theorem bts_len (s : ByteArray) : (bts s).length = s.size := by rw [bts, Array.length_toList]; rfl
end
end Go.HL
namespace Go.HL
open Go Go.RowKit
theorem HpOK.freeze {F : Bg} {L : List Ent} {w : World} (h : HpOK F L w) : ∃ F', F.le F' ∧ HpOK F' L w ∧ ∀ b o, b ∉ blks L → w.heap[b]? = some o → F'.blk b = some o := by
  refine ⟨{ F with blk := fun b => if b ∈ blks L then none else w.heap[b]? }, ⟨fun b o e => ?_, Nat.le_refl _, rfl, rfl, rfl, rfl, rfl⟩, ⟨h.os, h.tape, h.out, h.n, h.dr, fun b o e => ?_, h.ent, h.nodup, h.lt, fun b hb => ⟨?_, (h.sep b hb).2⟩⟩, fun b o hb e => ?_⟩
  · have hn : b ∉ blks L := fun hb => by rw [(h.sep b hb).1] at e; cases e
    show (if b ∈ blks L then none else w.heap[b]?) = some o
    rw [if_neg hn]; exact h.bg b o e
  · have e' : (if b ∈ blks L then none else w.heap[b]?) = some o := e
    split at e'
    · cases e'
    · exact e'
  · show (if b ∈ blks L then none else w.heap[b]?) = none
    rw [if_pos hb]
  · show (if b ∈ blks L then none else w.heap[b]?) = some o
    rw [if_neg hb]; exact e
/-- What lies in blocks that the world did not have before. -/
def newHp (w w' : World) : Hp := fun b => if b < w.heap.size then none else w'.heap[b]?
theorem newHp_bg {F F' : Bg} {L : List Ent} {w w' : World} (h : HpOK F L w) (hb : ∀ b o, b ∉ blks L → w'.heap[b]? = some o → F'.blk b = some o) : Hp.le (newHp w w') F'.blk := fun b o e => by
  unfold newHp at e; split at e
  · cases e
  · exact hb b o (fun hm => by have := h.lt b hm; omega) e
/-- A row made in a call reads in the new blocks. -/
theorem NewRow.sl {α : Type} {w w' : World} {T : TypeId} {E : Enc α} {l : List α} {V : Value} (h : NewRow w w' T E l V) : Sl (newHp w w') E l V := by
  obtain ⟨h1, h2⟩ := h
  rcases h1 with ⟨rfl, rfl⟩ | ⟨g, cap, cur, rfl, ho, k1, k2, k3, k4⟩
  · exact Sl.nil _ _
  · refine RowOK.sl (T := T) (.inr ⟨g, cap, cur, rfl, ?_, k1, k2, k3, k4⟩)
    have hg := h2 g rfl
    show newHp w w' g = _
    unfold newHp; rw [if_neg (by omega)]; exact ho
section
variable {P : Program} {ops : Array Oper} {Q : Exit → Act → World → Prop} {N : Nat} {F : Bg} {L : List Ent} {M : Fr} {dst : Option Tmp} {ty : TypeId} {pos : String} {after : Array Edge} {g : Option (Nat × Bool)} {rest : List Oper} {d : Nat}
/-- A row of one's own is only read from now on. -/
theorem Tr.frozen {α : Type} {V : Value} {T : TypeId} {E : Enc α} {l : List α} {L1 : List Ent} {X : Act → World → Prop} (hV : Del (rowE V T E l) L L1) (K : ∀ F', F.le F' → Sl F'.blk E l V → Tr N F' L1 M X) : Tr N F L M X := by
  intro a w ha hw
  have hf := hw.front hV
  have h1 : HpOK F L1 w := hf.mem (List.sublist_cons_self _ _)
  obtain ⟨F', e1, e2, e3⟩ := h1.freeze
  refine K F' e1 ?_ a w ha e2
  have hr : RowOK V T E l (V.ownBlock.bind (w.heap[·]?)) := hf.ent _ (.head _)
  rcases hr with ⟨rfl, rfl⟩ | ⟨gb, cap, cur, rfl, ho, k1, k2, k3, k4⟩
  · exact Sl.nil _ _
  · refine RowOK.sl (T := T) (.inr ⟨gb, cap, cur, rfl, ?_, k1, k2, k3, k4⟩)
    refine e3 gb _ ?_ ho
    have := hf.nodup
    rw [blks_some (b := gb) rfl, List.nodup_cons] at this
    exact this.1
/-- A call that hands back something new, which is only read from then on. -/
theorem Tr.callBg {ι : Type} {R : Hp → ι → Prop} (φ : ι → Value) {f : FuncId} {xs : List Operand} {vs : List Value} {ts : Array TypeId} (hR : ∀ h h' i, Hp.le h h' → R h i → R h' i) (hx : opvs M xs = some vs)
    (he : ∀ (args : Array Value) (w : World), (callFunc f args).run P w = .ok (.enter f args) w)
    (hc : ∀ w, HpOK F L w → Calls P f vs.toArray w fun e w' => ∃ i, e = .returned (φ i) ∧ Ext w w' ∧ R (newHp w w') i) (hd : Nat.ble (d + 1) N = true)
    (K : ∀ i F', F.le F' → R F'.blk i → Tr N F' L ((d, φ i) :: M) (wpList P ops Q rest)) :
    Tr N F L M (wpList P ops Q (⟨some d, .call { callee := .value (.func f), args := xs.toArray, argTypes := ts }, ty, pos, after, none⟩ :: rest)) := by
  intro a w ha hw
  refine wpList_plain rfl fun K' hK => ?_
  have hr : (execOp a.eval ⟨some d, .call { callee := .value (.func f), args := xs.toArray, argTypes := ts }, ty, pos, after, none⟩).run P w = .ok (.enter f vs.toArray) w := by
    have := ha.evals hx
    simp [execOp, resolve, Deferred.ofValue, Act.eval, invoke, he, this]
  unfold Oper.wp
  rw [hr]
  refine (hc w hw).mono fun e w' ⟨i, h1, h2, h3⟩ => ?_
  subst h1
  obtain ⟨F', e1, e2, e3⟩ := (hw.grow h2).freeze
  exact hK _ _ (K i F' e1 (hR _ _ _ (newHp_bg hw e3) h3) _ _ (ha.put (Nat.le_of_ble_eq_true hd)) e2)
structure NewEnts (w w' : World) (Ls : List Ent) : Prop where
  ent : ∀ e ∈ Ls, e.holds w'
  nodup : (blks Ls).Nodup
  lt : ∀ b ∈ blks Ls, b < w'.heap.size
  ge : ∀ b ∈ blks Ls, w.heap.size ≤ b
theorem HpOK.newEnts {w w' : World} {Ls : List Ent} (h : HpOK F L w) (hx : Ext w w') (hn : NewEnts w w' Ls) : HpOK F (Ls ++ L) w' := by
  have hg := h.grow hx
  have hbl : blks (Ls ++ L) = blks Ls ++ blks L := List.filterMap_append
  refine ⟨hg.os, hg.tape, hg.out, hg.n, hg.dr, hg.bg, fun e he => ?_, ?_, fun b hb => ?_, fun b hb => ?_⟩
  · rcases List.mem_append.1 he with he | he
    · exact hn.ent e he
    · exact hg.ent e he
  · rw [hbl, List.nodup_append]
    exact ⟨hn.nodup, hg.nodup, fun a ha b hb => by have := hn.ge a ha; have := h.lt b hb; omega⟩
  · rw [hbl] at hb
    rcases List.mem_append.1 hb with hb | hb
    · exact hn.lt b hb
    · exact hg.lt b hb
  · rw [hbl] at hb
    rcases List.mem_append.1 hb with hb | hb
    · have hge := hn.ge b hb
      refine ⟨?_, Nat.le_trans (Nat.le_trans F.lo_le h.n) hge⟩
      cases hF : F.blk b with
      | none => rfl
      | some o =>
        have := h.bg _ _ hF
        have := (Array.getElem?_eq_some_iff.1 this).1
        omega
    · exact hg.sep b hb
theorem HpOK.ents {w w' : World} {Ls : List Ent} (h : HpOK F L w') (hF : (Bg.of w).le F) (hs : Pick L Ls) : NewEnts w w' Ls := by
  have h' := hs.heap h
  refine ⟨h'.ent, h'.nodup, h'.lt, fun b hb => ?_⟩
  have := (h'.sep b hb).2
  rw [hF.lo] at this; exact this
open Go.Lib in
theorem Tr.strBytes {x : Operand} {s t e : TypeId} {u : TypeDesc} {b : ByteArray} (hx : opv M x = some (.string b)) (hs : P.underlying s = some u) (ht : P.underlying t = some (.slice e)) (he : P.underlying e = some (.int .u8)) (hb : b.size ≤ maxLen) (hd : Nat.ble (d + 1) N = true)
    (K : ∀ V F', F.le F' → Sl F'.blk encU8 (bts b) V → Tr N F' L ((d, V) :: M) (wpList P ops Q rest)) : Tr N F L M (wpList P ops Q (⟨some d, .convert s t x, ty, pos, after, none⟩ :: rest)) := by
  intro a w ha hw
  refine wpList_plain rfl fun K' hK => ?_
  have hr := Go.Lib.run_convert_string_bytes (P := P) w s t e b hs ht he
  have hge := grownCap_ge w b.size 0 e
  have hx2 : Ext w (bytesWorld w e b) := ⟨⟨rfl, rfl, rfl, by rw [bytesWorld_size]; omega, fun k hk => bytesWorld_at_old w e b k hk⟩, by simp [bytesWorld, World.freeze]⟩
  obtain ⟨F', e1, e2, e3⟩ := (hw.grow hx2).freeze
  have hnew := e3 w.heap.size _ (fun hm => by have := hw.lt _ hm; omega) (bytesWorld_at_new w e b)
  unfold Oper.wp
  simp only [execOp, ha.eval hx, Sem.run_bind, hr, Result.andThen_ok, Sem.run_pure, Oper.upon]
  refine hK _ _ (K _ F' e1 ?_ _ _ (ha.put (Nat.le_of_ble_eq_true hd)) e2)
  have hl := bts_len b
  refine ⟨⟨some ⟨w.heap.size, 0, none⟩, grownCap w b.size 0 e, by rw [hl], by rw [hl]; exact hge, grownCap_le_maxLen w _ 0 e hb, fun _ => rfl⟩, fun i x hi => ⟨_, _, _, hnew, fun j v hj => ?_⟩⟩
  have hi' : i < b.size := by rw [← hl]; exact (List.getElem?_eq_some_iff.1 hi).1
  have hj' : j = 0 := by have := (List.getElem?_eq_some_iff.1 hj).1; simp [encU8] at this; exact this
  subst hj'
  simp only [encU8, List.getElem?_cons_zero, Option.some.injEq] at hj
  subst hj
  have hi2 : b.data[i]? = some x := by
    rw [← Array.getElem?_toList]; exact hi
  have hi3 : i < b.data.size := hi'
  simp [bytesCells, ofs, encU8, Array.getElem?_append, hi2, hi3]
  intro h; omega
def CellsIn (h : Hp) (b : Nat) (vs : List Value) : Prop := ∃ (cs : Array Value) (T : TypeId) (fz : Nat × Nat), h b = some (.cells cs T fz) ∧ ∀ (j : Nat) (v : Value), vs[j]? = some v → cs[j]? = some v
theorem CellsIn.mono {h k : Hp} {b : Nat} {vs : List Value} (c : CellsIn h b vs) (hk : Hp.le h k) : CellsIn k b vs := let ⟨cs, T, fz, h1, h2⟩ := c; ⟨cs, T, fz, hk _ _ h1, h2⟩
theorem cellE.cellsIn {b : Nat} {cs : List Value} {T : TypeId} {w w' : World} (h : (cellE b cs T).holds w) (hx : Ext w w') : CellsIn (HL.hp w') b cs :=
  CellsIn.mono (h := HL.hp w) ⟨cs.toArray, T, (0, 0), h, fun j v hv => by simpa using hv⟩ hx.hp
theorem CellsIn.cell {h : Hp} {b : Nat} {vs : List Value} (c : CellsIn h b vs) {j : Nat} {v : Value} (hv : vs[j]? = some v) : Cell h b j v := let ⟨cs, T, fz, h1, h2⟩ := c; ⟨cs, T, fz, h1, h2 j v hv⟩
theorem QS.loadCA {x : Operand} {t : TypeId} {b k : Nat} {vs : List Value} (hx : opv M x = some (.pointer (some ⟨b, 0, none⟩))) (hc : CellsIn F.blk b vs) (hagg : ∀ w, (isAgg t).run P w = .ok true w) (hz : ∀ w, (sizeOf t).run P w = .ok k w) (hl : vs.length = k) :
    QS P N F L M ⟨dst, .load t x, ty, pos, after, g⟩ (.agg vs.toArray) :=
  QS.loadA hx hagg hz hl fun w hw j v hj => by
    rw [Nat.zero_add]; exact ((hc.mono hw.bg).cell hj).at
theorem QS.loadCF {x : Operand} {t : TypeId} {b o : Nat} {v : Value} {vs : List Value} (hx : opv M x = some (.pointer (some ⟨b, o, none⟩))) (hc : CellsIn F.blk b vs) (hagg : ∀ w, (isAgg t).run P w = .ok false w) (hv : vs[o]? = some v) :
    QS P N F L M ⟨dst, .load t x, ty, pos, after, g⟩ v :=
  QS.load1 hx hagg fun w hw => ((hc.mono hw.bg).cell hv).at
theorem Pick.refl : ∀ L : List Ent, Pick L L
  | [] => .nil _
  | e :: L => .cons (.here _) (Pick.refl L)
theorem NewEnts.row {α : Type} {w w' : World} {Ls : List Ent} {V : Value} {T : TypeId} {E : Enc α} {l : List α} (h : NewEnts w w' Ls) (hm : rowE V T E l ∈ Ls) : NewRow w w' T E l V :=
  ⟨h.ent _ hm, fun b hb => h.ge b (List.mem_filterMap.2 ⟨_, hm, hb⟩)⟩
/-- What a row's slice value is like. -/
theorem Tr.rowShape {α : Type} {V : Value} {T : TypeId} {E : Enc α} {l : List α} {X : Act → World → Prop} (hm : rowE V T E l ∈ L) (K : ∀ a c, V = .slice a l.length c → Tr N F L M X) : Tr N F L M X := by
  intro a w ha hw
  have hr : RowOK V T E l (V.ownBlock.bind (w.heap[·]?)) := hw.ent _ hm
  rcases hr with ⟨h1, h2⟩ | ⟨gb, cap, cur, h1, _⟩
  · exact K none 0 (by rw [h1, h2]; rfl) a w ha hw
  · exact K _ _ h1 a w ha hw
end
end Go.HL
namespace Go.HL
open Go Go.RowKit Go.Sort
open Go.Shelf (Ren)
open Go.Proofs (SlLaysF0.n6 CmpLays ltOf)
theorem Ext.grown {w w' : World} (h : Ext w w') : ∃ q os', w' = grow (w.drewN q) os' := by
  refine ⟨w'.drawn - w.drawn, w'.heap.extract w.heap.size w'.heap.size, ?_⟩
  obtain ⟨⟨h1, h2, h3, h4, h5⟩, h6⟩ := h
  obtain ⟨hp', t', d', o', u'⟩ := w'
  simp only at h1 h2 h3 h4 h5 h6 ⊢
  subst h1; subst h2; subst h3
  simp only [grow, World.drewN, World.mk.injEq, true_and, and_true]
  refine ⟨?_, by omega⟩
  apply Array.ext_getElem?
  intro k
  rw [Array.getElem?_append]
  by_cases hk : k < w.heap.size
  · rw [if_pos hk, h5 k hk]
  · rw [if_neg hk]
    simp only [Array.getElem?_extract]
    by_cases hk2 : k < hp'.size
    · rw [if_pos (by omega), show w.heap.size + (k - w.heap.size) = k by omega]
    · rw [if_neg (by omega), Array.getElem?_eq_none (by omega)]
end Go.HL
namespace Go.HL
open Go
/-- A section, and where its bytes lie. -/
structure SecV where
  name : ByteArray
  addr : UInt32
  data : List UInt8
  dp : Option Addr
  dc : Nat
  wr : Bool
  ex : Bool
  deriving Inhabited
def encSec : Enc SecV := ⟨5, fun s => [.string s.name, .int .u32 s.addr.toNat, .slice s.dp s.data.length s.dc, .bool s.wr, .bool s.ex], fun _ => rfl,
  fun x v h => by simp at h; rcases h with h | h | h | h | h <;> subst h <;> rfl⟩
structure Sec where
  name : ByteArray
  addr : UInt32
  data : List UInt8
  wr : Bool
  ex : Bool
  deriving DecidableEq, Inhabited
def SecV.pl (s : SecV) : Sec := ⟨s.name, s.addr, s.data, s.wr, s.ex⟩
/-- The sections' bytes read. -/
def DataIn (h : Hp) (l : List SecV) : Prop := ∀ s ∈ l, Sl h encU8 s.data (.slice s.dp s.data.length s.dc)
theorem DataIn.mono {h h' : Hp} {l : List SecV} (d : DataIn h l) (hh : Hp.le h h') : DataIn h' l := fun s hs => (d s hs).mono hh
/-- Not too much. -/
def SecB (l : List SecV) : Prop := l.length ≤ 1000 ∧ ∀ s ∈ l, s.data.length ≤ 200000
theorem SecB.at {l : List SecV} (h : SecB l) {k : Nat} (hk : k < l.length) : (l.getD k default).data.length ≤ 200000 := h.2 _ (mem_getD hk)
def lowB (c : UInt8) : Bool := decide (c < 97) || decide (122 < c)
def uppB (c : UInt8) : Bool := decide (c < 65) || decide (90 < c)
def digB (c : UInt8) : Bool := decide (c < 48) || decide (57 < c)
/-- No sign of a name. -/
def badB (c : UInt8) : Bool := (((lowB c && uppB c) && digB c) && decide (c ≠ 95)) && decide (c ≠ 46)
def nameP (s : ByteArray) : Bool := !(bts s).any badB && (decide (1 ≤ (s.size : Int)) && decide ((s.size : Int) ≤ 32))
def endP (s : SecV) : Int := min ((s.addr.toNat : Int) + s.data.length) 4294967295
def spaceP (s : SecV) : Rng := ⟨s.addr, u32 (endP s)⟩
theorem endP_rng (s : SecV) : 0 ≤ endP s ∧ endP s ≤ 4294967295 := by unfold endP; omega
theorem u32_val {n : Int} (h : 0 ≤ n ∧ n ≤ 4294967295) : ((u32 n).toNat : Int) = n := by
  unfold u32; rw [UInt32.toNat_ofNat']; omega
theorem space_hi (s : SecV) : ((spaceP s).hi.toNat : Int) = endP s := u32_val (endP_rng s)
def inS (a : UInt32) (s : SecV) : Bool := inR a (spaceP s)
theorem inS_iff {a : UInt32} {s : SecV} : inS a s = true ↔ s.addr.toNat ≤ a.toNat ∧ (a.toNat : Int) < endP s := by
  have h := space_hi s
  simp only [inS, inR, Bool.and_eq_true, decide_eq_true_eq, UInt32.le_iff_toNat_le, UInt32.lt_iff_toNat_lt]
  have : (spaceP s).lo = s.addr := rfl
  rw [this]; omega
def findP (l : List SecV) (a : UInt32) : Int := idxP (inS a) 0 l
theorem idxP_bound {α : Type} (p : α → Bool) : ∀ (l : List α) (k : Nat), -1 ≤ idxP p k l ∧ idxP p k l < (k : Int) + l.length
  | [], k => by simp [idxP]; omega
  | x :: l, k => by
    unfold idxP
    split
    · simp; omega
    · have := idxP_bound p l (k + 1); simp; omega
theorem findP_lt {l : List SecV} {a : UInt32} : -1 ≤ findP l a ∧ findP l a < l.length := by
  have := idxP_bound (inS a) l 0; unfold findP; omega
theorem idxP_at {α : Type} [Inhabited α] (p : α → Bool) : ∀ (l : List α) (k : Nat), 0 ≤ idxP p k l → (k : Int) ≤ idxP p k l ∧ p (l.getD (idxP p k l - k).toNat default) = true
  | [], k, h => by simp [idxP] at h
  | x :: l, k, h => by
    unfold idxP at h ⊢
    split
    · rename_i hx; simp [hx]
    · rename_i hx
      rw [if_neg hx] at h
      obtain ⟨h1, h2⟩ := idxP_at p l (k + 1) h
      refine ⟨by omega, ?_⟩
      rw [show (idxP p (k + 1) l - (k : Int)).toNat = (idxP p (k + 1) l - ((k + 1 : Nat) : Int)).toNat + 1 by omega, List.getD_cons_succ]
      exact h2
theorem findP_in {l : List SecV} {a : UInt32} (h : 0 ≤ findP l a) : inS a (l.getD (findP l a).toNat default) = true := by
  have := (idxP_at (inS a) l 0 h).2
  rwa [Int.natCast_zero, Int.sub_zero] at this
/-- A list of sections made anew. -/
def SecsAt (h : Hp) (ls : List Sec) (V : Value) : Prop := ∃ l, Sl h encSec l V ∧ DataIn h l ∧ l.map SecV.pl = ls
theorem SecsAt.mono {h h' : Hp} {ls : List Sec} {V : Value} (s : SecsAt h ls V) (hh : Hp.le h h') : SecsAt h' ls V := let ⟨l, a, b, c⟩ := s; ⟨l, a.mono hh, b.mono hh, c⟩
def meetP (a b : Rng) : Bool := decide ((if a.lo < b.lo then b.lo else a.lo) < (if b.hi < a.hi then b.hi else a.hi))
def stackP : Rng := ⟨978944, 983040⟩
/-- The first error of a section after others. -/
def oneP (l : List SecV) (i : Nat) : Int :=
  let s := l.getD i default
  if (s.data.length : Int) > 65536 then 6 else if nameP s.name = false then 3 else if (l.take i).any (fun x => decide (x.name = s.name)) = true then 8
  else if (s.addr.toNat : Int) + s.data.length > 4294967295 ∨ meetP (spaceP s) stackP = true then 7 else 0
def firstP (f : Nat → Int) : Nat → Nat → Int
  | _, 0 => 0
  | i, n + 1 => if f i ≠ 0 then f i else firstP f (i + 1) n
def overP (l : List SecV) (i : Nat) : Bool := (l.take i).any fun x => meetP (spaceP x) (spaceP (l.getD i default))
def checkS (l : List SecV) : Int :=
  if (l.length : Int) > 16 then 6 else if firstP (oneP l) 0 l.length ≠ 0 then firstP (oneP l) 0 l.length
  else firstP (fun i => if overP l i = true then 10 else 0) 0 l.length
theorem any_take_succ {α : Type} [Inhabited α] {p : α → Bool} {l : List α} {k : Nat} (h : k < l.length) : (l.take (k + 1)).any p = ((l.take k).any p || p (l.getD k default)) := by
  rw [take_succ h, List.any_append]; simp
theorem any_take_all {α : Type} {p : α → Bool} {l : List α} {k : Nat} (h : l.length ≤ k) : (l.take k).any p = l.any p := by rw [List.take_of_length_le h]
theorem nameP_bad {s : ByteArray} {k : Nat} (hk : k < s.size) (hb : badB ((bts s).getD k default) = true) : nameP s = false := by
  have h1 : (bts s).any badB = true := List.any_eq_true.2 ⟨_, mem_getD (by rw [bts_len]; exact hk), hb⟩
  unfold nameP; rw [h1]; rfl
theorem nameP_end {s : ByteArray} {k : Nat} (hk : s.size ≤ k) (h : ((bts s).take k).any badB = false) : nameP s = (decide (1 ≤ (s.size : Int)) && decide ((s.size : Int) ≤ 32)) := by
  rw [any_take_all (by rw [bts_len]; exact hk)] at h
  unfold nameP; rw [h]; rfl
theorem firstP_hit {f : Nat → Int} {k n : Nat} (hn : 0 < n) (h : f k ≠ 0) : firstP f k n = f k := by
  obtain ⟨m, rfl⟩ : ∃ m, n = m + 1 := ⟨n - 1, by omega⟩
  unfold firstP; rw [if_pos h]
theorem firstP_next {f : Nat → Int} {k n : Nat} (hk : k < n) (h : f k = 0) : firstP f (k + 1) (n - (k + 1)) = firstP f k (n - k) := by
  obtain ⟨m, hm⟩ : ∃ m, n - k = m + 1 := ⟨n - k - 1, by omega⟩
  rw [hm, show n - (k + 1) = m by omega]
  conv => rhs; unfold firstP
  rw [if_neg (by simp [h])]
theorem check_0 {l : List SecV} (h : (16 : Int) < l.length) : checkS l = 6 := by unfold checkS; rw [if_pos h]
theorem check_1 {l : List SecV} {k : Nat} {v : Int} (hl : ¬ (16 : Int) < l.length) (hk : k < l.length) (hi : firstP (oneP l) k (l.length - k) = firstP (oneP l) 0 l.length) (h : oneP l k = v) (hv : v ≠ 0) : checkS l = v := by
  rw [firstP_hit (by omega) (by rw [h]; exact hv), h] at hi
  unfold checkS; rw [if_neg hl, ← hi, if_pos hv]
theorem check_2 {l : List SecV} {k : Nat} (hl : ¬ (16 : Int) < l.length) (h1 : firstP (oneP l) 0 l.length = 0) (hk : k < l.length) (hi : firstP (fun i => if overP l i = true then 10 else 0) k (l.length - k) = firstP (fun i => if overP l i = true then 10 else 0) 0 l.length) (h : overP l k = true) : checkS l = 10 := by
  rw [firstP_hit (by omega) (by rw [if_pos h]; decide), if_pos h] at hi
  unfold checkS; rw [if_neg hl, if_neg (by simp [h1]), ← hi]
theorem check_3 {l : List SecV} (hl : ¬ (16 : Int) < l.length) (h1 : firstP (oneP l) 0 l.length = 0) (h2 : firstP (fun i => if overP l i = true then 10 else 0) 0 l.length = 0) : checkS l = 0 := by
  unfold checkS; rw [if_neg hl, if_neg (by simp [h1]), h2]
theorem firstP_zero {f : Nat → Int} {k n : Nat} (hk : n ≤ k) : firstP f k (n - k) = 0 := by rw [show n - k = 0 by omega]; rfl
theorem SecsAt.nil {h : Hp} : SecsAt h [] (.slice none 0 0) := ⟨[], Sl.nil _ _, fun s hs => (by simp at hs), rfl⟩
end Go.HL
namespace Go.Proofs.Ytnmaokalpbnmaaa
open Go Go.HL Go.RowKit
set_option maxRecDepth 100000 in
set_option maxHeartbeats 2000000 in
theorem name_any (s : ByteArray) (w : World) (hs : s.size ≤ 9223372036854775807) :
  Calls Try.prog 69 #[.string s] w (fun e w' => e = .returned (.bool (nameP s)) ∧ Ext w w') := by
 have hbl := bts_len s
 refine enter Try.func69 rfl Try.ntmps69 rfl ?_
 refine Tr.seq (Tr.region ?_)
 refine Tr.q (QS.assign rfl) rfl ?_
 refine Tr.nil (Tr.thenN (Tr.seq (Tr.seq (Tr.region ?_))))
 refine Tr.q (QS.move rfl) rfl ?_
 refine Tr.strBytes rfl Try.underlying9 Try.underlying61 Try.underlying5 (by unfold maxLen; omega) rfl (fun V1 F1 hF1 hV1 => ?_)
 refine Tr.q (QS.len rfl (by assumption) Try.underlying61) rfl ?_
 refine Tr.q (QS.move rfl) rfl ?_
 refine Tr.nil (Tr.thenN (Tr.block ?_))
 refine Tr.loop (ι := Nat) (fun k => k ≤ s.size ∧ ((bts s).take k).any badB = false) (fun _ => _) (fun k => []) (fun k => [(8, .int .i64 (k : Nat))]) (fun k => s.size - k) 0 ⟨Nat.zero_le _, rfl⟩ (.cons (by first | rfl | exact lookI rfl (by omega) | exact lookI rfl (by simp) | exact lookB rfl (by simp)) Front.nil) (by repeat' constructor) rfl (fun k hi m hm => ?_)
 replace hi : k ≤ s.size ∧ ((bts s).take k).any badB = false := hi
 replace hm : m = s.size - k := hm
 change Tr _ _ [] ([(8, .int .i64 (k : Nat))] ++ _) _
 obtain ⟨hk1, hk2⟩ := hi
 refine Tr.seq (Tr.region ?_)
 refine Tr.q (QS.lss rfl rfl) rfl ?_
 refine Tr.nil (Tr.thenN (Tr.seq ?_))
 refine Tr.cond rfl (fun h2 => ?_) (fun h2 => ?_)
 ·try simp only [bs] at h2
  refine Tr.skip (Tr.thenN (Tr.seq (Tr.block (Tr.seq (Tr.region ?_)))))
  refine Tr.q (QS.idxN rfl rfl (by assumption) Try.underlying61 Try.sizeOf5 (by rfl) (by omega)) rfl ?_
  refine Tr.q (QS.el1 rfl (by assumption) Try.isAgg5 (by omega) (by rfl)) rfl ?_
  refine Tr.q (QS.assign rfl) rfl ?_
  refine Tr.nil (Tr.thenN (Tr.seq (Tr.region ?_)))
  refine Tr.q (QS.move rfl) rfl ?_
  refine Tr.q (QS.lss8 (n := 97) rfl rfl) rfl ?_
  refine Tr.q (QS.move rfl) rfl ?_
  apply Tr.orP
  ·exact (rfl : _ = (3, 14, 17))
  ·exact rfl
  ·intro hF3; have hF3' := hF3
   try simp only [bs] at hF3'
   refine Tr.gq rfl rfl hF3 (QS.move rfl) rfl ?_
   refine Tr.gq rfl rfl hF3 (QS.gtr8 (n := 122) rfl rfl) rfl ?_
   refine Tr.q (QS.pickF rfl hF3 rfl) rfl ?_
   refine Tr.nil (Tr.thenN ?_)
   exact Tr.endX (Sub.cons rfl (Sub.dropN 3 (by kernel_rfl) rfl))
  ·intro hT3
   refine Tr.gskip rfl rfl hT3 rfl ?_
   refine Tr.gskip rfl rfl hT3 rfl ?_
   refine Tr.q (QS.pickT rfl hT3 rfl) rfl ?_
   refine Tr.nil (Tr.thenN ?_)
   exact Tr.endX (Sub.cons rfl (Sub.dropN 3 (by kernel_rfl) rfl))
  refine Tr.q (QS.move rfl) rfl ?_
  apply Tr.andP
  ·exact (rfl : _ = (7, 18, 25))
  ·exact rfl
  ·intro hT4; have hT4' := hT4
   try simp only [bs] at hT4'
   refine Tr.gq rfl rfl hT4 (QS.move rfl) rfl ?_
   refine Tr.gq rfl rfl hT4 (QS.lss8 (n := 65) rfl rfl) rfl ?_
   refine Tr.gq rfl rfl hT4 (QS.move rfl) rfl ?_
   apply Tr.orP
   ·exact (rfl : _ = (3, 21, 24))
   ·exact rfl
   ·intro hF5; have hF5' := hF5
    try simp only [bs] at hF5'
    refine Tr.gq rfl rfl hF5 (QS.move rfl) rfl ?_
    refine Tr.gq rfl rfl hF5 (QS.gtr8 (n := 90) rfl rfl) rfl ?_
    refine Tr.gq rfl rfl hT4 (QS.pickF rfl hF5 rfl) rfl ?_
    refine Tr.nil (Tr.thenN ?_)
    exact Tr.endX (Sub.cons rfl (Sub.dropN 3 (by kernel_rfl) rfl))
   ·intro hT5
    refine Tr.gskip rfl rfl hT5 rfl ?_
    refine Tr.gskip rfl rfl hT5 rfl ?_
    refine Tr.gq rfl rfl hT4 (QS.pickT rfl hT5 rfl) rfl ?_
    refine Tr.nil (Tr.thenN ?_)
    exact Tr.endX (Sub.cons rfl (Sub.dropN 3 (by kernel_rfl) rfl))
   refine Tr.q (QS.pickT rfl hT4 rfl) rfl ?_
   refine Tr.nil (Tr.thenN ?_)
   exact Tr.endX (Sub.cons rfl (Sub.dropN 5 (by kernel_rfl) rfl))
  ·intro hF4
   refine Tr.gskip rfl rfl hF4 rfl ?_
   refine Tr.gskip rfl rfl hF4 rfl ?_
   refine Tr.gskip rfl rfl hF4 rfl ?_
   refine Tr.gskipU rfl rfl rfl ?_
   refine Tr.gskipU rfl rfl rfl ?_
   refine Tr.gskip rfl rfl hF4 rfl ?_
   refine Tr.q (QS.pickF rfl hF4 rfl) rfl ?_
   refine Tr.nil (Tr.thenN ?_)
   exact Tr.endX (Sub.cons rfl (Sub.dropN 7 (by kernel_rfl) rfl))
  refine Tr.q (QS.move rfl) rfl ?_
  apply Tr.andP
  ·exact (rfl : _ = (7, 26, 33))
  ·exact rfl
  ·intro hT6; have hT6' := hT6
   try simp only [bs] at hT6'
   refine Tr.gq rfl rfl hT6 (QS.move rfl) rfl ?_
   refine Tr.gq rfl rfl hT6 (QS.lss8 (n := 48) rfl rfl) rfl ?_
   refine Tr.gq rfl rfl hT6 (QS.move rfl) rfl ?_
   apply Tr.orP
   ·exact (rfl : _ = (3, 29, 32))
   ·exact rfl
   ·intro hF7; have hF7' := hF7
    try simp only [bs] at hF7'
    refine Tr.gq rfl rfl hF7 (QS.move rfl) rfl ?_
    refine Tr.gq rfl rfl hF7 (QS.gtr8 (n := 57) rfl rfl) rfl ?_
    refine Tr.gq rfl rfl hT6 (QS.pickF rfl hF7 rfl) rfl ?_
    refine Tr.nil (Tr.thenN ?_)
    exact Tr.endX (Sub.cons rfl (Sub.dropN 3 (by kernel_rfl) rfl))
   ·intro hT7
    refine Tr.gskip rfl rfl hT7 rfl ?_
    refine Tr.gskip rfl rfl hT7 rfl ?_
    refine Tr.gq rfl rfl hT6 (QS.pickT rfl hT7 rfl) rfl ?_
    refine Tr.nil (Tr.thenN ?_)
    exact Tr.endX (Sub.cons rfl (Sub.dropN 3 (by kernel_rfl) rfl))
   refine Tr.q (QS.pickT rfl hT6 rfl) rfl ?_
   refine Tr.nil (Tr.thenN ?_)
   exact Tr.endX (Sub.cons rfl (Sub.dropN 5 (by kernel_rfl) rfl))
  ·intro hF6
   refine Tr.gskip rfl rfl hF6 rfl ?_
   refine Tr.gskip rfl rfl hF6 rfl ?_
   refine Tr.gskip rfl rfl hF6 rfl ?_
   refine Tr.gskipU rfl rfl rfl ?_
   refine Tr.gskipU rfl rfl rfl ?_
   refine Tr.gskip rfl rfl hF6 rfl ?_
   refine Tr.q (QS.pickF rfl hF6 rfl) rfl ?_
   refine Tr.nil (Tr.thenN ?_)
   exact Tr.endX (Sub.cons rfl (Sub.dropN 7 (by kernel_rfl) rfl))
  refine Tr.q (QS.move rfl) rfl ?_
  apply Tr.andP
  ·exact (rfl : _ = (3, 34, 37))
  ·exact rfl
  ·intro hT8; have hT8' := hT8
   try simp only [bs] at hT8'
   refine Tr.gq rfl rfl hT8 (QS.move rfl) rfl ?_
   refine Tr.gq rfl rfl hT8 (QS.neq8 (n := 95) rfl rfl) rfl ?_
   refine Tr.q (QS.pickT rfl hT8 rfl) rfl ?_
   refine Tr.nil (Tr.thenN ?_)
   exact Tr.endX (Sub.cons rfl (Sub.dropN 3 (by kernel_rfl) rfl))
  ·intro hF8
   refine Tr.gskip rfl rfl hF8 rfl ?_
   refine Tr.gskip rfl rfl hF8 rfl ?_
   refine Tr.q (QS.pickF rfl hF8 rfl) rfl ?_
   refine Tr.nil (Tr.thenN ?_)
   exact Tr.endX (Sub.cons rfl (Sub.dropN 3 (by kernel_rfl) rfl))
  refine Tr.q (QS.move rfl) rfl ?_
  apply Tr.andP
  ·exact (rfl : _ = (3, 38, 41))
  ·exact rfl
  ·intro hT9; have hT9' := hT9
   try simp only [bs] at hT9'
   refine Tr.gq rfl rfl hT9 (QS.move rfl) rfl ?_
   refine Tr.gq rfl rfl hT9 (QS.neq8 (n := 46) rfl rfl) rfl ?_
   refine Tr.q (QS.pickT rfl hT9 rfl) rfl ?_
   refine Tr.nil (Tr.thenN ?_)
   exact Tr.endX (Sub.cons rfl (Sub.dropN 3 (by kernel_rfl) rfl))
  ·intro hF9
   refine Tr.gskip rfl rfl hF9 rfl ?_
   refine Tr.gskip rfl rfl hF9 rfl ?_
   refine Tr.q (QS.pickF rfl hF9 rfl) rfl ?_
   refine Tr.nil (Tr.thenN ?_)
   exact Tr.endX (Sub.cons rfl (Sub.dropN 3 (by kernel_rfl) rfl))
  refine Tr.nil (Tr.thenN ?_)
  refine Tr.cond rfl (fun h10 => ?_) (fun h10 => ?_)
  ·try simp only [bs] at h10
   refine Tr.seq (Tr.region ?_)
   refine Tr.q (QS.assign rfl) rfl ?_
   refine Tr.nil (Tr.thenN (Tr.ret ?_))
   refine Tr.inR ?_
   refine Tr.thenR (Tr.thenR ?_)
   refine Tr.inR ?_
   refine Tr.thenR ?_
   refine Tr.ret1 Try.results69 rfl (fun w' hw => ?_)
   have hbad : badB ((bts s).getD k default) = true := by simp only [badB, lowB, uppB, digB, bs]; assumption
   exact ⟨by rw [nameP_bad (by omega) hbad], hw.below hF1⟩
  ·try simp only [bs] at h10
   refine Tr.skip (Tr.inN (Tr.thenN (Tr.region ?_)))
   refine Tr.q (QS.addI rfl rfl (by omega)) rfl ?_
   refine Tr.q (QS.move rfl) rfl ?_
   refine Tr.nil (Tr.thenN ?_)
   have hbad : badB ((bts s).getD k default) = false := by simp only [badB, lowB, uppB, digB, bs]; assumption
   apply Tr.again (k + 1)
   ·exact rfl
   ·exact (.cons (by first | rfl | exact lookI rfl (by omega) | exact lookI rfl (by simp) | exact lookB rfl (by simp)) Front.nil)
   ·exact SubX.dropN 19 (by kernel_rfl) rfl
   ·exact (by repeat' constructor)
   ·exact ⟨by omega, by rw [any_take_succ (by omega), hk2, hbad]; rfl⟩
   ·exact (by (try dsimp only); omega)
 ·try simp only [bs] at h2
  refine Tr.exit ?_
  refine Tr.thenE (Tr.thenE (Tr.inHit (Tr.thenN (Tr.seq (Tr.region ?_)))))
  refine Tr.q (QS.move rfl) rfl ?_
  refine Tr.q (QS.lenStr rfl Try.underlying9) rfl ?_
  refine Tr.q (QS.geq rfl rfl) rfl ?_
  refine Tr.q (QS.move rfl) rfl ?_
  apply Tr.andP
  ·exact (rfl : _ = (4, 46, 50))
  ·exact rfl
  ·intro hT11; have hT11' := hT11
   try simp only [bs] at hT11'
   refine Tr.gq rfl rfl hT11 (QS.move rfl) rfl ?_
   refine Tr.gq rfl rfl hT11 (QS.lenStr rfl Try.underlying9) rfl ?_
   refine Tr.gq rfl rfl hT11 (QS.leq rfl rfl) rfl ?_
   refine Tr.q (QS.pickT rfl hT11 rfl) rfl ?_
   refine Tr.nil (Tr.thenN ?_)
   exact Tr.endX (Sub.cons rfl (Sub.dropN 4 (by kernel_rfl) rfl))
  ·intro hF11
   refine Tr.gskip rfl rfl hF11 rfl ?_
   refine Tr.gskip rfl rfl hF11 rfl ?_
   refine Tr.gskip rfl rfl hF11 rfl ?_
   refine Tr.q (QS.pickF rfl hF11 rfl) rfl ?_
   refine Tr.nil (Tr.thenN ?_)
   exact Tr.endX (Sub.cons rfl (Sub.dropN 4 (by kernel_rfl) rfl))
  refine Tr.q (QS.assign rfl) rfl ?_
  refine Tr.nil (Tr.thenN (Tr.ret ?_))
  refine Tr.ret1 Try.results69 rfl (fun w' hw => ?_)
  exact ⟨by rw [nameP_end (by omega) hk2], hw.below hF1⟩
set_option maxRecDepth 100000 in
set_option maxHeartbeats 2000000 in
theorem space_any (s : SecV) (w : World) (hs : s.data.length ≤ 200000) :
  Calls Try.prog 71 #[.agg (encSec.enc s).toArray] w (fun e w' => e = .returned (.agg (encRng.enc (spaceP s)).toArray) ∧ Ext w w') := by
 have hadr := s.addr.toNat_lt
 refine enter Try.func71 rfl Try.ntmps71 rfl ?_
 refine Tr.seq (Tr.region ?_)
 refine Tr.box rfl rfl rfl (fun b1 => ?_)
 refine Tr.alloc Try.zeroValue107 rfl rfl (fun b2 => ?_)
 refine Tr.nil (Tr.thenN (Tr.seq (Tr.region ?_)))
 refine Tr.q (QS.fieldAddr (off := 1) (ft := 39) rfl Try.underlying63 rfl rfl Try.sizeOf39 (by decide)) rfl ?_
 refine Tr.q (QS.lV rfl Try.isAgg39) rfl ?_
 refine Tr.q (QS.cvt32toU rfl Try.underlying39 Try.underlying104) rfl ?_
 refine Tr.q (QS.fieldAddr (off := 2) (ft := 61) rfl Try.underlying63 rfl rfl Try.sizeOf61 (by decide)) rfl ?_
 refine Tr.q (QS.lV rfl Try.isAgg61) rfl ?_
 refine Tr.q (QS.lenNil rfl Try.underlying61) rfl ?_
 refine Tr.q (QS.cvtIn rfl Try.underlying3 Try.underlying104 (IntWalk.u64_in _ (by omega))) rfl ?_
 refine Tr.q (QS.addU rfl rfl (by omega)) rfl ?_
 refine Tr.q (QS.assign rfl) rfl ?_
 refine Tr.nil (Tr.thenN (Tr.seq (Tr.region ?_)))
 refine Tr.q (QS.fieldAddr (off := 1) (ft := 39) rfl Try.underlying63 rfl rfl Try.sizeOf39 (by decide)) rfl ?_
 refine Tr.q (QS.lV rfl Try.isAgg39) rfl ?_
 refine Tr.q (QS.move rfl) rfl ?_
 refine Tr.q (QS.min2 rfl rfl) rfl ?_
 refine Tr.q (QS.cvtTo32 rfl Try.underlying104 Try.underlying39) rfl ?_
 refine Tr.q (QS.build (vs := [(0, _), (1, _)]) rfl rfl (HLF.built107_0_1 _ _)) rfl ?_
 refine Tr.storeW rfl rfl Try.sizeOf107 (by repeat constructor) (by rfl) (by rfl) (by first | exact List.all_eq_true.1 rfl | exact Enc.one _ _ | exact Enc.one encRng _) rfl ?_
 refine Tr.nil (Tr.thenN (Tr.ret ?_))
 refine Tr.retC1 Try.results71 rfl (by repeat constructor) Try.isAgg107 Try.sizeOf107 (by rfl) (fun w' hw => ?_)
 exact ⟨rfl, hw.below (Bg.le.refl _)⟩
set_option maxRecDepth 100000 in
set_option maxHeartbeats 2000000 in
theorem stack_any (w : World) :
  Calls Try.prog 72 #[] w (fun e w' => e = .returned (.agg (encRng.enc stackP).toArray) ∧ Ext w w') := by
 refine enter Try.func72 rfl Try.ntmps72 rfl ?_
 refine Tr.seq (Tr.region ?_)
 refine Tr.alloc Try.zeroValue107 rfl rfl (fun b1 => ?_)
 refine Tr.nil (Tr.thenN (Tr.seq (Tr.region ?_)))
 refine Tr.q (QS.build (vs := [(0, _), (1, _)]) rfl rfl (HLF.built107_0_1 _ _)) rfl ?_
 refine Tr.storeW rfl rfl Try.sizeOf107 (by repeat constructor) (by rfl) (by rfl) (by first | exact List.all_eq_true.1 rfl | exact Enc.one _ _ | exact Enc.one encRng _) rfl ?_
 refine Tr.nil (Tr.thenN (Tr.ret ?_))
 refine Tr.retC1 Try.results72 rfl (by repeat constructor) Try.isAgg107 Try.sizeOf107 (by rfl) (fun w' hw => ?_)
 exact ⟨rfl, hw.below (Bg.le.refl _)⟩
set_option maxRecDepth 100000 in
set_option maxHeartbeats 2000000 in
theorem meet_any (a b : Rng) (w : World) :
  Calls Try.prog 70 #[.agg (encRng.enc a).toArray, .agg (encRng.enc b).toArray] w (fun e w' => e = .returned (.bool (meetP a b)) ∧ Ext w w') := by
 refine enter Try.func70 rfl Try.ntmps70 rfl ?_
 refine Tr.seq (Tr.region ?_)
 refine Tr.box rfl rfl rfl (fun b1 => ?_)
 refine Tr.box rfl rfl rfl (fun b2 => ?_)
 refine Tr.q (QS.assign rfl) rfl ?_
 refine Tr.nil (Tr.thenN (Tr.seq (Tr.region ?_)))
 refine Tr.q (QS.fieldAddr (off := 0) (ft := 39) rfl Try.underlying107 rfl rfl Try.sizeOf39 (by decide)) rfl ?_
 refine Tr.q (QS.lV rfl Try.isAgg39) rfl ?_
 refine Tr.q (QS.fieldAddr (off := 0) (ft := 39) rfl Try.underlying107 rfl rfl Try.sizeOf39 (by decide)) rfl ?_
 refine Tr.q (QS.lV rfl Try.isAgg39) rfl ?_
 refine Tr.q (QS.max32 rfl rfl) rfl ?_
 refine Tr.q (QS.fieldAddr (off := 1) (ft := 39) rfl Try.underlying107 rfl rfl Try.sizeOf39 (by decide)) rfl ?_
 refine Tr.q (QS.lV rfl Try.isAgg39) rfl ?_
 refine Tr.q (QS.fieldAddr (off := 1) (ft := 39) rfl Try.underlying107 rfl rfl Try.sizeOf39 (by decide)) rfl ?_
 refine Tr.q (QS.lV rfl Try.isAgg39) rfl ?_
 refine Tr.q (QS.min32 rfl rfl) rfl ?_
 refine Tr.q (QS.lss32 rfl rfl) rfl ?_
 refine Tr.q (QS.assign rfl) rfl ?_
 refine Tr.nil (Tr.thenN (Tr.ret ?_))
 refine Tr.ret1 Try.results70 rfl (fun w' hw => ?_)
 exact ⟨rfl, hw.below (Bg.le.refl _)⟩
set_option maxRecDepth 100000 in
set_option maxHeartbeats 2000000 in
theorem find1_any (s : SecV) (a : UInt32) (b : Nat) (w : World) (hc : Cell (hp w) b 0 (.int .u32 a.toNat)) (hs : s.data.length ≤ 200000) :
  Calls Try.prog 93 #[.agg (encSec.enc s).toArray, .pointer (some ⟨b, 0, none⟩)] w (fun e w' => e = .returned (.bool (inS a s)) ∧ Ext w w') := by
 have hc' : Cell (Bg.of w).blk b 0 (.int .u32 a.toNat) := hc
 refine enter Try.func93 rfl Try.ntmps93 rfl ?_
 refine Tr.seq (Tr.region ?_)
 refine Tr.box rfl rfl rfl (fun b1 => ?_)
 refine Tr.q (QS.assign rfl) rfl ?_
 refine Tr.nil (Tr.thenN (Tr.seq (Tr.region ?_)))
 refine Tr.q (QS.lW rfl Try.isAgg63 Try.sizeOf63) rfl ?_
 refine Tr.q (QS.call rfl Try.call71 (fun w hw => space_any s w hs)) rfl ?_
 refine Tr.alloc Try.zeroValue107 rfl rfl (fun b2 => ?_)
 refine Tr.storeW rfl rfl Try.sizeOf107 (by repeat constructor) (by rfl) (by rfl) (by first | exact List.all_eq_true.1 rfl | exact Enc.one _ _ | exact Enc.one encRng _) rfl ?_
 refine Tr.nil (Tr.thenN (Tr.seq (Tr.region ?_)))
 refine Tr.q (QS.fieldAddr (off := 0) (ft := 39) rfl Try.underlying107 rfl rfl Try.sizeOf39 (by decide)) rfl ?_
 refine Tr.q (QS.lV rfl Try.isAgg39) rfl ?_
 refine Tr.q (QS.loadC rfl (by assumption) Try.isAgg39) rfl ?_
 refine Tr.q (QS.leq32 rfl rfl) rfl ?_
 refine Tr.q (QS.move rfl) rfl ?_
 apply Tr.andP
 ·exact (rfl : _ = (5, 11, 16))
 ·exact rfl
 ·intro hT3; have hT3' := hT3
  try simp only [bs] at hT3'
  refine Tr.gq rfl rfl hT3 (QS.loadC rfl (by assumption) Try.isAgg39) rfl ?_
  refine Tr.gq rfl rfl hT3 (QS.fieldAddr (off := 1) (ft := 39) rfl Try.underlying107 rfl rfl Try.sizeOf39 (by decide)) rfl ?_
  refine Tr.gq rfl rfl hT3 (QS.lV rfl Try.isAgg39) rfl ?_
  refine Tr.gq rfl rfl hT3 (QS.lss32 rfl rfl) rfl ?_
  refine Tr.q (QS.pickT rfl hT3 rfl) rfl ?_
  refine Tr.nil (Tr.thenN ?_)
  exact Tr.endX (Sub.cons rfl (Sub.dropN 5 (by kernel_rfl) rfl))
 ·intro hF3
  refine Tr.gskip rfl rfl hF3 rfl ?_
  refine Tr.gskip rfl rfl hF3 rfl ?_
  refine Tr.gskip rfl rfl hF3 rfl ?_
  refine Tr.gskip rfl rfl hF3 rfl ?_
  refine Tr.q (QS.pickF rfl hF3 rfl) rfl ?_
  refine Tr.nil (Tr.thenN ?_)
  exact Tr.endX (Sub.cons rfl (Sub.dropN 5 (by kernel_rfl) rfl))
 refine Tr.q (QS.assign rfl) rfl ?_
 refine Tr.nil (Tr.thenN (Tr.ret ?_))
 refine Tr.ret1 Try.results93 rfl (fun w' hw => ?_)
 exact ⟨rfl, hw.below (Bg.le.refl _)⟩
set_option maxRecDepth 100000 in
set_option maxHeartbeats 2000000 in
theorem check1_any (x s : SecV) (b : Nat) (w : World) (hc : CellsIn (hp w) b (encSec.enc s)) :
  Calls Try.prog 68 #[.agg (encSec.enc x).toArray, .pointer (some ⟨b, 0, none⟩)] w (fun e w' => e = .returned (.bool (decide (x.name = s.name))) ∧ Ext w w') := by
 have hc' : CellsIn (Bg.of w).blk b (encSec.enc s) := hc
 refine enter Try.func68 rfl Try.ntmps68 rfl ?_
 refine Tr.seq (Tr.region ?_)
 refine Tr.box rfl rfl rfl (fun b1 => ?_)
 refine Tr.q (QS.assign rfl) rfl ?_
 refine Tr.nil (Tr.thenN (Tr.seq (Tr.region ?_)))
 refine Tr.q (QS.fieldAddr (off := 0) (ft := 9) rfl Try.underlying63 rfl rfl Try.sizeOf9 (by decide)) rfl ?_
 refine Tr.q (QS.lV rfl Try.isAgg9) rfl ?_
 refine Tr.q (QS.fieldAddr (off := 0) (ft := 9) rfl Try.underlying63 rfl rfl Try.sizeOf9 (by decide)) rfl ?_
 refine Tr.q (QS.loadCF rfl (by assumption) Try.isAgg9 (by rfl)) rfl ?_
 refine Tr.q (QS.str_eql rfl rfl) rfl ?_
 refine Tr.q (QS.assign rfl) rfl ?_
 refine Tr.nil (Tr.thenN (Tr.ret ?_))
 refine Tr.ret1 Try.results68 rfl (fun w' hw => ?_)
 exact ⟨rfl, hw.below (Bg.le.refl _)⟩
set_option maxRecDepth 100000 in
set_option maxHeartbeats 2000000 in
theorem check2_any (x s : SecV) (b : Nat) (w : World) (hc : CellsIn (hp w) b (encSec.enc s)) (hx : x.data.length ≤ 200000) (hs : s.data.length ≤ 200000) :
  Calls Try.prog 73 #[.agg (encSec.enc x).toArray, .pointer (some ⟨b, 0, none⟩)] w (fun e w' => e = .returned (.bool (meetP (spaceP x) (spaceP s))) ∧ Ext w w') := by
 have hc' : CellsIn (Bg.of w).blk b (encSec.enc s) := hc
 refine enter Try.func73 rfl Try.ntmps73 rfl ?_
 refine Tr.seq (Tr.region ?_)
 refine Tr.box rfl rfl rfl (fun b1 => ?_)
 refine Tr.q (QS.assign rfl) rfl ?_
 refine Tr.nil (Tr.thenN (Tr.seq ?_))
 refine Tr.regionQ HLF.mixed (by kernel_rfl) ?_
 refine TrQ.q (QS.lW rfl Try.isAgg63 Try.sizeOf63) rfl ?_
 refine TrQ.q (QS.call rfl Try.call71 (fun w hw => space_any x w hx)) rfl ?_
 refine TrQ.q (QS.loadCA rfl (by assumption) Try.isAgg63 Try.sizeOf63 (by rfl)) rfl ?_
 refine TrQ.q (QS.call rfl Try.call71 (fun w hw => space_any s w hs)) rfl ?_
 refine TrQ.q (QS.call rfl Try.call70 (fun w hw => meet_any (spaceP x) (spaceP s) w)) rfl ?_
 refine TrQ.q (QS.assign rfl) rfl ?_
 refine TrQ.nil ?_
 refine Tr.thenN (Tr.ret ?_)
 refine Tr.ret1 Try.results73 rfl (fun w' hw => ?_)
 exact ⟨rfl, hw.below (Bg.le.refl _)⟩
set_option maxRecDepth 100000 in
set_option maxHeartbeats 2000000 in
theorem indexFunc_sec (l : List SecV) (V : Value) (g : FuncId) (cb : List Value) (w : World) (hV : Sl (hp w) encSec l V) (eg : ∀ args w, (callFunc g args).run Try.prog w = .ok (.enter g args) w) (p : SecV → Bool) (hp : ∀ x, x ∈ l → ∀ w', Ext w w' → Calls Try.prog g ([Value.agg (encSec.enc x).toArray] ++ cb).toArray w' fun e w'' => e = .returned (.bool (p x)) ∧ Ext w' w'') :
  Calls Try.prog 92 #[V, .func (.func g) #[] cb.toArray] w (fun e w' => e = .returned (.int .i64 (idxP p 0 l)) ∧ Ext w w') := by
 have hV' : Sl (Bg.of w).blk encSec l V := hV
 have hlen := hV.len_le
 refine enter Try.func92 rfl Try.ntmps92 rfl ?_
 refine Tr.seq (Tr.region ?_)
 refine Tr.q (QS.assign rfl) rfl ?_
 refine Tr.nil (Tr.thenN (Tr.seq (Tr.seq (Tr.region ?_))))
 refine Tr.q (QS.move rfl) rfl ?_
 refine Tr.q (QS.len rfl (by assumption) Try.underlying22) rfl ?_
 refine Tr.q (QS.move rfl) rfl ?_
 refine Tr.nil (Tr.thenN (Tr.block ?_))
 refine Tr.loop (ι := Nat) (fun k => k ≤ l.length ∧ idxP p k (l.drop k) = idxP p 0 l) (fun _ => _) (fun k => []) (fun k => [(8, .int .i64 (k : Nat))]) (fun k => l.length - k) 0 ⟨Nat.zero_le _, rfl⟩ (.cons (by first | rfl | exact lookI rfl (by omega) | exact lookI rfl (by simp) | exact lookB rfl (by simp)) Front.nil) (by repeat' constructor) rfl (fun k hi m hm => ?_)
 replace hi : k ≤ l.length ∧ idxP p k (l.drop k) = idxP p 0 l := hi
 replace hm : m = l.length - k := hm
 change Tr _ _ [] ([(8, .int .i64 (k : Nat))] ++ _) _
 obtain ⟨hk1, hk2⟩ := hi
 refine Tr.seq (Tr.region ?_)
 refine Tr.q (QS.lss rfl rfl) rfl ?_
 refine Tr.nil (Tr.thenN (Tr.seq ?_))
 refine Tr.cond rfl (fun h1 => ?_) (fun h1 => ?_)
 ·try simp only [bs] at h1
  refine Tr.skip (Tr.thenN (Tr.seq (Tr.block (Tr.seq (Tr.region ?_)))))
  refine Tr.q (QS.move rfl) rfl ?_
  refine Tr.q (QS.assign rfl) rfl ?_
  refine Tr.nil (Tr.thenN (Tr.seq (Tr.region ?_)))
  refine Tr.q (QS.move rfl) rfl ?_
  refine Tr.q (QS.move rfl) rfl ?_
  refine Tr.q (QS.move rfl) rfl ?_
  refine Tr.q (QS.idxN rfl rfl (by assumption) Try.underlying22 Try.sizeOf63 (by rfl) (by omega)) rfl ?_
  refine Tr.q (QS.elA rfl (by assumption) Try.isAgg63 Try.sizeOf63 (by rfl) (by omega)) rfl ?_
  refine Tr.q (QS.callV rfl rfl eg (fun w hw => hp _ (mem_getD (by omega)) w (hw.below (Bg.le.refl _)))) rfl ?_
  refine Tr.nil (Tr.thenN ?_)
  refine Tr.cond rfl (fun h2 => ?_) (fun h2 => ?_)
  ·try simp only [bs] at h2
   refine Tr.seq (Tr.region ?_)
   refine Tr.q (QS.move rfl) rfl ?_
   refine Tr.q (QS.assign rfl) rfl ?_
   refine Tr.nil (Tr.thenN (Tr.ret ?_))
   refine Tr.inR ?_
   refine Tr.thenR (Tr.thenR ?_)
   refine Tr.inR ?_
   refine Tr.thenR ?_
   refine Tr.ret1 Try.results92 rfl (fun w' hw => ?_)
   exact ⟨by rw [← hk2, drop_cons (k := k) (by omega), idxP, if_pos (by assumption)], hw.below (Bg.le.refl _)⟩
  ·try simp only [bs] at h2
   refine Tr.skip (Tr.inN (Tr.thenN (Tr.region ?_)))
   refine Tr.q (QS.addI rfl rfl (by omega)) rfl ?_
   refine Tr.q (QS.move rfl) rfl ?_
   refine Tr.nil (Tr.thenN ?_)
   apply Tr.again (k + 1)
   ·exact rfl
   ·exact (.cons (by first | rfl | exact lookI rfl (by omega) | exact lookI rfl (by simp) | exact lookB rfl (by simp)) Front.nil)
   ·exact SubX.dropN 12 (by kernel_rfl) rfl
   ·exact (by repeat' constructor)
   ·exact ⟨by omega, by rw [← hk2, drop_cons (k := k) (by omega), idxP, if_neg (by simp_all)]⟩
   ·exact (by (try dsimp only); omega)
 ·try simp only [bs] at h1
  refine Tr.exit ?_
  refine Tr.thenE (Tr.thenE (Tr.inHit (Tr.thenN (Tr.seq (Tr.region ?_)))))
  refine Tr.q (QS.assign rfl) rfl ?_
  refine Tr.nil (Tr.thenN (Tr.ret ?_))
  refine Tr.ret1 Try.results92 rfl (fun w' hw => ?_)
  exact ⟨by rw [← hk2, List.drop_of_length_le (by omega)]; rfl, hw.below (Bg.le.refl _)⟩
set_option maxRecDepth 100000 in
set_option maxHeartbeats 2000000 in
theorem containsFunc_sec (l : List SecV) (V : Value) (g : FuncId) (cb : List Value) (w : World) (hV : Sl (hp w) encSec l V) (eg : ∀ args w, (callFunc g args).run Try.prog w = .ok (.enter g args) w) (p : SecV → Bool) (hp : ∀ x, x ∈ l → ∀ w', Ext w w' → Calls Try.prog g ([Value.agg (encSec.enc x).toArray] ++ cb).toArray w' fun e w'' => e = .returned (.bool (p x)) ∧ Ext w' w'') :
  Calls Try.prog 67 #[V, .func (.func g) #[] cb.toArray] w (fun e w' => e = .returned (.bool (l.any p)) ∧ Ext w w') := by
 refine enter Try.func67 rfl Try.ntmps67 rfl ?_
 refine Tr.seq (Tr.region ?_)
 refine Tr.q (QS.assign rfl) rfl ?_
 refine Tr.nil (Tr.thenN (Tr.seq (Tr.region ?_)))
 refine Tr.q (QS.move rfl) rfl ?_
 refine Tr.q (QS.move rfl) rfl ?_
 refine Tr.q (QS.call rfl Try.call92 (fun w hw => indexFunc_sec l V g cb w (hw.slF hV) eg p (fun x hx w'' h => hp x hx w'' ((hw.below (Bg.le.refl _)).trans h)))) rfl ?_
 refine Tr.q (QS.geq rfl rfl) rfl ?_
 refine Tr.q (QS.assign rfl) rfl ?_
 refine Tr.nil (Tr.thenN (Tr.ret ?_))
 refine Tr.ret1 Try.results67 rfl (fun w' hw => ?_)
 exact ⟨by rw [idxP_any], hw.below (Bg.le.refl _)⟩
set_option maxRecDepth 100000 in
set_option maxHeartbeats 2000000 in
theorem find_any (l : List SecV) (V : Value) (a : UInt32) (w : World) (hV : Sl (hp w) encSec l V) (hB : SecB l) :
  Calls Try.prog 74 #[V, .int .u32 a.toNat] w (fun e w' => e = .returned (.int .i64 (findP l a)) ∧ Ext w w') := by
 have hV' : Sl (Bg.of w).blk encSec l V := hV
 have hlen := hB.1
 refine enter Try.func74 rfl Try.ntmps74 rfl ?_
 refine Tr.seq (Tr.region ?_)
 refine Tr.box rfl rfl rfl (fun b1 => ?_)
 refine Tr.q (QS.assign rfl) rfl ?_
 refine Tr.nil (Tr.thenN (Tr.seq (Tr.region ?_)))
 refine Tr.q (QS.move rfl) rfl ?_
 refine Tr.q (QS.makeFunc rfl rfl) rfl ?_
 refine Tr.q (QS.call rfl Try.call92 (fun w hw => indexFunc_sec l V _ _ w (hw.slF hV) Try.call93 (inS a) (fun x hx w'' h => find1_any x a _ w'' (cellE.cell (hw.ent _ (.head _)) h rfl) (hB.2 x hx)))) rfl ?_
 refine Tr.q (QS.assign rfl) rfl ?_
 refine Tr.nil (Tr.thenN (Tr.ret ?_))
 refine Tr.ret1 Try.results74 rfl (fun w' hw => ?_)
 exact ⟨rfl, hw.below (Bg.le.refl _)⟩
set_option maxRecDepth 100000 in
set_option maxHeartbeats 2000000 in
theorem check_sec (l : List SecV) (V : Value) (w : World) (hV : Sl (hp w) encSec l V) (hB : SecB l) (hN : ∀ s ∈ l, s.name.size ≤ 9223372036854775807) :
  Calls Try.prog 40 #[V] w (fun e w' => e = .returned (.int .i64 (checkS l)) ∧ Ext w w') := by
 have hV' : Sl (Bg.of w).blk encSec l V := hV
 have hlen := hB.1
 refine enter Try.func40 rfl Try.ntmps40 rfl ?_
 refine Tr.seq (Tr.region ?_)
 refine Tr.q (QS.assign rfl) rfl ?_
 refine Tr.nil (Tr.thenN (Tr.seq (Tr.seq (Tr.region ?_))))
 refine Tr.q (QS.move rfl) rfl ?_
 refine Tr.q (QS.len rfl (by assumption) Try.underlying22) rfl ?_
 refine Tr.q (QS.gtr rfl rfl) rfl ?_
 refine Tr.nil (Tr.thenN ?_)
 refine Tr.cond rfl (fun h1 => ?_) (fun h1 => ?_)
 ·try simp only [bs] at h1
  refine Tr.seq (Tr.region ?_)
  refine Tr.q (QS.assign rfl) rfl ?_
  refine Tr.nil (Tr.thenN (Tr.ret (Tr.thenR ?_)))
  refine Tr.ret1 Try.results40 rfl (fun w' hw => ?_)
  exact ⟨by rw [check_0 (by assumption)], hw.below (Bg.le.refl _)⟩
 ·try simp only [bs] at h1
  refine Tr.skip (Tr.thenN (Tr.seq (Tr.seq (Tr.region ?_))))
  refine Tr.q (QS.move rfl) rfl ?_
  refine Tr.q (QS.len rfl (by assumption) Try.underlying22) rfl ?_
  refine Tr.q (QS.move rfl) rfl ?_
  refine Tr.nil (Tr.thenN (Tr.block ?_))
  refine Tr.loop (ι := Nat) (fun k => k ≤ l.length ∧ firstP (oneP l) k (l.length - k) = firstP (oneP l) 0 l.length) (fun _ => _) (fun k => []) (fun k => [(13, .int .i64 (k : Nat))]) (fun k => l.length - k) 0 ⟨Nat.zero_le _, rfl⟩ (.cons (by first | rfl | exact lookI rfl (by omega) | exact lookI rfl (by simp) | exact lookB rfl (by simp)) Front.nil) (by repeat' constructor) rfl (fun k hi m hm => ?_)
  replace hi : k ≤ l.length ∧ firstP (oneP l) k (l.length - k) = firstP (oneP l) 0 l.length := hi
  replace hm : m = l.length - k := hm
  change Tr _ _ [] ([(13, .int .i64 (k : Nat))] ++ _) _
  obtain ⟨hk1, hk2⟩ := hi
  have hadr := (l.getD k default).addr.toNat_lt
  have hdk : k < l.length → (l.getD k default).data.length ≤ 200000 := fun q => hB.at q
  refine Tr.seq (Tr.region ?_)
  refine Tr.q (QS.lss rfl rfl) rfl ?_
  refine Tr.nil (Tr.thenN (Tr.seq ?_))
  refine Tr.cond rfl (fun h2 => ?_) (fun h2 => ?_)
  ·try simp only [bs] at h2
   refine Tr.skip (Tr.thenN (Tr.seq (Tr.block (Tr.seq (Tr.region ?_)))))
   refine Tr.q (QS.move rfl) rfl ?_
   refine Tr.q (QS.idxN rfl rfl (by assumption) Try.underlying22 Try.sizeOf63 (by rfl) (by omega)) rfl ?_
   refine Tr.q (QS.elA rfl (by assumption) Try.isAgg63 Try.sizeOf63 (by rfl) (by omega)) rfl ?_
   refine Tr.alloc Try.zeroValue63 rfl rfl (fun b3 => ?_)
   refine Tr.q (QS.assign rfl) rfl ?_
   refine Tr.storeW rfl rfl Try.sizeOf63 (by repeat constructor) (by rfl) (by rfl) (by first | exact List.all_eq_true.1 rfl | exact Enc.one _ _ | exact Enc.one encSec _) rfl ?_
   refine Tr.nil (Tr.thenN (Tr.seq (Tr.region ?_)))
   refine Tr.q (QS.move rfl) rfl ?_
   refine Tr.q (QS.move rfl) rfl ?_
   refine Tr.q (QS.slice (lv := none) (hv := some (_, _)) rfl (by assumption) rfl rfl Try.underlying22 Try.sizeOf63 (by rfl) (by simp only [loOf, hiOf] <;> first | omega | assumption | (simp only [NatCast.natCast, Int.ofNat_eq_natCast]; omega)) (by simp only [loOf, hiOf] <;> first | omega | assumption | (simp only [NatCast.natCast, Int.ofNat_eq_natCast]; omega)) (by simp only [loOf, hiOf] <;> first | omega | assumption | (simp only [NatCast.natCast, Int.ofNat_eq_natCast]; omega))) rfl ?_
   refine Tr.q (QS.makeFunc rfl rfl) rfl ?_
   refine Tr.q (QS.call rfl Try.call67 (fun w hw => containsFunc_sec (l.take k) _ _ _ w (Sl.resl (l := 0) (h := k) (hw.slF hV) (by omega) (by omega)) Try.call68 (fun x => decide (x.name = (l.getD k default).name)) (fun x hx w'' h => check1_any x (l.getD k default) _ w'' (cellE.cellsIn (hw.ent _ (.head _)) h)))) rfl ?_
   refine Tr.q (QS.assign rfl) rfl ?_
   refine Tr.nil (Tr.thenN (Tr.block (Tr.seq (Tr.region ?_))))
   refine Tr.q (QS.fieldAddr (off := 2) (ft := 61) rfl Try.underlying63 rfl rfl Try.sizeOf61 (by decide)) rfl ?_
   refine Tr.q (QS.lV rfl Try.isAgg61) rfl ?_
   refine Tr.q (QS.lenNil rfl Try.underlying61) rfl ?_
   refine Tr.q (QS.gtr rfl rfl) rfl ?_
   refine Tr.q (QS.assign rfl) rfl ?_
   refine Tr.nil (Tr.thenN ?_)
   refine Tr.cond rfl (fun h4 => ?_) (fun h4 => ?_)
   ·try simp only [bs] at h4
    refine Tr.seq (Tr.region ?_)
    refine Tr.q (QS.assign rfl) rfl ?_
    refine Tr.nil (Tr.thenN (Tr.ret ?_))
    refine Tr.inR ?_
    refine Tr.inR ?_
    refine Tr.thenR (Tr.thenR ?_)
    refine Tr.inR ?_
    refine Tr.thenR ?_
    refine Tr.ret1 Try.results40 rfl (fun w' hw => ?_)
    exact ⟨by rw [check_1 (v := 6) (by assumption) (by omega) hk2 (by unfold oneP; dsimp only; rw [if_pos (by assumption)]) (by decide)], hw.below (Bg.le.refl _)⟩
   ·try simp only [bs] at h4
    refine Tr.seq (Tr.region ?_)
    refine Tr.q (QS.fieldAddr (off := 0) (ft := 9) rfl Try.underlying63 rfl rfl Try.sizeOf9 (by decide)) rfl ?_
    refine Tr.q (QS.lV rfl Try.isAgg9) rfl ?_
    refine Tr.q (QS.call rfl Try.call69 (fun w hw => name_any (l.getD k default).name w (hN _ (mem_getD (by omega))))) rfl ?_
    refine Tr.q (QS.not rfl) rfl ?_
    refine Tr.q (QS.assign rfl) rfl ?_
    refine Tr.nil (Tr.thenN ?_)
    refine Tr.cond rfl (fun h5 => ?_) (fun h5 => ?_)
    ·try simp only [bs] at h5
     refine Tr.seq (Tr.region ?_)
     refine Tr.q (QS.assign rfl) rfl ?_
     refine Tr.nil (Tr.thenN (Tr.ret ?_))
     refine Tr.inR ?_
     refine Tr.inR ?_
     refine Tr.thenR (Tr.thenR ?_)
     refine Tr.inR ?_
     refine Tr.thenR ?_
     refine Tr.ret1 Try.results40 rfl (fun w' hw => ?_)
     exact ⟨by rw [check_1 (v := 3) (by assumption) (by omega) hk2 (by unfold oneP; dsimp only; rw [if_neg (by assumption), if_pos (by assumption)]) (by decide)], hw.below (Bg.le.refl _)⟩
    ·try simp only [bs] at h5
     refine Tr.seq (Tr.region ?_)
     refine Tr.q (QS.move rfl) rfl ?_
     refine Tr.q (QS.assign rfl) rfl ?_
     refine Tr.nil (Tr.thenN ?_)
     refine Tr.cond rfl (fun h6 => ?_) (fun h6 => ?_)
     ·try simp only [bs] at h6
      refine Tr.seq (Tr.region ?_)
      refine Tr.q (QS.assign rfl) rfl ?_
      refine Tr.nil (Tr.thenN (Tr.ret ?_))
      refine Tr.inR ?_
      refine Tr.inR ?_
      refine Tr.thenR (Tr.thenR ?_)
      refine Tr.inR ?_
      refine Tr.thenR ?_
      refine Tr.ret1 Try.results40 rfl (fun w' hw => ?_)
      exact ⟨by rw [check_1 (v := 8) (by assumption) (by omega) hk2 (by unfold oneP; dsimp only; rw [if_neg (by assumption), if_neg (by simp_all), if_pos (by assumption)]) (by decide)], hw.below (Bg.le.refl _)⟩
     ·try simp only [bs] at h6
      refine Tr.seq (Tr.region ?_)
      refine Tr.q (QS.fieldAddr (off := 1) (ft := 39) rfl Try.underlying63 rfl rfl Try.sizeOf39 (by decide)) rfl ?_
      refine Tr.q (QS.lV rfl Try.isAgg39) rfl ?_
      refine Tr.q (QS.cvt32toU rfl Try.underlying39 Try.underlying104) rfl ?_
      refine Tr.q (QS.fieldAddr (off := 2) (ft := 61) rfl Try.underlying63 rfl rfl Try.sizeOf61 (by decide)) rfl ?_
      refine Tr.q (QS.lV rfl Try.isAgg61) rfl ?_
      refine Tr.q (QS.lenNil rfl Try.underlying61) rfl ?_
      refine Tr.q (QS.cvtIn rfl Try.underlying3 Try.underlying104 (IntWalk.u64_in _ (by omega))) rfl ?_
      refine Tr.q (QS.addU rfl rfl (by omega)) rfl ?_
      refine Tr.q (QS.gtr rfl rfl) rfl ?_
      refine Tr.q (QS.move rfl) rfl ?_
      apply Tr.orP
      ·exact (rfl : _ = (5, 45, 50))
      ·exact rfl
      ·intro hF7; have hF7' := hF7
       try simp only [bs] at hF7'
       refine Tr.gq rfl rfl hF7 (QS.lW rfl Try.isAgg63 Try.sizeOf63) rfl ?_
       refine Tr.gq rfl rfl hF7 (QS.call rfl Try.call71 (fun w hw => space_any (l.getD k default) w (hB.at (by omega)))) rfl ?_
       refine Tr.gq rfl rfl hF7 (QS.call rfl Try.call72 (fun w hw => stack_any w)) rfl ?_
       refine Tr.gq rfl rfl hF7 (QS.call rfl Try.call70 (fun w hw => meet_any (spaceP (l.getD k default)) stackP w)) rfl ?_
       refine Tr.q (QS.pickF rfl hF7 rfl) rfl ?_
       refine Tr.nil (Tr.thenN ?_)
       exact Tr.endX (Sub.cons rfl (Sub.dropN 5 (by kernel_rfl) rfl))
      ·intro hT7
       refine Tr.gskip rfl rfl hT7 rfl ?_
       refine Tr.gskip rfl rfl hT7 rfl ?_
       refine Tr.gskip rfl rfl hT7 rfl ?_
       refine Tr.gskip rfl rfl hT7 rfl ?_
       refine Tr.q (QS.pickT rfl hT7 rfl) rfl ?_
       refine Tr.nil (Tr.thenN ?_)
       exact Tr.endX (Sub.cons rfl (Sub.dropN 5 (by kernel_rfl) rfl))
      refine Tr.q (QS.assign rfl) rfl ?_
      refine Tr.nil (Tr.thenN ?_)
      refine Tr.cond rfl (fun h8 => ?_) (fun h8 => ?_)
      ·try simp only [bs] at h8
       refine Tr.seq (Tr.region ?_)
       refine Tr.q (QS.assign rfl) rfl ?_
       refine Tr.nil (Tr.thenN (Tr.ret ?_))
       refine Tr.inR ?_
       refine Tr.inR ?_
       refine Tr.thenR (Tr.thenR ?_)
       refine Tr.inR ?_
       refine Tr.thenR ?_
       refine Tr.ret1 Try.results40 rfl (fun w' hw => ?_)
       exact ⟨by rw [check_1 (v := 7) (by assumption) (by omega) hk2 (by unfold oneP; dsimp only; rw [if_neg (by assumption), if_neg (by simp_all), if_neg (by simp_all), if_pos (by assumption)]) (by decide)], hw.below (Bg.le.refl _)⟩
      ·try simp only [bs] at h8
       refine Tr.skip (Tr.inN (Tr.inN (Tr.thenN (Tr.region ?_))))
       refine Tr.q (QS.addI rfl rfl (by omega)) rfl ?_
       refine Tr.q (QS.move rfl) rfl ?_
       refine Tr.nil (Tr.thenN ?_)
       have hz : oneP l k = 0 := by unfold oneP; dsimp only; rw [if_neg (by assumption), if_neg (by simp_all), if_neg (by simp_all), if_neg (by simp_all)]
       apply Tr.again (k + 1)
       ·exact rfl
       ·exact (.cons (by first | rfl | exact lookI rfl (by omega) | exact lookI rfl (by simp) | exact lookB rfl (by simp)) Front.nil)
       ·exact SubX.dropN 39 (by kernel_rfl) rfl
       ·exact (by repeat' constructor)
       ·exact ⟨by omega, by rw [firstP_next (by omega) hz, hk2]⟩
       ·exact (by (try dsimp only); omega)
  ·try simp only [bs] at h2
   refine Tr.exit ?_
   refine Tr.thenE (Tr.thenE (Tr.inHit (Tr.thenN (Tr.seq (Tr.seq (Tr.region ?_))))))
   refine Tr.q (QS.move rfl) rfl ?_
   refine Tr.q (QS.len rfl (by assumption) Try.underlying22) rfl ?_
   refine Tr.q (QS.move rfl) rfl ?_
   refine Tr.nil (Tr.thenN (Tr.block ?_))
   have hz1 : firstP (oneP l) 0 l.length = 0 := by rw [← hk2]; exact firstP_zero (by omega)
   clear hk2 hk1 hm hadr hdk
   refine Tr.loop (ι := Nat) (fun k => k ≤ l.length ∧ firstP (fun i => if overP l i = true then 10 else 0) k (l.length - k) = firstP (fun i => if overP l i = true then 10 else 0) 0 l.length) (fun _ => _) (fun k => []) (fun k => [(54, .int .i64 (k : Nat))]) (fun k => l.length - k) 0 ⟨Nat.zero_le _, rfl⟩ (.cons (by first | rfl | exact lookI rfl (by omega) | exact lookI rfl (by simp) | exact lookB rfl (by simp)) Front.nil) (by repeat' constructor) rfl (fun k hi m hm => ?_)
   replace hi : k ≤ l.length ∧ firstP (fun i => if overP l i = true then 10 else 0) k (l.length - k) = firstP (fun i => if overP l i = true then 10 else 0) 0 l.length := hi
   replace hm : m = l.length - k := hm
   change Tr _ _ [] ([(54, .int .i64 (k : Nat))] ++ _) _
   obtain ⟨hk1, hk2⟩ := hi
   refine Tr.seq (Tr.region ?_)
   refine Tr.q (QS.lss rfl rfl) rfl ?_
   refine Tr.nil (Tr.thenN (Tr.seq ?_))
   refine Tr.cond rfl (fun h9 => ?_) (fun h9 => ?_)
   ·try simp only [bs] at h9
    refine Tr.skip (Tr.thenN (Tr.seq (Tr.block (Tr.seq (Tr.region ?_)))))
    refine Tr.q (QS.move rfl) rfl ?_
    refine Tr.q (QS.idxN rfl rfl (by assumption) Try.underlying22 Try.sizeOf63 (by rfl) (by omega)) rfl ?_
    refine Tr.q (QS.elA rfl (by assumption) Try.isAgg63 Try.sizeOf63 (by rfl) (by omega)) rfl ?_
    refine Tr.alloc Try.zeroValue63 rfl rfl (fun b10 => ?_)
    refine Tr.q (QS.assign rfl) rfl ?_
    refine Tr.storeW rfl rfl Try.sizeOf63 (by repeat constructor) (by rfl) (by rfl) (by first | exact List.all_eq_true.1 rfl | exact Enc.one _ _ | exact Enc.one encSec _) rfl ?_
    refine Tr.nil (Tr.thenN (Tr.seq (Tr.region ?_)))
    refine Tr.q (QS.move rfl) rfl ?_
    refine Tr.q (QS.move rfl) rfl ?_
    refine Tr.q (QS.slice (lv := none) (hv := some (_, _)) rfl (by assumption) rfl rfl Try.underlying22 Try.sizeOf63 (by rfl) (by simp only [loOf, hiOf] <;> first | omega | assumption | (simp only [NatCast.natCast, Int.ofNat_eq_natCast]; omega)) (by simp only [loOf, hiOf] <;> first | omega | assumption | (simp only [NatCast.natCast, Int.ofNat_eq_natCast]; omega)) (by simp only [loOf, hiOf] <;> first | omega | assumption | (simp only [NatCast.natCast, Int.ofNat_eq_natCast]; omega))) rfl ?_
    refine Tr.q (QS.makeFunc rfl rfl) rfl ?_
    refine Tr.q (QS.call rfl Try.call67 (fun w hw => containsFunc_sec (l.take k) _ _ _ w (Sl.resl (l := 0) (h := k) (hw.slF hV) (by omega) (by omega)) Try.call73 (fun x => meetP (spaceP x) (spaceP (l.getD k default))) (fun x hx w'' h => check2_any x (l.getD k default) _ w'' (cellE.cellsIn (hw.ent _ (.head _)) h) (hB.2 x (List.mem_of_mem_take hx)) (hB.at (by omega))))) rfl ?_
    refine Tr.nil (Tr.thenN ?_)
    refine Tr.cond rfl (fun h11 => ?_) (fun h11 => ?_)
    ·try simp only [bs] at h11
     refine Tr.seq (Tr.region ?_)
     refine Tr.q (QS.assign rfl) rfl ?_
     refine Tr.nil (Tr.thenN (Tr.ret ?_))
     refine Tr.inR ?_
     refine Tr.thenR (Tr.thenR ?_)
     refine Tr.inR ?_
     refine Tr.thenR ?_
     refine Tr.ret1 Try.results40 rfl (fun w' hw => ?_)
     exact ⟨by rw [check_2 (k := k) (by assumption) hz1 (by omega) hk2 (by assumption)], hw.below (Bg.le.refl _)⟩
    ·try simp only [bs] at h11
     refine Tr.skip (Tr.inN (Tr.thenN (Tr.region ?_)))
     refine Tr.q (QS.addI rfl rfl (by omega)) rfl ?_
     refine Tr.q (QS.move rfl) rfl ?_
     refine Tr.nil (Tr.thenN ?_)
     have hz : overP l k = false := by assumption
     apply Tr.again (k + 1)
     ·exact rfl
     ·exact (.cons (by first | rfl | exact lookI rfl (by omega) | exact lookI rfl (by simp) | exact lookB rfl (by simp)) Front.nil)
     ·exact SubX.dropN 14 (by kernel_rfl) rfl
     ·exact (by repeat' constructor)
     ·exact ⟨by omega, by rw [firstP_next (by omega) (by rw [if_neg (by rw [hz]; decide)]), hk2]⟩
     ·exact (by (try dsimp only); omega)
   ·try simp only [bs] at h9
    refine Tr.exit ?_
    refine Tr.thenE (Tr.thenE (Tr.inHit (Tr.thenN (Tr.seq (Tr.region ?_)))))
    refine Tr.q (QS.assign rfl) rfl ?_
    refine Tr.nil (Tr.thenN (Tr.ret ?_))
    refine Tr.ret1 Try.results40 rfl (fun w' hw => ?_)
    exact ⟨by rw [check_3 (by assumption) hz1 (by rw [← hk2]; exact firstP_zero (by omega))], hw.below (Bg.le.refl _)⟩
end Go.Proofs.Ytnmaokalpbnmaaa
namespace Go.HL
open Go Go.Sort
open Go.Proofs (ltOf)
def Has (l : List Rng) (n : Nat) : Prop := ∃ r ∈ l, r.lo.toNat ≤ n ∧ n < r.hi.toNat
theorem Has.nil {n : Nat} : ¬ Has [] n := by rintro ⟨r, h, _⟩; simp at h
theorem Has.perm {a b : List Rng} (h : a.Perm b) {n : Nat} : Has a n ↔ Has b n :=
  ⟨fun ⟨r, m, q⟩ => ⟨r, h.mem_iff.1 m, q⟩, fun ⟨r, m, q⟩ => ⟨r, h.mem_iff.2 m, q⟩⟩
end Go.HL
namespace Go.HL
open Go Go.Sort
def SA (l : List UInt32) : Prop := l.Pairwise fun x y => x.toNat < y.toNat
theorem SA.nodup {l : List UInt32} (h : SA l) : l.Nodup := h.imp fun {a b} q e => by rw [e] at q; omega
theorem SA.lt {l : List UInt32} (h : SA l) {i j : Nat} (hij : i < j) (hj : j < l.length) : (l.getD i default).toNat < (l.getD j default).toNat := by
  have := List.pairwise_iff_getElem.1 h i j (by omega) hj hij
  simpa [List.getD_eq_getElem?_getD, hj, show i < l.length by omega] using this
/-- No cut lies inside a gap. -/
theorem SA.out {l : List UInt32} (h : SA l) {i : Nat} (hi : i + 1 < l.length) {x : UInt32} (hx : x ∈ l) : x.toNat ≤ (l.getD i default).toNat ∨ (l.getD (i + 1) default).toNat ≤ x.toNat := by
  obtain ⟨j, hj, rfl⟩ := List.mem_iff_getElem.1 hx
  have e : l[j] = l.getD j default := by simp [List.getD_eq_getElem?_getD, hj]
  rw [e]
  rcases Nat.lt_trichotomy j i with h1 | rfl | h1
  · exact .inl (Nat.le_of_lt (h.lt h1 (by omega)))
  · exact .inl (Nat.le_refl _)
  · rcases Nat.lt_or_ge (i + 1) j with h2 | h2
    · exact .inr (Nat.le_of_lt (h.lt h2 hj))
    · rw [show j = i + 1 by omega]; exact .inr (Nat.le_refl _)
end Go.HL
namespace Go.HL
open Go Go.RowKit
section
variable {P : Program} {ops : Array Oper} {Q : Exit → Act → World → Prop} {N : Nat} {F : Bg} {L : List Ent} {M : Fr} {ty : TypeId} {pos : String} {after : Array Edge} {rest : List Oper} {d : Nat} {op : Op}
theorem flatMap_setEl {α : Type} (E : Enc α) (x' : α) : ∀ (l : List α) (i : Nat), i < l.length → (l.set i x').flatMap E.enc = splice (l.flatMap E.enc) (i * E.k) (E.enc x')
  | [], i, h => by simp at h
  | y :: l, 0, _ => by
    simp only [List.set_cons_zero, List.flatMap_cons, Nat.zero_mul, splice, List.take_zero, List.nil_append, Nat.zero_add, E.len]
    rw [List.drop_append_of_le_length (by rw [E.len]; exact Nat.le_refl _), List.drop_of_length_le (by rw [E.len]; exact Nat.le_refl _)]; rfl
  | y :: l, i + 1, h => by
    have ih := flatMap_setEl E x' l i (by simpa using h)
    simp only [List.set_cons_succ, List.flatMap_cons, ih, splice]
    have hl : (E.enc y).length = E.k := E.len y
    rw [show (i + 1) * E.k = (E.enc y).length + i * E.k by rw [hl, Nat.add_mul]; omega, List.take_length_add_append, show (E.enc y).length + i * E.k + (E.enc x').length = (E.enc y).length + (i * E.k + (E.enc x').length) by omega, List.drop_length_add_append]
    simp only [List.append_assoc]
theorem take_splice {cs v : List Value} {o n : Nat} (h : o + v.length ≤ n) (hn : n ≤ cs.length) : (splice cs o v).take n = splice (cs.take n) o v := by
  apply List.ext_getElem?
  intro q
  simp only [splice, List.getElem?_take, List.getElem?_append, List.length_take, List.getElem?_drop, List.length_append]
  grind
/-- A store of a whole element of one's own slice. -/
theorem Tr.storeEl {α : Type} {E : Enc α} {l : List α} (x' : α) {x y : Operand} {t T : TypeId} {V v : Value} {i : Nat} {L' : List Ent} {dst : Option Tmp} (hx : opv M x = some (.pointer (some ⟨bk V, ofs V + i * E.k, none⟩))) (hy : opv M y = some v)
    (hz : ∀ w, (sizeOf t).run P w = .ok E.k w) (hput : Put (rowE V T E l) (rowE V T E (l.set i x')) L L') (hi : i < l.length) (hc : v.cells.toList = E.enc x') (hdst : dst = none)
    (K : Tr N F L' M (wpList P ops Q rest)) : Tr N F L M (wpList P ops Q (⟨dst, .store t x y, ty, pos, after, none⟩ :: rest)) := by
  subst hdst
  intro a w ha hw
  refine wpList_plain rfl fun K' hK => ?_
  have hr : RowOK V T E l (V.ownBlock.bind (w.heap[·]?)) := hw.ent _ hput.mem
  rcases hr with ⟨_, rfl⟩ | ⟨gb, cap, cur, rfl, ho, hc1, hc2, hc3, hc4⟩
  · simp at hi
  · have ho' : w.heap[gb]? = some (.cells cur T (0, 0)) := ho
    have hlt : i * E.k + E.k ≤ l.length * E.k := by rw [← Nat.succ_mul]; exact Nat.mul_le_mul_right _ hi
    have hle : l.length * E.k ≤ cur.size := Nat.le_trans (Nat.mul_le_mul_right _ hc1) hc3
    have hs : v.cells.size = E.k := by have := congrArg List.length hc; rw [E.len] at this; simpa using this
    have hst := run_storeV (P := P) (w := w) (b := gb) (o := i * E.k) (cs := cur.toList) (T := T) (t := t) (v := v) (by simpa using ho') hz hs (by simp; omega) (by rw [hc]; intro u hu; exact E.one _ _ hu)
    simp only [bk, ofs, Nat.zero_add] at hx
    unfold Oper.wp
    simp only [execOp, ha.eval hx, ha.eval hy, Sem.run_bind, hst, Result.andThen_ok, Sem.run_pure, Oper.upon, Act.put]
    refine hK _ _ (K _ _ ha ?_)
    have e1 : rowE (.slice (some ⟨gb, 0, none⟩) l.length cap) T E l = ⟨some gb, RowOK (.slice (some ⟨gb, 0, none⟩) l.length cap) T E l⟩ := rfl
    have e2 : rowE (.slice (some ⟨gb, 0, none⟩) l.length cap) T E (l.set i x') = ⟨some gb, RowOK (.slice (some ⟨gb, 0, none⟩) l.length cap) T E (l.set i x')⟩ := rfl
    rw [e1, e2] at hput
    refine HpOK.set hw hput rfl rfl rfl (by simp) (Nat.le_refl _) (fun k _ hkb => setRow_other w gb k _ hkb) ?_
    rw [setRow_heap w gb _ _ T (0, 0) ho']
    have hll : (l.set i x').length = l.length := by simp
    refine .inr ⟨gb, cap, _, by rw [hll], rfl, by rw [hll]; exact hc1, hc2, ?_, ?_⟩
    · rw [List.size_toArray]
      simp only [splice, hc, List.length_append, List.length_take, List.length_drop, Array.length_toList, E.len]
      omega
    · rw [hll, flatMap_setEl E x' l i hi, ← hc4, hc, List.toList_toArray]
      refine take_splice ?_ ?_
      · rw [E.len]; omega
      · rw [Array.length_toList]; exact hle
theorem Tr.rowEq {α : Type} {E : Enc α} {l l' : List α} {V : Value} {T : TypeId} {L0 : List Ent} {X : Act → World → Prop} (h : l = l') (K : Tr N F (rowE V T E l' :: L0) M X) : Tr N F (rowE V T E l :: L0) M X := h ▸ K
/-- An operation of the region's beginning that looks at the frame alone. -/
theorem TrQ.pureQ {X : Act → Prop} {v : Value} (h : ∀ F, QS P N F [] M ⟨some d, op, ty, pos, after, none⟩ v) (hp : plainOp op = true) (hd : Nat.ble (d + 1) N = true) (k : TrQ N ((d, v) :: M) (wpPure P ops X rest)) :
    TrQ N M (wpPure P ops X (⟨some d, op, ty, pos, after, none⟩ :: rest)) := fun a ha =>
  ⟨v, .inl ⟨by simp [Region.wanted], fun w => QS.run (h (Bg.of w)) hp ha (HpOK.start w)⟩, k _ (ha.put (Nat.le_of_ble_eq_true hd))⟩
end
end Go.HL
namespace Go.HL
open Go Go.Sort
def ltW (x y : UInt32) : Bool := decide (x < y)
theorem swo_ltW : SWO ltW where
  irrefl x := by simp [ltW]
  trans x y z h1 h2 := by simp only [ltW, decide_eq_true_eq, UInt32.lt_iff_toNat_lt] at *; omega
  ntrans x y z h1 h2 := by simp only [ltW, decide_eq_false_iff_not, UInt32.lt_iff_toNat_lt] at *; omega
theorem bang {d : Array UInt32} {i : Nat} : d.toList.getD i default = d[i]! := by
  rw [List.getD_eq_getElem?_getD, Array.getElem?_toList, Array.getElem!_eq_getD, Array.getD_eq_getD_getElem?]
theorem set_swp {d : Array UInt32} {i j : Nat} : (d.toList.set i d[j]!).set j d[i]! = (swp d i j).toList := by
  simp [swp, Array.toList_setIfInBounds]
theorem swpW {d : Array UInt32} {i j : Nat} : (swp d i j).size = d.size := by simp [swp]
theorem insOuter_ge {a b i : Nat} {d : Array UInt32} (h : b ≤ i) : insOuter ltW a b i d = d := by rw [insOuter, if_neg (by omega)]
theorem insOuter_lt {a b i : Nat} {d : Array UInt32} (h : i < b) : insOuter ltW a b i d = insOuter ltW a b (i + 1) (insInner ltW a i d) := by rw [insOuter, if_pos h]
theorem own_insInner_go {a j : Nat} {d : Array UInt32} (h : a < j) (h2 : ltW d[j]! d[j - 1]! = true) : insInner ltW a j d = insInner ltW a (j - 1) (swp d j (j - 1)) := by
  cases j with
  | zero => omega
  | succ j => rw [insInner, if_pos (by simp only [Bool.and_eq_true, decide_eq_true_eq]; exact ⟨h, h2⟩)]; rfl
theorem own_insInner_stop {a j : Nat} {d : Array UInt32} (h : j ≤ a ∨ ltW d[j]! d[j - 1]! = false) : insInner ltW a j d = d := by
  cases j with
  | zero => rfl
  | succ j =>
    rw [insInner, if_neg]
    simp only [Bool.and_eq_true, decide_eq_true_eq]
    rintro ⟨h1, h2⟩
    rcases h with h | h
    · omega
    · rw [show j + 1 - 1 = j from rfl, h2] at h; cases h
theorem sift_end {hi f r : Nat} {d : Array UInt32} (h : hi ≤ 2 * r + 1) : siftDown ltW hi f r d = d := by rw [siftDown, dif_pos h]
theorem sift_r {hi f r : Nat} {d : Array UInt32} (h : 2 * r + 2 < hi) (hl : ltW d[f + (2 * r + 1)]! d[f + (2 * r + 1) + 1]! = true) :
    siftDown ltW hi f r d = if ltW d[f + r]! d[f + (2 * r + 2)]! = true then siftDown ltW hi f (2 * r + 2) (swp d (f + r) (f + (2 * r + 2))) else d := by
  rw [siftDown, dif_neg (by omega), if_pos (by simp only [Bool.and_eq_true, decide_eq_true_eq]; exact ⟨by omega, hl⟩), dif_pos h]
  cases ltW d[f + r]! d[f + (2 * r + 2)]! <;> rfl
theorem sift_l {hi f r : Nat} {d : Array UInt32} (h : 2 * r + 1 < hi) (hl : hi ≤ 2 * r + 2 ∨ ltW d[f + (2 * r + 1)]! d[f + (2 * r + 1) + 1]! = false) :
    siftDown ltW hi f r d = if ltW d[f + r]! d[f + (2 * r + 1)]! = true then siftDown ltW hi f (2 * r + 1) (swp d (f + r) (f + (2 * r + 1))) else d := by
  rw [siftDown, dif_neg (by omega), if_neg]
  · cases ltW d[f + r]! d[f + (2 * r + 1)]! <;> rfl
  · simp only [Bool.and_eq_true, decide_eq_true_eq]
    rintro ⟨q1, q2⟩
    rcases hl with hl | hl
    · omega
    · rw [q2] at hl; cases hl
theorem sift_size {hi f : Nat} : ∀ (n r : Nat) (d : Array UInt32), hi - r ≤ n → (siftDown ltW hi f r d).size = d.size
  | n, r, d, h => by
    by_cases c1 : hi ≤ 2 * r + 1
    · rw [sift_end c1]
    · cases n with
      | zero => omega
      | succ n =>
        by_cases c2 : 2 * r + 2 < hi ∧ ltW d[f + (2 * r + 1)]! d[f + (2 * r + 1) + 1]! = true
        · rw [sift_r c2.1 c2.2]
          split
          · rw [sift_size n (2 * r + 2) _ (by omega), swpW]
          · rfl
        · rw [sift_l (by omega) (by
            by_cases q : 2 * r + 2 < hi
            · refine .inr ?_
              cases e : ltW d[f + (2 * r + 1)]! d[f + (2 * r + 1) + 1]!
              · rfl
              · exact absurd ⟨q, e⟩ c2
            · exact .inl (by omega))]
          split
          · rw [sift_size n (2 * r + 1) _ (by omega), swpW]
          · rfl
theorem siftW {hi f r : Nat} {d : Array UInt32} : (siftDown ltW hi f r d).size = d.size := sift_size _ _ _ (Nat.le_refl _)
theorem rev_stop {i j : Nat} {d : Array UInt32} (h : ¬ i < j) : reverseLoop i j d = d := by rw [reverseLoop, if_neg h]
theorem rev_go {i j : Nat} {d : Array UInt32} (h : i < j) : reverseLoop i j d = reverseLoop (i + 1) (j - 1) (swp d i j) := by rw [reverseLoop, if_pos h]
theorem up_go {p : UInt32 → Bool} {d : Array UInt32} {i j : Nat} (h : i ≤ j) (hp : p d[i]! = true) : scanUp p d j i = scanUp p d j (i + 1) := by
  rw [scanUp, if_pos (by simp only [Bool.and_eq_true, decide_eq_true_eq]; exact ⟨h, hp⟩)]
theorem up_stop {p : UInt32 → Bool} {d : Array UInt32} {i j : Nat} (h : j < i ∨ p d[i]! = false) : scanUp p d j i = i := by
  rw [scanUp, if_neg]
  simp only [Bool.and_eq_true, decide_eq_true_eq]
  rintro ⟨q1, q2⟩
  rcases h with h | h
  · omega
  · rw [q2] at h; cases h
theorem down_go {p : UInt32 → Bool} {d : Array UInt32} {i j : Nat} (h : i ≤ j) (h0 : 0 < j) (hp : p d[j]! = true) : scanDown p d i j = scanDown p d i (j - 1) := by
  obtain ⟨k, rfl⟩ : ∃ k, j = k + 1 := ⟨j - 1, by omega⟩
  rw [scanDown, if_pos (by simp only [Bool.and_eq_true, decide_eq_true_eq]; exact ⟨h, hp⟩)]; rfl
theorem down_stop {p : UInt32 → Bool} {d : Array UInt32} {i j : Nat} (h : j < i ∨ p d[j]! = false) : scanDown p d i j = j := by
  cases j with
  | zero => rfl
  | succ k =>
    rw [scanDown, if_neg]
    simp only [Bool.and_eq_true, decide_eq_true_eq]
    rintro ⟨q1, q2⟩
    rcases h with h | h
    · omega
    · rw [q2] at h; cases h
theorem part_end {a i j I J : Nat} {d : Array UInt32} (hI : scanUp (fun x => ltW x d[a]!) d j i = I) (hJ : scanDown (fun x => !ltW x d[a]!) d I j = J) (h : J < I) : partLoop ltW a i j d = (J, d) := by
  rw [partLoop]; simp only [hI, hJ]; rw [if_pos h]
theorem own_part_go {a i j I J : Nat} {d : Array UInt32} (hI : scanUp (fun x => ltW x d[a]!) d j i = I) (hJ : scanDown (fun x => !ltW x d[a]!) d I j = J) (h : I < J) (h1 : i ≤ I) (h2 : J ≤ j) :
    partLoop ltW a i j d = partLoop ltW a (I + 1) (J - 1) (swp d I J) := by
  rw [partLoop]; simp only [hI, hJ]; rw [if_neg (by omega), dif_pos (by omega)]
theorem parteq_end {a i j I J : Nat} {d : Array UInt32} (hI : scanUp (fun x => !ltW d[a]! x) d j i = I) (hJ : scanDown (fun x => ltW d[a]! x) d I j = J) (h : J < I) : partEqLoop ltW a i j d = (I, d) := by
  rw [partEqLoop]; simp only [hI, hJ]; rw [if_pos h]
theorem parteq_go {a i j I J : Nat} {d : Array UInt32} (hI : scanUp (fun x => !ltW d[a]! x) d j i = I) (hJ : scanDown (fun x => ltW d[a]! x) d I j = J) (h : I < J) (h1 : i ≤ I) (h2 : J ≤ j) :
    partEqLoop ltW a i j d = partEqLoop ltW a (I + 1) (J - 1) (swp d I J) := by
  rw [partEqLoop]; simp only [hI, hJ]; rw [if_neg (by omega), dif_pos (by omega)]
theorem ss_go {b i : Nat} {d : Array UInt32} (h : i < b) (hl : ltW d[i]! d[i - 1]! = false) : scanSorted ltW d b i = scanSorted ltW d b (i + 1) := by
  rw [scanSorted, if_pos (by simp only [Bool.and_eq_true, decide_eq_true_eq, Bool.not_eq_true']; exact ⟨h, hl⟩)]
theorem ss_stop {b i : Nat} {d : Array UInt32} (h : b ≤ i ∨ ltW d[i]! d[i - 1]! = true) : scanSorted ltW d b i = i := by
  rw [scanSorted, if_neg]
  simp only [Bool.and_eq_true, decide_eq_true_eq, Bool.not_eq_true']
  rintro ⟨q1, q2⟩
  rcases h with h | h
  · omega
  · rw [q2] at h; cases h
theorem sd_go {j : Nat} {d : Array UInt32} (h : 0 < j) (hl : ltW d[j]! d[j - 1]! = true) : shiftDown ltW j d = shiftDown ltW (j - 1) (swp d j (j - 1)) := by
  obtain ⟨k, rfl⟩ : ∃ k, j = k + 1 := ⟨j - 1, by omega⟩
  rw [shiftDown, if_neg (by rw [show k + 1 - 1 = k from rfl] at hl; simp [hl])]; rfl
theorem sd_stop {j : Nat} {d : Array UInt32} (h : j = 0 ∨ ltW d[j]! d[j - 1]! = false) : shiftDown ltW j d = d := by
  cases j with
  | zero => rfl
  | succ k =>
    rcases h with h | h
    · omega
    · rw [shiftDown, if_pos (by rw [show k + 1 - 1 = k from rfl] at h; simp [h])]
theorem su_go {b j : Nat} {d : Array UInt32} (h : j < b) (hl : ltW d[j]! d[j - 1]! = true) : shiftUp ltW b j d = shiftUp ltW b (j + 1) (swp d j (j - 1)) := by
  rw [shiftUp, if_pos h, if_neg (by simp [hl])]
theorem su_stop {b j : Nat} {d : Array UInt32} (h : b ≤ j ∨ ltW d[j]! d[j - 1]! = false) : shiftUp ltW b j d = d := by
  rw [shiftUp]
  rcases h with h | h
  · rw [if_neg (by omega)]
  · split
    · rw [if_pos (by simp [h])]
    · rfl
theorem own_pi_end {a b k i x : Nat} {d : Array UInt32} (hX : scanSorted ltW d b i = x) (h : x = b) : partialIns ltW a b (k + 1) i d = (d, true) := by
  rw [partialIns]; simp only [hX]; rw [if_pos h]
theorem pi_few {a b k i x : Nat} {d : Array UInt32} (hX : scanSorted ltW d b i = x) (h : x ≠ b) (h2 : b - a < 50) : partialIns ltW a b (k + 1) i d = (d, false) := by
  rw [partialIns]; simp only [hX]; rw [if_neg h, if_pos h2]
theorem own_pi_go {a b k i x : Nat} {d d3 d4 : Array UInt32} (hX : scanSorted ltW d b i = x) (h : x ≠ b) (h2 : ¬ b - a < 50) (h3 : d3 = if x - a ≥ 2 then shiftDown ltW (x - 1) (swp d x (x - 1)) else swp d x (x - 1)) (h4 : d4 = if b - x ≥ 2 then shiftUp ltW b (x + 1) d3 else d3) :
    partialIns ltW a b (k + 1) i d = partialIns ltW a b k x d4 := by
  rw [partialIns]; simp only [hX]; rw [if_neg h, if_neg h2, ← h3, ← h4]
end Go.HL
