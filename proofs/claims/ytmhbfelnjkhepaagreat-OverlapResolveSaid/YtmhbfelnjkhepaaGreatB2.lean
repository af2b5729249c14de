/- Own rules and walks, part 2. -/
import Derived.Test.YtmhbfelnjkhepaaGreatB1
set_option linter.unusedSimpArgs false
set_option linter.unusedVariables false
set_option linter.unusedSectionVars false
namespace Go.Proofs.YtmhbfelnjkhepaaGreat
open Go Go.HL Go.RowKit
set_option maxRecDepth 100000 in
set_option maxHeartbeats 2000000 in
theorem register_any (r : Int) (w : World) :
    Calls Tryz.prog 79 #[.int .i64 r] w (fun e w' => e = .returned (.bool (regP r)) ∧ Ext w w') := by
  refine enter Tryz.func79 rfl Tryz.ntmps79 rfl ?_
  refine Tr.seq ?_
  refine Tr.region ?_
  refine Tr.q (QS.assign rfl) rfl ?_
  refine Tr.nil ?_
  refine Tr.thenN ?_
  refine Tr.seq ?_
  refine Tr.region ?_
  refine Tr.q (QS.move rfl) rfl ?_
  refine Tr.q (QS.geq rfl rfl) rfl ?_
  refine Tr.q (QS.move rfl) rfl ?_
  apply Tr.andP
  · exact (rfl : _ = (3, 5, 8))
  · exact rfl
  · intro hT1; have hT1' := hT1
    try simp only [bs] at hT1'
    refine Tr.gq rfl rfl hT1 (QS.move rfl) rfl ?_
    refine Tr.gq rfl rfl hT1 (QS.lss rfl rfl) rfl ?_
    refine Tr.q (QS.pickT rfl hT1 rfl) rfl ?_
    refine Tr.nil (Tr.thenN ?_)
    exact Tr.endX (Sub.cons rfl (Sub.dropN 3 (by kernel_rfl) rfl))
  · intro hF1
    refine Tr.gskip rfl rfl hF1 rfl ?_
    refine Tr.gskip rfl rfl hF1 rfl ?_
    refine Tr.q (QS.pickF rfl hF1 rfl) rfl ?_
    refine Tr.nil (Tr.thenN ?_)
    exact Tr.endX (Sub.cons rfl (Sub.dropN 3 (by kernel_rfl) rfl))
  refine Tr.q (QS.assign rfl) rfl ?_
  refine Tr.nil ?_
  refine Tr.thenN ?_
  refine Tr.ret ?_
  refine Tr.ret1 Tryz.results79 rfl (fun w' hw => ?_)
  exact ⟨rfl, hw.below (Bg.le.refl _)⟩
set_option maxRecDepth 100000 in
set_option maxHeartbeats 2000000 in
theorem narrow_any (n : UInt32) (w : World) :
    Calls Tryz.prog 81 #[.int .u32 n.toNat] w (fun e w' => e = .returned (.bool (narrowP n)) ∧ Ext w w') := by
  refine enter Tryz.func81 rfl Tryz.ntmps81 rfl ?_
  refine Tr.seq ?_
  refine Tr.region ?_
  refine Tr.q (QS.assign rfl) rfl ?_
  refine Tr.nil ?_
  refine Tr.thenN ?_
  refine Tr.seq ?_
  refine Tr.region ?_
  refine Tr.q (QS.move rfl) rfl ?_
  refine Tr.q (QS.leq32 (n := 127) rfl rfl) rfl ?_
  refine Tr.q (QS.move rfl) rfl ?_
  apply Tr.orP
  · exact (rfl : _ = (3, 5, 8))
  · exact rfl
  · intro hF1; have hF1' := hF1
    try simp only [bs] at hF1'
    refine Tr.gq rfl rfl hF1 (QS.move rfl) rfl ?_
    refine Tr.gq rfl rfl hF1 (QS.geq32 (n := 4294967168) rfl rfl) rfl ?_
    refine Tr.q (QS.pickF rfl hF1 rfl) rfl ?_
    refine Tr.nil (Tr.thenN ?_)
    exact Tr.endX (Sub.cons rfl (Sub.dropN 3 (by kernel_rfl) rfl))
  · intro hT1
    refine Tr.gskip rfl rfl hT1 rfl ?_
    refine Tr.gskip rfl rfl hT1 rfl ?_
    refine Tr.q (QS.pickT rfl hT1 rfl) rfl ?_
    refine Tr.nil (Tr.thenN ?_)
    exact Tr.endX (Sub.cons rfl (Sub.dropN 3 (by kernel_rfl) rfl))
  refine Tr.q (QS.assign rfl) rfl ?_
  refine Tr.nil ?_
  refine Tr.thenN ?_
  refine Tr.ret ?_
  refine Tr.ret1 Tryz.results81 rfl (fun w' hw => ?_)
  exact ⟨rfl, hw.below (Bg.le.refl _)⟩
set_option maxRecDepth 100000 in
set_option maxHeartbeats 2000000 in
theorem access_any (i : Ins) (w : World) :
    Calls Tryz.prog 103 #[.agg (encIns.enc i).toArray] w (fun e w' => e = .returned ((.tuple #[.int .u8 (accessP i).toNat, .int .i64 5, .bool (decide (accessP i ≠ 0))])) ∧ Ext w w') := by
  refine enter Tryz.func103 rfl Tryz.ntmps103 rfl ?_
  refine Tr.seq ?_
  refine Tr.region ?_
  refine Tr.box rfl rfl rfl (fun b1 => ?_)
  refine Tr.q (QS.assign rfl) rfl ?_
  refine Tr.q (QS.assign rfl) rfl ?_
  refine Tr.q (QS.assign rfl) rfl ?_
  refine Tr.nil ?_
  refine Tr.thenN ?_
  refine Tr.seq ?_
  refine Tr.region ?_
  refine Tr.q (QS.assign rfl) rfl ?_
  refine Tr.nil ?_
  refine Tr.thenN ?_
  refine Tr.seqJ (ι := UInt8) (fun c => c = accessP i) (fun _ => Bg.of w) (fun c => [cellE b1 (encIns.enc i) 35]) (fun c => [(5, .int .u8 c.toNat)]) ?_ (fun c hi => ?_)
  · skip
    refine Tr.seq ?_
    refine Tr.region ?_
    refine Tr.q (QS.fieldAddr (off := 2) (ft := 3) rfl Tryz.underlying35 rfl rfl Tryz.sizeOf3 (by decide)) rfl ?_
    refine Tr.q (QS.lV rfl Tryz.isAgg3) rfl ?_
    refine Tr.q (QS.fieldAddr (off := 4) (ft := 3) rfl Tryz.underlying35 rfl rfl Tryz.sizeOf3 (by decide)) rfl ?_
    refine Tr.q (QS.lV rfl Tryz.isAgg3) rfl ?_
    refine Tr.q (QS.build (vs := [(0, _), (1, _)]) rfl rfl (HLF.built137_0_1 _ _)) rfl ?_
    refine Tr.nil ?_
    refine Tr.thenN ?_
    refine Tr.block ?_
    refine Tr.seq ?_
    refine Tr.region ?_
    refine Tr.q (QS.build (vs := [(0, _), (1, _)]) rfl rfl (HLF.built137_0_1 _ _)) rfl ?_
    refine Tr.q (QS.eqlA2 rfl rfl Tryz.underlying137 Tryz.underlying3 Tryz.sizeOf3 Tryz.isAgg3 HLF.eqg137) rfl ?_
    refine Tr.q (QS.assign rfl) rfl ?_
    refine Tr.nil ?_
    refine Tr.thenN ?_
    refine Tr.cond rfl (fun h2 => ?_) (fun h2 => ?_)
    · try simp only [bs] at h2
      refine Tr.region ?_
      refine Tr.q (QS.assign rfl) rfl ?_
      refine Tr.nil ?_
      refine Tr.inN ?_
      refine Tr.thenN ?_
      apply Tr.joined (80 : UInt8)
      · exact rfl
      · exact (.cons (by first | rfl | exact lookI rfl (by omega) | exact lookI rfl (by simp) | exact lookB rfl (by simp)) Front.nil)
      · exact SubX.dropN 9 (by kernel_rfl) rfl
      · exact (by repeat' (first | exact Pick.nil _ | exact Del.here _ | apply Pick.cons | apply Del.there))
      · exact (by unfold accessP; repeat (first | rw [if_pos (by omega)] | rw [if_neg (by omega)]))
    · try simp only [bs] at h2
      refine Tr.seq ?_
      refine Tr.region ?_
      refine Tr.q (QS.build (vs := [(0, _), (1, _)]) rfl rfl (HLF.built137_0_1 _ _)) rfl ?_
      refine Tr.q (QS.eqlA2 rfl rfl Tryz.underlying137 Tryz.underlying3 Tryz.sizeOf3 Tryz.isAgg3 HLF.eqg137) rfl ?_
      refine Tr.q (QS.assign rfl) rfl ?_
      refine Tr.nil ?_
      refine Tr.thenN ?_
      refine Tr.cond rfl (fun h3 => ?_) (fun h3 => ?_)
      · try simp only [bs] at h3
        refine Tr.region ?_
        refine Tr.q (QS.assign rfl) rfl ?_
        refine Tr.nil ?_
        refine Tr.inN ?_
        refine Tr.thenN ?_
        apply Tr.joined (81 : UInt8)
        · exact rfl
        · exact (.cons (by first | rfl | exact lookI rfl (by omega) | exact lookI rfl (by simp) | exact lookB rfl (by simp)) Front.nil)
        · exact SubX.dropN 12 (by kernel_rfl) rfl
        · exact (by repeat' (first | exact Pick.nil _ | exact Del.here _ | apply Pick.cons | apply Del.there))
        · exact (by unfold accessP; repeat (first | rw [if_pos (by omega)] | rw [if_neg (by omega)]))
      · try simp only [bs] at h3
        refine Tr.seq ?_
        refine Tr.region ?_
        refine Tr.q (QS.build (vs := [(0, _), (1, _)]) rfl rfl (HLF.built137_0_1 _ _)) rfl ?_
        refine Tr.q (QS.eqlA2 rfl rfl Tryz.underlying137 Tryz.underlying3 Tryz.sizeOf3 Tryz.isAgg3 HLF.eqg137) rfl ?_
        refine Tr.q (QS.assign rfl) rfl ?_
        refine Tr.nil ?_
        refine Tr.thenN ?_
        refine Tr.cond rfl (fun h4 => ?_) (fun h4 => ?_)
        · try simp only [bs] at h4
          refine Tr.region ?_
          refine Tr.q (QS.assign rfl) rfl ?_
          refine Tr.nil ?_
          refine Tr.inN ?_
          refine Tr.thenN ?_
          apply Tr.joined (82 : UInt8)
          · exact rfl
          · exact (.cons (by first | rfl | exact lookI rfl (by omega) | exact lookI rfl (by simp) | exact lookB rfl (by simp)) Front.nil)
          · exact SubX.dropN 15 (by kernel_rfl) rfl
          · exact (by repeat' (first | exact Pick.nil _ | exact Del.here _ | apply Pick.cons | apply Del.there))
          · exact (by unfold accessP; repeat (first | rw [if_pos (by omega)] | rw [if_neg (by omega)]))
        · try simp only [bs] at h4
          refine Tr.seq ?_
          refine Tr.region ?_
          refine Tr.q (QS.build (vs := [(0, _), (1, _)]) rfl rfl (HLF.built137_0_1 _ _)) rfl ?_
          refine Tr.q (QS.eqlA2 rfl rfl Tryz.underlying137 Tryz.underlying3 Tryz.sizeOf3 Tryz.isAgg3 HLF.eqg137) rfl ?_
          refine Tr.q (QS.assign rfl) rfl ?_
          refine Tr.nil ?_
          refine Tr.thenN ?_
          refine Tr.cond rfl (fun h5 => ?_) (fun h5 => ?_)
          · try simp only [bs] at h5
            refine Tr.region ?_
            refine Tr.q (QS.assign rfl) rfl ?_
            refine Tr.nil ?_
            refine Tr.inN ?_
            refine Tr.thenN ?_
            apply Tr.joined (83 : UInt8)
            · exact rfl
            · exact (.cons (by first | rfl | exact lookI rfl (by omega) | exact lookI rfl (by simp) | exact lookB rfl (by simp)) Front.nil)
            · exact SubX.dropN 18 (by kernel_rfl) rfl
            · exact (by repeat' (first | exact Pick.nil _ | exact Del.here _ | apply Pick.cons | apply Del.there))
            · exact (by unfold accessP; repeat (first | rw [if_pos (by omega)] | rw [if_neg (by omega)]))
          · try simp only [bs] at h5
            refine Tr.seq ?_
            refine Tr.region ?_
            refine Tr.q (QS.build (vs := [(0, _), (1, _)]) rfl rfl (HLF.built137_0_1 _ _)) rfl ?_
            refine Tr.q (QS.eqlA2 rfl rfl Tryz.underlying137 Tryz.underlying3 Tryz.sizeOf3 Tryz.isAgg3 HLF.eqg137) rfl ?_
            refine Tr.q (QS.assign rfl) rfl ?_
            refine Tr.nil ?_
            refine Tr.thenN ?_
            refine Tr.cond rfl (fun h6 => ?_) (fun h6 => ?_)
            · try simp only [bs] at h6
              refine Tr.region ?_
              refine Tr.q (QS.assign rfl) rfl ?_
              refine Tr.nil ?_
              refine Tr.inN ?_
              refine Tr.thenN ?_
              apply Tr.joined (84 : UInt8)
              · exact rfl
              · exact (.cons (by first | rfl | exact lookI rfl (by omega) | exact lookI rfl (by simp) | exact lookB rfl (by simp)) Front.nil)
              · exact SubX.dropN 21 (by kernel_rfl) rfl
              · exact (by repeat' (first | exact Pick.nil _ | exact Del.here _ | apply Pick.cons | apply Del.there))
              · exact (by unfold accessP; repeat (first | rw [if_pos (by omega)] | rw [if_neg (by omega)]))
            · try simp only [bs] at h6
              refine Tr.seq ?_
              refine Tr.region ?_
              refine Tr.q (QS.build (vs := [(0, _), (1, _)]) rfl rfl (HLF.built137_0_1 _ _)) rfl ?_
              refine Tr.q (QS.eqlA2 rfl rfl Tryz.underlying137 Tryz.underlying3 Tryz.sizeOf3 Tryz.isAgg3 HLF.eqg137) rfl ?_
              refine Tr.q (QS.assign rfl) rfl ?_
              refine Tr.nil ?_
              refine Tr.thenN ?_
              refine Tr.cond rfl (fun h7 => ?_) (fun h7 => ?_)
              · try simp only [bs] at h7
                refine Tr.region ?_
                refine Tr.q (QS.assign rfl) rfl ?_
                refine Tr.nil ?_
                refine Tr.inN ?_
                refine Tr.thenN ?_
                apply Tr.joined (85 : UInt8)
                · exact rfl
                · exact (.cons (by first | rfl | exact lookI rfl (by omega) | exact lookI rfl (by simp) | exact lookB rfl (by simp)) Front.nil)
                · exact SubX.dropN 24 (by kernel_rfl) rfl
                · exact (by repeat' (first | exact Pick.nil _ | exact Del.here _ | apply Pick.cons | apply Del.there))
                · exact (by unfold accessP; repeat (first | rw [if_pos (by omega)] | rw [if_neg (by omega)]))
              · try simp only [bs] at h7
                refine Tr.seq ?_
                refine Tr.region ?_
                refine Tr.q (QS.build (vs := [(0, _), (1, _)]) rfl rfl (HLF.built137_0_1 _ _)) rfl ?_
                refine Tr.q (QS.eqlA2 rfl rfl Tryz.underlying137 Tryz.underlying3 Tryz.sizeOf3 Tryz.isAgg3 HLF.eqg137) rfl ?_
                refine Tr.q (QS.assign rfl) rfl ?_
                refine Tr.nil ?_
                refine Tr.thenN ?_
                refine Tr.cond rfl (fun h8 => ?_) (fun h8 => ?_)
                · try simp only [bs] at h8
                  refine Tr.region ?_
                  refine Tr.q (QS.assign rfl) rfl ?_
                  refine Tr.nil ?_
                  refine Tr.inN ?_
                  refine Tr.thenN ?_
                  apply Tr.joined (86 : UInt8)
                  · exact rfl
                  · exact (.cons (by first | rfl | exact lookI rfl (by omega) | exact lookI rfl (by simp) | exact lookB rfl (by simp)) Front.nil)
                  · exact SubX.dropN 27 (by kernel_rfl) rfl
                  · exact (by repeat' (first | exact Pick.nil _ | exact Del.here _ | apply Pick.cons | apply Del.there))
                  · exact (by unfold accessP; repeat (first | rw [if_pos (by omega)] | rw [if_neg (by omega)]))
                · try simp only [bs] at h8
                  refine Tr.seq ?_
                  refine Tr.region ?_
                  refine Tr.q (QS.build (vs := [(0, _), (1, _)]) rfl rfl (HLF.built137_0_1 _ _)) rfl ?_
                  refine Tr.q (QS.eqlA2 rfl rfl Tryz.underlying137 Tryz.underlying3 Tryz.sizeOf3 Tryz.isAgg3 HLF.eqg137) rfl ?_
                  refine Tr.q (QS.assign rfl) rfl ?_
                  refine Tr.nil ?_
                  refine Tr.thenN ?_
                  refine Tr.cond rfl (fun h9 => ?_) (fun h9 => ?_)
                  · try simp only [bs] at h9
                    refine Tr.region ?_
                    refine Tr.q (QS.assign rfl) rfl ?_
                    refine Tr.nil ?_
                    refine Tr.inN ?_
                    refine Tr.thenN ?_
                    apply Tr.joined (87 : UInt8)
                    · exact rfl
                    · exact (.cons (by first | rfl | exact lookI rfl (by omega) | exact lookI rfl (by simp) | exact lookB rfl (by simp)) Front.nil)
                    · exact SubX.dropN 30 (by kernel_rfl) rfl
                    · exact (by repeat' (first | exact Pick.nil _ | exact Del.here _ | apply Pick.cons | apply Del.there))
                    · exact (by unfold accessP; repeat (first | rw [if_pos (by omega)] | rw [if_neg (by omega)]))
                  · try simp only [bs] at h9
                    refine Tr.skip ?_
                    refine Tr.inN ?_
                    refine Tr.thenN ?_
                    apply Tr.joined (0 : UInt8)
                    · exact rfl
                    · exact (.cons (by first | rfl | exact lookI rfl (by omega) | exact lookI rfl (by simp) | exact lookB rfl (by simp)) Front.nil)
                    · exact SubX.dropN 29 (by kernel_rfl) rfl
                    · exact (by repeat' (first | exact Pick.nil _ | exact Del.here _ | apply Pick.cons | apply Del.there))
                    · exact (by unfold accessP; repeat (first | rw [if_pos (by omega)] | rw [if_neg (by omega)]))
  · skip
    replace hi : c = accessP i := hi
    change Tr _ _ [cellE b1 (encIns.enc i) 35] ([(5, .int .u8 c.toNat)] ++ _) _
    refine Tr.seq ?_
    refine Tr.region ?_
    refine Tr.q (QS.move rfl) rfl ?_
    refine Tr.q (QS.move rfl) rfl ?_
    refine Tr.q (QS.neq8 (n := 0) rfl rfl) rfl ?_
    refine Tr.q (QS.assign rfl) rfl ?_
    refine Tr.q (QS.assign rfl) rfl ?_
    refine Tr.q (QS.assign rfl) rfl ?_
    refine Tr.nil ?_
    refine Tr.thenN ?_
    refine Tr.ret ?_
    refine Tr.ret3 Tryz.results103 rfl rfl rfl (fun w' hw => ?_)
    exact ⟨by subst hi; rfl, hw.below (Bg.le.refl _)⟩
set_option maxRecDepth 100000 in
set_option maxHeartbeats 2000000 in
theorem conditional_any (i : Ins) (w : World) :
    Calls Tryz.prog 104 #[.agg (encIns.enc i).toArray] w (fun e w' => e = .returned ((.tuple #[.int .u8 (condP i).1.toNat, .int .i64 (condP i).2.1, .bool (condP i).2.2])) ∧ Ext w w') := by
  refine enter Tryz.func104 rfl Tryz.ntmps104 rfl ?_
  refine Tr.seq ?_
  refine Tr.region ?_
  refine Tr.box rfl rfl rfl (fun b1 => ?_)
  refine Tr.q (QS.assign rfl) rfl ?_
  refine Tr.q (QS.assign rfl) rfl ?_
  refine Tr.q (QS.assign rfl) rfl ?_
  refine Tr.nil ?_
  refine Tr.thenN ?_
  refine Tr.seq ?_
  refine Tr.seq ?_
  refine Tr.region ?_
  refine Tr.q (QS.fieldAddr (off := 5) (ft := 3) rfl Tryz.underlying35 rfl rfl Tryz.sizeOf3 (by decide)) rfl ?_
  refine Tr.q (QS.lV rfl Tryz.isAgg3) rfl ?_
  refine Tr.q (QS.lss rfl rfl) rfl ?_
  refine Tr.q (QS.move rfl) rfl ?_
  apply Tr.orP
  · exact (rfl : _ = (4, 8, 12))
  · exact rfl
  · intro hF2; have hF2' := hF2
    try simp only [bs] at hF2'
    refine Tr.gq rfl rfl hF2 (QS.fieldAddr (off := 5) (ft := 3) rfl Tryz.underlying35 rfl rfl Tryz.sizeOf3 (by decide)) rfl ?_
    refine Tr.gq rfl rfl hF2 (QS.lV rfl Tryz.isAgg3) rfl ?_
    refine Tr.gq rfl rfl hF2 (QS.gtr rfl rfl) rfl ?_
    refine Tr.q (QS.pickF rfl hF2 rfl) rfl ?_
    refine Tr.nil (Tr.thenN ?_)
    exact Tr.endX (Sub.cons rfl (Sub.dropN 4 (by kernel_rfl) rfl))
  · intro hT2
    refine Tr.gskip rfl rfl hT2 rfl ?_
    refine Tr.gskip rfl rfl hT2 rfl ?_
    refine Tr.gskip rfl rfl hT2 rfl ?_
    refine Tr.q (QS.pickT rfl hT2 rfl) rfl ?_
    refine Tr.nil (Tr.thenN ?_)
    exact Tr.endX (Sub.cons rfl (Sub.dropN 4 (by kernel_rfl) rfl))
  refine Tr.nil ?_
  refine Tr.thenN ?_
  refine Tr.cond rfl (fun h3 => ?_) (fun h3 => ?_)
  · try simp only [bs] at h3
    refine Tr.seq ?_
    refine Tr.region ?_
    refine Tr.q (QS.assign rfl) rfl ?_
    refine Tr.q (QS.assign rfl) rfl ?_
    refine Tr.q (QS.assign rfl) rfl ?_
    refine Tr.nil ?_
    refine Tr.thenN ?_
    refine Tr.ret ?_
    refine Tr.thenR ?_
    refine Tr.ret3 Tryz.results104 rfl rfl rfl (fun w' hw => ?_)
    exact ⟨by unfold condP; (repeat (first | rw [if_pos (by omega)] | rw [if_neg (by omega)])) <;> rfl, hw.below (Bg.le.refl _)⟩
  · try simp only [bs] at h3
    refine Tr.skip ?_
    refine Tr.thenN ?_
    refine Tr.seq ?_
    refine Tr.block ?_
    refine Tr.seq ?_
    refine Tr.region ?_
    refine Tr.q (QS.fieldAddr (off := 2) (ft := 3) rfl Tryz.underlying35 rfl rfl Tryz.sizeOf3 (by decide)) rfl ?_
    refine Tr.q (QS.lV rfl Tryz.isAgg3) rfl ?_
    refine Tr.q (QS.eql rfl rfl) rfl ?_
    refine Tr.q (QS.assign rfl) rfl ?_
    refine Tr.nil ?_
    refine Tr.thenN ?_
    refine Tr.cond rfl (fun h4 => ?_) (fun h4 => ?_)
    · try simp only [bs] at h4
      refine Tr.seq ?_
      refine Tr.region ?_
      refine Tr.q (QS.fieldAddr (off := 5) (ft := 3) rfl Tryz.underlying35 rfl rfl Tryz.sizeOf3 (by decide)) rfl ?_
      refine Tr.q (QS.lV rfl Tryz.isAgg3) rfl ?_
      refine Tr.q (QS.cvtTo8 rfl Tryz.underlying3 Tryz.underlying5) rfl ?_
      refine Tr.q (QS.add8 (m := 144) rfl rfl) rfl ?_
      refine Tr.q (QS.assign rfl) rfl ?_
      refine Tr.q (QS.assign rfl) rfl ?_
      refine Tr.q (QS.assign rfl) rfl ?_
      refine Tr.nil ?_
      refine Tr.thenN ?_
      refine Tr.ret ?_
      refine Tr.inR ?_
      refine Tr.thenR ?_
      refine Tr.ret3 Tryz.results104 rfl rfl rfl (fun w' hw => ?_)
      exact ⟨by unfold condP; (repeat (first | rw [if_pos (by omega)] | rw [if_neg (by omega)])) <;> rfl, hw.below (Bg.le.refl _)⟩
    · try simp only [bs] at h4
      refine Tr.seq ?_
      refine Tr.region ?_
      refine Tr.q (QS.fieldAddr (off := 3) (ft := 3) rfl Tryz.underlying35 rfl rfl Tryz.sizeOf3 (by decide)) rfl ?_
      refine Tr.q (QS.lV rfl Tryz.isAgg3) rfl ?_
      refine Tr.q (QS.eql rfl rfl) rfl ?_
      refine Tr.q (QS.assign rfl) rfl ?_
      refine Tr.nil ?_
      refine Tr.thenN ?_
      refine Tr.cond rfl (fun h5 => ?_) (fun h5 => ?_)
      · try simp only [bs] at h5
        refine Tr.seq ?_
        refine Tr.region ?_
        refine Tr.q (QS.fieldAddr (off := 5) (ft := 3) rfl Tryz.underlying35 rfl rfl Tryz.sizeOf3 (by decide)) rfl ?_
        refine Tr.q (QS.lV rfl Tryz.isAgg3) rfl ?_
        refine Tr.q (QS.cvtTo8 rfl Tryz.underlying3 Tryz.underlying5) rfl ?_
        refine Tr.q (QS.add8 (m := 96) rfl rfl) rfl ?_
        refine Tr.q (QS.assign rfl) rfl ?_
        refine Tr.q (QS.assign rfl) rfl ?_
        refine Tr.q (QS.assign rfl) rfl ?_
        refine Tr.nil ?_
        refine Tr.thenN ?_
        refine Tr.ret ?_
        refine Tr.inR ?_
        refine Tr.thenR ?_
        refine Tr.ret3 Tryz.results104 rfl rfl rfl (fun w' hw => ?_)
        exact ⟨by unfold condP; (repeat (first | rw [if_pos (by omega)] | rw [if_neg (by omega)])) <;> rfl, hw.below (Bg.le.refl _)⟩
      · try simp only [bs] at h5
        refine Tr.seq ?_
        refine Tr.region ?_
        refine Tr.q (QS.fieldAddr (off := 3) (ft := 3) rfl Tryz.underlying35 rfl rfl Tryz.sizeOf3 (by decide)) rfl ?_
        refine Tr.q (QS.lV rfl Tryz.isAgg3) rfl ?_
        refine Tr.q (QS.eql rfl rfl) rfl ?_
        refine Tr.q (QS.assign rfl) rfl ?_
        refine Tr.nil ?_
        refine Tr.thenN ?_
        refine Tr.cond rfl (fun h6 => ?_) (fun h6 => ?_)
        · try simp only [bs] at h6
          refine Tr.seq ?_
          refine Tr.region ?_
          refine Tr.q (QS.fieldAddr (off := 5) (ft := 3) rfl Tryz.underlying35 rfl rfl Tryz.sizeOf3 (by decide)) rfl ?_
          refine Tr.q (QS.lV rfl Tryz.isAgg3) rfl ?_
          refine Tr.q (QS.cvtTo8 rfl Tryz.underlying3 Tryz.underlying5) rfl ?_
          refine Tr.q (QS.add8 (m := 112) rfl rfl) rfl ?_
          refine Tr.q (QS.assign rfl) rfl ?_
          refine Tr.q (QS.assign rfl) rfl ?_
          refine Tr.q (QS.assign rfl) rfl ?_
          refine Tr.nil ?_
          refine Tr.thenN ?_
          refine Tr.ret ?_
          refine Tr.inR ?_
          refine Tr.thenR ?_
          refine Tr.ret3 Tryz.results104 rfl rfl rfl (fun w' hw => ?_)
          exact ⟨by unfold condP; (repeat (first | rw [if_pos (by omega)] | rw [if_neg (by omega)])) <;> rfl, hw.below (Bg.le.refl _)⟩
        · try simp only [bs] at h6
          refine Tr.skip ?_
          refine Tr.inN ?_
          refine Tr.thenN ?_
          refine Tr.seq ?_
          refine Tr.region ?_
          refine Tr.q (QS.assign rfl) rfl ?_
          refine Tr.q (QS.assign rfl) rfl ?_
          refine Tr.q (QS.assign rfl) rfl ?_
          refine Tr.nil ?_
          refine Tr.thenN ?_
          refine Tr.ret ?_
          refine Tr.ret3 Tryz.results104 rfl rfl rfl (fun w' hw => ?_)
          exact ⟨by unfold condP; (repeat (first | rw [if_pos (by omega)] | rw [if_neg (by omega)])) <;> rfl, hw.below (Bg.le.refl _)⟩
set_option maxRecDepth 100000 in
set_option maxHeartbeats 2000000 in
theorem opcode_any (i : Ins) (w : World) (hI : InsOK i) :
    Calls Tryz.prog 78 #[.agg (encIns.enc i).toArray] w (fun e w' => e = .returned ((.tuple #[.int .u8 (opcodeP i).1.toNat, .int .i64 (opcodeP i).2.1, .bool (opcodeP i).2.2])) ∧ Ext w w') := by
  have hop := hI.op; unfold I64 at hop
  refine enter Tryz.func78 rfl Tryz.ntmps78 rfl ?_
  refine Tr.seq ?_
  refine Tr.region ?_
  refine Tr.box rfl rfl rfl (fun b1 => ?_)
  refine Tr.q (QS.assign rfl) rfl ?_
  refine Tr.q (QS.assign rfl) rfl ?_
  refine Tr.q (QS.assign rfl) rfl ?_
  refine Tr.nil ?_
  refine Tr.thenN ?_
  refine Tr.seq ?_
  refine Tr.block ?_
  refine Tr.seq ?_
  refine Tr.seq ?_
  refine Tr.region ?_
  refine Tr.q (QS.fieldAddr (off := 2) (ft := 3) rfl Tryz.underlying35 rfl rfl Tryz.sizeOf3 (by decide)) rfl ?_
  refine Tr.q (QS.lV rfl Tryz.isAgg3) rfl ?_
  refine Tr.q (QS.eql rfl rfl) rfl ?_
  refine Tr.q (QS.assign rfl) rfl ?_
  refine Tr.nil ?_
  refine Tr.thenN ?_
  apply Tr.condOr
  · exact rfl
  · intro hO2
    try simp only [bs] at hO2
    refine Tr.seq ?_
    refine Tr.region ?_
    refine Tr.q (QS.fieldAddr (off := 2) (ft := 3) rfl Tryz.underlying35 rfl rfl Tryz.sizeOf3 (by decide)) rfl ?_
    refine Tr.q (QS.lV rfl Tryz.isAgg3) rfl ?_
    refine Tr.q (QS.eql rfl rfl) rfl ?_
    refine Tr.q (QS.assign rfl) rfl ?_
    refine Tr.nil ?_
    refine Tr.thenN ?_
    apply Tr.condOr
    · exact rfl
    · intro hO3
      try simp only [bs] at hO3
      refine Tr.region ?_
      refine Tr.q (QS.fieldAddr (off := 2) (ft := 3) rfl Tryz.underlying35 rfl rfl Tryz.sizeOf3 (by decide)) rfl ?_
      refine Tr.q (QS.lV rfl Tryz.isAgg3) rfl ?_
      refine Tr.q (QS.eql rfl rfl) rfl ?_
      refine Tr.q (QS.assign rfl) rfl ?_
      refine Tr.nil ?_
      refine Tr.thenN ?_
      exact Tr.endOr rfl (SubX.dropN 4 (by kernel_rfl) rfl)
    refine Tr.thenN ?_
    exact Tr.endOr rfl (SubX.dropN 5 (by kernel_rfl) rfl)
  refine Tr.thenN ?_
  refine Tr.cond rfl (fun h4 => ?_) (fun h4 => ?_)
  · try simp only [bs] at h4
    refine Tr.seq ?_
    refine Tr.region ?_
    refine Tr.q (QS.fieldAddr (off := 2) (ft := 3) rfl Tryz.underlying35 rfl rfl Tryz.sizeOf3 (by decide)) rfl ?_
    refine Tr.q (QS.lV rfl Tryz.isAgg3) rfl ?_
    refine Tr.q (QS.cvtTo8 rfl Tryz.underlying3 Tryz.underlying5) rfl ?_
    refine Tr.q (QS.assign rfl) rfl ?_
    refine Tr.q (QS.assign rfl) rfl ?_
    refine Tr.q (QS.assign rfl) rfl ?_
    refine Tr.nil ?_
    refine Tr.thenN ?_
    refine Tr.ret ?_
    refine Tr.inR ?_
    refine Tr.thenR ?_
    refine Tr.ret3 Tryz.results78 rfl rfl rfl (fun w' hw => ?_)
    exact ⟨by unfold opcodeP; (repeat (first | rw [if_pos (by omega)] | rw [if_neg (by omega)])) <;> rfl, hw.below (Bg.le.refl _)⟩
  · try simp only [bs] at h4
    refine Tr.seq ?_
    refine Tr.region ?_
    refine Tr.q (QS.fieldAddr (off := 2) (ft := 3) rfl Tryz.underlying35 rfl rfl Tryz.sizeOf3 (by decide)) rfl ?_
    refine Tr.q (QS.lV rfl Tryz.isAgg3) rfl ?_
    refine Tr.q (QS.eql rfl rfl) rfl ?_
    refine Tr.q (QS.assign rfl) rfl ?_
    refine Tr.nil ?_
    refine Tr.thenN ?_
    refine Tr.cond rfl (fun h5 => ?_) (fun h5 => ?_)
    · try simp only [bs] at h5
      refine Tr.seq ?_
      refine Tr.region ?_
      refine Tr.q (QS.fieldAddr (off := 6) (ft := 3) rfl Tryz.underlying35 rfl rfl Tryz.sizeOf3 (by decide)) rfl ?_
      refine Tr.q (QS.lV rfl Tryz.isAgg3) rfl ?_
      refine Tr.q (QS.and7 rfl rfl) rfl ?_
      refine Tr.q (QS.cvtTo8 rfl Tryz.underlying3 Tryz.underlying5) rfl ?_
      refine Tr.q (QS.add8 (m := 8) rfl rfl) rfl ?_
      refine Tr.q (QS.assign rfl) rfl ?_
      refine Tr.q (QS.assign rfl) rfl ?_
      refine Tr.q (QS.assign rfl) rfl ?_
      refine Tr.nil ?_
      refine Tr.thenN ?_
      refine Tr.ret ?_
      refine Tr.inR ?_
      refine Tr.thenR ?_
      refine Tr.ret3 Tryz.results78 rfl rfl rfl (fun w' hw => ?_)
      exact ⟨by unfold opcodeP; (repeat (first | rw [if_pos (by omega)] | rw [if_neg (by omega)])) <;> rfl, hw.below (Bg.le.refl _)⟩
    · try simp only [bs] at h5
      refine Tr.seq ?_
      refine Tr.region ?_
      refine Tr.q (QS.fieldAddr (off := 2) (ft := 3) rfl Tryz.underlying35 rfl rfl Tryz.sizeOf3 (by decide)) rfl ?_
      refine Tr.q (QS.lV rfl Tryz.isAgg3) rfl ?_
      refine Tr.q (QS.eql rfl rfl) rfl ?_
      refine Tr.q (QS.assign rfl) rfl ?_
      refine Tr.nil ?_
      refine Tr.thenN ?_
      refine Tr.cond rfl (fun h6 => ?_) (fun h6 => ?_)
      · try simp only [bs] at h6
        refine Tr.seq ?_
        refine Tr.region ?_
        refine Tr.q (QS.fieldAddr (off := 6) (ft := 3) rfl Tryz.underlying35 rfl rfl Tryz.sizeOf3 (by decide)) rfl ?_
        refine Tr.q (QS.lV rfl Tryz.isAgg3) rfl ?_
        refine Tr.q (QS.and7 rfl rfl) rfl ?_
        refine Tr.q (QS.cvtTo8 rfl Tryz.underlying3 Tryz.underlying5) rfl ?_
        refine Tr.q (QS.add8 (m := 16) rfl rfl) rfl ?_
        refine Tr.q (QS.assign rfl) rfl ?_
        refine Tr.q (QS.assign rfl) rfl ?_
        refine Tr.q (QS.assign rfl) rfl ?_
        refine Tr.nil ?_
        refine Tr.thenN ?_
        refine Tr.ret ?_
        refine Tr.inR ?_
        refine Tr.thenR ?_
        refine Tr.ret3 Tryz.results78 rfl rfl rfl (fun w' hw => ?_)
        exact ⟨by unfold opcodeP; (repeat (first | rw [if_pos (by omega)] | rw [if_neg (by omega)])) <;> rfl, hw.below (Bg.le.refl _)⟩
      · try simp only [bs] at h6
        refine Tr.seq ?_
        refine Tr.region ?_
        refine Tr.q (QS.fieldAddr (off := 2) (ft := 3) rfl Tryz.underlying35 rfl rfl Tryz.sizeOf3 (by decide)) rfl ?_
        refine Tr.q (QS.lV rfl Tryz.isAgg3) rfl ?_
        refine Tr.q (QS.geq rfl rfl) rfl ?_
        refine Tr.q (QS.move rfl) rfl ?_
        apply Tr.andP
        · exact (rfl : _ = (4, 41, 45))
        · exact rfl
        · intro hT7; have hT7' := hT7
          try simp only [bs] at hT7'
          refine Tr.gq rfl rfl hT7 (QS.fieldAddr (off := 2) (ft := 3) rfl Tryz.underlying35 rfl rfl Tryz.sizeOf3 (by decide)) rfl ?_
          refine Tr.gq rfl rfl hT7 (QS.lV rfl Tryz.isAgg3) rfl ?_
          refine Tr.gq rfl rfl hT7 (QS.leq rfl rfl) rfl ?_
          refine Tr.q (QS.pickT rfl hT7 rfl) rfl ?_
          refine Tr.nil (Tr.thenN ?_)
          exact Tr.endX (Sub.cons rfl (Sub.dropN 4 (by kernel_rfl) rfl))
        · intro hF7
          refine Tr.gskip rfl rfl hF7 rfl ?_
          refine Tr.gskip rfl rfl hF7 rfl ?_
          refine Tr.gskip rfl rfl hF7 rfl ?_
          refine Tr.q (QS.pickF rfl hF7 rfl) rfl ?_
          refine Tr.nil (Tr.thenN ?_)
          exact Tr.endX (Sub.cons rfl (Sub.dropN 4 (by kernel_rfl) rfl))
        refine Tr.q (QS.assign rfl) rfl ?_
        refine Tr.nil ?_
        refine Tr.thenN ?_
        refine Tr.cond rfl (fun h8 => ?_) (fun h8 => ?_)
        · try simp only [bs] at h8
          refine Tr.seq ?_
          refine Tr.region ?_
          refine Tr.q (QS.fieldAddr (off := 2) (ft := 3) rfl Tryz.underlying35 rfl rfl Tryz.sizeOf3 (by decide)) rfl ?_
          refine Tr.q (QS.lV rfl Tryz.isAgg3) rfl ?_
          refine Tr.q (QS.subI rfl rfl (by omega)) rfl ?_
          refine Tr.q (QS.cvtTo8 rfl Tryz.underlying3 Tryz.underlying5) rfl ?_
          refine Tr.q (QS.assign rfl) rfl ?_
          refine Tr.nil ?_
          refine Tr.thenN ?_
          refine Tr.seq ?_
          refine Tr.region ?_
          refine Tr.q (QS.fieldAddr (off := 3) (ft := 3) rfl Tryz.underlying35 rfl rfl Tryz.sizeOf3 (by decide)) rfl ?_
          refine Tr.q (QS.lV rfl Tryz.isAgg3) rfl ?_
          refine Tr.nil ?_
          refine Tr.thenN ?_
          refine Tr.block ?_
          refine Tr.seq ?_
          refine Tr.region ?_
          refine Tr.q (QS.eql rfl rfl) rfl ?_
          refine Tr.q (QS.assign rfl) rfl ?_
          refine Tr.nil ?_
          refine Tr.thenN ?_
          refine Tr.cond rfl (fun h9 => ?_) (fun h9 => ?_)
          · try simp only [bs] at h9
            refine Tr.seq ?_
            refine Tr.region ?_
            refine Tr.q (QS.move rfl) rfl ?_
            refine Tr.q (QS.add8 (m := 32) rfl rfl) rfl ?_
            refine Tr.q (QS.assign rfl) rfl ?_
            refine Tr.q (QS.assign rfl) rfl ?_
            refine Tr.q (QS.assign rfl) rfl ?_
            refine Tr.nil ?_
            refine Tr.thenN ?_
            refine Tr.ret ?_
            refine Tr.inR ?_
            refine Tr.inR ?_
            refine Tr.thenR ?_
            refine Tr.ret3 Tryz.results78 rfl rfl rfl (fun w' hw => ?_)
            exact ⟨by unfold opcodeP; (repeat (first | rw [if_pos (by omega)] | rw [if_neg (by omega)])) <;> rfl, hw.below (Bg.le.refl _)⟩
          · try simp only [bs] at h9
            refine Tr.seq ?_
            refine Tr.region ?_
            refine Tr.q (QS.eql rfl rfl) rfl ?_
            refine Tr.q (QS.assign rfl) rfl ?_
            refine Tr.nil ?_
            refine Tr.thenN ?_
            refine Tr.cond rfl (fun h10 => ?_) (fun h10 => ?_)
            · try simp only [bs] at h10
              refine Tr.seq ?_
              refine Tr.region ?_
              refine Tr.q (QS.move rfl) rfl ?_
              refine Tr.q (QS.add8 (m := 48) rfl rfl) rfl ?_
              refine Tr.q (QS.assign rfl) rfl ?_
              refine Tr.q (QS.assign rfl) rfl ?_
              refine Tr.q (QS.assign rfl) rfl ?_
              refine Tr.nil ?_
              refine Tr.thenN ?_
              refine Tr.ret ?_
              refine Tr.inR ?_
              refine Tr.inR ?_
              refine Tr.thenR ?_
              refine Tr.ret3 Tryz.results78 rfl rfl rfl (fun w' hw => ?_)
              exact ⟨by unfold opcodeP; (repeat (first | rw [if_pos (by omega)] | rw [if_neg (by omega)])) <;> rfl, hw.below (Bg.le.refl _)⟩
            · try simp only [bs] at h10
              refine Tr.seq ?_
              refine Tr.region ?_
              refine Tr.q (QS.eql rfl rfl) rfl ?_
              refine Tr.q (QS.assign rfl) rfl ?_
              refine Tr.nil ?_
              refine Tr.thenN ?_
              refine Tr.cond rfl (fun h11 => ?_) (fun h11 => ?_)
              · try simp only [bs] at h11
                refine Tr.seq ?_
                refine Tr.region ?_
                refine Tr.q (QS.move rfl) rfl ?_
                refine Tr.q (QS.add8 (m := 64) rfl rfl) rfl ?_
                refine Tr.q (QS.assign rfl) rfl ?_
                refine Tr.q (QS.assign rfl) rfl ?_
                refine Tr.q (QS.assign rfl) rfl ?_
                refine Tr.nil ?_
                refine Tr.thenN ?_
                refine Tr.ret ?_
                refine Tr.inR ?_
                refine Tr.inR ?_
                refine Tr.thenR ?_
                refine Tr.ret3 Tryz.results78 rfl rfl rfl (fun w' hw => ?_)
                exact ⟨by unfold opcodeP; (repeat (first | rw [if_pos (by omega)] | rw [if_neg (by omega)])) <;> rfl, hw.below (Bg.le.refl _)⟩
              · try simp only [bs] at h11
                refine Tr.skip ?_
                refine Tr.inN ?_
                refine Tr.inN ?_
                refine Tr.thenN ?_
                refine Tr.seq ?_
                refine Tr.region ?_
                refine Tr.q (QS.assign rfl) rfl ?_
                refine Tr.q (QS.assign rfl) rfl ?_
                refine Tr.q (QS.assign rfl) rfl ?_
                refine Tr.nil ?_
                refine Tr.thenN ?_
                refine Tr.ret ?_
                refine Tr.ret3 Tryz.results78 rfl rfl rfl (fun w' hw => ?_)
                exact ⟨by unfold opcodeP; (repeat (first | rw [if_pos (by omega)] | rw [if_neg (by omega)])) <;> rfl, hw.below (Bg.le.refl _)⟩
        · try simp only [bs] at h8
          refine Tr.seq ?_
          refine Tr.seq ?_
          refine Tr.region ?_
          refine Tr.q (QS.fieldAddr (off := 2) (ft := 3) rfl Tryz.underlying35 rfl rfl Tryz.sizeOf3 (by decide)) rfl ?_
          refine Tr.q (QS.lV rfl Tryz.isAgg3) rfl ?_
          refine Tr.q (QS.eql rfl rfl) rfl ?_
          refine Tr.q (QS.assign rfl) rfl ?_
          refine Tr.nil ?_
          refine Tr.thenN ?_
          apply Tr.condOr
          · exact rfl
          · intro hO12
            try simp only [bs] at hO12
            refine Tr.seq ?_
            refine Tr.region ?_
            refine Tr.q (QS.fieldAddr (off := 2) (ft := 3) rfl Tryz.underlying35 rfl rfl Tryz.sizeOf3 (by decide)) rfl ?_
            refine Tr.q (QS.lV rfl Tryz.isAgg3) rfl ?_
            refine Tr.q (QS.eql rfl rfl) rfl ?_
            refine Tr.q (QS.assign rfl) rfl ?_
            refine Tr.nil ?_
            refine Tr.thenN ?_
            apply Tr.condOr
            · exact rfl
            · intro hO13
              try simp only [bs] at hO13
              refine Tr.region ?_
              refine Tr.q (QS.fieldAddr (off := 2) (ft := 3) rfl Tryz.underlying35 rfl rfl Tryz.sizeOf3 (by decide)) rfl ?_
              refine Tr.q (QS.lV rfl Tryz.isAgg3) rfl ?_
              refine Tr.q (QS.eql rfl rfl) rfl ?_
              refine Tr.q (QS.assign rfl) rfl ?_
              refine Tr.nil ?_
              refine Tr.thenN ?_
              exact Tr.endOr rfl (SubX.dropN 4 (by kernel_rfl) rfl)
            refine Tr.thenN ?_
            exact Tr.endOr rfl (SubX.dropN 5 (by kernel_rfl) rfl)
          refine Tr.thenN ?_
          refine Tr.cond rfl (fun h14 => ?_) (fun h14 => ?_)
          · try simp only [bs] at h14
            refine Tr.seq ?_
            refine Tr.region ?_
            refine Tr.q (QS.lW rfl Tryz.isAgg35 Tryz.sizeOf35) rfl ?_
            refine Tr.q (QS.call rfl Tryz.call103 (fun w hw => access_any i w)) rfl ?_
            refine Tr.q (QS.extract rfl rfl) rfl ?_
            refine Tr.q (QS.extract rfl rfl) rfl ?_
            refine Tr.q (QS.extract rfl rfl) rfl ?_
            refine Tr.q (QS.assign rfl) rfl ?_
            refine Tr.q (QS.assign rfl) rfl ?_
            refine Tr.q (QS.assign rfl) rfl ?_
            refine Tr.nil ?_
            refine Tr.thenN ?_
            refine Tr.ret ?_
            refine Tr.inR ?_
            refine Tr.thenR ?_
            refine Tr.ret3 Tryz.results78 rfl rfl rfl (fun w' hw => ?_)
            exact ⟨by unfold opcodeP; (repeat (first | rw [if_pos (by omega)] | rw [if_neg (by omega)])) <;> rfl, hw.below (Bg.le.refl _)⟩
          · try simp only [bs] at h14
            refine Tr.seq ?_
            refine Tr.region ?_
            refine Tr.q (QS.fieldAddr (off := 2) (ft := 3) rfl Tryz.underlying35 rfl rfl Tryz.sizeOf3 (by decide)) rfl ?_
            refine Tr.q (QS.lV rfl Tryz.isAgg3) rfl ?_
            refine Tr.q (QS.eql rfl rfl) rfl ?_
            refine Tr.q (QS.assign rfl) rfl ?_
            refine Tr.nil ?_
            refine Tr.thenN ?_
            refine Tr.cond rfl (fun h15 => ?_) (fun h15 => ?_)
            · try simp only [bs] at h15
              refine Tr.seq ?_
              refine Tr.region ?_
              refine Tr.q (QS.assign rfl) rfl ?_
              refine Tr.q (QS.assign rfl) rfl ?_
              refine Tr.q (QS.assign rfl) rfl ?_
              refine Tr.nil ?_
              refine Tr.thenN ?_
              refine Tr.ret ?_
              refine Tr.inR ?_
              refine Tr.thenR ?_
              refine Tr.ret3 Tryz.results78 rfl rfl rfl (fun w' hw => ?_)
              exact ⟨by unfold opcodeP; (repeat (first | rw [if_pos (by omega)] | rw [if_neg (by omega)])) <;> rfl, hw.below (Bg.le.refl _)⟩
            · try simp only [bs] at h15
              refine Tr.seq ?_
              refine Tr.region ?_
              refine Tr.q (QS.fieldAddr (off := 2) (ft := 3) rfl Tryz.underlying35 rfl rfl Tryz.sizeOf3 (by decide)) rfl ?_
              refine Tr.q (QS.lV rfl Tryz.isAgg3) rfl ?_
              refine Tr.q (QS.eql rfl rfl) rfl ?_
              refine Tr.q (QS.move rfl) rfl ?_
              apply Tr.orP
              · exact (rfl : _ = (4, 87, 91))
              · exact rfl
              · intro hF16; have hF16' := hF16
                try simp only [bs] at hF16'
                refine Tr.gq rfl rfl hF16 (QS.fieldAddr (off := 2) (ft := 3) rfl Tryz.underlying35 rfl rfl Tryz.sizeOf3 (by decide)) rfl ?_
                refine Tr.gq rfl rfl hF16 (QS.lV rfl Tryz.isAgg3) rfl ?_
                refine Tr.gq rfl rfl hF16 (QS.eql rfl rfl) rfl ?_
                refine Tr.q (QS.pickF rfl hF16 rfl) rfl ?_
                refine Tr.nil (Tr.thenN ?_)
                exact Tr.endX (Sub.cons rfl (Sub.dropN 4 (by kernel_rfl) rfl))
              · intro hT16
                refine Tr.gskip rfl rfl hT16 rfl ?_
                refine Tr.gskip rfl rfl hT16 rfl ?_
                refine Tr.gskip rfl rfl hT16 rfl ?_
                refine Tr.q (QS.pickT rfl hT16 rfl) rfl ?_
                refine Tr.nil (Tr.thenN ?_)
                exact Tr.endX (Sub.cons rfl (Sub.dropN 4 (by kernel_rfl) rfl))
              refine Tr.q (QS.assign rfl) rfl ?_
              refine Tr.nil ?_
              refine Tr.thenN ?_
              refine Tr.cond rfl (fun h17 => ?_) (fun h17 => ?_)
              · try simp only [bs] at h17
                refine Tr.seq ?_
                refine Tr.region ?_
                refine Tr.q (QS.lW rfl Tryz.isAgg35 Tryz.sizeOf35) rfl ?_
                refine Tr.q (QS.call rfl Tryz.call104 (fun w hw => conditional_any i w)) rfl ?_
                refine Tr.q (QS.extract rfl rfl) rfl ?_
                refine Tr.q (QS.extract rfl rfl) rfl ?_
                refine Tr.q (QS.extract rfl rfl) rfl ?_
                refine Tr.q (QS.assign rfl) rfl ?_
                refine Tr.q (QS.assign rfl) rfl ?_
                refine Tr.q (QS.assign rfl) rfl ?_
                refine Tr.nil ?_
                refine Tr.thenN ?_
                refine Tr.ret ?_
                refine Tr.inR ?_
                refine Tr.thenR ?_
                refine Tr.ret3 Tryz.results78 rfl rfl rfl (fun w' hw => ?_)
                exact ⟨by unfold opcodeP; (repeat (first | rw [if_pos (by omega)] | rw [if_neg (by omega)])) <;> rfl, hw.below (Bg.le.refl _)⟩
              · try simp only [bs] at h17
                refine Tr.seq ?_
                refine Tr.region ?_
                refine Tr.q (QS.fieldAddr (off := 2) (ft := 3) rfl Tryz.underlying35 rfl rfl Tryz.sizeOf3 (by decide)) rfl ?_
                refine Tr.q (QS.lV rfl Tryz.isAgg3) rfl ?_
                refine Tr.q (QS.eql rfl rfl) rfl ?_
                refine Tr.q (QS.assign rfl) rfl ?_
                refine Tr.nil ?_
                refine Tr.thenN ?_
                refine Tr.cond rfl (fun h18 => ?_) (fun h18 => ?_)
                · try simp only [bs] at h18
                  refine Tr.seq ?_
                  refine Tr.region ?_
                  refine Tr.q (QS.assign rfl) rfl ?_
                  refine Tr.q (QS.assign rfl) rfl ?_
                  refine Tr.q (QS.assign rfl) rfl ?_
                  refine Tr.nil ?_
                  refine Tr.thenN ?_
                  refine Tr.ret ?_
                  refine Tr.inR ?_
                  refine Tr.thenR ?_
                  refine Tr.ret3 Tryz.results78 rfl rfl rfl (fun w' hw => ?_)
                  exact ⟨by unfold opcodeP; (repeat (first | rw [if_pos (by omega)] | rw [if_neg (by omega)])) <;> rfl, hw.below (Bg.le.refl _)⟩
                · try simp only [bs] at h18
                  refine Tr.seq ?_
                  refine Tr.region ?_
                  refine Tr.q (QS.fieldAddr (off := 2) (ft := 3) rfl Tryz.underlying35 rfl rfl Tryz.sizeOf3 (by decide)) rfl ?_
                  refine Tr.q (QS.lV rfl Tryz.isAgg3) rfl ?_
                  refine Tr.q (QS.eql rfl rfl) rfl ?_
                  refine Tr.q (QS.assign rfl) rfl ?_
                  refine Tr.nil ?_
                  refine Tr.thenN ?_
                  refine Tr.cond rfl (fun h19 => ?_) (fun h19 => ?_)
                  · try simp only [bs] at h19
                    refine Tr.seq ?_
                    refine Tr.region ?_
                    refine Tr.q (QS.assign rfl) rfl ?_
                    refine Tr.q (QS.assign rfl) rfl ?_
                    refine Tr.q (QS.assign rfl) rfl ?_
                    refine Tr.nil ?_
                    refine Tr.thenN ?_
                    refine Tr.ret ?_
                    refine Tr.inR ?_
                    refine Tr.thenR ?_
                    refine Tr.ret3 Tryz.results78 rfl rfl rfl (fun w' hw => ?_)
                    exact ⟨by unfold opcodeP; (repeat (first | rw [if_pos (by omega)] | rw [if_neg (by omega)])) <;> rfl, hw.below (Bg.le.refl _)⟩
                  · try simp only [bs] at h19
                    refine Tr.seq ?_
                    refine Tr.region ?_
                    refine Tr.q (QS.fieldAddr (off := 2) (ft := 3) rfl Tryz.underlying35 rfl rfl Tryz.sizeOf3 (by decide)) rfl ?_
                    refine Tr.q (QS.lV rfl Tryz.isAgg3) rfl ?_
                    refine Tr.q (QS.eql rfl rfl) rfl ?_
                    refine Tr.q (QS.assign rfl) rfl ?_
                    refine Tr.nil ?_
                    refine Tr.thenN ?_
                    refine Tr.cond rfl (fun h20 => ?_) (fun h20 => ?_)
                    · try simp only [bs] at h20
                      refine Tr.seq ?_
                      refine Tr.region ?_
                      refine Tr.q (QS.assign rfl) rfl ?_
                      refine Tr.q (QS.assign rfl) rfl ?_
                      refine Tr.q (QS.assign rfl) rfl ?_
                      refine Tr.nil ?_
                      refine Tr.thenN ?_
                      refine Tr.ret ?_
                      refine Tr.inR ?_
                      refine Tr.thenR ?_
                      refine Tr.ret3 Tryz.results78 rfl rfl rfl (fun w' hw => ?_)
                      exact ⟨by unfold opcodeP; (repeat (first | rw [if_pos (by omega)] | rw [if_neg (by omega)])) <;> rfl, hw.below (Bg.le.refl _)⟩
                    · try simp only [bs] at h20
                      refine Tr.seq ?_
                      refine Tr.region ?_
                      refine Tr.q (QS.fieldAddr (off := 2) (ft := 3) rfl Tryz.underlying35 rfl rfl Tryz.sizeOf3 (by decide)) rfl ?_
                      refine Tr.q (QS.lV rfl Tryz.isAgg3) rfl ?_
                      refine Tr.q (QS.eql rfl rfl) rfl ?_
                      refine Tr.q (QS.assign rfl) rfl ?_
                      refine Tr.nil ?_
                      refine Tr.thenN ?_
                      refine Tr.cond rfl (fun h21 => ?_) (fun h21 => ?_)
                      · try simp only [bs] at h21
                        refine Tr.seq ?_
                        refine Tr.region ?_
                        refine Tr.q (QS.assign rfl) rfl ?_
                        refine Tr.q (QS.assign rfl) rfl ?_
                        refine Tr.q (QS.assign rfl) rfl ?_
                        refine Tr.nil ?_
                        refine Tr.thenN ?_
                        refine Tr.ret ?_
                        refine Tr.inR ?_
                        refine Tr.thenR ?_
                        refine Tr.ret3 Tryz.results78 rfl rfl rfl (fun w' hw => ?_)
                        exact ⟨by unfold opcodeP; (repeat (first | rw [if_pos (by omega)] | rw [if_neg (by omega)])) <;> rfl, hw.below (Bg.le.refl _)⟩
                      · try simp only [bs] at h21
                        refine Tr.seq ?_
                        refine Tr.region ?_
                        refine Tr.q (QS.fieldAddr (off := 2) (ft := 3) rfl Tryz.underlying35 rfl rfl Tryz.sizeOf3 (by decide)) rfl ?_
                        refine Tr.q (QS.lV rfl Tryz.isAgg3) rfl ?_
                        refine Tr.q (QS.eql rfl rfl) rfl ?_
                        refine Tr.q (QS.assign rfl) rfl ?_
                        refine Tr.nil ?_
                        refine Tr.thenN ?_
                        refine Tr.cond rfl (fun h22 => ?_) (fun h22 => ?_)
                        · try simp only [bs] at h22
                          refine Tr.seq ?_
                          refine Tr.region ?_
                          refine Tr.q (QS.assign rfl) rfl ?_
                          refine Tr.q (QS.assign rfl) rfl ?_
                          refine Tr.q (QS.assign rfl) rfl ?_
                          refine Tr.nil ?_
                          refine Tr.thenN ?_
                          refine Tr.ret ?_
                          refine Tr.inR ?_
                          refine Tr.thenR ?_
                          refine Tr.ret3 Tryz.results78 rfl rfl rfl (fun w' hw => ?_)
                          exact ⟨by unfold opcodeP; (repeat (first | rw [if_pos (by omega)] | rw [if_neg (by omega)])) <;> rfl, hw.below (Bg.le.refl _)⟩
                        · try simp only [bs] at h22
                          refine Tr.seq ?_
                          refine Tr.region ?_
                          refine Tr.q (QS.fieldAddr (off := 2) (ft := 3) rfl Tryz.underlying35 rfl rfl Tryz.sizeOf3 (by decide)) rfl ?_
                          refine Tr.q (QS.lV rfl Tryz.isAgg3) rfl ?_
                          refine Tr.q (QS.eql rfl rfl) rfl ?_
                          refine Tr.q (QS.assign rfl) rfl ?_
                          refine Tr.nil ?_
                          refine Tr.thenN ?_
                          refine Tr.cond rfl (fun h23 => ?_) (fun h23 => ?_)
                          · try simp only [bs] at h23
                            refine Tr.seq ?_
                            refine Tr.region ?_
                            refine Tr.q (QS.assign rfl) rfl ?_
                            refine Tr.q (QS.assign rfl) rfl ?_
                            refine Tr.q (QS.assign rfl) rfl ?_
                            refine Tr.nil ?_
                            refine Tr.thenN ?_
                            refine Tr.ret ?_
                            refine Tr.inR ?_
                            refine Tr.thenR ?_
                            refine Tr.ret3 Tryz.results78 rfl rfl rfl (fun w' hw => ?_)
                            exact ⟨by unfold opcodeP; (repeat (first | rw [if_pos (by omega)] | rw [if_neg (by omega)])) <;> rfl, hw.below (Bg.le.refl _)⟩
                          · try simp only [bs] at h23
                            refine Tr.skip ?_
                            refine Tr.inN ?_
                            refine Tr.thenN ?_
                            refine Tr.seq ?_
                            refine Tr.region ?_
                            refine Tr.q (QS.assign rfl) rfl ?_
                            refine Tr.q (QS.assign rfl) rfl ?_
                            refine Tr.q (QS.assign rfl) rfl ?_
                            refine Tr.nil ?_
                            refine Tr.thenN ?_
                            refine Tr.ret ?_
                            refine Tr.ret3 Tryz.results78 rfl rfl rfl (fun w' hw => ?_)
                            exact ⟨by unfold opcodeP; (repeat (first | rw [if_pos (by omega)] | rw [if_neg (by omega)])) <;> rfl, hw.below (Bg.le.refl _)⟩
set_option maxRecDepth 100000 in
set_option maxHeartbeats 2000000 in
theorem kept_any (i : Ins) (s : Int) (w : World) :
    Calls Tryz.prog 80 #[.agg (encIns.enc i).toArray, .int .i64 s] w (fun e w' => e = .returned (.agg (encIns.enc (keptP i s)).toArray) ∧ Ext w w') := by
  refine enter Tryz.func80 rfl Tryz.ntmps80 rfl ?_
  refine Tr.seq ?_
  refine Tr.region ?_
  refine Tr.box rfl rfl rfl (fun b1 => ?_)
  refine Tr.alloc Tryz.zeroValue35 rfl rfl (fun b2 => ?_)
  refine Tr.nil ?_
  refine Tr.thenN ?_
  refine Tr.seq ?_
  refine Tr.region ?_
  refine Tr.q (QS.fieldAddr (off := 0) (ft := 33) rfl Tryz.underlying35 rfl rfl Tryz.sizeOf33 (by decide)) rfl ?_
  refine Tr.q (QS.lV rfl Tryz.isAgg33) rfl ?_
  refine Tr.q (QS.fieldAddr (off := 2) (ft := 3) rfl Tryz.underlying35 rfl rfl Tryz.sizeOf3 (by decide)) rfl ?_
  refine Tr.q (QS.lV rfl Tryz.isAgg3) rfl ?_
  refine Tr.q (QS.fieldAddr (off := 8) (ft := 3) rfl Tryz.underlying35 rfl rfl Tryz.sizeOf3 (by decide)) rfl ?_
  refine Tr.q (QS.lV rfl Tryz.isAgg3) rfl ?_
  refine Tr.q (QS.build (vs := [(0, _), (2, _), (8, _)]) rfl rfl (HLF.built35_0_2_8 _ _ _)) rfl ?_
  refine Tr.alloc Tryz.zeroValue35 rfl rfl (fun b3 => ?_)
  refine Tr.storeW rfl rfl Tryz.sizeOf35 (by repeat (first | exact Put.here _ | apply Put.there)) (by rfl) (by rfl) (by first | exact List.all_eq_true.1 rfl | exact Enc.one _ _ | exact Enc.one encIns _) rfl ?_
  refine Tr.nil ?_
  refine Tr.thenN ?_
  refine Tr.seqJ (ι := Ins) (fun k1 => k1 = kept1 i s) (fun _ => Bg.of w) (fun k1 => [cellE b3 (encIns.enc k1) 35, cellE b2 (encIns.enc zeroIns) 35, cellE b1 (encIns.enc i) 35]) (fun k1 => []) ?_ (fun k1 hi => ?_)
  · skip
    refine Tr.seq ?_
    refine Tr.region ?_
    refine Tr.q (QS.move rfl) rfl ?_
    refine Tr.nil ?_
    refine Tr.thenN ?_
    refine Tr.block ?_
    refine Tr.seq ?_
    refine Tr.seq ?_
    refine Tr.region ?_
    refine Tr.q (QS.eql rfl rfl) rfl ?_
    refine Tr.q (QS.assign rfl) rfl ?_
    refine Tr.nil ?_
    refine Tr.thenN ?_
    apply Tr.condOr
    · exact rfl
    · intro hO4
      try simp only [bs] at hO4
      refine Tr.region ?_
      refine Tr.q (QS.eql rfl rfl) rfl ?_
      refine Tr.q (QS.assign rfl) rfl ?_
      refine Tr.nil ?_
      refine Tr.thenN ?_
      exact Tr.endOr rfl (SubX.dropN 2 (by kernel_rfl) rfl)
    refine Tr.thenN ?_
    refine Tr.cond rfl (fun h5 => ?_) (fun h5 => ?_)
    · try simp only [bs] at h5
      refine Tr.region ?_
      refine Tr.q (QS.fieldAddr (off := 6) (ft := 3) rfl Tryz.underlying35 rfl rfl Tryz.sizeOf3 (by decide)) rfl ?_
      refine Tr.q (QS.lV rfl Tryz.isAgg3) rfl ?_
      refine Tr.q (QS.fieldAddr (off := 6) (ft := 3) rfl Tryz.underlying35 rfl rfl Tryz.sizeOf3 (by decide)) rfl ?_
      refine Tr.storeV (cs' := [_, _, _, _, _, _, _, _, _]) rfl rfl Tryz.sizeOf3 (by repeat (first | exact Put.here _ | apply Put.there)) rfl (by rfl) (by first | exact Nat.le_of_ble_eq_true rfl | simp) (by first | exact List.all_eq_true.1 rfl | (intro u hu; simp [Value.cells] at hu; simp_all [Value.oneCell'])) rfl ?_
      refine Tr.nil ?_
      refine Tr.inN ?_
      refine Tr.thenN ?_
      apply Tr.joined ⟨i.addr, 0, i.op, 0, 0, 0, i.a, 0, i.size⟩
      · exact rfl
      · exact Front.nil
      · exact SubX.dropN 7 (by kernel_rfl) rfl
      · exact (by repeat' (first | exact Pick.nil _ | exact Del.here _ | apply Pick.cons | apply Del.there))
      · exact (by simp only [kept1]; congr 1 <;> first | rfl | (rw [if_pos (by omega)]) | (rw [if_neg (by omega)]))
    · try simp only [bs] at h5
      refine Tr.seq ?_
      refine Tr.region ?_
      refine Tr.q (QS.eql rfl rfl) rfl ?_
      refine Tr.q (QS.assign rfl) rfl ?_
      refine Tr.nil ?_
      refine Tr.thenN ?_
      refine Tr.cond rfl (fun h6 => ?_) (fun h6 => ?_)
      · try simp only [bs] at h6
        refine Tr.regionH ([cellE b1 (encIns.enc i) 35]) 8 rfl HLF.mixed ?_
        refine Tr.hT 0 rfl (by kernel_rfl) (panicIn (panicThen panicBody)) (QS.fieldAddr (off := 6) (ft := 3) rfl Tryz.underlying35 rfl rfl Tryz.sizeOf3 (by decide)) ?_
        refine Tr.hT 1 rfl (by kernel_rfl) (panicIn (panicThen panicBody)) (QS.lV rfl Tryz.isAgg3) ?_
        refine Tr.hT 2 rfl (by kernel_rfl) (panicIn (panicThen panicBody)) (QS.fieldAddr (off := 7) (ft := 3) rfl Tryz.underlying35 rfl rfl Tryz.sizeOf3 (by decide)) ?_
        refine Tr.hT 3 rfl (by kernel_rfl) (panicIn (panicThen panicBody)) (QS.lV rfl Tryz.isAgg3) ?_
        refine Tr.hT 4 rfl (by kernel_rfl) (panicIn (panicThen panicBody)) (QS.fieldAddr (off := 6) (ft := 3) rfl Tryz.underlying35 rfl rfl Tryz.sizeOf3 (by decide)) ?_
        refine Tr.hAll [5] (by kernel_rfl) (by simp) (fun iq hq => ?_)
        obtain rfl := List.mem_singleton.1 hq
        refine Tr.hOp rfl ?_
        refine Tr.storeV (cs' := [_, _, _, _, _, _, _, _, _]) rfl rfl Tryz.sizeOf3 (by repeat (first | exact Put.here _ | apply Put.there)) rfl (by rfl) (by first | exact Nat.le_of_ble_eq_true rfl | simp) (by first | exact List.all_eq_true.1 rfl | (intro u hu; simp [Value.cells] at hu; simp_all [Value.oneCell'])) rfl ?_
        refine Tr.hN ?_
        refine Tr.hT 6 rfl (by kernel_rfl) (panicIn (panicThen panicBody)) (QS.fieldAddr (off := 7) (ft := 3) rfl Tryz.underlying35 rfl rfl Tryz.sizeOf3 (by decide)) ?_
        refine Tr.hAll [7] (by kernel_rfl) (by simp) (fun iq hq => ?_)
        obtain rfl := List.mem_singleton.1 hq
        refine Tr.hOp rfl ?_
        refine Tr.storeV (cs' := [_, _, _, _, _, _, _, _, _]) rfl rfl Tryz.sizeOf3 (by repeat (first | exact Put.here _ | apply Put.there)) rfl (by rfl) (by first | exact Nat.le_of_ble_eq_true rfl | simp) (by first | exact List.all_eq_true.1 rfl | (intro u hu; simp [Value.cells] at hu; simp_all [Value.oneCell'])) rfl ?_
        refine Tr.hN ?_
        refine Tr.hDone (by kernel_rfl) ?_
        refine Tr.inN ?_
        refine Tr.thenN ?_
        apply Tr.joined ⟨i.addr, 0, i.op, 0, 0, 0, i.a, i.b, i.size⟩
        · exact rfl
        · exact Front.nil
        · exact SubX.dropN 12 (by kernel_rfl) rfl
        · exact (by repeat' (first | exact Pick.nil _ | exact Del.here _ | apply Pick.cons | apply Del.there))
        · exact (by simp only [kept1]; congr 1 <;> first | rfl | (rw [if_pos (by omega)]) | (rw [if_neg (by omega)]))
      · try simp only [bs] at h6
        refine Tr.seq ?_
        refine Tr.seq ?_
        refine Tr.region ?_
        refine Tr.q (QS.eql rfl rfl) rfl ?_
        refine Tr.q (QS.assign rfl) rfl ?_
        refine Tr.nil ?_
        refine Tr.thenN ?_
        apply Tr.condOr
        · exact rfl
        · intro hO7
          try simp only [bs] at hO7
          refine Tr.region ?_
          refine Tr.q (QS.eql rfl rfl) rfl ?_
          refine Tr.q (QS.assign rfl) rfl ?_
          refine Tr.nil ?_
          refine Tr.thenN ?_
          exact Tr.endOr rfl (SubX.dropN 2 (by kernel_rfl) rfl)
        refine Tr.thenN ?_
        refine Tr.cond rfl (fun h8 => ?_) (fun h8 => ?_)
        · try simp only [bs] at h8
          refine Tr.regionH ([cellE b1 (encIns.enc i) 35]) 8 rfl HLF.mixed ?_
          refine Tr.hT 0 rfl (by kernel_rfl) (panicIn (panicThen panicBody)) (QS.fieldAddr (off := 6) (ft := 3) rfl Tryz.underlying35 rfl rfl Tryz.sizeOf3 (by decide)) ?_
          refine Tr.hT 1 rfl (by kernel_rfl) (panicIn (panicThen panicBody)) (QS.lV rfl Tryz.isAgg3) ?_
          refine Tr.hT 2 rfl (by kernel_rfl) (panicIn (panicThen panicBody)) (QS.fieldAddr (off := 1) (ft := 33) rfl Tryz.underlying35 rfl rfl Tryz.sizeOf33 (by decide)) ?_
          refine Tr.hT 3 rfl (by kernel_rfl) (panicIn (panicThen panicBody)) (QS.lV rfl Tryz.isAgg33) ?_
          refine Tr.hT 4 rfl (by kernel_rfl) (panicIn (panicThen panicBody)) (QS.fieldAddr (off := 6) (ft := 3) rfl Tryz.underlying35 rfl rfl Tryz.sizeOf3 (by decide)) ?_
          refine Tr.hAll [5] (by kernel_rfl) (by simp) (fun iq hq => ?_)
          obtain rfl := List.mem_singleton.1 hq
          refine Tr.hOp rfl ?_
          refine Tr.storeV (cs' := [_, _, _, _, _, _, _, _, _]) rfl rfl Tryz.sizeOf3 (by repeat (first | exact Put.here _ | apply Put.there)) rfl (by rfl) (by first | exact Nat.le_of_ble_eq_true rfl | simp) (by first | exact List.all_eq_true.1 rfl | (intro u hu; simp [Value.cells] at hu; simp_all [Value.oneCell'])) rfl ?_
          refine Tr.hN ?_
          refine Tr.hT 6 rfl (by kernel_rfl) (panicIn (panicThen panicBody)) (QS.fieldAddr (off := 1) (ft := 33) rfl Tryz.underlying35 rfl rfl Tryz.sizeOf33 (by decide)) ?_
          refine Tr.hAll [7] (by kernel_rfl) (by simp) (fun iq hq => ?_)
          obtain rfl := List.mem_singleton.1 hq
          refine Tr.hOp rfl ?_
          refine Tr.storeV (cs' := [_, _, _, _, _, _, _, _, _]) rfl rfl Tryz.sizeOf33 (by repeat (first | exact Put.here _ | apply Put.there)) rfl (by rfl) (by first | exact Nat.le_of_ble_eq_true rfl | simp) (by first | exact List.all_eq_true.1 rfl | (intro u hu; simp [Value.cells] at hu; simp_all [Value.oneCell'])) rfl ?_
          refine Tr.hN ?_
          refine Tr.hDone (by kernel_rfl) ?_
          refine Tr.inN ?_
          refine Tr.thenN ?_
          apply Tr.joined ⟨i.addr, i.imm, i.op, 0, 0, 0, i.a, 0, i.size⟩
          · exact rfl
          · exact Front.nil
          · exact SubX.dropN 15 (by kernel_rfl) rfl
          · exact (by repeat' (first | exact Pick.nil _ | exact Del.here _ | apply Pick.cons | apply Del.there))
          · exact (by simp only [kept1]; congr 1 <;> first | rfl | (rw [if_pos (by omega)]) | (rw [if_neg (by omega)]))
        · try simp only [bs] at h8
          refine Tr.seq ?_
          refine Tr.region ?_
          refine Tr.q (QS.eql rfl rfl) rfl ?_
          refine Tr.q (QS.assign rfl) rfl ?_
          refine Tr.nil ?_
          refine Tr.thenN ?_
          refine Tr.cond rfl (fun h9 => ?_) (fun h9 => ?_)
          · try simp only [bs] at h9
            refine Tr.regionH ([cellE b1 (encIns.enc i) 35]) 12 rfl HLF.mixed ?_
            refine Tr.hT 0 rfl (by kernel_rfl) (panicIn (panicThen panicBody)) (QS.fieldAddr (off := 6) (ft := 3) rfl Tryz.underlying35 rfl rfl Tryz.sizeOf3 (by decide)) ?_
            refine Tr.hT 1 rfl (by kernel_rfl) (panicIn (panicThen panicBody)) (QS.lV rfl Tryz.isAgg3) ?_
            refine Tr.hT 2 rfl (by kernel_rfl) (panicIn (panicThen panicBody)) (QS.fieldAddr (off := 7) (ft := 3) rfl Tryz.underlying35 rfl rfl Tryz.sizeOf3 (by decide)) ?_
            refine Tr.hT 3 rfl (by kernel_rfl) (panicIn (panicThen panicBody)) (QS.lV rfl Tryz.isAgg3) ?_
            refine Tr.hT 4 rfl (by kernel_rfl) (panicIn (panicThen panicBody)) (QS.fieldAddr (off := 1) (ft := 33) rfl Tryz.underlying35 rfl rfl Tryz.sizeOf33 (by decide)) ?_
            refine Tr.hT 5 rfl (by kernel_rfl) (panicIn (panicThen panicBody)) (QS.lV rfl Tryz.isAgg33) ?_
            refine Tr.hT 6 rfl (by kernel_rfl) (panicIn (panicThen panicBody)) (QS.fieldAddr (off := 6) (ft := 3) rfl Tryz.underlying35 rfl rfl Tryz.sizeOf3 (by decide)) ?_
            refine Tr.hAll [7] (by kernel_rfl) (by simp) (fun iq hq => ?_)
            obtain rfl := List.mem_singleton.1 hq
            refine Tr.hOp rfl ?_
            refine Tr.storeV (cs' := [_, _, _, _, _, _, _, _, _]) rfl rfl Tryz.sizeOf3 (by repeat (first | exact Put.here _ | apply Put.there)) rfl (by rfl) (by first | exact Nat.le_of_ble_eq_true rfl | simp) (by first | exact List.all_eq_true.1 rfl | (intro u hu; simp [Value.cells] at hu; simp_all [Value.oneCell'])) rfl ?_
            refine Tr.hN ?_
            refine Tr.hT 8 rfl (by kernel_rfl) (panicIn (panicThen panicBody)) (QS.fieldAddr (off := 7) (ft := 3) rfl Tryz.underlying35 rfl rfl Tryz.sizeOf3 (by decide)) ?_
            refine Tr.hAll [9] (by kernel_rfl) (by simp) (fun iq hq => ?_)
            obtain rfl := List.mem_singleton.1 hq
            refine Tr.hOp rfl ?_
            refine Tr.storeV (cs' := [_, _, _, _, _, _, _, _, _]) rfl rfl Tryz.sizeOf3 (by repeat (first | exact Put.here _ | apply Put.there)) rfl (by rfl) (by first | exact Nat.le_of_ble_eq_true rfl | simp) (by first | exact List.all_eq_true.1 rfl | (intro u hu; simp [Value.cells] at hu; simp_all [Value.oneCell'])) rfl ?_
            refine Tr.hN ?_
            refine Tr.hT 10 rfl (by kernel_rfl) (panicIn (panicThen panicBody)) (QS.fieldAddr (off := 1) (ft := 33) rfl Tryz.underlying35 rfl rfl Tryz.sizeOf33 (by decide)) ?_
            refine Tr.hAll [11] (by kernel_rfl) (by simp) (fun iq hq => ?_)
            obtain rfl := List.mem_singleton.1 hq
            refine Tr.hOp rfl ?_
            refine Tr.storeV (cs' := [_, _, _, _, _, _, _, _, _]) rfl rfl Tryz.sizeOf33 (by repeat (first | exact Put.here _ | apply Put.there)) rfl (by rfl) (by first | exact Nat.le_of_ble_eq_true rfl | simp) (by first | exact List.all_eq_true.1 rfl | (intro u hu; simp [Value.cells] at hu; simp_all [Value.oneCell'])) rfl ?_
            refine Tr.hN ?_
            refine Tr.hDone (by kernel_rfl) ?_
            refine Tr.inN ?_
            refine Tr.thenN ?_
            apply Tr.joined ⟨i.addr, i.imm, i.op, 0, 0, 0, i.a, i.b, i.size⟩
            · exact rfl
            · exact Front.nil
            · exact SubX.dropN 20 (by kernel_rfl) rfl
            · exact (by repeat' (first | exact Pick.nil _ | exact Del.here _ | apply Pick.cons | apply Del.there))
            · exact (by simp only [kept1]; congr 1 <;> first | rfl | (rw [if_pos (by omega)]) | (rw [if_neg (by omega)]))
          · try simp only [bs] at h9
            refine Tr.seq ?_
            refine Tr.seq ?_
            refine Tr.region ?_
            refine Tr.q (QS.eql rfl rfl) rfl ?_
            refine Tr.q (QS.assign rfl) rfl ?_
            refine Tr.nil ?_
            refine Tr.thenN ?_
            apply Tr.condOr
            · exact rfl
            · intro hO10
              try simp only [bs] at hO10
              refine Tr.region ?_
              refine Tr.q (QS.eql rfl rfl) rfl ?_
              refine Tr.q (QS.assign rfl) rfl ?_
              refine Tr.nil ?_
              refine Tr.thenN ?_
              exact Tr.endOr rfl (SubX.dropN 2 (by kernel_rfl) rfl)
            refine Tr.thenN ?_
            refine Tr.cond rfl (fun h11 => ?_) (fun h11 => ?_)
            · try simp only [bs] at h11
              refine Tr.region ?_
              refine Tr.q (QS.fieldAddr (off := 1) (ft := 33) rfl Tryz.underlying35 rfl rfl Tryz.sizeOf33 (by decide)) rfl ?_
              refine Tr.q (QS.lV rfl Tryz.isAgg33) rfl ?_
              refine Tr.q (QS.fieldAddr (off := 1) (ft := 33) rfl Tryz.underlying35 rfl rfl Tryz.sizeOf33 (by decide)) rfl ?_
              refine Tr.storeV (cs' := [_, _, _, _, _, _, _, _, _]) rfl rfl Tryz.sizeOf33 (by repeat (first | exact Put.here _ | apply Put.there)) rfl (by rfl) (by first | exact Nat.le_of_ble_eq_true rfl | simp) (by first | exact List.all_eq_true.1 rfl | (intro u hu; simp [Value.cells] at hu; simp_all [Value.oneCell'])) rfl ?_
              refine Tr.nil ?_
              refine Tr.inN ?_
              refine Tr.thenN ?_
              apply Tr.joined ⟨i.addr, i.imm, i.op, 0, 0, 0, 0, 0, i.size⟩
              · exact rfl
              · exact Front.nil
              · exact SubX.dropN 17 (by kernel_rfl) rfl
              · exact (by repeat' (first | exact Pick.nil _ | exact Del.here _ | apply Pick.cons | apply Del.there))
              · exact (by simp only [kept1]; congr 1 <;> first | rfl | (rw [if_pos (by omega)]) | (rw [if_neg (by omega)]))
            · try simp only [bs] at h11
              refine Tr.skip ?_
              refine Tr.inN ?_
              refine Tr.thenN ?_
              apply Tr.joined ⟨i.addr, 0, i.op, 0, 0, 0, 0, 0, i.size⟩
              · exact rfl
              · exact Front.nil
              · exact SubX.dropN 14 (by kernel_rfl) rfl
              · exact (by repeat' (first | exact Pick.nil _ | exact Del.here _ | apply Pick.cons | apply Del.there))
              · exact (by simp only [kept1]; congr 1 <;> first | rfl | (rw [if_pos (by omega)]) | (rw [if_neg (by omega)]))
  · skip
    replace hi : k1 = kept1 i s := hi
    change Tr _ _ [cellE b3 (encIns.enc k1) 35, cellE b2 (encIns.enc zeroIns) 35, cellE b1 (encIns.enc i) 35] ([] ++ _) _
    refine Tr.seqJ (ι := Ins) (fun k2 => k2 = keptP i s) (fun _ => Bg.of w) (fun k2 => [cellE b3 (encIns.enc k2) 35, cellE b2 (encIns.enc zeroIns) 35, cellE b1 (encIns.enc i) 35]) (fun k2 => []) ?_ (fun k2 hi => ?_)
    · skip
      refine Tr.block ?_
      refine Tr.seq ?_
      refine Tr.region ?_
      refine Tr.q (QS.fieldAddr (off := 2) (ft := 3) rfl Tryz.underlying35 rfl rfl Tryz.sizeOf3 (by decide)) rfl ?_
      refine Tr.q (QS.lV rfl Tryz.isAgg3) rfl ?_
      refine Tr.q (QS.geq rfl rfl) rfl ?_
      refine Tr.q (QS.move rfl) rfl ?_
      apply Tr.andP
      · exact (rfl : _ = (4, 58, 62))
      · exact rfl
      · intro hT12; have hT12' := hT12
        try simp only [bs] at hT12'
        refine Tr.gq rfl rfl hT12 (QS.fieldAddr (off := 2) (ft := 3) rfl Tryz.underlying35 rfl rfl Tryz.sizeOf3 (by decide)) rfl ?_
        refine Tr.gq rfl rfl hT12 (QS.lV rfl Tryz.isAgg3) rfl ?_
        refine Tr.gq rfl rfl hT12 (QS.leq rfl rfl) rfl ?_
        refine Tr.q (QS.pickT rfl hT12 rfl) rfl ?_
        refine Tr.nil (Tr.thenN ?_)
        exact Tr.endX (Sub.cons rfl (Sub.dropN 4 (by kernel_rfl) rfl))
      · intro hF12
        refine Tr.gskip rfl rfl hF12 rfl ?_
        refine Tr.gskip rfl rfl hF12 rfl ?_
        refine Tr.gskip rfl rfl hF12 rfl ?_
        refine Tr.q (QS.pickF rfl hF12 rfl) rfl ?_
        refine Tr.nil (Tr.thenN ?_)
        exact Tr.endX (Sub.cons rfl (Sub.dropN 4 (by kernel_rfl) rfl))
      refine Tr.q (QS.assign rfl) rfl ?_
      refine Tr.nil ?_
      refine Tr.thenN ?_
      refine Tr.cond rfl (fun h13 => ?_) (fun h13 => ?_)
      · try simp only [bs] at h13
        refine Tr.region ?_
        refine Tr.q (QS.fieldAddr (off := 3) (ft := 3) rfl Tryz.underlying35 rfl rfl Tryz.sizeOf3 (by decide)) rfl ?_
        refine Tr.q (QS.lV rfl Tryz.isAgg3) rfl ?_
        refine Tr.q (QS.fieldAddr (off := 3) (ft := 3) rfl Tryz.underlying35 rfl rfl Tryz.sizeOf3 (by decide)) rfl ?_
        refine Tr.storeV (cs' := [_, _, _, _, _, _, _, _, _]) rfl rfl Tryz.sizeOf3 (by repeat (first | exact Put.here _ | apply Put.there)) rfl (by rfl) (by first | exact Nat.le_of_ble_eq_true rfl | simp) (by first | exact List.all_eq_true.1 rfl | (intro u hu; simp [Value.cells] at hu; simp_all [Value.oneCell'])) rfl ?_
        refine Tr.nil ?_
        refine Tr.inN ?_
        refine Tr.thenN ?_
        apply Tr.joined { k1 with form := i.form }
        · exact rfl
        · exact Front.nil
        · exact SubX.dropN 9 (by kernel_rfl) rfl
        · exact (by repeat' (first | exact Pick.nil _ | exact Del.here _ | apply Pick.cons | apply Del.there))
        · exact (by subst hi; rw [keptP_eq]; congr 1 <;> first | rfl | (rw [if_pos (by omega)]) | (rw [if_neg (by omega)]; rfl))
      · try simp only [bs] at h13
        refine Tr.seq ?_
        refine Tr.seq ?_
        refine Tr.region ?_
        refine Tr.q (QS.fieldAddr (off := 2) (ft := 3) rfl Tryz.underlying35 rfl rfl Tryz.sizeOf3 (by decide)) rfl ?_
        refine Tr.q (QS.lV rfl Tryz.isAgg3) rfl ?_
        refine Tr.q (QS.eql rfl rfl) rfl ?_
        refine Tr.q (QS.assign rfl) rfl ?_
        refine Tr.nil ?_
        refine Tr.thenN ?_
        apply Tr.condOr
        · exact rfl
        · intro hO14
          try simp only [bs] at hO14
          refine Tr.seq ?_
          refine Tr.region ?_
          refine Tr.q (QS.fieldAddr (off := 2) (ft := 3) rfl Tryz.underlying35 rfl rfl Tryz.sizeOf3 (by decide)) rfl ?_
          refine Tr.q (QS.lV rfl Tryz.isAgg3) rfl ?_
          refine Tr.q (QS.eql rfl rfl) rfl ?_
          refine Tr.q (QS.assign rfl) rfl ?_
          refine Tr.nil ?_
          refine Tr.thenN ?_
          apply Tr.condOr
          · exact rfl
          · intro hO15
            try simp only [bs] at hO15
            refine Tr.region ?_
            refine Tr.q (QS.fieldAddr (off := 2) (ft := 3) rfl Tryz.underlying35 rfl rfl Tryz.sizeOf3 (by decide)) rfl ?_
            refine Tr.q (QS.lV rfl Tryz.isAgg3) rfl ?_
            refine Tr.q (QS.eql rfl rfl) rfl ?_
            refine Tr.q (QS.assign rfl) rfl ?_
            refine Tr.nil ?_
            refine Tr.thenN ?_
            exact Tr.endOr rfl (SubX.dropN 4 (by kernel_rfl) rfl)
          refine Tr.thenN ?_
          exact Tr.endOr rfl (SubX.dropN 5 (by kernel_rfl) rfl)
        refine Tr.thenN ?_
        refine Tr.cond rfl (fun h16 => ?_) (fun h16 => ?_)
        · try simp only [bs] at h16
          refine Tr.region ?_
          refine Tr.q (QS.fieldAddr (off := 4) (ft := 3) rfl Tryz.underlying35 rfl rfl Tryz.sizeOf3 (by decide)) rfl ?_
          refine Tr.q (QS.lV rfl Tryz.isAgg3) rfl ?_
          refine Tr.q (QS.fieldAddr (off := 4) (ft := 3) rfl Tryz.underlying35 rfl rfl Tryz.sizeOf3 (by decide)) rfl ?_
          refine Tr.storeV (cs' := [_, _, _, _, _, _, _, _, _]) rfl rfl Tryz.sizeOf3 (by repeat (first | exact Put.here _ | apply Put.there)) rfl (by rfl) (by first | exact Nat.le_of_ble_eq_true rfl | simp) (by first | exact List.all_eq_true.1 rfl | (intro u hu; simp [Value.cells] at hu; simp_all [Value.oneCell'])) rfl ?_
          refine Tr.nil ?_
          refine Tr.inN ?_
          refine Tr.thenN ?_
          apply Tr.joined { k1 with width := i.width }
          · exact rfl
          · exact Front.nil
          · exact SubX.dropN 14 (by kernel_rfl) rfl
          · exact (by repeat' (first | exact Pick.nil _ | exact Del.here _ | apply Pick.cons | apply Del.there))
          · exact (by subst hi; rw [keptP_eq]; congr 1 <;> first | rfl | (rw [if_pos (by omega)]) | (rw [if_neg (by omega)]; rfl))
        · try simp only [bs] at h16
          refine Tr.seq ?_
          refine Tr.region ?_
          refine Tr.q (QS.fieldAddr (off := 2) (ft := 3) rfl Tryz.underlying35 rfl rfl Tryz.sizeOf3 (by decide)) rfl ?_
          refine Tr.q (QS.lV rfl Tryz.isAgg3) rfl ?_
          refine Tr.q (QS.eql rfl rfl) rfl ?_
          refine Tr.q (QS.assign rfl) rfl ?_
          refine Tr.nil ?_
          refine Tr.thenN ?_
          refine Tr.cond rfl (fun h17 => ?_) (fun h17 => ?_)
          · try simp only [bs] at h17
            refine Tr.regionH ([cellE b1 (encIns.enc i) 35]) 8 rfl HLF.mixed ?_
            refine Tr.hT 0 rfl (by kernel_rfl) (panicIn (panicThen panicBody)) (QS.fieldAddr (off := 3) (ft := 3) rfl Tryz.underlying35 rfl rfl Tryz.sizeOf3 (by decide)) ?_
            refine Tr.hT 1 rfl (by kernel_rfl) (panicIn (panicThen panicBody)) (QS.lV rfl Tryz.isAgg3) ?_
            refine Tr.hT 2 rfl (by kernel_rfl) (panicIn (panicThen panicBody)) (QS.fieldAddr (off := 5) (ft := 3) rfl Tryz.underlying35 rfl rfl Tryz.sizeOf3 (by decide)) ?_
            refine Tr.hT 3 rfl (by kernel_rfl) (panicIn (panicThen panicBody)) (QS.lV rfl Tryz.isAgg3) ?_
            refine Tr.hT 4 rfl (by kernel_rfl) (panicIn (panicThen panicBody)) (QS.fieldAddr (off := 3) (ft := 3) rfl Tryz.underlying35 rfl rfl Tryz.sizeOf3 (by decide)) ?_
            refine Tr.hAll [5] (by kernel_rfl) (by simp) (fun iq hq => ?_)
            obtain rfl := List.mem_singleton.1 hq
            refine Tr.hOp rfl ?_
            refine Tr.storeV (cs' := [_, _, _, _, _, _, _, _, _]) rfl rfl Tryz.sizeOf3 (by repeat (first | exact Put.here _ | apply Put.there)) rfl (by rfl) (by first | exact Nat.le_of_ble_eq_true rfl | simp) (by first | exact List.all_eq_true.1 rfl | (intro u hu; simp [Value.cells] at hu; simp_all [Value.oneCell'])) rfl ?_
            refine Tr.hN ?_
            refine Tr.hT 6 rfl (by kernel_rfl) (panicIn (panicThen panicBody)) (QS.fieldAddr (off := 5) (ft := 3) rfl Tryz.underlying35 rfl rfl Tryz.sizeOf3 (by decide)) ?_
            refine Tr.hAll [7] (by kernel_rfl) (by simp) (fun iq hq => ?_)
            obtain rfl := List.mem_singleton.1 hq
            refine Tr.hOp rfl ?_
            refine Tr.storeV (cs' := [_, _, _, _, _, _, _, _, _]) rfl rfl Tryz.sizeOf3 (by repeat (first | exact Put.here _ | apply Put.there)) rfl (by rfl) (by first | exact Nat.le_of_ble_eq_true rfl | simp) (by first | exact List.all_eq_true.1 rfl | (intro u hu; simp [Value.cells] at hu; simp_all [Value.oneCell'])) rfl ?_
            refine Tr.hN ?_
            refine Tr.hDone (by kernel_rfl) ?_
            refine Tr.inN ?_
            refine Tr.thenN ?_
            apply Tr.joined { k1 with form := i.form, cc := i.cc }
            · exact rfl
            · exact Front.nil
            · exact SubX.dropN 21 (by kernel_rfl) rfl
            · exact (by repeat' (first | exact Pick.nil _ | exact Del.here _ | apply Pick.cons | apply Del.there))
            · exact (by subst hi; rw [keptP_eq]; congr 1 <;> first | rfl | (rw [if_pos (by omega)]) | (rw [if_neg (by omega)]; rfl))
          · try simp only [bs] at h17
            refine Tr.seq ?_
            refine Tr.region ?_
            refine Tr.q (QS.fieldAddr (off := 2) (ft := 3) rfl Tryz.underlying35 rfl rfl Tryz.sizeOf3 (by decide)) rfl ?_
            refine Tr.q (QS.lV rfl Tryz.isAgg3) rfl ?_
            refine Tr.q (QS.eql rfl rfl) rfl ?_
            refine Tr.q (QS.assign rfl) rfl ?_
            refine Tr.nil ?_
            refine Tr.thenN ?_
            refine Tr.cond rfl (fun h18 => ?_) (fun h18 => ?_)
            · try simp only [bs] at h18
              refine Tr.region ?_
              refine Tr.q (QS.fieldAddr (off := 5) (ft := 3) rfl Tryz.underlying35 rfl rfl Tryz.sizeOf3 (by decide)) rfl ?_
              refine Tr.q (QS.lV rfl Tryz.isAgg3) rfl ?_
              refine Tr.q (QS.fieldAddr (off := 5) (ft := 3) rfl Tryz.underlying35 rfl rfl Tryz.sizeOf3 (by decide)) rfl ?_
              refine Tr.storeV (cs' := [_, _, _, _, _, _, _, _, _]) rfl rfl Tryz.sizeOf3 (by repeat (first | exact Put.here _ | apply Put.there)) rfl (by rfl) (by first | exact Nat.le_of_ble_eq_true rfl | simp) (by first | exact List.all_eq_true.1 rfl | (intro u hu; simp [Value.cells] at hu; simp_all [Value.oneCell'])) rfl ?_
              refine Tr.nil ?_
              refine Tr.inN ?_
              refine Tr.thenN ?_
              apply Tr.joined { k1 with cc := i.cc }
              · exact rfl
              · exact Front.nil
              · exact SubX.dropN 22 (by kernel_rfl) rfl
              · exact (by repeat' (first | exact Pick.nil _ | exact Del.here _ | apply Pick.cons | apply Del.there))
              · exact (by subst hi; rw [keptP_eq]; congr 1 <;> first | rfl | (rw [if_pos (by omega)]) | (rw [if_neg (by omega)]; rfl))
            · try simp only [bs] at h18
              refine Tr.skip ?_
              refine Tr.inN ?_
              refine Tr.thenN ?_
              apply Tr.joined k1
              · exact rfl
              · exact Front.nil
              · exact SubX.dropN 19 (by kernel_rfl) rfl
              · exact (by repeat' (first | exact Pick.nil _ | exact Del.here _ | apply Pick.cons | apply Del.there))
              · exact (by subst hi; rw [keptP_eq, if_neg (by omega), if_neg (by omega), if_neg (by omega)]; rfl)
    · skip
      replace hi : k2 = keptP i s := hi
      change Tr _ _ [cellE b3 (encIns.enc k2) 35, cellE b2 (encIns.enc zeroIns) 35, cellE b1 (encIns.enc i) 35] ([] ++ _) _
      refine Tr.seq ?_
      refine Tr.region ?_
      refine Tr.q (QS.lW rfl Tryz.isAgg35 Tryz.sizeOf35) rfl ?_
      refine Tr.storeW rfl rfl Tryz.sizeOf35 (by repeat (first | exact Put.here _ | apply Put.there)) (by rfl) (by rfl) (by first | exact List.all_eq_true.1 rfl | exact Enc.one _ _ | exact Enc.one encIns _) rfl ?_
      refine Tr.nil ?_
      refine Tr.thenN ?_
      refine Tr.ret ?_
      refine Tr.retC1 Tryz.results80 rfl (by repeat (first | exact List.Mem.head _ | apply List.Mem.tail)) Tryz.isAgg35 Tryz.sizeOf35 (by rfl) (fun w' hw => ?_)
      exact ⟨by subst hi; rfl, hw.below (Bg.le.refl _)⟩
set_option maxRecDepth 100000 in
set_option maxHeartbeats 2000000 in
theorem check_any (i : Ins) (w : World) (hI : InsOK i) :
    Calls Tryz.prog 50 #[.agg (encIns.enc i).toArray] w (fun e w' => e = .returned ((.tuple #[.int .u8 (checkP i).1.toNat, .int .i64 (checkP i).2.1, .int .i64 (checkP i).2.2])) ∧ Ext w w') := by
  refine enter Tryz.func50 rfl Tryz.ntmps50 rfl ?_
  refine Tr.seq ?_
  refine Tr.region ?_
  refine Tr.box rfl rfl rfl (fun b1 => ?_)
  refine Tr.q (QS.assign rfl) rfl ?_
  refine Tr.q (QS.assign rfl) rfl ?_
  refine Tr.q (QS.assign rfl) rfl ?_
  refine Tr.nil ?_
  refine Tr.thenN ?_
  refine Tr.seq ?_
  refine Tr.region ?_
  refine Tr.q (QS.lW rfl Tryz.isAgg35 Tryz.sizeOf35) rfl ?_
  refine Tr.q (QS.call rfl Tryz.call78 (fun w hw => opcode_any i w hI)) rfl ?_
  refine Tr.q (QS.move rfl) rfl ?_
  refine Tr.q (QS.extract rfl rfl) rfl ?_
  refine Tr.q (QS.extract rfl rfl) rfl ?_
  refine Tr.q (QS.extract rfl rfl) rfl ?_
  refine Tr.q (QS.assign rfl) rfl ?_
  refine Tr.q (QS.assign rfl) rfl ?_
  refine Tr.q (QS.assign rfl) rfl ?_
  refine Tr.nil ?_
  refine Tr.thenN ?_
  refine Tr.seq ?_
  refine Tr.seq ?_
  refine Tr.regionQ HLF.mixed (by kernel_rfl) ?_
  refine TrQ.q (QS.move rfl) rfl ?_
  refine TrQ.q (QS.not rfl) rfl ?_
  refine TrQ.q (QS.move rfl) rfl ?_
  apply TrQ.orP
  · exact (rfl : _ = (5, 16, 21))
  · exact rfl
  · intro hF2; have hF2' := hF2
    try simp only [bs] at hF2'
    refine TrQ.gq rfl rfl hF2 (QS.fieldAddr (off := 6) (ft := 3) rfl Tryz.underlying35 rfl rfl Tryz.sizeOf3 (by decide)) rfl ?_
    refine TrQ.gq rfl rfl hF2 (QS.lV rfl Tryz.isAgg3) rfl ?_
    refine TrQ.gq rfl rfl hF2 (QS.call rfl Tryz.call79 (fun w hw => register_any i.a w)) rfl ?_
    refine TrQ.gq rfl rfl hF2 (QS.not rfl) rfl ?_
    refine TrQ.q (QS.pickF rfl hF2 rfl) rfl ?_
    exact TrQ.end (Sub.cons rfl (Sub.dropN 5 (by kernel_rfl) rfl))
  · intro hT2
    refine TrQ.gskip rfl rfl hT2 rfl ?_
    refine TrQ.gskip rfl rfl hT2 rfl ?_
    refine TrQ.gskip rfl rfl hT2 rfl ?_
    refine TrQ.gskip rfl rfl hT2 rfl ?_
    refine TrQ.q (QS.pickT rfl hT2 rfl) rfl ?_
    exact TrQ.end (Sub.cons rfl (Sub.dropN 5 (by kernel_rfl) rfl))
  refine TrQ.q (QS.move rfl) rfl ?_
  apply TrQ.orP
  · exact (rfl : _ = (5, 22, 27))
  · exact rfl
  · intro hF3; have hF3' := hF3
    try simp only [bs] at hF3'
    refine TrQ.gq rfl rfl hF3 (QS.fieldAddr (off := 7) (ft := 3) rfl Tryz.underlying35 rfl rfl Tryz.sizeOf3 (by decide)) rfl ?_
    refine TrQ.gq rfl rfl hF3 (QS.lV rfl Tryz.isAgg3) rfl ?_
    refine TrQ.gq rfl rfl hF3 (QS.call rfl Tryz.call79 (fun w hw => register_any i.b w)) rfl ?_
    refine TrQ.gq rfl rfl hF3 (QS.not rfl) rfl ?_
    refine TrQ.q (QS.pickF rfl hF3 rfl) rfl ?_
    exact TrQ.end (Sub.cons rfl (Sub.dropN 5 (by kernel_rfl) rfl))
  · intro hT3
    refine TrQ.gskip rfl rfl hT3 rfl ?_
    refine TrQ.gskip rfl rfl hT3 rfl ?_
    refine TrQ.gskip rfl rfl hT3 rfl ?_
    refine TrQ.gskip rfl rfl hT3 rfl ?_
    refine TrQ.q (QS.pickT rfl hT3 rfl) rfl ?_
    exact TrQ.end (Sub.cons rfl (Sub.dropN 5 (by kernel_rfl) rfl))
  refine TrQ.q (QS.move rfl) rfl ?_
  apply TrQ.orP
  · exact (rfl : _ = (6, 28, 34))
  · exact rfl
  · intro hF4; have hF4' := hF4
    try simp only [bs] at hF4'
    refine TrQ.gq rfl rfl hF4 (QS.lW rfl Tryz.isAgg35 Tryz.sizeOf35) rfl ?_
    refine TrQ.gq rfl rfl hF4 (QS.move rfl) rfl ?_
    refine TrQ.gq rfl rfl hF4 (QS.call rfl Tryz.call80 (fun w hw => kept_any i (opcodeP i).2.1 w)) rfl ?_
    refine TrQ.gq rfl rfl hF4 (QS.lW rfl Tryz.isAgg35 Tryz.sizeOf35) rfl ?_
    refine TrQ.gq rfl rfl hF4 (QS.neqE rfl rfl insEqEnc Tryz.underlying35 (HLF.words35 _ Tryz.underlying35) rfl HLF.held35 HLF.eqg35) rfl ?_
    refine TrQ.q (QS.pickF rfl hF4 rfl) rfl ?_
    exact TrQ.end (Sub.cons rfl (Sub.dropN 6 (by kernel_rfl) rfl))
  · intro hT4
    refine TrQ.gskip rfl rfl hT4 rfl ?_
    refine TrQ.gskip rfl rfl hT4 rfl ?_
    refine TrQ.gskip rfl rfl hT4 rfl ?_
    refine TrQ.gskip rfl rfl hT4 rfl ?_
    refine TrQ.gskip rfl rfl hT4 rfl ?_
    refine TrQ.q (QS.pickT rfl hT4 rfl) rfl ?_
    exact TrQ.end (Sub.cons rfl (Sub.dropN 6 (by kernel_rfl) rfl))
  refine TrQ.nil ?_
  refine Tr.thenN ?_
  refine Tr.cond rfl (fun h5 => ?_) (fun h5 => ?_)
  · try simp only [bs] at h5
    refine Tr.seq ?_
    refine Tr.region ?_
    refine Tr.q (QS.assign rfl) rfl ?_
    refine Tr.q (QS.assign rfl) rfl ?_
    refine Tr.q (QS.assign rfl) rfl ?_
    refine Tr.nil ?_
    refine Tr.thenN ?_
    refine Tr.ret ?_
    refine Tr.thenR ?_
    refine Tr.ret3 Tryz.results50 rfl rfl rfl (fun w' hw => ?_)
    exact ⟨by rw [checkP_2 (by simp_all [or_assoc])]; rfl, hw.below (Bg.le.refl _)⟩
  · try simp only [bs] at h5
    refine Tr.skip ?_
    refine Tr.thenN ?_
    refine Tr.seq ?_
    refine Tr.seq ?_
    refine Tr.region ?_
    refine Tr.q (QS.move rfl) rfl ?_
    refine Tr.q (QS.eql rfl rfl) rfl ?_
    refine Tr.q (QS.move rfl) rfl ?_
    apply Tr.orP
    · exact (rfl : _ = (3, 37, 40))
    · exact rfl
    · intro hF6; have hF6' := hF6
      try simp only [bs] at hF6'
      refine Tr.gq rfl rfl hF6 (QS.move rfl) rfl ?_
      refine Tr.gq rfl rfl hF6 (QS.eql rfl rfl) rfl ?_
      refine Tr.q (QS.pickF rfl hF6 rfl) rfl ?_
      refine Tr.nil (Tr.thenN ?_)
      exact Tr.endX (Sub.cons rfl (Sub.dropN 3 (by kernel_rfl) rfl))
    · intro hT6
      refine Tr.gskip rfl rfl hT6 rfl ?_
      refine Tr.gskip rfl rfl hT6 rfl ?_
      refine Tr.q (QS.pickT rfl hT6 rfl) rfl ?_
      refine Tr.nil (Tr.thenN ?_)
      exact Tr.endX (Sub.cons rfl (Sub.dropN 3 (by kernel_rfl) rfl))
    refine Tr.q (QS.move rfl) rfl ?_
    apply Tr.andP
    · exact (rfl : _ = (5, 41, 46))
    · exact rfl
    · intro hT7; have hT7' := hT7
      try simp only [bs] at hT7'
      refine Tr.gq rfl rfl hT7 (QS.fieldAddr (off := 1) (ft := 33) rfl Tryz.underlying35 rfl rfl Tryz.sizeOf33 (by decide)) rfl ?_
      refine Tr.gq rfl rfl hT7 (QS.lV rfl Tryz.isAgg33) rfl ?_
      refine Tr.gq rfl rfl hT7 (QS.call rfl Tryz.call81 (fun w hw => narrow_any i.imm w)) rfl ?_
      refine Tr.gq rfl rfl hT7 (QS.not rfl) rfl ?_
      refine Tr.q (QS.pickT rfl hT7 rfl) rfl ?_
      refine Tr.nil (Tr.thenN ?_)
      exact Tr.endX (Sub.cons rfl (Sub.dropN 5 (by kernel_rfl) rfl))
    · intro hF7
      refine Tr.gskip rfl rfl hF7 rfl ?_
      refine Tr.gskip rfl rfl hF7 rfl ?_
      refine Tr.gskip rfl rfl hF7 rfl ?_
      refine Tr.gskip rfl rfl hF7 rfl ?_
      refine Tr.q (QS.pickF rfl hF7 rfl) rfl ?_
      refine Tr.nil (Tr.thenN ?_)
      exact Tr.endX (Sub.cons rfl (Sub.dropN 5 (by kernel_rfl) rfl))
    refine Tr.q (QS.move rfl) rfl ?_
    apply Tr.orP
    · exact (rfl : _ = (13, 47, 60))
    · exact rfl
    · intro hF8; have hF8' := hF8
      try simp only [bs] at hF8'
      refine Tr.gq rfl rfl hF8 (QS.move rfl) rfl ?_
      refine Tr.gq rfl rfl hF8 (QS.eql rfl rfl) rfl ?_
      refine Tr.gq rfl rfl hF8 (QS.move rfl) rfl ?_
      apply Tr.andP
      · exact (rfl : _ = (9, 50, 59))
      · exact rfl
      · intro hT9; have hT9' := hT9
        try simp only [bs] at hT9'
        refine Tr.gq rfl rfl hT9 (QS.fieldAddr (off := 1) (ft := 33) rfl Tryz.underlying35 rfl rfl Tryz.sizeOf33 (by decide)) rfl ?_
        refine Tr.gq rfl rfl hT9 (QS.lV rfl Tryz.isAgg33) rfl ?_
        refine Tr.gq rfl rfl hT9 (QS.fieldAddr (off := 0) (ft := 33) rfl Tryz.underlying35 rfl rfl Tryz.sizeOf33 (by decide)) rfl ?_
        refine Tr.gq rfl rfl hT9 (QS.lV rfl Tryz.isAgg33) rfl ?_
        refine Tr.gq rfl rfl hT9 (QS.sub32 rfl rfl) rfl ?_
        refine Tr.gq rfl rfl hT9 (QS.sub32 (n := 2) rfl rfl) rfl ?_
        refine Tr.gq rfl rfl hT9 (QS.call rfl Tryz.call81 (fun w hw => narrow_any (i.imm - i.addr - 2) w)) rfl ?_
        refine Tr.gq rfl rfl hT9 (QS.not rfl) rfl ?_
        refine Tr.gq rfl rfl hF8 (QS.pickT rfl hT9 rfl) rfl ?_
        refine Tr.nil (Tr.thenN ?_)
        exact Tr.endX (Sub.cons rfl (Sub.dropN 9 (by kernel_rfl) rfl))
      · intro hF9
        refine Tr.gskip rfl rfl hF9 rfl ?_
        refine Tr.gskip rfl rfl hF9 rfl ?_
        refine Tr.gskip rfl rfl hF9 rfl ?_
        refine Tr.gskip rfl rfl hF9 rfl ?_
        refine Tr.gskip rfl rfl hF9 rfl ?_
        refine Tr.gskip rfl rfl hF9 rfl ?_
        refine Tr.gskip rfl rfl hF9 rfl ?_
        refine Tr.gskip rfl rfl hF9 rfl ?_
        refine Tr.gq rfl rfl hF8 (QS.pickF rfl hF9 rfl) rfl ?_
        refine Tr.nil (Tr.thenN ?_)
        exact Tr.endX (Sub.cons rfl (Sub.dropN 9 (by kernel_rfl) rfl))
      refine Tr.q (QS.pickF rfl hF8 rfl) rfl ?_
      refine Tr.nil (Tr.thenN ?_)
      exact Tr.endX (Sub.cons rfl (Sub.dropN 5 (by kernel_rfl) rfl))
    · intro hT8
      refine Tr.gskip rfl rfl hT8 rfl ?_
      refine Tr.gskip rfl rfl hT8 rfl ?_
      refine Tr.gskip rfl rfl hT8 rfl ?_
      refine Tr.gskipU rfl rfl rfl ?_
      refine Tr.gskipU rfl rfl rfl ?_
      refine Tr.gskipU rfl rfl rfl ?_
      refine Tr.gskipU rfl rfl rfl ?_
      refine Tr.gskipU rfl rfl rfl ?_
      refine Tr.gskipU rfl rfl rfl ?_
      refine Tr.gskipU rfl rfl rfl ?_
      refine Tr.gskipU rfl rfl rfl ?_
      refine Tr.gskip rfl rfl hT8 rfl ?_
      refine Tr.q (QS.pickT rfl hT8 rfl) rfl ?_
      refine Tr.nil (Tr.thenN ?_)
      exact Tr.endX (Sub.cons rfl (Sub.dropN 13 (by kernel_rfl) rfl))
    refine Tr.nil ?_
    refine Tr.thenN ?_
    refine Tr.cond rfl (fun h10 => ?_) (fun h10 => ?_)
    · try simp only [bs] at h10
      refine Tr.seq ?_
      refine Tr.region ?_
      refine Tr.q (QS.assign rfl) rfl ?_
      refine Tr.q (QS.assign rfl) rfl ?_
      refine Tr.q (QS.assign rfl) rfl ?_
      refine Tr.nil ?_
      refine Tr.thenN ?_
      refine Tr.ret ?_
      refine Tr.thenR ?_
      refine Tr.ret3 Tryz.results50 rfl rfl rfl (fun w' hw => ?_)
      exact ⟨by rw [checkP_7 (by simp_all) (by simp_all)]; rfl, hw.below (Bg.le.refl _)⟩
    · try simp only [bs] at h10
      refine Tr.skip ?_
      refine Tr.thenN ?_
      refine Tr.seq ?_
      refine Tr.region ?_
      refine Tr.q (QS.move rfl) rfl ?_
      refine Tr.q (QS.move rfl) rfl ?_
      refine Tr.q (QS.assign rfl) rfl ?_
      refine Tr.q (QS.assign rfl) rfl ?_
      refine Tr.q (QS.assign rfl) rfl ?_
      refine Tr.nil ?_
      refine Tr.thenN ?_
      refine Tr.ret ?_
      refine Tr.ret3 Tryz.results50 rfl rfl rfl (fun w' hw => ?_)
      exact ⟨by rw [checkP_ok (errP_0 (by simp_all) (by intro hc; rcases hc with ⟨h1 | h1, h2⟩ | ⟨h1, h2⟩ <;> simp_all))]; rfl, hw.below (Bg.le.refl _)⟩
set_option maxRecDepth 100000 in
set_option maxHeartbeats 2000000 in
theorem size_any (s : Int) (w : World) (hs : 0 ≤ s ∧ s ≤ 8) :
    Calls Tryz.prog 82 #[.int .i64 s] w (fun e w' => e = .returned (.int .i64 (sizeP s)) ∧ Ext w w') := by
  refine enter Tryz.func82 rfl Tryz.ntmps82 rfl ?_
  refine Tr.seq ?_
  refine Tr.region ?_
  refine Tr.q (QS.assign rfl) rfl ?_
  refine Tr.nil ?_
  refine Tr.thenN ?_
  refine Tr.seq ?_
  refine Tr.region ?_
  refine Tr.q (QS.move rfl) rfl ?_
  refine Tr.q (QS.strIdx rfl rfl Tryz.underlying9 (by refine ⟨by omega, ?_⟩; show s < 9; omega)) rfl ?_
  refine Tr.q (QS.sub8 (n := 48) rfl rfl) rfl ?_
  refine Tr.q (QS.cvt8toI rfl Tryz.underlying5 Tryz.underlying3) rfl ?_
  refine Tr.q (QS.assign rfl) rfl ?_
  refine Tr.nil ?_
  refine Tr.thenN ?_
  refine Tr.ret ?_
  refine Tr.ret1 Tryz.results82 rfl (fun w' hw => ?_)
  exact ⟨by obtain rfl | rfl | rfl | rfl | rfl | rfl | rfl | rfl | rfl : s = 0 ∨ s = 1 ∨ s = 2 ∨ s = 3 ∨ s = 4 ∨ s = 5 ∨ s = 6 ∨ s = 7 ∨ s = 8 := (by omega) <;> rfl, hw.below (Bg.le.refl _)⟩
set_option maxRecDepth 100000 in
set_option maxHeartbeats 2000000 in
theorem valid_isa (i : Ins) (w : World) (hI : InsOK i) :
    Calls Tryz.prog 15 #[.agg (encIns.enc i).toArray] w (fun e w' => e = .returned (.bool (decide (errP i = 0))) ∧ Ext w w') := by
  refine enter Tryz.func15 rfl Tryz.ntmps15 rfl ?_
  refine Tr.seq ?_
  refine Tr.region ?_
  refine Tr.box rfl rfl rfl (fun b1 => ?_)
  refine Tr.q (QS.assign rfl) rfl ?_
  refine Tr.nil ?_
  refine Tr.thenN ?_
  refine Tr.seq ?_
  refine Tr.region ?_
  refine Tr.q (QS.lW rfl Tryz.isAgg35 Tryz.sizeOf35) rfl ?_
  refine Tr.q (QS.call rfl Tryz.call50 (fun w hw => check_any i w hI)) rfl ?_
  refine Tr.q (QS.move rfl) rfl ?_
  refine Tr.q (QS.extract rfl rfl) rfl ?_
  refine Tr.q (QS.extract rfl rfl) rfl ?_
  refine Tr.q (QS.extract rfl rfl) rfl ?_
  refine Tr.q (QS.assign rfl) rfl ?_
  refine Tr.q (QS.assign rfl) rfl ?_
  refine Tr.q (QS.assign rfl) rfl ?_
  refine Tr.nil ?_
  refine Tr.thenN ?_
  refine Tr.seq ?_
  refine Tr.region ?_
  refine Tr.q (QS.move rfl) rfl ?_
  refine Tr.q (QS.eql rfl rfl) rfl ?_
  refine Tr.q (QS.assign rfl) rfl ?_
  refine Tr.nil ?_
  refine Tr.thenN ?_
  refine Tr.ret ?_
  refine Tr.ret1 Tryz.results15 rfl (fun w' hw => ?_)
  exact ⟨by rw [checkP_err], hw.below (Bg.le.refl _)⟩
set_option maxRecDepth 100000 in
set_option maxHeartbeats 2000000 in
theorem length_isa (i : Ins) (w : World) (hI : InsOK i) :
    Calls Tryz.prog 51 #[.agg (encIns.enc i).toArray] w (fun e w' => e = .returned (.int .i64 (lengthPI i)) ∧ Ext w w') := by
  refine enter Tryz.func51 rfl Tryz.ntmps51 rfl ?_
  refine Tr.seq ?_
  refine Tr.region ?_
  refine Tr.box rfl rfl rfl (fun b1 => ?_)
  refine Tr.q (QS.assign rfl) rfl ?_
  refine Tr.nil ?_
  refine Tr.thenN ?_
  refine Tr.seq ?_
  refine Tr.region ?_
  refine Tr.q (QS.lW rfl Tryz.isAgg35 Tryz.sizeOf35) rfl ?_
  refine Tr.q (QS.call rfl Tryz.call50 (fun w hw => check_any i w hI)) rfl ?_
  refine Tr.q (QS.move rfl) rfl ?_
  refine Tr.q (QS.extract rfl rfl) rfl ?_
  refine Tr.q (QS.extract rfl rfl) rfl ?_
  refine Tr.q (QS.extract rfl rfl) rfl ?_
  refine Tr.q (QS.assign rfl) rfl ?_
  refine Tr.q (QS.assign rfl) rfl ?_
  refine Tr.q (QS.assign rfl) rfl ?_
  refine Tr.nil ?_
  refine Tr.thenN ?_
  refine Tr.seq ?_
  refine Tr.seq ?_
  refine Tr.region ?_
  refine Tr.q (QS.move rfl) rfl ?_
  refine Tr.q (QS.neq rfl rfl) rfl ?_
  refine Tr.nil ?_
  refine Tr.thenN ?_
  refine Tr.cond rfl (fun h2 => ?_) (fun h2 => ?_)
  · try simp only [bs] at h2
    refine Tr.seq ?_
    refine Tr.region ?_
    refine Tr.q (QS.assign rfl) rfl ?_
    refine Tr.nil ?_
    refine Tr.thenN ?_
    refine Tr.ret ?_
    refine Tr.thenR ?_
    refine Tr.ret1 Tryz.results51 rfl (fun w' hw => ?_)
    exact ⟨by unfold lengthPI; rw [if_neg (by rw [← checkP_err]; assumption)], hw.below (Bg.le.refl _)⟩
  · try simp only [bs] at h2
    refine Tr.skip ?_
    refine Tr.thenN ?_
    refine Tr.seq ?_
    refine Tr.region ?_
    refine Tr.q (QS.move rfl) rfl ?_
    refine Tr.q (QS.call rfl Tryz.call82 (fun w hw => size_any (checkP i).2.1 w (checkP_shape i))) rfl ?_
    refine Tr.q (QS.assign rfl) rfl ?_
    refine Tr.nil ?_
    refine Tr.thenN ?_
    refine Tr.ret ?_
    refine Tr.ret1 Tryz.results51 rfl (fun w' hw => ?_)
    exact ⟨by have he : errP i = 0 := (by rw [← checkP_err]; assumption); unfold lengthPI; rw [if_pos he, checkP_ok he], hw.below (Bg.le.refl _)⟩
set_option maxRecDepth 100000 in
set_option maxHeartbeats 2000000 in
theorem target_isa (i : Ins) (w : World) :
    Calls Tryz.prog 70 #[.agg (encIns.enc i).toArray] w (fun e w' => e = .returned (.tuple #[.int .u32 (targetP i).1.toNat, .bool (targetP i).2]) ∧ Ext w w') := by
  refine enter Tryz.func70 rfl Tryz.ntmps70 rfl ?_
  refine Tr.seq ?_
  refine Tr.region ?_
  refine Tr.box rfl rfl rfl (fun b1 => ?_)
  refine Tr.q (QS.assign rfl) rfl ?_
  refine Tr.q (QS.assign rfl) rfl ?_
  refine Tr.nil ?_
  refine Tr.thenN ?_
  refine Tr.seq ?_
  refine Tr.seq ?_
  refine Tr.region ?_
  refine Tr.q (QS.fieldAddr (off := 2) (ft := 3) rfl Tryz.underlying35 rfl rfl Tryz.sizeOf3 (by decide)) rfl ?_
  refine Tr.q (QS.lV rfl Tryz.isAgg3) rfl ?_
  refine Tr.q (QS.eql rfl rfl) rfl ?_
  refine Tr.q (QS.move rfl) rfl ?_
  apply Tr.orP
  · exact (rfl : _ = (4, 7, 11))
  · exact rfl
  · intro hF2; have hF2' := hF2
    try simp only [bs] at hF2'
    refine Tr.gq rfl rfl hF2 (QS.fieldAddr (off := 2) (ft := 3) rfl Tryz.underlying35 rfl rfl Tryz.sizeOf3 (by decide)) rfl ?_
    refine Tr.gq rfl rfl hF2 (QS.lV rfl Tryz.isAgg3) rfl ?_
    refine Tr.gq rfl rfl hF2 (QS.eql rfl rfl) rfl ?_
    refine Tr.q (QS.pickF rfl hF2 rfl) rfl ?_
    refine Tr.nil (Tr.thenN ?_)
    exact Tr.endX (Sub.cons rfl (Sub.dropN 4 (by kernel_rfl) rfl))
  · intro hT2
    refine Tr.gskip rfl rfl hT2 rfl ?_
    refine Tr.gskip rfl rfl hT2 rfl ?_
    refine Tr.gskip rfl rfl hT2 rfl ?_
    refine Tr.q (QS.pickT rfl hT2 rfl) rfl ?_
    refine Tr.nil (Tr.thenN ?_)
    exact Tr.endX (Sub.cons rfl (Sub.dropN 4 (by kernel_rfl) rfl))
  refine Tr.nil ?_
  refine Tr.thenN ?_
  refine Tr.cond rfl (fun h3 => ?_) (fun h3 => ?_)
  · try simp only [bs] at h3
    refine Tr.seq ?_
    refine Tr.region ?_
    refine Tr.q (QS.fieldAddr (off := 1) (ft := 33) rfl Tryz.underlying35 rfl rfl Tryz.sizeOf33 (by decide)) rfl ?_
    refine Tr.q (QS.lV rfl Tryz.isAgg33) rfl ?_
    refine Tr.q (QS.assign rfl) rfl ?_
    refine Tr.q (QS.assign rfl) rfl ?_
    refine Tr.nil ?_
    refine Tr.thenN ?_
    refine Tr.ret ?_
    refine Tr.thenR ?_
    refine Tr.ret2 Tryz.results70 rfl rfl (fun w' hw => ?_)
    exact ⟨by unfold targetP; (repeat (first | rw [if_pos (by omega)] | rw [if_neg (by omega)])) <;> rfl, hw.below (Bg.le.refl _)⟩
  · try simp only [bs] at h3
    refine Tr.skip ?_
    refine Tr.thenN ?_
    refine Tr.seq ?_
    refine Tr.region ?_
    refine Tr.q (QS.assign rfl) rfl ?_
    refine Tr.q (QS.assign rfl) rfl ?_
    refine Tr.nil ?_
    refine Tr.thenN ?_
    refine Tr.ret ?_
    refine Tr.ret2 Tryz.results70 rfl rfl (fun w' hw => ?_)
    exact ⟨by unfold targetP; (repeat (first | rw [if_pos (by omega)] | rw [if_neg (by omega)])) <;> rfl, hw.below (Bg.le.refl _)⟩
end Go.Proofs.YtmhbfelnjkhepaaGreat
namespace Go.HL
open Go Go.RowKit Go.Sort
open Go.Shelf (Ren)
open Go.Proofs (SlLaysF0.n6 CmpLays ltOf)
theorem Ext.grown {w w' : World} (h : Ext w w') : ∃ q os', w' = grow (w.drewN q) os' := by
  refine ⟨w'.drawn - w.drawn, w'.heap.extract w.heap.size w'.heap.size, ?_⟩
  obtain ⟨⟨h1, h2, h3, h4, h5⟩, h6⟩ := h
  obtain ⟨hp', t', d', o', u'⟩ := w'
  simp only at h1 h2 h3 h4 h5 h6 ⊢
  subst h1; subst h2; subst h3
  simp only [grow, World.drewN, World.mk.injEq, true_and, and_true]
  refine ⟨?_, by omega⟩
  apply Array.ext_getElem?
  intro k
  rw [Array.getElem?_append]
  by_cases hk : k < w.heap.size
  · rw [if_pos hk, h5 k hk]
  · rw [if_neg hk]
    simp only [Array.getElem?_extract]
    by_cases hk2 : k < hp'.size
    · rw [if_pos (by omega), show w.heap.size + (k - w.heap.size) = k by omega]
    · rw [if_neg (by omega), Array.getElem?_eq_none (by omega)]
theorem flatK_toList {α : Type} [Inhabited α] (E : Enc α) (d : Array α) : (flatK E.enc E.k d).toList = d.toList.flatMap E.enc := by
  apply List.ext_getElem?
  intro t
  by_cases ht : t < d.size * E.k
  · have k0 : 0 < E.k := by rcases Nat.eq_zero_or_pos E.k with h | h
                            · rw [h] at ht; simp at ht
                            · exact h
    have hi : t / E.k < d.size := by rw [Nat.div_lt_iff_lt_mul k0]; exact ht
    have hj : t % E.k < E.k := Nat.mod_lt _ k0
    have hl : t % E.k < (E.enc d[t / E.k]!).length := by rw [E.len]; exact hj
    have h1 := get_flatK E.enc E.k d t ht
    have h2 := flatMap_get E d.toList (t / E.k) (d[t / E.k]!) (by rw [getElem!_pos d _ hi]; simp [hi]) (t % E.k) _ (List.getElem?_eq_getElem hl)
    rw [show t / E.k * E.k + t % E.k = t from Nat.div_add_mod' t E.k] at h2
    rw [h2, Array.getElem?_toList, Array.getElem?_eq_getElem (by rw [size_flatK]; exact ht)]
    rw [getElem!_pos (flatK E.enc E.k d) t (by rw [size_flatK]; exact ht), getElem!_pos (E.enc d[t / E.k]!) _ hl] at h1
    rw [h1]
  · rw [List.getElem?_eq_none (by simp; omega), List.getElem?_eq_none (by rw [flatMap_length]; simp; omega)]
theorem holdsK_row {α : Type} [Inhabited α] {E : Enc α} {l : List α} {w : World} {g : Nat} {cur : Array Value} {T : TypeId} (ho : w.heap[g]? = some (.cells cur T (0, 0))) (hs : l.length * E.k ≤ cur.size) (hc : cur.toList.take (l.length * E.k) = l.flatMap E.enc) :
    HoldsK E.enc E.k w g 0 l.toArray := by
  intro j hj
  rw [size_flatK] at hj
  have hj' : j < l.length * E.k := by simpa using hj
  have e : (flatK E.enc E.k l.toArray).toList = l.flatMap E.enc := flatK_toList E l.toArray
  refine ⟨?_, by simp [World.frozen?, ho]⟩
  rw [getElem!_pos (flatK E.enc E.k l.toArray) j (by rw [size_flatK]; exact hj)]
  have h2 : (flatK E.enc E.k l.toArray)[j]? = cur[j]? := by
    rw [← Array.getElem?_toList, e, ← hc, List.getElem?_take, if_pos hj', Array.getElem?_toList]
  rw [Array.getElem?_eq_getElem (by rw [size_flatK]; exact hj)] at h2
  simp [World.cell?, ho, ← h2]
theorem putK_heap {w : World} {g : Nat} {cur : Array Value} {T : TypeId} (ho : w.heap[g]? = some (.cells cur T (0, 0))) (F : Array Value) (os : Array Obj) (m : Nat) :
    (grow (putRow id (Sort.ahead w m) g 0 F) os).heap[g]? = some (.cells (putCells id 0 F cur) T (0, 0)) := by
  have hg : g < w.heap.size := (Array.getElem?_eq_some_iff.1 ho).1
  rw [heap_grow_old _ _ (by simpa using hg)]
  simp [putRow, mapBlock, Sort.ahead, Array.getElem?_modify, ho, onCells]
theorem putCells_take (F cur : Array Value) (h : F.size ≤ cur.size) : (putCells id 0 F cur).toList.take F.size = F.toList := by
  apply List.ext_getElem?
  intro j
  rw [List.getElem?_take, Array.getElem?_toList, Array.getElem?_toList]
  by_cases hj : j < F.size
  · rw [if_pos hj]
    simp [putCells, Array.getElem?_mapIdx, hj, Array.getElem?_eq_getElem (show j < cur.size by omega)]
  · rw [if_neg hj, Array.getElem?_eq_none (by omega)]
theorem sortK_mut {w : World} {V : Value} {g : Nat} {cur F : Array Value} {T : TypeId} (hV : V.ownBlock = some g) (ho : w.heap[g]? = some (.cells cur T (0, 0))) (os : Array Obj) (m : Nat) : Mut w (grow (putRow id (Sort.ahead w m) g 0 F) os) V := by
  refine ⟨rfl, rfl, rfl, by simp [putRow, mapBlock, Sort.ahead], by simp [grow, putRow, mapBlock, Sort.ahead], fun k hk hne => ?_⟩
  rw [heap_grow_old _ _ (by simpa [putRow, mapBlock, Sort.ahead] using hk)]
  have : g ≠ k := by rintro rfl; exact hne hV.symm
  simp [putRow, mapBlock, Sort.ahead, Array.getElem?_modify, this]
/-- What slices.SortFunc makes of a list. -/
def sortP {α : Type} [Inhabited α] (lt : α → α → Bool) (l : List α) : List α := (pdq lt l.toArray 0 l.length (Lib.bitLen l.length) true true).toList
theorem sortP_perm {α : Type} [Inhabited α] {lt : α → α → Bool} (h : SWO lt) (l : List α) : (sortP lt l).Perm l := by
  have hs := (pdq_sorts lt h l.toArray 0 l.length (Lib.bitLen l.length) true true (Nat.zero_le _) (by simp) (Or.inl rfl)).1
  obtain ⟨h1, _, h3⟩ := hs
  have hsz : (pdq lt l.toArray 0 l.length (Lib.bitLen l.length) true true).size = l.length := by simpa using h1
  unfold sortP
  generalize hd : pdq lt l.toArray 0 l.length (Lib.bitLen l.length) true true = d at h3 hsz
  have e1 : d.extract 0 l.length = d := by rw [← hsz]; simp
  have e2 : l.toArray.extract 0 l.length = l.toArray := by simp
  rw [e1, e2] at h3
  simpa using h3
theorem sortP_sorted {α : Type} [Inhabited α] {lt : α → α → Bool} (h : SWO lt) (l : List α) : (sortP lt l).Pairwise fun x y => lt y x = false := by
  have hs := (pdq_sorts lt h l.toArray 0 l.length (Lib.bitLen l.length) true true (Nat.zero_le _) (by simp) (Or.inl rfl))
  have hsz : (pdq lt l.toArray 0 l.length (Lib.bitLen l.length) true true).size = l.length := by simpa using hs.1.1
  rw [List.pairwise_iff_getElem]
  intro i j hi hj hij
  unfold sortP at hi hj ⊢
  simp only [Array.length_toList] at hi hj
  have := hs.2 i j (Nat.zero_le _) hij (by omega)
  rw [getElem!_pos (pdq lt l.toArray 0 l.length (Lib.bitLen l.length) true true) j hj, getElem!_pos (pdq lt l.toArray 0 l.length (Lib.bitLen l.length) true true) i hi] at this
  simpa using this
theorem sortP_length {α : Type} [Inhabited α] {lt : α → α → Bool} (h : SWO lt) (l : List α) : (sortP lt l).length = l.length := (sortP_perm h l).length_eq
theorem sortFunc_any {P : Program} {ρ : Ren} (L : SlLaysF0.n6 P ρ) {α : Type} [Inhabited α] (E : Enc α) (T : TypeId) (aE : ∀ w, (isAgg (ρ.t 24)).run P w = .ok true w) (zE : ∀ w, (Go.sizeOf (ρ.t 24)).run P w = .ok E.k w) (cf : α → α → Int) (hO : SWO (ltOf cf))
    (g : Nat) (cb : List Value) (l : List α) (V : Value) (w : World) (eg : ∀ args w, (callFunc g args).run P w = .ok (.enter g args) w) (hr : (rowE V T E l).holds w) (hl : l.length < 2305843009213693952)
    (hcmp : ∀ x y w', Mut w w' V → Calls P g ([Value.agg (E.enc x).toArray, .agg (E.enc y).toArray] ++ cb).toArray w' fun e w'' => e = .returned (.int .i64 (cf x y)) ∧ Ext w' w'')
    (hnil : Calls P (ρ.f 6) #[.slice none 0 0, .func (.func g) #[] cb.toArray] w fun e w' => e = .returned (.tuple #[]) ∧ Ext w w') :
    Calls P (ρ.f 6) #[V, .func (.func g) #[] cb.toArray] w fun e w' => e = .returned (.tuple #[]) ∧ Mut w w' V ∧ (rowE V T E (sortP (ltOf cf) l)).holds w' := by
  have hr' : RowOK V T E l (V.ownBlock.bind (w.heap[·]?)) := hr
  rcases hr' with ⟨rfl, rfl⟩ | ⟨b, cap, cur, rfl, ho, hc1, hc2, hc3, hc4⟩
  · refine hnil.mono fun e w' ⟨h1, h2⟩ => ⟨h1, ⟨h2.below.os, h2.below.tape, h2.below.output, h2.below.size, h2.dr, fun k hk _ => h2.below.block k hk⟩, ?_⟩
    refine .inl ⟨rfl, ?_⟩
    have := sortP_length hO ([] : List α)
    exact List.length_eq_zero_iff.1 this
  · have ho' : w.heap[b]? = some (.cells cur T (0, 0)) := ho
    have hb : b < w.heap.size := (Array.getElem?_eq_some_iff.1 ho').1
    have hsz : l.length * E.k ≤ cur.size := Nat.le_trans (Nat.mul_le_mul_right _ hc1) hc3
    have hH := holdsK_row (E := E) (l := l) ho' hsz hc4
    have hm := Go.Proofs.AnyQ.slices_SortFunc_eq L E.k aE zE E.enc E.len E.one cf hO g cb.toArray b 0 cap l.toArray w eg
      (fun m os dk hdk x y => by
        have e : (#[Value.agg (E.enc x).toArray, .agg (E.enc y).toArray] ++ cb.toArray) = ([Value.agg (E.enc x).toArray, .agg (E.enc y).toArray] ++ cb).toArray := by simp
        rw [e]
        exact (hcmp x y _ (sortK_mut (V := .slice (some ⟨b, 0, none⟩) l.length cap) rfl ho' os m)).mono fun e w' ⟨h1, h2⟩ => ⟨h1, h2.grown⟩) hH hb (by simp; omega)
    have e0 : (l.toArray.size : Nat) = l.length := by simp
    rw [e0] at hm
    refine hm.mono fun e w' ⟨h1, m, os, h2⟩ => ⟨h1, ?_⟩
    subst h2
    refine ⟨sortK_mut rfl ho' os m, ?_⟩
    have hlen := sortP_length hO l
    have hF : (flatK E.enc E.k (pdq (ltOf cf) l.toArray 0 l.length (Lib.bitLen l.length) true true)).toList = (sortP (ltOf cf) l).flatMap E.enc := flatK_toList E _
    have hFs : (flatK E.enc E.k (pdq (ltOf cf) l.toArray 0 l.length (Lib.bitLen l.length) true true)).size = l.length * E.k := by
      rw [← Array.length_toList, hF, flatMap_length, hlen]
    refine .inr ⟨b, cap, _, by rw [hlen], putK_heap ho' _ os m, by rw [hlen]; exact hc1, hc2, by simpa [putCells] using hc3, ?_⟩
    rw [hlen, ← hF, ← hFs]
    exact putCells_take _ _ (by rw [hFs]; exact hsz)
end Go.HL
namespace Go.HL
open Go Go.Sort
open Go.Proofs (ltOf)
def cmpR (x y : Rng) : Int := if x.lo < y.lo then -1 else if y.lo < x.lo then 1 else 0
theorem ltOf_cmpR (x y : Rng) : ltOf cmpR x y = decide (x.lo < y.lo) := by
  unfold ltOf cmpR
  by_cases h : x.lo < y.lo
  · simp [h]
  · by_cases h2 : y.lo < x.lo <;> simp [h, h2]
theorem swo_cmpR : SWO (ltOf cmpR) where
  irrefl x := by simp [ltOf_cmpR]
  trans x y z h1 h2 := by
    simp only [ltOf_cmpR, decide_eq_true_eq, UInt32.lt_iff_toNat_lt] at *; omega
  ntrans x y z h1 h2 := by
    simp only [ltOf_cmpR, decide_eq_false_iff_not, UInt32.lt_iff_toNat_lt] at *; omega
def neR (r : Rng) : Bool := decide (r.lo < r.hi)
def lastR (out : List Rng) : Rng := out.getD ((out.length : Int) - 1).toNat default
def mergeStep (out : List Rng) (r : Rng) : List Rng :=
  if 0 < (out.length : Int) ∧ r.lo ≤ (lastR out).hi then out.set ((out.length : Int) - 1).toNat ⟨(lastR out).lo, if (lastR out).hi < r.hi then r.hi else (lastR out).hi⟩ else out ++ [r]
def normalP (l : List Rng) : List Rng := (sortP (ltOf cmpR) (l.filter neR)).foldl mergeStep []
theorem filter_take_pos {α : Type} [Inhabited α] {p : α → Bool} {l : List α} {k : Nat} (h : k < l.length) (hp : p (l.getD k default) = true) : (l.take (k + 1)).filter p = (l.take k).filter p ++ [l.getD k default] := by
  rw [take_succ h, List.filter_append]; simp only [List.filter_cons, hp, if_true, List.filter_nil]
theorem filter_take_neg {α : Type} [Inhabited α] {p : α → Bool} {l : List α} {k : Nat} (h : k < l.length) (hp : p (l.getD k default) = false) : (l.take (k + 1)).filter p = (l.take k).filter p := by
  rw [take_succ h, List.filter_append]; simp only [List.filter_cons, hp, Bool.false_eq_true, if_false, List.filter_nil, List.append_nil]
theorem foldl_take_succ {α β : Type} [Inhabited α] {f : β → α → β} {b : β} {l : List α} {k : Nat} (h : k < l.length) : (l.take (k + 1)).foldl f b = f ((l.take k).foldl f b) (l.getD k default) := by
  rw [take_succ h, List.foldl_append]; rfl
theorem mergeStep_len (out : List Rng) (r : Rng) : (mergeStep out r).length ≤ out.length + 1 := by
  unfold mergeStep; split <;> simp
theorem mergeFold_len : ∀ (l out : List Rng), (l.foldl mergeStep out).length ≤ out.length + l.length
  | [], _ => by simp
  | r :: l, out => by
    have h1 := mergeFold_len l (mergeStep out r)
    have h2 := mergeStep_len out r
    simp only [List.foldl_cons, List.length_cons]; omega
theorem mergeStep_pos {out : List Rng} {r : Rng} (h1 : 0 < (out.length : Int)) (h2 : r.lo ≤ (lastR out).hi) : mergeStep out r = out.set ((out.length : Int) - 1).toNat ⟨(lastR out).lo, if (lastR out).hi < r.hi then r.hi else (lastR out).hi⟩ := by rw [mergeStep, if_pos ⟨h1, h2⟩]
theorem mergeStep_neg {out : List Rng} {r : Rng} (h : ¬ (0 < (out.length : Int) ∧ r.lo ≤ (lastR out).hi)) : mergeStep out r = out ++ [r] := by rw [mergeStep, if_neg h]
end Go.HL
namespace Go.HL
open Go Go.Sort
open Go.Proofs (ltOf)
def Has (l : List Rng) (n : Nat) : Prop := ∃ r ∈ l, r.lo.toNat ≤ n ∧ n < r.hi.toNat
def Norm (l : List Rng) : Prop := l.Pairwise (fun x y => x.hi.toNat < y.lo.toNat) ∧ ∀ x ∈ l, x.lo.toNat < x.hi.toNat
theorem Has.nil {n : Nat} : ¬ Has [] n := by rintro ⟨r, h, _⟩; simp at h
theorem has_cons {x : Rng} {l : List Rng} {n : Nat} : Has (x :: l) n ↔ (x.lo.toNat ≤ n ∧ n < x.hi.toNat) ∨ Has l n := by
  constructor
  · rintro ⟨r, h, h2⟩
    rcases List.mem_cons.1 h with rfl | h
    · exact .inl h2
    · exact .inr ⟨r, h, h2⟩
  · rintro (h | ⟨r, h, h2⟩)
    · exact ⟨x, .head _, h⟩
    · exact ⟨r, .tail _ h, h2⟩
theorem has_append {a b : List Rng} {n : Nat} : Has (a ++ b) n ↔ Has a n ∨ Has b n := by
  induction a with
  | nil => simp [Has.nil]
  | cons x a ih => simp only [List.cons_append, has_cons, ih, or_assoc]
theorem has_single {x : Rng} {n : Nat} : Has [x] n ↔ x.lo.toNat ≤ n ∧ n < x.hi.toNat := by simp [has_cons, Has.nil]
theorem Has.perm {a b : List Rng} (h : a.Perm b) {n : Nat} : Has a n ↔ Has b n :=
  ⟨fun ⟨r, m, q⟩ => ⟨r, h.mem_iff.1 m, q⟩, fun ⟨r, m, q⟩ => ⟨r, h.mem_iff.2 m, q⟩⟩
theorem u32_ext {a b : UInt32} (h : a.toNat = b.toNat) : a = b := UInt32.toNat_inj.1 h
theorem norm_cons {x : Rng} {l : List Rng} : Norm (x :: l) ↔ (x.lo.toNat < x.hi.toNat ∧ ∀ y ∈ l, x.hi.toNat < y.lo.toNat) ∧ Norm l := by
  simp only [Norm, List.pairwise_cons, List.mem_cons, forall_eq_or_imp]
  constructor
  · rintro ⟨⟨a, b⟩, c, d⟩; exact ⟨⟨c, a⟩, b, d⟩
  · rintro ⟨⟨c, a⟩, b, d⟩; exact ⟨⟨a, b⟩, c, d⟩
theorem Norm.unique : ∀ (a b : List Rng), Norm a → Norm b → (∀ n, Has a n ↔ Has b n) → a = b
  | [], [], _, _, _ => rfl
  | [], y :: b, _, hb, h => absurd ((h y.lo.toNat).2 (has_cons.2 (.inl ⟨Nat.le_refl _, (norm_cons.1 hb).1.1⟩))) Has.nil
  | x :: a, [], ha, _, h => absurd ((h x.lo.toNat).1 (has_cons.2 (.inl ⟨Nat.le_refl _, (norm_cons.1 ha).1.1⟩))) Has.nil
  | x :: a, y :: b, ha, hb, h => by
    obtain ⟨⟨hx, hxa⟩, ha'⟩ := norm_cons.1 ha
    obtain ⟨⟨hy, hyb⟩, hb'⟩ := norm_cons.1 hb
    have ta : ∀ {n}, Has a n → x.hi.toNat < n := fun ⟨r, m, q⟩ => by have := hxa r m; omega
    have tb : ∀ {n}, Has b n → y.hi.toNat < n := fun ⟨r, m, q⟩ => by have := hyb r m; omega
    have e1 : x.lo.toNat = y.lo.toNat := by
      have h1 := (h x.lo.toNat).1 (has_cons.2 (.inl ⟨Nat.le_refl _, hx⟩))
      have h2 := (h y.lo.toNat).2 (has_cons.2 (.inl ⟨Nat.le_refl _, hy⟩))
      rcases has_cons.1 h1 with h1 | h1 <;> rcases has_cons.1 h2 with h2 | h2
      · omega
      · have := ta h2; omega
      · have := tb h1; omega
      · have := ta h2; have := tb h1; omega
    have e2 : x.hi.toNat = y.hi.toNat := by
      rcases Nat.lt_trichotomy x.hi.toNat y.hi.toNat with hl | he | hg
      · have h1 := (h x.hi.toNat).2 (has_cons.2 (.inl ⟨by omega, hl⟩))
        rcases has_cons.1 h1 with h1 | h1
        · omega
        · have := ta h1; omega
      · exact he
      · have h1 := (h y.hi.toNat).1 (has_cons.2 (.inl ⟨by omega, hg⟩))
        rcases has_cons.1 h1 with h1 | h1
        · omega
        · have := tb h1; omega
    have e : x = y := rng_ext (u32_ext e1) (u32_ext e2)
    subst e
    rw [Norm.unique a b ha' hb' fun n => ?_]
    constructor
    · intro q
      rcases has_cons.1 ((h n).1 (has_cons.2 (.inr q))) with q2 | q2
      · have := ta q; omega
      · exact q2
    · intro q
      rcases has_cons.1 ((h n).2 (has_cons.2 (.inr q))) with q2 | q2
      · have := tb q; omega
      · exact q2
theorem norm_append {a b : List Rng} : Norm (a ++ b) ↔ Norm a ∧ Norm b ∧ ∀ x ∈ a, ∀ y ∈ b, x.hi.toNat < y.lo.toNat := by
  simp only [Norm, List.pairwise_append, List.mem_append]
  constructor
  · rintro ⟨⟨p1, p2, p3⟩, q⟩
    exact ⟨⟨p1, fun x h => q x (.inl h)⟩, ⟨p2, fun x h => q x (.inr h)⟩, p3⟩
  · rintro ⟨⟨p1, q1⟩, ⟨p2, q2⟩, p3⟩
    exact ⟨⟨p1, p2, p3⟩, fun x h => h.elim (q1 x) (q2 x)⟩
theorem norm_single {x : Rng} : Norm [x] ↔ x.lo.toNat < x.hi.toNat := by simp [Norm]
theorem norm_nil : Norm [] := ⟨List.Pairwise.nil, by simp⟩
theorem lastR_append (pre : List Rng) (x : Rng) : lastR (pre ++ [x]) = x := by
  unfold lastR
  rw [show (((pre ++ [x]).length : Int) - 1).toNat = pre.length by simp]
  simp [List.getD_eq_getElem?_getD]
theorem set_last (pre : List Rng) (x y : Rng) : (pre ++ [x]).set (((pre ++ [x]).length : Int) - 1).toNat y = pre ++ [y] := by
  rw [show (((pre ++ [x]).length : Int) - 1).toNat = pre.length by simp]
  simp
theorem mergeStep_nil (r : Rng) : mergeStep [] r = [r] := by simp [mergeStep]
theorem mergeStep_append (pre : List Rng) (x r : Rng) : mergeStep (pre ++ [x]) r = if r.lo ≤ x.hi then pre ++ [⟨x.lo, if x.hi < r.hi then r.hi else x.hi⟩] else pre ++ [x] ++ [r] := by
  unfold mergeStep
  rw [lastR_append, set_last]
  by_cases h : r.lo ≤ x.hi
  · rw [if_pos ⟨by simp, h⟩, if_pos h]
  · rw [if_neg (fun q => h q.2), if_neg h]
theorem max_toNat (a b : UInt32) : (if a < b then b else a).toNat = max a.toNat b.toNat := by
  split <;> rename_i h <;> rw [UInt32.lt_iff_toNat_lt] at h <;> omega
/-- One merging: the list stays normal, and contains what it contained and r. -/
theorem mergeStep_ok (pre : List Rng) (x r : Rng) (hn : Norm (pre ++ [x])) (hr : r.lo.toNat < r.hi.toNat) (hle : x.lo.toNat ≤ r.lo.toNat) :
    Norm (mergeStep (pre ++ [x]) r) ∧ (∀ n, Has (mergeStep (pre ++ [x]) r) n ↔ Has (pre ++ [x]) n ∨ Has [r] n) ∧ ∃ pre' x', mergeStep (pre ++ [x]) r = pre' ++ [x'] ∧ x'.lo.toNat ≤ r.lo.toNat := by
  rw [mergeStep_append]
  obtain ⟨n1, n2, n3⟩ := norm_append.1 hn
  have hx := norm_single.1 n2
  by_cases h : r.lo ≤ x.hi
  · rw [if_pos h]
    rw [UInt32.le_iff_toNat_le] at h
    have hm := max_toNat x.hi r.hi
    refine ⟨norm_append.2 ⟨n1, norm_single.2 (by dsimp only; omega), fun a ha b hb => ?_⟩, fun n => ?_, _, _, rfl, by dsimp only; omega⟩
    · simp only [List.mem_singleton] at hb; subst hb; exact n3 a ha x (.head _)
    · simp only [has_append, has_single, hm]
      constructor
      · rintro (q | q)
        · exact .inl (.inl q)
        · by_cases h2 : n < x.hi.toNat
          · exact .inl (.inr ⟨q.1, h2⟩)
          · exact .inr ⟨by omega, by omega⟩
      · rintro ((q | q) | q)
        · exact .inl q
        · exact .inr ⟨q.1, by omega⟩
        · exact .inr ⟨by omega, by omega⟩
  · rw [if_neg h]
    rw [UInt32.le_iff_toNat_le] at h
    refine ⟨norm_append.2 ⟨hn, norm_single.2 hr, fun a ha b hb => ?_⟩, fun n => by rw [has_append], _, _, rfl, Nat.le_refl _⟩
    simp only [List.mem_singleton] at hb; subst hb
    rcases List.mem_append.1 ha with ha | ha
    · have := n3 a ha x (.head _); omega
    · simp only [List.mem_singleton] at ha; subst ha; omega
theorem mergeFold_ok : ∀ (l pre : List Rng) (x : Rng), Norm (pre ++ [x]) → (∀ r ∈ l, r.lo.toNat < r.hi.toNat) → l.Pairwise (fun a b => a.lo.toNat ≤ b.lo.toNat) → (∀ r ∈ l, x.lo.toNat ≤ r.lo.toNat) →
    Norm (l.foldl mergeStep (pre ++ [x])) ∧ ∀ n, Has (l.foldl mergeStep (pre ++ [x])) n ↔ Has (pre ++ [x]) n ∨ Has l n
  | [], pre, x, h, _, _, _ => ⟨h, fun n => by simp [Has.nil]⟩
  | r :: l, pre, x, h, hne, hs, hle => by
    obtain ⟨m1, m2, p', x', e, hx⟩ := mergeStep_ok pre x r h (hne r (.head _)) (hle r (.head _))
    rw [List.pairwise_cons] at hs
    simp only [List.foldl_cons]
    rw [e] at m1 m2 ⊢
    have ih := mergeFold_ok l p' x' m1 (fun q hq => hne q (.tail _ hq)) hs.2 (fun q hq => Nat.le_trans hx (hs.1 q hq))
    refine ⟨ih.1, fun n => ?_⟩
    rw [ih.2 n, m2 n, has_single, or_assoc, ← has_cons]
theorem normal_ok (l : List Rng) : Norm (normalP l) ∧ ∀ n, Has (normalP l) n ↔ Has l n := by
  have hp := sortP_perm swo_cmpR (l.filter neR)
  have hs := sortP_sorted swo_cmpR (l.filter neR)
  have hf : ∀ n, Has (l.filter neR) n ↔ Has l n := fun n =>
    ⟨fun ⟨r, m, q⟩ => ⟨r, (List.mem_filter.1 m).1, q⟩, fun ⟨r, m, q⟩ => ⟨r, List.mem_filter.2 ⟨m, by simp only [neR, decide_eq_true_eq, UInt32.lt_iff_toNat_lt]; omega⟩, q⟩⟩
  have hne : ∀ r ∈ sortP (ltOf cmpR) (l.filter neR), r.lo.toNat < r.hi.toNat := fun r hr => by
    have := (List.mem_filter.1 (hp.mem_iff.1 hr)).2
    simpa only [neR, decide_eq_true_eq, UInt32.lt_iff_toNat_lt] using this
  have hs' : (sortP (ltOf cmpR) (l.filter neR)).Pairwise fun a b => a.lo.toNat ≤ b.lo.toNat := hs.imp fun {a b} h => by
    simp only [ltOf_cmpR, decide_eq_false_iff_not, UInt32.lt_iff_toNat_lt] at h; omega
  unfold normalP
  generalize sortP (ltOf cmpR) (l.filter neR) = s at hp hne hs'
  have e : ∀ n, Has s n ↔ Has l n := fun n => (Has.perm hp).trans (hf n)
  cases s with
  | nil => exact ⟨norm_nil, e⟩
  | cons r s =>
    rw [List.pairwise_cons] at hs'
    simp only [List.foldl_cons, mergeStep_nil]
    have := mergeFold_ok s [] r (norm_single.2 (hne r (.head _))) (fun q hq => hne q (.tail _ hq)) hs'.2 hs'.1
    simp only [List.nil_append] at this
    exact ⟨this.1, fun n => by rw [this.2 n, ← e n, has_single, has_cons]⟩
theorem normal_id {l : List Rng} (h : Norm l) : normalP l = l := Norm.unique _ _ (normal_ok l).1 h (normal_ok l).2
end Go.HL
namespace Go.Proofs
open Go.Shelf
def Tryz.sortRng_ren : Go.Shelf.Ren := ⟨fun | 6 => 85 | 15 => 75 | 14 => 114 | 28 => 101 | 29 => 102 | 20 => 138 | 21 => 139 | 22 => 140 | 23 => 141 | 24 => 142 | 25 => 143 | 26 => 144 | 27 => 145 | 46 => 152 | 47 => 120 | 48 => 121 | 49 => 153 | 50 => 154 | 57 => 155 | n => n, fun | 22 => 47 | 24 => 80 | 25 => 106 | 3 => 3 | 39 => 97 | 0 => 0 | 53 => 33 | 55 => 81 | 4 => 4 | 46 => 112 | 45 => 111 | 50 => 116 | 5 => 5 | 9 => 9 | 66 => 131 | 70 => 135 | 76 => 146 | 77 => 147 | n => n, fun | n => n⟩
theorem Tryz.sortRng : Go.Proofs.SlLaysF0.n6 Tryz.prog Tryz.sortRng_ren := {
  mixed := by kernel_rfl
  f6 := ⟨Tryz.f85.name, by decide, Tryz.func85.trans (congrArg some (by kernel_rfl))⟩
  f14 := ⟨Tryz.f114.name, by decide, Tryz.func114.trans (congrArg some (by kernel_rfl))⟩
  f15 := Tryz.func75.trans (congrArg some (by kernel_rfl))
  f20 := ⟨Tryz.f138.name, by decide, Tryz.func138.trans (congrArg some (by kernel_rfl))⟩
  f21 := ⟨Tryz.f139.name, by decide, Tryz.func139.trans (congrArg some (by kernel_rfl))⟩
  f22 := ⟨Tryz.f140.name, by decide, Tryz.func140.trans (congrArg some (by kernel_rfl))⟩
  f23 := ⟨Tryz.f141.name, by decide, Tryz.func141.trans (congrArg some (by kernel_rfl))⟩
  f24 := ⟨Tryz.f142.name, by decide, Tryz.func142.trans (congrArg some (by kernel_rfl))⟩
  f25 := ⟨Tryz.f143.name, by decide, Tryz.func143.trans (congrArg some (by kernel_rfl))⟩
  f26 := ⟨Tryz.f144.name, by decide, Tryz.func144.trans (congrArg some (by kernel_rfl))⟩
  f27 := ⟨Tryz.f145.name, by decide, Tryz.func145.trans (congrArg some (by kernel_rfl))⟩
  f28 := Tryz.func101.trans (congrArg some (by kernel_rfl))
  f29 := Tryz.func102.trans (congrArg some (by kernel_rfl))
  f46 := ⟨Tryz.f152.name, by decide, Tryz.func152.trans (congrArg some (by kernel_rfl))⟩
  f47 := Tryz.func120.trans (congrArg some (by kernel_rfl))
  f48 := Tryz.func121.trans (congrArg some (by kernel_rfl))
  f49 := ⟨Tryz.f153.name, by decide, Tryz.func153.trans (congrArg some (by kernel_rfl))⟩
  f50 := ⟨Tryz.f154.name, by decide, Tryz.func154.trans (congrArg some (by kernel_rfl))⟩
  f57 := ⟨Tryz.f155.name, by decide, Tryz.func155.trans (congrArg some (by kernel_rfl))⟩
  t0 := Tryz.underlying0
  a0 := Tryz.isAgg0
  z0 := Tryz.sizeOf0
  v0 := Tryz.zeroValue0
  t3 := Tryz.underlying3
  a3 := Tryz.isAgg3
  z3 := Tryz.sizeOf3
  v3 := Tryz.zeroValue3
  t4 := Tryz.underlying4
  a4 := Tryz.isAgg4
  z4 := Tryz.sizeOf4
  v4 := Tryz.zeroValue4
  t5 := Tryz.underlying5
  a5 := Tryz.isAgg5
  z5 := Tryz.sizeOf5
  v5 := Tryz.zeroValue5
  t9 := Tryz.underlying9
  a9 := Tryz.isAgg9
  z9 := Tryz.sizeOf9
  v9 := Tryz.zeroValue9
  t22 := Tryz.underlying47
  a22 := Tryz.isAgg47
  z22 := Tryz.sizeOf47
  v22 := Tryz.zeroValue47
  t25 := Tryz.underlying106
  a25 := Tryz.isAgg106
  z25 := Tryz.sizeOf106
  v25 := Tryz.zeroValue106
  t39 := Tryz.underlying97
  a39 := Tryz.isAgg97
  z39 := Tryz.sizeOf97
  v39 := Tryz.zeroValue97
  t45 := Tryz.underlying111
  a45 := Tryz.isAgg111
  z45 := Tryz.sizeOf111
  v45 := Tryz.zeroValue111
  t46 := Tryz.underlying112
  a46 := Tryz.isAgg112
  z46 := Tryz.sizeOf112
  v46 := Tryz.zeroValue112
  t50 := Tryz.underlying116
  a50 := Tryz.isAgg116
  z50 := Tryz.sizeOf116
  v50 := Tryz.zeroValue116
  t53 := Tryz.underlying33
  a53 := Tryz.isAgg33
  z53 := Tryz.sizeOf33
  v53 := Tryz.zeroValue33
  t55 := Tryz.underlying81
  a55 := Tryz.isAgg81
  z55 := Tryz.sizeOf81
  v55 := Tryz.zeroValue81
  t66 := Tryz.underlying131
  a66 := Tryz.isAgg131
  z66 := Tryz.sizeOf131
  v66 := Tryz.zeroValue131
  t70 := Tryz.underlying135
  a70 := Tryz.isAgg135
  z70 := Tryz.sizeOf135
  v70 := Tryz.zeroValue135
  t76 := Tryz.underlying146
  a76 := Tryz.isAgg146
  z76 := Tryz.sizeOf146
  v76 := Tryz.zeroValue146
  t77 := Tryz.underlying147
  a77 := Tryz.isAgg147
  z77 := Tryz.sizeOf147
  v77 := Tryz.zeroValue147 }
def Tryz.sortPair_ren : Go.Shelf.Ren := ⟨fun | 6 => 52 | 15 => 75 | 14 => 83 | 28 => 101 | 29 => 102 | 20 => 105 | 21 => 106 | 22 => 107 | 23 => 108 | 24 => 109 | 25 => 110 | 26 => 111 | 27 => 112 | 46 => 124 | 47 => 120 | 48 => 121 | 49 => 125 | 50 => 126 | 57 => 151 | n => n, fun | 22 => 41 | 24 => 58 | 25 => 77 | 3 => 3 | 39 => 97 | 0 => 0 | 53 => 33 | 55 => 81 | 4 => 4 | 46 => 112 | 45 => 111 | 50 => 116 | 5 => 5 | 9 => 9 | 66 => 131 | 70 => 135 | 76 => 146 | 77 => 147 | n => n, fun | n => n⟩
theorem Tryz.sortPair : Go.Proofs.SlLaysF0.n6 Tryz.prog Tryz.sortPair_ren := {
  mixed := by kernel_rfl
  f6 := ⟨Tryz.f52.name, by decide, Tryz.func52.trans (congrArg some (by kernel_rfl))⟩
  f14 := ⟨Tryz.f83.name, by decide, Tryz.func83.trans (congrArg some (by kernel_rfl))⟩
  f15 := Tryz.func75.trans (congrArg some (by kernel_rfl))
  f20 := ⟨Tryz.f105.name, by decide, Tryz.func105.trans (congrArg some (by kernel_rfl))⟩
  f21 := ⟨Tryz.f106.name, by decide, Tryz.func106.trans (congrArg some (by kernel_rfl))⟩
  f22 := ⟨Tryz.f107.name, by decide, Tryz.func107.trans (congrArg some (by kernel_rfl))⟩
  f23 := ⟨Tryz.f108.name, by decide, Tryz.func108.trans (congrArg some (by kernel_rfl))⟩
  f24 := ⟨Tryz.f109.name, by decide, Tryz.func109.trans (congrArg some (by kernel_rfl))⟩
  f25 := ⟨Tryz.f110.name, by decide, Tryz.func110.trans (congrArg some (by kernel_rfl))⟩
  f26 := ⟨Tryz.f111.name, by decide, Tryz.func111.trans (congrArg some (by kernel_rfl))⟩
  f27 := ⟨Tryz.f112.name, by decide, Tryz.func112.trans (congrArg some (by kernel_rfl))⟩
  f28 := Tryz.func101.trans (congrArg some (by kernel_rfl))
  f29 := Tryz.func102.trans (congrArg some (by kernel_rfl))
  f46 := ⟨Tryz.f124.name, by decide, Tryz.func124.trans (congrArg some (by kernel_rfl))⟩
  f47 := Tryz.func120.trans (congrArg some (by kernel_rfl))
  f48 := Tryz.func121.trans (congrArg some (by kernel_rfl))
  f49 := ⟨Tryz.f125.name, by decide, Tryz.func125.trans (congrArg some (by kernel_rfl))⟩
  f50 := ⟨Tryz.f126.name, by decide, Tryz.func126.trans (congrArg some (by kernel_rfl))⟩
  f57 := ⟨Tryz.f151.name, by decide, Tryz.func151.trans (congrArg some (by kernel_rfl))⟩
  t0 := Tryz.underlying0
  a0 := Tryz.isAgg0
  z0 := Tryz.sizeOf0
  v0 := Tryz.zeroValue0
  t3 := Tryz.underlying3
  a3 := Tryz.isAgg3
  z3 := Tryz.sizeOf3
  v3 := Tryz.zeroValue3
  t4 := Tryz.underlying4
  a4 := Tryz.isAgg4
  z4 := Tryz.sizeOf4
  v4 := Tryz.zeroValue4
  t5 := Tryz.underlying5
  a5 := Tryz.isAgg5
  z5 := Tryz.sizeOf5
  v5 := Tryz.zeroValue5
  t9 := Tryz.underlying9
  a9 := Tryz.isAgg9
  z9 := Tryz.sizeOf9
  v9 := Tryz.zeroValue9
  t22 := Tryz.underlying41
  a22 := Tryz.isAgg41
  z22 := Tryz.sizeOf41
  v22 := Tryz.zeroValue41
  t25 := Tryz.underlying77
  a25 := Tryz.isAgg77
  z25 := Tryz.sizeOf77
  v25 := Tryz.zeroValue77
  t39 := Tryz.underlying97
  a39 := Tryz.isAgg97
  z39 := Tryz.sizeOf97
  v39 := Tryz.zeroValue97
  t45 := Tryz.underlying111
  a45 := Tryz.isAgg111
  z45 := Tryz.sizeOf111
  v45 := Tryz.zeroValue111
  t46 := Tryz.underlying112
  a46 := Tryz.isAgg112
  z46 := Tryz.sizeOf112
  v46 := Tryz.zeroValue112
  t50 := Tryz.underlying116
  a50 := Tryz.isAgg116
  z50 := Tryz.sizeOf116
  v50 := Tryz.zeroValue116
  t53 := Tryz.underlying33
  a53 := Tryz.isAgg33
  z53 := Tryz.sizeOf33
  v53 := Tryz.zeroValue33
  t55 := Tryz.underlying81
  a55 := Tryz.isAgg81
  z55 := Tryz.sizeOf81
  v55 := Tryz.zeroValue81
  t66 := Tryz.underlying131
  a66 := Tryz.isAgg131
  z66 := Tryz.sizeOf131
  v66 := Tryz.zeroValue131
  t70 := Tryz.underlying135
  a70 := Tryz.isAgg135
  z70 := Tryz.sizeOf135
  v70 := Tryz.zeroValue135
  t76 := Tryz.underlying146
  a76 := Tryz.isAgg146
  z76 := Tryz.sizeOf146
  v76 := Tryz.zeroValue146
  t77 := Tryz.underlying147
  a77 := Tryz.isAgg147
  z77 := Tryz.sizeOf147
  v77 := Tryz.zeroValue147 }
def Tryz.sortIns_ren : Go.Shelf.Ren := ⟨fun | 6 => 43 | 15 => 75 | 14 => 74 | 28 => 101 | 29 => 102 | 20 => 92 | 21 => 94 | 22 => 95 | 23 => 96 | 24 => 97 | 25 => 98 | 26 => 99 | 27 => 100 | 46 => 119 | 47 => 120 | 48 => 121 | 49 => 122 | 50 => 123 | 57 => 150 | n => n, fun | 22 => 22 | 24 => 35 | 25 => 67 | 3 => 3 | 39 => 97 | 0 => 0 | 53 => 33 | 55 => 81 | 4 => 4 | 46 => 112 | 45 => 111 | 50 => 116 | 5 => 5 | 9 => 9 | 66 => 131 | 70 => 135 | 76 => 146 | 77 => 147 | n => n, fun | n => n⟩
theorem Tryz.sortIns : Go.Proofs.SlLaysF0.n6 Tryz.prog Tryz.sortIns_ren := {
  mixed := by kernel_rfl
  f6 := ⟨Tryz.f43.name, by decide, Tryz.func43.trans (congrArg some (by kernel_rfl))⟩
  f14 := ⟨Tryz.f74.name, by decide, Tryz.func74.trans (congrArg some (by kernel_rfl))⟩
  f15 := Tryz.func75.trans (congrArg some (by kernel_rfl))
  f20 := ⟨Tryz.f92.name, by decide, Tryz.func92.trans (congrArg some (by kernel_rfl))⟩
  f21 := ⟨Tryz.f94.name, by decide, Tryz.func94.trans (congrArg some (by kernel_rfl))⟩
  f22 := ⟨Tryz.f95.name, by decide, Tryz.func95.trans (congrArg some (by kernel_rfl))⟩
  f23 := ⟨Tryz.f96.name, by decide, Tryz.func96.trans (congrArg some (by kernel_rfl))⟩
  f24 := ⟨Tryz.f97.name, by decide, Tryz.func97.trans (congrArg some (by kernel_rfl))⟩
  f25 := ⟨Tryz.f98.name, by decide, Tryz.func98.trans (congrArg some (by kernel_rfl))⟩
  f26 := ⟨Tryz.f99.name, by decide, Tryz.func99.trans (congrArg some (by kernel_rfl))⟩
  f27 := ⟨Tryz.f100.name, by decide, Tryz.func100.trans (congrArg some (by kernel_rfl))⟩
  f28 := Tryz.func101.trans (congrArg some (by kernel_rfl))
  f29 := Tryz.func102.trans (congrArg some (by kernel_rfl))
  f46 := ⟨Tryz.f119.name, by decide, Tryz.func119.trans (congrArg some (by kernel_rfl))⟩
  f47 := Tryz.func120.trans (congrArg some (by kernel_rfl))
  f48 := Tryz.func121.trans (congrArg some (by kernel_rfl))
  f49 := ⟨Tryz.f122.name, by decide, Tryz.func122.trans (congrArg some (by kernel_rfl))⟩
  f50 := ⟨Tryz.f123.name, by decide, Tryz.func123.trans (congrArg some (by kernel_rfl))⟩
  f57 := ⟨Tryz.f150.name, by decide, Tryz.func150.trans (congrArg some (by kernel_rfl))⟩
  t0 := Tryz.underlying0
  a0 := Tryz.isAgg0
  z0 := Tryz.sizeOf0
  v0 := Tryz.zeroValue0
  t3 := Tryz.underlying3
  a3 := Tryz.isAgg3
  z3 := Tryz.sizeOf3
  v3 := Tryz.zeroValue3
  t4 := Tryz.underlying4
  a4 := Tryz.isAgg4
  z4 := Tryz.sizeOf4
  v4 := Tryz.zeroValue4
  t5 := Tryz.underlying5
  a5 := Tryz.isAgg5
  z5 := Tryz.sizeOf5
  v5 := Tryz.zeroValue5
  t9 := Tryz.underlying9
  a9 := Tryz.isAgg9
  z9 := Tryz.sizeOf9
  v9 := Tryz.zeroValue9
  t22 := Tryz.underlying22
  a22 := Tryz.isAgg22
  z22 := Tryz.sizeOf22
  v22 := Tryz.zeroValue22
  t25 := Tryz.underlying67
  a25 := Tryz.isAgg67
  z25 := Tryz.sizeOf67
  v25 := Tryz.zeroValue67
  t39 := Tryz.underlying97
  a39 := Tryz.isAgg97
  z39 := Tryz.sizeOf97
  v39 := Tryz.zeroValue97
  t45 := Tryz.underlying111
  a45 := Tryz.isAgg111
  z45 := Tryz.sizeOf111
  v45 := Tryz.zeroValue111
  t46 := Tryz.underlying112
  a46 := Tryz.isAgg112
  z46 := Tryz.sizeOf112
  v46 := Tryz.zeroValue112
  t50 := Tryz.underlying116
  a50 := Tryz.isAgg116
  z50 := Tryz.sizeOf116
  v50 := Tryz.zeroValue116
  t53 := Tryz.underlying33
  a53 := Tryz.isAgg33
  z53 := Tryz.sizeOf33
  v53 := Tryz.zeroValue33
  t55 := Tryz.underlying81
  a55 := Tryz.isAgg81
  z55 := Tryz.sizeOf81
  v55 := Tryz.zeroValue81
  t66 := Tryz.underlying131
  a66 := Tryz.isAgg131
  z66 := Tryz.sizeOf131
  v66 := Tryz.zeroValue131
  t70 := Tryz.underlying135
  a70 := Tryz.isAgg135
  z70 := Tryz.sizeOf135
  v70 := Tryz.zeroValue135
  t76 := Tryz.underlying146
  a76 := Tryz.isAgg146
  z76 := Tryz.sizeOf146
  v76 := Tryz.zeroValue146
  t77 := Tryz.underlying147
  a77 := Tryz.isAgg147
  z77 := Tryz.sizeOf147
  v77 := Tryz.zeroValue147 }
end Go.Proofs
namespace Go.Proofs.YtmhbfelnjkhepaaGreat
open Go Go.HL Go.RowKit
set_option maxRecDepth 100000 in
set_option maxHeartbeats 2000000 in
theorem insertionSort_nil_rng (w : World) (g : FuncId) (cb : Array Value) :
    Calls Tryz.prog 138 #[.slice none 0 0, .int .i64 0, .int .i64 0, .func (.func g) #[] cb] w (fun e w' => e = .returned (.tuple #[]) ∧ Ext w w') := by
  refine enter Tryz.func138 rfl Tryz.ntmps138 rfl ?_
  refine Tr.seq ?_
  refine Tr.region ?_
  refine Tr.q (QS.move rfl) rfl ?_
  refine Tr.q (QS.addI rfl rfl (by omega)) rfl ?_
  refine Tr.q (QS.assign rfl) rfl ?_
  refine Tr.nil ?_
  refine Tr.thenN ?_
  refine Tr.block ?_
  refine Tr.loop (ι := Unit) (fun _u => True) (fun _ => _) (fun _u => []) (fun _u => [(8, .int .i64 1)]) (fun _u => 0) () trivial (.cons (by first | rfl | exact lookI rfl (by omega) | exact lookI rfl (by simp) | exact lookB rfl (by simp)) Front.nil) (by repeat' (first | exact Pick.nil _ | exact Del.here _ | apply Pick.cons | apply Del.there)) rfl (fun _u hi m hm => ?_)
  replace hi : True := hi
  replace hm : m = 0 := hm
  change Tr _ _ [] ([(8, .int .i64 1)] ++ _) _
  refine Tr.seq ?_
  refine Tr.seq ?_
  refine Tr.region ?_
  refine Tr.q (QS.move rfl) rfl ?_
  refine Tr.q (QS.move rfl) rfl ?_
  refine Tr.q (QS.lss rfl rfl) rfl ?_
  refine Tr.nil ?_
  refine Tr.thenN ?_
  refine Tr.cond rfl (fun h1 => ?_) (fun h1 => ?_)
  · try simp only [Bool.and_eq_true, Bool.or_eq_true, Bool.not_eq_true', Bool.not_eq_false', decide_eq_true_eq, decide_eq_false_iff_not, Bool.and_eq_false_iff, Bool.or_eq_false_iff, ne_eq, Decidable.not_not] at h1
    first | contradiction | (exfalso; omega) | simp_all
  · try simp only [Bool.and_eq_true, Bool.or_eq_true, Bool.not_eq_true', Bool.not_eq_false', decide_eq_true_eq, decide_eq_false_iff_not, Bool.and_eq_false_iff, Bool.or_eq_false_iff, ne_eq, Decidable.not_not] at h1
    refine Tr.exit ?_
    refine Tr.thenE ?_
    refine Tr.thenE ?_
    refine Tr.inHit ?_
    refine Tr.ret0n Tryz.results138 (fun w' hw => ?_)
    exact ⟨rfl, hw.below (Bg.le.refl _)⟩
set_option maxRecDepth 100000 in
set_option maxHeartbeats 2000000 in
theorem pdqsort_nil_rng (w : World) (g : FuncId) (cb : Array Value) :
    Calls Tryz.prog 114 #[.slice none 0 0, .int .i64 0, .int .i64 0, .int .i64 0, .func (.func g) #[] cb] w (fun e w' => e = .returned (.tuple #[]) ∧ Ext w w') := by
  refine enter Tryz.func114 rfl Tryz.ntmps114 rfl ?_
  refine Tr.seq ?_
  refine Tr.region ?_
  refine Tr.q (QS.assign rfl) rfl ?_
  refine Tr.nil ?_
  refine Tr.thenN ?_
  refine Tr.seq ?_
  refine Tr.region ?_
  refine Tr.q (QS.assign rfl) rfl ?_
  refine Tr.nil ?_
  refine Tr.thenN ?_
  refine Tr.block ?_
  refine Tr.loop (ι := Unit) (fun _u => True) (fun _ => _) (fun _u => []) (fun _u => []) (fun _u => 0) () trivial Front.nil (by repeat' (first | exact Pick.nil _ | exact Del.here _ | apply Pick.cons | apply Del.there)) rfl (fun _u hi m hm => ?_)
  replace hi : True := hi
  replace hm : m = 0 := hm
  change Tr _ _ [] ([] ++ _) _
  refine Tr.block ?_
  refine Tr.seq ?_
  refine Tr.region ?_
  refine Tr.q (QS.move rfl) rfl ?_
  refine Tr.q (QS.move rfl) rfl ?_
  refine Tr.q (QS.subI rfl rfl (by omega)) rfl ?_
  refine Tr.q (QS.assign rfl) rfl ?_
  refine Tr.nil ?_
  refine Tr.thenN ?_
  refine Tr.seq ?_
  refine Tr.seq ?_
  refine Tr.region ?_
  refine Tr.q (QS.move rfl) rfl ?_
  refine Tr.q (QS.leq rfl rfl) rfl ?_
  refine Tr.nil ?_
  refine Tr.thenN ?_
  refine Tr.cond rfl (fun h1 => ?_) (fun h1 => ?_)
  · try simp only [Bool.and_eq_true, Bool.or_eq_true, Bool.not_eq_true', Bool.not_eq_false', decide_eq_true_eq, decide_eq_false_iff_not, Bool.and_eq_false_iff, Bool.or_eq_false_iff, ne_eq, Decidable.not_not] at h1
    refine Tr.seq ?_
    refine Tr.region ?_
    refine Tr.q (QS.move rfl) rfl ?_
    refine Tr.q (QS.move rfl) rfl ?_
    refine Tr.q (QS.move rfl) rfl ?_
    refine Tr.q (QS.move rfl) rfl ?_
    refine Tr.q (QS.call rfl Tryz.call138 (fun w hw => insertionSort_nil_rng w g cb)) rfl ?_
    refine Tr.nil ?_
    refine Tr.thenN ?_
    refine Tr.ret ?_
    refine Tr.thenR ?_
    refine Tr.inR ?_
    refine Tr.thenR ?_
    refine Tr.inR ?_
    refine Tr.ret0 Tryz.results114 (fun w' hw => ?_)
    exact ⟨rfl, hw.below (Bg.le.refl _)⟩
  · try simp only [Bool.and_eq_true, Bool.or_eq_true, Bool.not_eq_true', Bool.not_eq_false', decide_eq_true_eq, decide_eq_false_iff_not, Bool.and_eq_false_iff, Bool.or_eq_false_iff, ne_eq, Decidable.not_not] at h1
    first | contradiction | (exfalso; omega) | simp_all
set_option maxRecDepth 100000 in
set_option maxHeartbeats 2000000 in
theorem sortFunc_nil_rng (w : World) (g : FuncId) (cb : Array Value) :
    Calls Tryz.prog 85 #[.slice none 0 0, .func (.func g) #[] cb] w (fun e w' => e = .returned (.tuple #[]) ∧ Ext w w') := by
  refine enter Tryz.func85 rfl Tryz.ntmps85 rfl ?_
  refine Tr.seq ?_
  refine Tr.region ?_
  refine Tr.q (QS.move rfl) rfl ?_
  refine Tr.q (QS.lenNil rfl Tryz.underlying47) rfl ?_
  refine Tr.q (QS.assign rfl) rfl ?_
  refine Tr.nil ?_
  refine Tr.thenN ?_
  refine Tr.region ?_
  refine Tr.q (QS.move rfl) rfl ?_
  refine Tr.q (QS.move rfl) rfl ?_
  refine Tr.q (QS.move rfl) rfl ?_
  refine Tr.q (QS.cvtIn rfl Tryz.underlying3 Tryz.underlying97 (IntWalk.u64_in _ (by omega))) rfl ?_
  refine Tr.q (QS.call rfl Tryz.call75 (fun w hw => (Go.Proofs.Any.bits_Len (Go.Proofs.SlLaysF0.n15.bits (P := Tryz.prog) (ρ := Tryz.sortRng_ren) { Tryz.sortRng with }) 0 w (by decide) (by decide)).mono (fun e w' h => ⟨h.1, by rw [h.2]; exact Ext.refl _⟩))) rfl ?_
  refine Tr.q (QS.move rfl) rfl ?_
  refine Tr.q (QS.call rfl Tryz.call114 (fun w hw => pdqsort_nil_rng w g cb)) rfl ?_
  refine Tr.nil ?_
  refine Tr.ret0n Tryz.results85 (fun w' hw => ?_)
  exact ⟨rfl, hw.below (Bg.le.refl _)⟩
set_option maxRecDepth 100000 in
set_option maxHeartbeats 2000000 in
theorem normal1_any (x y : Rng) (w : World) :
    Calls Tryz.prog 86 #[.agg (encRng.enc x).toArray, .agg (encRng.enc y).toArray] w (fun e w' => e = .returned (.int .i64 (cmpR x y)) ∧ Ext w w') := by
  refine enter Tryz.func86 rfl Tryz.ntmps86 rfl ?_
  refine Tr.seq ?_
  refine Tr.region ?_
  refine Tr.box rfl rfl rfl (fun b1 => ?_)
  refine Tr.box rfl rfl rfl (fun b2 => ?_)
  refine Tr.q (QS.assign rfl) rfl ?_
  refine Tr.nil ?_
  refine Tr.thenN ?_
  refine Tr.seq ?_
  refine Tr.block ?_
  refine Tr.seq ?_
  refine Tr.region ?_
  refine Tr.q (QS.fieldAddr (off := 0) (ft := 33) rfl Tryz.underlying80 rfl rfl Tryz.sizeOf33 (by decide)) rfl ?_
  refine Tr.q (QS.loadV rfl (by repeat (first | exact List.Mem.head _ | apply List.Mem.tail)) Tryz.isAgg33 (by rfl)) rfl ?_
  refine Tr.q (QS.fieldAddr (off := 0) (ft := 33) rfl Tryz.underlying80 rfl rfl Tryz.sizeOf33 (by decide)) rfl ?_
  refine Tr.q (QS.loadV rfl (by repeat (first | exact List.Mem.head _ | apply List.Mem.tail)) Tryz.isAgg33 (by rfl)) rfl ?_
  refine Tr.q (QS.lss32 rfl rfl) rfl ?_
  refine Tr.q (QS.assign rfl) rfl ?_
  refine Tr.nil ?_
  refine Tr.thenN ?_
  refine Tr.cond rfl (fun h3 => ?_) (fun h3 => ?_)
  · try simp only [Bool.and_eq_true, Bool.or_eq_true, Bool.not_eq_true', Bool.not_eq_false', decide_eq_true_eq, decide_eq_false_iff_not, Bool.and_eq_false_iff, Bool.or_eq_false_iff, ne_eq, Decidable.not_not] at h3
    refine Tr.seq ?_
    refine Tr.region ?_
    refine Tr.q (QS.assign rfl) rfl ?_
    refine Tr.nil ?_
    refine Tr.thenN ?_
    refine Tr.ret ?_
    refine Tr.inR ?_
    refine Tr.thenR ?_
    refine Tr.ret1 Tryz.results86 rfl (fun w' hw => ?_)
    exact ⟨by unfold cmpR; rw [if_pos (by assumption)], hw.below (Bg.le.refl _)⟩
  · try simp only [Bool.and_eq_true, Bool.or_eq_true, Bool.not_eq_true', Bool.not_eq_false', decide_eq_true_eq, decide_eq_false_iff_not, Bool.and_eq_false_iff, Bool.or_eq_false_iff, ne_eq, Decidable.not_not] at h3
    refine Tr.seq ?_
    refine Tr.region ?_
    refine Tr.q (QS.fieldAddr (off := 0) (ft := 33) rfl Tryz.underlying80 rfl rfl Tryz.sizeOf33 (by decide)) rfl ?_
    refine Tr.q (QS.loadV rfl (by repeat (first | exact List.Mem.head _ | apply List.Mem.tail)) Tryz.isAgg33 (by rfl)) rfl ?_
    refine Tr.q (QS.fieldAddr (off := 0) (ft := 33) rfl Tryz.underlying80 rfl rfl Tryz.sizeOf33 (by decide)) rfl ?_
    refine Tr.q (QS.loadV rfl (by repeat (first | exact List.Mem.head _ | apply List.Mem.tail)) Tryz.isAgg33 (by rfl)) rfl ?_
    refine Tr.q (QS.gtr32 rfl rfl) rfl ?_
    refine Tr.q (QS.assign rfl) rfl ?_
    refine Tr.nil ?_
    refine Tr.thenN ?_
    refine Tr.cond rfl (fun h4 => ?_) (fun h4 => ?_)
    · try simp only [Bool.and_eq_true, Bool.or_eq_true, Bool.not_eq_true', Bool.not_eq_false', decide_eq_true_eq, decide_eq_false_iff_not, Bool.and_eq_false_iff, Bool.or_eq_false_iff, ne_eq, Decidable.not_not] at h4
      refine Tr.seq ?_
      refine Tr.region ?_
      refine Tr.q (QS.assign rfl) rfl ?_
      refine Tr.nil ?_
      refine Tr.thenN ?_
      refine Tr.ret ?_
      refine Tr.inR ?_
      refine Tr.thenR ?_
      refine Tr.ret1 Tryz.results86 rfl (fun w' hw => ?_)
      exact ⟨by unfold cmpR; rw [if_neg (by assumption), if_pos (by assumption)], hw.below (Bg.le.refl _)⟩
    · try simp only [Bool.and_eq_true, Bool.or_eq_true, Bool.not_eq_true', Bool.not_eq_false', decide_eq_true_eq, decide_eq_false_iff_not, Bool.and_eq_false_iff, Bool.or_eq_false_iff, ne_eq, Decidable.not_not] at h4
      refine Tr.skip ?_
      refine Tr.inN ?_
      refine Tr.thenN ?_
      refine Tr.seq ?_
      refine Tr.region ?_
      refine Tr.q (QS.assign rfl) rfl ?_
      refine Tr.nil ?_
      refine Tr.thenN ?_
      refine Tr.ret ?_
      refine Tr.ret1 Tryz.results86 rfl (fun w' hw => ?_)
      exact ⟨by unfold cmpR; rw [if_neg (by assumption), if_neg (by assumption)], hw.below (Bg.le.refl _)⟩
set_option maxRecDepth 100000 in
set_option maxHeartbeats 2000000 in
theorem normal_any (l : List Rng) (V : Value) (w : World) (hV : Sl (hp w) encRng l V) (hb : l.length ≤ 1000000) :
    Calls Tryz.prog 59 #[V] w (fun e w' => ∃ V', e = .returned V' ∧ Ext w w' ∧ NewRow w w' 80 encRng (normalP l) V') := by
  have hV' : Sl (Bg.of w).blk encRng l V := hV
  refine enter Tryz.func59 rfl Tryz.ntmps59 rfl ?_
  refine Tr.seq ?_
  refine Tr.region ?_
  refine Tr.q (QS.assign rfl) rfl ?_
  refine Tr.nil ?_
  refine Tr.thenN ?_
  refine Tr.seq ?_
  refine Tr.region ?_
  refine Tr.q (QS.assign rfl) rfl ?_
  refine Tr.nil ?_
  refine Tr.thenN ?_
  refine Tr.seq ?_
  refine Tr.seq ?_
  refine Tr.region ?_
  refine Tr.q (QS.move rfl) rfl ?_
  refine Tr.q (QS.len rfl (by assumption) Tryz.underlying47) rfl ?_
  refine Tr.q (QS.move rfl) rfl ?_
  refine Tr.nil ?_
  refine Tr.thenN ?_
  refine Tr.block ?_
  refine Tr.ownNil 80 encRng ?_
  refine Tr.loop (ι := Nat × Value) (fun ⟨k, V'⟩ => k ≤ l.length) (fun _ => _) (fun ⟨k, V'⟩ => [rowE V' 80 encRng ((l.take k).filter neR)]) (fun ⟨k, V'⟩ => [(12, .int .i64 (k : Nat)), (3, V')]) (fun ⟨k, V'⟩ => l.length - k) (0, _) (Nat.zero_le _) (.cons (by first | rfl | exact lookI rfl (by omega) | exact lookI rfl (by simp) | exact lookB rfl (by simp)) (.cons (by first | rfl | exact lookI rfl (by omega) | exact lookI rfl (by simp) | exact lookB rfl (by simp)) Front.nil)) (by repeat' (first | exact Pick.nil _ | exact Del.here _ | apply Pick.cons | apply Del.there)) rfl (fun i hi m hm => ?_)
  obtain ⟨k, V'⟩ := i
  replace hi : k ≤ l.length := hi
  replace hm : m = l.length - k := hm
  change Tr _ _ [rowE V' 80 encRng ((l.take k).filter neR)] ([(12, .int .i64 (k : Nat)), (3, V')] ++ _) _
  have hfl := List.length_filter_le neR (l.take k)
  simp only [List.length_take] at hfl
  refine Tr.seq ?_
  refine Tr.region ?_
  refine Tr.q (QS.lss rfl rfl) rfl ?_
  refine Tr.nil ?_
  refine Tr.thenN ?_
  refine Tr.seq ?_
  refine Tr.cond rfl (fun h1 => ?_) (fun h1 => ?_)
  · try simp only [Bool.and_eq_true, Bool.or_eq_true, Bool.not_eq_true', Bool.not_eq_false', decide_eq_true_eq, decide_eq_false_iff_not, Bool.and_eq_false_iff, Bool.or_eq_false_iff, ne_eq, Decidable.not_not] at h1
    refine Tr.skip ?_
    refine Tr.thenN ?_
    refine Tr.seq ?_
    refine Tr.block ?_
    refine Tr.seq ?_
    refine Tr.region ?_
    refine Tr.q (QS.idxN rfl rfl (by assumption) Tryz.underlying47 Tryz.sizeOf80 (by rfl) (by omega)) rfl ?_
    refine Tr.q (QS.elA rfl (by assumption) Tryz.isAgg80 Tryz.sizeOf80 (by rfl) (by omega)) rfl ?_
    refine Tr.alloc Tryz.zeroValue80 rfl rfl (fun b2 => ?_)
    refine Tr.storeW rfl rfl Tryz.sizeOf80 (by repeat (first | exact Put.here _ | apply Put.there)) (by rfl) (by rfl) (by first | exact List.all_eq_true.1 rfl | exact Enc.one _ _ | exact Enc.one encRng _ | (intro u hu; simp [Value.cells] at hu; simp_all [Value.oneCell'])) rfl ?_
    refine Tr.nil ?_
    refine Tr.thenN ?_
    refine Tr.seq ?_
    refine Tr.region ?_
    refine Tr.q (QS.fieldAddr (off := 0) (ft := 33) rfl Tryz.underlying80 rfl rfl Tryz.sizeOf33 (by decide)) rfl ?_
    refine Tr.q (QS.loadV rfl (by repeat (first | exact List.Mem.head _ | apply List.Mem.tail)) Tryz.isAgg33 (by rfl)) rfl ?_
    refine Tr.q (QS.fieldAddr (off := 1) (ft := 33) rfl Tryz.underlying80 rfl rfl Tryz.sizeOf33 (by decide)) rfl ?_
    refine Tr.q (QS.loadV rfl (by repeat (first | exact List.Mem.head _ | apply List.Mem.tail)) Tryz.isAgg33 (by rfl)) rfl ?_
    refine Tr.q (QS.lss32 rfl rfl) rfl ?_
    refine Tr.nil ?_
    refine Tr.thenN ?_
    refine Tr.cond rfl (fun h3 => ?_) (fun h3 => ?_)
    · try simp only [Bool.and_eq_true, Bool.or_eq_true, Bool.not_eq_true', Bool.not_eq_false', decide_eq_true_eq, decide_eq_false_iff_not, Bool.and_eq_false_iff, Bool.or_eq_false_iff, ne_eq, Decidable.not_not] at h3
      refine Tr.region ?_
      refine Tr.q (QS.move rfl) rfl ?_
      refine Tr.q (QS.loadVW rfl (by repeat (first | exact List.Mem.head _ | apply List.Mem.tail)) Tryz.isAgg80 Tryz.sizeOf80 (by rfl)) rfl ?_
      refine Tr.lit1 (E := encRng) _ rfl rfl Tryz.underlying47 Tryz.sizeOf80 Tryz.zeroValue80 (by rfl) (by rfl) rfl (fun V4 => ?_)
      refine Tr.append1 rfl rfl (by repeat (first | exact Del.here _ | apply Del.there)) (by repeat (first | exact Del.here _ | apply Del.there)) Tryz.underlying47 HLF.info80 (by rfl) (by rfl) (by (try simp only [List.length_cons, List.length_nil, List.length_append, List.length_take]); omega) (by unfold maxLen; (try simp only [List.length_cons, List.length_nil, List.length_append, List.length_take]); omega) rfl (fun V5 => ?_)
      refine Tr.q (QS.assign rfl) rfl ?_
      refine Tr.nil ?_
      refine Tr.inN ?_
      refine Tr.thenN ?_
      refine Tr.region ?_
      refine Tr.q (QS.addI rfl rfl (by omega)) rfl ?_
      refine Tr.q (QS.move rfl) rfl ?_
      refine Tr.nil ?_
      refine Tr.thenN ?_
      have htk := filter_take_pos (p := neR) (l := l) (k := k) (by omega) (decide_eq_true h3)
      replace htk : _ = _ ++ [(⟨(l.getD k default).lo, (l.getD k default).hi⟩ : Rng)] := htk
      rw [← htk]
      apply Tr.again (k + 1, _)
      · exact rfl
      · exact (.cons (by first | rfl | exact lookI rfl (by omega) | exact lookI rfl (by simp) | exact lookB rfl (by simp)) (.cons (by first | rfl | exact lookI rfl (by omega) | exact lookI rfl (by simp) | exact lookB rfl (by simp)) Front.nil))
      · exact SubX.dropN 18 (by kernel_rfl) rfl
      · exact (by repeat' (first | exact Pick.nil _ | exact Del.here _ | apply Pick.cons | apply Del.there))
      · exact (by show k + 1 ≤ _; omega)
      · exact (by (try dsimp only); omega)
    · try simp only [Bool.and_eq_true, Bool.or_eq_true, Bool.not_eq_true', Bool.not_eq_false', decide_eq_true_eq, decide_eq_false_iff_not, Bool.and_eq_false_iff, Bool.or_eq_false_iff, ne_eq, Decidable.not_not] at h3
      refine Tr.skip ?_
      refine Tr.inN ?_
      refine Tr.thenN ?_
      refine Tr.region ?_
      refine Tr.q (QS.addI rfl rfl (by omega)) rfl ?_
      refine Tr.q (QS.move rfl) rfl ?_
      refine Tr.nil ?_
      refine Tr.thenN ?_
      have htk := filter_take_neg (p := neR) (l := l) (k := k) (by omega) (decide_eq_false h3)
      rw [← htk]
      apply Tr.again (k + 1, _)
      · exact rfl
      · exact (.cons (by first | rfl | exact lookI rfl (by omega) | exact lookI rfl (by simp) | exact lookB rfl (by simp)) (.cons (by first | rfl | exact lookI rfl (by omega) | exact lookI rfl (by simp) | exact lookB rfl (by simp)) Front.nil))
      · exact SubX.dropN 13 (by kernel_rfl) rfl
      · exact (by repeat' (first | exact Pick.nil _ | exact Del.here _ | apply Pick.cons | apply Del.there))
      · exact (by show k + 1 ≤ _; omega)
      · exact (by (try dsimp only); omega)
  · try simp only [Bool.and_eq_true, Bool.or_eq_true, Bool.not_eq_true', Bool.not_eq_false', decide_eq_true_eq, decide_eq_false_iff_not, Bool.and_eq_false_iff, Bool.or_eq_false_iff, ne_eq, Decidable.not_not] at h1
    refine Tr.exit ?_
    refine Tr.thenE ?_
    refine Tr.thenE ?_
    refine Tr.inHit ?_
    refine Tr.thenN ?_
    refine Tr.seq ?_
    rw [show l.take k = l from List.take_of_length_le (by omega)]
    refine Tr.region ?_
    refine Tr.q (QS.move rfl) rfl ?_
    refine Tr.callMut rfl Tryz.call85 (by repeat (first | exact Put.here _ | apply Put.there)) (fun w hw => sortFunc_any Tryz.sortRng encRng 80 Tryz.isAgg80 Tryz.sizeOf80 cmpR swo_cmpR 86 [] _ _ w Tryz.call86 (hw.ent _ (.head _)) (by have := List.length_filter_le neR l; omega) (fun x y w' _ => normal1_any x y w') (sortFunc_nil_rng w 86 #[])) rfl ?_
    refine Tr.nil ?_
    refine Tr.thenN ?_
    refine Tr.seq ?_
    refine Tr.region ?_
    refine Tr.q (QS.assign rfl) rfl ?_
    refine Tr.nil ?_
    refine Tr.thenN ?_
    refine Tr.seq ?_
    refine Tr.seq ?_
    refine Tr.region ?_
    refine Tr.q (QS.move rfl) rfl ?_
    refine Tr.q (QS.lenRow rfl (by repeat (first | exact List.Mem.head _ | apply List.Mem.tail)) Tryz.underlying47) rfl ?_
    refine Tr.q (QS.move rfl) rfl ?_
    refine Tr.nil ?_
    refine Tr.thenN ?_
    refine Tr.block ?_
    refine Tr.ownNil 80 encRng ?_
    refine Tr.loop (ι := Nat × Value) (fun ⟨k2, Vo⟩ => k2 ≤ (sortP (Go.Proofs.ltOf cmpR) (l.filter neR)).length) (fun _ => _) (fun ⟨k2, Vo⟩ => [rowE Vo 80 encRng (((sortP (Go.Proofs.ltOf cmpR) (l.filter neR)).take k2).foldl mergeStep []), rowE V' 80 encRng (sortP (Go.Proofs.ltOf cmpR) (l.filter neR))]) (fun ⟨k2, Vo⟩ => [(30, .int .i64 (k2 : Nat)), (6, Vo)]) (fun ⟨k2, Vo⟩ => (sortP (Go.Proofs.ltOf cmpR) (l.filter neR)).length - k2) (0, _) (Nat.zero_le _) (.cons (by first | rfl | exact lookI rfl (by omega) | exact lookI rfl (by simp) | exact lookB rfl (by simp)) (.cons (by first | rfl | exact lookI rfl (by omega) | exact lookI rfl (by simp) | exact lookB rfl (by simp)) Front.nil)) (by repeat' (first | exact Pick.nil _ | exact Del.here _ | apply Pick.cons | apply Del.there)) rfl (fun i hi m hm => ?_)
    obtain ⟨k2, Vo⟩ := i
    replace hi : k2 ≤ (sortP (Go.Proofs.ltOf cmpR) (l.filter neR)).length := hi
    replace hm : m = (sortP (Go.Proofs.ltOf cmpR) (l.filter neR)).length - k2 := hm
    change Tr _ _ [rowE Vo 80 encRng (((sortP (Go.Proofs.ltOf cmpR) (l.filter neR)).take k2).foldl mergeStep []), rowE V' 80 encRng (sortP (Go.Proofs.ltOf cmpR) (l.filter neR))] ([(30, .int .i64 (k2 : Nat)), (6, Vo)] ++ _) _
    have hml := mergeFold_len ((sortP (Go.Proofs.ltOf cmpR) (l.filter neR)).take k2) []
    simp only [List.length_take, List.length_nil] at hml
    have hsl := sortP_length swo_cmpR (l.filter neR)
    have hfl2 := List.length_filter_le neR l
    obtain ⟨out, ho⟩ : ∃ out, out = ((sortP (Go.Proofs.ltOf cmpR) (l.filter neR)).take k2).foldl mergeStep [] := ⟨_, rfl⟩
    rw [← ho] at hml ⊢
    refine Tr.seq ?_
    refine Tr.region ?_
    refine Tr.q (QS.lss rfl rfl) rfl ?_
    refine Tr.nil ?_
    refine Tr.thenN ?_
    refine Tr.seq ?_
    refine Tr.cond rfl (fun h6 => ?_) (fun h6 => ?_)
    · try simp only [Bool.and_eq_true, Bool.or_eq_true, Bool.not_eq_true', Bool.not_eq_false', decide_eq_true_eq, decide_eq_false_iff_not, Bool.and_eq_false_iff, Bool.or_eq_false_iff, ne_eq, Decidable.not_not] at h6
      refine Tr.skip ?_
      refine Tr.thenN ?_
      refine Tr.seq ?_
      refine Tr.block ?_
      refine Tr.seq ?_
      refine Tr.region ?_
      refine Tr.q (QS.idxRowN rfl rfl (by repeat (first | exact List.Mem.head _ | apply List.Mem.tail)) Tryz.underlying47 Tryz.sizeOf80 (by rfl) (by omega)) rfl ?_
      refine Tr.q (QS.elRA rfl (by repeat (first | exact List.Mem.head _ | apply List.Mem.tail)) Tryz.isAgg80 Tryz.sizeOf80 (by rfl) (by omega)) rfl ?_
      refine Tr.alloc Tryz.zeroValue80 rfl rfl (fun b7 => ?_)
      refine Tr.storeW rfl rfl Tryz.sizeOf80 (by repeat (first | exact Put.here _ | apply Put.there)) (by rfl) (by rfl) (by first | exact List.all_eq_true.1 rfl | exact Enc.one _ _ | exact Enc.one encRng _ | (intro u hu; simp [Value.cells] at hu; simp_all [Value.oneCell'])) rfl ?_
      refine Tr.nil ?_
      refine Tr.thenN ?_
      refine Tr.seq ?_
      refine Tr.region ?_
      refine Tr.q (QS.move rfl) rfl ?_
      refine Tr.q (QS.lenRow rfl (by repeat (first | exact List.Mem.head _ | apply List.Mem.tail)) Tryz.underlying47) rfl ?_
      refine Tr.q (QS.assign rfl) rfl ?_
      refine Tr.nil ?_
      refine Tr.thenN ?_
      refine Tr.seq ?_
      refine Tr.regionQ HLF.mixed (by kernel_rfl) ?_
      refine TrQ.q (QS.move rfl) rfl ?_
      refine TrQ.q (QS.gtr rfl rfl) rfl ?_
      refine TrQ.q (QS.move rfl) rfl ?_
      apply TrQ.and (t := 38) (d := 48) 10
      · exact rfl
      · intro hT8; have hT8' := hT8
        try simp only [Bool.and_eq_true, Bool.or_eq_true, Bool.not_eq_true', Bool.not_eq_false', decide_eq_true_eq, decide_eq_false_iff_not, Bool.and_eq_false_iff, Bool.or_eq_false_iff, ne_eq, Decidable.not_not] at hT8'
        refine TrQ.gq rfl rfl hT8 (QS.fieldAddr (off := 0) (ft := 33) rfl Tryz.underlying80 rfl rfl Tryz.sizeOf33 (by decide)) rfl ?_
        refine TrQ.gq rfl rfl hT8 (QS.loadV rfl (by repeat (first | exact List.Mem.head _ | apply List.Mem.tail)) Tryz.isAgg33 (by rfl)) rfl ?_
        refine TrQ.gq rfl rfl hT8 (QS.move rfl) rfl ?_
        refine TrQ.gq rfl rfl hT8 (QS.move rfl) rfl ?_
        refine TrQ.gq rfl rfl hT8 (QS.subI rfl rfl (by omega)) rfl ?_
        refine TrQ.gq rfl rfl hT8 (QS.idxRow rfl rfl (by repeat (first | exact List.Mem.head _ | apply List.Mem.tail)) Tryz.underlying47 Tryz.sizeOf80 (by rfl) (by omega)) rfl ?_
        refine TrQ.gq rfl rfl hT8 (QS.fieldAddr (off := 1) (ft := 33) rfl Tryz.underlying80 rfl rfl Tryz.sizeOf33 (by decide)) rfl ?_
        refine TrQ.gq rfl rfl hT8 (QS.elRF rfl (by repeat (first | exact List.Mem.head _ | apply List.Mem.tail)) Tryz.isAgg33 (by omega) (by rfl)) rfl ?_
        refine TrQ.gq rfl rfl hT8 (QS.leq32 rfl rfl) rfl ?_
        refine TrQ.q (QS.pickT rfl hT8 rfl) rfl ?_
        exact TrQ.end (Sub.cons rfl (Sub.dropN 10 (by kernel_rfl) rfl))
      · intro hF8
        refine TrQ.gskip rfl rfl hF8 rfl ?_
        refine TrQ.gskip rfl rfl hF8 rfl ?_
        refine TrQ.gskip rfl rfl hF8 rfl ?_
        refine TrQ.gskip rfl rfl hF8 rfl ?_
        refine TrQ.gskip rfl rfl hF8 rfl ?_
        refine TrQ.gskip rfl rfl hF8 rfl ?_
        refine TrQ.gskip rfl rfl hF8 rfl ?_
        refine TrQ.gskip rfl rfl hF8 rfl ?_
        refine TrQ.gskip rfl rfl hF8 rfl ?_
        refine TrQ.q (QS.pickF rfl hF8 rfl) rfl ?_
        exact TrQ.end (Sub.cons rfl (Sub.dropN 10 (by kernel_rfl) rfl))
      refine TrQ.nil ?_
      refine Tr.thenN ?_
      refine Tr.cond rfl (fun h9 => ?_) (fun h9 => ?_)
      · try simp only [Bool.and_eq_true, Bool.or_eq_true, Bool.not_eq_true', Bool.not_eq_false', decide_eq_true_eq, decide_eq_false_iff_not, Bool.and_eq_false_iff, Bool.or_eq_false_iff, ne_eq, Decidable.not_not] at h9
        refine Tr.regionT 0 14 HLF.mixed (by kernel_rfl) (panicIn (panicThen (panicThen (panicIn (panicThen panicBody))))) ?_
        refine TrQ.pureNil ?_
        refine TrQ.q (QS.move rfl) rfl ?_
        refine TrQ.q (QS.move rfl) rfl ?_
        refine TrQ.q (QS.subI rfl rfl (by omega)) rfl ?_
        refine TrQ.q (QS.move rfl) rfl ?_
        refine TrQ.q (QS.move rfl) rfl ?_
        refine TrQ.q (QS.subI rfl rfl (by omega)) rfl ?_
        refine TrQ.q (QS.idxRow rfl rfl (by repeat (first | exact List.Mem.head _ | apply List.Mem.tail)) Tryz.underlying47 Tryz.sizeOf80 (by rfl) (by omega)) rfl ?_
        refine TrQ.q (QS.fieldAddr (off := 1) (ft := 33) rfl Tryz.underlying80 rfl rfl Tryz.sizeOf33 (by decide)) rfl ?_
        refine TrQ.q (QS.elRF rfl (by repeat (first | exact List.Mem.head _ | apply List.Mem.tail)) Tryz.isAgg33 (by omega) (by rfl)) rfl ?_
        refine TrQ.q (QS.fieldAddr (off := 1) (ft := 33) rfl Tryz.underlying80 rfl rfl Tryz.sizeOf33 (by decide)) rfl ?_
        refine TrQ.q (QS.loadV rfl (by repeat (first | exact List.Mem.head _ | apply List.Mem.tail)) Tryz.isAgg33 (by rfl)) rfl ?_
        refine TrQ.q (QS.max32 rfl rfl) rfl ?_
        refine TrQ.q (QS.idxRow rfl rfl (by repeat (first | exact List.Mem.head _ | apply List.Mem.tail)) Tryz.underlying47 Tryz.sizeOf80 (by rfl) (by omega)) rfl ?_
        refine TrQ.q (QS.fieldAddr (off := 1) (ft := 33) rfl Tryz.underlying80 rfl rfl Tryz.sizeOf33 (by decide)) rfl ?_
        refine TrQ.nil ?_
        refine Tr.storeRow (⟨(lastR out).lo, if (lastR out).hi < ((sortP (Go.Proofs.ltOf cmpR) (l.filter neR)).getD k2 default).hi then ((sortP (Go.Proofs.ltOf cmpR) (l.filter neR)).getD k2 default).hi else (lastR out).hi⟩) rfl rfl Tryz.sizeOf33 (by repeat (first | exact Put.here _ | apply Put.there)) (by omega) (by decide) (by rfl) rfl rfl rfl ?_
        refine Tr.nil ?_
        refine Tr.inN ?_
        refine Tr.thenN ?_
        refine Tr.region ?_
        refine Tr.q (QS.addI rfl rfl (by omega)) rfl ?_
        refine Tr.q (QS.move rfl) rfl ?_
        refine Tr.nil ?_
        refine Tr.thenN ?_
        have hst := mergeStep_pos (out := out) (r := (sortP (Go.Proofs.ltOf cmpR) (l.filter neR)).getD k2 default) h9.1 h9.2
        rw [show out.set _ _ = _ from hst.symm, ho, ← foldl_take_succ (f := mergeStep) (b := []) (k := k2) (l := (sortP (Go.Proofs.ltOf cmpR) (l.filter neR))) (by omega)]
        apply Tr.again (k2 + 1, _)
        · exact rfl
        · exact (.cons (by first | rfl | exact lookI rfl (by omega) | exact lookI rfl (by simp) | exact lookB rfl (by simp)) (.cons (by first | rfl | exact lookI rfl (by omega) | exact lookI rfl (by simp) | exact lookB rfl (by simp)) Front.nil))
        · exact SubX.dropN 29 (by kernel_rfl) rfl
        · exact (by repeat' (first | exact Pick.nil _ | exact Del.here _ | apply Pick.cons | apply Del.there))
        · exact (by show k2 + 1 ≤ _; omega)
        · exact (by (try dsimp only); omega)
      · try simp only [Bool.and_eq_true, Bool.or_eq_true, Bool.not_eq_true', Bool.not_eq_false', decide_eq_true_eq, decide_eq_false_iff_not, Bool.and_eq_false_iff, Bool.or_eq_false_iff, ne_eq, Decidable.not_not] at h9
        refine Tr.region ?_
        refine Tr.q (QS.move rfl) rfl ?_
        refine Tr.q (QS.loadVW rfl (by repeat (first | exact List.Mem.head _ | apply List.Mem.tail)) Tryz.isAgg80 Tryz.sizeOf80 (by rfl)) rfl ?_
        refine Tr.lit1 (E := encRng) _ rfl rfl Tryz.underlying47 Tryz.sizeOf80 Tryz.zeroValue80 (by rfl) (by rfl) rfl (fun V10 => ?_)
        refine Tr.append1 rfl rfl (by repeat (first | exact Del.here _ | apply Del.there)) (by repeat (first | exact Del.here _ | apply Del.there)) Tryz.underlying47 HLF.info80 (by rfl) (by rfl) (by (try simp only [List.length_cons, List.length_nil, List.length_append, List.length_take]); omega) (by unfold maxLen; (try simp only [List.length_cons, List.length_nil, List.length_append, List.length_take]); omega) rfl (fun V11 => ?_)
        refine Tr.q (QS.assign rfl) rfl ?_
        refine Tr.nil ?_
        refine Tr.inN ?_
        refine Tr.thenN ?_
        refine Tr.region ?_
        refine Tr.q (QS.addI rfl rfl (by omega)) rfl ?_
        refine Tr.q (QS.move rfl) rfl ?_
        refine Tr.nil ?_
        refine Tr.thenN ?_
        have hst := mergeStep_neg (out := out) (r := (sortP (Go.Proofs.ltOf cmpR) (l.filter neR)).getD k2 default) (fun hh => h9.elim (fun q => q hh.1) (fun q => q hh.2))
        replace hst : _ = _ ++ [(⟨((sortP (Go.Proofs.ltOf cmpR) (l.filter neR)).getD k2 default).lo, ((sortP (Go.Proofs.ltOf cmpR) (l.filter neR)).getD k2 default).hi⟩ : Rng)] := hst
        rw [← hst, ho, ← foldl_take_succ (f := mergeStep) (b := []) (k := k2) (l := (sortP (Go.Proofs.ltOf cmpR) (l.filter neR))) (by omega)]
        apply Tr.again (k2 + 1, _)
        · exact rfl
        · exact (.cons (by first | rfl | exact lookI rfl (by omega) | exact lookI rfl (by simp) | exact lookB rfl (by simp)) (.cons (by first | rfl | exact lookI rfl (by omega) | exact lookI rfl (by simp) | exact lookB rfl (by simp)) Front.nil))
        · exact SubX.dropN 20 (by kernel_rfl) rfl
        · exact (by repeat' (first | exact Pick.nil _ | exact Del.here _ | apply Pick.cons | apply Del.there))
        · exact (by show k2 + 1 ≤ _; omega)
        · exact (by (try dsimp only); omega)
    · try simp only [Bool.and_eq_true, Bool.or_eq_true, Bool.not_eq_true', Bool.not_eq_false', decide_eq_true_eq, decide_eq_false_iff_not, Bool.and_eq_false_iff, Bool.or_eq_false_iff, ne_eq, Decidable.not_not] at h6
      refine Tr.exit ?_
      refine Tr.thenE ?_
      refine Tr.thenE ?_
      refine Tr.inHit ?_
      refine Tr.thenN ?_
      refine Tr.seq ?_
      refine Tr.region ?_
      refine Tr.q (QS.move rfl) rfl ?_
      refine Tr.q (QS.assign rfl) rfl ?_
      refine Tr.nil ?_
      refine Tr.thenN ?_
      refine Tr.ret ?_
      refine Tr.ret1 Tryz.results59 rfl (fun w' hw => ?_)
      exact ⟨_, rfl, hw.below (Bg.le.refl _), by have e : (sortP (Go.Proofs.ltOf cmpR) (l.filter neR)).take k2 = sortP (Go.Proofs.ltOf cmpR) (l.filter neR) := List.take_of_length_le (by omega); (rw [ho, e] at hw); exact hw.new (.head _)⟩
end Go.Proofs.YtmhbfelnjkhepaaGreat
namespace Go.HL
open Go Go.RowKit
/-- What lies in blocks that the world did not have before. -/
def newHp (w w' : World) : Hp := fun b => if b < w.heap.size then none else w'.heap[b]?
/-- A row made in a call reads in the new blocks. -/
theorem NewRow.sl {α : Type} {w w' : World} {T : TypeId} {E : Enc α} {l : List α} {V : Value} (h : NewRow w w' T E l V) : Sl (newHp w w') E l V := by
  obtain ⟨h1, h2⟩ := h
  rcases h1 with ⟨rfl, rfl⟩ | ⟨g, cap, cur, rfl, ho, k1, k2, k3, k4⟩
  · exact Sl.nil _ _
  · refine RowOK.sl (T := T) (.inr ⟨g, cap, cur, rfl, ?_, k1, k2, k3, k4⟩)
    have hg := h2 g rfl
    show newHp w w' g = _
    unfold newHp; rw [if_neg (by omega)]; exact ho
section
variable {P : Program} {ops : Array Oper} {Q : Exit → Act → World → Prop} {N : Nat} {F : Bg} {L : List Ent} {M : Fr} {dst : Option Tmp} {ty : TypeId} {pos : String} {after : Array Edge} {g : Option (Nat × Bool)} {rest : List Oper} {d : Nat}
structure NewEnts (w w' : World) (Ls : List Ent) : Prop where
  ent : ∀ e ∈ Ls, e.holds w'
  nodup : (blks Ls).Nodup
  lt : ∀ b ∈ blks Ls, b < w'.heap.size
  ge : ∀ b ∈ blks Ls, w.heap.size ≤ b
theorem HpOK.newEnts {w w' : World} {Ls : List Ent} (h : HpOK F L w) (hx : Ext w w') (hn : NewEnts w w' Ls) : HpOK F (Ls ++ L) w' := by
  have hg := h.grow hx
  have hbl : blks (Ls ++ L) = blks Ls ++ blks L := List.filterMap_append
  refine ⟨hg.os, hg.tape, hg.out, hg.n, hg.dr, hg.bg, fun e he => ?_, ?_, fun b hb => ?_, fun b hb => ?_⟩
  · rcases List.mem_append.1 he with he | he
    · exact hn.ent e he
    · exact hg.ent e he
  · rw [hbl, List.nodup_append]
    exact ⟨hn.nodup, hg.nodup, fun a ha b hb => by have := hn.ge a ha; have := h.lt b hb; omega⟩
  · rw [hbl] at hb
    rcases List.mem_append.1 hb with hb | hb
    · exact hn.lt b hb
    · exact hg.lt b hb
  · rw [hbl] at hb
    rcases List.mem_append.1 hb with hb | hb
    · have hge := hn.ge b hb
      refine ⟨?_, Nat.le_trans (Nat.le_trans F.lo_le h.n) hge⟩
      cases hF : F.blk b with
      | none => rfl
      | some o =>
        have := h.bg _ _ hF
        have := (Array.getElem?_eq_some_iff.1 this).1
        omega
    · exact hg.sep b hb
theorem HpOK.ents {w w' : World} {Ls : List Ent} (h : HpOK F L w') (hF : (Bg.of w).le F) (hs : Pick L Ls) : NewEnts w w' Ls := by
  have h' := hs.heap h
  refine ⟨h'.ent, h'.nodup, h'.lt, fun b hb => ?_⟩
  have := (h'.sep b hb).2
  rw [hF.lo] at this; exact this
/-- A call that hands back a value with many new rows in it. -/
theorem Tr.callEnts {ι : Type} (φ : ι → Value) (Ls : ι → List Ent) {ok : ι → Prop} {f : FuncId} {xs : List Operand} {vs : List Value} {ts : Array TypeId} (hx : opvs M xs = some vs)
    (he : ∀ (args : Array Value) (w : World), (callFunc f args).run P w = .ok (.enter f args) w)
    (hc : ∀ w, HpOK F L w → Calls P f vs.toArray w fun e w' => ∃ i, e = .returned (φ i) ∧ Ext w w' ∧ NewEnts w w' (Ls i) ∧ ok i) (hd : Nat.ble (d + 1) N = true)
    (K : ∀ i, ok i → Tr N F (Ls i ++ L) ((d, φ i) :: M) (wpList P ops Q rest)) :
    Tr N F L M (wpList P ops Q (⟨some d, .call { callee := .value (.func f), args := xs.toArray, argTypes := ts }, ty, pos, after, none⟩ :: rest)) := by
  intro a w ha hw
  refine wpList_plain rfl fun K' hK => ?_
  have hr : (execOp a.eval ⟨some d, .call { callee := .value (.func f), args := xs.toArray, argTypes := ts }, ty, pos, after, none⟩).run P w = .ok (.enter f vs.toArray) w := by
    have := ha.evals hx
    simp [execOp, resolve, Deferred.ofValue, Act.eval, invoke, he, this]
  unfold Oper.wp
  rw [hr]
  refine (hc w hw).mono fun e w' ⟨i, h1, h2, h3, h4⟩ => ?_
  subst h1
  exact hK _ _ (K i h4 _ _ (ha.put (Nat.le_of_ble_eq_true hd)) (hw.newEnts h2 h3))
open Go.Lib in
def CellsIn (h : Hp) (b : Nat) (vs : List Value) : Prop := ∃ (cs : Array Value) (T : TypeId) (fz : Nat × Nat), h b = some (.cells cs T fz) ∧ ∀ (j : Nat) (v : Value), vs[j]? = some v → cs[j]? = some v
theorem CellsIn.mono {h k : Hp} {b : Nat} {vs : List Value} (c : CellsIn h b vs) (hk : Hp.le h k) : CellsIn k b vs := let ⟨cs, T, fz, h1, h2⟩ := c; ⟨cs, T, fz, hk _ _ h1, h2⟩
theorem cellE.cellsIn {b : Nat} {cs : List Value} {T : TypeId} {w w' : World} (h : (cellE b cs T).holds w) (hx : Ext w w') : CellsIn (HL.hp w') b cs :=
  CellsIn.mono (h := HL.hp w) ⟨cs.toArray, T, (0, 0), h, fun j v hv => by simpa using hv⟩ hx.hp
theorem CellsIn.cell {h : Hp} {b : Nat} {vs : List Value} (c : CellsIn h b vs) {j : Nat} {v : Value} (hv : vs[j]? = some v) : Cell h b j v := let ⟨cs, T, fz, h1, h2⟩ := c; ⟨cs, T, fz, h1, h2 j v hv⟩
theorem QS.loadCF {x : Operand} {t : TypeId} {b o : Nat} {v : Value} {vs : List Value} (hx : opv M x = some (.pointer (some ⟨b, o, none⟩))) (hc : CellsIn F.blk b vs) (hagg : ∀ w, (isAgg t).run P w = .ok false w) (hv : vs[o]? = some v) :
    QS P N F L M ⟨dst, .load t x, ty, pos, after, g⟩ v :=
  QS.load1 hx hagg fun w hw => ((hc.mono hw.bg).cell hv).at
theorem Pick.refl : ∀ L : List Ent, Pick L L
  | [] => .nil _
  | e :: L => .cons (.here _) (Pick.refl L)
theorem NewEnts.row {α : Type} {w w' : World} {Ls : List Ent} {V : Value} {T : TypeId} {E : Enc α} {l : List α} (h : NewEnts w w' Ls) (hm : rowE V T E l ∈ Ls) : NewRow w w' T E l V :=
  ⟨h.ent _ hm, fun b hb => h.ge b (List.mem_filterMap.2 ⟨_, hm, hb⟩)⟩
/-- What a row's slice value is like. -/
theorem Tr.rowShape {α : Type} {V : Value} {T : TypeId} {E : Enc α} {l : List α} {X : Act → World → Prop} (hm : rowE V T E l ∈ L) (K : ∀ a c, V = .slice a l.length c → Tr N F L M X) : Tr N F L M X := by
  intro a w ha hw
  have hr : RowOK V T E l (V.ownBlock.bind (w.heap[·]?)) := hw.ent _ hm
  rcases hr with ⟨h1, h2⟩ | ⟨gb, cap, cur, h1, _⟩
  · exact K none 0 (by rw [h1, h2]; rfl) a w ha hw
  · exact K _ _ h1 a w ha hw
end
end Go.HL
namespace Go.HL
section
variable {α : Type} [Inhabited α]
structure WO (lt : α → α → Bool) : Prop where
  irr : ∀ x, lt x x = false
  tr : ∀ x y z, lt x y = true → lt y z = true → lt x z = true
  ntr : ∀ x y z, lt x y = false → lt y z = false → lt x z = false
theorem WO.asym {lt : α → α → Bool} (h : WO lt) {x y : α} (e : lt x y = true) : lt y x = false := by
  cases e2 : lt y x
  · rfl
  · have := h.tr _ _ _ e e2; rw [h.irr] at this; cases this
/-- x < y ≤ z -/
theorem WO.lt_le {lt : α → α → Bool} (h : WO lt) {x y z : α} (e : lt x y = true) (e2 : lt z y = false) : lt x z = true := by
  cases e3 : lt x z
  · rw [h.ntr _ _ _ e3 e2] at e; cases e
  · rfl
/-- x ≤ y < z -/
theorem WO.le_lt {lt : α → α → Bool} (h : WO lt) {x y z : α} (e : lt y x = false) (e2 : lt y z = true) : lt x z = true := by
  cases e3 : lt x z
  · rw [h.ntr _ _ _ e e3] at e2; cases e2
  · rfl
def eqv (lt : α → α → Bool) (z x : α) : Bool := !lt z x && !lt x z
/-- The same elements; those that the order holds equal in their old order. -/
def Stab (lt : α → α → Bool) (l l' : List α) : Prop := l.Perm l' ∧ ∀ z, l.filter (eqv lt z) = l'.filter (eqv lt z)
theorem Stab.refl (lt : α → α → Bool) (l : List α) : Stab lt l l := ⟨.refl _, fun _ => rfl⟩
theorem Stab.trans {lt : α → α → Bool} {a b c : List α} (h : Stab lt a b) (k : Stab lt b c) : Stab lt a c := ⟨h.1.trans k.1, fun z => (h.2 z).trans (k.2 z)⟩
theorem Stab.len {lt : α → α → Bool} {a b : List α} (h : Stab lt a b) : b.length = a.length := h.1.length_eq.symm
theorem Stab.symm {lt : α → α → Bool} {a b : List α} (h : Stab lt a b) : Stab lt b a := ⟨h.1.symm, fun z => (h.2 z).symm⟩
theorem filter_nil_or {lt : α → α → Bool} (h : WO lt) {X Y : List α} (hc : ∀ x ∈ X, ∀ y ∈ Y, lt y x = true) (z : α) : X.filter (eqv lt z) = [] ∨ Y.filter (eqv lt z) = [] := by
  cases hX : X.filter (eqv lt z) with
  | nil => exact .inl rfl
  | cons x t =>
    refine .inr ?_
    rw [List.filter_eq_nil_iff]
    intro y hy he
    have hx : x ∈ X.filter (eqv lt z) := by rw [hX]; exact .head _
    obtain ⟨hx1, hx2⟩ := List.mem_filter.1 hx
    simp only [eqv, Bool.and_eq_true, Bool.not_eq_true'] at he hx2
    have := hc x hx1 y hy
    rw [h.ntr _ _ _ he.2 hx2.1] at this
    cases this
theorem Stab.swap {lt : α → α → Bool} (h : WO lt) (P X Y S : List α) (hc : ∀ x ∈ X, ∀ y ∈ Y, lt y x = true) : Stab lt (P ++ (X ++ (Y ++ S))) (P ++ (Y ++ (X ++ S))) := by
  refine ⟨List.Perm.append_left _ (by rw [← List.append_assoc, ← List.append_assoc]; exact List.perm_append_comm.append_right _), fun z => ?_⟩
  simp only [List.filter_append]
  rcases filter_nil_or h hc z with e | e <;> rw [e] <;> simp
/-- Sorted lists with the same elements, equal ones in the same order, are the same. -/
theorem stab_uniq {lt : α → α → Bool} (h : WO lt) : ∀ (l l' : List α), Stab lt l l' → l.Pairwise (fun x y => lt y x = false) → l'.Pairwise (fun x y => lt y x = false) → l = l'
  | [], l', s, _, _ => by have := s.len; simp at this; exact this.symm
  | x :: t, [], s, _, _ => by have := s.len; simp at this
  | x :: t, y :: t', s, h1, h2 => by
    rw [List.pairwise_cons] at h1 h2
    have hxy : lt x y = false := by
      have : x ∈ y :: t' := s.1.subset (.head _)
      rcases List.mem_cons.1 this with rfl | hm
      · exact h.irr _
      · exact h2.1 _ hm
    have hyx : lt y x = false := by
      have : y ∈ x :: t := s.1.symm.subset (.head _)
      rcases List.mem_cons.1 this with rfl | hm
      · exact h.irr _
      · exact h1.1 _ hm
    have ex : x = y := by
      have := s.2 x
      rw [List.filter_cons_of_pos (by simp [eqv, h.irr]), List.filter_cons_of_pos (by simp [eqv, hxy, hyx])] at this
      exact (List.cons.inj this).1
    subst ex
    have st : Stab lt t t' := ⟨(List.perm_cons x).1 s.1, fun z => by
      have := s.2 z
      simp only [List.filter_cons] at this
      split at this
      · exact (List.cons.inj this).2
      · exact this⟩
    rw [stab_uniq h t t' st h1.2 h2.2]
def mp (f : Nat → Nat) (l : List α) : List α := (List.range l.length).map fun k => l.getD (f k) default
theorem mp_len (f : Nat → Nat) (l : List α) : (mp f l).length = l.length := by simp [mp]
theorem mp_at {f : Nat → Nat} {l : List α} {k : Nat} (h : k < l.length) : (mp f l).getD k default = l.getD (f k) default := by
  simp [mp, List.getD_eq_getElem?_getD, h]
theorem ext_at {l l' : List α} (h : l.length = l'.length) (e : ∀ k, k < l.length → l.getD k default = l'.getD k default) : l = l' := by
  refine List.ext_getElem h fun k h1 h2 => ?_
  have := e k h1
  simpa [List.getD_eq_getElem?_getD, h1, h2] using this
theorem mp_id {f : Nat → Nat} {l : List α} (h : ∀ k, k < l.length → f k = k) : mp f l = l :=
  ext_at (mp_len _ _) fun k hk => by rw [mp_len] at hk; rw [mp_at hk, h k hk]
theorem mp_mp {f g k : Nat → Nat} {l : List α} (h : ∀ x, x < l.length → f x < l.length) (e : ∀ x, x < l.length → g (f x) = k x) : mp f (mp g l) = mp k l :=
  ext_at (by simp [mp_len]) fun x hx => by
    rw [mp_len, mp_len] at hx
    rw [mp_at (by rw [mp_len]; exact hx), mp_at (h x hx), mp_at hx, e x hx]
theorem mp_congr {f g : Nat → Nat} {l : List α} (e : ∀ x, x < l.length → f x = g x) : mp f l = mp g l :=
  ext_at (by simp [mp_len]) fun x hx => by rw [mp_len] at hx; rw [mp_at hx, mp_at hx, e x hx]
def swF (p q k : Nat) : Nat := if k = p then q else if k = q then p else k
def swR (a b n k : Nat) : Nat := if a ≤ k ∧ k < a + n then k - a + b else if b ≤ k ∧ k < b + n then k - b + a else k
def rotF (lo m hi k : Nat) : Nat := if lo ≤ k ∧ k < lo + (hi - m) then k + (m - lo) else if lo + (hi - m) ≤ k ∧ k < hi then k - (hi - m) else k
theorem swF_cases (p q k : Nat) : (k = p ∧ swF p q k = q) ∨ (k ≠ p ∧ k = q ∧ swF p q k = p) ∨ (k ≠ p ∧ k ≠ q ∧ swF p q k = k) := by simp only [swF]; grind
theorem swR_cases (a b n k : Nat) : (a ≤ k ∧ k < a + n ∧ swR a b n k = k - a + b) ∨ (¬ (a ≤ k ∧ k < a + n) ∧ b ≤ k ∧ k < b + n ∧ swR a b n k = k - b + a) ∨ (¬ (a ≤ k ∧ k < a + n) ∧ ¬ (b ≤ k ∧ k < b + n) ∧ swR a b n k = k) := by simp only [swR]; grind
theorem rotF_cases (lo m hi k : Nat) : (lo ≤ k ∧ k < lo + (hi - m) ∧ rotF lo m hi k = k + (m - lo)) ∨ (¬ (lo ≤ k ∧ k < lo + (hi - m)) ∧ lo + (hi - m) ≤ k ∧ k < hi ∧ rotF lo m hi k = k - (hi - m)) ∨ (¬ (lo ≤ k ∧ k < lo + (hi - m)) ∧ ¬ (lo + (hi - m) ≤ k ∧ k < hi) ∧ rotF lo m hi k = k) := by simp only [rotF]; grind
theorem mp_sw {l : List α} {p q : Nat} (hp : p < l.length) (hq : q < l.length) : (l.set p (l.getD q default)).set q (l.getD p default) = mp (swF p q) l :=
  ext_at (by simp [mp_len]) fun k hk => by
    have hk' : k < l.length := by simpa using hk
    rw [mp_at hk']
    simp only [List.getD_eq_getElem?_getD, List.getElem?_set, List.length_set, swF]
    grind
theorem swR_0 {a b : Nat} {l : List α} : mp (swR a b 0) l = l := mp_id fun k _ => by simp only [swR]; split <;> (try split) <;> omega
theorem swR_step {a b n i : Nat} {l : List α} (h1 : a + n ≤ b) (h2 : b + n ≤ l.length) (hi : i < n) : mp (swF (a + i) (b + i)) (mp (swR a b i) l) = mp (swR a b (i + 1)) l :=
  mp_mp (fun x hx => by simp only [swF]; split <;> (try split) <;> omega) fun x hx => by
    have h3 := swF_cases (a + i) (b + i) x
    have h4 := swR_cases a b i (swF (a + i) (b + i) x)
    have h5 := swR_cases a b (i + 1) x
    omega
theorem rotF_lt {lo m hi k n : Nat} (h1 : lo ≤ m) (h2 : m ≤ hi) (h3 : hi ≤ n) (h : k < n) : rotF lo m hi k < n := by simp only [rotF]; split <;> (try split) <;> omega
theorem rot_gt {m i j : Nat} {l : List α} (h1 : i ≤ m) (h2 : m + j ≤ l.length) (h : j < i) : mp (rotF (m - (i - j)) m (m + j)) (mp (swR (m - i) m j) l) = mp (rotF (m - i) m (m + j)) l :=
  mp_mp (fun x hx => rotF_lt (by omega) (by omega) h2 hx) fun x hx => by
    have h3 := rotF_cases (m - (i - j)) m (m + j) x
    have h4 := swR_cases (m - i) m j (rotF (m - (i - j)) m (m + j) x)
    have h5 := rotF_cases (m - i) m (m + j) x
    omega
theorem rot_lt {m i j : Nat} {l : List α} (h1 : i ≤ m) (h2 : m + j ≤ l.length) (h : i < j) : mp (rotF (m - i) m (m + (j - i))) (mp (swR (m - i) (m + j - i) i) l) = mp (rotF (m - i) m (m + j)) l :=
  mp_mp (fun x hx => rotF_lt (by omega) (by omega) (by omega) hx) fun x hx => by
    have h3 := rotF_cases (m - i) m (m + (j - i)) x
    have h4 := swR_cases (m - i) (m + j - i) i (rotF (m - i) m (m + (j - i)) x)
    have h5 := rotF_cases (m - i) m (m + j) x
    omega
theorem rot_eq {m i : Nat} {l : List α} (h1 : i ≤ m) : mp (swR (m - i) m i) l = mp (rotF (m - i) m (m + i)) l :=
  mp_congr fun x hx => by
    have h4 := swR_cases (m - i) m i x
    have h5 := rotF_cases (m - i) m (m + i) x
    omega
theorem rot_down {l : List α} {i j : Nat} (h : 0 < j) (hj : j ≤ i) (hi : i < l.length) : mp (swF j (j - 1)) (mp (rotF j i (i + 1)) l) = mp (rotF (j - 1) i (i + 1)) l :=
  mp_mp (fun x hx => by simp only [swF]; split <;> (try split) <;> omega) fun x hx => by
    have h3 := swF_cases j (j - 1) x
    have h4 := rotF_cases j i (i + 1) (swF j (j - 1) x)
    have h5 := rotF_cases (j - 1) i (i + 1) x
    omega
theorem rot_up {l : List α} {a k : Nat} (h : a ≤ k) (hk : k + 1 < l.length) : mp (swF k (k + 1)) (mp (rotF a (a + 1) (k + 1)) l) = mp (rotF a (a + 1) (k + 2)) l :=
  mp_mp (fun x hx => by simp only [swF]; split <;> (try split) <;> omega) fun x hx => by
    have h3 := swF_cases k (k + 1) x
    have h4 := rotF_cases a (a + 1) (k + 1) (swF k (k + 1) x)
    have h5 := rotF_cases a (a + 1) (k + 2) x
    omega
theorem rot_none {l : List α} {a m b : Nat} (h : a = m ∨ m = b) (h1 : a ≤ m) (h2 : m ≤ b) : mp (rotF a m b) l = l := mp_id fun k _ => by have := rotF_cases a m b k; omega
theorem rot_list {l : List α} {a m b : Nat} (h1 : a ≤ m) (h2 : m ≤ b) (h3 : b ≤ l.length) :
    mp (rotF a m b) l = l.take a ++ ((l.take b).drop m ++ ((l.take m).drop a ++ l.drop b)) := by
  refine ext_at (by simp [mp_len]; omega) fun k hk => ?_
  rw [mp_len] at hk
  rw [mp_at hk]
  simp only [List.getD_eq_getElem?_getD, List.getElem?_append, List.length_take, List.length_drop, List.getElem?_take, List.getElem?_drop, rotF]
  congr 1
  grind
theorem list_parts {l : List α} {a m b : Nat} (h1 : a ≤ m) (h2 : m ≤ b) (h3 : b ≤ l.length) :
    l = l.take a ++ ((l.take m).drop a ++ ((l.take b).drop m ++ l.drop b)) := by
  refine ext_at (by simp; omega) fun k hk => ?_
  simp only [List.getD_eq_getElem?_getD, List.getElem?_append, List.length_take, List.length_drop, List.getElem?_take, List.getElem?_drop]
  congr 1
  grind
theorem mem_win {l : List α} {a b : Nat} {x : α} (h : x ∈ (l.take b).drop a) : ∃ k, a ≤ k ∧ k < b ∧ k < l.length ∧ x = l.getD k default := by
  obtain ⟨i, hi⟩ := List.mem_iff_getElem?.1 h
  rw [List.getElem?_drop, List.getElem?_take] at hi
  split at hi
  · refine ⟨a + i, by omega, by omega, (List.getElem?_eq_some_iff.1 hi).1, by simp [List.getD_eq_getElem?_getD, hi]⟩
  · cases hi
theorem win_mem {l : List α} {a b k : Nat} (h1 : a ≤ k) (h2 : k < b) (h3 : k < l.length) : l.getD k default ∈ (l.take b).drop a := by
  refine List.mem_iff_getElem?.2 ⟨k - a, ?_⟩
  rw [List.getElem?_drop, List.getElem?_take, if_pos (by omega), show a + (k - a) = k by omega]
  simp [List.getD_eq_getElem?_getD, h3]
theorem Stab.rot {lt : α → α → Bool} (h : WO lt) {l : List α} {a m b : Nat} (h1 : a ≤ m) (h2 : m ≤ b) (h3 : b ≤ l.length)
    (hc : ∀ x y, a ≤ x → x < m → m ≤ y → y < b → lt (l.getD y default) (l.getD x default) = true) : Stab lt l (mp (rotF a m b) l) := by
  rw [rot_list h1 h2 h3]
  conv => lhs; rw [list_parts h1 h2 h3]
  refine Stab.swap h _ _ _ _ fun x hx y hy => ?_
  obtain ⟨i, a1, a2, a3, rfl⟩ := mem_win hx
  obtain ⟨j, b1, b2, b3, rfl⟩ := mem_win hy
  exact hc i j a1 a2 b1 b2
/-- Nothing outside [a, b) has changed. -/
def Fram (a b : Nat) (l l' : List α) : Prop := l'.length = l.length ∧ ∀ k, k < a ∨ b ≤ k → l'.getD k default = l.getD k default
theorem Fram.refl (a b : Nat) (l : List α) : Fram a b l l := ⟨rfl, fun _ _ => rfl⟩
theorem Fram.trans {a b : Nat} {l m n : List α} (h : Fram a b l m) (k : Fram a b m n) : Fram a b l n := ⟨k.1.trans h.1, fun x hx => (k.2 x hx).trans (h.2 x hx)⟩
theorem Fram.mono {a b c d : Nat} {l m : List α} (h : Fram a b l m) (h1 : c ≤ a) (h2 : b ≤ d) : Fram c d l m := ⟨h.1, fun x hx => h.2 x (by omega)⟩
theorem Fram.rot {a b s m e : Nat} {l : List α} (h1 : a ≤ s) (h2 : e ≤ b) (h3 : s ≤ m) (h4 : m ≤ e) : Fram a b l (mp (rotF s m e) l) :=
  ⟨mp_len _ _, fun k hk => by
    by_cases h : k < l.length
    · rw [mp_at h, show rotF s m e k = k by have := rotF_cases s m e k; omega]
    · have e1 := List.getElem?_eq_none (l := mp (rotF s m e) l) (i := k) (by rw [mp_len]; omega)
      have e2 := List.getElem?_eq_none (l := l) (i := k) (by omega)
      rw [List.getD_eq_getElem?_getD, List.getD_eq_getElem?_getD, e1, e2]⟩
theorem win_of {lt : α → α → Bool} {l l' : List α} {a b k : Nat} (s : Stab lt l l') (f : Fram a b l l') (hb : b ≤ l.length) (h1 : a ≤ k) (h2 : k < b) : ∃ j, a ≤ j ∧ j < b ∧ l'.getD k default = l.getD j default := by
  have hl := f.1
  have e1 : l'.take a = l.take a := ext_at (by simp [hl]) fun x hx => by
    have hx' : x < a := by simp at hx; omega
    have := f.2 x (.inl hx')
    simpa [List.getD_eq_getElem?_getD, List.getElem?_take, hx'] using this
  have e2 : l'.drop b = l.drop b := ext_at (by simp [hl]) fun x hx => by
    have := f.2 (b + x) (.inr (by omega))
    simpa [List.getD_eq_getElem?_getD, List.getElem?_drop] using this
  have p1 := s.1
  rw [list_parts (l := l) (a := a) (m := b) (b := b) (by omega) (Nat.le_refl _) hb, list_parts (l := l') (a := a) (m := b) (b := b) (by omega) (Nat.le_refl _) (by omega), e1, e2] at p1
  have p2 := (List.perm_append_left_iff _).1 p1
  have e3 : ∀ x : List α, (x.take b).drop b = [] := fun x => by simp
  rw [e3, e3, List.nil_append] at p2
  have p3 := (List.perm_append_right_iff _).1 p2
  obtain ⟨j, a1, a2, a3, a4⟩ := mem_win (p3.symm.subset (win_mem (l := l') h1 h2 (by omega)))
  exact ⟨j, a1, a2, a4⟩
/-- Sorted from a up to b. -/
def Srt (lt : α → α → Bool) (l : List α) (a b : Nat) : Prop := ∀ p q, a ≤ p → p < q → q < b → lt (l.getD q default) (l.getD p default) = false
theorem Srt.sub {lt : α → α → Bool} {l : List α} {a b c d : Nat} (h : Srt lt l a b) (h1 : a ≤ c) (h2 : d ≤ b) : Srt lt l c d := fun p q x y z => h p q (by omega) y (by omega)
theorem Srt.one {lt : α → α → Bool} {l : List α} {a b : Nat} (h : b ≤ a + 1) : Srt lt l a b := fun p q x y z => by omega
theorem Srt.fram {lt : α → α → Bool} {l l' : List α} {a b c d : Nat} (h : Srt lt l a b) (f : Fram c d l l') (hd : b ≤ c ∨ d ≤ a) : Srt lt l' a b := fun p q x y z => by
  rw [f.2 p (by omega), f.2 q (by omega)]; exact h p q x y z
theorem Srt.all {lt : α → α → Bool} {l : List α} (h : Srt lt l 0 l.length) : l.Pairwise fun x y => lt y x = false := by
  rw [List.pairwise_iff_getElem]
  intro i j hi hj hij
  have := h i j (Nat.zero_le _) hij hj
  simpa [List.getD_eq_getElem?_getD, hi, hj] using this
theorem Srt.le {lt : α → α → Bool} (h : WO lt) {l : List α} {a b p q : Nat} (s : Srt lt l a b) (h1 : a ≤ p) (h2 : p ≤ q) (h3 : q < b) : lt (l.getD q default) (l.getD p default) = false := by
  rcases Nat.eq_or_lt_of_le h2 with rfl | h2
  · exact h.irr _
  · exact s p q h1 h2 h3
theorem Srt.glue {lt : α → α → Bool} {l : List α} {a m b : Nat} (h1 : Srt lt l a m) (h2 : Srt lt l m b) (hc : ∀ p q, a ≤ p → p < m → m ≤ q → q < b → lt (l.getD q default) (l.getD p default) = false) : Srt lt l a b := fun p q x y z => by
  by_cases hq : q < m
  · exact h1 p q x y hq
  · by_cases hp : p < m
    · exact hc p q x hp (by omega) z
    · exact h2 p q (by omega) y z
/-- An element put in where it belongs, from behind. -/
theorem srt_ins {lt : α → α → Bool} (h : WO lt) {l : List α} {a i j : Nat} (hs : Srt lt l a i) (hi : i < l.length) (h1 : a ≤ j) (h2 : j ≤ i) (hA : ∀ q, j ≤ q → q < i → lt (l.getD i default) (l.getD q default) = true)
    (hB : j = a ∨ lt (l.getD i default) (l.getD (j - 1) default) = false) : Stab lt l (mp (rotF j i (i + 1)) l) ∧ Srt lt (mp (rotF j i (i + 1)) l) a (i + 1) := by
  refine ⟨Stab.rot h h2 (by omega) (by omega) fun x y a1 a2 a3 a4 => by rw [show y = i by omega]; exact hA x a1 a2, fun p q a1 a2 a3 => ?_⟩
  rw [mp_at (by omega), mp_at (by omega)]
  have hlow : ∀ p, a ≤ p → p < j → lt (l.getD i default) (l.getD p default) = false := fun p b1 b2 => by
    rcases hB with rfl | hB
    · omega
    · exact h.ntr _ _ _ hB (hs.le h b1 (by omega) (by omega))
  have fp : ∀ k, k ≤ i → rotF j i (i + 1) k = if k < j then k else if k = j then i else k - 1 := fun k hk => by simp only [rotF]; grind
  rw [fp p (by omega), fp q (by omega)]
  by_cases c1 : q < j
  · rw [if_pos c1, if_pos (by omega)]; exact hs _ _ a1 a2 (by omega)
  · rw [if_neg c1]
    by_cases c2 : q = j
    · rw [if_pos c2, if_pos (by omega)]; exact hlow p a1 (by omega)
    · rw [if_neg c2]
      by_cases c3 : p < j
      · rw [if_pos c3]; exact hs _ _ a1 (by omega) (by omega)
      · rw [if_neg c3]
        by_cases c4 : p = j
        · rw [if_pos c4]; exact h.asym (hA _ (by omega) (by omega))
        · rw [if_neg c4]; exact hs _ _ (by omega) (by omega) (by omega)
/-- The same, from in front. -/
theorem srt_ins' {lt : α → α → Bool} (h : WO lt) {l : List α} {a i b : Nat} (hs : Srt lt l (a + 1) b) (hb : b ≤ l.length) (h1 : a + 1 ≤ i) (h2 : i ≤ b) (hA : ∀ q, a + 1 ≤ q → q < i → lt (l.getD q default) (l.getD a default) = true)
    (hB : ∀ q, i ≤ q → q < b → lt (l.getD q default) (l.getD a default) = false) : Stab lt l (mp (rotF a (a + 1) i) l) ∧ Srt lt (mp (rotF a (a + 1) i) l) a b := by
  refine ⟨Stab.rot h (by omega) h1 (by omega) fun x y a1 a2 a3 a4 => by rw [show x = a by omega]; exact hA y a3 a4, fun p q a1 a2 a3 => ?_⟩
  rw [mp_at (by omega), mp_at (by omega)]
  have fp : ∀ k, a ≤ k → rotF a (a + 1) i k = if k + 1 < i then k + 1 else if k + 1 = i then a else k := fun k hk => by simp only [rotF]; grind
  rw [fp p (by omega), fp q (by omega)]
  by_cases c1 : q + 1 < i
  · rw [if_pos c1, if_pos (by omega)]; exact hs _ _ (by omega) (by omega) (by omega)
  · rw [if_neg c1]
    by_cases c2 : q + 1 = i
    · rw [if_pos c2, if_pos (by omega)]; exact h.asym (hA _ (by omega) (by omega))
    · rw [if_neg c2]
      by_cases c3 : p + 1 < i
      · rw [if_pos c3]; exact hs _ _ (by omega) (by omega) (by omega)
      · rw [if_neg c3]
        by_cases c4 : p + 1 = i
        · rw [if_pos c4]; exact hB _ (by omega) (by omega)
        · rw [if_neg c4]; exact hs _ _ (by omega) (by omega) (by omega)
/-- What the rotation leaves: two halves, each of two sorted parts; none of the right before one of the left. -/
structure Half (lt : α → α → Bool) (l cur : List α) (a s mid e b : Nat) : Prop where
  st : Stab lt l cur
  fr : Fram a b l cur
  cr : ∀ p q, a ≤ p → p < mid → mid ≤ q → q < b → lt (cur.getD q default) (cur.getD p default) = false
  s1 : Srt lt cur a s
  s2 : Srt lt cur s mid
  s3 : Srt lt cur mid e
  s4 : Srt lt cur e b
theorem half_rot {lt : α → α → Bool} (h : WO lt) {l : List α} {a m b s mid e : Nat} (h1 : Srt lt l a m) (h2 : Srt lt l m b) (hb : b ≤ l.length) (ha : a ≤ s) (hs : s ≤ m) (he : m ≤ e) (hbb : e ≤ b) (hm : mid = s + (e - m))
    (hd : s = m ∨ m = e ∨ lt (l.getD (e - 1) default) (l.getD s default) = true) (hg : s = a ∨ e = b ∨ lt (l.getD e default) (l.getD (s - 1) default) = false) : Half lt l (mp (rotF s m e) l) a s mid e b := by
  have c1 : ∀ x y, s ≤ x → x < m → m ≤ y → y < e → lt (l.getD y default) (l.getD x default) = true := fun x y a1 a2 a3 a4 => by
    rcases hd with hd | hd | hd
    · omega
    · omega
    · exact h.le_lt (h2.le h (by omega) (show y ≤ e - 1 by omega) (by omega)) (h.lt_le hd (h1.le h (by omega) a1 (by omega)))
  have c2 : ∀ x y, a ≤ x → x < s → e ≤ y → y < b → lt (l.getD y default) (l.getD x default) = false := fun x y a1 a2 a3 a4 => by
    rcases hg with hg | hg | hg
    · omega
    · omega
    · exact h.ntr _ _ _ (h2.le h (by omega) a3 (by omega)) (h.ntr _ _ _ hg (h1.le h a1 (by omega) (by omega)))
  have fp : ∀ k, rotF s m e k = if s ≤ k ∧ k < mid then k + (m - s) else if mid ≤ k ∧ k < e then k - (e - m) else k := fun k => by subst hm; rfl
  have fl : ∀ k, k < b → k < l.length := fun k hk => by omega
  refine ⟨Stab.rot h hs he (by omega) c1, Fram.rot ha hbb hs he, fun p q a1 a2 a3 a4 => ?_, fun p q a1 a2 a3 => ?_, fun p q a1 a2 a3 => ?_, fun p q a1 a2 a3 => ?_, fun p q a1 a2 a3 => ?_⟩
  · rw [mp_at (by omega), mp_at (by omega), fp, fp, if_neg (c := s ≤ q ∧ q < mid) (by omega)]
    by_cases d1 : q < e
    · rw [if_pos (c := mid ≤ q ∧ q < e) ⟨a3, d1⟩]
      by_cases d2 : p < s
      · rw [if_neg (by omega), if_neg (by omega)]; exact h1 _ _ a1 (by omega) (by omega)
      · rw [if_pos (by omega)]; exact h.asym (c1 _ _ (by omega) (by omega) (by omega) (by omega))
    · rw [if_neg (c := mid ≤ q ∧ q < e) (by omega)]
      by_cases d2 : p < s
      · rw [if_neg (by omega), if_neg (by omega)]; exact c2 _ _ a1 d2 (by omega) a4
      · rw [if_pos (by omega)]; exact h2 _ _ (by omega) (by omega) a4
  · rw [mp_at (by omega), mp_at (by omega), fp, fp, if_neg (by omega), if_neg (by omega), if_neg (by omega), if_neg (by omega)]; exact h1 _ _ a1 a2 (by omega)
  · rw [mp_at (by omega), mp_at (by omega), fp, fp, if_pos (by omega), if_pos (by omega)]; exact h2 _ _ (by omega) (by omega) (by omega)
  · rw [mp_at (by omega), mp_at (by omega), fp, fp, if_neg (by omega), if_pos (by omega), if_neg (by omega), if_pos (by omega)]; exact h1 _ _ (by omega) (by omega) (by omega)
  · rw [mp_at (by omega), mp_at (by omega), fp, fp, if_neg (by omega), if_neg (by omega), if_neg (by omega), if_neg (by omega)]; exact h2 _ _ (by omega) a2 a3
theorem Half.left {lt : α → α → Bool} {l c1 c2 : List α} {a s mid e b : Nat} (h : Half lt l c1 a s mid e b) (hb : b ≤ l.length) (hm : mid ≤ e) (hmb : e ≤ b) (st : Stab lt c1 c2) (fr : Fram a mid c1 c2) (so : Srt lt c2 a mid) : Half lt l c2 a mid mid e b := by
  have hl := h.fr.1
  refine ⟨h.st.trans st, h.fr.trans (fr.mono (Nat.le_refl _) (by omega)), fun p q a1 a2 a3 a4 => ?_, so, .one (by omega), h.s3.fram fr (.inr (Nat.le_refl _)), h.s4.fram fr (.inr hm)⟩
  obtain ⟨j, b1, b2, b3⟩ := win_of st fr (by omega) a1 a2
  rw [b3, fr.2 q (.inr a3)]
  exact h.cr _ _ b1 b2 a3 a4
theorem Half.left0 {lt : α → α → Bool} {l c1 : List α} {a s mid e b : Nat} (h : Half lt l c1 a s mid e b) (hn : ¬ (a < s ∧ s < mid)) (ha : a ≤ s) (hs : s ≤ mid) : Half lt l c1 a mid mid e b := by
  refine ⟨h.st, h.fr, h.cr, ?_, .one (by omega), h.s3, h.s4⟩
  by_cases c : a = s
  · rw [c]; exact h.s2
  · rw [show mid = s by omega]; exact h.s1
theorem Half.right {lt : α → α → Bool} {l c2 c3 : List α} {a mid e b : Nat} (h : Half lt l c2 a mid mid e b) (hb : b ≤ l.length) (ha : a ≤ mid) (hm : mid ≤ b) (st : Stab lt c2 c3) (fr : Fram mid b c2 c3) (so : Srt lt c3 mid b) : Stab lt l c3 ∧ Fram a b l c3 ∧ Srt lt c3 a b := by
  have hl := h.fr.1
  refine ⟨h.st.trans st, h.fr.trans (fr.mono ha (Nat.le_refl _)), (h.s1.fram fr (.inl (Nat.le_refl _))).glue so fun p q a1 a2 a3 a4 => ?_⟩
  obtain ⟨j, b1, b2, b3⟩ := win_of st fr (by omega) a3 a4
  rw [b3, fr.2 p (.inl a2)]
  exact h.cr _ _ a1 a2 b1 b2
theorem Half.right0 {lt : α → α → Bool} {l c2 : List α} {a mid e b : Nat} (h : Half lt l c2 a mid mid e b) (hn : ¬ (mid < e ∧ e < b)) (hm : mid ≤ e) (hb : e ≤ b) : Stab lt l c2 ∧ Fram a b l c2 ∧ Srt lt c2 a b := by
  refine ⟨h.st, h.fr, h.s1.glue ?_ h.cr⟩
  by_cases c : mid = e
  · rw [c]; exact h.s4
  · rw [show b = e by omega]; exact h.s3
/-- Each block of bs is sorted, up to n. -/
def Blk (lt : α → α → Bool) (l : List α) (bs n : Nat) : Prop := ∀ t p q, t * bs ≤ p → p < q → q < (t + 1) * bs → q < n → lt (l.getD q default) (l.getD p default) = false
theorem Blk.all {lt : α → α → Bool} {l : List α} {bs n : Nat} (h : Blk lt l bs n) (hn : n ≤ bs) : Srt lt l 0 n := fun p q a1 a2 a3 => h 0 p q (by omega) a2 (by omega) a3
theorem blk_ins {lt : α → α → Bool} {l l' : List α} {bs t0 b : Nat} (h : Blk lt l bs (t0 * bs)) (f : Fram (t0 * bs) b l l') (s : Srt lt l' (t0 * bs) b) (hb : b ≤ (t0 + 1) * bs) : Blk lt l' bs b := fun t p q a1 a2 a3 a4 => by
  by_cases c : q < t0 * bs
  · rw [f.2 p (by omega), f.2 q (by omega)]; exact h t p q a1 a2 a3 c
  · have e1 : t * bs < (t0 + 1) * bs := by omega
    have e2 : t0 * bs < (t + 1) * bs := by omega
    have e3 := Nat.lt_of_mul_lt_mul_right e1
    have e4 := Nat.lt_of_mul_lt_mul_right e2
    obtain rfl : t = t0 := by omega
    exact s p q a1 a2 a4
/-- Blocks of 2bs up to a, of bs from there. -/
def Mix (lt : α → α → Bool) (l : List α) (bs a n : Nat) : Prop := Blk lt l (2 * bs) a ∧ ∀ t p q, t * bs ≤ p → p < q → q < (t + 1) * bs → a ≤ p → q < n → lt (l.getD q default) (l.getD p default) = false
theorem mix_0 {lt : α → α → Bool} {l : List α} {bs n : Nat} (h : Blk lt l bs n) : Mix lt l bs 0 n := ⟨fun t p q a1 a2 a3 a4 => by omega, fun t p q a1 a2 a3 _ a5 => h t p q a1 a2 a3 a5⟩
theorem mix_left {lt : α → α → Bool} {l : List α} {bs n t0 m : Nat} (h : Mix lt l bs (t0 * (2 * bs)) n) (hm : m ≤ t0 * (2 * bs) + bs) (hn : m ≤ n) : Srt lt l (t0 * (2 * bs)) m := fun p q a1 a2 a3 => by
  have e : 2 * t0 * bs = t0 * (2 * bs) := by rw [Nat.mul_comm 2 t0, Nat.mul_assoc]
  refine h.2 (2 * t0) p q (by omega) a2 (by rw [Nat.add_mul]; omega) a1 (by omega)
theorem mix_right {lt : α → α → Bool} {l : List α} {bs n t0 b : Nat} (h : Mix lt l bs (t0 * (2 * bs)) n) (hm : b ≤ t0 * (2 * bs) + 2 * bs) (hn : b ≤ n) : Srt lt l (t0 * (2 * bs) + bs) b := fun p q a1 a2 a3 => by
  have e : 2 * t0 * bs = t0 * (2 * bs) := by rw [Nat.mul_comm 2 t0, Nat.mul_assoc]
  refine h.2 (2 * t0 + 1) p q (by rw [Nat.add_mul]; omega) a2 (by rw [Nat.add_mul, Nat.add_mul]; omega) (by omega) (by omega)
theorem mix_step {lt : α → α → Bool} {l l' : List α} {bs n t0 b : Nat} (h : Mix lt l bs (t0 * (2 * bs)) n) (f : Fram (t0 * (2 * bs)) b l l') (s : Srt lt l' (t0 * (2 * bs)) b) (hb : b ≤ t0 * (2 * bs) + 2 * bs) (hab : t0 * (2 * bs) ≤ b) : Mix lt l' bs b n :=
  ⟨blk_ins h.1 f s (by rw [Nat.add_mul]; omega), fun t p q a1 a2 a3 a4 a5 => by
    rw [f.2 p (by omega), f.2 q (by omega)]; exact h.2 t p q a1 a2 a3 (by omega) a5⟩
theorem mix_end {lt : α → α → Bool} {l : List α} {bs n t0 : Nat} (h : Mix lt l bs (t0 * (2 * bs)) n) (hn : n ≤ t0 * (2 * bs) + bs) : Blk lt l (2 * bs) n := fun t p q a1 a2 a3 a4 => by
  by_cases c : q < t0 * (2 * bs)
  · exact h.1 t p q a1 a2 a3 c
  · have e1 : t * (2 * bs) < (t0 + 1) * (2 * bs) := by rw [Nat.add_mul]; omega
    have e2 : t0 * (2 * bs) < (t + 1) * (2 * bs) := by omega
    have e3 := Nat.lt_of_mul_lt_mul_right e1
    have e4 := Nat.lt_of_mul_lt_mul_right e2
    obtain rfl : t = t0 := by omega
    exact mix_left h hn (Nat.le_refl _) p q a1 a2 a4
end
end Go.HL
namespace Go.HL
open Go Go.RowKit Go.Sort
section
variable {α : Type} {E : Enc α} {f : α → Value}
theorem Mut.refl (w : World) (V : Value) : Mut w w V := ⟨rfl, rfl, rfl, Nat.le_refl _, Nat.le_refl _, fun _ _ _ => rfl⟩
end
def Bg.less (w : World) (V : Value) : Bg := ⟨fun b => if some b = V.ownBlock then none else w.heap[b]?, 0, w.drawn, w.os, w.tape, w.output, 0, Nat.le_refl _⟩
theorem HpOK.startOwn {α : Type} {V : Value} {T : TypeId} {E : Enc α} {l : List α} {w : World} (h : (rowE V T E l).holds w) : HpOK (Bg.less w V) [rowE V T E l] w := by
  have hlt : ∀ b, V.ownBlock = some b → b < w.heap.size := fun b hV => by
    have h' : RowOK V T E l (V.ownBlock.bind (w.heap[·]?)) := h
    rcases h' with ⟨rfl, _⟩ | ⟨g, cap, cur, rfl, ho, _⟩
    · simp [Value.ownBlock] at hV
    · simp only [Value.ownBlock, Option.some.injEq] at hV
      subst hV
      exact (Array.getElem?_eq_some_iff.1 ho).1
  have hb : blks [rowE V T E l] = V.ownBlock.toList := by
    cases hV : V.ownBlock <;> simp [blks, rowE, hV]
  refine ⟨rfl, rfl, rfl, Nat.zero_le _, Nat.le_refl _, fun b o e => ?_, fun e he => ?_, ?_, fun b hm => ?_, fun b hm => ?_⟩
  · simp only [Bg.less] at e
    split at e
    · cases e
    · exact e
  · obtain rfl := List.mem_singleton.1 he; exact h
  · rw [hb]; cases V.ownBlock <;> simp
  · rw [hb] at hm; exact hlt b (by simpa using hm)
  · rw [hb] at hm
    have hm' : V.ownBlock = some b := by simpa using hm
    exact ⟨by simp only [Bg.less]; rw [if_pos hm'.symm], Nat.zero_le _⟩
theorem HpOK.mutOwn {α : Type} {V V' : Value} {T : TypeId} {E : Enc α} {l : List α} {L : List Ent} {w w' : World} (h : HpOK (Bg.less w V) L w') (hm : rowE V' T E l ∈ L) (hb : V'.ownBlock = V.ownBlock) : Mut w w' V ∧ (rowE V' T E l).holds w' := by
  have key : ∀ k, k < w.heap.size → some k ≠ V.ownBlock → w'.heap[k]? = w.heap[k]? := fun k hk hne => by
    have e : (Bg.less w V).blk k = some w.heap[k] := by simp only [Bg.less]; rw [if_neg hne]; simp [hk]
    rw [h.bg k _ e]; simp [hk]
  refine ⟨⟨h.os, h.tape, h.out, ?_, h.dr, key⟩, h.ent _ hm⟩
  rcases Nat.eq_zero_or_pos w.heap.size with h0 | h0
  · omega
  · have hk : w.heap.size - 1 < w.heap.size := by omega
    by_cases hne : some (w.heap.size - 1) = V.ownBlock
    · have : w.heap.size - 1 ∈ blks L := List.mem_filterMap.2 ⟨_, hm, by show V'.ownBlock = _; rw [hb, ← hne]⟩
      have := h.lt _ this
      omega
    · have h1 := key _ hk hne
      rw [Array.getElem?_eq_getElem hk] at h1
      have := (Array.getElem?_eq_some_iff.1 h1).1
      omega
theorem enterOwn {α : Type} {T : TypeId} {E : Enc α} {l : List α} {V : Value} {P : Program} {f : FuncId} {fn : Func} {c : Code} {N : Nat} {args : List Value} {w : World} {R : Ending → World → Prop} (hr : (rowE V T E l).holds w) (hf : P.funcs[f]? = some fn) (hb : fn.body = some c) (hN : fn.ntmps = N) (hle : Nat.ble args.length N = true)
    (h : Tr N (Bg.less w V) [rowE V T E l] (frameOf 0 args) (c.wp P (bodyPost P fn R))) (hN0 : Nat.ble N mk0 = true := by rfl) : Calls P f args.toArray w R :=
  calls_of_wp hf hb (h _ w (frameOf_ok (by rw [hN]; simp) hle hN0) (HpOK.startOwn hr))
section
variable {P : Program} {ops : Array Oper} {Q : Exit → Act → World → Prop} {N : Nat} {F : Bg} {L : List Ent} {M : Fr} {ty : TypeId} {pos : String} {after : Array Edge} {rest : List Oper} {d : Nat}
/-- A call that changes one's own slice and hands it back, maybe shorter. -/
theorem Tr.callMutRow {α : Type} {E : Enc α} {l l' : List α} {V : Value} {T : TypeId} {f : FuncId} {xs : List Operand} {vs : List Value} {ts : Array TypeId} {L1 : List Ent} (hx : opvs M xs = some vs)
    (he : ∀ (args : Array Value) (w : World), (callFunc f args).run P w = .ok (.enter f args) w) (hV : Del (rowE V T E l) L L1)
    (hc : ∀ w, HpOK F L w → Calls P f vs.toArray w fun e w' => ∃ V', e = .returned V' ∧ V'.ownBlock = V.ownBlock ∧ Mut w w' V ∧ (rowE V' T E l').holds w') (hd : Nat.ble (d + 1) N = true)
    (K : ∀ V', V'.ownBlock = V.ownBlock → Tr N F (rowE V' T E l' :: L1) ((d, V') :: M) (wpList P ops Q rest)) :
    Tr N F L M (wpList P ops Q (⟨some d, .call { callee := .value (.func f), args := xs.toArray, argTypes := ts }, ty, pos, after, none⟩ :: rest)) := by
  intro a w ha hw
  refine wpList_plain rfl fun K' hK => ?_
  have hr : (execOp a.eval ⟨some d, .call { callee := .value (.func f), args := xs.toArray, argTypes := ts }, ty, pos, after, none⟩).run P w = .ok (.enter f vs.toArray) w := by
    have := ha.evals hx
    simp [execOp, resolve, Deferred.ofValue, Act.eval, invoke, he, this]
  unfold Oper.wp
  rw [hr]
  refine (hc w hw).mono fun e w' ⟨V', h1, h2, h3, h4⟩ => ?_
  subst h1
  refine hK _ _ (K V' h2 _ _ (ha.put (Nat.le_of_ble_eq_true hd)) ?_)
  have hf := hw.front hV
  cases hO : V.ownBlock with
  | none =>
    have hx : Ext w w' := ⟨⟨h3.os, h3.tape, h3.output, h3.size, fun k hk => h3.block k hk (by rw [hO]; simp)⟩, h3.dr⟩
    have hg := hf.grow hx
    have hbl : blks (rowE V' T E l' :: L1) = blks (rowE V T E l :: L1) := by simp only [blks, rowE, h2, List.filterMap_cons, hO]
    refine ⟨hg.os, hg.tape, hg.out, hg.n, hg.dr, hg.bg, fun e he => ?_, by rw [hbl]; exact hg.nodup, by rw [hbl]; exact hg.lt, by rw [hbl]; exact hg.sep⟩
    rcases List.mem_cons.1 he with rfl | he
    · exact h4
    · exact hg.ent e (.tail _ he)
  | some b =>
    have e1 : rowE V T E l = ⟨some b, RowOK V T E l⟩ := by simp [rowE, hO]
    have e2 : rowE V' T E l' = ⟨some b, RowOK V' T E l'⟩ := by simp [rowE, h2, hO]
    rw [e1] at hf
    rw [e2] at h4 ⊢
    exact HpOK.set hf (.here _) h3.os h3.tape h3.output h3.size h3.dr (fun k hk hkb => h3.block k hk (by rw [hO]; simpa using hkb)) h4
end
end Go.HL
namespace Go.HL
open Go Go.RowKit
section
variable {P : Program} {ops : Array Oper} {Q : Exit → Act → World → Prop} {N : Nat} {F : Bg} {L : List Ent} {M : Fr} {ty : TypeId} {pos : String} {after : Array Edge} {rest : List Oper} {d : Nat} {op : Op}
theorem flatMap_setEl {α : Type} (E : Enc α) (x' : α) : ∀ (l : List α) (i : Nat), i < l.length → (l.set i x').flatMap E.enc = splice (l.flatMap E.enc) (i * E.k) (E.enc x')
  | [], i, h => by simp at h
  | y :: l, 0, _ => by
    simp only [List.set_cons_zero, List.flatMap_cons, Nat.zero_mul, splice, List.take_zero, List.nil_append, Nat.zero_add, E.len]
    rw [List.drop_append_of_le_length (by rw [E.len]; exact Nat.le_refl _), List.drop_of_length_le (by rw [E.len]; exact Nat.le_refl _)]; rfl
  | y :: l, i + 1, h => by
    have ih := flatMap_setEl E x' l i (by simpa using h)
    simp only [List.set_cons_succ, List.flatMap_cons, ih, splice]
    have hl : (E.enc y).length = E.k := E.len y
    rw [show (i + 1) * E.k = (E.enc y).length + i * E.k by rw [hl, Nat.add_mul]; omega, List.take_length_add_append, show (E.enc y).length + i * E.k + (E.enc x').length = (E.enc y).length + (i * E.k + (E.enc x').length) by omega, List.drop_length_add_append]
    simp only [List.append_assoc]
theorem take_splice {cs v : List Value} {o n : Nat} (h : o + v.length ≤ n) (hn : n ≤ cs.length) : (splice cs o v).take n = splice (cs.take n) o v := by
  apply List.ext_getElem?
  intro q
  simp only [splice, List.getElem?_take, List.getElem?_append, List.length_take, List.getElem?_drop, List.length_append]
  grind
/-- A store of a whole element of one's own slice. -/
theorem Tr.storeEl {α : Type} {E : Enc α} {l : List α} (x' : α) {x y : Operand} {t T : TypeId} {V v : Value} {i : Nat} {L' : List Ent} {dst : Option Tmp} (hx : opv M x = some (.pointer (some ⟨bk V, ofs V + i * E.k, none⟩))) (hy : opv M y = some v)
    (hz : ∀ w, (sizeOf t).run P w = .ok E.k w) (hput : Put (rowE V T E l) (rowE V T E (l.set i x')) L L') (hi : i < l.length) (hc : v.cells.toList = E.enc x') (hdst : dst = none)
    (K : Tr N F L' M (wpList P ops Q rest)) : Tr N F L M (wpList P ops Q (⟨dst, .store t x y, ty, pos, after, none⟩ :: rest)) := by
  subst hdst
  intro a w ha hw
  refine wpList_plain rfl fun K' hK => ?_
  have hr : RowOK V T E l (V.ownBlock.bind (w.heap[·]?)) := hw.ent _ hput.mem
  rcases hr with ⟨_, rfl⟩ | ⟨gb, cap, cur, rfl, ho, hc1, hc2, hc3, hc4⟩
  · simp at hi
  · have ho' : w.heap[gb]? = some (.cells cur T (0, 0)) := ho
    have hlt : i * E.k + E.k ≤ l.length * E.k := by rw [← Nat.succ_mul]; exact Nat.mul_le_mul_right _ hi
    have hle : l.length * E.k ≤ cur.size := Nat.le_trans (Nat.mul_le_mul_right _ hc1) hc3
    have hs : v.cells.size = E.k := by have := congrArg List.length hc; rw [E.len] at this; simpa using this
    have hst := run_storeV (P := P) (w := w) (b := gb) (o := i * E.k) (cs := cur.toList) (T := T) (t := t) (v := v) (by simpa using ho') hz hs (by simp; omega) (by rw [hc]; intro u hu; exact E.one _ _ hu)
    simp only [bk, ofs, Nat.zero_add] at hx
    unfold Oper.wp
    simp only [execOp, ha.eval hx, ha.eval hy, Sem.run_bind, hst, Result.andThen_ok, Sem.run_pure, Oper.upon, Act.put]
    refine hK _ _ (K _ _ ha ?_)
    have e1 : rowE (.slice (some ⟨gb, 0, none⟩) l.length cap) T E l = ⟨some gb, RowOK (.slice (some ⟨gb, 0, none⟩) l.length cap) T E l⟩ := rfl
    have e2 : rowE (.slice (some ⟨gb, 0, none⟩) l.length cap) T E (l.set i x') = ⟨some gb, RowOK (.slice (some ⟨gb, 0, none⟩) l.length cap) T E (l.set i x')⟩ := rfl
    rw [e1, e2] at hput
    refine HpOK.set hw hput rfl rfl rfl (by simp) (Nat.le_refl _) (fun k _ hkb => setRow_other w gb k _ hkb) ?_
    rw [setRow_heap w gb _ _ T (0, 0) ho']
    have hll : (l.set i x').length = l.length := by simp
    refine .inr ⟨gb, cap, _, by rw [hll], rfl, by rw [hll]; exact hc1, hc2, ?_, ?_⟩
    · rw [List.size_toArray]
      simp only [splice, hc, List.length_append, List.length_take, List.length_drop, Array.length_toList, E.len]
      omega
    · rw [hll, flatMap_setEl E x' l i hi, ← hc4, hc, List.toList_toArray]
      refine take_splice ?_ ?_
      · rw [E.len]; omega
      · rw [Array.length_toList]; exact hle
/-- A call that changes one's own slice in place as R says. -/
theorem Tr.callMutR {α : Type} {E : Enc α} {l : List α} (R : List α → Prop) {V : Value} {T : TypeId} {f : FuncId} {xs : List Operand} {vs : List Value} {ts : Array TypeId} {v : Value} {L0 : List Ent} (hx : opvs M xs = some vs)
    (he : ∀ (args : Array Value) (w : World), (callFunc f args).run P w = .ok (.enter f args) w)
    (hc : ∀ w, HpOK F (rowE V T E l :: L0) w → Calls P f vs.toArray w fun e w' => e = .returned v ∧ ∃ l', R l' ∧ Mut w w' V ∧ (rowE V T E l').holds w') (hd : Nat.ble (d + 1) N = true)
    (K : ∀ l', R l' → Tr N F (rowE V T E l' :: L0) ((d, v) :: M) (wpList P ops Q rest)) :
    Tr N F (rowE V T E l :: L0) M (wpList P ops Q (⟨some d, .call { callee := .value (.func f), args := xs.toArray, argTypes := ts }, ty, pos, after, none⟩ :: rest)) := by
  intro a w ha hw
  refine wpList_plain rfl fun K' hK => ?_
  have hr : (execOp a.eval ⟨some d, .call { callee := .value (.func f), args := xs.toArray, argTypes := ts }, ty, pos, after, none⟩).run P w = .ok (.enter f vs.toArray) w := by
    have := ha.evals hx
    simp [execOp, resolve, Deferred.ofValue, Act.eval, invoke, he, this]
  unfold Oper.wp
  rw [hr]
  refine (hc w hw).mono fun e w' ⟨h1, l', h0, h2, h3⟩ => ?_
  subst h1
  exact hK _ _ (K l' h0 _ _ (ha.put (Nat.le_of_ble_eq_true hd)) (hw.mut (.here _) h2 h3))
theorem Tr.rowEq {α : Type} {E : Enc α} {l l' : List α} {V : Value} {T : TypeId} {L0 : List Ent} {X : Act → World → Prop} (h : l = l') (K : Tr N F (rowE V T E l' :: L0) M X) : Tr N F (rowE V T E l :: L0) M X := h ▸ K
theorem QS.shr1 {m : Int} {x y : Operand} {t u : TypeId} {g : Option (Nat × Bool)} {dst : Option Tmp} (hx : opv M x = some (.int .u64 m)) (hy : opv M y = some (.int .u64 1)) (hm : 0 ≤ m) :
    QS P N F L M ⟨dst, .binOp .shr t x y u, ty, pos, after, g⟩ (.int .u64 (m / 2)) := by
  have h := QS.shr (P := P) (N := N) (F := F) (L := L) (dst := dst) (t := t) (u := u) (ty := ty) (pos := pos) (after := after) (g := g) hx hy (by decide)
  rw [show m.fdiv (2 ^ min (1 : Int).toNat IntKind.u64.bits) = m / 2 from Int.fdiv_eq_ediv_of_nonneg _ (by decide)] at h
  exact h
/-- An operation of the region's beginning that looks at the frame alone. -/
theorem TrQ.pureQ {X : Act → Prop} {v : Value} (h : ∀ F, QS P N F [] M ⟨some d, op, ty, pos, after, none⟩ v) (hp : plainOp op = true) (hd : Nat.ble (d + 1) N = true) (k : TrQ N ((d, v) :: M) (wpPure P ops X rest)) :
    TrQ N M (wpPure P ops X (⟨some d, op, ty, pos, after, none⟩ :: rest)) := fun a ha =>
  ⟨v, .inl ⟨by simp [Region.wanted], fun w => QS.run (h (Bg.of w)) hp ha (HpOK.start w)⟩, k _ (ha.put (Nat.le_of_ble_eq_true hd))⟩
end
end Go.HL
