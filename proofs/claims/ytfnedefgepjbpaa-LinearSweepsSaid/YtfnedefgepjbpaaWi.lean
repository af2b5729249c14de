/- The walks of package isa: what each function returns. -/
import Derived.Test.YtfnedefgepjbpaaF2
import Derived.Test.YtfnedefgepjbpaaIg
import Derived.Test.YtfnedefgepjbpaaWa
set_option linter.unusedSimpArgs false
set_option linter.unusedVariables false
namespace Go.Proofs.Ytfnedefgepjbpaa
open Go Go.HL Go.RowKit

set_option maxRecDepth 100000 in
set_option maxHeartbeats 2000000 in
theorem register_any (r : Int) (w : World) :
    Calls Try.prog 63 #[.int .i64 r] w (fun e w' => e = .returned (.bool (regP r)) ∧ Ext w w') := by
  refine enter Try.func63 rfl Try.ntmps63 rfl ?_
  refine Tr.seq ?_
  refine Tr.region ?_
  refine Tr.q (QS.assign rfl) rfl ?_
  refine Tr.nil ?_
  refine Tr.thenN ?_
  refine Tr.seq ?_
  refine Tr.region ?_
  refine Tr.q (QS.move rfl) rfl ?_
  refine Tr.q (QS.geq rfl rfl) rfl ?_
  refine Tr.q (QS.move rfl) rfl ?_
  apply Tr.andP
  · exact (rfl : _ = (3, 5, 8))
  · exact rfl
  · intro hT1; have hT1' := hT1
    try simp only [bs] at hT1'
    refine Tr.gq rfl rfl hT1 (QS.move rfl) rfl ?_
    refine Tr.gq rfl rfl hT1 (QS.lss rfl rfl) rfl ?_
    refine Tr.q (QS.pickT rfl hT1 rfl) rfl ?_
    refine Tr.nil (Tr.thenN ?_)
    exact Tr.endX (Sub.cons rfl (Sub.dropN 3 (by kernel_rfl) rfl))
  · intro hF1
    refine Tr.gskip rfl rfl hF1 rfl ?_
    refine Tr.gskip rfl rfl hF1 rfl ?_
    refine Tr.q (QS.pickF rfl hF1 rfl) rfl ?_
    refine Tr.nil (Tr.thenN ?_)
    exact Tr.endX (Sub.cons rfl (Sub.dropN 3 (by kernel_rfl) rfl))
  refine Tr.q (QS.assign rfl) rfl ?_
  refine Tr.nil ?_
  refine Tr.thenN ?_
  refine Tr.ret ?_
  refine Tr.ret1 Try.results63 rfl (fun w' hw => ?_)
  exact ⟨rfl, hw.below (Bg.le.refl _)⟩

set_option maxRecDepth 100000 in
set_option maxHeartbeats 2000000 in
theorem narrow_any (n : UInt32) (w : World) :
    Calls Try.prog 85 #[.int .u32 n.toNat] w (fun e w' => e = .returned (.bool (narrowP n)) ∧ Ext w w') := by
  refine enter Try.func85 rfl Try.ntmps85 rfl ?_
  refine Tr.seq ?_
  refine Tr.region ?_
  refine Tr.q (QS.assign rfl) rfl ?_
  refine Tr.nil ?_
  refine Tr.thenN ?_
  refine Tr.seq ?_
  refine Tr.region ?_
  refine Tr.q (QS.move rfl) rfl ?_
  refine Tr.q (QS.leq32 (n := 127) rfl rfl) rfl ?_
  refine Tr.q (QS.move rfl) rfl ?_
  apply Tr.orP
  · exact (rfl : _ = (3, 5, 8))
  · exact rfl
  · intro hF1; have hF1' := hF1
    try simp only [bs] at hF1'
    refine Tr.gq rfl rfl hF1 (QS.move rfl) rfl ?_
    refine Tr.gq rfl rfl hF1 (QS.geq32 (n := 4294967168) rfl rfl) rfl ?_
    refine Tr.q (QS.pickF rfl hF1 rfl) rfl ?_
    refine Tr.nil (Tr.thenN ?_)
    exact Tr.endX (Sub.cons rfl (Sub.dropN 3 (by kernel_rfl) rfl))
  · intro hT1
    refine Tr.gskip rfl rfl hT1 rfl ?_
    refine Tr.gskip rfl rfl hT1 rfl ?_
    refine Tr.q (QS.pickT rfl hT1 rfl) rfl ?_
    refine Tr.nil (Tr.thenN ?_)
    exact Tr.endX (Sub.cons rfl (Sub.dropN 3 (by kernel_rfl) rfl))
  refine Tr.q (QS.assign rfl) rfl ?_
  refine Tr.nil ?_
  refine Tr.thenN ?_
  refine Tr.ret ?_
  refine Tr.ret1 Try.results85 rfl (fun w' hw => ?_)
  exact ⟨rfl, hw.below (Bg.le.refl _)⟩

set_option maxRecDepth 100000 in
set_option maxHeartbeats 2000000 in
theorem access_any (i : Ins) (w : World) :
    Calls Try.prog 88 #[.agg (encIns.enc i).toArray] w (fun e w' => e = .returned ((.tuple #[.int .u8 (accessP i).toNat, .int .i64 5, .bool (decide (accessP i ≠ 0))])) ∧ Ext w w') := by
  refine enter Try.func88 rfl Try.ntmps88 rfl ?_
  refine Tr.seq ?_
  refine Tr.region ?_
  refine Tr.box rfl rfl rfl (fun b1 => ?_)
  refine Tr.q (QS.assign rfl) rfl ?_
  refine Tr.q (QS.assign rfl) rfl ?_
  refine Tr.q (QS.assign rfl) rfl ?_
  refine Tr.nil ?_
  refine Tr.thenN ?_
  refine Tr.seq ?_
  refine Tr.region ?_
  refine Tr.q (QS.assign rfl) rfl ?_
  refine Tr.nil ?_
  refine Tr.thenN ?_
  refine Tr.seqJ (ι := UInt8) (fun c => c = accessP i) (fun _ => Bg.of w) (fun c => [cellE b1 (encIns.enc i) 36]) (fun c => [(5, .int .u8 c.toNat)]) ?_ (fun c hi => ?_)
  · skip
    refine Tr.seq ?_
    refine Tr.region ?_
    refine Tr.q (QS.fieldAddr (off := 2) (ft := 3) rfl Try.underlying36 rfl rfl Try.sizeOf3 (by decide)) rfl ?_
    refine Tr.q (QS.lV rfl Try.isAgg3) rfl ?_
    refine Tr.q (QS.fieldAddr (off := 4) (ft := 3) rfl Try.underlying36 rfl rfl Try.sizeOf3 (by decide)) rfl ?_
    refine Tr.q (QS.lV rfl Try.isAgg3) rfl ?_
    refine Tr.q (QS.build (vs := [(0, _), (1, _)]) rfl rfl (HLF.built135_0_1 _ _)) rfl ?_
    refine Tr.nil ?_
    refine Tr.thenN ?_
    refine Tr.block ?_
    refine Tr.seq ?_
    refine Tr.region ?_
    refine Tr.q (QS.build (vs := [(0, _), (1, _)]) rfl rfl (HLF.built135_0_1 _ _)) rfl ?_
    refine Tr.q (QS.eqlA2 rfl rfl Try.underlying135 Try.underlying3 Try.sizeOf3 Try.isAgg3 HLF.eqg135) rfl ?_
    refine Tr.q (QS.assign rfl) rfl ?_
    refine Tr.nil ?_
    refine Tr.thenN ?_
    refine Tr.cond rfl (fun h2 => ?_) (fun h2 => ?_)
    · try simp only [bs] at h2
      refine Tr.region ?_
      refine Tr.q (QS.assign rfl) rfl ?_
      refine Tr.nil ?_
      refine Tr.inN ?_
      refine Tr.thenN ?_
      apply Tr.joined (80 : UInt8)
      · exact rfl
      · exact (.cons (by first | rfl | exact lookI rfl (by omega) | exact lookI rfl (by simp) | exact lookB rfl (by simp)) Front.nil)
      · exact SubX.dropN 9 (by kernel_rfl) rfl
      · exact (by repeat' (first | exact Pick.nil _ | exact Del.here _ | apply Pick.cons | apply Del.there))
      · exact (by unfold accessP; repeat (first | rw [if_pos (by omega)] | rw [if_neg (by omega)]))
    · try simp only [bs] at h2
      refine Tr.seq ?_
      refine Tr.region ?_
      refine Tr.q (QS.build (vs := [(0, _), (1, _)]) rfl rfl (HLF.built135_0_1 _ _)) rfl ?_
      refine Tr.q (QS.eqlA2 rfl rfl Try.underlying135 Try.underlying3 Try.sizeOf3 Try.isAgg3 HLF.eqg135) rfl ?_
      refine Tr.q (QS.assign rfl) rfl ?_
      refine Tr.nil ?_
      refine Tr.thenN ?_
      refine Tr.cond rfl (fun h3 => ?_) (fun h3 => ?_)
      · try simp only [bs] at h3
        refine Tr.region ?_
        refine Tr.q (QS.assign rfl) rfl ?_
        refine Tr.nil ?_
        refine Tr.inN ?_
        refine Tr.thenN ?_
        apply Tr.joined (81 : UInt8)
        · exact rfl
        · exact (.cons (by first | rfl | exact lookI rfl (by omega) | exact lookI rfl (by simp) | exact lookB rfl (by simp)) Front.nil)
        · exact SubX.dropN 12 (by kernel_rfl) rfl
        · exact (by repeat' (first | exact Pick.nil _ | exact Del.here _ | apply Pick.cons | apply Del.there))
        · exact (by unfold accessP; repeat (first | rw [if_pos (by omega)] | rw [if_neg (by omega)]))
      · try simp only [bs] at h3
        refine Tr.seq ?_
        refine Tr.region ?_
        refine Tr.q (QS.build (vs := [(0, _), (1, _)]) rfl rfl (HLF.built135_0_1 _ _)) rfl ?_
        refine Tr.q (QS.eqlA2 rfl rfl Try.underlying135 Try.underlying3 Try.sizeOf3 Try.isAgg3 HLF.eqg135) rfl ?_
        refine Tr.q (QS.assign rfl) rfl ?_
        refine Tr.nil ?_
        refine Tr.thenN ?_
        refine Tr.cond rfl (fun h4 => ?_) (fun h4 => ?_)
        · try simp only [bs] at h4
          refine Tr.region ?_
          refine Tr.q (QS.assign rfl) rfl ?_
          refine Tr.nil ?_
          refine Tr.inN ?_
          refine Tr.thenN ?_
          apply Tr.joined (82 : UInt8)
          · exact rfl
          · exact (.cons (by first | rfl | exact lookI rfl (by omega) | exact lookI rfl (by simp) | exact lookB rfl (by simp)) Front.nil)
          · exact SubX.dropN 15 (by kernel_rfl) rfl
          · exact (by repeat' (first | exact Pick.nil _ | exact Del.here _ | apply Pick.cons | apply Del.there))
          · exact (by unfold accessP; repeat (first | rw [if_pos (by omega)] | rw [if_neg (by omega)]))
        · try simp only [bs] at h4
          refine Tr.seq ?_
          refine Tr.region ?_
          refine Tr.q (QS.build (vs := [(0, _), (1, _)]) rfl rfl (HLF.built135_0_1 _ _)) rfl ?_
          refine Tr.q (QS.eqlA2 rfl rfl Try.underlying135 Try.underlying3 Try.sizeOf3 Try.isAgg3 HLF.eqg135) rfl ?_
          refine Tr.q (QS.assign rfl) rfl ?_
          refine Tr.nil ?_
          refine Tr.thenN ?_
          refine Tr.cond rfl (fun h5 => ?_) (fun h5 => ?_)
          · try simp only [bs] at h5
            refine Tr.region ?_
            refine Tr.q (QS.assign rfl) rfl ?_
            refine Tr.nil ?_
            refine Tr.inN ?_
            refine Tr.thenN ?_
            apply Tr.joined (83 : UInt8)
            · exact rfl
            · exact (.cons (by first | rfl | exact lookI rfl (by omega) | exact lookI rfl (by simp) | exact lookB rfl (by simp)) Front.nil)
            · exact SubX.dropN 18 (by kernel_rfl) rfl
            · exact (by repeat' (first | exact Pick.nil _ | exact Del.here _ | apply Pick.cons | apply Del.there))
            · exact (by unfold accessP; repeat (first | rw [if_pos (by omega)] | rw [if_neg (by omega)]))
          · try simp only [bs] at h5
            refine Tr.seq ?_
            refine Tr.region ?_
            refine Tr.q (QS.build (vs := [(0, _), (1, _)]) rfl rfl (HLF.built135_0_1 _ _)) rfl ?_
            refine Tr.q (QS.eqlA2 rfl rfl Try.underlying135 Try.underlying3 Try.sizeOf3 Try.isAgg3 HLF.eqg135) rfl ?_
            refine Tr.q (QS.assign rfl) rfl ?_
            refine Tr.nil ?_
            refine Tr.thenN ?_
            refine Tr.cond rfl (fun h6 => ?_) (fun h6 => ?_)
            · try simp only [bs] at h6
              refine Tr.region ?_
              refine Tr.q (QS.assign rfl) rfl ?_
              refine Tr.nil ?_
              refine Tr.inN ?_
              refine Tr.thenN ?_
              apply Tr.joined (84 : UInt8)
              · exact rfl
              · exact (.cons (by first | rfl | exact lookI rfl (by omega) | exact lookI rfl (by simp) | exact lookB rfl (by simp)) Front.nil)
              · exact SubX.dropN 21 (by kernel_rfl) rfl
              · exact (by repeat' (first | exact Pick.nil _ | exact Del.here _ | apply Pick.cons | apply Del.there))
              · exact (by unfold accessP; repeat (first | rw [if_pos (by omega)] | rw [if_neg (by omega)]))
            · try simp only [bs] at h6
              refine Tr.seq ?_
              refine Tr.region ?_
              refine Tr.q (QS.build (vs := [(0, _), (1, _)]) rfl rfl (HLF.built135_0_1 _ _)) rfl ?_
              refine Tr.q (QS.eqlA2 rfl rfl Try.underlying135 Try.underlying3 Try.sizeOf3 Try.isAgg3 HLF.eqg135) rfl ?_
              refine Tr.q (QS.assign rfl) rfl ?_
              refine Tr.nil ?_
              refine Tr.thenN ?_
              refine Tr.cond rfl (fun h7 => ?_) (fun h7 => ?_)
              · try simp only [bs] at h7
                refine Tr.region ?_
                refine Tr.q (QS.assign rfl) rfl ?_
                refine Tr.nil ?_
                refine Tr.inN ?_
                refine Tr.thenN ?_
                apply Tr.joined (85 : UInt8)
                · exact rfl
                · exact (.cons (by first | rfl | exact lookI rfl (by omega) | exact lookI rfl (by simp) | exact lookB rfl (by simp)) Front.nil)
                · exact SubX.dropN 24 (by kernel_rfl) rfl
                · exact (by repeat' (first | exact Pick.nil _ | exact Del.here _ | apply Pick.cons | apply Del.there))
                · exact (by unfold accessP; repeat (first | rw [if_pos (by omega)] | rw [if_neg (by omega)]))
              · try simp only [bs] at h7
                refine Tr.seq ?_
                refine Tr.region ?_
                refine Tr.q (QS.build (vs := [(0, _), (1, _)]) rfl rfl (HLF.built135_0_1 _ _)) rfl ?_
                refine Tr.q (QS.eqlA2 rfl rfl Try.underlying135 Try.underlying3 Try.sizeOf3 Try.isAgg3 HLF.eqg135) rfl ?_
                refine Tr.q (QS.assign rfl) rfl ?_
                refine Tr.nil ?_
                refine Tr.thenN ?_
                refine Tr.cond rfl (fun h8 => ?_) (fun h8 => ?_)
                · try simp only [bs] at h8
                  refine Tr.region ?_
                  refine Tr.q (QS.assign rfl) rfl ?_
                  refine Tr.nil ?_
                  refine Tr.inN ?_
                  refine Tr.thenN ?_
                  apply Tr.joined (86 : UInt8)
                  · exact rfl
                  · exact (.cons (by first | rfl | exact lookI rfl (by omega) | exact lookI rfl (by simp) | exact lookB rfl (by simp)) Front.nil)
                  · exact SubX.dropN 27 (by kernel_rfl) rfl
                  · exact (by repeat' (first | exact Pick.nil _ | exact Del.here _ | apply Pick.cons | apply Del.there))
                  · exact (by unfold accessP; repeat (first | rw [if_pos (by omega)] | rw [if_neg (by omega)]))
                · try simp only [bs] at h8
                  refine Tr.seq ?_
                  refine Tr.region ?_
                  refine Tr.q (QS.build (vs := [(0, _), (1, _)]) rfl rfl (HLF.built135_0_1 _ _)) rfl ?_
                  refine Tr.q (QS.eqlA2 rfl rfl Try.underlying135 Try.underlying3 Try.sizeOf3 Try.isAgg3 HLF.eqg135) rfl ?_
                  refine Tr.q (QS.assign rfl) rfl ?_
                  refine Tr.nil ?_
                  refine Tr.thenN ?_
                  refine Tr.cond rfl (fun h9 => ?_) (fun h9 => ?_)
                  · try simp only [bs] at h9
                    refine Tr.region ?_
                    refine Tr.q (QS.assign rfl) rfl ?_
                    refine Tr.nil ?_
                    refine Tr.inN ?_
                    refine Tr.thenN ?_
                    apply Tr.joined (87 : UInt8)
                    · exact rfl
                    · exact (.cons (by first | rfl | exact lookI rfl (by omega) | exact lookI rfl (by simp) | exact lookB rfl (by simp)) Front.nil)
                    · exact SubX.dropN 30 (by kernel_rfl) rfl
                    · exact (by repeat' (first | exact Pick.nil _ | exact Del.here _ | apply Pick.cons | apply Del.there))
                    · exact (by unfold accessP; repeat (first | rw [if_pos (by omega)] | rw [if_neg (by omega)]))
                  · try simp only [bs] at h9
                    refine Tr.skip ?_
                    refine Tr.inN ?_
                    refine Tr.thenN ?_
                    apply Tr.joined (0 : UInt8)
                    · exact rfl
                    · exact (.cons (by first | rfl | exact lookI rfl (by omega) | exact lookI rfl (by simp) | exact lookB rfl (by simp)) Front.nil)
                    · exact SubX.dropN 29 (by kernel_rfl) rfl
                    · exact (by repeat' (first | exact Pick.nil _ | exact Del.here _ | apply Pick.cons | apply Del.there))
                    · exact (by unfold accessP; repeat (first | rw [if_pos (by omega)] | rw [if_neg (by omega)]))
  · skip
    replace hi : c = accessP i := hi
    change Tr _ _ [cellE b1 (encIns.enc i) 36] ([(5, .int .u8 c.toNat)] ++ _) _
    refine Tr.seq ?_
    refine Tr.region ?_
    refine Tr.q (QS.move rfl) rfl ?_
    refine Tr.q (QS.move rfl) rfl ?_
    refine Tr.q (QS.neq8 (n := 0) rfl rfl) rfl ?_
    refine Tr.q (QS.assign rfl) rfl ?_
    refine Tr.q (QS.assign rfl) rfl ?_
    refine Tr.q (QS.assign rfl) rfl ?_
    refine Tr.nil ?_
    refine Tr.thenN ?_
    refine Tr.ret ?_
    refine Tr.ret3 Try.results88 rfl rfl rfl (fun w' hw => ?_)
    exact ⟨by subst hi; rfl, hw.below (Bg.le.refl _)⟩

set_option maxRecDepth 100000 in
set_option maxHeartbeats 2000000 in
theorem conditional_any (i : Ins) (w : World) :
    Calls Try.prog 89 #[.agg (encIns.enc i).toArray] w (fun e w' => e = .returned ((.tuple #[.int .u8 (condP i).1.toNat, .int .i64 (condP i).2.1, .bool (condP i).2.2])) ∧ Ext w w') := by
  refine enter Try.func89 rfl Try.ntmps89 rfl ?_
  refine Tr.seq ?_
  refine Tr.region ?_
  refine Tr.box rfl rfl rfl (fun b1 => ?_)
  refine Tr.q (QS.assign rfl) rfl ?_
  refine Tr.q (QS.assign rfl) rfl ?_
  refine Tr.q (QS.assign rfl) rfl ?_
  refine Tr.nil ?_
  refine Tr.thenN ?_
  refine Tr.seq ?_
  refine Tr.seq ?_
  refine Tr.region ?_
  refine Tr.q (QS.fieldAddr (off := 5) (ft := 3) rfl Try.underlying36 rfl rfl Try.sizeOf3 (by decide)) rfl ?_
  refine Tr.q (QS.lV rfl Try.isAgg3) rfl ?_
  refine Tr.q (QS.lss rfl rfl) rfl ?_
  refine Tr.q (QS.move rfl) rfl ?_
  apply Tr.orP
  · exact (rfl : _ = (4, 8, 12))
  · exact rfl
  · intro hF2; have hF2' := hF2
    try simp only [bs] at hF2'
    refine Tr.gq rfl rfl hF2 (QS.fieldAddr (off := 5) (ft := 3) rfl Try.underlying36 rfl rfl Try.sizeOf3 (by decide)) rfl ?_
    refine Tr.gq rfl rfl hF2 (QS.lV rfl Try.isAgg3) rfl ?_
    refine Tr.gq rfl rfl hF2 (QS.gtr rfl rfl) rfl ?_
    refine Tr.q (QS.pickF rfl hF2 rfl) rfl ?_
    refine Tr.nil (Tr.thenN ?_)
    exact Tr.endX (Sub.cons rfl (Sub.dropN 4 (by kernel_rfl) rfl))
  · intro hT2
    refine Tr.gskip rfl rfl hT2 rfl ?_
    refine Tr.gskip rfl rfl hT2 rfl ?_
    refine Tr.gskip rfl rfl hT2 rfl ?_
    refine Tr.q (QS.pickT rfl hT2 rfl) rfl ?_
    refine Tr.nil (Tr.thenN ?_)
    exact Tr.endX (Sub.cons rfl (Sub.dropN 4 (by kernel_rfl) rfl))
  refine Tr.nil ?_
  refine Tr.thenN ?_
  refine Tr.cond rfl (fun h3 => ?_) (fun h3 => ?_)
  · try simp only [bs] at h3
    refine Tr.seq ?_
    refine Tr.region ?_
    refine Tr.q (QS.assign rfl) rfl ?_
    refine Tr.q (QS.assign rfl) rfl ?_
    refine Tr.q (QS.assign rfl) rfl ?_
    refine Tr.nil ?_
    refine Tr.thenN ?_
    refine Tr.ret ?_
    refine Tr.thenR ?_
    refine Tr.ret3 Try.results89 rfl rfl rfl (fun w' hw => ?_)
    exact ⟨by unfold condP; (repeat (first | rw [if_pos (by omega)] | rw [if_neg (by omega)])) <;> rfl, hw.below (Bg.le.refl _)⟩
  · try simp only [bs] at h3
    refine Tr.skip ?_
    refine Tr.thenN ?_
    refine Tr.seq ?_
    refine Tr.block ?_
    refine Tr.seq ?_
    refine Tr.region ?_
    refine Tr.q (QS.fieldAddr (off := 2) (ft := 3) rfl Try.underlying36 rfl rfl Try.sizeOf3 (by decide)) rfl ?_
    refine Tr.q (QS.lV rfl Try.isAgg3) rfl ?_
    refine Tr.q (QS.eql rfl rfl) rfl ?_
    refine Tr.q (QS.assign rfl) rfl ?_
    refine Tr.nil ?_
    refine Tr.thenN ?_
    refine Tr.cond rfl (fun h4 => ?_) (fun h4 => ?_)
    · try simp only [bs] at h4
      refine Tr.seq ?_
      refine Tr.region ?_
      refine Tr.q (QS.fieldAddr (off := 5) (ft := 3) rfl Try.underlying36 rfl rfl Try.sizeOf3 (by decide)) rfl ?_
      refine Tr.q (QS.lV rfl Try.isAgg3) rfl ?_
      refine Tr.q (QS.cvtTo8 rfl Try.underlying3 Try.underlying5) rfl ?_
      refine Tr.q (QS.add8 (m := 144) rfl rfl) rfl ?_
      refine Tr.q (QS.assign rfl) rfl ?_
      refine Tr.q (QS.assign rfl) rfl ?_
      refine Tr.q (QS.assign rfl) rfl ?_
      refine Tr.nil ?_
      refine Tr.thenN ?_
      refine Tr.ret ?_
      refine Tr.inR ?_
      refine Tr.thenR ?_
      refine Tr.ret3 Try.results89 rfl rfl rfl (fun w' hw => ?_)
      exact ⟨by unfold condP; (repeat (first | rw [if_pos (by omega)] | rw [if_neg (by omega)])) <;> rfl, hw.below (Bg.le.refl _)⟩
    · try simp only [bs] at h4
      refine Tr.seq ?_
      refine Tr.region ?_
      refine Tr.q (QS.fieldAddr (off := 3) (ft := 3) rfl Try.underlying36 rfl rfl Try.sizeOf3 (by decide)) rfl ?_
      refine Tr.q (QS.lV rfl Try.isAgg3) rfl ?_
      refine Tr.q (QS.eql rfl rfl) rfl ?_
      refine Tr.q (QS.assign rfl) rfl ?_
      refine Tr.nil ?_
      refine Tr.thenN ?_
      refine Tr.cond rfl (fun h5 => ?_) (fun h5 => ?_)
      · try simp only [bs] at h5
        refine Tr.seq ?_
        refine Tr.region ?_
        refine Tr.q (QS.fieldAddr (off := 5) (ft := 3) rfl Try.underlying36 rfl rfl Try.sizeOf3 (by decide)) rfl ?_
        refine Tr.q (QS.lV rfl Try.isAgg3) rfl ?_
        refine Tr.q (QS.cvtTo8 rfl Try.underlying3 Try.underlying5) rfl ?_
        refine Tr.q (QS.add8 (m := 96) rfl rfl) rfl ?_
        refine Tr.q (QS.assign rfl) rfl ?_
        refine Tr.q (QS.assign rfl) rfl ?_
        refine Tr.q (QS.assign rfl) rfl ?_
        refine Tr.nil ?_
        refine Tr.thenN ?_
        refine Tr.ret ?_
        refine Tr.inR ?_
        refine Tr.thenR ?_
        refine Tr.ret3 Try.results89 rfl rfl rfl (fun w' hw => ?_)
        exact ⟨by unfold condP; (repeat (first | rw [if_pos (by omega)] | rw [if_neg (by omega)])) <;> rfl, hw.below (Bg.le.refl _)⟩
      · try simp only [bs] at h5
        refine Tr.seq ?_
        refine Tr.region ?_
        refine Tr.q (QS.fieldAddr (off := 3) (ft := 3) rfl Try.underlying36 rfl rfl Try.sizeOf3 (by decide)) rfl ?_
        refine Tr.q (QS.lV rfl Try.isAgg3) rfl ?_
        refine Tr.q (QS.eql rfl rfl) rfl ?_
        refine Tr.q (QS.assign rfl) rfl ?_
        refine Tr.nil ?_
        refine Tr.thenN ?_
        refine Tr.cond rfl (fun h6 => ?_) (fun h6 => ?_)
        · try simp only [bs] at h6
          refine Tr.seq ?_
          refine Tr.region ?_
          refine Tr.q (QS.fieldAddr (off := 5) (ft := 3) rfl Try.underlying36 rfl rfl Try.sizeOf3 (by decide)) rfl ?_
          refine Tr.q (QS.lV rfl Try.isAgg3) rfl ?_
          refine Tr.q (QS.cvtTo8 rfl Try.underlying3 Try.underlying5) rfl ?_
          refine Tr.q (QS.add8 (m := 112) rfl rfl) rfl ?_
          refine Tr.q (QS.assign rfl) rfl ?_
          refine Tr.q (QS.assign rfl) rfl ?_
          refine Tr.q (QS.assign rfl) rfl ?_
          refine Tr.nil ?_
          refine Tr.thenN ?_
          refine Tr.ret ?_
          refine Tr.inR ?_
          refine Tr.thenR ?_
          refine Tr.ret3 Try.results89 rfl rfl rfl (fun w' hw => ?_)
          exact ⟨by unfold condP; (repeat (first | rw [if_pos (by omega)] | rw [if_neg (by omega)])) <;> rfl, hw.below (Bg.le.refl _)⟩
        · try simp only [bs] at h6
          refine Tr.skip ?_
          refine Tr.inN ?_
          refine Tr.thenN ?_
          refine Tr.seq ?_
          refine Tr.region ?_
          refine Tr.q (QS.assign rfl) rfl ?_
          refine Tr.q (QS.assign rfl) rfl ?_
          refine Tr.q (QS.assign rfl) rfl ?_
          refine Tr.nil ?_
          refine Tr.thenN ?_
          refine Tr.ret ?_
          refine Tr.ret3 Try.results89 rfl rfl rfl (fun w' hw => ?_)
          exact ⟨by unfold condP; (repeat (first | rw [if_pos (by omega)] | rw [if_neg (by omega)])) <;> rfl, hw.below (Bg.le.refl _)⟩

set_option maxRecDepth 100000 in
set_option maxHeartbeats 2000000 in
theorem opcode_any (i : Ins) (w : World) (hI : InsOK i) :
    Calls Try.prog 60 #[.agg (encIns.enc i).toArray] w (fun e w' => e = .returned ((.tuple #[.int .u8 (opcodeP i).1.toNat, .int .i64 (opcodeP i).2.1, .bool (opcodeP i).2.2])) ∧ Ext w w') := by
  have hop := hI.op; unfold I64 at hop
  refine enter Try.func60 rfl Try.ntmps60 rfl ?_
  refine Tr.seq ?_
  refine Tr.region ?_
  refine Tr.box rfl rfl rfl (fun b1 => ?_)
  refine Tr.q (QS.assign rfl) rfl ?_
  refine Tr.q (QS.assign rfl) rfl ?_
  refine Tr.q (QS.assign rfl) rfl ?_
  refine Tr.nil ?_
  refine Tr.thenN ?_
  refine Tr.seq ?_
  refine Tr.block ?_
  refine Tr.seq ?_
  refine Tr.seq ?_
  refine Tr.region ?_
  refine Tr.q (QS.fieldAddr (off := 2) (ft := 3) rfl Try.underlying36 rfl rfl Try.sizeOf3 (by decide)) rfl ?_
  refine Tr.q (QS.lV rfl Try.isAgg3) rfl ?_
  refine Tr.q (QS.eql rfl rfl) rfl ?_
  refine Tr.q (QS.assign rfl) rfl ?_
  refine Tr.nil ?_
  refine Tr.thenN ?_
  apply Tr.condOr
  · exact rfl
  · intro hO2
    try simp only [bs] at hO2
    refine Tr.seq ?_
    refine Tr.region ?_
    refine Tr.q (QS.fieldAddr (off := 2) (ft := 3) rfl Try.underlying36 rfl rfl Try.sizeOf3 (by decide)) rfl ?_
    refine Tr.q (QS.lV rfl Try.isAgg3) rfl ?_
    refine Tr.q (QS.eql rfl rfl) rfl ?_
    refine Tr.q (QS.assign rfl) rfl ?_
    refine Tr.nil ?_
    refine Tr.thenN ?_
    apply Tr.condOr
    · exact rfl
    · intro hO3
      try simp only [bs] at hO3
      refine Tr.region ?_
      refine Tr.q (QS.fieldAddr (off := 2) (ft := 3) rfl Try.underlying36 rfl rfl Try.sizeOf3 (by decide)) rfl ?_
      refine Tr.q (QS.lV rfl Try.isAgg3) rfl ?_
      refine Tr.q (QS.eql rfl rfl) rfl ?_
      refine Tr.q (QS.assign rfl) rfl ?_
      refine Tr.nil ?_
      refine Tr.thenN ?_
      exact Tr.endOr rfl (SubX.dropN 4 (by kernel_rfl) rfl)
    refine Tr.thenN ?_
    exact Tr.endOr rfl (SubX.dropN 5 (by kernel_rfl) rfl)
  refine Tr.thenN ?_
  refine Tr.cond rfl (fun h4 => ?_) (fun h4 => ?_)
  · try simp only [bs] at h4
    refine Tr.seq ?_
    refine Tr.region ?_
    refine Tr.q (QS.fieldAddr (off := 2) (ft := 3) rfl Try.underlying36 rfl rfl Try.sizeOf3 (by decide)) rfl ?_
    refine Tr.q (QS.lV rfl Try.isAgg3) rfl ?_
    refine Tr.q (QS.cvtTo8 rfl Try.underlying3 Try.underlying5) rfl ?_
    refine Tr.q (QS.assign rfl) rfl ?_
    refine Tr.q (QS.assign rfl) rfl ?_
    refine Tr.q (QS.assign rfl) rfl ?_
    refine Tr.nil ?_
    refine Tr.thenN ?_
    refine Tr.ret ?_
    refine Tr.inR ?_
    refine Tr.thenR ?_
    refine Tr.ret3 Try.results60 rfl rfl rfl (fun w' hw => ?_)
    exact ⟨by unfold opcodeP; (repeat (first | rw [if_pos (by omega)] | rw [if_neg (by omega)])) <;> rfl, hw.below (Bg.le.refl _)⟩
  · try simp only [bs] at h4
    refine Tr.seq ?_
    refine Tr.region ?_
    refine Tr.q (QS.fieldAddr (off := 2) (ft := 3) rfl Try.underlying36 rfl rfl Try.sizeOf3 (by decide)) rfl ?_
    refine Tr.q (QS.lV rfl Try.isAgg3) rfl ?_
    refine Tr.q (QS.eql rfl rfl) rfl ?_
    refine Tr.q (QS.assign rfl) rfl ?_
    refine Tr.nil ?_
    refine Tr.thenN ?_
    refine Tr.cond rfl (fun h5 => ?_) (fun h5 => ?_)
    · try simp only [bs] at h5
      refine Tr.seq ?_
      refine Tr.region ?_
      refine Tr.q (QS.fieldAddr (off := 6) (ft := 3) rfl Try.underlying36 rfl rfl Try.sizeOf3 (by decide)) rfl ?_
      refine Tr.q (QS.lV rfl Try.isAgg3) rfl ?_
      refine Tr.q (QS.and7 rfl rfl) rfl ?_
      refine Tr.q (QS.cvtTo8 rfl Try.underlying3 Try.underlying5) rfl ?_
      refine Tr.q (QS.add8 (m := 8) rfl rfl) rfl ?_
      refine Tr.q (QS.assign rfl) rfl ?_
      refine Tr.q (QS.assign rfl) rfl ?_
      refine Tr.q (QS.assign rfl) rfl ?_
      refine Tr.nil ?_
      refine Tr.thenN ?_
      refine Tr.ret ?_
      refine Tr.inR ?_
      refine Tr.thenR ?_
      refine Tr.ret3 Try.results60 rfl rfl rfl (fun w' hw => ?_)
      exact ⟨by unfold opcodeP; (repeat (first | rw [if_pos (by omega)] | rw [if_neg (by omega)])) <;> rfl, hw.below (Bg.le.refl _)⟩
    · try simp only [bs] at h5
      refine Tr.seq ?_
      refine Tr.region ?_
      refine Tr.q (QS.fieldAddr (off := 2) (ft := 3) rfl Try.underlying36 rfl rfl Try.sizeOf3 (by decide)) rfl ?_
      refine Tr.q (QS.lV rfl Try.isAgg3) rfl ?_
      refine Tr.q (QS.eql rfl rfl) rfl ?_
      refine Tr.q (QS.assign rfl) rfl ?_
      refine Tr.nil ?_
      refine Tr.thenN ?_
      refine Tr.cond rfl (fun h6 => ?_) (fun h6 => ?_)
      · try simp only [bs] at h6
        refine Tr.seq ?_
        refine Tr.region ?_
        refine Tr.q (QS.fieldAddr (off := 6) (ft := 3) rfl Try.underlying36 rfl rfl Try.sizeOf3 (by decide)) rfl ?_
        refine Tr.q (QS.lV rfl Try.isAgg3) rfl ?_
        refine Tr.q (QS.and7 rfl rfl) rfl ?_
        refine Tr.q (QS.cvtTo8 rfl Try.underlying3 Try.underlying5) rfl ?_
        refine Tr.q (QS.add8 (m := 16) rfl rfl) rfl ?_
        refine Tr.q (QS.assign rfl) rfl ?_
        refine Tr.q (QS.assign rfl) rfl ?_
        refine Tr.q (QS.assign rfl) rfl ?_
        refine Tr.nil ?_
        refine Tr.thenN ?_
        refine Tr.ret ?_
        refine Tr.inR ?_
        refine Tr.thenR ?_
        refine Tr.ret3 Try.results60 rfl rfl rfl (fun w' hw => ?_)
        exact ⟨by unfold opcodeP; (repeat (first | rw [if_pos (by omega)] | rw [if_neg (by omega)])) <;> rfl, hw.below (Bg.le.refl _)⟩
      · try simp only [bs] at h6
        refine Tr.seq ?_
        refine Tr.region ?_
        refine Tr.q (QS.fieldAddr (off := 2) (ft := 3) rfl Try.underlying36 rfl rfl Try.sizeOf3 (by decide)) rfl ?_
        refine Tr.q (QS.lV rfl Try.isAgg3) rfl ?_
        refine Tr.q (QS.geq rfl rfl) rfl ?_
        refine Tr.q (QS.move rfl) rfl ?_
        apply Tr.andP
        · exact (rfl : _ = (4, 41, 45))
        · exact rfl
        · intro hT7; have hT7' := hT7
          try simp only [bs] at hT7'
          refine Tr.gq rfl rfl hT7 (QS.fieldAddr (off := 2) (ft := 3) rfl Try.underlying36 rfl rfl Try.sizeOf3 (by decide)) rfl ?_
          refine Tr.gq rfl rfl hT7 (QS.lV rfl Try.isAgg3) rfl ?_
          refine Tr.gq rfl rfl hT7 (QS.leq rfl rfl) rfl ?_
          refine Tr.q (QS.pickT rfl hT7 rfl) rfl ?_
          refine Tr.nil (Tr.thenN ?_)
          exact Tr.endX (Sub.cons rfl (Sub.dropN 4 (by kernel_rfl) rfl))
        · intro hF7
          refine Tr.gskip rfl rfl hF7 rfl ?_
          refine Tr.gskip rfl rfl hF7 rfl ?_
          refine Tr.gskip rfl rfl hF7 rfl ?_
          refine Tr.q (QS.pickF rfl hF7 rfl) rfl ?_
          refine Tr.nil (Tr.thenN ?_)
          exact Tr.endX (Sub.cons rfl (Sub.dropN 4 (by kernel_rfl) rfl))
        refine Tr.q (QS.assign rfl) rfl ?_
        refine Tr.nil ?_
        refine Tr.thenN ?_
        refine Tr.cond rfl (fun h8 => ?_) (fun h8 => ?_)
        · try simp only [bs] at h8
          refine Tr.seq ?_
          refine Tr.region ?_
          refine Tr.q (QS.fieldAddr (off := 2) (ft := 3) rfl Try.underlying36 rfl rfl Try.sizeOf3 (by decide)) rfl ?_
          refine Tr.q (QS.lV rfl Try.isAgg3) rfl ?_
          first | refine Tr.q (QS.subI rfl rfl (by omega)) rfl ?_ | refine Tr.q (QS.sub rfl rfl) rfl ?_
          refine Tr.q (QS.cvtTo8 rfl Try.underlying3 Try.underlying5) rfl ?_
          refine Tr.q (QS.assign rfl) rfl ?_
          refine Tr.nil ?_
          refine Tr.thenN ?_
          refine Tr.seq ?_
          refine Tr.region ?_
          refine Tr.q (QS.fieldAddr (off := 3) (ft := 3) rfl Try.underlying36 rfl rfl Try.sizeOf3 (by decide)) rfl ?_
          refine Tr.q (QS.lV rfl Try.isAgg3) rfl ?_
          refine Tr.nil ?_
          refine Tr.thenN ?_
          refine Tr.block ?_
          refine Tr.seq ?_
          refine Tr.region ?_
          refine Tr.q (QS.eql rfl rfl) rfl ?_
          refine Tr.q (QS.assign rfl) rfl ?_
          refine Tr.nil ?_
          refine Tr.thenN ?_
          refine Tr.cond rfl (fun h9 => ?_) (fun h9 => ?_)
          · try simp only [bs] at h9
            refine Tr.seq ?_
            refine Tr.region ?_
            refine Tr.q (QS.move rfl) rfl ?_
            refine Tr.q (QS.add8 (m := 32) rfl rfl) rfl ?_
            refine Tr.q (QS.assign rfl) rfl ?_
            refine Tr.q (QS.assign rfl) rfl ?_
            refine Tr.q (QS.assign rfl) rfl ?_
            refine Tr.nil ?_
            refine Tr.thenN ?_
            refine Tr.ret ?_
            refine Tr.inR ?_
            refine Tr.inR ?_
            refine Tr.thenR ?_
            refine Tr.ret3 Try.results60 rfl rfl rfl (fun w' hw => ?_)
            exact ⟨by unfold opcodeP; (repeat (first | rw [if_pos (by omega)] | rw [if_neg (by omega)])) <;> rfl, hw.below (Bg.le.refl _)⟩
          · try simp only [bs] at h9
            refine Tr.seq ?_
            refine Tr.region ?_
            refine Tr.q (QS.eql rfl rfl) rfl ?_
            refine Tr.q (QS.assign rfl) rfl ?_
            refine Tr.nil ?_
            refine Tr.thenN ?_
            refine Tr.cond rfl (fun h10 => ?_) (fun h10 => ?_)
            · try simp only [bs] at h10
              refine Tr.seq ?_
              refine Tr.region ?_
              refine Tr.q (QS.move rfl) rfl ?_
              refine Tr.q (QS.add8 (m := 48) rfl rfl) rfl ?_
              refine Tr.q (QS.assign rfl) rfl ?_
              refine Tr.q (QS.assign rfl) rfl ?_
              refine Tr.q (QS.assign rfl) rfl ?_
              refine Tr.nil ?_
              refine Tr.thenN ?_
              refine Tr.ret ?_
              refine Tr.inR ?_
              refine Tr.inR ?_
              refine Tr.thenR ?_
              refine Tr.ret3 Try.results60 rfl rfl rfl (fun w' hw => ?_)
              exact ⟨by unfold opcodeP; (repeat (first | rw [if_pos (by omega)] | rw [if_neg (by omega)])) <;> rfl, hw.below (Bg.le.refl _)⟩
            · try simp only [bs] at h10
              refine Tr.seq ?_
              refine Tr.region ?_
              refine Tr.q (QS.eql rfl rfl) rfl ?_
              refine Tr.q (QS.assign rfl) rfl ?_
              refine Tr.nil ?_
              refine Tr.thenN ?_
              refine Tr.cond rfl (fun h11 => ?_) (fun h11 => ?_)
              · try simp only [bs] at h11
                refine Tr.seq ?_
                refine Tr.region ?_
                refine Tr.q (QS.move rfl) rfl ?_
                refine Tr.q (QS.add8 (m := 64) rfl rfl) rfl ?_
                refine Tr.q (QS.assign rfl) rfl ?_
                refine Tr.q (QS.assign rfl) rfl ?_
                refine Tr.q (QS.assign rfl) rfl ?_
                refine Tr.nil ?_
                refine Tr.thenN ?_
                refine Tr.ret ?_
                refine Tr.inR ?_
                refine Tr.inR ?_
                refine Tr.thenR ?_
                refine Tr.ret3 Try.results60 rfl rfl rfl (fun w' hw => ?_)
                exact ⟨by unfold opcodeP; (repeat (first | rw [if_pos (by omega)] | rw [if_neg (by omega)])) <;> rfl, hw.below (Bg.le.refl _)⟩
              · try simp only [bs] at h11
                refine Tr.skip ?_
                refine Tr.inN ?_
                refine Tr.inN ?_
                refine Tr.thenN ?_
                refine Tr.seq ?_
                refine Tr.region ?_
                refine Tr.q (QS.assign rfl) rfl ?_
                refine Tr.q (QS.assign rfl) rfl ?_
                refine Tr.q (QS.assign rfl) rfl ?_
                refine Tr.nil ?_
                refine Tr.thenN ?_
                refine Tr.ret ?_
                refine Tr.ret3 Try.results60 rfl rfl rfl (fun w' hw => ?_)
                exact ⟨by unfold opcodeP; (repeat (first | rw [if_pos (by omega)] | rw [if_neg (by omega)])) <;> rfl, hw.below (Bg.le.refl _)⟩
        · try simp only [bs] at h8
          refine Tr.seq ?_
          refine Tr.seq ?_
          refine Tr.region ?_
          refine Tr.q (QS.fieldAddr (off := 2) (ft := 3) rfl Try.underlying36 rfl rfl Try.sizeOf3 (by decide)) rfl ?_
          refine Tr.q (QS.lV rfl Try.isAgg3) rfl ?_
          refine Tr.q (QS.eql rfl rfl) rfl ?_
          refine Tr.q (QS.assign rfl) rfl ?_
          refine Tr.nil ?_
          refine Tr.thenN ?_
          apply Tr.condOr
          · exact rfl
          · intro hO12
            try simp only [bs] at hO12
            refine Tr.seq ?_
            refine Tr.region ?_
            refine Tr.q (QS.fieldAddr (off := 2) (ft := 3) rfl Try.underlying36 rfl rfl Try.sizeOf3 (by decide)) rfl ?_
            refine Tr.q (QS.lV rfl Try.isAgg3) rfl ?_
            refine Tr.q (QS.eql rfl rfl) rfl ?_
            refine Tr.q (QS.assign rfl) rfl ?_
            refine Tr.nil ?_
            refine Tr.thenN ?_
            apply Tr.condOr
            · exact rfl
            · intro hO13
              try simp only [bs] at hO13
              refine Tr.region ?_
              refine Tr.q (QS.fieldAddr (off := 2) (ft := 3) rfl Try.underlying36 rfl rfl Try.sizeOf3 (by decide)) rfl ?_
              refine Tr.q (QS.lV rfl Try.isAgg3) rfl ?_
              refine Tr.q (QS.eql rfl rfl) rfl ?_
              refine Tr.q (QS.assign rfl) rfl ?_
              refine Tr.nil ?_
              refine Tr.thenN ?_
              exact Tr.endOr rfl (SubX.dropN 4 (by kernel_rfl) rfl)
            refine Tr.thenN ?_
            exact Tr.endOr rfl (SubX.dropN 5 (by kernel_rfl) rfl)
          refine Tr.thenN ?_
          refine Tr.cond rfl (fun h14 => ?_) (fun h14 => ?_)
          · try simp only [bs] at h14
            refine Tr.seq ?_
            refine Tr.region ?_
            refine Tr.q (QS.lW rfl Try.isAgg36 Try.sizeOf36) rfl ?_
            refine Tr.q (QS.call rfl Try.call88 (fun w hw => access_any i w)) rfl ?_
            refine Tr.q (QS.extract rfl rfl) rfl ?_
            refine Tr.q (QS.extract rfl rfl) rfl ?_
            refine Tr.q (QS.extract rfl rfl) rfl ?_
            refine Tr.q (QS.assign rfl) rfl ?_
            refine Tr.q (QS.assign rfl) rfl ?_
            refine Tr.q (QS.assign rfl) rfl ?_
            refine Tr.nil ?_
            refine Tr.thenN ?_
            refine Tr.ret ?_
            refine Tr.inR ?_
            refine Tr.thenR ?_
            refine Tr.ret3 Try.results60 rfl rfl rfl (fun w' hw => ?_)
            exact ⟨by unfold opcodeP; (repeat (first | rw [if_pos (by omega)] | rw [if_neg (by omega)])) <;> rfl, hw.below (Bg.le.refl _)⟩
          · try simp only [bs] at h14
            refine Tr.seq ?_
            refine Tr.region ?_
            refine Tr.q (QS.fieldAddr (off := 2) (ft := 3) rfl Try.underlying36 rfl rfl Try.sizeOf3 (by decide)) rfl ?_
            refine Tr.q (QS.lV rfl Try.isAgg3) rfl ?_
            refine Tr.q (QS.eql rfl rfl) rfl ?_
            refine Tr.q (QS.assign rfl) rfl ?_
            refine Tr.nil ?_
            refine Tr.thenN ?_
            refine Tr.cond rfl (fun h15 => ?_) (fun h15 => ?_)
            · try simp only [bs] at h15
              refine Tr.seq ?_
              refine Tr.region ?_
              refine Tr.q (QS.assign rfl) rfl ?_
              refine Tr.q (QS.assign rfl) rfl ?_
              refine Tr.q (QS.assign rfl) rfl ?_
              refine Tr.nil ?_
              refine Tr.thenN ?_
              refine Tr.ret ?_
              refine Tr.inR ?_
              refine Tr.thenR ?_
              refine Tr.ret3 Try.results60 rfl rfl rfl (fun w' hw => ?_)
              exact ⟨by unfold opcodeP; (repeat (first | rw [if_pos (by omega)] | rw [if_neg (by omega)])) <;> rfl, hw.below (Bg.le.refl _)⟩
            · try simp only [bs] at h15
              refine Tr.seq ?_
              refine Tr.region ?_
              refine Tr.q (QS.fieldAddr (off := 2) (ft := 3) rfl Try.underlying36 rfl rfl Try.sizeOf3 (by decide)) rfl ?_
              refine Tr.q (QS.lV rfl Try.isAgg3) rfl ?_
              refine Tr.q (QS.eql rfl rfl) rfl ?_
              refine Tr.q (QS.move rfl) rfl ?_
              apply Tr.orP
              · exact (rfl : _ = (4, 87, 91))
              · exact rfl
              · intro hF16; have hF16' := hF16
                try simp only [bs] at hF16'
                refine Tr.gq rfl rfl hF16 (QS.fieldAddr (off := 2) (ft := 3) rfl Try.underlying36 rfl rfl Try.sizeOf3 (by decide)) rfl ?_
                refine Tr.gq rfl rfl hF16 (QS.lV rfl Try.isAgg3) rfl ?_
                refine Tr.gq rfl rfl hF16 (QS.eql rfl rfl) rfl ?_
                refine Tr.q (QS.pickF rfl hF16 rfl) rfl ?_
                refine Tr.nil (Tr.thenN ?_)
                exact Tr.endX (Sub.cons rfl (Sub.dropN 4 (by kernel_rfl) rfl))
              · intro hT16
                refine Tr.gskip rfl rfl hT16 rfl ?_
                refine Tr.gskip rfl rfl hT16 rfl ?_
                refine Tr.gskip rfl rfl hT16 rfl ?_
                refine Tr.q (QS.pickT rfl hT16 rfl) rfl ?_
                refine Tr.nil (Tr.thenN ?_)
                exact Tr.endX (Sub.cons rfl (Sub.dropN 4 (by kernel_rfl) rfl))
              refine Tr.q (QS.assign rfl) rfl ?_
              refine Tr.nil ?_
              refine Tr.thenN ?_
              refine Tr.cond rfl (fun h17 => ?_) (fun h17 => ?_)
              · try simp only [bs] at h17
                refine Tr.seq ?_
                refine Tr.region ?_
                refine Tr.q (QS.lW rfl Try.isAgg36 Try.sizeOf36) rfl ?_
                refine Tr.q (QS.call rfl Try.call89 (fun w hw => conditional_any i w)) rfl ?_
                refine Tr.q (QS.extract rfl rfl) rfl ?_
                refine Tr.q (QS.extract rfl rfl) rfl ?_
                refine Tr.q (QS.extract rfl rfl) rfl ?_
                refine Tr.q (QS.assign rfl) rfl ?_
                refine Tr.q (QS.assign rfl) rfl ?_
                refine Tr.q (QS.assign rfl) rfl ?_
                refine Tr.nil ?_
                refine Tr.thenN ?_
                refine Tr.ret ?_
                refine Tr.inR ?_
                refine Tr.thenR ?_
                refine Tr.ret3 Try.results60 rfl rfl rfl (fun w' hw => ?_)
                exact ⟨by unfold opcodeP; (repeat (first | rw [if_pos (by omega)] | rw [if_neg (by omega)])) <;> rfl, hw.below (Bg.le.refl _)⟩
              · try simp only [bs] at h17
                refine Tr.seq ?_
                refine Tr.region ?_
                refine Tr.q (QS.fieldAddr (off := 2) (ft := 3) rfl Try.underlying36 rfl rfl Try.sizeOf3 (by decide)) rfl ?_
                refine Tr.q (QS.lV rfl Try.isAgg3) rfl ?_
                refine Tr.q (QS.eql rfl rfl) rfl ?_
                refine Tr.q (QS.assign rfl) rfl ?_
                refine Tr.nil ?_
                refine Tr.thenN ?_
                refine Tr.cond rfl (fun h18 => ?_) (fun h18 => ?_)
                · try simp only [bs] at h18
                  refine Tr.seq ?_
                  refine Tr.region ?_
                  refine Tr.q (QS.assign rfl) rfl ?_
                  refine Tr.q (QS.assign rfl) rfl ?_
                  refine Tr.q (QS.assign rfl) rfl ?_
                  refine Tr.nil ?_
                  refine Tr.thenN ?_
                  refine Tr.ret ?_
                  refine Tr.inR ?_
                  refine Tr.thenR ?_
                  refine Tr.ret3 Try.results60 rfl rfl rfl (fun w' hw => ?_)
                  exact ⟨by unfold opcodeP; (repeat (first | rw [if_pos (by omega)] | rw [if_neg (by omega)])) <;> rfl, hw.below (Bg.le.refl _)⟩
                · try simp only [bs] at h18
                  refine Tr.seq ?_
                  refine Tr.region ?_
                  refine Tr.q (QS.fieldAddr (off := 2) (ft := 3) rfl Try.underlying36 rfl rfl Try.sizeOf3 (by decide)) rfl ?_
                  refine Tr.q (QS.lV rfl Try.isAgg3) rfl ?_
                  refine Tr.q (QS.eql rfl rfl) rfl ?_
                  refine Tr.q (QS.assign rfl) rfl ?_
                  refine Tr.nil ?_
                  refine Tr.thenN ?_
                  refine Tr.cond rfl (fun h19 => ?_) (fun h19 => ?_)
                  · try simp only [bs] at h19
                    refine Tr.seq ?_
                    refine Tr.region ?_
                    refine Tr.q (QS.assign rfl) rfl ?_
                    refine Tr.q (QS.assign rfl) rfl ?_
                    refine Tr.q (QS.assign rfl) rfl ?_
                    refine Tr.nil ?_
                    refine Tr.thenN ?_
                    refine Tr.ret ?_
                    refine Tr.inR ?_
                    refine Tr.thenR ?_
                    refine Tr.ret3 Try.results60 rfl rfl rfl (fun w' hw => ?_)
                    exact ⟨by unfold opcodeP; (repeat (first | rw [if_pos (by omega)] | rw [if_neg (by omega)])) <;> rfl, hw.below (Bg.le.refl _)⟩
                  · try simp only [bs] at h19
                    refine Tr.seq ?_
                    refine Tr.region ?_
                    refine Tr.q (QS.fieldAddr (off := 2) (ft := 3) rfl Try.underlying36 rfl rfl Try.sizeOf3 (by decide)) rfl ?_
                    refine Tr.q (QS.lV rfl Try.isAgg3) rfl ?_
                    refine Tr.q (QS.eql rfl rfl) rfl ?_
                    refine Tr.q (QS.assign rfl) rfl ?_
                    refine Tr.nil ?_
                    refine Tr.thenN ?_
                    refine Tr.cond rfl (fun h20 => ?_) (fun h20 => ?_)
                    · try simp only [bs] at h20
                      refine Tr.seq ?_
                      refine Tr.region ?_
                      refine Tr.q (QS.assign rfl) rfl ?_
                      refine Tr.q (QS.assign rfl) rfl ?_
                      refine Tr.q (QS.assign rfl) rfl ?_
                      refine Tr.nil ?_
                      refine Tr.thenN ?_
                      refine Tr.ret ?_
                      refine Tr.inR ?_
                      refine Tr.thenR ?_
                      refine Tr.ret3 Try.results60 rfl rfl rfl (fun w' hw => ?_)
                      exact ⟨by unfold opcodeP; (repeat (first | rw [if_pos (by omega)] | rw [if_neg (by omega)])) <;> rfl, hw.below (Bg.le.refl _)⟩
                    · try simp only [bs] at h20
                      refine Tr.seq ?_
                      refine Tr.region ?_
                      refine Tr.q (QS.fieldAddr (off := 2) (ft := 3) rfl Try.underlying36 rfl rfl Try.sizeOf3 (by decide)) rfl ?_
                      refine Tr.q (QS.lV rfl Try.isAgg3) rfl ?_
                      refine Tr.q (QS.eql rfl rfl) rfl ?_
                      refine Tr.q (QS.assign rfl) rfl ?_
                      refine Tr.nil ?_
                      refine Tr.thenN ?_
                      refine Tr.cond rfl (fun h21 => ?_) (fun h21 => ?_)
                      · try simp only [bs] at h21
                        refine Tr.seq ?_
                        refine Tr.region ?_
                        refine Tr.q (QS.assign rfl) rfl ?_
                        refine Tr.q (QS.assign rfl) rfl ?_
                        refine Tr.q (QS.assign rfl) rfl ?_
                        refine Tr.nil ?_
                        refine Tr.thenN ?_
                        refine Tr.ret ?_
                        refine Tr.inR ?_
                        refine Tr.thenR ?_
                        refine Tr.ret3 Try.results60 rfl rfl rfl (fun w' hw => ?_)
                        exact ⟨by unfold opcodeP; (repeat (first | rw [if_pos (by omega)] | rw [if_neg (by omega)])) <;> rfl, hw.below (Bg.le.refl _)⟩
                      · try simp only [bs] at h21
                        refine Tr.seq ?_
                        refine Tr.region ?_
                        refine Tr.q (QS.fieldAddr (off := 2) (ft := 3) rfl Try.underlying36 rfl rfl Try.sizeOf3 (by decide)) rfl ?_
                        refine Tr.q (QS.lV rfl Try.isAgg3) rfl ?_
                        refine Tr.q (QS.eql rfl rfl) rfl ?_
                        refine Tr.q (QS.assign rfl) rfl ?_
                        refine Tr.nil ?_
                        refine Tr.thenN ?_
                        refine Tr.cond rfl (fun h22 => ?_) (fun h22 => ?_)
                        · try simp only [bs] at h22
                          refine Tr.seq ?_
                          refine Tr.region ?_
                          refine Tr.q (QS.assign rfl) rfl ?_
                          refine Tr.q (QS.assign rfl) rfl ?_
                          refine Tr.q (QS.assign rfl) rfl ?_
                          refine Tr.nil ?_
                          refine Tr.thenN ?_
                          refine Tr.ret ?_
                          refine Tr.inR ?_
                          refine Tr.thenR ?_
                          refine Tr.ret3 Try.results60 rfl rfl rfl (fun w' hw => ?_)
                          exact ⟨by unfold opcodeP; (repeat (first | rw [if_pos (by omega)] | rw [if_neg (by omega)])) <;> rfl, hw.below (Bg.le.refl _)⟩
                        · try simp only [bs] at h22
                          refine Tr.seq ?_
                          refine Tr.region ?_
                          refine Tr.q (QS.fieldAddr (off := 2) (ft := 3) rfl Try.underlying36 rfl rfl Try.sizeOf3 (by decide)) rfl ?_
                          refine Tr.q (QS.lV rfl Try.isAgg3) rfl ?_
                          refine Tr.q (QS.eql rfl rfl) rfl ?_
                          refine Tr.q (QS.assign rfl) rfl ?_
                          refine Tr.nil ?_
                          refine Tr.thenN ?_
                          refine Tr.cond rfl (fun h23 => ?_) (fun h23 => ?_)
                          · try simp only [bs] at h23
                            refine Tr.seq ?_
                            refine Tr.region ?_
                            refine Tr.q (QS.assign rfl) rfl ?_
                            refine Tr.q (QS.assign rfl) rfl ?_
                            refine Tr.q (QS.assign rfl) rfl ?_
                            refine Tr.nil ?_
                            refine Tr.thenN ?_
                            refine Tr.ret ?_
                            refine Tr.inR ?_
                            refine Tr.thenR ?_
                            refine Tr.ret3 Try.results60 rfl rfl rfl (fun w' hw => ?_)
                            exact ⟨by unfold opcodeP; (repeat (first | rw [if_pos (by omega)] | rw [if_neg (by omega)])) <;> rfl, hw.below (Bg.le.refl _)⟩
                          · try simp only [bs] at h23
                            refine Tr.skip ?_
                            refine Tr.inN ?_
                            refine Tr.thenN ?_
                            refine Tr.seq ?_
                            refine Tr.region ?_
                            refine Tr.q (QS.assign rfl) rfl ?_
                            refine Tr.q (QS.assign rfl) rfl ?_
                            refine Tr.q (QS.assign rfl) rfl ?_
                            refine Tr.nil ?_
                            refine Tr.thenN ?_
                            refine Tr.ret ?_
                            refine Tr.ret3 Try.results60 rfl rfl rfl (fun w' hw => ?_)
                            exact ⟨by unfold opcodeP; (repeat (first | rw [if_pos (by omega)] | rw [if_neg (by omega)])) <;> rfl, hw.below (Bg.le.refl _)⟩

set_option maxRecDepth 100000 in
set_option maxHeartbeats 2000000 in
theorem kept_any (i : Ins) (s : Int) (w : World) :
    Calls Try.prog 84 #[.agg (encIns.enc i).toArray, .int .i64 s] w (fun e w' => e = .returned (.agg (encIns.enc (keptP i s)).toArray) ∧ Ext w w') := by
  refine enter Try.func84 rfl Try.ntmps84 rfl ?_
  refine Tr.seq ?_
  refine Tr.region ?_
  refine Tr.box rfl rfl rfl (fun b1 => ?_)
  refine Tr.alloc Try.zeroValue36 rfl rfl (fun b2 => ?_)
  refine Tr.nil ?_
  refine Tr.thenN ?_
  refine Tr.seq ?_
  refine Tr.region ?_
  refine Tr.q (QS.fieldAddr (off := 0) (ft := 23) rfl Try.underlying36 rfl rfl Try.sizeOf23 (by decide)) rfl ?_
  refine Tr.q (QS.lV rfl Try.isAgg23) rfl ?_
  refine Tr.q (QS.fieldAddr (off := 2) (ft := 3) rfl Try.underlying36 rfl rfl Try.sizeOf3 (by decide)) rfl ?_
  refine Tr.q (QS.lV rfl Try.isAgg3) rfl ?_
  refine Tr.q (QS.fieldAddr (off := 8) (ft := 3) rfl Try.underlying36 rfl rfl Try.sizeOf3 (by decide)) rfl ?_
  refine Tr.q (QS.lV rfl Try.isAgg3) rfl ?_
  refine Tr.q (QS.build (vs := [(0, _), (2, _), (8, _)]) rfl rfl (HLF.built36_0_2_8 _ _ _)) rfl ?_
  refine Tr.alloc Try.zeroValue36 rfl rfl (fun b3 => ?_)
  refine Tr.storeW rfl rfl Try.sizeOf36 (by repeat (first | exact Put.here _ | apply Put.there)) (by rfl) (by rfl) (by first | exact List.all_eq_true.1 rfl | exact Enc.one _ _ | exact Enc.one encIns _) rfl ?_
  refine Tr.nil ?_
  refine Tr.thenN ?_
  refine Tr.seqJ (ι := Ins) (fun k1 => k1 = kept1 i s) (fun _ => Bg.of w) (fun k1 => [cellE b3 (encIns.enc k1) 36, cellE b2 (encIns.enc zeroIns) 36, cellE b1 (encIns.enc i) 36]) (fun k1 => []) ?_ (fun k1 hi => ?_)
  · skip
    refine Tr.seq ?_
    refine Tr.region ?_
    refine Tr.q (QS.move rfl) rfl ?_
    refine Tr.nil ?_
    refine Tr.thenN ?_
    refine Tr.block ?_
    refine Tr.seq ?_
    refine Tr.seq ?_
    refine Tr.region ?_
    refine Tr.q (QS.eql rfl rfl) rfl ?_
    refine Tr.q (QS.assign rfl) rfl ?_
    refine Tr.nil ?_
    refine Tr.thenN ?_
    apply Tr.condOr
    · exact rfl
    · intro hO4
      try simp only [bs] at hO4
      refine Tr.region ?_
      refine Tr.q (QS.eql rfl rfl) rfl ?_
      refine Tr.q (QS.assign rfl) rfl ?_
      refine Tr.nil ?_
      refine Tr.thenN ?_
      exact Tr.endOr rfl (SubX.dropN 2 (by kernel_rfl) rfl)
    refine Tr.thenN ?_
    refine Tr.cond rfl (fun h5 => ?_) (fun h5 => ?_)
    · try simp only [bs] at h5
      refine Tr.region ?_
      refine Tr.q (QS.fieldAddr (off := 6) (ft := 3) rfl Try.underlying36 rfl rfl Try.sizeOf3 (by decide)) rfl ?_
      refine Tr.q (QS.lV rfl Try.isAgg3) rfl ?_
      refine Tr.q (QS.fieldAddr (off := 6) (ft := 3) rfl Try.underlying36 rfl rfl Try.sizeOf3 (by decide)) rfl ?_
      refine Tr.storeV (cs' := [_, _, _, _, _, _, _, _, _]) rfl rfl Try.sizeOf3 (by repeat (first | exact Put.here _ | apply Put.there)) rfl (by rfl) (by first | exact Nat.le_of_ble_eq_true rfl | simp) (by first | exact List.all_eq_true.1 rfl | (intro u hu; simp [Value.cells] at hu; simp_all [Value.oneCell'])) rfl ?_
      refine Tr.nil ?_
      refine Tr.inN ?_
      refine Tr.thenN ?_
      apply Tr.joined ⟨i.addr, 0, i.op, 0, 0, 0, i.a, 0, i.size⟩
      · exact rfl
      · exact Front.nil
      · exact SubX.dropN 7 (by kernel_rfl) rfl
      · exact (by repeat' (first | exact Pick.nil _ | exact Del.here _ | apply Pick.cons | apply Del.there))
      · exact (by simp only [kept1]; congr 1 <;> first | rfl | (rw [if_pos (by omega)]) | (rw [if_neg (by omega)]))
    · try simp only [bs] at h5
      refine Tr.seq ?_
      refine Tr.region ?_
      refine Tr.q (QS.eql rfl rfl) rfl ?_
      refine Tr.q (QS.assign rfl) rfl ?_
      refine Tr.nil ?_
      refine Tr.thenN ?_
      refine Tr.cond rfl (fun h6 => ?_) (fun h6 => ?_)
      · try simp only [bs] at h6
        refine Tr.regionH ([cellE b1 (encIns.enc i) 36]) 8 rfl HLF.mixed ?_
        refine Tr.hT 0 rfl (by kernel_rfl) (panicIn (panicThen panicBody)) (QS.fieldAddr (off := 6) (ft := 3) rfl Try.underlying36 rfl rfl Try.sizeOf3 (by decide)) ?_
        refine Tr.hT 1 rfl (by kernel_rfl) (panicIn (panicThen panicBody)) (QS.lV rfl Try.isAgg3) ?_
        refine Tr.hT 2 rfl (by kernel_rfl) (panicIn (panicThen panicBody)) (QS.fieldAddr (off := 7) (ft := 3) rfl Try.underlying36 rfl rfl Try.sizeOf3 (by decide)) ?_
        refine Tr.hT 3 rfl (by kernel_rfl) (panicIn (panicThen panicBody)) (QS.lV rfl Try.isAgg3) ?_
        refine Tr.hT 4 rfl (by kernel_rfl) (panicIn (panicThen panicBody)) (QS.fieldAddr (off := 6) (ft := 3) rfl Try.underlying36 rfl rfl Try.sizeOf3 (by decide)) ?_
        refine Tr.hAll [5] (by kernel_rfl) (by simp) (fun iq hq => ?_)
        obtain rfl := List.mem_singleton.1 hq
        refine Tr.hOp rfl ?_
        refine Tr.storeV (cs' := [_, _, _, _, _, _, _, _, _]) rfl rfl Try.sizeOf3 (by repeat (first | exact Put.here _ | apply Put.there)) rfl (by rfl) (by first | exact Nat.le_of_ble_eq_true rfl | simp) (by first | exact List.all_eq_true.1 rfl | (intro u hu; simp [Value.cells] at hu; simp_all [Value.oneCell'])) rfl ?_
        refine Tr.hN ?_
        refine Tr.hT 6 rfl (by kernel_rfl) (panicIn (panicThen panicBody)) (QS.fieldAddr (off := 7) (ft := 3) rfl Try.underlying36 rfl rfl Try.sizeOf3 (by decide)) ?_
        refine Tr.hAll [7] (by kernel_rfl) (by simp) (fun iq hq => ?_)
        obtain rfl := List.mem_singleton.1 hq
        refine Tr.hOp rfl ?_
        refine Tr.storeV (cs' := [_, _, _, _, _, _, _, _, _]) rfl rfl Try.sizeOf3 (by repeat (first | exact Put.here _ | apply Put.there)) rfl (by rfl) (by first | exact Nat.le_of_ble_eq_true rfl | simp) (by first | exact List.all_eq_true.1 rfl | (intro u hu; simp [Value.cells] at hu; simp_all [Value.oneCell'])) rfl ?_
        refine Tr.hN ?_
        refine Tr.hDone (by kernel_rfl) ?_
        refine Tr.inN ?_
        refine Tr.thenN ?_
        apply Tr.joined ⟨i.addr, 0, i.op, 0, 0, 0, i.a, i.b, i.size⟩
        · exact rfl
        · exact Front.nil
        · exact SubX.dropN 12 (by kernel_rfl) rfl
        · exact (by repeat' (first | exact Pick.nil _ | exact Del.here _ | apply Pick.cons | apply Del.there))
        · exact (by simp only [kept1]; congr 1 <;> first | rfl | (rw [if_pos (by omega)]) | (rw [if_neg (by omega)]))
      · try simp only [bs] at h6
        refine Tr.seq ?_
        refine Tr.seq ?_
        refine Tr.region ?_
        refine Tr.q (QS.eql rfl rfl) rfl ?_
        refine Tr.q (QS.assign rfl) rfl ?_
        refine Tr.nil ?_
        refine Tr.thenN ?_
        apply Tr.condOr
        · exact rfl
        · intro hO7
          try simp only [bs] at hO7
          refine Tr.region ?_
          refine Tr.q (QS.eql rfl rfl) rfl ?_
          refine Tr.q (QS.assign rfl) rfl ?_
          refine Tr.nil ?_
          refine Tr.thenN ?_
          exact Tr.endOr rfl (SubX.dropN 2 (by kernel_rfl) rfl)
        refine Tr.thenN ?_
        refine Tr.cond rfl (fun h8 => ?_) (fun h8 => ?_)
        · try simp only [bs] at h8
          refine Tr.regionH ([cellE b1 (encIns.enc i) 36]) 8 rfl HLF.mixed ?_
          refine Tr.hT 0 rfl (by kernel_rfl) (panicIn (panicThen panicBody)) (QS.fieldAddr (off := 6) (ft := 3) rfl Try.underlying36 rfl rfl Try.sizeOf3 (by decide)) ?_
          refine Tr.hT 1 rfl (by kernel_rfl) (panicIn (panicThen panicBody)) (QS.lV rfl Try.isAgg3) ?_
          refine Tr.hT 2 rfl (by kernel_rfl) (panicIn (panicThen panicBody)) (QS.fieldAddr (off := 1) (ft := 23) rfl Try.underlying36 rfl rfl Try.sizeOf23 (by decide)) ?_
          refine Tr.hT 3 rfl (by kernel_rfl) (panicIn (panicThen panicBody)) (QS.lV rfl Try.isAgg23) ?_
          refine Tr.hT 4 rfl (by kernel_rfl) (panicIn (panicThen panicBody)) (QS.fieldAddr (off := 6) (ft := 3) rfl Try.underlying36 rfl rfl Try.sizeOf3 (by decide)) ?_
          refine Tr.hAll [5] (by kernel_rfl) (by simp) (fun iq hq => ?_)
          obtain rfl := List.mem_singleton.1 hq
          refine Tr.hOp rfl ?_
          refine Tr.storeV (cs' := [_, _, _, _, _, _, _, _, _]) rfl rfl Try.sizeOf3 (by repeat (first | exact Put.here _ | apply Put.there)) rfl (by rfl) (by first | exact Nat.le_of_ble_eq_true rfl | simp) (by first | exact List.all_eq_true.1 rfl | (intro u hu; simp [Value.cells] at hu; simp_all [Value.oneCell'])) rfl ?_
          refine Tr.hN ?_
          refine Tr.hT 6 rfl (by kernel_rfl) (panicIn (panicThen panicBody)) (QS.fieldAddr (off := 1) (ft := 23) rfl Try.underlying36 rfl rfl Try.sizeOf23 (by decide)) ?_
          refine Tr.hAll [7] (by kernel_rfl) (by simp) (fun iq hq => ?_)
          obtain rfl := List.mem_singleton.1 hq
          refine Tr.hOp rfl ?_
          refine Tr.storeV (cs' := [_, _, _, _, _, _, _, _, _]) rfl rfl Try.sizeOf23 (by repeat (first | exact Put.here _ | apply Put.there)) rfl (by rfl) (by first | exact Nat.le_of_ble_eq_true rfl | simp) (by first | exact List.all_eq_true.1 rfl | (intro u hu; simp [Value.cells] at hu; simp_all [Value.oneCell'])) rfl ?_
          refine Tr.hN ?_
          refine Tr.hDone (by kernel_rfl) ?_
          refine Tr.inN ?_
          refine Tr.thenN ?_
          apply Tr.joined ⟨i.addr, i.imm, i.op, 0, 0, 0, i.a, 0, i.size⟩
          · exact rfl
          · exact Front.nil
          · exact SubX.dropN 15 (by kernel_rfl) rfl
          · exact (by repeat' (first | exact Pick.nil _ | exact Del.here _ | apply Pick.cons | apply Del.there))
          · exact (by simp only [kept1]; congr 1 <;> first | rfl | (rw [if_pos (by omega)]) | (rw [if_neg (by omega)]))
        · try simp only [bs] at h8
          refine Tr.seq ?_
          refine Tr.region ?_
          refine Tr.q (QS.eql rfl rfl) rfl ?_
          refine Tr.q (QS.assign rfl) rfl ?_
          refine Tr.nil ?_
          refine Tr.thenN ?_
          refine Tr.cond rfl (fun h9 => ?_) (fun h9 => ?_)
          · try simp only [bs] at h9
            refine Tr.regionH ([cellE b1 (encIns.enc i) 36]) 12 rfl HLF.mixed ?_
            refine Tr.hT 0 rfl (by kernel_rfl) (panicIn (panicThen panicBody)) (QS.fieldAddr (off := 6) (ft := 3) rfl Try.underlying36 rfl rfl Try.sizeOf3 (by decide)) ?_
            refine Tr.hT 1 rfl (by kernel_rfl) (panicIn (panicThen panicBody)) (QS.lV rfl Try.isAgg3) ?_
            refine Tr.hT 2 rfl (by kernel_rfl) (panicIn (panicThen panicBody)) (QS.fieldAddr (off := 7) (ft := 3) rfl Try.underlying36 rfl rfl Try.sizeOf3 (by decide)) ?_
            refine Tr.hT 3 rfl (by kernel_rfl) (panicIn (panicThen panicBody)) (QS.lV rfl Try.isAgg3) ?_
            refine Tr.hT 4 rfl (by kernel_rfl) (panicIn (panicThen panicBody)) (QS.fieldAddr (off := 1) (ft := 23) rfl Try.underlying36 rfl rfl Try.sizeOf23 (by decide)) ?_
            refine Tr.hT 5 rfl (by kernel_rfl) (panicIn (panicThen panicBody)) (QS.lV rfl Try.isAgg23) ?_
            refine Tr.hT 6 rfl (by kernel_rfl) (panicIn (panicThen panicBody)) (QS.fieldAddr (off := 6) (ft := 3) rfl Try.underlying36 rfl rfl Try.sizeOf3 (by decide)) ?_
            refine Tr.hAll [7] (by kernel_rfl) (by simp) (fun iq hq => ?_)
            obtain rfl := List.mem_singleton.1 hq
            refine Tr.hOp rfl ?_
            refine Tr.storeV (cs' := [_, _, _, _, _, _, _, _, _]) rfl rfl Try.sizeOf3 (by repeat (first | exact Put.here _ | apply Put.there)) rfl (by rfl) (by first | exact Nat.le_of_ble_eq_true rfl | simp) (by first | exact List.all_eq_true.1 rfl | (intro u hu; simp [Value.cells] at hu; simp_all [Value.oneCell'])) rfl ?_
            refine Tr.hN ?_
            refine Tr.hT 8 rfl (by kernel_rfl) (panicIn (panicThen panicBody)) (QS.fieldAddr (off := 7) (ft := 3) rfl Try.underlying36 rfl rfl Try.sizeOf3 (by decide)) ?_
            refine Tr.hAll [9] (by kernel_rfl) (by simp) (fun iq hq => ?_)
            obtain rfl := List.mem_singleton.1 hq
            refine Tr.hOp rfl ?_
            refine Tr.storeV (cs' := [_, _, _, _, _, _, _, _, _]) rfl rfl Try.sizeOf3 (by repeat (first | exact Put.here _ | apply Put.there)) rfl (by rfl) (by first | exact Nat.le_of_ble_eq_true rfl | simp) (by first | exact List.all_eq_true.1 rfl | (intro u hu; simp [Value.cells] at hu; simp_all [Value.oneCell'])) rfl ?_
            refine Tr.hN ?_
            refine Tr.hT 10 rfl (by kernel_rfl) (panicIn (panicThen panicBody)) (QS.fieldAddr (off := 1) (ft := 23) rfl Try.underlying36 rfl rfl Try.sizeOf23 (by decide)) ?_
            refine Tr.hAll [11] (by kernel_rfl) (by simp) (fun iq hq => ?_)
            obtain rfl := List.mem_singleton.1 hq
            refine Tr.hOp rfl ?_
            refine Tr.storeV (cs' := [_, _, _, _, _, _, _, _, _]) rfl rfl Try.sizeOf23 (by repeat (first | exact Put.here _ | apply Put.there)) rfl (by rfl) (by first | exact Nat.le_of_ble_eq_true rfl | simp) (by first | exact List.all_eq_true.1 rfl | (intro u hu; simp [Value.cells] at hu; simp_all [Value.oneCell'])) rfl ?_
            refine Tr.hN ?_
            refine Tr.hDone (by kernel_rfl) ?_
            refine Tr.inN ?_
            refine Tr.thenN ?_
            apply Tr.joined ⟨i.addr, i.imm, i.op, 0, 0, 0, i.a, i.b, i.size⟩
            · exact rfl
            · exact Front.nil
            · exact SubX.dropN 20 (by kernel_rfl) rfl
            · exact (by repeat' (first | exact Pick.nil _ | exact Del.here _ | apply Pick.cons | apply Del.there))
            · exact (by simp only [kept1]; congr 1 <;> first | rfl | (rw [if_pos (by omega)]) | (rw [if_neg (by omega)]))
          · try simp only [bs] at h9
            refine Tr.seq ?_
            refine Tr.seq ?_
            refine Tr.region ?_
            refine Tr.q (QS.eql rfl rfl) rfl ?_
            refine Tr.q (QS.assign rfl) rfl ?_
            refine Tr.nil ?_
            refine Tr.thenN ?_
            apply Tr.condOr
            · exact rfl
            · intro hO10
              try simp only [bs] at hO10
              refine Tr.region ?_
              refine Tr.q (QS.eql rfl rfl) rfl ?_
              refine Tr.q (QS.assign rfl) rfl ?_
              refine Tr.nil ?_
              refine Tr.thenN ?_
              exact Tr.endOr rfl (SubX.dropN 2 (by kernel_rfl) rfl)
            refine Tr.thenN ?_
            refine Tr.cond rfl (fun h11 => ?_) (fun h11 => ?_)
            · try simp only [bs] at h11
              refine Tr.region ?_
              refine Tr.q (QS.fieldAddr (off := 1) (ft := 23) rfl Try.underlying36 rfl rfl Try.sizeOf23 (by decide)) rfl ?_
              refine Tr.q (QS.lV rfl Try.isAgg23) rfl ?_
              refine Tr.q (QS.fieldAddr (off := 1) (ft := 23) rfl Try.underlying36 rfl rfl Try.sizeOf23 (by decide)) rfl ?_
              refine Tr.storeV (cs' := [_, _, _, _, _, _, _, _, _]) rfl rfl Try.sizeOf23 (by repeat (first | exact Put.here _ | apply Put.there)) rfl (by rfl) (by first | exact Nat.le_of_ble_eq_true rfl | simp) (by first | exact List.all_eq_true.1 rfl | (intro u hu; simp [Value.cells] at hu; simp_all [Value.oneCell'])) rfl ?_
              refine Tr.nil ?_
              refine Tr.inN ?_
              refine Tr.thenN ?_
              apply Tr.joined ⟨i.addr, i.imm, i.op, 0, 0, 0, 0, 0, i.size⟩
              · exact rfl
              · exact Front.nil
              · exact SubX.dropN 17 (by kernel_rfl) rfl
              · exact (by repeat' (first | exact Pick.nil _ | exact Del.here _ | apply Pick.cons | apply Del.there))
              · exact (by simp only [kept1]; congr 1 <;> first | rfl | (rw [if_pos (by omega)]) | (rw [if_neg (by omega)]))
            · try simp only [bs] at h11
              refine Tr.skip ?_
              refine Tr.inN ?_
              refine Tr.thenN ?_
              apply Tr.joined ⟨i.addr, 0, i.op, 0, 0, 0, 0, 0, i.size⟩
              · exact rfl
              · exact Front.nil
              · exact SubX.dropN 14 (by kernel_rfl) rfl
              · exact (by repeat' (first | exact Pick.nil _ | exact Del.here _ | apply Pick.cons | apply Del.there))
              · exact (by simp only [kept1]; congr 1 <;> first | rfl | (rw [if_pos (by omega)]) | (rw [if_neg (by omega)]))
  · skip
    replace hi : k1 = kept1 i s := hi
    change Tr _ _ [cellE b3 (encIns.enc k1) 36, cellE b2 (encIns.enc zeroIns) 36, cellE b1 (encIns.enc i) 36] ([] ++ _) _
    refine Tr.seqJ (ι := Ins) (fun k2 => k2 = keptP i s) (fun _ => Bg.of w) (fun k2 => [cellE b3 (encIns.enc k2) 36, cellE b2 (encIns.enc zeroIns) 36, cellE b1 (encIns.enc i) 36]) (fun k2 => []) ?_ (fun k2 hi => ?_)
    · skip
      refine Tr.block ?_
      refine Tr.seq ?_
      refine Tr.region ?_
      refine Tr.q (QS.fieldAddr (off := 2) (ft := 3) rfl Try.underlying36 rfl rfl Try.sizeOf3 (by decide)) rfl ?_
      refine Tr.q (QS.lV rfl Try.isAgg3) rfl ?_
      refine Tr.q (QS.geq rfl rfl) rfl ?_
      refine Tr.q (QS.move rfl) rfl ?_
      apply Tr.andP
      · exact (rfl : _ = (4, 58, 62))
      · exact rfl
      · intro hT12; have hT12' := hT12
        try simp only [bs] at hT12'
        refine Tr.gq rfl rfl hT12 (QS.fieldAddr (off := 2) (ft := 3) rfl Try.underlying36 rfl rfl Try.sizeOf3 (by decide)) rfl ?_
        refine Tr.gq rfl rfl hT12 (QS.lV rfl Try.isAgg3) rfl ?_
        refine Tr.gq rfl rfl hT12 (QS.leq rfl rfl) rfl ?_
        refine Tr.q (QS.pickT rfl hT12 rfl) rfl ?_
        refine Tr.nil (Tr.thenN ?_)
        exact Tr.endX (Sub.cons rfl (Sub.dropN 4 (by kernel_rfl) rfl))
      · intro hF12
        refine Tr.gskip rfl rfl hF12 rfl ?_
        refine Tr.gskip rfl rfl hF12 rfl ?_
        refine Tr.gskip rfl rfl hF12 rfl ?_
        refine Tr.q (QS.pickF rfl hF12 rfl) rfl ?_
        refine Tr.nil (Tr.thenN ?_)
        exact Tr.endX (Sub.cons rfl (Sub.dropN 4 (by kernel_rfl) rfl))
      refine Tr.q (QS.assign rfl) rfl ?_
      refine Tr.nil ?_
      refine Tr.thenN ?_
      refine Tr.cond rfl (fun h13 => ?_) (fun h13 => ?_)
      · try simp only [bs] at h13
        refine Tr.region ?_
        refine Tr.q (QS.fieldAddr (off := 3) (ft := 3) rfl Try.underlying36 rfl rfl Try.sizeOf3 (by decide)) rfl ?_
        refine Tr.q (QS.lV rfl Try.isAgg3) rfl ?_
        refine Tr.q (QS.fieldAddr (off := 3) (ft := 3) rfl Try.underlying36 rfl rfl Try.sizeOf3 (by decide)) rfl ?_
        refine Tr.storeV (cs' := [_, _, _, _, _, _, _, _, _]) rfl rfl Try.sizeOf3 (by repeat (first | exact Put.here _ | apply Put.there)) rfl (by rfl) (by first | exact Nat.le_of_ble_eq_true rfl | simp) (by first | exact List.all_eq_true.1 rfl | (intro u hu; simp [Value.cells] at hu; simp_all [Value.oneCell'])) rfl ?_
        refine Tr.nil ?_
        refine Tr.inN ?_
        refine Tr.thenN ?_
        apply Tr.joined { k1 with form := i.form }
        · exact rfl
        · exact Front.nil
        · exact SubX.dropN 9 (by kernel_rfl) rfl
        · exact (by repeat' (first | exact Pick.nil _ | exact Del.here _ | apply Pick.cons | apply Del.there))
        · exact (by subst hi; rw [keptP_eq]; congr 1 <;> first | rfl | (rw [if_pos (by omega)]) | (rw [if_neg (by omega)]; rfl))
      · try simp only [bs] at h13
        refine Tr.seq ?_
        refine Tr.seq ?_
        refine Tr.region ?_
        refine Tr.q (QS.fieldAddr (off := 2) (ft := 3) rfl Try.underlying36 rfl rfl Try.sizeOf3 (by decide)) rfl ?_
        refine Tr.q (QS.lV rfl Try.isAgg3) rfl ?_
        refine Tr.q (QS.eql rfl rfl) rfl ?_
        refine Tr.q (QS.assign rfl) rfl ?_
        refine Tr.nil ?_
        refine Tr.thenN ?_
        apply Tr.condOr
        · exact rfl
        · intro hO14
          try simp only [bs] at hO14
          refine Tr.seq ?_
          refine Tr.region ?_
          refine Tr.q (QS.fieldAddr (off := 2) (ft := 3) rfl Try.underlying36 rfl rfl Try.sizeOf3 (by decide)) rfl ?_
          refine Tr.q (QS.lV rfl Try.isAgg3) rfl ?_
          refine Tr.q (QS.eql rfl rfl) rfl ?_
          refine Tr.q (QS.assign rfl) rfl ?_
          refine Tr.nil ?_
          refine Tr.thenN ?_
          apply Tr.condOr
          · exact rfl
          · intro hO15
            try simp only [bs] at hO15
            refine Tr.region ?_
            refine Tr.q (QS.fieldAddr (off := 2) (ft := 3) rfl Try.underlying36 rfl rfl Try.sizeOf3 (by decide)) rfl ?_
            refine Tr.q (QS.lV rfl Try.isAgg3) rfl ?_
            refine Tr.q (QS.eql rfl rfl) rfl ?_
            refine Tr.q (QS.assign rfl) rfl ?_
            refine Tr.nil ?_
            refine Tr.thenN ?_
            exact Tr.endOr rfl (SubX.dropN 4 (by kernel_rfl) rfl)
          refine Tr.thenN ?_
          exact Tr.endOr rfl (SubX.dropN 5 (by kernel_rfl) rfl)
        refine Tr.thenN ?_
        refine Tr.cond rfl (fun h16 => ?_) (fun h16 => ?_)
        · try simp only [bs] at h16
          refine Tr.region ?_
          refine Tr.q (QS.fieldAddr (off := 4) (ft := 3) rfl Try.underlying36 rfl rfl Try.sizeOf3 (by decide)) rfl ?_
          refine Tr.q (QS.lV rfl Try.isAgg3) rfl ?_
          refine Tr.q (QS.fieldAddr (off := 4) (ft := 3) rfl Try.underlying36 rfl rfl Try.sizeOf3 (by decide)) rfl ?_
          refine Tr.storeV (cs' := [_, _, _, _, _, _, _, _, _]) rfl rfl Try.sizeOf3 (by repeat (first | exact Put.here _ | apply Put.there)) rfl (by rfl) (by first | exact Nat.le_of_ble_eq_true rfl | simp) (by first | exact List.all_eq_true.1 rfl | (intro u hu; simp [Value.cells] at hu; simp_all [Value.oneCell'])) rfl ?_
          refine Tr.nil ?_
          refine Tr.inN ?_
          refine Tr.thenN ?_
          apply Tr.joined { k1 with width := i.width }
          · exact rfl
          · exact Front.nil
          · exact SubX.dropN 14 (by kernel_rfl) rfl
          · exact (by repeat' (first | exact Pick.nil _ | exact Del.here _ | apply Pick.cons | apply Del.there))
          · exact (by subst hi; rw [keptP_eq]; congr 1 <;> first | rfl | (rw [if_pos (by omega)]) | (rw [if_neg (by omega)]; rfl))
        · try simp only [bs] at h16
          refine Tr.seq ?_
          refine Tr.region ?_
          refine Tr.q (QS.fieldAddr (off := 2) (ft := 3) rfl Try.underlying36 rfl rfl Try.sizeOf3 (by decide)) rfl ?_
          refine Tr.q (QS.lV rfl Try.isAgg3) rfl ?_
          refine Tr.q (QS.eql rfl rfl) rfl ?_
          refine Tr.q (QS.assign rfl) rfl ?_
          refine Tr.nil ?_
          refine Tr.thenN ?_
          refine Tr.cond rfl (fun h17 => ?_) (fun h17 => ?_)
          · try simp only [bs] at h17
            refine Tr.regionH ([cellE b1 (encIns.enc i) 36]) 8 rfl HLF.mixed ?_
            refine Tr.hT 0 rfl (by kernel_rfl) (panicIn (panicThen panicBody)) (QS.fieldAddr (off := 3) (ft := 3) rfl Try.underlying36 rfl rfl Try.sizeOf3 (by decide)) ?_
            refine Tr.hT 1 rfl (by kernel_rfl) (panicIn (panicThen panicBody)) (QS.lV rfl Try.isAgg3) ?_
            refine Tr.hT 2 rfl (by kernel_rfl) (panicIn (panicThen panicBody)) (QS.fieldAddr (off := 5) (ft := 3) rfl Try.underlying36 rfl rfl Try.sizeOf3 (by decide)) ?_
            refine Tr.hT 3 rfl (by kernel_rfl) (panicIn (panicThen panicBody)) (QS.lV rfl Try.isAgg3) ?_
            refine Tr.hT 4 rfl (by kernel_rfl) (panicIn (panicThen panicBody)) (QS.fieldAddr (off := 3) (ft := 3) rfl Try.underlying36 rfl rfl Try.sizeOf3 (by decide)) ?_
            refine Tr.hAll [5] (by kernel_rfl) (by simp) (fun iq hq => ?_)
            obtain rfl := List.mem_singleton.1 hq
            refine Tr.hOp rfl ?_
            refine Tr.storeV (cs' := [_, _, _, _, _, _, _, _, _]) rfl rfl Try.sizeOf3 (by repeat (first | exact Put.here _ | apply Put.there)) rfl (by rfl) (by first | exact Nat.le_of_ble_eq_true rfl | simp) (by first | exact List.all_eq_true.1 rfl | (intro u hu; simp [Value.cells] at hu; simp_all [Value.oneCell'])) rfl ?_
            refine Tr.hN ?_
            refine Tr.hT 6 rfl (by kernel_rfl) (panicIn (panicThen panicBody)) (QS.fieldAddr (off := 5) (ft := 3) rfl Try.underlying36 rfl rfl Try.sizeOf3 (by decide)) ?_
            refine Tr.hAll [7] (by kernel_rfl) (by simp) (fun iq hq => ?_)
            obtain rfl := List.mem_singleton.1 hq
            refine Tr.hOp rfl ?_
            refine Tr.storeV (cs' := [_, _, _, _, _, _, _, _, _]) rfl rfl Try.sizeOf3 (by repeat (first | exact Put.here _ | apply Put.there)) rfl (by rfl) (by first | exact Nat.le_of_ble_eq_true rfl | simp) (by first | exact List.all_eq_true.1 rfl | (intro u hu; simp [Value.cells] at hu; simp_all [Value.oneCell'])) rfl ?_
            refine Tr.hN ?_
            refine Tr.hDone (by kernel_rfl) ?_
            refine Tr.inN ?_
            refine Tr.thenN ?_
            apply Tr.joined { k1 with form := i.form, cc := i.cc }
            · exact rfl
            · exact Front.nil
            · exact SubX.dropN 21 (by kernel_rfl) rfl
            · exact (by repeat' (first | exact Pick.nil _ | exact Del.here _ | apply Pick.cons | apply Del.there))
            · exact (by subst hi; rw [keptP_eq]; congr 1 <;> first | rfl | (rw [if_pos (by omega)]) | (rw [if_neg (by omega)]; rfl))
          · try simp only [bs] at h17
            refine Tr.seq ?_
            refine Tr.region ?_
            refine Tr.q (QS.fieldAddr (off := 2) (ft := 3) rfl Try.underlying36 rfl rfl Try.sizeOf3 (by decide)) rfl ?_
            refine Tr.q (QS.lV rfl Try.isAgg3) rfl ?_
            refine Tr.q (QS.eql rfl rfl) rfl ?_
            refine Tr.q (QS.assign rfl) rfl ?_
            refine Tr.nil ?_
            refine Tr.thenN ?_
            refine Tr.cond rfl (fun h18 => ?_) (fun h18 => ?_)
            · try simp only [bs] at h18
              refine Tr.region ?_
              refine Tr.q (QS.fieldAddr (off := 5) (ft := 3) rfl Try.underlying36 rfl rfl Try.sizeOf3 (by decide)) rfl ?_
              refine Tr.q (QS.lV rfl Try.isAgg3) rfl ?_
              refine Tr.q (QS.fieldAddr (off := 5) (ft := 3) rfl Try.underlying36 rfl rfl Try.sizeOf3 (by decide)) rfl ?_
              refine Tr.storeV (cs' := [_, _, _, _, _, _, _, _, _]) rfl rfl Try.sizeOf3 (by repeat (first | exact Put.here _ | apply Put.there)) rfl (by rfl) (by first | exact Nat.le_of_ble_eq_true rfl | simp) (by first | exact List.all_eq_true.1 rfl | (intro u hu; simp [Value.cells] at hu; simp_all [Value.oneCell'])) rfl ?_
              refine Tr.nil ?_
              refine Tr.inN ?_
              refine Tr.thenN ?_
              apply Tr.joined { k1 with cc := i.cc }
              · exact rfl
              · exact Front.nil
              · exact SubX.dropN 22 (by kernel_rfl) rfl
              · exact (by repeat' (first | exact Pick.nil _ | exact Del.here _ | apply Pick.cons | apply Del.there))
              · exact (by subst hi; rw [keptP_eq]; congr 1 <;> first | rfl | (rw [if_pos (by omega)]) | (rw [if_neg (by omega)]; rfl))
            · try simp only [bs] at h18
              refine Tr.skip ?_
              refine Tr.inN ?_
              refine Tr.thenN ?_
              apply Tr.joined k1
              · exact rfl
              · exact Front.nil
              · exact SubX.dropN 19 (by kernel_rfl) rfl
              · exact (by repeat' (first | exact Pick.nil _ | exact Del.here _ | apply Pick.cons | apply Del.there))
              · exact (by subst hi; rw [keptP_eq, if_neg (by omega), if_neg (by omega), if_neg (by omega)]; rfl)
    · skip
      replace hi : k2 = keptP i s := hi
      change Tr _ _ [cellE b3 (encIns.enc k2) 36, cellE b2 (encIns.enc zeroIns) 36, cellE b1 (encIns.enc i) 36] ([] ++ _) _
      refine Tr.seq ?_
      refine Tr.region ?_
      refine Tr.q (QS.lW rfl Try.isAgg36 Try.sizeOf36) rfl ?_
      refine Tr.storeW rfl rfl Try.sizeOf36 (by repeat (first | exact Put.here _ | apply Put.there)) (by rfl) (by rfl) (by first | exact List.all_eq_true.1 rfl | exact Enc.one _ _ | exact Enc.one encIns _) rfl ?_
      refine Tr.nil ?_
      refine Tr.thenN ?_
      refine Tr.ret ?_
      refine Tr.retC1 Try.results84 rfl (by repeat (first | exact List.Mem.head _ | apply List.Mem.tail)) Try.isAgg36 Try.sizeOf36 (by rfl) (fun w' hw => ?_)
      exact ⟨by subst hi; rfl, hw.below (Bg.le.refl _)⟩

set_option maxRecDepth 100000 in
set_option maxHeartbeats 2000000 in
theorem check_any (i : Ins) (w : World) (hI : InsOK i) :
    Calls Try.prog 54 #[.agg (encIns.enc i).toArray] w (fun e w' => e = .returned ((.tuple #[.int .u8 (checkP i).1.toNat, .int .i64 (checkP i).2.1, .int .i64 (checkP i).2.2])) ∧ Ext w w') := by
  refine enter Try.func54 rfl Try.ntmps54 rfl ?_
  refine Tr.seq ?_
  refine Tr.region ?_
  refine Tr.box rfl rfl rfl (fun b1 => ?_)
  refine Tr.q (QS.assign rfl) rfl ?_
  refine Tr.q (QS.assign rfl) rfl ?_
  refine Tr.q (QS.assign rfl) rfl ?_
  refine Tr.nil ?_
  refine Tr.thenN ?_
  refine Tr.seq ?_
  refine Tr.region ?_
  refine Tr.q (QS.lW rfl Try.isAgg36 Try.sizeOf36) rfl ?_
  refine Tr.q (QS.call rfl Try.call60 (fun w hw => opcode_any i w hI)) rfl ?_
  refine Tr.q (QS.move rfl) rfl ?_
  refine Tr.q (QS.extract rfl rfl) rfl ?_
  refine Tr.q (QS.extract rfl rfl) rfl ?_
  refine Tr.q (QS.extract rfl rfl) rfl ?_
  refine Tr.q (QS.assign rfl) rfl ?_
  refine Tr.q (QS.assign rfl) rfl ?_
  refine Tr.q (QS.assign rfl) rfl ?_
  refine Tr.nil ?_
  refine Tr.thenN ?_
  refine Tr.seq ?_
  refine Tr.seq ?_
  refine Tr.regionQ HLF.mixed (by kernel_rfl) ?_
  refine TrQ.q (QS.move rfl) rfl ?_
  refine TrQ.q (QS.not rfl) rfl ?_
  refine TrQ.q (QS.move rfl) rfl ?_
  apply TrQ.orP
  · exact (rfl : _ = (5, 16, 21))
  · exact rfl
  · intro hF2; have hF2' := hF2
    try simp only [bs] at hF2'
    refine TrQ.gq rfl rfl hF2 (QS.fieldAddr (off := 6) (ft := 3) rfl Try.underlying36 rfl rfl Try.sizeOf3 (by decide)) rfl ?_
    refine TrQ.gq rfl rfl hF2 (QS.lV rfl Try.isAgg3) rfl ?_
    refine TrQ.gq rfl rfl hF2 (QS.call rfl Try.call63 (fun w hw => register_any i.a w)) rfl ?_
    refine TrQ.gq rfl rfl hF2 (QS.not rfl) rfl ?_
    refine TrQ.q (QS.pickF rfl hF2 rfl) rfl ?_
    exact TrQ.end (Sub.cons rfl (Sub.dropN 5 (by kernel_rfl) rfl))
  · intro hT2
    refine TrQ.gskip rfl rfl hT2 rfl ?_
    refine TrQ.gskip rfl rfl hT2 rfl ?_
    refine TrQ.gskip rfl rfl hT2 rfl ?_
    refine TrQ.gskip rfl rfl hT2 rfl ?_
    refine TrQ.q (QS.pickT rfl hT2 rfl) rfl ?_
    exact TrQ.end (Sub.cons rfl (Sub.dropN 5 (by kernel_rfl) rfl))
  refine TrQ.q (QS.move rfl) rfl ?_
  apply TrQ.orP
  · exact (rfl : _ = (5, 22, 27))
  · exact rfl
  · intro hF3; have hF3' := hF3
    try simp only [bs] at hF3'
    refine TrQ.gq rfl rfl hF3 (QS.fieldAddr (off := 7) (ft := 3) rfl Try.underlying36 rfl rfl Try.sizeOf3 (by decide)) rfl ?_
    refine TrQ.gq rfl rfl hF3 (QS.lV rfl Try.isAgg3) rfl ?_
    refine TrQ.gq rfl rfl hF3 (QS.call rfl Try.call63 (fun w hw => register_any i.b w)) rfl ?_
    refine TrQ.gq rfl rfl hF3 (QS.not rfl) rfl ?_
    refine TrQ.q (QS.pickF rfl hF3 rfl) rfl ?_
    exact TrQ.end (Sub.cons rfl (Sub.dropN 5 (by kernel_rfl) rfl))
  · intro hT3
    refine TrQ.gskip rfl rfl hT3 rfl ?_
    refine TrQ.gskip rfl rfl hT3 rfl ?_
    refine TrQ.gskip rfl rfl hT3 rfl ?_
    refine TrQ.gskip rfl rfl hT3 rfl ?_
    refine TrQ.q (QS.pickT rfl hT3 rfl) rfl ?_
    exact TrQ.end (Sub.cons rfl (Sub.dropN 5 (by kernel_rfl) rfl))
  refine TrQ.q (QS.move rfl) rfl ?_
  apply TrQ.orP
  · exact (rfl : _ = (6, 28, 34))
  · exact rfl
  · intro hF4; have hF4' := hF4
    try simp only [bs] at hF4'
    refine TrQ.gq rfl rfl hF4 (QS.lW rfl Try.isAgg36 Try.sizeOf36) rfl ?_
    refine TrQ.gq rfl rfl hF4 (QS.move rfl) rfl ?_
    refine TrQ.gq rfl rfl hF4 (QS.call rfl Try.call84 (fun w hw => kept_any i (opcodeP i).2.1 w)) rfl ?_
    refine TrQ.gq rfl rfl hF4 (QS.lW rfl Try.isAgg36 Try.sizeOf36) rfl ?_
    refine TrQ.gq rfl rfl hF4 (QS.neqE rfl rfl insEqEnc Try.underlying36 (HLF.words36 _ Try.underlying36) rfl HLF.held36 HLF.eqg36) rfl ?_
    refine TrQ.q (QS.pickF rfl hF4 rfl) rfl ?_
    exact TrQ.end (Sub.cons rfl (Sub.dropN 6 (by kernel_rfl) rfl))
  · intro hT4
    refine TrQ.gskip rfl rfl hT4 rfl ?_
    refine TrQ.gskip rfl rfl hT4 rfl ?_
    refine TrQ.gskip rfl rfl hT4 rfl ?_
    refine TrQ.gskip rfl rfl hT4 rfl ?_
    refine TrQ.gskip rfl rfl hT4 rfl ?_
    refine TrQ.q (QS.pickT rfl hT4 rfl) rfl ?_
    exact TrQ.end (Sub.cons rfl (Sub.dropN 6 (by kernel_rfl) rfl))
  refine TrQ.nil ?_
  refine Tr.thenN ?_
  refine Tr.cond rfl (fun h5 => ?_) (fun h5 => ?_)
  · try simp only [bs] at h5
    refine Tr.seq ?_
    refine Tr.region ?_
    refine Tr.q (QS.assign rfl) rfl ?_
    refine Tr.q (QS.assign rfl) rfl ?_
    refine Tr.q (QS.assign rfl) rfl ?_
    refine Tr.nil ?_
    refine Tr.thenN ?_
    refine Tr.ret ?_
    refine Tr.thenR ?_
    refine Tr.ret3 Try.results54 rfl rfl rfl (fun w' hw => ?_)
    exact ⟨by rw [checkP_2 (by simp_all [or_assoc])]; rfl, hw.below (Bg.le.refl _)⟩
  · try simp only [bs] at h5
    refine Tr.skip ?_
    refine Tr.thenN ?_
    refine Tr.seq ?_
    refine Tr.seq ?_
    refine Tr.region ?_
    refine Tr.q (QS.move rfl) rfl ?_
    refine Tr.q (QS.eql rfl rfl) rfl ?_
    refine Tr.q (QS.move rfl) rfl ?_
    apply Tr.orP
    · exact (rfl : _ = (3, 37, 40))
    · exact rfl
    · intro hF6; have hF6' := hF6
      try simp only [bs] at hF6'
      refine Tr.gq rfl rfl hF6 (QS.move rfl) rfl ?_
      refine Tr.gq rfl rfl hF6 (QS.eql rfl rfl) rfl ?_
      refine Tr.q (QS.pickF rfl hF6 rfl) rfl ?_
      refine Tr.nil (Tr.thenN ?_)
      exact Tr.endX (Sub.cons rfl (Sub.dropN 3 (by kernel_rfl) rfl))
    · intro hT6
      refine Tr.gskip rfl rfl hT6 rfl ?_
      refine Tr.gskip rfl rfl hT6 rfl ?_
      refine Tr.q (QS.pickT rfl hT6 rfl) rfl ?_
      refine Tr.nil (Tr.thenN ?_)
      exact Tr.endX (Sub.cons rfl (Sub.dropN 3 (by kernel_rfl) rfl))
    refine Tr.q (QS.move rfl) rfl ?_
    apply Tr.andP
    · exact (rfl : _ = (5, 41, 46))
    · exact rfl
    · intro hT7; have hT7' := hT7
      try simp only [bs] at hT7'
      refine Tr.gq rfl rfl hT7 (QS.fieldAddr (off := 1) (ft := 23) rfl Try.underlying36 rfl rfl Try.sizeOf23 (by decide)) rfl ?_
      refine Tr.gq rfl rfl hT7 (QS.lV rfl Try.isAgg23) rfl ?_
      refine Tr.gq rfl rfl hT7 (QS.call rfl Try.call85 (fun w hw => narrow_any i.imm w)) rfl ?_
      refine Tr.gq rfl rfl hT7 (QS.not rfl) rfl ?_
      refine Tr.q (QS.pickT rfl hT7 rfl) rfl ?_
      refine Tr.nil (Tr.thenN ?_)
      exact Tr.endX (Sub.cons rfl (Sub.dropN 5 (by kernel_rfl) rfl))
    · intro hF7
      refine Tr.gskip rfl rfl hF7 rfl ?_
      refine Tr.gskip rfl rfl hF7 rfl ?_
      refine Tr.gskip rfl rfl hF7 rfl ?_
      refine Tr.gskip rfl rfl hF7 rfl ?_
      refine Tr.q (QS.pickF rfl hF7 rfl) rfl ?_
      refine Tr.nil (Tr.thenN ?_)
      exact Tr.endX (Sub.cons rfl (Sub.dropN 5 (by kernel_rfl) rfl))
    refine Tr.q (QS.move rfl) rfl ?_
    apply Tr.orP
    · exact (rfl : _ = (13, 47, 60))
    · exact rfl
    · intro hF8; have hF8' := hF8
      try simp only [bs] at hF8'
      refine Tr.gq rfl rfl hF8 (QS.move rfl) rfl ?_
      refine Tr.gq rfl rfl hF8 (QS.eql rfl rfl) rfl ?_
      refine Tr.gq rfl rfl hF8 (QS.move rfl) rfl ?_
      apply Tr.andP
      · exact (rfl : _ = (9, 50, 59))
      · exact rfl
      · intro hT9; have hT9' := hT9
        try simp only [bs] at hT9'
        refine Tr.gq rfl rfl hT9 (QS.fieldAddr (off := 1) (ft := 23) rfl Try.underlying36 rfl rfl Try.sizeOf23 (by decide)) rfl ?_
        refine Tr.gq rfl rfl hT9 (QS.lV rfl Try.isAgg23) rfl ?_
        refine Tr.gq rfl rfl hT9 (QS.fieldAddr (off := 0) (ft := 23) rfl Try.underlying36 rfl rfl Try.sizeOf23 (by decide)) rfl ?_
        refine Tr.gq rfl rfl hT9 (QS.lV rfl Try.isAgg23) rfl ?_
        refine Tr.gq rfl rfl hT9 (QS.sub32 rfl rfl) rfl ?_
        refine Tr.gq rfl rfl hT9 (QS.sub32 (n := 2) rfl rfl) rfl ?_
        refine Tr.gq rfl rfl hT9 (QS.call rfl Try.call85 (fun w hw => narrow_any (i.imm - i.addr - 2) w)) rfl ?_
        refine Tr.gq rfl rfl hT9 (QS.not rfl) rfl ?_
        refine Tr.gq rfl rfl hF8 (QS.pickT rfl hT9 rfl) rfl ?_
        refine Tr.nil (Tr.thenN ?_)
        exact Tr.endX (Sub.cons rfl (Sub.dropN 9 (by kernel_rfl) rfl))
      · intro hF9
        refine Tr.gskip rfl rfl hF9 rfl ?_
        refine Tr.gskip rfl rfl hF9 rfl ?_
        refine Tr.gskip rfl rfl hF9 rfl ?_
        refine Tr.gskip rfl rfl hF9 rfl ?_
        refine Tr.gskip rfl rfl hF9 rfl ?_
        refine Tr.gskip rfl rfl hF9 rfl ?_
        refine Tr.gskip rfl rfl hF9 rfl ?_
        refine Tr.gskip rfl rfl hF9 rfl ?_
        refine Tr.gq rfl rfl hF8 (QS.pickF rfl hF9 rfl) rfl ?_
        refine Tr.nil (Tr.thenN ?_)
        exact Tr.endX (Sub.cons rfl (Sub.dropN 9 (by kernel_rfl) rfl))
      refine Tr.q (QS.pickF rfl hF8 rfl) rfl ?_
      refine Tr.nil (Tr.thenN ?_)
      exact Tr.endX (Sub.cons rfl (Sub.dropN 5 (by kernel_rfl) rfl))
    · intro hT8
      refine Tr.gskip rfl rfl hT8 rfl ?_
      refine Tr.gskip rfl rfl hT8 rfl ?_
      refine Tr.gskip rfl rfl hT8 rfl ?_
      refine Tr.gskipU rfl rfl rfl ?_
      refine Tr.gskipU rfl rfl rfl ?_
      refine Tr.gskipU rfl rfl rfl ?_
      refine Tr.gskipU rfl rfl rfl ?_
      refine Tr.gskipU rfl rfl rfl ?_
      refine Tr.gskipU rfl rfl rfl ?_
      refine Tr.gskipU rfl rfl rfl ?_
      refine Tr.gskipU rfl rfl rfl ?_
      refine Tr.gskip rfl rfl hT8 rfl ?_
      refine Tr.q (QS.pickT rfl hT8 rfl) rfl ?_
      refine Tr.nil (Tr.thenN ?_)
      exact Tr.endX (Sub.cons rfl (Sub.dropN 13 (by kernel_rfl) rfl))
    refine Tr.nil ?_
    refine Tr.thenN ?_
    refine Tr.cond rfl (fun h10 => ?_) (fun h10 => ?_)
    · try simp only [bs] at h10
      refine Tr.seq ?_
      refine Tr.region ?_
      refine Tr.q (QS.assign rfl) rfl ?_
      refine Tr.q (QS.assign rfl) rfl ?_
      refine Tr.q (QS.assign rfl) rfl ?_
      refine Tr.nil ?_
      refine Tr.thenN ?_
      refine Tr.ret ?_
      refine Tr.thenR ?_
      refine Tr.ret3 Try.results54 rfl rfl rfl (fun w' hw => ?_)
      exact ⟨by rw [checkP_7 (by simp_all) (by simp_all)]; rfl, hw.below (Bg.le.refl _)⟩
    · try simp only [bs] at h10
      refine Tr.skip ?_
      refine Tr.thenN ?_
      refine Tr.seq ?_
      refine Tr.region ?_
      refine Tr.q (QS.move rfl) rfl ?_
      refine Tr.q (QS.move rfl) rfl ?_
      refine Tr.q (QS.assign rfl) rfl ?_
      refine Tr.q (QS.assign rfl) rfl ?_
      refine Tr.q (QS.assign rfl) rfl ?_
      refine Tr.nil ?_
      refine Tr.thenN ?_
      refine Tr.ret ?_
      refine Tr.ret3 Try.results54 rfl rfl rfl (fun w' hw => ?_)
      exact ⟨by rw [checkP_ok (errP_0 (by simp_all) (by intro hc; rcases hc with ⟨h1 | h1, h2⟩ | ⟨h1, h2⟩ <;> simp_all))]; rfl, hw.below (Bg.le.refl _)⟩

set_option maxRecDepth 100000 in
set_option maxHeartbeats 2000000 in
theorem size_any (s : Int) (w : World) (hs : 0 ≤ s ∧ s ≤ 8) :
    Calls Try.prog 55 #[.int .i64 s] w (fun e w' => e = .returned (.int .i64 (sizeP s)) ∧ Ext w w') := by
  refine enter Try.func55 rfl Try.ntmps55 rfl ?_
  refine Tr.seq ?_
  refine Tr.region ?_
  refine Tr.q (QS.assign rfl) rfl ?_
  refine Tr.nil ?_
  refine Tr.thenN ?_
  refine Tr.seq ?_
  refine Tr.region ?_
  refine Tr.q (QS.move rfl) rfl ?_
  refine Tr.q (QS.strIdx rfl rfl Try.underlying9 (by refine ⟨by omega, ?_⟩; show s < 9; omega)) rfl ?_
  refine Tr.q (QS.sub8 (n := 48) rfl rfl) rfl ?_
  refine Tr.q (QS.cvt8toI rfl Try.underlying5 Try.underlying3) rfl ?_
  refine Tr.q (QS.assign rfl) rfl ?_
  refine Tr.nil ?_
  refine Tr.thenN ?_
  refine Tr.ret ?_
  refine Tr.ret1 Try.results55 rfl (fun w' hw => ?_)
  exact ⟨by obtain rfl | rfl | rfl | rfl | rfl | rfl | rfl | rfl | rfl : s = 0 ∨ s = 1 ∨ s = 2 ∨ s = 3 ∨ s = 4 ∨ s = 5 ∨ s = 6 ∨ s = 7 ∨ s = 8 := (by omega) <;> rfl, hw.below (Bg.le.refl _)⟩

set_option maxRecDepth 100000 in
set_option maxHeartbeats 2000000 in
theorem extend_any (a : UInt32) (k : Int) (w : World) :
    Calls Try.prog 61 #[.int .u32 a.toNat, .int .i64 k] w (fun e w' => e = .returned (.int .u32 (extP a k).toNat) ∧ Ext w w') := by
  refine enter Try.func61 rfl Try.ntmps61 rfl ?_
  refine Tr.seq ?_
  refine Tr.region ?_
  refine Tr.q (QS.assign rfl) rfl ?_
  refine Tr.nil ?_
  refine Tr.thenN ?_
  refine Tr.seq ?_
  refine Tr.seq ?_
  refine Tr.region ?_
  refine Tr.q (QS.move rfl) rfl ?_
  refine Tr.nil ?_
  refine Tr.thenN ?_
  refine Tr.block ?_
  refine Tr.seq ?_
  refine Tr.region ?_
  refine Tr.q (QS.eql rfl rfl) rfl ?_
  refine Tr.q (QS.assign rfl) rfl ?_
  refine Tr.nil ?_
  refine Tr.thenN ?_
  refine Tr.cond rfl (fun h1 => ?_) (fun h1 => ?_)
  · try simp only [bs] at h1
    refine Tr.seq ?_
    refine Tr.region ?_
    refine Tr.q (QS.move rfl) rfl ?_
    refine Tr.q (QS.cvt rfl Try.underlying23 Try.underlying123) rfl ?_
    refine Tr.q (QS.cvtTo32 rfl Try.underlying123 Try.underlying23) rfl ?_
    refine Tr.q (QS.assign rfl) rfl ?_
    refine Tr.nil ?_
    refine Tr.thenN ?_
    refine Tr.ret ?_
    refine Tr.inR ?_
    refine Tr.thenR ?_
    refine Tr.ret1 Try.results61 rfl (fun w' hw => ?_)
    exact ⟨by unfold extP; (repeat (first | rw [if_pos (by omega)] | rw [if_neg (by omega)])) <;> rfl, hw.below (Bg.le.refl _)⟩
  · try simp only [bs] at h1
    refine Tr.seq ?_
    refine Tr.region ?_
    refine Tr.q (QS.eql rfl rfl) rfl ?_
    refine Tr.q (QS.assign rfl) rfl ?_
    refine Tr.nil ?_
    refine Tr.thenN ?_
    refine Tr.cond rfl (fun h2 => ?_) (fun h2 => ?_)
    · try simp only [bs] at h2
      refine Tr.seq ?_
      refine Tr.region ?_
      refine Tr.q (QS.move rfl) rfl ?_
      refine Tr.q (QS.cvt rfl Try.underlying23 Try.underlying124) rfl ?_
      refine Tr.q (QS.cvtTo32 rfl Try.underlying124 Try.underlying23) rfl ?_
      refine Tr.q (QS.assign rfl) rfl ?_
      refine Tr.nil ?_
      refine Tr.thenN ?_
      refine Tr.ret ?_
      refine Tr.inR ?_
      refine Tr.thenR ?_
      refine Tr.ret1 Try.results61 rfl (fun w' hw => ?_)
      exact ⟨by unfold extP; (repeat (first | rw [if_pos (by omega)] | rw [if_neg (by omega)])) <;> rfl, hw.below (Bg.le.refl _)⟩
    · try simp only [bs] at h2
      refine Tr.skip ?_
      refine Tr.inN ?_
      refine Tr.thenN ?_
      refine Tr.seq ?_
      refine Tr.region ?_
      refine Tr.q (QS.move rfl) rfl ?_
      refine Tr.q (QS.assign rfl) rfl ?_
      refine Tr.nil ?_
      refine Tr.thenN ?_
      refine Tr.ret ?_
      refine Tr.ret1 Try.results61 rfl (fun w' hw => ?_)
      exact ⟨by unfold extP; (repeat (first | rw [if_pos (by omega)] | rw [if_neg (by omega)])) <;> rfl, hw.below (Bg.le.refl _)⟩

end Go.Proofs.Ytfnedefgepjbpaa
