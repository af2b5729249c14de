/- Own rules and walks, part 5. -/
import Derived.Test.YtmhbfelnjkhepaaGreatB4
set_option linter.unusedSimpArgs false
set_option linter.unusedVariables false
set_option linter.unusedSectionVars false
namespace Go.Proofs.YtmhbfelnjkhepaaGreat
open Go Go.HL Go.RowKit
set_option maxRecDepth 100000 in
set_option maxHeartbeats 2000000 in
theorem isReg_any (r : Int) (w : World) :
    Calls Tryz.prog 130 #[.int .i64 r] w (fun e w' => e = .returned (.bool (regP r)) ∧ Ext w w') := by
  refine enter Tryz.func130 rfl Tryz.ntmps130 rfl ?_
  refine Tr.seq ?_
  refine Tr.region ?_
  refine Tr.q (QS.assign rfl) rfl ?_
  refine Tr.nil ?_
  refine Tr.thenN ?_
  refine Tr.seq ?_
  refine Tr.region ?_
  refine Tr.q (QS.move rfl) rfl ?_
  refine Tr.q (QS.geq rfl rfl) rfl ?_
  refine Tr.q (QS.move rfl) rfl ?_
  apply Tr.andP
  · exact (rfl : _ = (3, 5, 8))
  · exact rfl
  · intro hT1; have hT1' := hT1
    try simp only [bs] at hT1'
    refine Tr.gq rfl rfl hT1 (QS.move rfl) rfl ?_
    refine Tr.gq rfl rfl hT1 (QS.lss rfl rfl) rfl ?_
    refine Tr.q (QS.pickT rfl hT1 rfl) rfl ?_
    refine Tr.nil (Tr.thenN ?_)
    exact Tr.endX (Sub.cons rfl (Sub.dropN 3 (by kernel_rfl) rfl))
  · intro hF1
    refine Tr.gskip rfl rfl hF1 rfl ?_
    refine Tr.gskip rfl rfl hF1 rfl ?_
    refine Tr.q (QS.pickF rfl hF1 rfl) rfl ?_
    refine Tr.nil (Tr.thenN ?_)
    exact Tr.endX (Sub.cons rfl (Sub.dropN 3 (by kernel_rfl) rfl))
  refine Tr.q (QS.assign rfl) rfl ?_
  refine Tr.nil ?_
  refine Tr.thenN ?_
  refine Tr.ret ?_
  refine Tr.ret1 Tryz.results130 rfl (fun w' hw => ?_)
  exact ⟨rfl, hw.below (Bg.le.refl _)⟩
set_option maxRecDepth 100000 in
set_option maxHeartbeats 2000000 in
theorem isCc_any (r : Int) (w : World) :
    Calls Tryz.prog 133 #[.int .i64 r] w (fun e w' => e = .returned (.bool (isCcP r)) ∧ Ext w w') := by
  refine enter Tryz.func133 rfl Tryz.ntmps133 rfl ?_
  refine Tr.seq ?_
  refine Tr.region ?_
  refine Tr.q (QS.assign rfl) rfl ?_
  refine Tr.nil ?_
  refine Tr.thenN ?_
  refine Tr.seq ?_
  refine Tr.region ?_
  refine Tr.q (QS.move rfl) rfl ?_
  refine Tr.q (QS.geq rfl rfl) rfl ?_
  refine Tr.q (QS.move rfl) rfl ?_
  apply Tr.andP
  · exact (rfl : _ = (3, 5, 8))
  · exact rfl
  · intro hT1; have hT1' := hT1
    try simp only [bs] at hT1'
    refine Tr.gq rfl rfl hT1 (QS.move rfl) rfl ?_
    refine Tr.gq rfl rfl hT1 (QS.leq rfl rfl) rfl ?_
    refine Tr.q (QS.pickT rfl hT1 rfl) rfl ?_
    refine Tr.nil (Tr.thenN ?_)
    exact Tr.endX (Sub.cons rfl (Sub.dropN 3 (by kernel_rfl) rfl))
  · intro hF1
    refine Tr.gskip rfl rfl hF1 rfl ?_
    refine Tr.gskip rfl rfl hF1 rfl ?_
    refine Tr.q (QS.pickF rfl hF1 rfl) rfl ?_
    refine Tr.nil (Tr.thenN ?_)
    exact Tr.endX (Sub.cons rfl (Sub.dropN 3 (by kernel_rfl) rfl))
  refine Tr.q (QS.assign rfl) rfl ?_
  refine Tr.nil ?_
  refine Tr.thenN ?_
  refine Tr.ret ?_
  refine Tr.ret1 Tryz.results133 rfl (fun w' hw => ?_)
  exact ⟨rfl, hw.below (Bg.le.refl _)⟩
set_option maxRecDepth 100000 in
set_option maxHeartbeats 2000000 in
theorem isByte_any (n : UInt32) (w : World) :
    Calls Tryz.prog 137 #[.int .u32 n.toNat] w (fun e w' => e = .returned (.bool (isByteP n)) ∧ Ext w w') := by
  refine enter Tryz.func137 rfl Tryz.ntmps137 rfl ?_
  refine Tr.seq ?_
  refine Tr.region ?_
  refine Tr.q (QS.assign rfl) rfl ?_
  refine Tr.nil ?_
  refine Tr.thenN ?_
  refine Tr.seq ?_
  refine Tr.region ?_
  refine Tr.q (QS.move rfl) rfl ?_
  refine Tr.q (QS.leq32 (n := 127) rfl rfl) rfl ?_
  refine Tr.q (QS.move rfl) rfl ?_
  apply Tr.orP
  · exact (rfl : _ = (3, 5, 8))
  · exact rfl
  · intro hF1; have hF1' := hF1
    try simp only [bs] at hF1'
    refine Tr.gq rfl rfl hF1 (QS.move rfl) rfl ?_
    refine Tr.gq rfl rfl hF1 (QS.geq32 (n := 4294967168) rfl rfl) rfl ?_
    refine Tr.q (QS.pickF rfl hF1 rfl) rfl ?_
    refine Tr.nil (Tr.thenN ?_)
    exact Tr.endX (Sub.cons rfl (Sub.dropN 3 (by kernel_rfl) rfl))
  · intro hT1
    refine Tr.gskip rfl rfl hT1 rfl ?_
    refine Tr.gskip rfl rfl hT1 rfl ?_
    refine Tr.q (QS.pickT rfl hT1 rfl) rfl ?_
    refine Tr.nil (Tr.thenN ?_)
    exact Tr.endX (Sub.cons rfl (Sub.dropN 3 (by kernel_rfl) rfl))
  refine Tr.q (QS.assign rfl) rfl ?_
  refine Tr.nil ?_
  refine Tr.thenN ?_
  refine Tr.ret ?_
  refine Tr.ret1 Tryz.results137 rfl (fun w' hw => ?_)
  exact ⟨rfl, hw.below (Bg.le.refl _)⟩
set_option maxRecDepth 100000 in
set_option maxHeartbeats 2000000 in
theorem isTwo_any (op : Int) (w : World) :
    Calls Tryz.prog 135 #[.int .i64 op] w (fun e w' => e = .returned (.bool (isTwoP op)) ∧ Ext w w') := by
  refine enter Tryz.func135 rfl Tryz.ntmps135 rfl ?_
  refine Tr.seq ?_
  refine Tr.region ?_
  refine Tr.q (QS.assign rfl) rfl ?_
  refine Tr.nil ?_
  refine Tr.thenN ?_
  refine Tr.seq ?_
  refine Tr.region ?_
  refine Tr.q (QS.move rfl) rfl ?_
  refine Tr.q (QS.geq rfl rfl) rfl ?_
  refine Tr.q (QS.move rfl) rfl ?_
  apply Tr.andP
  · exact (rfl : _ = (3, 5, 8))
  · exact rfl
  · intro hT1; have hT1' := hT1
    try simp only [bs] at hT1'
    refine Tr.gq rfl rfl hT1 (QS.move rfl) rfl ?_
    refine Tr.gq rfl rfl hT1 (QS.leq rfl rfl) rfl ?_
    refine Tr.q (QS.pickT rfl hT1 rfl) rfl ?_
    refine Tr.nil (Tr.thenN ?_)
    exact Tr.endX (Sub.cons rfl (Sub.dropN 3 (by kernel_rfl) rfl))
  · intro hF1
    refine Tr.gskip rfl rfl hF1 rfl ?_
    refine Tr.gskip rfl rfl hF1 rfl ?_
    refine Tr.q (QS.pickF rfl hF1 rfl) rfl ?_
    refine Tr.nil (Tr.thenN ?_)
    exact Tr.endX (Sub.cons rfl (Sub.dropN 3 (by kernel_rfl) rfl))
  refine Tr.q (QS.assign rfl) rfl ?_
  refine Tr.nil ?_
  refine Tr.thenN ?_
  refine Tr.ret ?_
  refine Tr.ret1 Tryz.results135 rfl (fun w' hw => ?_)
  exact ⟨rfl, hw.below (Bg.le.refl _)⟩
set_option maxRecDepth 100000 in
set_option maxHeartbeats 2000000 in
theorem isAccess_any (op : Int) (w : World) :
    Calls Tryz.prog 136 #[.int .i64 op] w (fun e w' => e = .returned (.bool (isAccP op)) ∧ Ext w w') := by
  refine enter Tryz.func136 rfl Tryz.ntmps136 rfl ?_
  refine Tr.seq ?_
  refine Tr.region ?_
  refine Tr.q (QS.assign rfl) rfl ?_
  refine Tr.nil ?_
  refine Tr.thenN ?_
  refine Tr.seq ?_
  refine Tr.region ?_
  refine Tr.q (QS.move rfl) rfl ?_
  refine Tr.q (QS.eql rfl rfl) rfl ?_
  refine Tr.q (QS.move rfl) rfl ?_
  apply Tr.orP
  · exact (rfl : _ = (3, 5, 8))
  · exact rfl
  · intro hF1; have hF1' := hF1
    try simp only [bs] at hF1'
    refine Tr.gq rfl rfl hF1 (QS.move rfl) rfl ?_
    refine Tr.gq rfl rfl hF1 (QS.eql rfl rfl) rfl ?_
    refine Tr.q (QS.pickF rfl hF1 rfl) rfl ?_
    refine Tr.nil (Tr.thenN ?_)
    exact Tr.endX (Sub.cons rfl (Sub.dropN 3 (by kernel_rfl) rfl))
  · intro hT1
    refine Tr.gskip rfl rfl hT1 rfl ?_
    refine Tr.gskip rfl rfl hT1 rfl ?_
    refine Tr.q (QS.pickT rfl hT1 rfl) rfl ?_
    refine Tr.nil (Tr.thenN ?_)
    exact Tr.endX (Sub.cons rfl (Sub.dropN 3 (by kernel_rfl) rfl))
  refine Tr.q (QS.move rfl) rfl ?_
  apply Tr.orP
  · exact (rfl : _ = (3, 9, 12))
  · exact rfl
  · intro hF2; have hF2' := hF2
    try simp only [bs] at hF2'
    refine Tr.gq rfl rfl hF2 (QS.move rfl) rfl ?_
    refine Tr.gq rfl rfl hF2 (QS.eql rfl rfl) rfl ?_
    refine Tr.q (QS.pickF rfl hF2 rfl) rfl ?_
    refine Tr.nil (Tr.thenN ?_)
    exact Tr.endX (Sub.cons rfl (Sub.dropN 3 (by kernel_rfl) rfl))
  · intro hT2
    refine Tr.gskip rfl rfl hT2 rfl ?_
    refine Tr.gskip rfl rfl hT2 rfl ?_
    refine Tr.q (QS.pickT rfl hT2 rfl) rfl ?_
    refine Tr.nil (Tr.thenN ?_)
    exact Tr.endX (Sub.cons rfl (Sub.dropN 3 (by kernel_rfl) rfl))
  refine Tr.q (QS.assign rfl) rfl ?_
  refine Tr.nil ?_
  refine Tr.thenN ?_
  refine Tr.ret ?_
  refine Tr.ret1 Tryz.results136 rfl (fun w' hw => ?_)
  exact ⟨rfl, hw.below (Bg.le.refl _)⟩
set_option maxRecDepth 100000 in
set_option maxHeartbeats 2000000 in
theorem hasA_any (op : Int) (w : World) :
    Calls Tryz.prog 129 #[.int .i64 op] w (fun e w' => e = .returned (.bool (hasAP op)) ∧ Ext w w') := by
  refine enter Tryz.func129 rfl Tryz.ntmps129 rfl ?_
  refine Tr.seq ?_
  refine Tr.region ?_
  refine Tr.q (QS.assign rfl) rfl ?_
  refine Tr.nil ?_
  refine Tr.thenN ?_
  refine Tr.seq ?_
  refine Tr.region ?_
  refine Tr.q (QS.move rfl) rfl ?_
  refine Tr.q (QS.geq rfl rfl) rfl ?_
  refine Tr.q (QS.move rfl) rfl ?_
  apply Tr.andP
  · exact (rfl : _ = (3, 5, 8))
  · exact rfl
  · intro hT1; have hT1' := hT1
    try simp only [bs] at hT1'
    refine Tr.gq rfl rfl hT1 (QS.move rfl) rfl ?_
    refine Tr.gq rfl rfl hT1 (QS.leq rfl rfl) rfl ?_
    refine Tr.q (QS.pickT rfl hT1 rfl) rfl ?_
    refine Tr.nil (Tr.thenN ?_)
    exact Tr.endX (Sub.cons rfl (Sub.dropN 3 (by kernel_rfl) rfl))
  · intro hF1
    refine Tr.gskip rfl rfl hF1 rfl ?_
    refine Tr.gskip rfl rfl hF1 rfl ?_
    refine Tr.q (QS.pickF rfl hF1 rfl) rfl ?_
    refine Tr.nil (Tr.thenN ?_)
    exact Tr.endX (Sub.cons rfl (Sub.dropN 3 (by kernel_rfl) rfl))
  refine Tr.q (QS.move rfl) rfl ?_
  apply Tr.andP
  · exact (rfl : _ = (3, 9, 12))
  · exact rfl
  · intro hT2; have hT2' := hT2
    try simp only [bs] at hT2'
    refine Tr.gq rfl rfl hT2 (QS.move rfl) rfl ?_
    refine Tr.gq rfl rfl hT2 (QS.neq rfl rfl) rfl ?_
    refine Tr.q (QS.pickT rfl hT2 rfl) rfl ?_
    refine Tr.nil (Tr.thenN ?_)
    exact Tr.endX (Sub.cons rfl (Sub.dropN 3 (by kernel_rfl) rfl))
  · intro hF2
    refine Tr.gskip rfl rfl hF2 rfl ?_
    refine Tr.gskip rfl rfl hF2 rfl ?_
    refine Tr.q (QS.pickF rfl hF2 rfl) rfl ?_
    refine Tr.nil (Tr.thenN ?_)
    exact Tr.endX (Sub.cons rfl (Sub.dropN 3 (by kernel_rfl) rfl))
  refine Tr.q (QS.move rfl) rfl ?_
  apply Tr.andP
  · exact (rfl : _ = (3, 13, 16))
  · exact rfl
  · intro hT3; have hT3' := hT3
    try simp only [bs] at hT3'
    refine Tr.gq rfl rfl hT3 (QS.move rfl) rfl ?_
    refine Tr.gq rfl rfl hT3 (QS.neq rfl rfl) rfl ?_
    refine Tr.q (QS.pickT rfl hT3 rfl) rfl ?_
    refine Tr.nil (Tr.thenN ?_)
    exact Tr.endX (Sub.cons rfl (Sub.dropN 3 (by kernel_rfl) rfl))
  · intro hF3
    refine Tr.gskip rfl rfl hF3 rfl ?_
    refine Tr.gskip rfl rfl hF3 rfl ?_
    refine Tr.q (QS.pickF rfl hF3 rfl) rfl ?_
    refine Tr.nil (Tr.thenN ?_)
    exact Tr.endX (Sub.cons rfl (Sub.dropN 3 (by kernel_rfl) rfl))
  refine Tr.q (QS.assign rfl) rfl ?_
  refine Tr.nil ?_
  refine Tr.thenN ?_
  refine Tr.ret ?_
  refine Tr.ret1 Tryz.results129 rfl (fun w' hw => ?_)
  exact ⟨rfl, hw.below (Bg.le.refl _)⟩
set_option maxRecDepth 100000 in
set_option maxHeartbeats 2000000 in
theorem hasB_any (i : Ins) (w : World) :
    Calls Tryz.prog 131 #[.agg (encIns.enc i).toArray] w (fun e w' => e = .returned (.bool (hasBP i)) ∧ Ext w w') := by
  refine enter Tryz.func131 rfl Tryz.ntmps131 rfl ?_
  refine Tr.seq ?_
  refine Tr.region ?_
  refine Tr.box rfl rfl rfl (fun b1 => ?_)
  refine Tr.q (QS.assign rfl) rfl ?_
  refine Tr.nil ?_
  refine Tr.thenN ?_
  refine Tr.seq ?_
  refine Tr.region ?_
  refine Tr.q (QS.fieldAddr (off := 2) (ft := 3) rfl Tryz.underlying35 rfl rfl Tryz.sizeOf3 (by decide)) rfl ?_
  refine Tr.q (QS.lV rfl Tryz.isAgg3) rfl ?_
  refine Tr.q (QS.call rfl Tryz.call135 (fun w hw => isTwo_any i.op w)) rfl ?_
  refine Tr.q (QS.move rfl) rfl ?_
  apply Tr.andP
  · exact (rfl : _ = (4, 6, 10))
  · exact rfl
  · intro hT2; have hT2' := hT2
    try simp only [bs] at hT2'
    refine Tr.gq rfl rfl hT2 (QS.fieldAddr (off := 3) (ft := 3) rfl Tryz.underlying35 rfl rfl Tryz.sizeOf3 (by decide)) rfl ?_
    refine Tr.gq rfl rfl hT2 (QS.lV rfl Tryz.isAgg3) rfl ?_
    refine Tr.gq rfl rfl hT2 (QS.eql rfl rfl) rfl ?_
    refine Tr.q (QS.pickT rfl hT2 rfl) rfl ?_
    refine Tr.nil (Tr.thenN ?_)
    exact Tr.endX (Sub.cons rfl (Sub.dropN 4 (by kernel_rfl) rfl))
  · intro hF2
    refine Tr.gskip rfl rfl hF2 rfl ?_
    refine Tr.gskip rfl rfl hF2 rfl ?_
    refine Tr.gskip rfl rfl hF2 rfl ?_
    refine Tr.q (QS.pickF rfl hF2 rfl) rfl ?_
    refine Tr.nil (Tr.thenN ?_)
    exact Tr.endX (Sub.cons rfl (Sub.dropN 4 (by kernel_rfl) rfl))
  refine Tr.q (QS.move rfl) rfl ?_
  apply Tr.orP
  · exact (rfl : _ = (4, 11, 15))
  · exact rfl
  · intro hF3; have hF3' := hF3
    try simp only [bs] at hF3'
    refine Tr.gq rfl rfl hF3 (QS.fieldAddr (off := 2) (ft := 3) rfl Tryz.underlying35 rfl rfl Tryz.sizeOf3 (by decide)) rfl ?_
    refine Tr.gq rfl rfl hF3 (QS.lV rfl Tryz.isAgg3) rfl ?_
    refine Tr.gq rfl rfl hF3 (QS.call rfl Tryz.call136 (fun w hw => isAccess_any i.op w)) rfl ?_
    refine Tr.q (QS.pickF rfl hF3 rfl) rfl ?_
    refine Tr.nil (Tr.thenN ?_)
    exact Tr.endX (Sub.cons rfl (Sub.dropN 4 (by kernel_rfl) rfl))
  · intro hT3
    refine Tr.gskip rfl rfl hT3 rfl ?_
    refine Tr.gskip rfl rfl hT3 rfl ?_
    refine Tr.gskip rfl rfl hT3 rfl ?_
    refine Tr.q (QS.pickT rfl hT3 rfl) rfl ?_
    refine Tr.nil (Tr.thenN ?_)
    exact Tr.endX (Sub.cons rfl (Sub.dropN 4 (by kernel_rfl) rfl))
  refine Tr.q (QS.move rfl) rfl ?_
  apply Tr.orP
  · exact (rfl : _ = (4, 16, 20))
  · exact rfl
  · intro hF4; have hF4' := hF4
    try simp only [bs] at hF4'
    refine Tr.gq rfl rfl hF4 (QS.fieldAddr (off := 2) (ft := 3) rfl Tryz.underlying35 rfl rfl Tryz.sizeOf3 (by decide)) rfl ?_
    refine Tr.gq rfl rfl hF4 (QS.lV rfl Tryz.isAgg3) rfl ?_
    refine Tr.gq rfl rfl hF4 (QS.eql rfl rfl) rfl ?_
    refine Tr.q (QS.pickF rfl hF4 rfl) rfl ?_
    refine Tr.nil (Tr.thenN ?_)
    exact Tr.endX (Sub.cons rfl (Sub.dropN 4 (by kernel_rfl) rfl))
  · intro hT4
    refine Tr.gskip rfl rfl hT4 rfl ?_
    refine Tr.gskip rfl rfl hT4 rfl ?_
    refine Tr.gskip rfl rfl hT4 rfl ?_
    refine Tr.q (QS.pickT rfl hT4 rfl) rfl ?_
    refine Tr.nil (Tr.thenN ?_)
    exact Tr.endX (Sub.cons rfl (Sub.dropN 4 (by kernel_rfl) rfl))
  refine Tr.q (QS.assign rfl) rfl ?_
  refine Tr.nil ?_
  refine Tr.thenN ?_
  refine Tr.ret ?_
  refine Tr.ret1 Tryz.results131 rfl (fun w' hw => ?_)
  exact ⟨rfl, hw.below (Bg.le.refl _)⟩
set_option maxRecDepth 100000 in
set_option maxHeartbeats 2000000 in
theorem hasImm_any (i : Ins) (w : World) :
    Calls Tryz.prog 134 #[.agg (encIns.enc i).toArray] w (fun e w' => e = .returned (.bool (hasImmP i)) ∧ Ext w w') := by
  refine enter Tryz.func134 rfl Tryz.ntmps134 rfl ?_
  refine Tr.seq ?_
  refine Tr.region ?_
  refine Tr.box rfl rfl rfl (fun b1 => ?_)
  refine Tr.q (QS.assign rfl) rfl ?_
  refine Tr.nil ?_
  refine Tr.thenN ?_
  refine Tr.seq ?_
  refine Tr.region ?_
  refine Tr.q (QS.fieldAddr (off := 2) (ft := 3) rfl Tryz.underlying35 rfl rfl Tryz.sizeOf3 (by decide)) rfl ?_
  refine Tr.q (QS.lV rfl Tryz.isAgg3) rfl ?_
  refine Tr.q (QS.call rfl Tryz.call135 (fun w hw => isTwo_any i.op w)) rfl ?_
  refine Tr.q (QS.move rfl) rfl ?_
  apply Tr.andP
  · exact (rfl : _ = (4, 6, 10))
  · exact rfl
  · intro hT2; have hT2' := hT2
    try simp only [bs] at hT2'
    refine Tr.gq rfl rfl hT2 (QS.fieldAddr (off := 3) (ft := 3) rfl Tryz.underlying35 rfl rfl Tryz.sizeOf3 (by decide)) rfl ?_
    refine Tr.gq rfl rfl hT2 (QS.lV rfl Tryz.isAgg3) rfl ?_
    refine Tr.gq rfl rfl hT2 (QS.neq rfl rfl) rfl ?_
    refine Tr.q (QS.pickT rfl hT2 rfl) rfl ?_
    refine Tr.nil (Tr.thenN ?_)
    exact Tr.endX (Sub.cons rfl (Sub.dropN 4 (by kernel_rfl) rfl))
  · intro hF2
    refine Tr.gskip rfl rfl hF2 rfl ?_
    refine Tr.gskip rfl rfl hF2 rfl ?_
    refine Tr.gskip rfl rfl hF2 rfl ?_
    refine Tr.q (QS.pickF rfl hF2 rfl) rfl ?_
    refine Tr.nil (Tr.thenN ?_)
    exact Tr.endX (Sub.cons rfl (Sub.dropN 4 (by kernel_rfl) rfl))
  refine Tr.q (QS.move rfl) rfl ?_
  apply Tr.orP
  · exact (rfl : _ = (4, 11, 15))
  · exact rfl
  · intro hF3; have hF3' := hF3
    try simp only [bs] at hF3'
    refine Tr.gq rfl rfl hF3 (QS.fieldAddr (off := 2) (ft := 3) rfl Tryz.underlying35 rfl rfl Tryz.sizeOf3 (by decide)) rfl ?_
    refine Tr.gq rfl rfl hF3 (QS.lV rfl Tryz.isAgg3) rfl ?_
    refine Tr.gq rfl rfl hF3 (QS.call rfl Tryz.call136 (fun w hw => isAccess_any i.op w)) rfl ?_
    refine Tr.q (QS.pickF rfl hF3 rfl) rfl ?_
    refine Tr.nil (Tr.thenN ?_)
    exact Tr.endX (Sub.cons rfl (Sub.dropN 4 (by kernel_rfl) rfl))
  · intro hT3
    refine Tr.gskip rfl rfl hT3 rfl ?_
    refine Tr.gskip rfl rfl hT3 rfl ?_
    refine Tr.gskip rfl rfl hT3 rfl ?_
    refine Tr.q (QS.pickT rfl hT3 rfl) rfl ?_
    refine Tr.nil (Tr.thenN ?_)
    exact Tr.endX (Sub.cons rfl (Sub.dropN 4 (by kernel_rfl) rfl))
  refine Tr.q (QS.move rfl) rfl ?_
  apply Tr.orP
  · exact (rfl : _ = (4, 16, 20))
  · exact rfl
  · intro hF4; have hF4' := hF4
    try simp only [bs] at hF4'
    refine Tr.gq rfl rfl hF4 (QS.fieldAddr (off := 2) (ft := 3) rfl Tryz.underlying35 rfl rfl Tryz.sizeOf3 (by decide)) rfl ?_
    refine Tr.gq rfl rfl hF4 (QS.lV rfl Tryz.isAgg3) rfl ?_
    refine Tr.gq rfl rfl hF4 (QS.eql rfl rfl) rfl ?_
    refine Tr.q (QS.pickF rfl hF4 rfl) rfl ?_
    refine Tr.nil (Tr.thenN ?_)
    exact Tr.endX (Sub.cons rfl (Sub.dropN 4 (by kernel_rfl) rfl))
  · intro hT4
    refine Tr.gskip rfl rfl hT4 rfl ?_
    refine Tr.gskip rfl rfl hT4 rfl ?_
    refine Tr.gskip rfl rfl hT4 rfl ?_
    refine Tr.q (QS.pickT rfl hT4 rfl) rfl ?_
    refine Tr.nil (Tr.thenN ?_)
    exact Tr.endX (Sub.cons rfl (Sub.dropN 4 (by kernel_rfl) rfl))
  refine Tr.q (QS.move rfl) rfl ?_
  apply Tr.orP
  · exact (rfl : _ = (4, 21, 25))
  · exact rfl
  · intro hF5; have hF5' := hF5
    try simp only [bs] at hF5'
    refine Tr.gq rfl rfl hF5 (QS.fieldAddr (off := 2) (ft := 3) rfl Tryz.underlying35 rfl rfl Tryz.sizeOf3 (by decide)) rfl ?_
    refine Tr.gq rfl rfl hF5 (QS.lV rfl Tryz.isAgg3) rfl ?_
    refine Tr.gq rfl rfl hF5 (QS.eql rfl rfl) rfl ?_
    refine Tr.q (QS.pickF rfl hF5 rfl) rfl ?_
    refine Tr.nil (Tr.thenN ?_)
    exact Tr.endX (Sub.cons rfl (Sub.dropN 4 (by kernel_rfl) rfl))
  · intro hT5
    refine Tr.gskip rfl rfl hT5 rfl ?_
    refine Tr.gskip rfl rfl hT5 rfl ?_
    refine Tr.gskip rfl rfl hT5 rfl ?_
    refine Tr.q (QS.pickT rfl hT5 rfl) rfl ?_
    refine Tr.nil (Tr.thenN ?_)
    exact Tr.endX (Sub.cons rfl (Sub.dropN 4 (by kernel_rfl) rfl))
  refine Tr.q (QS.move rfl) rfl ?_
  apply Tr.orP
  · exact (rfl : _ = (4, 26, 30))
  · exact rfl
  · intro hF6; have hF6' := hF6
    try simp only [bs] at hF6'
    refine Tr.gq rfl rfl hF6 (QS.fieldAddr (off := 2) (ft := 3) rfl Tryz.underlying35 rfl rfl Tryz.sizeOf3 (by decide)) rfl ?_
    refine Tr.gq rfl rfl hF6 (QS.lV rfl Tryz.isAgg3) rfl ?_
    refine Tr.gq rfl rfl hF6 (QS.eql rfl rfl) rfl ?_
    refine Tr.q (QS.pickF rfl hF6 rfl) rfl ?_
    refine Tr.nil (Tr.thenN ?_)
    exact Tr.endX (Sub.cons rfl (Sub.dropN 4 (by kernel_rfl) rfl))
  · intro hT6
    refine Tr.gskip rfl rfl hT6 rfl ?_
    refine Tr.gskip rfl rfl hT6 rfl ?_
    refine Tr.gskip rfl rfl hT6 rfl ?_
    refine Tr.q (QS.pickT rfl hT6 rfl) rfl ?_
    refine Tr.nil (Tr.thenN ?_)
    exact Tr.endX (Sub.cons rfl (Sub.dropN 4 (by kernel_rfl) rfl))
  refine Tr.q (QS.move rfl) rfl ?_
  apply Tr.orP
  · exact (rfl : _ = (4, 31, 35))
  · exact rfl
  · intro hF7; have hF7' := hF7
    try simp only [bs] at hF7'
    refine Tr.gq rfl rfl hF7 (QS.fieldAddr (off := 2) (ft := 3) rfl Tryz.underlying35 rfl rfl Tryz.sizeOf3 (by decide)) rfl ?_
    refine Tr.gq rfl rfl hF7 (QS.lV rfl Tryz.isAgg3) rfl ?_
    refine Tr.gq rfl rfl hF7 (QS.eql rfl rfl) rfl ?_
    refine Tr.q (QS.pickF rfl hF7 rfl) rfl ?_
    refine Tr.nil (Tr.thenN ?_)
    exact Tr.endX (Sub.cons rfl (Sub.dropN 4 (by kernel_rfl) rfl))
  · intro hT7
    refine Tr.gskip rfl rfl hT7 rfl ?_
    refine Tr.gskip rfl rfl hT7 rfl ?_
    refine Tr.gskip rfl rfl hT7 rfl ?_
    refine Tr.q (QS.pickT rfl hT7 rfl) rfl ?_
    refine Tr.nil (Tr.thenN ?_)
    exact Tr.endX (Sub.cons rfl (Sub.dropN 4 (by kernel_rfl) rfl))
  refine Tr.q (QS.assign rfl) rfl ?_
  refine Tr.nil ?_
  refine Tr.thenN ?_
  refine Tr.ret ?_
  refine Tr.ret1 Tryz.results134 rfl (fun w' hw => ?_)
  exact ⟨rfl, hw.below (Bg.le.refl _)⟩
set_option maxRecDepth 100000 in
set_option maxHeartbeats 2000000 in
theorem hasCc_any (op : Int) (w : World) :
    Calls Tryz.prog 132 #[.int .i64 op] w (fun e w' => e = .returned (.bool (hasCcP op)) ∧ Ext w w') := by
  refine enter Tryz.func132 rfl Tryz.ntmps132 rfl ?_
  refine Tr.seq ?_
  refine Tr.region ?_
  refine Tr.q (QS.assign rfl) rfl ?_
  refine Tr.nil ?_
  refine Tr.thenN ?_
  refine Tr.seq ?_
  refine Tr.region ?_
  refine Tr.q (QS.move rfl) rfl ?_
  refine Tr.q (QS.eql rfl rfl) rfl ?_
  refine Tr.q (QS.move rfl) rfl ?_
  apply Tr.orP
  · exact (rfl : _ = (3, 5, 8))
  · exact rfl
  · intro hF1; have hF1' := hF1
    try simp only [bs] at hF1'
    refine Tr.gq rfl rfl hF1 (QS.move rfl) rfl ?_
    refine Tr.gq rfl rfl hF1 (QS.eql rfl rfl) rfl ?_
    refine Tr.q (QS.pickF rfl hF1 rfl) rfl ?_
    refine Tr.nil (Tr.thenN ?_)
    exact Tr.endX (Sub.cons rfl (Sub.dropN 3 (by kernel_rfl) rfl))
  · intro hT1
    refine Tr.gskip rfl rfl hT1 rfl ?_
    refine Tr.gskip rfl rfl hT1 rfl ?_
    refine Tr.q (QS.pickT rfl hT1 rfl) rfl ?_
    refine Tr.nil (Tr.thenN ?_)
    exact Tr.endX (Sub.cons rfl (Sub.dropN 3 (by kernel_rfl) rfl))
  refine Tr.q (QS.assign rfl) rfl ?_
  refine Tr.nil ?_
  refine Tr.thenN ?_
  refine Tr.ret ?_
  refine Tr.ret1 Tryz.results132 rfl (fun w' hw => ?_)
  exact ⟨rfl, hw.below (Bg.le.refl _)⟩
set_option maxRecDepth 100000 in
set_option maxHeartbeats 2000000 in
theorem formValid_any (i : Ins) (w : World) :
    Calls Tryz.prog 127 #[.agg (encIns.enc i).toArray] w (fun e w' => e = .returned (.bool (formValidP i)) ∧ Ext w w') := by
  refine enter Tryz.func127 rfl Tryz.ntmps127 rfl ?_
  refine Tr.seq ?_
  refine Tr.region ?_
  refine Tr.box rfl rfl rfl (fun b1 => ?_)
  refine Tr.q (QS.assign rfl) rfl ?_
  refine Tr.nil ?_
  refine Tr.thenN ?_
  refine Tr.seq ?_
  refine Tr.seq ?_
  refine Tr.region ?_
  refine Tr.q (QS.fieldAddr (off := 2) (ft := 3) rfl Tryz.underlying35 rfl rfl Tryz.sizeOf3 (by decide)) rfl ?_
  refine Tr.q (QS.lV rfl Tryz.isAgg3) rfl ?_
  refine Tr.q (QS.call rfl Tryz.call135 (fun w hw => isTwo_any i.op w)) rfl ?_
  refine Tr.nil ?_
  refine Tr.thenN ?_
  refine Tr.cond rfl (fun h2 => ?_) (fun h2 => ?_)
  · try simp only [bs] at h2
    refine Tr.seq ?_
    refine Tr.region ?_
    refine Tr.q (QS.fieldAddr (off := 3) (ft := 3) rfl Tryz.underlying35 rfl rfl Tryz.sizeOf3 (by decide)) rfl ?_
    refine Tr.q (QS.lV rfl Tryz.isAgg3) rfl ?_
    refine Tr.q (QS.geq rfl rfl) rfl ?_
    refine Tr.q (QS.move rfl) rfl ?_
    apply Tr.andP
    · exact (rfl : _ = (4, 9, 13))
    · exact rfl
    · intro hT3; have hT3' := hT3
      try simp only [bs] at hT3'
      refine Tr.gq rfl rfl hT3 (QS.fieldAddr (off := 3) (ft := 3) rfl Tryz.underlying35 rfl rfl Tryz.sizeOf3 (by decide)) rfl ?_
      refine Tr.gq rfl rfl hT3 (QS.lV rfl Tryz.isAgg3) rfl ?_
      refine Tr.gq rfl rfl hT3 (QS.leq rfl rfl) rfl ?_
      refine Tr.q (QS.pickT rfl hT3 rfl) rfl ?_
      refine Tr.nil (Tr.thenN ?_)
      exact Tr.endX (Sub.cons rfl (Sub.dropN 4 (by kernel_rfl) rfl))
    · intro hF3
      refine Tr.gskip rfl rfl hF3 rfl ?_
      refine Tr.gskip rfl rfl hF3 rfl ?_
      refine Tr.gskip rfl rfl hF3 rfl ?_
      refine Tr.q (QS.pickF rfl hF3 rfl) rfl ?_
      refine Tr.nil (Tr.thenN ?_)
      exact Tr.endX (Sub.cons rfl (Sub.dropN 4 (by kernel_rfl) rfl))
    refine Tr.q (QS.assign rfl) rfl ?_
    refine Tr.nil ?_
    refine Tr.thenN ?_
    refine Tr.ret ?_
    refine Tr.thenR ?_
    refine Tr.ret1 Tryz.results127 rfl (fun w' hw => ?_)
    exact ⟨by clear hw; unfold formValidP; (repeat (first | rw [if_pos (by first | assumption | omega | grind)] | rw [if_neg (by first | assumption | omega | grind)])) <;> rfl, hw.below (Bg.le.refl _)⟩
  · try simp only [bs] at h2
    refine Tr.skip ?_
    refine Tr.thenN ?_
    refine Tr.seq ?_
    refine Tr.seq ?_
    refine Tr.region ?_
    refine Tr.q (QS.fieldAddr (off := 2) (ft := 3) rfl Tryz.underlying35 rfl rfl Tryz.sizeOf3 (by decide)) rfl ?_
    refine Tr.q (QS.lV rfl Tryz.isAgg3) rfl ?_
    refine Tr.q (QS.eql rfl rfl) rfl ?_
    refine Tr.nil ?_
    refine Tr.thenN ?_
    refine Tr.cond rfl (fun h4 => ?_) (fun h4 => ?_)
    · try simp only [bs] at h4
      refine Tr.seq ?_
      refine Tr.region ?_
      refine Tr.q (QS.fieldAddr (off := 3) (ft := 3) rfl Tryz.underlying35 rfl rfl Tryz.sizeOf3 (by decide)) rfl ?_
      refine Tr.q (QS.lV rfl Tryz.isAgg3) rfl ?_
      refine Tr.q (QS.eql rfl rfl) rfl ?_
      refine Tr.q (QS.move rfl) rfl ?_
      apply Tr.orP
      · exact (rfl : _ = (4, 20, 24))
      · exact rfl
      · intro hF5; have hF5' := hF5
        try simp only [bs] at hF5'
        refine Tr.gq rfl rfl hF5 (QS.fieldAddr (off := 3) (ft := 3) rfl Tryz.underlying35 rfl rfl Tryz.sizeOf3 (by decide)) rfl ?_
        refine Tr.gq rfl rfl hF5 (QS.lV rfl Tryz.isAgg3) rfl ?_
        refine Tr.gq rfl rfl hF5 (QS.eql rfl rfl) rfl ?_
        refine Tr.q (QS.pickF rfl hF5 rfl) rfl ?_
        refine Tr.nil (Tr.thenN ?_)
        exact Tr.endX (Sub.cons rfl (Sub.dropN 4 (by kernel_rfl) rfl))
      · intro hT5
        refine Tr.gskip rfl rfl hT5 rfl ?_
        refine Tr.gskip rfl rfl hT5 rfl ?_
        refine Tr.gskip rfl rfl hT5 rfl ?_
        refine Tr.q (QS.pickT rfl hT5 rfl) rfl ?_
        refine Tr.nil (Tr.thenN ?_)
        exact Tr.endX (Sub.cons rfl (Sub.dropN 4 (by kernel_rfl) rfl))
      refine Tr.q (QS.assign rfl) rfl ?_
      refine Tr.nil ?_
      refine Tr.thenN ?_
      refine Tr.ret ?_
      refine Tr.thenR ?_
      refine Tr.ret1 Tryz.results127 rfl (fun w' hw => ?_)
      exact ⟨by clear hw; unfold formValidP; (repeat (first | rw [if_pos (by first | assumption | omega | grind)] | rw [if_neg (by first | assumption | omega | grind)])) <;> rfl, hw.below (Bg.le.refl _)⟩
    · try simp only [bs] at h4
      refine Tr.skip ?_
      refine Tr.thenN ?_
      refine Tr.seq ?_
      refine Tr.region ?_
      refine Tr.q (QS.fieldAddr (off := 3) (ft := 3) rfl Tryz.underlying35 rfl rfl Tryz.sizeOf3 (by decide)) rfl ?_
      refine Tr.q (QS.lV rfl Tryz.isAgg3) rfl ?_
      refine Tr.q (QS.eql rfl rfl) rfl ?_
      refine Tr.q (QS.assign rfl) rfl ?_
      refine Tr.nil ?_
      refine Tr.thenN ?_
      refine Tr.ret ?_
      refine Tr.ret1 Tryz.results127 rfl (fun w' hw => ?_)
      exact ⟨by clear hw; unfold formValidP; (repeat (first | rw [if_pos (by first | assumption | omega | grind)] | rw [if_neg (by first | assumption | omega | grind)])) <;> rfl, hw.below (Bg.le.refl _)⟩
set_option maxRecDepth 100000 in
set_option maxHeartbeats 2000000 in
theorem widthValid_any (i : Ins) (w : World) :
    Calls Tryz.prog 128 #[.agg (encIns.enc i).toArray] w (fun e w' => e = .returned (.bool (widthValidP i)) ∧ Ext w w') := by
  refine enter Tryz.func128 rfl Tryz.ntmps128 rfl ?_
  refine Tr.seq ?_
  refine Tr.region ?_
  refine Tr.box rfl rfl rfl (fun b1 => ?_)
  refine Tr.q (QS.assign rfl) rfl ?_
  refine Tr.nil ?_
  refine Tr.thenN ?_
  refine Tr.seq ?_
  refine Tr.seq ?_
  refine Tr.region ?_
  refine Tr.q (QS.fieldAddr (off := 2) (ft := 3) rfl Tryz.underlying35 rfl rfl Tryz.sizeOf3 (by decide)) rfl ?_
  refine Tr.q (QS.lV rfl Tryz.isAgg3) rfl ?_
  refine Tr.q (QS.eql rfl rfl) rfl ?_
  refine Tr.nil ?_
  refine Tr.thenN ?_
  refine Tr.cond rfl (fun h2 => ?_) (fun h2 => ?_)
  · try simp only [bs] at h2
    refine Tr.seq ?_
    refine Tr.region ?_
    refine Tr.q (QS.fieldAddr (off := 4) (ft := 3) rfl Tryz.underlying35 rfl rfl Tryz.sizeOf3 (by decide)) rfl ?_
    refine Tr.q (QS.lV rfl Tryz.isAgg3) rfl ?_
    refine Tr.q (QS.eql rfl rfl) rfl ?_
    refine Tr.q (QS.move rfl) rfl ?_
    apply Tr.orP
    · exact (rfl : _ = (4, 9, 13))
    · exact rfl
    · intro hF3; have hF3' := hF3
      try simp only [bs] at hF3'
      refine Tr.gq rfl rfl hF3 (QS.fieldAddr (off := 4) (ft := 3) rfl Tryz.underlying35 rfl rfl Tryz.sizeOf3 (by decide)) rfl ?_
      refine Tr.gq rfl rfl hF3 (QS.lV rfl Tryz.isAgg3) rfl ?_
      refine Tr.gq rfl rfl hF3 (QS.eql rfl rfl) rfl ?_
      refine Tr.q (QS.pickF rfl hF3 rfl) rfl ?_
      refine Tr.nil (Tr.thenN ?_)
      exact Tr.endX (Sub.cons rfl (Sub.dropN 4 (by kernel_rfl) rfl))
    · intro hT3
      refine Tr.gskip rfl rfl hT3 rfl ?_
      refine Tr.gskip rfl rfl hT3 rfl ?_
      refine Tr.gskip rfl rfl hT3 rfl ?_
      refine Tr.q (QS.pickT rfl hT3 rfl) rfl ?_
      refine Tr.nil (Tr.thenN ?_)
      exact Tr.endX (Sub.cons rfl (Sub.dropN 4 (by kernel_rfl) rfl))
    refine Tr.q (QS.assign rfl) rfl ?_
    refine Tr.nil ?_
    refine Tr.thenN ?_
    refine Tr.ret ?_
    refine Tr.thenR ?_
    refine Tr.ret1 Tryz.results128 rfl (fun w' hw => ?_)
    exact ⟨by clear hw; unfold widthValidP; (repeat (first | rw [if_pos (by first | assumption | omega | grind)] | rw [if_neg (by first | assumption | omega | grind)])) <;> rfl, hw.below (Bg.le.refl _)⟩
  · try simp only [bs] at h2
    refine Tr.skip ?_
    refine Tr.thenN ?_
    refine Tr.seq ?_
    refine Tr.seq ?_
    refine Tr.region ?_
    refine Tr.q (QS.fieldAddr (off := 2) (ft := 3) rfl Tryz.underlying35 rfl rfl Tryz.sizeOf3 (by decide)) rfl ?_
    refine Tr.q (QS.lV rfl Tryz.isAgg3) rfl ?_
    refine Tr.q (QS.call rfl Tryz.call136 (fun w hw => isAccess_any i.op w)) rfl ?_
    refine Tr.nil ?_
    refine Tr.thenN ?_
    refine Tr.cond rfl (fun h4 => ?_) (fun h4 => ?_)
    · try simp only [bs] at h4
      refine Tr.seq ?_
      refine Tr.region ?_
      refine Tr.q (QS.fieldAddr (off := 4) (ft := 3) rfl Tryz.underlying35 rfl rfl Tryz.sizeOf3 (by decide)) rfl ?_
      refine Tr.q (QS.lV rfl Tryz.isAgg3) rfl ?_
      refine Tr.q (QS.eql rfl rfl) rfl ?_
      refine Tr.q (QS.move rfl) rfl ?_
      apply Tr.orP
      · exact (rfl : _ = (4, 20, 24))
      · exact rfl
      · intro hF5; have hF5' := hF5
        try simp only [bs] at hF5'
        refine Tr.gq rfl rfl hF5 (QS.fieldAddr (off := 4) (ft := 3) rfl Tryz.underlying35 rfl rfl Tryz.sizeOf3 (by decide)) rfl ?_
        refine Tr.gq rfl rfl hF5 (QS.lV rfl Tryz.isAgg3) rfl ?_
        refine Tr.gq rfl rfl hF5 (QS.eql rfl rfl) rfl ?_
        refine Tr.q (QS.pickF rfl hF5 rfl) rfl ?_
        refine Tr.nil (Tr.thenN ?_)
        exact Tr.endX (Sub.cons rfl (Sub.dropN 4 (by kernel_rfl) rfl))
      · intro hT5
        refine Tr.gskip rfl rfl hT5 rfl ?_
        refine Tr.gskip rfl rfl hT5 rfl ?_
        refine Tr.gskip rfl rfl hT5 rfl ?_
        refine Tr.q (QS.pickT rfl hT5 rfl) rfl ?_
        refine Tr.nil (Tr.thenN ?_)
        exact Tr.endX (Sub.cons rfl (Sub.dropN 4 (by kernel_rfl) rfl))
      refine Tr.q (QS.move rfl) rfl ?_
      apply Tr.orP
      · exact (rfl : _ = (4, 25, 29))
      · exact rfl
      · intro hF6; have hF6' := hF6
        try simp only [bs] at hF6'
        refine Tr.gq rfl rfl hF6 (QS.fieldAddr (off := 4) (ft := 3) rfl Tryz.underlying35 rfl rfl Tryz.sizeOf3 (by decide)) rfl ?_
        refine Tr.gq rfl rfl hF6 (QS.lV rfl Tryz.isAgg3) rfl ?_
        refine Tr.gq rfl rfl hF6 (QS.eql rfl rfl) rfl ?_
        refine Tr.q (QS.pickF rfl hF6 rfl) rfl ?_
        refine Tr.nil (Tr.thenN ?_)
        exact Tr.endX (Sub.cons rfl (Sub.dropN 4 (by kernel_rfl) rfl))
      · intro hT6
        refine Tr.gskip rfl rfl hT6 rfl ?_
        refine Tr.gskip rfl rfl hT6 rfl ?_
        refine Tr.gskip rfl rfl hT6 rfl ?_
        refine Tr.q (QS.pickT rfl hT6 rfl) rfl ?_
        refine Tr.nil (Tr.thenN ?_)
        exact Tr.endX (Sub.cons rfl (Sub.dropN 4 (by kernel_rfl) rfl))
      refine Tr.q (QS.assign rfl) rfl ?_
      refine Tr.nil ?_
      refine Tr.thenN ?_
      refine Tr.ret ?_
      refine Tr.thenR ?_
      refine Tr.ret1 Tryz.results128 rfl (fun w' hw => ?_)
      exact ⟨by clear hw; unfold widthValidP; (repeat (first | rw [if_pos (by first | assumption | omega | grind)] | rw [if_neg (by first | assumption | omega | grind)])) <;> rfl, hw.below (Bg.le.refl _)⟩
    · try simp only [bs] at h4
      refine Tr.skip ?_
      refine Tr.thenN ?_
      refine Tr.seq ?_
      refine Tr.region ?_
      refine Tr.q (QS.fieldAddr (off := 4) (ft := 3) rfl Tryz.underlying35 rfl rfl Tryz.sizeOf3 (by decide)) rfl ?_
      refine Tr.q (QS.lV rfl Tryz.isAgg3) rfl ?_
      refine Tr.q (QS.eql rfl rfl) rfl ?_
      refine Tr.q (QS.assign rfl) rfl ?_
      refine Tr.nil ?_
      refine Tr.thenN ?_
      refine Tr.ret ?_
      refine Tr.ret1 Tryz.results128 rfl (fun w' hw => ?_)
      exact ⟨by clear hw; unfold widthValidP; (repeat (first | rw [if_pos (by first | assumption | omega | grind)] | rw [if_neg (by first | assumption | omega | grind)])) <;> rfl, hw.below (Bg.le.refl _)⟩
set_option maxRecDepth 100000 in
set_option maxHeartbeats 2000000 in
theorem refCheck_any (i : Ins) (w : World) :
    Calls Tryz.prog 113 #[.agg (encIns.enc i).toArray] w (fun e w' => e = .returned (.int .i64 (refErrP i)) ∧ Ext w w') := by
  refine enter Tryz.func113 rfl Tryz.ntmps113 rfl ?_
  refine Tr.seq ?_
  refine Tr.region ?_
  refine Tr.box rfl rfl rfl (fun b1 => ?_)
  refine Tr.q (QS.assign rfl) rfl ?_
  refine Tr.nil ?_
  refine Tr.thenN ?_
  refine Tr.seq ?_
  refine Tr.seq ?_
  refine Tr.region ?_
  refine Tr.q (QS.fieldAddr (off := 2) (ft := 3) rfl Tryz.underlying35 rfl rfl Tryz.sizeOf3 (by decide)) rfl ?_
  refine Tr.q (QS.lV rfl Tryz.isAgg3) rfl ?_
  refine Tr.q (QS.lss rfl rfl) rfl ?_
  refine Tr.q (QS.move rfl) rfl ?_
  apply Tr.orP
  · exact (rfl : _ = (4, 6, 10))
  · exact rfl
  · intro hF2; have hF2' := hF2
    try simp only [bs] at hF2'
    refine Tr.gq rfl rfl hF2 (QS.fieldAddr (off := 2) (ft := 3) rfl Tryz.underlying35 rfl rfl Tryz.sizeOf3 (by decide)) rfl ?_
    refine Tr.gq rfl rfl hF2 (QS.lV rfl Tryz.isAgg3) rfl ?_
    refine Tr.gq rfl rfl hF2 (QS.gtr rfl rfl) rfl ?_
    refine Tr.q (QS.pickF rfl hF2 rfl) rfl ?_
    refine Tr.nil (Tr.thenN ?_)
    exact Tr.endX (Sub.cons rfl (Sub.dropN 4 (by kernel_rfl) rfl))
  · intro hT2
    refine Tr.gskip rfl rfl hT2 rfl ?_
    refine Tr.gskip rfl rfl hT2 rfl ?_
    refine Tr.gskip rfl rfl hT2 rfl ?_
    refine Tr.q (QS.pickT rfl hT2 rfl) rfl ?_
    refine Tr.nil (Tr.thenN ?_)
    exact Tr.endX (Sub.cons rfl (Sub.dropN 4 (by kernel_rfl) rfl))
  refine Tr.q (QS.move rfl) rfl ?_
  apply Tr.orP
  · exact (rfl : _ = (4, 11, 15))
  · exact rfl
  · intro hF3; have hF3' := hF3
    try simp only [bs] at hF3'
    refine Tr.gq rfl rfl hF3 (QS.lW rfl Tryz.isAgg35 Tryz.sizeOf35) rfl ?_
    refine Tr.gq rfl rfl hF3 (QS.call rfl Tryz.call127 (fun w hw => formValid_any i w)) rfl ?_
    refine Tr.gq rfl rfl hF3 (QS.not rfl) rfl ?_
    refine Tr.q (QS.pickF rfl hF3 rfl) rfl ?_
    refine Tr.nil (Tr.thenN ?_)
    exact Tr.endX (Sub.cons rfl (Sub.dropN 4 (by kernel_rfl) rfl))
  · intro hT3
    refine Tr.gskip rfl rfl hT3 rfl ?_
    refine Tr.gskip rfl rfl hT3 rfl ?_
    refine Tr.gskip rfl rfl hT3 rfl ?_
    refine Tr.q (QS.pickT rfl hT3 rfl) rfl ?_
    refine Tr.nil (Tr.thenN ?_)
    exact Tr.endX (Sub.cons rfl (Sub.dropN 4 (by kernel_rfl) rfl))
  refine Tr.q (QS.move rfl) rfl ?_
  apply Tr.orP
  · exact (rfl : _ = (4, 16, 20))
  · exact rfl
  · intro hF4; have hF4' := hF4
    try simp only [bs] at hF4'
    refine Tr.gq rfl rfl hF4 (QS.lW rfl Tryz.isAgg35 Tryz.sizeOf35) rfl ?_
    refine Tr.gq rfl rfl hF4 (QS.call rfl Tryz.call128 (fun w hw => widthValid_any i w)) rfl ?_
    refine Tr.gq rfl rfl hF4 (QS.not rfl) rfl ?_
    refine Tr.q (QS.pickF rfl hF4 rfl) rfl ?_
    refine Tr.nil (Tr.thenN ?_)
    exact Tr.endX (Sub.cons rfl (Sub.dropN 4 (by kernel_rfl) rfl))
  · intro hT4
    refine Tr.gskip rfl rfl hT4 rfl ?_
    refine Tr.gskip rfl rfl hT4 rfl ?_
    refine Tr.gskip rfl rfl hT4 rfl ?_
    refine Tr.q (QS.pickT rfl hT4 rfl) rfl ?_
    refine Tr.nil (Tr.thenN ?_)
    exact Tr.endX (Sub.cons rfl (Sub.dropN 4 (by kernel_rfl) rfl))
  refine Tr.nil ?_
  refine Tr.thenN ?_
  refine Tr.cond rfl (fun h5 => ?_) (fun h5 => ?_)
  · try simp only [bs] at h5
    refine Tr.seq ?_
    refine Tr.region ?_
    refine Tr.q (QS.assign rfl) rfl ?_
    refine Tr.nil ?_
    refine Tr.thenN ?_
    refine Tr.ret ?_
    refine Tr.thenR ?_
    refine Tr.ret1 Tryz.results113 rfl (fun w' hw => ?_)
    exact ⟨by clear hw; unfold refErrP; (repeat (first | rw [if_pos (by first | assumption | omega | grind)] | rw [if_neg (by first | assumption | omega | grind)])) <;> rfl, hw.below (Bg.le.refl _)⟩
  · try simp only [bs] at h5
    refine Tr.skip ?_
    refine Tr.thenN ?_
    refine Tr.seq ?_
    refine Tr.seq ?_
    refine Tr.region ?_
    refine Tr.q (QS.fieldAddr (off := 2) (ft := 3) rfl Tryz.underlying35 rfl rfl Tryz.sizeOf3 (by decide)) rfl ?_
    refine Tr.q (QS.lV rfl Tryz.isAgg3) rfl ?_
    refine Tr.q (QS.call rfl Tryz.call129 (fun w hw => hasA_any i.op w)) rfl ?_
    refine Tr.q (QS.move rfl) rfl ?_
    apply Tr.andP
    · exact (rfl : _ = (5, 24, 29))
    · exact rfl
    · intro hT6; have hT6' := hT6
      try simp only [bs] at hT6'
      refine Tr.gq rfl rfl hT6 (QS.fieldAddr (off := 6) (ft := 3) rfl Tryz.underlying35 rfl rfl Tryz.sizeOf3 (by decide)) rfl ?_
      refine Tr.gq rfl rfl hT6 (QS.lV rfl Tryz.isAgg3) rfl ?_
      refine Tr.gq rfl rfl hT6 (QS.call rfl Tryz.call130 (fun w hw => isReg_any i.a w)) rfl ?_
      refine Tr.gq rfl rfl hT6 (QS.not rfl) rfl ?_
      refine Tr.q (QS.pickT rfl hT6 rfl) rfl ?_
      refine Tr.nil (Tr.thenN ?_)
      exact Tr.endX (Sub.cons rfl (Sub.dropN 5 (by kernel_rfl) rfl))
    · intro hF6
      refine Tr.gskip rfl rfl hF6 rfl ?_
      refine Tr.gskip rfl rfl hF6 rfl ?_
      refine Tr.gskip rfl rfl hF6 rfl ?_
      refine Tr.gskip rfl rfl hF6 rfl ?_
      refine Tr.q (QS.pickF rfl hF6 rfl) rfl ?_
      refine Tr.nil (Tr.thenN ?_)
      exact Tr.endX (Sub.cons rfl (Sub.dropN 5 (by kernel_rfl) rfl))
    refine Tr.q (QS.move rfl) rfl ?_
    apply Tr.orP
    · exact (rfl : _ = (10, 30, 40))
    · exact rfl
    · intro hF7; have hF7' := hF7
      try simp only [bs] at hF7'
      refine Tr.gq rfl rfl hF7 (QS.fieldAddr (off := 2) (ft := 3) rfl Tryz.underlying35 rfl rfl Tryz.sizeOf3 (by decide)) rfl ?_
      refine Tr.gq rfl rfl hF7 (QS.lV rfl Tryz.isAgg3) rfl ?_
      refine Tr.gq rfl rfl hF7 (QS.call rfl Tryz.call129 (fun w hw => hasA_any i.op w)) rfl ?_
      refine Tr.gq rfl rfl hF7 (QS.not rfl) rfl ?_
      refine Tr.gq rfl rfl hF7 (QS.move rfl) rfl ?_
      apply Tr.andP
      · exact (rfl : _ = (4, 35, 39))
      · exact rfl
      · intro hT8; have hT8' := hT8
        try simp only [bs] at hT8'
        refine Tr.gq rfl rfl hT8 (QS.fieldAddr (off := 6) (ft := 3) rfl Tryz.underlying35 rfl rfl Tryz.sizeOf3 (by decide)) rfl ?_
        refine Tr.gq rfl rfl hT8 (QS.lV rfl Tryz.isAgg3) rfl ?_
        refine Tr.gq rfl rfl hT8 (QS.neq rfl rfl) rfl ?_
        refine Tr.gq rfl rfl hF7 (QS.pickT rfl hT8 rfl) rfl ?_
        refine Tr.nil (Tr.thenN ?_)
        exact Tr.endX (Sub.cons rfl (Sub.dropN 4 (by kernel_rfl) rfl))
      · intro hF8
        refine Tr.gskip rfl rfl hF8 rfl ?_
        refine Tr.gskip rfl rfl hF8 rfl ?_
        refine Tr.gskip rfl rfl hF8 rfl ?_
        refine Tr.gq rfl rfl hF7 (QS.pickF rfl hF8 rfl) rfl ?_
        refine Tr.nil (Tr.thenN ?_)
        exact Tr.endX (Sub.cons rfl (Sub.dropN 4 (by kernel_rfl) rfl))
      refine Tr.q (QS.pickF rfl hF7 rfl) rfl ?_
      refine Tr.nil (Tr.thenN ?_)
      exact Tr.endX (Sub.cons rfl (Sub.dropN 7 (by kernel_rfl) rfl))
    · intro hT7
      refine Tr.gskip rfl rfl hT7 rfl ?_
      refine Tr.gskip rfl rfl hT7 rfl ?_
      refine Tr.gskip rfl rfl hT7 rfl ?_
      refine Tr.gskip rfl rfl hT7 rfl ?_
      refine Tr.gskip rfl rfl hT7 rfl ?_
      refine Tr.gskipU rfl rfl rfl ?_
      refine Tr.gskipU rfl rfl rfl ?_
      refine Tr.gskipU rfl rfl rfl ?_
      refine Tr.gskip rfl rfl hT7 rfl ?_
      refine Tr.q (QS.pickT rfl hT7 rfl) rfl ?_
      refine Tr.nil (Tr.thenN ?_)
      exact Tr.endX (Sub.cons rfl (Sub.dropN 10 (by kernel_rfl) rfl))
    refine Tr.q (QS.move rfl) rfl ?_
    apply Tr.orP
    · exact (rfl : _ = (9, 41, 50))
    · exact rfl
    · intro hF9; have hF9' := hF9
      try simp only [bs] at hF9'
      refine Tr.gq rfl rfl hF9 (QS.lW rfl Tryz.isAgg35 Tryz.sizeOf35) rfl ?_
      refine Tr.gq rfl rfl hF9 (QS.call rfl Tryz.call131 (fun w hw => hasB_any i w)) rfl ?_
      refine Tr.gq rfl rfl hF9 (QS.move rfl) rfl ?_
      apply Tr.andP
      · exact (rfl : _ = (5, 44, 49))
      · exact rfl
      · intro hT10; have hT10' := hT10
        try simp only [bs] at hT10'
        refine Tr.gq rfl rfl hT10 (QS.fieldAddr (off := 7) (ft := 3) rfl Tryz.underlying35 rfl rfl Tryz.sizeOf3 (by decide)) rfl ?_
        refine Tr.gq rfl rfl hT10 (QS.lV rfl Tryz.isAgg3) rfl ?_
        refine Tr.gq rfl rfl hT10 (QS.call rfl Tryz.call130 (fun w hw => isReg_any i.b w)) rfl ?_
        refine Tr.gq rfl rfl hT10 (QS.not rfl) rfl ?_
        refine Tr.gq rfl rfl hF9 (QS.pickT rfl hT10 rfl) rfl ?_
        refine Tr.nil (Tr.thenN ?_)
        exact Tr.endX (Sub.cons rfl (Sub.dropN 5 (by kernel_rfl) rfl))
      · intro hF10
        refine Tr.gskip rfl rfl hF10 rfl ?_
        refine Tr.gskip rfl rfl hF10 rfl ?_
        refine Tr.gskip rfl rfl hF10 rfl ?_
        refine Tr.gskip rfl rfl hF10 rfl ?_
        refine Tr.gq rfl rfl hF9 (QS.pickF rfl hF10 rfl) rfl ?_
        refine Tr.nil (Tr.thenN ?_)
        exact Tr.endX (Sub.cons rfl (Sub.dropN 5 (by kernel_rfl) rfl))
      refine Tr.q (QS.pickF rfl hF9 rfl) rfl ?_
      refine Tr.nil (Tr.thenN ?_)
      exact Tr.endX (Sub.cons rfl (Sub.dropN 5 (by kernel_rfl) rfl))
    · intro hT9
      refine Tr.gskip rfl rfl hT9 rfl ?_
      refine Tr.gskip rfl rfl hT9 rfl ?_
      refine Tr.gskip rfl rfl hT9 rfl ?_
      refine Tr.gskipU rfl rfl rfl ?_
      refine Tr.gskipU rfl rfl rfl ?_
      refine Tr.gskipU rfl rfl rfl ?_
      refine Tr.gskipU rfl rfl rfl ?_
      refine Tr.gskip rfl rfl hT9 rfl ?_
      refine Tr.q (QS.pickT rfl hT9 rfl) rfl ?_
      refine Tr.nil (Tr.thenN ?_)
      exact Tr.endX (Sub.cons rfl (Sub.dropN 9 (by kernel_rfl) rfl))
    refine Tr.q (QS.move rfl) rfl ?_
    apply Tr.orP
    · exact (rfl : _ = (9, 51, 60))
    · exact rfl
    · intro hF11; have hF11' := hF11
      try simp only [bs] at hF11'
      refine Tr.gq rfl rfl hF11 (QS.lW rfl Tryz.isAgg35 Tryz.sizeOf35) rfl ?_
      refine Tr.gq rfl rfl hF11 (QS.call rfl Tryz.call131 (fun w hw => hasB_any i w)) rfl ?_
      refine Tr.gq rfl rfl hF11 (QS.not rfl) rfl ?_
      refine Tr.gq rfl rfl hF11 (QS.move rfl) rfl ?_
      apply Tr.andP
      · exact (rfl : _ = (4, 55, 59))
      · exact rfl
      · intro hT12; have hT12' := hT12
        try simp only [bs] at hT12'
        refine Tr.gq rfl rfl hT12 (QS.fieldAddr (off := 7) (ft := 3) rfl Tryz.underlying35 rfl rfl Tryz.sizeOf3 (by decide)) rfl ?_
        refine Tr.gq rfl rfl hT12 (QS.lV rfl Tryz.isAgg3) rfl ?_
        refine Tr.gq rfl rfl hT12 (QS.neq rfl rfl) rfl ?_
        refine Tr.gq rfl rfl hF11 (QS.pickT rfl hT12 rfl) rfl ?_
        refine Tr.nil (Tr.thenN ?_)
        exact Tr.endX (Sub.cons rfl (Sub.dropN 4 (by kernel_rfl) rfl))
      · intro hF12
        refine Tr.gskip rfl rfl hF12 rfl ?_
        refine Tr.gskip rfl rfl hF12 rfl ?_
        refine Tr.gskip rfl rfl hF12 rfl ?_
        refine Tr.gq rfl rfl hF11 (QS.pickF rfl hF12 rfl) rfl ?_
        refine Tr.nil (Tr.thenN ?_)
        exact Tr.endX (Sub.cons rfl (Sub.dropN 4 (by kernel_rfl) rfl))
      refine Tr.q (QS.pickF rfl hF11 rfl) rfl ?_
      refine Tr.nil (Tr.thenN ?_)
      exact Tr.endX (Sub.cons rfl (Sub.dropN 6 (by kernel_rfl) rfl))
    · intro hT11
      refine Tr.gskip rfl rfl hT11 rfl ?_
      refine Tr.gskip rfl rfl hT11 rfl ?_
      refine Tr.gskip rfl rfl hT11 rfl ?_
      refine Tr.gskip rfl rfl hT11 rfl ?_
      refine Tr.gskipU rfl rfl rfl ?_
      refine Tr.gskipU rfl rfl rfl ?_
      refine Tr.gskipU rfl rfl rfl ?_
      refine Tr.gskip rfl rfl hT11 rfl ?_
      refine Tr.q (QS.pickT rfl hT11 rfl) rfl ?_
      refine Tr.nil (Tr.thenN ?_)
      exact Tr.endX (Sub.cons rfl (Sub.dropN 9 (by kernel_rfl) rfl))
    refine Tr.nil ?_
    refine Tr.thenN ?_
    refine Tr.cond rfl (fun h13 => ?_) (fun h13 => ?_)
    · try simp only [bs] at h13
      refine Tr.seq ?_
      refine Tr.region ?_
      refine Tr.q (QS.assign rfl) rfl ?_
      refine Tr.nil ?_
      refine Tr.thenN ?_
      refine Tr.ret ?_
      refine Tr.thenR ?_
      refine Tr.ret1 Tryz.results113 rfl (fun w' hw => ?_)
      exact ⟨by clear hw; unfold refErrP; (repeat (first | rw [if_pos (by first | assumption | omega | grind)] | rw [if_neg (by first | assumption | omega | grind)])) <;> rfl, hw.below (Bg.le.refl _)⟩
    · try simp only [bs] at h13
      refine Tr.skip ?_
      refine Tr.thenN ?_
      refine Tr.seq ?_
      refine Tr.seq ?_
      refine Tr.region ?_
      refine Tr.q (QS.fieldAddr (off := 2) (ft := 3) rfl Tryz.underlying35 rfl rfl Tryz.sizeOf3 (by decide)) rfl ?_
      refine Tr.q (QS.lV rfl Tryz.isAgg3) rfl ?_
      refine Tr.q (QS.call rfl Tryz.call132 (fun w hw => hasCc_any i.op w)) rfl ?_
      refine Tr.q (QS.move rfl) rfl ?_
      apply Tr.andP
      · exact (rfl : _ = (5, 64, 69))
      · exact rfl
      · intro hT14; have hT14' := hT14
        try simp only [bs] at hT14'
        refine Tr.gq rfl rfl hT14 (QS.fieldAddr (off := 5) (ft := 3) rfl Tryz.underlying35 rfl rfl Tryz.sizeOf3 (by decide)) rfl ?_
        refine Tr.gq rfl rfl hT14 (QS.lV rfl Tryz.isAgg3) rfl ?_
        refine Tr.gq rfl rfl hT14 (QS.call rfl Tryz.call133 (fun w hw => isCc_any i.cc w)) rfl ?_
        refine Tr.gq rfl rfl hT14 (QS.not rfl) rfl ?_
        refine Tr.q (QS.pickT rfl hT14 rfl) rfl ?_
        refine Tr.nil (Tr.thenN ?_)
        exact Tr.endX (Sub.cons rfl (Sub.dropN 5 (by kernel_rfl) rfl))
      · intro hF14
        refine Tr.gskip rfl rfl hF14 rfl ?_
        refine Tr.gskip rfl rfl hF14 rfl ?_
        refine Tr.gskip rfl rfl hF14 rfl ?_
        refine Tr.gskip rfl rfl hF14 rfl ?_
        refine Tr.q (QS.pickF rfl hF14 rfl) rfl ?_
        refine Tr.nil (Tr.thenN ?_)
        exact Tr.endX (Sub.cons rfl (Sub.dropN 5 (by kernel_rfl) rfl))
      refine Tr.q (QS.move rfl) rfl ?_
      apply Tr.orP
      · exact (rfl : _ = (10, 70, 80))
      · exact rfl
      · intro hF15; have hF15' := hF15
        try simp only [bs] at hF15'
        refine Tr.gq rfl rfl hF15 (QS.fieldAddr (off := 2) (ft := 3) rfl Tryz.underlying35 rfl rfl Tryz.sizeOf3 (by decide)) rfl ?_
        refine Tr.gq rfl rfl hF15 (QS.lV rfl Tryz.isAgg3) rfl ?_
        refine Tr.gq rfl rfl hF15 (QS.call rfl Tryz.call132 (fun w hw => hasCc_any i.op w)) rfl ?_
        refine Tr.gq rfl rfl hF15 (QS.not rfl) rfl ?_
        refine Tr.gq rfl rfl hF15 (QS.move rfl) rfl ?_
        apply Tr.andP
        · exact (rfl : _ = (4, 75, 79))
        · exact rfl
        · intro hT16; have hT16' := hT16
          try simp only [bs] at hT16'
          refine Tr.gq rfl rfl hT16 (QS.fieldAddr (off := 5) (ft := 3) rfl Tryz.underlying35 rfl rfl Tryz.sizeOf3 (by decide)) rfl ?_
          refine Tr.gq rfl rfl hT16 (QS.lV rfl Tryz.isAgg3) rfl ?_
          refine Tr.gq rfl rfl hT16 (QS.neq rfl rfl) rfl ?_
          refine Tr.gq rfl rfl hF15 (QS.pickT rfl hT16 rfl) rfl ?_
          refine Tr.nil (Tr.thenN ?_)
          exact Tr.endX (Sub.cons rfl (Sub.dropN 4 (by kernel_rfl) rfl))
        · intro hF16
          refine Tr.gskip rfl rfl hF16 rfl ?_
          refine Tr.gskip rfl rfl hF16 rfl ?_
          refine Tr.gskip rfl rfl hF16 rfl ?_
          refine Tr.gq rfl rfl hF15 (QS.pickF rfl hF16 rfl) rfl ?_
          refine Tr.nil (Tr.thenN ?_)
          exact Tr.endX (Sub.cons rfl (Sub.dropN 4 (by kernel_rfl) rfl))
        refine Tr.q (QS.pickF rfl hF15 rfl) rfl ?_
        refine Tr.nil (Tr.thenN ?_)
        exact Tr.endX (Sub.cons rfl (Sub.dropN 7 (by kernel_rfl) rfl))
      · intro hT15
        refine Tr.gskip rfl rfl hT15 rfl ?_
        refine Tr.gskip rfl rfl hT15 rfl ?_
        refine Tr.gskip rfl rfl hT15 rfl ?_
        refine Tr.gskip rfl rfl hT15 rfl ?_
        refine Tr.gskip rfl rfl hT15 rfl ?_
        refine Tr.gskipU rfl rfl rfl ?_
        refine Tr.gskipU rfl rfl rfl ?_
        refine Tr.gskipU rfl rfl rfl ?_
        refine Tr.gskip rfl rfl hT15 rfl ?_
        refine Tr.q (QS.pickT rfl hT15 rfl) rfl ?_
        refine Tr.nil (Tr.thenN ?_)
        exact Tr.endX (Sub.cons rfl (Sub.dropN 10 (by kernel_rfl) rfl))
      refine Tr.q (QS.move rfl) rfl ?_
      apply Tr.orP
      · exact (rfl : _ = (9, 81, 90))
      · exact rfl
      · intro hF17; have hF17' := hF17
        try simp only [bs] at hF17'
        refine Tr.gq rfl rfl hF17 (QS.lW rfl Tryz.isAgg35 Tryz.sizeOf35) rfl ?_
        refine Tr.gq rfl rfl hF17 (QS.call rfl Tryz.call134 (fun w hw => hasImm_any i w)) rfl ?_
        refine Tr.gq rfl rfl hF17 (QS.not rfl) rfl ?_
        refine Tr.gq rfl rfl hF17 (QS.move rfl) rfl ?_
        apply Tr.andP
        · exact (rfl : _ = (4, 85, 89))
        · exact rfl
        · intro hT18; have hT18' := hT18
          try simp only [bs] at hT18'
          refine Tr.gq rfl rfl hT18 (QS.fieldAddr (off := 1) (ft := 33) rfl Tryz.underlying35 rfl rfl Tryz.sizeOf33 (by decide)) rfl ?_
          refine Tr.gq rfl rfl hT18 (QS.lV rfl Tryz.isAgg33) rfl ?_
          refine Tr.gq rfl rfl hT18 (QS.neq32 (n := 0) rfl rfl) rfl ?_
          refine Tr.gq rfl rfl hF17 (QS.pickT rfl hT18 rfl) rfl ?_
          refine Tr.nil (Tr.thenN ?_)
          exact Tr.endX (Sub.cons rfl (Sub.dropN 4 (by kernel_rfl) rfl))
        · intro hF18
          refine Tr.gskip rfl rfl hF18 rfl ?_
          refine Tr.gskip rfl rfl hF18 rfl ?_
          refine Tr.gskip rfl rfl hF18 rfl ?_
          refine Tr.gq rfl rfl hF17 (QS.pickF rfl hF18 rfl) rfl ?_
          refine Tr.nil (Tr.thenN ?_)
          exact Tr.endX (Sub.cons rfl (Sub.dropN 4 (by kernel_rfl) rfl))
        refine Tr.q (QS.pickF rfl hF17 rfl) rfl ?_
        refine Tr.nil (Tr.thenN ?_)
        exact Tr.endX (Sub.cons rfl (Sub.dropN 6 (by kernel_rfl) rfl))
      · intro hT17
        refine Tr.gskip rfl rfl hT17 rfl ?_
        refine Tr.gskip rfl rfl hT17 rfl ?_
        refine Tr.gskip rfl rfl hT17 rfl ?_
        refine Tr.gskip rfl rfl hT17 rfl ?_
        refine Tr.gskipU rfl rfl rfl ?_
        refine Tr.gskipU rfl rfl rfl ?_
        refine Tr.gskipU rfl rfl rfl ?_
        refine Tr.gskip rfl rfl hT17 rfl ?_
        refine Tr.q (QS.pickT rfl hT17 rfl) rfl ?_
        refine Tr.nil (Tr.thenN ?_)
        exact Tr.endX (Sub.cons rfl (Sub.dropN 9 (by kernel_rfl) rfl))
      refine Tr.nil ?_
      refine Tr.thenN ?_
      refine Tr.cond rfl (fun h19 => ?_) (fun h19 => ?_)
      · try simp only [bs] at h19
        refine Tr.seq ?_
        refine Tr.region ?_
        refine Tr.q (QS.assign rfl) rfl ?_
        refine Tr.nil ?_
        refine Tr.thenN ?_
        refine Tr.ret ?_
        refine Tr.thenR ?_
        refine Tr.ret1 Tryz.results113 rfl (fun w' hw => ?_)
        exact ⟨by clear hw; unfold refErrP; (repeat (first | rw [if_pos (by first | assumption | omega | grind)] | rw [if_neg (by first | assumption | omega | grind)])) <;> rfl, hw.below (Bg.le.refl _)⟩
      · try simp only [bs] at h19
        refine Tr.skip ?_
        refine Tr.thenN ?_
        refine Tr.seqJ (ι := Unit) (fun u => ¬ (((isTwoP i.op = true ∧ i.form = 1) ∨ isAccP i.op = true ∨ i.op = 19) ∧ isByteP i.imm = false)) (fun _ => Bg.of w) (fun u => [cellE b1 (encIns.enc i) 35]) (fun u => []) ?_ (fun u hi => ?_)
        · skip
          refine Tr.seq ?_
          refine Tr.region ?_
          refine Tr.q (QS.fieldAddr (off := 2) (ft := 3) rfl Tryz.underlying35 rfl rfl Tryz.sizeOf3 (by decide)) rfl ?_
          refine Tr.q (QS.lV rfl Tryz.isAgg3) rfl ?_
          refine Tr.q (QS.call rfl Tryz.call135 (fun w hw => isTwo_any i.op w)) rfl ?_
          refine Tr.q (QS.move rfl) rfl ?_
          apply Tr.andP
          · exact (rfl : _ = (4, 94, 98))
          · exact rfl
          · intro hT20; have hT20' := hT20
            try simp only [bs] at hT20'
            refine Tr.gq rfl rfl hT20 (QS.fieldAddr (off := 3) (ft := 3) rfl Tryz.underlying35 rfl rfl Tryz.sizeOf3 (by decide)) rfl ?_
            refine Tr.gq rfl rfl hT20 (QS.lV rfl Tryz.isAgg3) rfl ?_
            refine Tr.gq rfl rfl hT20 (QS.eql rfl rfl) rfl ?_
            refine Tr.q (QS.pickT rfl hT20 rfl) rfl ?_
            refine Tr.nil (Tr.thenN ?_)
            exact Tr.endX (Sub.cons rfl (Sub.dropN 4 (by kernel_rfl) rfl))
          · intro hF20
            refine Tr.gskip rfl rfl hF20 rfl ?_
            refine Tr.gskip rfl rfl hF20 rfl ?_
            refine Tr.gskip rfl rfl hF20 rfl ?_
            refine Tr.q (QS.pickF rfl hF20 rfl) rfl ?_
            refine Tr.nil (Tr.thenN ?_)
            exact Tr.endX (Sub.cons rfl (Sub.dropN 4 (by kernel_rfl) rfl))
          refine Tr.q (QS.move rfl) rfl ?_
          apply Tr.orP
          · exact (rfl : _ = (4, 99, 103))
          · exact rfl
          · intro hF21; have hF21' := hF21
            try simp only [bs] at hF21'
            refine Tr.gq rfl rfl hF21 (QS.fieldAddr (off := 2) (ft := 3) rfl Tryz.underlying35 rfl rfl Tryz.sizeOf3 (by decide)) rfl ?_
            refine Tr.gq rfl rfl hF21 (QS.lV rfl Tryz.isAgg3) rfl ?_
            refine Tr.gq rfl rfl hF21 (QS.call rfl Tryz.call136 (fun w hw => isAccess_any i.op w)) rfl ?_
            refine Tr.q (QS.pickF rfl hF21 rfl) rfl ?_
            refine Tr.nil (Tr.thenN ?_)
            exact Tr.endX (Sub.cons rfl (Sub.dropN 4 (by kernel_rfl) rfl))
          · intro hT21
            refine Tr.gskip rfl rfl hT21 rfl ?_
            refine Tr.gskip rfl rfl hT21 rfl ?_
            refine Tr.gskip rfl rfl hT21 rfl ?_
            refine Tr.q (QS.pickT rfl hT21 rfl) rfl ?_
            refine Tr.nil (Tr.thenN ?_)
            exact Tr.endX (Sub.cons rfl (Sub.dropN 4 (by kernel_rfl) rfl))
          refine Tr.q (QS.move rfl) rfl ?_
          apply Tr.orP
          · exact (rfl : _ = (4, 104, 108))
          · exact rfl
          · intro hF22; have hF22' := hF22
            try simp only [bs] at hF22'
            refine Tr.gq rfl rfl hF22 (QS.fieldAddr (off := 2) (ft := 3) rfl Tryz.underlying35 rfl rfl Tryz.sizeOf3 (by decide)) rfl ?_
            refine Tr.gq rfl rfl hF22 (QS.lV rfl Tryz.isAgg3) rfl ?_
            refine Tr.gq rfl rfl hF22 (QS.eql rfl rfl) rfl ?_
            refine Tr.q (QS.pickF rfl hF22 rfl) rfl ?_
            refine Tr.nil (Tr.thenN ?_)
            exact Tr.endX (Sub.cons rfl (Sub.dropN 4 (by kernel_rfl) rfl))
          · intro hT22
            refine Tr.gskip rfl rfl hT22 rfl ?_
            refine Tr.gskip rfl rfl hT22 rfl ?_
            refine Tr.gskip rfl rfl hT22 rfl ?_
            refine Tr.q (QS.pickT rfl hT22 rfl) rfl ?_
            refine Tr.nil (Tr.thenN ?_)
            exact Tr.endX (Sub.cons rfl (Sub.dropN 4 (by kernel_rfl) rfl))
          refine Tr.nil ?_
          refine Tr.thenN ?_
          refine Tr.cond rfl (fun h23 => ?_) (fun h23 => ?_)
          · try simp only [bs] at h23
            refine Tr.seq ?_
            refine Tr.region ?_
            refine Tr.q (QS.fieldAddr (off := 1) (ft := 33) rfl Tryz.underlying35 rfl rfl Tryz.sizeOf33 (by decide)) rfl ?_
            refine Tr.q (QS.lV rfl Tryz.isAgg33) rfl ?_
            refine Tr.q (QS.call rfl Tryz.call137 (fun w hw => isByte_any i.imm w)) rfl ?_
            refine Tr.q (QS.not rfl) rfl ?_
            refine Tr.nil ?_
            refine Tr.thenN ?_
            refine Tr.cond rfl (fun h24 => ?_) (fun h24 => ?_)
            · try simp only [bs] at h24
              refine Tr.seq ?_
              refine Tr.region ?_
              refine Tr.q (QS.assign rfl) rfl ?_
              refine Tr.nil ?_
              refine Tr.thenN ?_
              refine Tr.ret ?_
              refine Tr.thenR ?_
              refine Tr.ret1 Tryz.results113 rfl (fun w' hw => ?_)
              exact ⟨by clear hw; unfold refErrP; (repeat (first | rw [if_pos (by first | assumption | omega | grind)] | rw [if_neg (by first | assumption | omega | grind)])) <;> rfl, hw.below (Bg.le.refl _)⟩
            · try simp only [bs] at h24
              refine Tr.skip ?_
              refine Tr.thenN ?_
              apply Tr.joined ()
              · exact rfl
              · exact Front.nil
              · exact SubX.dropN 13 (by kernel_rfl) rfl
              · exact (by repeat' (first | exact Pick.nil _ | exact Del.here _ | apply Pick.cons | apply Del.there))
              · exact (by grind)
          · try simp only [bs] at h23
            refine Tr.skip ?_
            refine Tr.thenN ?_
            apply Tr.joined ()
            · exact rfl
            · exact Front.nil
            · exact SubX.dropN 9 (by kernel_rfl) rfl
            · exact (by repeat' (first | exact Pick.nil _ | exact Del.here _ | apply Pick.cons | apply Del.there))
            · exact (by grind)
        · skip
          replace hi : ¬ (((isTwoP i.op = true ∧ i.form = 1) ∨ isAccP i.op = true ∨ i.op = 19) ∧ isByteP i.imm = false) := hi
          change Tr _ _ [cellE b1 (encIns.enc i) 35] ([] ++ _) _
          refine Tr.seq ?_
          refine Tr.seq ?_
          refine Tr.region ?_
          refine Tr.q (QS.fieldAddr (off := 2) (ft := 3) rfl Tryz.underlying35 rfl rfl Tryz.sizeOf3 (by decide)) rfl ?_
          refine Tr.q (QS.lV rfl Tryz.isAgg3) rfl ?_
          refine Tr.q (QS.eql rfl rfl) rfl ?_
          refine Tr.q (QS.move rfl) rfl ?_
          apply Tr.andP
          · exact (rfl : _ = (4, 116, 120))
          · exact rfl
          · intro hT25; have hT25' := hT25
            try simp only [bs] at hT25'
            refine Tr.gq rfl rfl hT25 (QS.fieldAddr (off := 3) (ft := 3) rfl Tryz.underlying35 rfl rfl Tryz.sizeOf3 (by decide)) rfl ?_
            refine Tr.gq rfl rfl hT25 (QS.lV rfl Tryz.isAgg3) rfl ?_
            refine Tr.gq rfl rfl hT25 (QS.eql rfl rfl) rfl ?_
            refine Tr.q (QS.pickT rfl hT25 rfl) rfl ?_
            refine Tr.nil (Tr.thenN ?_)
            exact Tr.endX (Sub.cons rfl (Sub.dropN 4 (by kernel_rfl) rfl))
          · intro hF25
            refine Tr.gskip rfl rfl hF25 rfl ?_
            refine Tr.gskip rfl rfl hF25 rfl ?_
            refine Tr.gskip rfl rfl hF25 rfl ?_
            refine Tr.q (QS.pickF rfl hF25 rfl) rfl ?_
            refine Tr.nil (Tr.thenN ?_)
            exact Tr.endX (Sub.cons rfl (Sub.dropN 4 (by kernel_rfl) rfl))
          refine Tr.q (QS.move rfl) rfl ?_
          apply Tr.andP
          · exact (rfl : _ = (9, 121, 130))
          · exact rfl
          · intro hT26; have hT26' := hT26
            try simp only [bs] at hT26'
            refine Tr.gq rfl rfl hT26 (QS.fieldAddr (off := 1) (ft := 33) rfl Tryz.underlying35 rfl rfl Tryz.sizeOf33 (by decide)) rfl ?_
            refine Tr.gq rfl rfl hT26 (QS.lV rfl Tryz.isAgg33) rfl ?_
            refine Tr.gq rfl rfl hT26 (QS.fieldAddr (off := 0) (ft := 33) rfl Tryz.underlying35 rfl rfl Tryz.sizeOf33 (by decide)) rfl ?_
            refine Tr.gq rfl rfl hT26 (QS.lV rfl Tryz.isAgg33) rfl ?_
            refine Tr.gq rfl rfl hT26 (QS.sub32 rfl rfl) rfl ?_
            refine Tr.gq rfl rfl hT26 (QS.sub32 (n := 2) rfl rfl) rfl ?_
            refine Tr.gq rfl rfl hT26 (QS.call rfl Tryz.call137 (fun w hw => isByte_any (i.imm - i.addr - 2) w)) rfl ?_
            refine Tr.gq rfl rfl hT26 (QS.not rfl) rfl ?_
            refine Tr.q (QS.pickT rfl hT26 rfl) rfl ?_
            refine Tr.nil (Tr.thenN ?_)
            exact Tr.endX (Sub.cons rfl (Sub.dropN 9 (by kernel_rfl) rfl))
          · intro hF26
            refine Tr.gskip rfl rfl hF26 rfl ?_
            refine Tr.gskip rfl rfl hF26 rfl ?_
            refine Tr.gskip rfl rfl hF26 rfl ?_
            refine Tr.gskip rfl rfl hF26 rfl ?_
            refine Tr.gskip rfl rfl hF26 rfl ?_
            refine Tr.gskip rfl rfl hF26 rfl ?_
            refine Tr.gskip rfl rfl hF26 rfl ?_
            refine Tr.gskip rfl rfl hF26 rfl ?_
            refine Tr.q (QS.pickF rfl hF26 rfl) rfl ?_
            refine Tr.nil (Tr.thenN ?_)
            exact Tr.endX (Sub.cons rfl (Sub.dropN 9 (by kernel_rfl) rfl))
          refine Tr.nil ?_
          refine Tr.thenN ?_
          refine Tr.cond rfl (fun h27 => ?_) (fun h27 => ?_)
          · try simp only [bs] at h27
            refine Tr.seq ?_
            refine Tr.region ?_
            refine Tr.q (QS.assign rfl) rfl ?_
            refine Tr.nil ?_
            refine Tr.thenN ?_
            refine Tr.ret ?_
            refine Tr.thenR ?_
            refine Tr.ret1 Tryz.results113 rfl (fun w' hw => ?_)
            exact ⟨by clear hw; unfold refErrP; (repeat (first | rw [if_pos (by first | assumption | omega | grind)] | rw [if_neg (by first | assumption | omega | grind)])) <;> rfl, hw.below (Bg.le.refl _)⟩
          · try simp only [bs] at h27
            refine Tr.skip ?_
            refine Tr.thenN ?_
            refine Tr.seq ?_
            refine Tr.region ?_
            refine Tr.q (QS.assign rfl) rfl ?_
            refine Tr.nil ?_
            refine Tr.thenN ?_
            refine Tr.ret ?_
            refine Tr.ret1 Tryz.results113 rfl (fun w' hw => ?_)
            exact ⟨by clear hw; unfold refErrP; (repeat (first | rw [if_pos (by first | assumption | omega | grind)] | rw [if_neg (by first | assumption | omega | grind)])) <;> rfl, hw.below (Bg.le.refl _)⟩
set_option maxRecDepth 100000 in
set_option maxHeartbeats 2000000 in
theorem refValid_any (i : Ins) (w : World) :
    Calls Tryz.prog 84 #[.agg (encIns.enc i).toArray] w (fun e w' => e = .returned (.bool (decide (refErrP i = 0))) ∧ Ext w w') := by
  refine enter Tryz.func84 rfl Tryz.ntmps84 rfl ?_
  refine Tr.seq ?_
  refine Tr.region ?_
  refine Tr.box rfl rfl rfl (fun b1 => ?_)
  refine Tr.q (QS.assign rfl) rfl ?_
  refine Tr.nil ?_
  refine Tr.thenN ?_
  refine Tr.seq ?_
  refine Tr.region ?_
  refine Tr.q (QS.lW rfl Tryz.isAgg35 Tryz.sizeOf35) rfl ?_
  refine Tr.q (QS.call rfl Tryz.call113 (fun w hw => refCheck_any i w)) rfl ?_
  refine Tr.q (QS.eql rfl rfl) rfl ?_
  refine Tr.q (QS.assign rfl) rfl ?_
  refine Tr.nil ?_
  refine Tr.thenN ?_
  refine Tr.ret ?_
  refine Tr.ret1 Tryz.results84 rfl (fun w' hw => ?_)
  exact ⟨rfl, hw.below (Bg.le.refl _)⟩
set_option maxRecDepth 100000 in
set_option maxHeartbeats 2000000 in
theorem word_any (n : UInt32) (w : World) :
    Calls Tryz.prog 146 #[.int .u32 n.toNat] w (fun e w' => ∃ V, e = .returned V ∧ Ext w w' ∧ NewRow w w' 5 encU8 (wordP n) V) := by
  refine enter Tryz.func146 rfl Tryz.ntmps146 rfl ?_
  refine Tr.seq ?_
  refine Tr.region ?_
  refine Tr.q (QS.assign rfl) rfl ?_
  refine Tr.nil ?_
  refine Tr.thenN ?_
  refine Tr.seq ?_
  refine Tr.region ?_
  refine Tr.q (QS.move rfl) rfl ?_
  refine Tr.q (QS.rem32 (n := 256) rfl rfl (by first | decide | assumption)) rfl ?_
  refine Tr.q (QS.cvt32to8 rfl Tryz.underlying33 Tryz.underlying5) rfl ?_
  refine Tr.q (QS.move rfl) rfl ?_
  refine Tr.q (QS.quo32 (n := 256) rfl rfl (by first | decide | assumption)) rfl ?_
  refine Tr.q (QS.rem32 (n := 256) rfl rfl (by first | decide | assumption)) rfl ?_
  refine Tr.q (QS.cvt32to8 rfl Tryz.underlying33 Tryz.underlying5) rfl ?_
  refine Tr.q (QS.move rfl) rfl ?_
  refine Tr.q (QS.quo32 (n := 65536) rfl rfl (by first | decide | assumption)) rfl ?_
  refine Tr.q (QS.rem32 (n := 256) rfl rfl (by first | decide | assumption)) rfl ?_
  refine Tr.q (QS.cvt32to8 rfl Tryz.underlying33 Tryz.underlying5) rfl ?_
  refine Tr.q (QS.move rfl) rfl ?_
  refine Tr.q (QS.quo32 (n := 16777216) rfl rfl (by first | decide | assumption)) rfl ?_
  refine Tr.q (QS.cvt32to8 rfl Tryz.underlying33 Tryz.underlying5) rfl ?_
  refine Tr.litN (E := encU8) (wordP n) (vs := [(0, _), (1, _), (2, _), (3, _)]) rfl rfl Tryz.underlying127 Tryz.sizeOf5 Tryz.zeroValue5 (by rfl) (by rfl) rfl (by first | kernel_rfl | rfl) rfl (fun V1 => ?_)
  refine Tr.q (QS.assign rfl) rfl ?_
  refine Tr.nil ?_
  refine Tr.thenN ?_
  refine Tr.ret ?_
  refine Tr.ret1 Tryz.results146 rfl (fun w' hw => ?_)
  exact ⟨_, rfl, hw.below (Bg.le.refl _), hw.new (.head _)⟩
set_option maxRecDepth 100000 in
set_option maxHeartbeats 2000000 in
theorem accCode_any (i : Ins) (w : World) (hb : 0 ≤ i.width ∧ i.width ≤ 4) :
    Calls Tryz.prog 147 #[.agg (encIns.enc i).toArray] w (fun e w' => e = .returned (.int .i64 (accCodeP i)) ∧ Ext w w') := by
  refine enter Tryz.func147 rfl Tryz.ntmps147 rfl ?_
  refine Tr.seq ?_
  refine Tr.region ?_
  refine Tr.box rfl rfl rfl (fun b1 => ?_)
  refine Tr.q (QS.assign rfl) rfl ?_
  refine Tr.nil ?_
  refine Tr.thenN ?_
  refine Tr.seq ?_
  refine Tr.seq ?_
  refine Tr.region ?_
  refine Tr.q (QS.fieldAddr (off := 2) (ft := 3) rfl Tryz.underlying35 rfl rfl Tryz.sizeOf3 (by decide)) rfl ?_
  refine Tr.q (QS.lV rfl Tryz.isAgg3) rfl ?_
  refine Tr.q (QS.eql rfl rfl) rfl ?_
  refine Tr.nil ?_
  refine Tr.thenN ?_
  refine Tr.cond rfl (fun h2 => ?_) (fun h2 => ?_)
  · try simp only [bs] at h2
    refine Tr.seq ?_
    refine Tr.region ?_
    refine Tr.q (QS.fieldAddr (off := 4) (ft := 3) rfl Tryz.underlying35 rfl rfl Tryz.sizeOf3 (by decide)) rfl ?_
    refine Tr.q (QS.lV rfl Tryz.isAgg3) rfl ?_
    refine Tr.q (QS.mulI rfl rfl (by omega)) rfl ?_
    refine Tr.q (QS.addI rfl rfl (by omega)) rfl ?_
    refine Tr.q (QS.assign rfl) rfl ?_
    refine Tr.nil ?_
    refine Tr.thenN ?_
    refine Tr.ret ?_
    refine Tr.thenR ?_
    refine Tr.ret1 Tryz.results147 rfl (fun w' hw => ?_)
    exact ⟨by clear hw; unfold accCodeP; rw [if_pos (by assumption)], hw.below (Bg.le.refl _)⟩
  · try simp only [bs] at h2
    refine Tr.skip ?_
    refine Tr.thenN ?_
    refine Tr.seq ?_
    refine Tr.region ?_
    refine Tr.q (QS.assign rfl) rfl ?_
    refine Tr.nil ?_
    refine Tr.thenN ?_
    refine Tr.seqJ (ι := Int) (fun n => n = if i.op = 18 then (85 : Int) else 80) (fun _ => Bg.of w) (fun n => [cellE b1 (encIns.enc i) 35]) (fun n => [(3, .int .i64 n)]) ?_ (fun n hi => ?_)
    · skip
      refine Tr.seq ?_
      refine Tr.region ?_
      refine Tr.q (QS.fieldAddr (off := 2) (ft := 3) rfl Tryz.underlying35 rfl rfl Tryz.sizeOf3 (by decide)) rfl ?_
      refine Tr.q (QS.lV rfl Tryz.isAgg3) rfl ?_
      refine Tr.q (QS.eql rfl rfl) rfl ?_
      refine Tr.nil ?_
      refine Tr.thenN ?_
      refine Tr.cond rfl (fun h3 => ?_) (fun h3 => ?_)
      · try simp only [bs] at h3
        refine Tr.region ?_
        refine Tr.q (QS.assign rfl) rfl ?_
        refine Tr.nil ?_
        refine Tr.thenN ?_
        apply Tr.joined 85
        · exact rfl
        · exact (.cons (by first | rfl | exact lookI rfl (by omega) | exact lookI rfl (by simp) | exact lookB rfl (by simp)) Front.nil)
        · exact SubX.dropN 4 (by kernel_rfl) rfl
        · exact (by repeat' (first | exact Pick.nil _ | exact Del.here _ | apply Pick.cons | apply Del.there))
        · exact (by rw [if_pos (by assumption)])
      · try simp only [bs] at h3
        refine Tr.skip ?_
        refine Tr.thenN ?_
        apply Tr.joined 80
        · exact rfl
        · exact (.cons (by first | rfl | exact lookI rfl (by omega) | exact lookI rfl (by simp) | exact lookB rfl (by simp)) Front.nil)
        · exact SubX.dropN 3 (by kernel_rfl) rfl
        · exact (by repeat' (first | exact Pick.nil _ | exact Del.here _ | apply Pick.cons | apply Del.there))
        · exact (by rw [if_neg (by assumption)])
    · skip
      replace hi : n = if i.op = 18 then (85 : Int) else 80 := hi
      change Tr _ _ [cellE b1 (encIns.enc i) 35] ([(3, .int .i64 n)] ++ _) _
      refine Tr.seq ?_
      refine Tr.seq ?_
      have hn : 80 ≤ n ∧ n ≤ 85 := by rw [hi]; split <;> omega
      refine Tr.region ?_
      refine Tr.q (QS.fieldAddr (off := 4) (ft := 3) rfl Tryz.underlying35 rfl rfl Tryz.sizeOf3 (by decide)) rfl ?_
      refine Tr.q (QS.lV rfl Tryz.isAgg3) rfl ?_
      refine Tr.q (QS.eql rfl rfl) rfl ?_
      refine Tr.nil ?_
      refine Tr.thenN ?_
      refine Tr.cond rfl (fun h4 => ?_) (fun h4 => ?_)
      · try simp only [bs] at h4
        refine Tr.seq ?_
        refine Tr.region ?_
        refine Tr.q (QS.move rfl) rfl ?_
        refine Tr.q (QS.addI rfl rfl (by omega)) rfl ?_
        refine Tr.q (QS.assign rfl) rfl ?_
        refine Tr.nil ?_
        refine Tr.thenN ?_
        refine Tr.ret ?_
        refine Tr.thenR ?_
        refine Tr.ret1 Tryz.results147 rfl (fun w' hw => ?_)
        exact ⟨by clear hw; subst hi; unfold accCodeP; rw [if_neg (show ¬ i.op = 17 by assumption)]; simp only []; generalize (if i.op = 18 then (85 : Int) else 80) = q; (repeat (first | rw [if_pos (by omega)] | rw [if_neg (by omega)])), hw.below (Bg.le.refl _)⟩
      · try simp only [bs] at h4
        refine Tr.skip ?_
        refine Tr.thenN ?_
        refine Tr.seq ?_
        refine Tr.seq ?_
        refine Tr.region ?_
        refine Tr.q (QS.fieldAddr (off := 4) (ft := 3) rfl Tryz.underlying35 rfl rfl Tryz.sizeOf3 (by decide)) rfl ?_
        refine Tr.q (QS.lV rfl Tryz.isAgg3) rfl ?_
        refine Tr.q (QS.eql rfl rfl) rfl ?_
        refine Tr.q (QS.move rfl) rfl ?_
        apply Tr.andP
        · exact (rfl : _ = (4, 22, 26))
        · exact rfl
        · intro hT5; have hT5' := hT5
          try simp only [bs] at hT5'
          refine Tr.gq rfl rfl hT5 (QS.fieldAddr (off := 2) (ft := 3) rfl Tryz.underlying35 rfl rfl Tryz.sizeOf3 (by decide)) rfl ?_
          refine Tr.gq rfl rfl hT5 (QS.lV rfl Tryz.isAgg3) rfl ?_
          refine Tr.gq rfl rfl hT5 (QS.eql rfl rfl) rfl ?_
          refine Tr.q (QS.pickT rfl hT5 rfl) rfl ?_
          refine Tr.nil (Tr.thenN ?_)
          exact Tr.endX (Sub.cons rfl (Sub.dropN 4 (by kernel_rfl) rfl))
        · intro hF5
          refine Tr.gskip rfl rfl hF5 rfl ?_
          refine Tr.gskip rfl rfl hF5 rfl ?_
          refine Tr.gskip rfl rfl hF5 rfl ?_
          refine Tr.q (QS.pickF rfl hF5 rfl) rfl ?_
          refine Tr.nil (Tr.thenN ?_)
          exact Tr.endX (Sub.cons rfl (Sub.dropN 4 (by kernel_rfl) rfl))
        refine Tr.nil ?_
        refine Tr.thenN ?_
        refine Tr.cond rfl (fun h6 => ?_) (fun h6 => ?_)
        · try simp only [bs] at h6
          refine Tr.seq ?_
          refine Tr.region ?_
          refine Tr.q (QS.move rfl) rfl ?_
          refine Tr.q (QS.addI rfl rfl (by omega)) rfl ?_
          refine Tr.q (QS.assign rfl) rfl ?_
          refine Tr.nil ?_
          refine Tr.thenN ?_
          refine Tr.ret ?_
          refine Tr.thenR ?_
          refine Tr.ret1 Tryz.results147 rfl (fun w' hw => ?_)
          exact ⟨by clear hw; subst hi; unfold accCodeP; rw [if_neg (show ¬ i.op = 17 by assumption)]; simp only []; generalize (if i.op = 18 then (85 : Int) else 80) = q; (repeat (first | rw [if_pos (by omega)] | rw [if_neg (by omega)])), hw.below (Bg.le.refl _)⟩
        · try simp only [bs] at h6
          refine Tr.skip ?_
          refine Tr.thenN ?_
          refine Tr.seq ?_
          refine Tr.seq ?_
          refine Tr.region ?_
          refine Tr.q (QS.fieldAddr (off := 4) (ft := 3) rfl Tryz.underlying35 rfl rfl Tryz.sizeOf3 (by decide)) rfl ?_
          refine Tr.q (QS.lV rfl Tryz.isAgg3) rfl ?_
          refine Tr.q (QS.eql rfl rfl) rfl ?_
          refine Tr.nil ?_
          refine Tr.thenN ?_
          refine Tr.cond rfl (fun h7 => ?_) (fun h7 => ?_)
          · try simp only [bs] at h7
            refine Tr.seq ?_
            refine Tr.region ?_
            refine Tr.q (QS.move rfl) rfl ?_
            refine Tr.q (QS.addI rfl rfl (by omega)) rfl ?_
            refine Tr.q (QS.assign rfl) rfl ?_
            refine Tr.nil ?_
            refine Tr.thenN ?_
            refine Tr.ret ?_
            refine Tr.thenR ?_
            refine Tr.ret1 Tryz.results147 rfl (fun w' hw => ?_)
            exact ⟨by clear hw; subst hi; unfold accCodeP; rw [if_neg (show ¬ i.op = 17 by assumption)]; simp only []; generalize (if i.op = 18 then (85 : Int) else 80) = q; (repeat (first | rw [if_pos (by omega)] | rw [if_neg (by omega)])), hw.below (Bg.le.refl _)⟩
          · try simp only [bs] at h7
            refine Tr.skip ?_
            refine Tr.thenN ?_
            refine Tr.seq ?_
            refine Tr.region ?_
            refine Tr.q (QS.move rfl) rfl ?_
            refine Tr.q (QS.assign rfl) rfl ?_
            refine Tr.nil ?_
            refine Tr.thenN ?_
            refine Tr.ret ?_
            refine Tr.ret1 Tryz.results147 rfl (fun w' hw => ?_)
            exact ⟨by clear hw; subst hi; unfold accCodeP; rw [if_neg (show ¬ i.op = 17 by assumption)]; simp only []; generalize (if i.op = 18 then (85 : Int) else 80) = q; (repeat (first | rw [if_pos (by omega)] | rw [if_neg (by omega)])), hw.below (Bg.le.refl _)⟩
set_option maxRecDepth 100000 in
set_option maxHeartbeats 2000000 in
theorem plain_any (i : Ins) (w : World) (hcc : -100 ≤ i.cc ∧ i.cc ≤ 100) :
    Calls Tryz.prog 148 #[.agg (encIns.enc i).toArray] w (fun e w' => ∃ V, e = .returned V ∧ Ext w w' ∧ NewRow w w' 5 encU8 (plainP i) V) := by
  refine enter Tryz.func148 rfl Tryz.ntmps148 rfl ?_
  refine Tr.seq ?_
  refine Tr.region ?_
  refine Tr.box rfl rfl rfl (fun b1 => ?_)
  refine Tr.q (QS.assign rfl) rfl ?_
  refine Tr.nil ?_
  refine Tr.thenN ?_
  refine Tr.seq ?_
  refine Tr.region ?_
  refine Tr.q (QS.fieldAddr (off := 6) (ft := 3) rfl Tryz.underlying35 rfl rfl Tryz.sizeOf3 (by decide)) rfl ?_
  refine Tr.q (QS.lV rfl Tryz.isAgg3) rfl ?_
  refine Tr.q (QS.cvtTo8 rfl Tryz.underlying3 Tryz.underlying5) rfl ?_
  refine Tr.q (QS.assign rfl) rfl ?_
  refine Tr.nil ?_
  refine Tr.thenN ?_
  refine Tr.seq ?_
  refine Tr.seq ?_
  refine Tr.region ?_
  refine Tr.q (QS.fieldAddr (off := 2) (ft := 3) rfl Tryz.underlying35 rfl rfl Tryz.sizeOf3 (by decide)) rfl ?_
  refine Tr.q (QS.lV rfl Tryz.isAgg3) rfl ?_
  refine Tr.nil ?_
  refine Tr.thenN ?_
  refine Tr.block ?_
  refine Tr.seq ?_
  refine Tr.region ?_
  refine Tr.q (QS.eql rfl rfl) rfl ?_
  refine Tr.q (QS.assign rfl) rfl ?_
  refine Tr.nil ?_
  refine Tr.thenN ?_
  refine Tr.cond rfl (fun h2 => ?_) (fun h2 => ?_)
  · try simp only [bs] at h2
    refine Tr.seq ?_
    refine Tr.region ?_
    refine Tr.q (QS.move rfl) rfl ?_
    refine Tr.q (QS.add8 (m := 8) rfl rfl) rfl ?_
    refine Tr.lit1 (E := encU8) _ rfl rfl Tryz.underlying127 Tryz.sizeOf5 Tryz.zeroValue5 (by rfl) (by rfl) rfl (fun V3 => ?_)
    refine Tr.q (QS.assign rfl) rfl ?_
    refine Tr.nil ?_
    refine Tr.thenN ?_
    refine Tr.ret ?_
    refine Tr.inR ?_
    refine Tr.thenR ?_
    refine Tr.ret1 Tryz.results148 rfl (fun w' hw => ?_)
    exact ⟨_, rfl, hw.below (Bg.le.refl _), by unfold plainP; (repeat (first | rw [if_pos (by first | assumption | omega | grind)] | rw [if_neg (by first | assumption | omega | grind)])); exact hw.new (.head _)⟩
  · try simp only [bs] at h2
    refine Tr.seq ?_
    refine Tr.region ?_
    refine Tr.q (QS.eql rfl rfl) rfl ?_
    refine Tr.q (QS.assign rfl) rfl ?_
    refine Tr.nil ?_
    refine Tr.thenN ?_
    refine Tr.cond rfl (fun h4 => ?_) (fun h4 => ?_)
    · try simp only [bs] at h4
      refine Tr.seq ?_
      refine Tr.region ?_
      refine Tr.q (QS.move rfl) rfl ?_
      refine Tr.q (QS.add8 (m := 16) rfl rfl) rfl ?_
      refine Tr.lit1 (E := encU8) _ rfl rfl Tryz.underlying127 Tryz.sizeOf5 Tryz.zeroValue5 (by rfl) (by rfl) rfl (fun V5 => ?_)
      refine Tr.q (QS.assign rfl) rfl ?_
      refine Tr.nil ?_
      refine Tr.thenN ?_
      refine Tr.ret ?_
      refine Tr.inR ?_
      refine Tr.thenR ?_
      refine Tr.ret1 Tryz.results148 rfl (fun w' hw => ?_)
      exact ⟨_, rfl, hw.below (Bg.le.refl _), by unfold plainP; (repeat (first | rw [if_pos (by first | assumption | omega | grind)] | rw [if_neg (by first | assumption | omega | grind)])); exact hw.new (.head _)⟩
    · try simp only [bs] at h4
      refine Tr.seq ?_
      refine Tr.region ?_
      refine Tr.q (QS.eql rfl rfl) rfl ?_
      refine Tr.q (QS.assign rfl) rfl ?_
      refine Tr.nil ?_
      refine Tr.thenN ?_
      refine Tr.cond rfl (fun h6 => ?_) (fun h6 => ?_)
      · try simp only [bs] at h6
        refine Tr.seq ?_
        refine Tr.region ?_
        refine Tr.q (QS.move rfl) rfl ?_
        refine Tr.litN (E := encU8) [129, u8 i.a] (vs := [(0, _), (1, _)]) rfl rfl Tryz.underlying127 Tryz.sizeOf5 Tryz.zeroValue5 (by rfl) (by rfl) rfl (by first | kernel_rfl | rfl) rfl (fun V7 => ?_)
        refine Tr.q (QS.assign rfl) rfl ?_
        refine Tr.nil ?_
        refine Tr.thenN ?_
        refine Tr.ret ?_
        refine Tr.inR ?_
        refine Tr.thenR ?_
        refine Tr.ret1 Tryz.results148 rfl (fun w' hw => ?_)
        exact ⟨_, rfl, hw.below (Bg.le.refl _), by unfold plainP; (repeat (first | rw [if_pos (by first | assumption | omega | grind)] | rw [if_neg (by first | assumption | omega | grind)])); exact hw.new (.head _)⟩
      · try simp only [bs] at h6
        refine Tr.seq ?_
        refine Tr.region ?_
        refine Tr.q (QS.eql rfl rfl) rfl ?_
        refine Tr.q (QS.assign rfl) rfl ?_
        refine Tr.nil ?_
        refine Tr.thenN ?_
        refine Tr.cond rfl (fun h8 => ?_) (fun h8 => ?_)
        · try simp only [bs] at h8
          refine Tr.seq ?_
          refine Tr.region ?_
          refine Tr.q (QS.move rfl) rfl ?_
          refine Tr.litN (E := encU8) [130, u8 i.a] (vs := [(0, _), (1, _)]) rfl rfl Tryz.underlying127 Tryz.sizeOf5 Tryz.zeroValue5 (by rfl) (by rfl) rfl (by first | kernel_rfl | rfl) rfl (fun V9 => ?_)
          refine Tr.q (QS.assign rfl) rfl ?_
          refine Tr.nil ?_
          refine Tr.thenN ?_
          refine Tr.ret ?_
          refine Tr.inR ?_
          refine Tr.thenR ?_
          refine Tr.ret1 Tryz.results148 rfl (fun w' hw => ?_)
          exact ⟨_, rfl, hw.below (Bg.le.refl _), by unfold plainP; (repeat (first | rw [if_pos (by first | assumption | omega | grind)] | rw [if_neg (by first | assumption | omega | grind)])); exact hw.new (.head _)⟩
        · try simp only [bs] at h8
          refine Tr.seq ?_
          refine Tr.region ?_
          refine Tr.q (QS.eql rfl rfl) rfl ?_
          refine Tr.q (QS.assign rfl) rfl ?_
          refine Tr.nil ?_
          refine Tr.thenN ?_
          refine Tr.cond rfl (fun h10 => ?_) (fun h10 => ?_)
          · try simp only [bs] at h10
            refine Tr.seq ?_
            refine Tr.region ?_
            refine Tr.q (QS.fieldAddr (off := 5) (ft := 3) rfl Tryz.underlying35 rfl rfl Tryz.sizeOf3 (by decide)) rfl ?_
            refine Tr.q (QS.lV rfl Tryz.isAgg3) rfl ?_
            refine Tr.q (QS.addI rfl rfl (by omega)) rfl ?_
            refine Tr.q (QS.cvtTo8 rfl Tryz.underlying3 Tryz.underlying5) rfl ?_
            refine Tr.q (QS.move rfl) rfl ?_
            refine Tr.litN (E := encU8) [u8 (144 + i.cc), u8 i.a] (vs := [(0, _), (1, _)]) rfl rfl Tryz.underlying127 Tryz.sizeOf5 Tryz.zeroValue5 (by rfl) (by rfl) rfl (by first | kernel_rfl | rfl) rfl (fun V11 => ?_)
            refine Tr.q (QS.assign rfl) rfl ?_
            refine Tr.nil ?_
            refine Tr.thenN ?_
            refine Tr.ret ?_
            refine Tr.inR ?_
            refine Tr.thenR ?_
            refine Tr.ret1 Tryz.results148 rfl (fun w' hw => ?_)
            exact ⟨_, rfl, hw.below (Bg.le.refl _), by unfold plainP; (repeat (first | rw [if_pos (by first | assumption | omega | grind)] | rw [if_neg (by first | assumption | omega | grind)])); exact hw.new (.head _)⟩
          · try simp only [bs] at h10
            refine Tr.seq ?_
            refine Tr.region ?_
            refine Tr.q (QS.eql rfl rfl) rfl ?_
            refine Tr.q (QS.assign rfl) rfl ?_
            refine Tr.nil ?_
            refine Tr.thenN ?_
            refine Tr.cond rfl (fun h12 => ?_) (fun h12 => ?_)
            · try simp only [bs] at h12
              refine Tr.seq ?_
              refine Tr.region ?_
              refine Tr.q (QS.move rfl) rfl ?_
              refine Tr.litN (E := encU8) [160, u8 i.a] (vs := [(0, _), (1, _)]) rfl rfl Tryz.underlying127 Tryz.sizeOf5 Tryz.zeroValue5 (by rfl) (by rfl) rfl (by first | kernel_rfl | rfl) rfl (fun V13 => ?_)
              refine Tr.q (QS.assign rfl) rfl ?_
              refine Tr.nil ?_
              refine Tr.thenN ?_
              refine Tr.ret ?_
              refine Tr.inR ?_
              refine Tr.thenR ?_
              refine Tr.ret1 Tryz.results148 rfl (fun w' hw => ?_)
              exact ⟨_, rfl, hw.below (Bg.le.refl _), by unfold plainP; (repeat (first | rw [if_pos (by first | assumption | omega | grind)] | rw [if_neg (by first | assumption | omega | grind)])); exact hw.new (.head _)⟩
            · try simp only [bs] at h12
              refine Tr.seq ?_
              refine Tr.region ?_
              refine Tr.q (QS.eql rfl rfl) rfl ?_
              refine Tr.q (QS.assign rfl) rfl ?_
              refine Tr.nil ?_
              refine Tr.thenN ?_
              refine Tr.cond rfl (fun h14 => ?_) (fun h14 => ?_)
              · try simp only [bs] at h14
                refine Tr.seq ?_
                refine Tr.region ?_
                refine Tr.q (QS.move rfl) rfl ?_
                refine Tr.litN (E := encU8) [161, u8 i.a] (vs := [(0, _), (1, _)]) rfl rfl Tryz.underlying127 Tryz.sizeOf5 Tryz.zeroValue5 (by rfl) (by rfl) rfl (by first | kernel_rfl | rfl) rfl (fun V15 => ?_)
                refine Tr.q (QS.assign rfl) rfl ?_
                refine Tr.nil ?_
                refine Tr.thenN ?_
                refine Tr.ret ?_
                refine Tr.inR ?_
                refine Tr.thenR ?_
                refine Tr.ret1 Tryz.results148 rfl (fun w' hw => ?_)
                exact ⟨_, rfl, hw.below (Bg.le.refl _), by unfold plainP; (repeat (first | rw [if_pos (by first | assumption | omega | grind)] | rw [if_neg (by first | assumption | omega | grind)])); exact hw.new (.head _)⟩
              · try simp only [bs] at h14
                refine Tr.skip ?_
                refine Tr.inN ?_
                refine Tr.thenN ?_
                refine Tr.seq ?_
                refine Tr.region ?_
                refine Tr.q (QS.fieldAddr (off := 2) (ft := 3) rfl Tryz.underlying35 rfl rfl Tryz.sizeOf3 (by decide)) rfl ?_
                refine Tr.q (QS.lV rfl Tryz.isAgg3) rfl ?_
                refine Tr.q (QS.cvtTo8 rfl Tryz.underlying3 Tryz.underlying5) rfl ?_
                refine Tr.lit1 (E := encU8) _ rfl rfl Tryz.underlying127 Tryz.sizeOf5 Tryz.zeroValue5 (by rfl) (by rfl) rfl (fun V16 => ?_)
                refine Tr.q (QS.assign rfl) rfl ?_
                refine Tr.nil ?_
                refine Tr.thenN ?_
                refine Tr.ret ?_
                refine Tr.ret1 Tryz.results148 rfl (fun w' hw => ?_)
                exact ⟨_, rfl, hw.below (Bg.le.refl _), by unfold plainP; (repeat (first | rw [if_pos (by first | assumption | omega | grind)] | rw [if_neg (by first | assumption | omega | grind)])); exact hw.new (.head _)⟩
end Go.Proofs.YtmhbfelnjkhepaaGreat
namespace Go.Proofs.YtmhbfelnjkhepaaGreat
open Go Go.HL Go.RowKit
set_option maxRecDepth 100000 in
set_option maxHeartbeats 2000000 in
theorem bytesOf_any (i : Ins) (w : World) (hop : 0 ≤ i.op ∧ i.op ≤ 27) (hcc : -100 ≤ i.cc ∧ i.cc ≤ 100) (hwd : 0 ≤ i.width ∧ i.width ≤ 4) (ha : 0 ≤ i.a ∧ i.a ≤ 100) (hbb : 0 ≤ i.b ∧ i.b ≤ 100) :
    Calls Tryz.prog 115 #[.agg (encIns.enc i).toArray] w (fun e w' => ∃ V, e = .returned V ∧ Ext w w' ∧ NewRow w w' 5 encU8 (bytesP i) V) := by
  refine enter Tryz.func115 rfl Tryz.ntmps115 rfl ?_
  refine Tr.seq ?_
  refine Tr.region ?_
  refine Tr.box rfl rfl rfl (fun b1 => ?_)
  refine Tr.q (QS.assign rfl) rfl ?_
  refine Tr.nil ?_
  refine Tr.thenN ?_
  refine Tr.seq ?_
  refine Tr.region ?_
  refine Tr.q (QS.fieldAddr (off := 6) (ft := 3) rfl Tryz.underlying35 rfl rfl Tryz.sizeOf3 (by decide)) rfl ?_
  refine Tr.q (QS.lV rfl Tryz.isAgg3) rfl ?_
  refine Tr.q (QS.mulI rfl rfl (by omega)) rfl ?_
  refine Tr.q (QS.fieldAddr (off := 7) (ft := 3) rfl Tryz.underlying35 rfl rfl Tryz.sizeOf3 (by decide)) rfl ?_
  refine Tr.q (QS.lV rfl Tryz.isAgg3) rfl ?_
  refine Tr.q (QS.addI rfl rfl (by omega)) rfl ?_
  refine Tr.q (QS.cvtTo8 rfl Tryz.underlying3 Tryz.underlying5) rfl ?_
  refine Tr.q (QS.assign rfl) rfl ?_
  refine Tr.nil ?_
  refine Tr.thenN ?_
  refine Tr.seq ?_
  refine Tr.seq ?_
  refine Tr.region ?_
  refine Tr.q (QS.fieldAddr (off := 2) (ft := 3) rfl Tryz.underlying35 rfl rfl Tryz.sizeOf3 (by decide)) rfl ?_
  refine Tr.q (QS.lV rfl Tryz.isAgg3) rfl ?_
  refine Tr.q (QS.call rfl Tryz.call135 (fun w hw => isTwo_any i.op w)) rfl ?_
  refine Tr.nil ?_
  refine Tr.thenN ?_
  refine Tr.cond rfl (fun h2 => ?_) (fun h2 => ?_)
  · try simp only [bs] at h2
    refine Tr.seq ?_
    refine Tr.region ?_
    refine Tr.q (QS.fieldAddr (off := 2) (ft := 3) rfl Tryz.underlying35 rfl rfl Tryz.sizeOf3 (by decide)) rfl ?_
    refine Tr.q (QS.lV rfl Tryz.isAgg3) rfl ?_
    refine Tr.q (QS.subI rfl rfl (by omega)) rfl ?_
    refine Tr.q (QS.assign rfl) rfl ?_
    refine Tr.nil ?_
    refine Tr.thenN ?_
    refine Tr.seq ?_
    refine Tr.seq ?_
    refine Tr.region ?_
    refine Tr.q (QS.fieldAddr (off := 3) (ft := 3) rfl Tryz.underlying35 rfl rfl Tryz.sizeOf3 (by decide)) rfl ?_
    refine Tr.q (QS.lV rfl Tryz.isAgg3) rfl ?_
    refine Tr.q (QS.eql rfl rfl) rfl ?_
    refine Tr.nil ?_
    refine Tr.thenN ?_
    refine Tr.cond rfl (fun h3 => ?_) (fun h3 => ?_)
    · try simp only [bs] at h3
      refine Tr.seq ?_
      refine Tr.region ?_
      refine Tr.q (QS.move rfl) rfl ?_
      refine Tr.q (QS.addI rfl rfl (by omega)) rfl ?_
      refine Tr.q (QS.cvtTo8 rfl Tryz.underlying3 Tryz.underlying5) rfl ?_
      refine Tr.q (QS.move rfl) rfl ?_
      refine Tr.litN (E := encU8) [u8 (32 + (i.op - 5)), u8 (16 * i.a + i.b)] (vs := [(0, _), (1, _)]) rfl rfl Tryz.underlying127 Tryz.sizeOf5 Tryz.zeroValue5 (by rfl) (by rfl) rfl (by first | kernel_rfl | rfl) rfl (fun V4 => ?_)
      refine Tr.q (QS.assign rfl) rfl ?_
      refine Tr.nil ?_
      refine Tr.thenN ?_
      refine Tr.ret ?_
      refine Tr.thenR ?_
      refine Tr.thenR ?_
      refine Tr.ret1 Tryz.results115 rfl (fun w' hw => ?_)
      exact ⟨_, rfl, hw.below (Bg.le.refl _), by unfold bytesP; (repeat (first | rw [if_pos (by first | assumption | omega | grind)] | rw [if_neg (by first | assumption | omega | grind)])); exact hw.new (.head _)⟩
    · try simp only [bs] at h3
      refine Tr.skip ?_
      refine Tr.thenN ?_
      refine Tr.seq ?_
      refine Tr.seq ?_
      refine Tr.region ?_
      refine Tr.q (QS.fieldAddr (off := 3) (ft := 3) rfl Tryz.underlying35 rfl rfl Tryz.sizeOf3 (by decide)) rfl ?_
      refine Tr.q (QS.lV rfl Tryz.isAgg3) rfl ?_
      refine Tr.q (QS.eql rfl rfl) rfl ?_
      refine Tr.nil ?_
      refine Tr.thenN ?_
      refine Tr.cond rfl (fun h5 => ?_) (fun h5 => ?_)
      · try simp only [bs] at h5
        refine Tr.seq ?_
        refine Tr.region ?_
        refine Tr.q (QS.move rfl) rfl ?_
        refine Tr.q (QS.addI rfl rfl (by omega)) rfl ?_
        refine Tr.q (QS.cvtTo8 rfl Tryz.underlying3 Tryz.underlying5) rfl ?_
        refine Tr.q (QS.fieldAddr (off := 6) (ft := 3) rfl Tryz.underlying35 rfl rfl Tryz.sizeOf3 (by decide)) rfl ?_
        refine Tr.q (QS.lV rfl Tryz.isAgg3) rfl ?_
        refine Tr.q (QS.cvtTo8 rfl Tryz.underlying3 Tryz.underlying5) rfl ?_
        refine Tr.q (QS.fieldAddr (off := 1) (ft := 33) rfl Tryz.underlying35 rfl rfl Tryz.sizeOf33 (by decide)) rfl ?_
        refine Tr.q (QS.lV rfl Tryz.isAgg33) rfl ?_
        refine Tr.q (QS.rem32 (n := 256) rfl rfl (by first | decide | assumption)) rfl ?_
        refine Tr.q (QS.cvt32to8 rfl Tryz.underlying33 Tryz.underlying5) rfl ?_
        refine Tr.litN (E := encU8) [u8 (48 + (i.op - 5)), u8 i.a, (i.imm % 256).toUInt8] (vs := [(0, _), (1, _), (2, _)]) rfl rfl Tryz.underlying127 Tryz.sizeOf5 Tryz.zeroValue5 (by rfl) (by rfl) rfl (by first | kernel_rfl | rfl) rfl (fun V6 => ?_)
        refine Tr.q (QS.assign rfl) rfl ?_
        refine Tr.nil ?_
        refine Tr.thenN ?_
        refine Tr.ret ?_
        refine Tr.thenR ?_
        refine Tr.thenR ?_
        refine Tr.ret1 Tryz.results115 rfl (fun w' hw => ?_)
        exact ⟨_, rfl, hw.below (Bg.le.refl _), by unfold bytesP; (repeat (first | rw [if_pos (by first | assumption | omega | grind)] | rw [if_neg (by first | assumption | omega | grind)])); exact hw.new (.head _)⟩
      · try simp only [bs] at h5
        refine Tr.skip ?_
        refine Tr.thenN ?_
        refine Tr.seq ?_
        refine Tr.regionH ([cellE b1 (encIns.enc i) 35]) 12 rfl HLF.mixed ?_
        refine Tr.hT 0 rfl (by kernel_rfl) (panicThen (panicThen panicBody)) (QS.move rfl) ?_
        refine Tr.hT 1 rfl (by kernel_rfl) (panicThen (panicThen panicBody)) (QS.addI rfl rfl (by omega)) ?_
        refine Tr.hT 2 rfl (by kernel_rfl) (panicThen (panicThen panicBody)) (QS.cvtTo8 rfl Tryz.underlying3 Tryz.underlying5) ?_
        refine Tr.hT 3 rfl (by kernel_rfl) (panicThen (panicThen panicBody)) (QS.fieldAddr (off := 6) (ft := 3) rfl Tryz.underlying35 rfl rfl Tryz.sizeOf3 (by decide)) ?_
        refine Tr.hT 4 rfl (by kernel_rfl) (panicThen (panicThen panicBody)) (QS.lV rfl Tryz.isAgg3) ?_
        refine Tr.hT 5 rfl (by kernel_rfl) (panicThen (panicThen panicBody)) (QS.cvtTo8 rfl Tryz.underlying3 Tryz.underlying5) ?_
        refine Tr.hT 7 rfl (by kernel_rfl) (panicThen (panicThen panicBody)) (QS.fieldAddr (off := 1) (ft := 33) rfl Tryz.underlying35 rfl rfl Tryz.sizeOf33 (by decide)) ?_
        refine Tr.hT 8 rfl (by kernel_rfl) (panicThen (panicThen panicBody)) (QS.lV rfl Tryz.isAgg33) ?_
        refine Tr.hAll [6, 9] (by kernel_rfl) (by simp) (fun iq hq => ?_)
        rcases List.mem_cons.1 hq with rfl | hq
        · skip
          refine Tr.hOp rfl ?_
          refine Tr.litN (E := encU8) [u8 (64 + (i.op - 5)), u8 i.a] (vs := [(0, _), (1, _)]) rfl rfl Tryz.underlying127 Tryz.sizeOf5 Tryz.zeroValue5 (by rfl) (by rfl) rfl (by first | kernel_rfl | rfl) rfl (fun V7 => ?_)
          refine Tr.hN ?_
          refine Tr.hAll [9] (by kernel_rfl) (by simp) (fun iq hq => ?_)
          obtain rfl := List.mem_singleton.1 hq
          refine Tr.hOp rfl ?_
          refine Tr.callRow rfl Tryz.call146 (fun w hw => word_any i.imm w) rfl (fun V8 => ?_)
          refine Tr.hN ?_
          refine Tr.hAll [10] (by kernel_rfl) (by simp) (fun iq hq => ?_)
          obtain rfl := List.mem_singleton.1 hq
          refine Tr.hOp rfl ?_
          refine Tr.append1 rfl rfl (by repeat (first | exact Del.here _ | apply Del.there)) (by repeat (first | exact Del.here _ | apply Del.there)) Tryz.underlying127 HLF.info5 (by rfl) (by rfl) (by simp [wordP]) (by unfold maxLen; simp [wordP]) rfl (fun V9 => ?_)
          refine Tr.hN ?_
          refine Tr.hT 11 rfl (by kernel_rfl) (panicThen (panicThen panicBody)) (QS.assign rfl) ?_
          refine Tr.hDone (by kernel_rfl) ?_
          refine Tr.thenN ?_
          refine Tr.ret ?_
          refine Tr.thenR ?_
          refine Tr.ret1 Tryz.results115 rfl (fun w' hw => ?_)
          exact ⟨_, rfl, hw.below (Bg.le.refl _), by unfold bytesP; (repeat (first | rw [if_pos (by first | assumption | omega | grind)] | rw [if_neg (by first | assumption | omega | grind)])); exact hw.new (.head _)⟩
        obtain rfl := List.mem_singleton.1 hq
        refine Tr.hOp rfl ?_
        refine Tr.callRow rfl Tryz.call146 (fun w hw => word_any i.imm w) rfl (fun V10 => ?_)
        refine Tr.hN ?_
        refine Tr.hAll [6] (by kernel_rfl) (by simp) (fun iq hq => ?_)
        obtain rfl := List.mem_singleton.1 hq
        refine Tr.hOp rfl ?_
        refine Tr.litN (E := encU8) [u8 (64 + (i.op - 5)), u8 i.a] (vs := [(0, _), (1, _)]) rfl rfl Tryz.underlying127 Tryz.sizeOf5 Tryz.zeroValue5 (by rfl) (by rfl) rfl (by first | kernel_rfl | rfl) rfl (fun V11 => ?_)
        refine Tr.hN ?_
        refine Tr.hAll [10] (by kernel_rfl) (by simp) (fun iq hq => ?_)
        obtain rfl := List.mem_singleton.1 hq
        refine Tr.hOp rfl ?_
        refine Tr.append1 rfl rfl (by repeat (first | exact Del.here _ | apply Del.there)) (by repeat (first | exact Del.here _ | apply Del.there)) Tryz.underlying127 HLF.info5 (by rfl) (by rfl) (by simp [wordP]) (by unfold maxLen; simp [wordP]) rfl (fun V12 => ?_)
        refine Tr.hN ?_
        refine Tr.hT 11 rfl (by kernel_rfl) (panicThen (panicThen panicBody)) (QS.assign rfl) ?_
        refine Tr.hDone (by kernel_rfl) ?_
        refine Tr.thenN ?_
        refine Tr.ret ?_
        refine Tr.thenR ?_
        refine Tr.ret1 Tryz.results115 rfl (fun w' hw => ?_)
        exact ⟨_, rfl, hw.below (Bg.le.refl _), by unfold bytesP; (repeat (first | rw [if_pos (by first | assumption | omega | grind)] | rw [if_neg (by first | assumption | omega | grind)])); exact hw.new (.head _)⟩
  · try simp only [bs] at h2
    refine Tr.skip ?_
    refine Tr.thenN ?_
    refine Tr.seq ?_
    refine Tr.seq ?_
    refine Tr.region ?_
    refine Tr.q (QS.fieldAddr (off := 2) (ft := 3) rfl Tryz.underlying35 rfl rfl Tryz.sizeOf3 (by decide)) rfl ?_
    refine Tr.q (QS.lV rfl Tryz.isAgg3) rfl ?_
    refine Tr.q (QS.call rfl Tryz.call136 (fun w hw => isAccess_any i.op w)) rfl ?_
    refine Tr.nil ?_
    refine Tr.thenN ?_
    refine Tr.cond rfl (fun h13 => ?_) (fun h13 => ?_)
    · try simp only [bs] at h13
      refine Tr.seq ?_
      refine Tr.regionH ([cellE b1 (encIns.enc i) 35]) 10 rfl HLF.mixed ?_
      refine Tr.hT 0 rfl (by kernel_rfl) (panicThen (panicThen panicBody)) (QS.lW rfl Tryz.isAgg35 Tryz.sizeOf35) ?_
      refine Tr.hT 3 rfl (by kernel_rfl) (panicThen (panicThen panicBody)) (QS.move rfl) ?_
      refine Tr.hT 4 rfl (by kernel_rfl) (panicThen (panicThen panicBody)) (QS.fieldAddr (off := 1) (ft := 33) rfl Tryz.underlying35 rfl rfl Tryz.sizeOf33 (by decide)) ?_
      refine Tr.hT 5 rfl (by kernel_rfl) (panicThen (panicThen panicBody)) (QS.lV rfl Tryz.isAgg33) ?_
      refine Tr.hT 6 rfl (by kernel_rfl) (panicThen (panicThen panicBody)) (QS.rem32 (n := 256) rfl rfl (by first | decide | assumption)) ?_
      refine Tr.hT 7 rfl (by kernel_rfl) (panicThen (panicThen panicBody)) (QS.cvt32to8 rfl Tryz.underlying33 Tryz.underlying5) ?_
      refine Tr.hAll [1] (by kernel_rfl) (by simp) (fun iq hq => ?_)
      obtain rfl := List.mem_singleton.1 hq
      refine Tr.hOp rfl ?_
      refine Tr.q (QS.call rfl Tryz.call147 (fun w hw => accCode_any i w hwd)) rfl ?_
      refine Tr.hN ?_
      refine Tr.hT 2 rfl (by kernel_rfl) (panicThen (panicThen panicBody)) (QS.cvtTo8 rfl Tryz.underlying3 Tryz.underlying5) ?_
      refine Tr.hAll [8] (by kernel_rfl) (by simp) (fun iq hq => ?_)
      obtain rfl := List.mem_singleton.1 hq
      refine Tr.hOp rfl ?_
      refine Tr.litN (E := encU8) [u8 (accCodeP i), u8 (16 * i.a + i.b), (i.imm % 256).toUInt8] (vs := [(0, _), (1, _), (2, _)]) rfl rfl Tryz.underlying127 Tryz.sizeOf5 Tryz.zeroValue5 (by rfl) (by rfl) rfl (by first | kernel_rfl | rfl) rfl (fun V14 => ?_)
      refine Tr.hN ?_
      refine Tr.hT 9 rfl (by kernel_rfl) (panicThen (panicThen panicBody)) (QS.assign rfl) ?_
      refine Tr.hDone (by kernel_rfl) ?_
      refine Tr.thenN ?_
      refine Tr.ret ?_
      refine Tr.thenR ?_
      refine Tr.ret1 Tryz.results115 rfl (fun w' hw => ?_)
      exact ⟨_, rfl, hw.below (Bg.le.refl _), by unfold bytesP; (repeat (first | rw [if_pos (by first | assumption | omega | grind)] | rw [if_neg (by first | assumption | omega | grind)])); exact hw.new (.head _)⟩
    · try simp only [bs] at h13
      refine Tr.skip ?_
      refine Tr.thenN ?_
      refine Tr.seq ?_
      refine Tr.seq ?_
      refine Tr.region ?_
      refine Tr.q (QS.fieldAddr (off := 2) (ft := 3) rfl Tryz.underlying35 rfl rfl Tryz.sizeOf3 (by decide)) rfl ?_
      refine Tr.q (QS.lV rfl Tryz.isAgg3) rfl ?_
      refine Tr.nil ?_
      refine Tr.thenN ?_
      refine Tr.block ?_
      refine Tr.seq ?_
      refine Tr.region ?_
      refine Tr.q (QS.eql rfl rfl) rfl ?_
      refine Tr.q (QS.assign rfl) rfl ?_
      refine Tr.nil ?_
      refine Tr.thenN ?_
      refine Tr.cond rfl (fun h15 => ?_) (fun h15 => ?_)
      · try simp only [bs] at h15
        refine Tr.seq ?_
        refine Tr.region ?_
        refine Tr.q (QS.move rfl) rfl ?_
        refine Tr.q (QS.fieldAddr (off := 1) (ft := 33) rfl Tryz.underlying35 rfl rfl Tryz.sizeOf33 (by decide)) rfl ?_
        refine Tr.q (QS.lV rfl Tryz.isAgg33) rfl ?_
        refine Tr.q (QS.rem32 (n := 256) rfl rfl (by first | decide | assumption)) rfl ?_
        refine Tr.q (QS.cvt32to8 rfl Tryz.underlying33 Tryz.underlying5) rfl ?_
        refine Tr.litN (E := encU8) [90, u8 (16 * i.a + i.b), (i.imm % 256).toUInt8] (vs := [(0, _), (1, _), (2, _)]) rfl rfl Tryz.underlying127 Tryz.sizeOf5 Tryz.zeroValue5 (by rfl) (by rfl) rfl (by first | kernel_rfl | rfl) rfl (fun V16 => ?_)
        refine Tr.q (QS.assign rfl) rfl ?_
        refine Tr.nil ?_
        refine Tr.thenN ?_
        refine Tr.ret ?_
        refine Tr.inR ?_
        refine Tr.thenR ?_
        refine Tr.ret1 Tryz.results115 rfl (fun w' hw => ?_)
        exact ⟨_, rfl, hw.below (Bg.le.refl _), by unfold bytesP; (repeat (first | rw [if_pos (by first | assumption | omega | grind)] | rw [if_neg (by first | assumption | omega | grind)])); exact hw.new (.head _)⟩
      · try simp only [bs] at h15
        refine Tr.seq ?_
        refine Tr.region ?_
        refine Tr.q (QS.eql rfl rfl) rfl ?_
        refine Tr.q (QS.assign rfl) rfl ?_
        refine Tr.nil ?_
        refine Tr.thenN ?_
        refine Tr.cond rfl (fun h17 => ?_) (fun h17 => ?_)
        · try simp only [bs] at h17
          refine Tr.seq ?_
          refine Tr.seq ?_
          refine Tr.region ?_
          refine Tr.q (QS.fieldAddr (off := 3) (ft := 3) rfl Tryz.underlying35 rfl rfl Tryz.sizeOf3 (by decide)) rfl ?_
          refine Tr.q (QS.lV rfl Tryz.isAgg3) rfl ?_
          refine Tr.q (QS.eql rfl rfl) rfl ?_
          refine Tr.nil ?_
          refine Tr.thenN ?_
          refine Tr.cond rfl (fun h18 => ?_) (fun h18 => ?_)
          · try simp only [bs] at h18
            refine Tr.seq ?_
            refine Tr.region ?_
            refine Tr.q (QS.fieldAddr (off := 5) (ft := 3) rfl Tryz.underlying35 rfl rfl Tryz.sizeOf3 (by decide)) rfl ?_
            refine Tr.q (QS.lV rfl Tryz.isAgg3) rfl ?_
            refine Tr.q (QS.addI rfl rfl (by omega)) rfl ?_
            refine Tr.q (QS.cvtTo8 rfl Tryz.underlying3 Tryz.underlying5) rfl ?_
            refine Tr.q (QS.fieldAddr (off := 1) (ft := 33) rfl Tryz.underlying35 rfl rfl Tryz.sizeOf33 (by decide)) rfl ?_
            refine Tr.q (QS.lV rfl Tryz.isAgg33) rfl ?_
            refine Tr.q (QS.fieldAddr (off := 0) (ft := 33) rfl Tryz.underlying35 rfl rfl Tryz.sizeOf33 (by decide)) rfl ?_
            refine Tr.q (QS.lV rfl Tryz.isAgg33) rfl ?_
            refine Tr.q (QS.sub32 rfl rfl) rfl ?_
            refine Tr.q (QS.sub32 (n := 2) rfl rfl) rfl ?_
            refine Tr.q (QS.rem32 (n := 256) rfl rfl (by first | decide | assumption)) rfl ?_
            refine Tr.q (QS.cvt32to8 rfl Tryz.underlying33 Tryz.underlying5) rfl ?_
            refine Tr.litN (E := encU8) [u8 (96 + i.cc), ((i.imm - i.addr - 2) % 256).toUInt8] (vs := [(0, _), (1, _)]) rfl rfl Tryz.underlying127 Tryz.sizeOf5 Tryz.zeroValue5 (by rfl) (by rfl) rfl (by first | kernel_rfl | rfl) rfl (fun V19 => ?_)
            refine Tr.q (QS.assign rfl) rfl ?_
            refine Tr.nil ?_
            refine Tr.thenN ?_
            refine Tr.ret ?_
            refine Tr.thenR ?_
            refine Tr.inR ?_
            refine Tr.thenR ?_
            refine Tr.ret1 Tryz.results115 rfl (fun w' hw => ?_)
            exact ⟨_, rfl, hw.below (Bg.le.refl _), by unfold bytesP; (repeat (first | rw [if_pos (by first | assumption | omega | grind)] | rw [if_neg (by first | assumption | omega | grind)])); exact hw.new (.head _)⟩
          · try simp only [bs] at h18
            refine Tr.skip ?_
            refine Tr.thenN ?_
            refine Tr.seq ?_
            refine Tr.regionH ([cellE b1 (encIns.enc i) 35]) 14 rfl HLF.mixed ?_
            refine Tr.hT 0 rfl (by kernel_rfl) (panicThen (panicIn (panicThen panicBody))) (QS.fieldAddr (off := 5) (ft := 3) rfl Tryz.underlying35 rfl rfl Tryz.sizeOf3 (by decide)) ?_
            refine Tr.hT 1 rfl (by kernel_rfl) (panicThen (panicIn (panicThen panicBody))) (QS.lV rfl Tryz.isAgg3) ?_
            refine Tr.hT 2 rfl (by kernel_rfl) (panicThen (panicIn (panicThen panicBody))) (QS.addI rfl rfl (by omega)) ?_
            refine Tr.hT 3 rfl (by kernel_rfl) (panicThen (panicIn (panicThen panicBody))) (QS.cvtTo8 rfl Tryz.underlying3 Tryz.underlying5) ?_
            refine Tr.hT 5 rfl (by kernel_rfl) (panicThen (panicIn (panicThen panicBody))) (QS.fieldAddr (off := 1) (ft := 33) rfl Tryz.underlying35 rfl rfl Tryz.sizeOf33 (by decide)) ?_
            refine Tr.hT 6 rfl (by kernel_rfl) (panicThen (panicIn (panicThen panicBody))) (QS.lV rfl Tryz.isAgg33) ?_
            refine Tr.hT 7 rfl (by kernel_rfl) (panicThen (panicIn (panicThen panicBody))) (QS.fieldAddr (off := 0) (ft := 33) rfl Tryz.underlying35 rfl rfl Tryz.sizeOf33 (by decide)) ?_
            refine Tr.hT 8 rfl (by kernel_rfl) (panicThen (panicIn (panicThen panicBody))) (QS.lV rfl Tryz.isAgg33) ?_
            refine Tr.hT 9 rfl (by kernel_rfl) (panicThen (panicIn (panicThen panicBody))) (QS.sub32 rfl rfl) ?_
            refine Tr.hT 10 rfl (by kernel_rfl) (panicThen (panicIn (panicThen panicBody))) (QS.sub32 (n := 5) rfl rfl) ?_
            refine Tr.hAll [4, 11] (by kernel_rfl) (by simp) (fun iq hq => ?_)
            rcases List.mem_cons.1 hq with rfl | hq
            · skip
              refine Tr.hOp rfl ?_
              refine Tr.lit1 (E := encU8) _ rfl rfl Tryz.underlying127 Tryz.sizeOf5 Tryz.zeroValue5 (by rfl) (by rfl) rfl (fun V20 => ?_)
              refine Tr.hN ?_
              refine Tr.hAll [11] (by kernel_rfl) (by simp) (fun iq hq => ?_)
              obtain rfl := List.mem_singleton.1 hq
              refine Tr.hOp rfl ?_
              refine Tr.callRow rfl Tryz.call146 (fun w hw => word_any (i.imm - i.addr - 5) w) rfl (fun V21 => ?_)
              refine Tr.hN ?_
              refine Tr.hAll [12] (by kernel_rfl) (by simp) (fun iq hq => ?_)
              obtain rfl := List.mem_singleton.1 hq
              refine Tr.hOp rfl ?_
              refine Tr.append1 rfl rfl (by repeat (first | exact Del.here _ | apply Del.there)) (by repeat (first | exact Del.here _ | apply Del.there)) Tryz.underlying127 HLF.info5 (by rfl) (by rfl) (by simp [wordP]) (by unfold maxLen; simp [wordP]) rfl (fun V22 => ?_)
              refine Tr.hN ?_
              refine Tr.hT 13 rfl (by kernel_rfl) (panicThen (panicIn (panicThen panicBody))) (QS.assign rfl) ?_
              refine Tr.hDone (by kernel_rfl) ?_
              refine Tr.thenN ?_
              refine Tr.ret ?_
              refine Tr.inR ?_
              refine Tr.thenR ?_
              refine Tr.ret1 Tryz.results115 rfl (fun w' hw => ?_)
              exact ⟨_, rfl, hw.below (Bg.le.refl _), by unfold bytesP; (repeat (first | rw [if_pos (by first | assumption | omega | grind)] | rw [if_neg (by first | assumption | omega | grind)])); exact hw.new (.head _)⟩
            obtain rfl := List.mem_singleton.1 hq
            refine Tr.hOp rfl ?_
            refine Tr.callRow rfl Tryz.call146 (fun w hw => word_any (i.imm - i.addr - 5) w) rfl (fun V23 => ?_)
            refine Tr.hN ?_
            refine Tr.hAll [4] (by kernel_rfl) (by simp) (fun iq hq => ?_)
            obtain rfl := List.mem_singleton.1 hq
            refine Tr.hOp rfl ?_
            refine Tr.lit1 (E := encU8) _ rfl rfl Tryz.underlying127 Tryz.sizeOf5 Tryz.zeroValue5 (by rfl) (by rfl) rfl (fun V24 => ?_)
            refine Tr.hN ?_
            refine Tr.hAll [12] (by kernel_rfl) (by simp) (fun iq hq => ?_)
            obtain rfl := List.mem_singleton.1 hq
            refine Tr.hOp rfl ?_
            refine Tr.append1 rfl rfl (by repeat (first | exact Del.here _ | apply Del.there)) (by repeat (first | exact Del.here _ | apply Del.there)) Tryz.underlying127 HLF.info5 (by rfl) (by rfl) (by simp [wordP]) (by unfold maxLen; simp [wordP]) rfl (fun V25 => ?_)
            refine Tr.hN ?_
            refine Tr.hT 13 rfl (by kernel_rfl) (panicThen (panicIn (panicThen panicBody))) (QS.assign rfl) ?_
            refine Tr.hDone (by kernel_rfl) ?_
            refine Tr.thenN ?_
            refine Tr.ret ?_
            refine Tr.inR ?_
            refine Tr.thenR ?_
            refine Tr.ret1 Tryz.results115 rfl (fun w' hw => ?_)
            exact ⟨_, rfl, hw.below (Bg.le.refl _), by unfold bytesP; (repeat (first | rw [if_pos (by first | assumption | omega | grind)] | rw [if_neg (by first | assumption | omega | grind)])); exact hw.new (.head _)⟩
        · try simp only [bs] at h17
          refine Tr.seq ?_
          refine Tr.region ?_
          refine Tr.q (QS.eql rfl rfl) rfl ?_
          refine Tr.q (QS.assign rfl) rfl ?_
          refine Tr.nil ?_
          refine Tr.thenN ?_
          refine Tr.cond rfl (fun h26 => ?_) (fun h26 => ?_)
          · try simp only [bs] at h26
            refine Tr.seq ?_
            refine Tr.region ?_
            refine Tr.lit1 (E := encU8) (128 : UInt8) rfl rfl Tryz.underlying127 Tryz.sizeOf5 Tryz.zeroValue5 (by rfl) (by rfl) rfl (fun V27 => ?_)
            refine Tr.q (QS.fieldAddr (off := 1) (ft := 33) rfl Tryz.underlying35 rfl rfl Tryz.sizeOf33 (by decide)) rfl ?_
            refine Tr.q (QS.lV rfl Tryz.isAgg33) rfl ?_
            refine Tr.q (QS.fieldAddr (off := 0) (ft := 33) rfl Tryz.underlying35 rfl rfl Tryz.sizeOf33 (by decide)) rfl ?_
            refine Tr.q (QS.lV rfl Tryz.isAgg33) rfl ?_
            refine Tr.q (QS.sub32 rfl rfl) rfl ?_
            refine Tr.q (QS.sub32 (n := 5) rfl rfl) rfl ?_
            refine Tr.callRow rfl Tryz.call146 (fun w hw => word_any (i.imm - i.addr - 5) w) rfl (fun V28 => ?_)
            refine Tr.append1 rfl rfl (by repeat (first | exact Del.here _ | apply Del.there)) (by repeat (first | exact Del.here _ | apply Del.there)) Tryz.underlying127 HLF.info5 (by rfl) (by rfl) (by simp [wordP]) (by unfold maxLen; simp [wordP]) rfl (fun V29 => ?_)
            refine Tr.q (QS.assign rfl) rfl ?_
            refine Tr.nil ?_
            refine Tr.thenN ?_
            refine Tr.ret ?_
            refine Tr.inR ?_
            refine Tr.thenR ?_
            refine Tr.ret1 Tryz.results115 rfl (fun w' hw => ?_)
            exact ⟨_, rfl, hw.below (Bg.le.refl _), by unfold bytesP; (repeat (first | rw [if_pos (by first | assumption | omega | grind)] | rw [if_neg (by first | assumption | omega | grind)])); exact hw.new (.head _)⟩
          · try simp only [bs] at h26
            refine Tr.seq ?_
            refine Tr.region ?_
            refine Tr.q (QS.eql rfl rfl) rfl ?_
            refine Tr.q (QS.assign rfl) rfl ?_
            refine Tr.nil ?_
            refine Tr.thenN ?_
            refine Tr.cond rfl (fun h30 => ?_) (fun h30 => ?_)
            · try simp only [bs] at h30
              refine Tr.seq ?_
              refine Tr.regionH ([cellE b1 (encIns.enc i) 35]) 9 rfl HLF.mixed ?_
              refine Tr.hT 0 rfl (by kernel_rfl) (panicThen (panicIn (panicThen panicBody))) (QS.fieldAddr (off := 6) (ft := 3) rfl Tryz.underlying35 rfl rfl Tryz.sizeOf3 (by decide)) ?_
              refine Tr.hT 1 rfl (by kernel_rfl) (panicThen (panicIn (panicThen panicBody))) (QS.lV rfl Tryz.isAgg3) ?_
              refine Tr.hT 2 rfl (by kernel_rfl) (panicThen (panicIn (panicThen panicBody))) (QS.cvtTo8 rfl Tryz.underlying3 Tryz.underlying5) ?_
              refine Tr.hT 4 rfl (by kernel_rfl) (panicThen (panicIn (panicThen panicBody))) (QS.fieldAddr (off := 1) (ft := 33) rfl Tryz.underlying35 rfl rfl Tryz.sizeOf33 (by decide)) ?_
              refine Tr.hT 5 rfl (by kernel_rfl) (panicThen (panicIn (panicThen panicBody))) (QS.lV rfl Tryz.isAgg33) ?_
              refine Tr.hAll [3, 6] (by kernel_rfl) (by simp) (fun iq hq => ?_)
              rcases List.mem_cons.1 hq with rfl | hq
              · skip
                refine Tr.hOp rfl ?_
                refine Tr.litN (E := encU8) [131, u8 i.a] (vs := [(0, _), (1, _)]) rfl rfl Tryz.underlying127 Tryz.sizeOf5 Tryz.zeroValue5 (by rfl) (by rfl) rfl (by first | kernel_rfl | rfl) rfl (fun V31 => ?_)
                refine Tr.hN ?_
                refine Tr.hAll [6] (by kernel_rfl) (by simp) (fun iq hq => ?_)
                obtain rfl := List.mem_singleton.1 hq
                refine Tr.hOp rfl ?_
                refine Tr.callRow rfl Tryz.call146 (fun w hw => word_any i.imm w) rfl (fun V32 => ?_)
                refine Tr.hN ?_
                refine Tr.hAll [7] (by kernel_rfl) (by simp) (fun iq hq => ?_)
                obtain rfl := List.mem_singleton.1 hq
                refine Tr.hOp rfl ?_
                refine Tr.append1 rfl rfl (by repeat (first | exact Del.here _ | apply Del.there)) (by repeat (first | exact Del.here _ | apply Del.there)) Tryz.underlying127 HLF.info5 (by rfl) (by rfl) (by simp [wordP]) (by unfold maxLen; simp [wordP]) rfl (fun V33 => ?_)
                refine Tr.hN ?_
                refine Tr.hT 8 rfl (by kernel_rfl) (panicThen (panicIn (panicThen panicBody))) (QS.assign rfl) ?_
                refine Tr.hDone (by kernel_rfl) ?_
                refine Tr.thenN ?_
                refine Tr.ret ?_
                refine Tr.inR ?_
                refine Tr.thenR ?_
                refine Tr.ret1 Tryz.results115 rfl (fun w' hw => ?_)
                exact ⟨_, rfl, hw.below (Bg.le.refl _), by unfold bytesP; (repeat (first | rw [if_pos (by first | assumption | omega | grind)] | rw [if_neg (by first | assumption | omega | grind)])); exact hw.new (.head _)⟩
              obtain rfl := List.mem_singleton.1 hq
              refine Tr.hOp rfl ?_
              refine Tr.callRow rfl Tryz.call146 (fun w hw => word_any i.imm w) rfl (fun V34 => ?_)
              refine Tr.hN ?_
              refine Tr.hAll [3] (by kernel_rfl) (by simp) (fun iq hq => ?_)
              obtain rfl := List.mem_singleton.1 hq
              refine Tr.hOp rfl ?_
              refine Tr.litN (E := encU8) [131, u8 i.a] (vs := [(0, _), (1, _)]) rfl rfl Tryz.underlying127 Tryz.sizeOf5 Tryz.zeroValue5 (by rfl) (by rfl) rfl (by first | kernel_rfl | rfl) rfl (fun V35 => ?_)
              refine Tr.hN ?_
              refine Tr.hAll [7] (by kernel_rfl) (by simp) (fun iq hq => ?_)
              obtain rfl := List.mem_singleton.1 hq
              refine Tr.hOp rfl ?_
              refine Tr.append1 rfl rfl (by repeat (first | exact Del.here _ | apply Del.there)) (by repeat (first | exact Del.here _ | apply Del.there)) Tryz.underlying127 HLF.info5 (by rfl) (by rfl) (by simp [wordP]) (by unfold maxLen; simp [wordP]) rfl (fun V36 => ?_)
              refine Tr.hN ?_
              refine Tr.hT 8 rfl (by kernel_rfl) (panicThen (panicIn (panicThen panicBody))) (QS.assign rfl) ?_
              refine Tr.hDone (by kernel_rfl) ?_
              refine Tr.thenN ?_
              refine Tr.ret ?_
              refine Tr.inR ?_
              refine Tr.thenR ?_
              refine Tr.ret1 Tryz.results115 rfl (fun w' hw => ?_)
              exact ⟨_, rfl, hw.below (Bg.le.refl _), by unfold bytesP; (repeat (first | rw [if_pos (by first | assumption | omega | grind)] | rw [if_neg (by first | assumption | omega | grind)])); exact hw.new (.head _)⟩
            · try simp only [bs] at h30
              refine Tr.skip ?_
              refine Tr.inN ?_
              refine Tr.thenN ?_
              refine Tr.seq ?_
              refine Tr.region ?_
              refine Tr.q (QS.lW rfl Tryz.isAgg35 Tryz.sizeOf35) rfl ?_
              refine Tr.callRow rfl Tryz.call148 (fun w hw => plain_any i w hcc) rfl (fun V37 => ?_)
              refine Tr.q (QS.assign rfl) rfl ?_
              refine Tr.nil ?_
              refine Tr.thenN ?_
              refine Tr.ret ?_
              refine Tr.ret1 Tryz.results115 rfl (fun w' hw => ?_)
              exact ⟨_, rfl, hw.below (Bg.le.refl _), by unfold bytesP; (repeat (first | rw [if_pos (by first | assumption | omega | grind)] | rw [if_neg (by first | assumption | omega | grind)])); exact hw.new (.head _)⟩
set_option maxRecDepth 100000 in
set_option maxHeartbeats 2000000 in
theorem refLength_any (i : Ins) (w : World) (hI : InsOK i) :
    Calls Tryz.prog 87 #[.agg (encIns.enc i).toArray] w (fun e w' => e = .returned (.int .i64 (refLenP i)) ∧ Ext w w') := by
  refine enter Tryz.func87 rfl Tryz.ntmps87 rfl ?_
  refine Tr.seq ?_
  refine Tr.region ?_
  refine Tr.box rfl rfl rfl (fun b1 => ?_)
  refine Tr.q (QS.assign rfl) rfl ?_
  refine Tr.nil ?_
  refine Tr.thenN ?_
  refine Tr.seq ?_
  refine Tr.seq ?_
  refine Tr.region ?_
  refine Tr.q (QS.lW rfl Tryz.isAgg35 Tryz.sizeOf35) rfl ?_
  refine Tr.q (QS.call rfl Tryz.call84 (fun w hw => refValid_any i w)) rfl ?_
  refine Tr.q (QS.not rfl) rfl ?_
  refine Tr.nil ?_
  refine Tr.thenN ?_
  refine Tr.cond rfl (fun h2 => ?_) (fun h2 => ?_)
  · try simp only [bs] at h2
    refine Tr.seq ?_
    refine Tr.region ?_
    refine Tr.q (QS.assign rfl) rfl ?_
    refine Tr.nil ?_
    refine Tr.thenN ?_
    refine Tr.ret ?_
    refine Tr.thenR ?_
    refine Tr.ret1 Tryz.results87 rfl (fun w' hw => ?_)
    exact ⟨by unfold refLenP; rw [if_neg (by assumption)], hw.below (Bg.le.refl _)⟩
  · try simp only [bs] at h2
    refine Tr.skip ?_
    refine Tr.thenN ?_
    refine Tr.seq ?_
    have he : refErrP i = 0 := (by first | assumption | grind)
    have hv := refErr_valid he
    refine Tr.region ?_
    refine Tr.q (QS.lW rfl Tryz.isAgg35 Tryz.sizeOf35) rfl ?_
    refine Tr.callRow rfl Tryz.call115 (fun w hw => bytesOf_any i w hv.1 hv.2.1 hv.2.2.1 hv.2.2.2.1 hv.2.2.2.2) rfl (fun V3 => ?_)
    refine Tr.q (QS.lenRow rfl (by repeat (first | exact List.Mem.head _ | apply List.Mem.tail)) Tryz.underlying127) rfl ?_
    refine Tr.q (QS.assign rfl) rfl ?_
    refine Tr.nil ?_
    refine Tr.thenN ?_
    refine Tr.ret ?_
    refine Tr.ret1 Tryz.results87 rfl (fun w' hw => ?_)
    exact ⟨by unfold refLenP; rw [if_pos he], hw.below (Bg.le.refl _)⟩
set_option maxRecDepth 100000 in
set_option maxHeartbeats 2000000 in
theorem refTarget_any (i : Ins) (w : World) :
    Calls Tryz.prog 90 #[.agg (encIns.enc i).toArray] w (fun e w' => e = .returned (.tuple #[.int .u32 (targetP i).1.toNat, .bool (targetP i).2]) ∧ Ext w w') := by
  refine enter Tryz.func90 rfl Tryz.ntmps90 rfl ?_
  refine Tr.seq ?_
  refine Tr.region ?_
  refine Tr.box rfl rfl rfl (fun b1 => ?_)
  refine Tr.q (QS.assign rfl) rfl ?_
  refine Tr.q (QS.assign rfl) rfl ?_
  refine Tr.nil ?_
  refine Tr.thenN ?_
  refine Tr.seq ?_
  refine Tr.seq ?_
  refine Tr.region ?_
  refine Tr.q (QS.fieldAddr (off := 2) (ft := 3) rfl Tryz.underlying35 rfl rfl Tryz.sizeOf3 (by decide)) rfl ?_
  refine Tr.q (QS.lV rfl Tryz.isAgg3) rfl ?_
  refine Tr.q (QS.eql rfl rfl) rfl ?_
  refine Tr.q (QS.move rfl) rfl ?_
  apply Tr.orP
  · exact (rfl : _ = (4, 7, 11))
  · exact rfl
  · intro hF2; have hF2' := hF2
    try simp only [bs] at hF2'
    refine Tr.gq rfl rfl hF2 (QS.fieldAddr (off := 2) (ft := 3) rfl Tryz.underlying35 rfl rfl Tryz.sizeOf3 (by decide)) rfl ?_
    refine Tr.gq rfl rfl hF2 (QS.lV rfl Tryz.isAgg3) rfl ?_
    refine Tr.gq rfl rfl hF2 (QS.eql rfl rfl) rfl ?_
    refine Tr.q (QS.pickF rfl hF2 rfl) rfl ?_
    refine Tr.nil (Tr.thenN ?_)
    exact Tr.endX (Sub.cons rfl (Sub.dropN 4 (by kernel_rfl) rfl))
  · intro hT2
    refine Tr.gskip rfl rfl hT2 rfl ?_
    refine Tr.gskip rfl rfl hT2 rfl ?_
    refine Tr.gskip rfl rfl hT2 rfl ?_
    refine Tr.q (QS.pickT rfl hT2 rfl) rfl ?_
    refine Tr.nil (Tr.thenN ?_)
    exact Tr.endX (Sub.cons rfl (Sub.dropN 4 (by kernel_rfl) rfl))
  refine Tr.nil ?_
  refine Tr.thenN ?_
  refine Tr.cond rfl (fun h3 => ?_) (fun h3 => ?_)
  · try simp only [bs] at h3
    refine Tr.seq ?_
    refine Tr.region ?_
    refine Tr.q (QS.fieldAddr (off := 1) (ft := 33) rfl Tryz.underlying35 rfl rfl Tryz.sizeOf33 (by decide)) rfl ?_
    refine Tr.q (QS.lV rfl Tryz.isAgg33) rfl ?_
    refine Tr.q (QS.assign rfl) rfl ?_
    refine Tr.q (QS.assign rfl) rfl ?_
    refine Tr.nil ?_
    refine Tr.thenN ?_
    refine Tr.ret ?_
    refine Tr.thenR ?_
    refine Tr.ret2 Tryz.results90 rfl rfl (fun w' hw => ?_)
    exact ⟨by clear hw; unfold targetP; (repeat (first | rw [if_pos (by first | assumption | omega | grind)] | rw [if_neg (by first | assumption | omega | grind)])) <;> rfl, hw.below (Bg.le.refl _)⟩
  · try simp only [bs] at h3
    refine Tr.skip ?_
    refine Tr.thenN ?_
    refine Tr.seq ?_
    refine Tr.region ?_
    refine Tr.q (QS.assign rfl) rfl ?_
    refine Tr.q (QS.assign rfl) rfl ?_
    refine Tr.nil ?_
    refine Tr.thenN ?_
    refine Tr.ret ?_
    refine Tr.ret2 Tryz.results90 rfl rfl (fun w' hw => ?_)
    exact ⟨by clear hw; unfold targetP; (repeat (first | rw [if_pos (by first | assumption | omega | grind)] | rw [if_neg (by first | assumption | omega | grind)])) <;> rfl, hw.below (Bg.le.refl _)⟩
end Go.Proofs.YtmhbfelnjkhepaaGreat
namespace Go.HL
open Go Go.Sort
open Go.Proofs (ltOf)
end Go.HL
namespace Go.HL
open Go Go.Sort
theorem atS_yes {kept : List Ins} {a : UInt32} {k : Nat} (h : k < kept.length) (hc : (kept.getD k default).addr = a) : atS (kept.take (k + 1)) a = atS (kept.take k) a ++ [a] := by
  unfold atS
  rw [filter_take_pos h (decide_eq_true hc), List.map_append]; rfl
theorem atS_no {kept : List Ins} {a : UInt32} {k : Nat} (h : k < kept.length) (hc : ¬ (kept.getD k default).addr = a) : atS (kept.take (k + 1)) a = atS (kept.take k) a := by
  unfold atS
  rw [filter_take_neg h (decide_eq_false hc)]
theorem atS_len (kept : List Ins) (a : UInt32) : (atS kept a).length ≤ kept.length := by unfold atS; rw [List.length_map]; exact List.length_filter_le _ _
theorem at_len (l : List UInt32) (kept : List Ins) : ∀ k, (atR l kept k).length ≤ k * kept.length
  | 0 => by simp [atR]
  | k + 1 => by
    rcases Nat.lt_or_ge k l.length with h | h
    · rw [at_succ h, List.length_append, Nat.add_mul]
      have h1 := at_len l kept k
      have h2 := atS_len kept (l.getD k default)
      omega
    · have h1 := at_len l kept k
      have e : atR l kept (k + 1) = atR l kept k := by unfold atR; rw [List.take_of_length_le h, List.take_of_length_le (by omega)]
      rw [e, Nat.add_mul]; omega
theorem rresS_len (ents : List UInt32) (l : List Ins) (g : Int) (s : RS) (x : Ins) : (rresS ents l g s x).1.length ≤ s.1.length + 1 ∧ (rresS ents l g s x).2.length ≤ s.2.length + 1 := by
  unfold rresS rres1
  split
  · omega
  · split
    · simp
    · have := insR_len ltU s.2 x.addr
      unfold insU; simp only; omega
theorem rresG_len (ents : List UInt32) (l : List Ins) (g : Int) (s : RS) : ∀ k, (rresG ents l g s k).1.length ≤ s.1.length + k ∧ (rresG ents l g s k).2.length ≤ s.2.length + k
  | 0 => by simp [rresG]
  | k + 1 => by
    have ih := rresG_len ents l g s k
    rcases Nat.lt_or_ge k l.length with h | h
    · rw [rresG_succ h]
      have := rresS_len ents l g (rresG ents l g s k) (l.getD k default)
      omega
    · have e : rresG ents l g s (k + 1) = rresG ents l g s k := by unfold rresG; rw [List.take_of_length_le h, List.take_of_length_le (by omega)]
      rw [e]; omega
theorem rres3_len (ents : List UInt32) (l : List Ins) : ∀ g, (rres3 ents l g).1.length ≤ g * l.length ∧ (rres3 ents l g).2.length ≤ g * l.length
  | 0 => by simp [rres3]
  | g + 1 => by
    have ih := rres3_len ents l g
    have := rresG_len ents l (g : Int) (rres3 ents l g) l.length
    unfold rres3
    rw [Nat.add_mul]; omega
theorem rresG_sub (ents : List UInt32) (l : List Ins) (g : Int) (s : RS) : ∀ k x, x ∈ (rresG ents l g s k).1 → x ∈ s.1 ∨ x ∈ l
  | 0, x, h => .inl h
  | k + 1, x, h => by
    rcases Nat.lt_or_ge k l.length with c | c
    · rw [rresG_succ c] at h
      unfold rresS rres1 at h
      split at h
      · exact rresG_sub ents l g s k x h
      · split at h
        · rcases List.mem_append.1 h with h | h
          · exact rresG_sub ents l g s k x h
          · simp only [List.mem_singleton] at h; subst h; exact .inr (mem_getD c)
        · exact rresG_sub ents l g s k x h
    · have e : rresG ents l g s (k + 1) = rresG ents l g s k := by unfold rresG; rw [List.take_of_length_le c, List.take_of_length_le (by omega)]
      rw [e] at h; exact rresG_sub ents l g s k x h
theorem rres3_sub (ents : List UInt32) (l : List Ins) : ∀ g x, x ∈ (rres3 ents l g).1 → x ∈ l
  | 0, x, h => by simp [rres3] at h
  | g + 1, x, h => by
    rcases rresG_sub ents l (g : Int) (rres3 ents l g) l.length x h with h | h
    · exact rres3_sub ents l g x h
    · exact h
theorem rcnt_sub (l : List Ins) : ∀ k x, x ∈ rcntK l k → k ≤ l.length → x ∈ l := fun k x h hk => by
  have := ((rcnt_ok l k hk).2 x).1 h
  rcases cnt_sub (l.take k) [] x this with h | h
  · cases h
  · exact List.mem_of_mem_take h
end Go.HL
namespace Go.HL
open Go Go.Sort
def SA (l : List UInt32) : Prop := l.Pairwise fun x y => x.toNat < y.toNat
theorem SA.nodup {l : List UInt32} (h : SA l) : l.Nodup := h.imp fun {a b} q e => by rw [e] at q; omega
theorem SA.lt {l : List UInt32} (h : SA l) {i j : Nat} (hij : i < j) (hj : j < l.length) : (l.getD i default).toNat < (l.getD j default).toNat := by
  have := List.pairwise_iff_getElem.1 h i j (by omega) hj hij
  simpa [List.getD_eq_getElem?_getD, hj, show i < l.length by omega] using this
/-- No cut lies inside a gap. -/
theorem SA.out {l : List UInt32} (h : SA l) {i : Nat} (hi : i + 1 < l.length) {x : UInt32} (hx : x ∈ l) : x.toNat ≤ (l.getD i default).toNat ∨ (l.getD (i + 1) default).toNat ≤ x.toNat := by
  obtain ⟨j, hj, rfl⟩ := List.mem_iff_getElem.1 hx
  have e : l[j] = l.getD j default := by simp [List.getD_eq_getElem?_getD, hj]
  rw [e]
  rcases Nat.lt_trichotomy j i with h1 | rfl | h1
  · exact .inl (Nat.le_of_lt (h.lt h1 (by omega)))
  · exact .inl (Nat.le_refl _)
  · rcases Nat.lt_or_ge (i + 1) j with h2 | h2
    · exact .inr (Nat.le_of_lt (h.lt h2 hj))
    · rw [show j = i + 1 by omega]; exact .inr (Nat.le_refl _)
end Go.HL
namespace Go.Proofs.YtmhbfelnjkhepaaGreat
open Go Go.HL Go.RowKit
theorem validR_any (i : Ins) (w : World) : Calls Tryz.prog 84 #[.agg (encIns.enc i).toArray] w (fun e w' => e = .returned (.bool (decide (errP i = 0))) ∧ Ext w w') := by
  have h := refValid_any i w
  rw [err_ref] at h; exact h
theorem lengthR_any (i : Ins) (w : World) (hI : InsOK i) : Calls Tryz.prog 87 #[.agg (encIns.enc i).toArray] w (fun e w' => e = .returned (.int .i64 (lengthPI i)) ∧ Ext w w') := by
  have h := refLength_any i w hI
  rw [len_ref] at h; exact h
set_option maxRecDepth 100000 in
set_option maxHeartbeats 2000000 in
theorem has12_any (l : List UInt32) (V : Value) (a : UInt32) (w : World) (hV : Sl (hp w) encU32 l V) :
    Calls Tryz.prog 17 #[V, .int .u32 a.toNat] w (fun e w' => e = .returned (.bool (hasU l a)) ∧ Ext w w') := by
  have hV' : Sl (Bg.of w).blk encU32 l V := hV
  have hlen := hV.len_le
  refine enter Tryz.func17 rfl Tryz.ntmps17 rfl ?_
  refine Tr.seq ?_
  refine Tr.region ?_
  refine Tr.q (QS.assign rfl) rfl ?_
  refine Tr.nil ?_
  refine Tr.thenN ?_
  refine Tr.seq ?_
  refine Tr.seq ?_
  refine Tr.region ?_
  refine Tr.q (QS.assign rfl) rfl ?_
  refine Tr.nil ?_
  refine Tr.thenN ?_
  refine Tr.block ?_
  refine Tr.loop (ι := Nat) (fun k => k ≤ l.length ∧ (l.take k).any (fun x => decide (a = x)) = false) (fun _ => _) (fun k => []) (fun k => [(5, .int .i64 (k : Nat))]) (fun k => l.length - k) 0 ⟨Nat.zero_le _, rfl⟩ (.cons (by first | rfl | exact lookI rfl (by omega) | exact lookI rfl (by simp) | exact lookB rfl (by simp)) Front.nil) (by repeat' (first | exact Pick.nil _ | exact Del.here _ | apply Pick.cons | apply Del.there)) rfl (fun k hi m hm => ?_)
  replace hi : k ≤ l.length ∧ (l.take k).any (fun x => decide (a = x)) = false := hi
  replace hm : m = l.length - k := hm
  change Tr _ _ [] ([(5, .int .i64 (k : Nat))] ++ _) _
  obtain ⟨hk1, hk2⟩ := hi
  refine Tr.seq ?_
  refine Tr.seq ?_
  refine Tr.region ?_
  refine Tr.q (QS.move rfl) rfl ?_
  refine Tr.q (QS.move rfl) rfl ?_
  refine Tr.q (QS.len rfl (by assumption) Tryz.underlying23) rfl ?_
  refine Tr.q (QS.lss rfl rfl) rfl ?_
  refine Tr.nil ?_
  refine Tr.thenN ?_
  refine Tr.cond rfl (fun h1 => ?_) (fun h1 => ?_)
  · try simp only [bs] at h1
    refine Tr.skip ?_
    refine Tr.thenN ?_
    refine Tr.seq ?_
    refine Tr.block ?_
    refine Tr.seq ?_
    refine Tr.region ?_
    refine Tr.q (QS.move rfl) rfl ?_
    refine Tr.q (QS.move rfl) rfl ?_
    refine Tr.q (QS.idxN rfl rfl (by assumption) Tryz.underlying23 Tryz.sizeOf33 (by rfl) (by omega)) rfl ?_
    refine Tr.q (QS.el1 rfl (by assumption) Tryz.isAgg33 (by omega) (by rfl)) rfl ?_
    refine Tr.q (QS.move rfl) rfl ?_
    refine Tr.q (QS.eql32 rfl rfl) rfl ?_
    refine Tr.nil ?_
    refine Tr.thenN ?_
    refine Tr.cond rfl (fun h2 => ?_) (fun h2 => ?_)
    · try simp only [bs] at h2
      refine Tr.seq ?_
      refine Tr.region ?_
      refine Tr.q (QS.assign rfl) rfl ?_
      refine Tr.nil ?_
      refine Tr.thenN ?_
      refine Tr.ret ?_
      refine Tr.inR ?_
      refine Tr.thenR ?_
      refine Tr.thenR ?_
      refine Tr.inR ?_
      refine Tr.thenR ?_
      refine Tr.ret1 Tryz.results17 rfl (fun w' hw => ?_)
      exact ⟨by rw [hasU, List.any_eq_true.2 ⟨_, mem_getD (k := k) (by omega), by simp_all⟩], hw.below (Bg.le.refl _)⟩
    · try simp only [bs] at h2
      refine Tr.skip ?_
      refine Tr.inN ?_
      refine Tr.thenN ?_
      refine Tr.region ?_
      refine Tr.q (QS.move rfl) rfl ?_
      refine Tr.q (QS.addI rfl rfl (by omega)) rfl ?_
      refine Tr.q (QS.assign rfl) rfl ?_
      refine Tr.nil ?_
      refine Tr.thenN ?_
      apply Tr.again (k + 1)
      · exact rfl
      · exact (.cons (by first | rfl | exact lookI rfl (by omega) | exact lookI rfl (by simp) | exact lookB rfl (by simp)) Front.nil)
      · exact SubX.dropN 14 (by kernel_rfl) rfl
      · exact (by repeat' (first | exact Pick.nil _ | exact Del.here _ | apply Pick.cons | apply Del.there))
      · exact ⟨by omega, by rw [any_take_succ (by omega), hk2, Bool.false_or]; exact decide_eq_false (fun e => by simp_all)⟩
      · exact (by (try dsimp only); omega)
  · try simp only [bs] at h1
    refine Tr.exit ?_
    refine Tr.thenE ?_
    refine Tr.thenE ?_
    refine Tr.inHit ?_
    refine Tr.thenN ?_
    refine Tr.seq ?_
    refine Tr.region ?_
    refine Tr.q (QS.assign rfl) rfl ?_
    refine Tr.nil ?_
    refine Tr.thenN ?_
    refine Tr.ret ?_
    refine Tr.ret1 Tryz.results17 rfl (fun w' hw => ?_)
    exact ⟨by rw [hasU, ← hk2, List.take_of_length_le (by omega)], hw.below (Bg.le.refl _)⟩
set_option maxRecDepth 100000 in
set_option maxHeartbeats 4000000 in
theorem insert06_any (l : List UInt32) (V : Value) (n : UInt32) (w : World) (hV : Sl (hp w) encU32 l V) (hn : l.length ≤ 1000000) :
    Calls Tryz.prog 65 #[V, .int .u32 n.toNat] w (fun e w' => ∃ V', e = .returned V' ∧ Ext w w' ∧ ((V' = V ∧ insR ltU l n = l) ∨ NewRow w w' 33 encU32 (insR ltU l n) V')) := by
  have hV' : Sl (Bg.of w).blk encU32 l V := hV
  refine enter Tryz.func65 rfl Tryz.ntmps65 rfl ?_
  refine Tr.seq ?_
  refine Tr.region ?_
  refine Tr.q (QS.assign rfl) rfl ?_
  refine Tr.nil ?_
  refine Tr.thenN ?_
  refine Tr.seq ?_
  refine Tr.region ?_
  refine Tr.q (QS.assign rfl) rfl ?_
  refine Tr.nil ?_
  refine Tr.thenN ?_
  refine Tr.seq ?_
  refine Tr.block ?_
  refine Tr.loop (ι := Nat) (fun k => k ≤ l.length ∧ ∀ j, j < k → ltU (l.getD j default) n = true) (fun _ => _) (fun k => []) (fun k => [(5, .int .i64 (k : Nat))]) (fun k => l.length - k) 0 ⟨Nat.zero_le _, fun j q => by omega⟩ (.cons (by first | rfl | exact lookI rfl (by omega) | exact lookI rfl (by simp) | exact lookB rfl (by simp)) Front.nil) (by repeat' (first | exact Pick.nil _ | exact Del.here _ | apply Pick.cons | apply Del.there)) rfl (fun k hi m hm => ?_)
  replace hi : k ≤ l.length ∧ ∀ j, j < k → ltU (l.getD j default) n = true := hi
  replace hm : m = l.length - k := hm
  change Tr _ _ [] ([(5, .int .i64 (k : Nat))] ++ _) _
  obtain ⟨hk1, hk2⟩ := hi
  refine Tr.seq ?_
  refine Tr.seq ?_
  refine Tr.region ?_
  refine Tr.q (QS.move rfl) rfl ?_
  refine Tr.q (QS.move rfl) rfl ?_
  refine Tr.q (QS.len rfl (by assumption) Tryz.underlying23) rfl ?_
  refine Tr.q (QS.lss rfl rfl) rfl ?_
  refine Tr.q (QS.move rfl) rfl ?_
  apply Tr.andP
  · exact (rfl : _ = (7, 11, 18))
  · exact rfl
  · intro hT1; have hT1' := hT1
    try simp only [bs] at hT1'
    refine Tr.gq rfl rfl hT1 (QS.move rfl) rfl ?_
    refine Tr.gq rfl rfl hT1 (QS.move rfl) rfl ?_
    refine Tr.gq rfl rfl hT1 (QS.idxN rfl rfl (by assumption) Tryz.underlying23 Tryz.sizeOf33 (by rfl) (by omega)) rfl ?_
    refine Tr.gq rfl rfl hT1 (QS.el1 rfl (by assumption) Tryz.isAgg33 (by omega) (by rfl)) rfl ?_
    refine Tr.gq rfl rfl hT1 (QS.move rfl) rfl ?_
    refine Tr.gq rfl rfl hT1 (QS.lss32 rfl rfl) rfl ?_
    refine Tr.q (QS.pickT rfl hT1 rfl) rfl ?_
    refine Tr.nil (Tr.thenN ?_)
    exact Tr.endX (Sub.cons rfl (Sub.dropN 7 (by kernel_rfl) rfl))
  · intro hF1
    refine Tr.gskip rfl rfl hF1 rfl ?_
    refine Tr.gskip rfl rfl hF1 rfl ?_
    refine Tr.gskip rfl rfl hF1 rfl ?_
    refine Tr.gskip rfl rfl hF1 rfl ?_
    refine Tr.gskip rfl rfl hF1 rfl ?_
    refine Tr.gskip rfl rfl hF1 rfl ?_
    refine Tr.q (QS.pickF rfl hF1 rfl) rfl ?_
    refine Tr.nil (Tr.thenN ?_)
    exact Tr.endX (Sub.cons rfl (Sub.dropN 7 (by kernel_rfl) rfl))
  refine Tr.nil ?_
  refine Tr.thenN ?_
  refine Tr.cond rfl (fun h2 => ?_) (fun h2 => ?_)
  · try simp only [bs] at h2
    refine Tr.skip ?_
    refine Tr.thenN ?_
    refine Tr.block ?_
    refine Tr.region ?_
    refine Tr.q (QS.move rfl) rfl ?_
    refine Tr.q (QS.addI rfl rfl (by omega)) rfl ?_
    refine Tr.q (QS.assign rfl) rfl ?_
    refine Tr.nil ?_
    refine Tr.inN ?_
    refine Tr.thenN ?_
    have hlt : ltU (l.getD k default) n = true := by simp only [ltU, Bool.or_eq_true, Bool.and_eq_true, decide_eq_true_eq]; exact h2.2
    apply Tr.again (k + 1)
    · exact rfl
    · exact (.cons (by first | rfl | exact lookI rfl (by omega) | exact lookI rfl (by simp) | exact lookB rfl (by simp)) Front.nil)
    · exact SubX.dropN 10 (by kernel_rfl) rfl
    · exact (by repeat' (first | exact Pick.nil _ | exact Del.here _ | apply Pick.cons | apply Del.there))
    · exact ⟨by omega, fun j q => by
        by_cases c : j = k
        · subst c; exact hlt
        · exact hk2 j (by omega)⟩
    · exact (by (try dsimp only); omega)
  · try simp only [bs] at h2
    refine Tr.exit ?_
    refine Tr.thenE ?_
    refine Tr.thenE ?_
    refine Tr.inHit ?_
    refine Tr.thenN ?_
    refine Tr.seq ?_
    refine Tr.seq ?_
    have hid : idxW (fun y => ltU y n) l = k := idxW_eq hk1 hk2 (by
        rcases Nat.lt_or_ge k l.length with c | c
        · refine .inr ?_
          cases d : ltU (l.getD k default) n
          · rfl
          · exfalso
            rcases h2 with q | q
            · omega
            · simp only [ltU, Bool.or_eq_true, Bool.and_eq_true, decide_eq_true_eq, UInt32.lt_iff_toNat_lt, UInt32.le_iff_toNat_le, ← UInt32.toNat_inj] at d q; omega
        · exact .inl (by omega))
    have hs1 : Sl (Bg.of w).blk encU32 (l.take k) (HL.resl V 0 k encU32.k) := by
      have q := Sl.resl hV' (l := 0) (h := k) (by omega) (by omega)
      rw [List.drop_zero] at q; exact q
    have hs2 : Sl (Bg.of w).blk encU32 (l.drop k) (HL.resl V k l.length encU32.k) := by
      have q := Sl.resl hV' (l := k) (h := l.length) (by omega) (by omega)
      rw [List.take_length] at q; exact q
    have hdl : (l.drop k).length = l.length - k := List.length_drop
    refine Tr.region ?_
    refine Tr.q (QS.move rfl) rfl ?_
    refine Tr.q (QS.move rfl) rfl ?_
    refine Tr.q (QS.len rfl (by assumption) Tryz.underlying23) rfl ?_
    refine Tr.q (QS.lss rfl rfl) rfl ?_
    refine Tr.q (QS.move rfl) rfl ?_
    apply Tr.andP
    · exact (rfl : _ = (7, 25, 32))
    · exact rfl
    · intro hT3; have hT3' := hT3
      try simp only [bs] at hT3'
      refine Tr.gq rfl rfl hT3 (QS.move rfl) rfl ?_
      refine Tr.gq rfl rfl hT3 (QS.move rfl) rfl ?_
      refine Tr.gq rfl rfl hT3 (QS.idxN rfl rfl (by assumption) Tryz.underlying23 Tryz.sizeOf33 (by rfl) (by omega)) rfl ?_
      refine Tr.gq rfl rfl hT3 (QS.el1 rfl (by assumption) Tryz.isAgg33 (by omega) (by rfl)) rfl ?_
      refine Tr.gq rfl rfl hT3 (QS.move rfl) rfl ?_
      refine Tr.gq rfl rfl hT3 (QS.eql32 rfl rfl) rfl ?_
      refine Tr.q (QS.pickT rfl hT3 rfl) rfl ?_
      refine Tr.nil (Tr.thenN ?_)
      exact Tr.endX (Sub.cons rfl (Sub.dropN 7 (by kernel_rfl) rfl))
    · intro hF3
      refine Tr.gskip rfl rfl hF3 rfl ?_
      refine Tr.gskip rfl rfl hF3 rfl ?_
      refine Tr.gskip rfl rfl hF3 rfl ?_
      refine Tr.gskip rfl rfl hF3 rfl ?_
      refine Tr.gskip rfl rfl hF3 rfl ?_
      refine Tr.gskip rfl rfl hF3 rfl ?_
      refine Tr.q (QS.pickF rfl hF3 rfl) rfl ?_
      refine Tr.nil (Tr.thenN ?_)
      exact Tr.endX (Sub.cons rfl (Sub.dropN 7 (by kernel_rfl) rfl))
    refine Tr.nil ?_
    refine Tr.thenN ?_
    refine Tr.cond rfl (fun h4 => ?_) (fun h4 => ?_)
    · try simp only [bs] at h4
      refine Tr.seq ?_
      refine Tr.region ?_
      refine Tr.q (QS.move rfl) rfl ?_
      refine Tr.q (QS.assign rfl) rfl ?_
      refine Tr.nil ?_
      refine Tr.thenN ?_
      refine Tr.ret ?_
      refine Tr.thenR ?_
      refine Tr.ret1 Tryz.results65 rfl (fun w' hw => ?_)
      exact ⟨_, rfl, hw.below (Bg.le.refl _), .inl ⟨rfl, by rw [insR, hid, if_pos ⟨by omega, h4.2⟩]⟩⟩
    · try simp only [bs] at h4
      refine Tr.skip ?_
      refine Tr.thenN ?_
      refine Tr.seq ?_
      refine Tr.region ?_
      refine Tr.lit0 encU32 Tryz.underlying23 Tryz.sizeOf33 rfl (fun V5 => ?_)
      refine Tr.q (QS.move rfl) rfl ?_
      refine Tr.q (QS.move rfl) rfl ?_
      refine Tr.q (QS.slice (lv := none) (hv := some (_, _)) rfl (by assumption) rfl rfl Tryz.underlying23 Tryz.sizeOf33 (by rfl) (by simp only [loOf, hiOf] <;> first | omega | assumption | (simp only [NatCast.natCast, Int.ofNat_eq_natCast]; omega)) (by simp only [loOf, hiOf] <;> first | omega | assumption | (simp only [NatCast.natCast, Int.ofNat_eq_natCast]; omega)) (by simp only [loOf, hiOf] <;> first | omega | assumption | (simp only [NatCast.natCast, Int.ofNat_eq_natCast]; omega))) rfl ?_
      refine Tr.appendOf (ys := l.take k) rfl rfl (by repeat (first | exact Del.here _ | apply Del.there)) (fun w hw => hw.slF hs1) Tryz.underlying23 HLF.info33 (by rfl) (by rfl) (by (try simp only [List.length_cons, List.length_nil, List.length_append, List.length_take, List.length_drop]); omega) (by unfold maxLen; (try simp only [List.length_cons, List.length_nil, List.length_append, List.length_take, List.length_drop]); omega) rfl (fun V71 => ?_)
      refine Tr.q (QS.assign rfl) rfl ?_
      refine Tr.nil ?_
      refine Tr.thenN ?_
      refine Tr.seq ?_
      refine Tr.region ?_
      refine Tr.q (QS.move rfl) rfl ?_
      refine Tr.q (QS.move rfl) rfl ?_
      refine Tr.lit1 (E := encU32) n rfl rfl Tryz.underlying23 Tryz.sizeOf33 Tryz.zeroValue33 (by rfl) (by rfl) rfl (fun V6 => ?_)
      refine Tr.append1 rfl rfl (by repeat (first | exact Del.here _ | apply Del.there)) (by repeat (first | exact Del.here _ | apply Del.there)) Tryz.underlying23 HLF.info33 (by rfl) (by rfl) (by (try simp only [List.length_cons, List.length_nil, List.length_append, List.length_take]); omega) (by unfold maxLen; (try simp only [List.length_cons, List.length_nil, List.length_append, List.length_take]); omega) rfl (fun V7 => ?_)
      refine Tr.q (QS.assign rfl) rfl ?_
      refine Tr.nil ?_
      refine Tr.thenN ?_
      refine Tr.seq ?_
      refine Tr.region ?_
      refine Tr.q (QS.move rfl) rfl ?_
      refine Tr.q (QS.move rfl) rfl ?_
      refine Tr.q (QS.move rfl) rfl ?_
      refine Tr.q (QS.slice (lv := some (_, _)) (hv := none) rfl (by assumption) rfl rfl Tryz.underlying23 Tryz.sizeOf33 (by rfl) (by simp only [loOf, hiOf] <;> first | omega | assumption | (simp only [NatCast.natCast, Int.ofNat_eq_natCast]; omega)) (by simp only [loOf, hiOf] <;> first | omega | assumption | (simp only [NatCast.natCast, Int.ofNat_eq_natCast]; omega)) (by simp only [loOf, hiOf] <;> first | omega | assumption | (simp only [NatCast.natCast, Int.ofNat_eq_natCast]; omega))) rfl ?_
      refine Tr.appendOf (ys := l.drop k) rfl rfl (by repeat (first | exact Del.here _ | apply Del.there)) (fun w hw => hw.slF hs2) Tryz.underlying23 HLF.info33 (by rfl) (by rfl) (by (try simp only [List.length_cons, List.length_nil, List.length_append, List.length_take, List.length_drop]); omega) (by unfold maxLen; (try simp only [List.length_cons, List.length_nil, List.length_append, List.length_take, List.length_drop]); omega) rfl (fun V73 => ?_)
      refine Tr.q (QS.assign rfl) rfl ?_
      refine Tr.nil ?_
      refine Tr.thenN ?_
      refine Tr.ret ?_
      refine Tr.ret1 Tryz.results65 rfl (fun w' hw => ?_)
      have hres : ([] ++ l.take k) ++ [n] ++ l.drop k = insR ltU l n := by
        rw [insR, hid, if_neg (by rintro ⟨q1, q2⟩; rcases h4 with q | q; (· omega); (· exact q q2)), List.nil_append]
      rw [hres] at hw
      exact ⟨_, rfl, hw.below (Bg.le.refl _), .inr (hw.new (.head _))⟩
set_option maxRecDepth 100000 in
set_option maxHeartbeats 2000000 in
theorem end13_any (i : Ins) (w : World) (hI : InsOK i) :
    Calls Tryz.prog 60 #[.agg (encIns.enc i).toArray] w (fun e w' => e = .returned (.int .u64 (endI i)) ∧ Ext w w') := by
  have hl := len_rng i
  have ha := i.addr.toNat_lt
  refine enter Tryz.func60 rfl Tryz.ntmps60 rfl ?_
  refine Tr.seq ?_
  refine Tr.region ?_
  refine Tr.box rfl rfl rfl (fun b1 => ?_)
  refine Tr.q (QS.assign rfl) rfl ?_
  refine Tr.nil ?_
  refine Tr.thenN ?_
  refine Tr.seq ?_
  refine Tr.regionQ HLF.mixed (by kernel_rfl) ?_
  refine TrQ.q (QS.fieldAddr (off := 0) (ft := 33) rfl Tryz.underlying35 rfl rfl Tryz.sizeOf33 (by decide)) rfl ?_
  refine TrQ.q (QS.lV rfl Tryz.isAgg33) rfl ?_
  refine TrQ.q (QS.cvt32toU rfl Tryz.underlying33 Tryz.underlying81) rfl ?_
  refine TrQ.q (QS.lW rfl Tryz.isAgg35 Tryz.sizeOf35) rfl ?_
  refine TrQ.q (QS.call rfl Tryz.call87 (fun w hw => lengthR_any i w hI)) rfl ?_
  refine TrQ.q (QS.cvtIn rfl Tryz.underlying3 Tryz.underlying81 (IntWalk.u64_in _ (by omega))) rfl ?_
  refine TrQ.q (QS.addU rfl rfl (by omega)) rfl ?_
  refine TrQ.q (QS.assign rfl) rfl ?_
  refine TrQ.nil ?_
  refine Tr.thenN ?_
  refine Tr.ret ?_
  refine Tr.ret1 Tryz.results60 rfl (fun w' hw => ?_)
  exact ⟨rfl, hw.below (Bg.le.refl _)⟩
set_option maxRecDepth 100000 in
set_option maxHeartbeats 2000000 in
theorem conflict13_any (a b : Ins) (w : World) (hI : InsOK a) (hJ : InsOK b) :
    Calls Tryz.prog 56 #[.agg (encIns.enc a).toArray, .agg (encIns.enc b).toArray] w (fun e w' => e = .returned (.bool (conflP a b)) ∧ Ext w w') := by
  refine enter Tryz.func56 rfl Tryz.ntmps56 rfl ?_
  refine Tr.seq ?_
  refine Tr.region ?_
  refine Tr.box rfl rfl rfl (fun b1 => ?_)
  refine Tr.box rfl rfl rfl (fun b2 => ?_)
  refine Tr.q (QS.assign rfl) rfl ?_
  refine Tr.nil ?_
  refine Tr.thenN ?_
  refine Tr.seq ?_
  refine Tr.regionQ HLF.mixed (by kernel_rfl) ?_
  refine TrQ.q (QS.fieldAddr (off := 0) (ft := 33) rfl Tryz.underlying35 rfl rfl Tryz.sizeOf33 (by decide)) rfl ?_
  refine TrQ.q (QS.lV rfl Tryz.isAgg33) rfl ?_
  refine TrQ.q (QS.fieldAddr (off := 0) (ft := 33) rfl Tryz.underlying35 rfl rfl Tryz.sizeOf33 (by decide)) rfl ?_
  refine TrQ.q (QS.lV rfl Tryz.isAgg33) rfl ?_
  refine TrQ.q (QS.neq32 rfl rfl) rfl ?_
  refine TrQ.q (QS.move rfl) rfl ?_
  apply TrQ.andP
  · exact (rfl : _ = (3, 10, 13))
  · exact rfl
  · intro hT3; have hT3' := hT3
    try simp only [bs] at hT3'
    refine TrQ.gq rfl rfl hT3 (QS.lW rfl Tryz.isAgg35 Tryz.sizeOf35) rfl ?_
    refine TrQ.gq rfl rfl hT3 (QS.call rfl Tryz.call84 (fun w hw => validR_any a w)) rfl ?_
    refine TrQ.q (QS.pickT rfl hT3 rfl) rfl ?_
    exact TrQ.end (Sub.cons rfl (Sub.dropN 3 (by kernel_rfl) rfl))
  · intro hF3
    refine TrQ.gskip rfl rfl hF3 rfl ?_
    refine TrQ.gskip rfl rfl hF3 rfl ?_
    refine TrQ.q (QS.pickF rfl hF3 rfl) rfl ?_
    exact TrQ.end (Sub.cons rfl (Sub.dropN 3 (by kernel_rfl) rfl))
  refine TrQ.q (QS.move rfl) rfl ?_
  apply TrQ.andP
  · exact (rfl : _ = (3, 14, 17))
  · exact rfl
  · intro hT4; have hT4' := hT4
    try simp only [bs] at hT4'
    refine TrQ.gq rfl rfl hT4 (QS.lW rfl Tryz.isAgg35 Tryz.sizeOf35) rfl ?_
    refine TrQ.gq rfl rfl hT4 (QS.call rfl Tryz.call84 (fun w hw => validR_any b w)) rfl ?_
    refine TrQ.q (QS.pickT rfl hT4 rfl) rfl ?_
    exact TrQ.end (Sub.cons rfl (Sub.dropN 3 (by kernel_rfl) rfl))
  · intro hF4
    refine TrQ.gskip rfl rfl hF4 rfl ?_
    refine TrQ.gskip rfl rfl hF4 rfl ?_
    refine TrQ.q (QS.pickF rfl hF4 rfl) rfl ?_
    exact TrQ.end (Sub.cons rfl (Sub.dropN 3 (by kernel_rfl) rfl))
  refine TrQ.q (QS.move rfl) rfl ?_
  apply TrQ.andP
  · exact (rfl : _ = (7, 18, 25))
  · exact rfl
  · intro hT5; have hT5' := hT5
    try simp only [bs] at hT5'
    refine TrQ.gq rfl rfl hT5 (QS.fieldAddr (off := 0) (ft := 33) rfl Tryz.underlying35 rfl rfl Tryz.sizeOf33 (by decide)) rfl ?_
    refine TrQ.gq rfl rfl hT5 (QS.lV rfl Tryz.isAgg33) rfl ?_
    refine TrQ.gq rfl rfl hT5 (QS.cvt32toU rfl Tryz.underlying33 Tryz.underlying81) rfl ?_
    refine TrQ.gq rfl rfl hT5 (QS.lW rfl Tryz.isAgg35 Tryz.sizeOf35) rfl ?_
    refine TrQ.gq rfl rfl hT5 (QS.call rfl Tryz.call60 (fun w hw => end13_any b w hJ)) rfl ?_
    refine TrQ.gq rfl rfl hT5 (QS.lss rfl rfl) rfl ?_
    refine TrQ.q (QS.pickT rfl hT5 rfl) rfl ?_
    exact TrQ.end (Sub.cons rfl (Sub.dropN 7 (by kernel_rfl) rfl))
  · intro hF5
    refine TrQ.gskip rfl rfl hF5 rfl ?_
    refine TrQ.gskip rfl rfl hF5 rfl ?_
    refine TrQ.gskip rfl rfl hF5 rfl ?_
    refine TrQ.gskip rfl rfl hF5 rfl ?_
    refine TrQ.gskip rfl rfl hF5 rfl ?_
    refine TrQ.gskip rfl rfl hF5 rfl ?_
    refine TrQ.q (QS.pickF rfl hF5 rfl) rfl ?_
    exact TrQ.end (Sub.cons rfl (Sub.dropN 7 (by kernel_rfl) rfl))
  refine TrQ.q (QS.move rfl) rfl ?_
  apply TrQ.andP
  · exact (rfl : _ = (7, 26, 33))
  · exact rfl
  · intro hT6; have hT6' := hT6
    try simp only [bs] at hT6'
    refine TrQ.gq rfl rfl hT6 (QS.fieldAddr (off := 0) (ft := 33) rfl Tryz.underlying35 rfl rfl Tryz.sizeOf33 (by decide)) rfl ?_
    refine TrQ.gq rfl rfl hT6 (QS.lV rfl Tryz.isAgg33) rfl ?_
    refine TrQ.gq rfl rfl hT6 (QS.cvt32toU rfl Tryz.underlying33 Tryz.underlying81) rfl ?_
    refine TrQ.gq rfl rfl hT6 (QS.lW rfl Tryz.isAgg35 Tryz.sizeOf35) rfl ?_
    refine TrQ.gq rfl rfl hT6 (QS.call rfl Tryz.call60 (fun w hw => end13_any a w hI)) rfl ?_
    refine TrQ.gq rfl rfl hT6 (QS.lss rfl rfl) rfl ?_
    refine TrQ.q (QS.pickT rfl hT6 rfl) rfl ?_
    exact TrQ.end (Sub.cons rfl (Sub.dropN 7 (by kernel_rfl) rfl))
  · intro hF6
    refine TrQ.gskip rfl rfl hF6 rfl ?_
    refine TrQ.gskip rfl rfl hF6 rfl ?_
    refine TrQ.gskip rfl rfl hF6 rfl ?_
    refine TrQ.gskip rfl rfl hF6 rfl ?_
    refine TrQ.gskip rfl rfl hF6 rfl ?_
    refine TrQ.gskip rfl rfl hF6 rfl ?_
    refine TrQ.q (QS.pickF rfl hF6 rfl) rfl ?_
    exact TrQ.end (Sub.cons rfl (Sub.dropN 7 (by kernel_rfl) rfl))
  refine TrQ.q (QS.assign rfl) rfl ?_
  refine TrQ.nil ?_
  refine Tr.thenN ?_
  refine Tr.ret ?_
  refine Tr.ret1 Tryz.results56 rfl (fun w' hw => ?_)
  exact ⟨by rw [← rconf_eq]; rfl, hw.below (Bg.le.refl _)⟩
set_option maxRecDepth 100000 in
set_option maxHeartbeats 2000000 in
theorem first13_any (l : List Ins) (V : Value) (i : Nat) (w : World) (hV : Sl (hp w) encIns l V) (hi0 : i < l.length) :
    Calls Tryz.prog 89 #[V, .int .i64 (i : Nat)] w (fun e w' => e = .returned (.bool (fstP l i)) ∧ Ext w w') := by
  have hV' : Sl (Bg.of w).blk encIns l V := hV
  have hlen := hV.len_le
  refine enter Tryz.func89 rfl Tryz.ntmps89 rfl ?_
  refine Tr.seq ?_
  refine Tr.region ?_
  refine Tr.q (QS.assign rfl) rfl ?_
  refine Tr.nil ?_
  refine Tr.thenN ?_
  refine Tr.seq ?_
  refine Tr.seq ?_
  refine Tr.region ?_
  refine Tr.q (QS.assign rfl) rfl ?_
  refine Tr.nil ?_
  refine Tr.thenN ?_
  refine Tr.block ?_
  refine Tr.loop (ι := Nat) (fun k => k ≤ i ∧ (l.take k).any (fun y => decide (y.addr = (l.getD i default).addr) && decide (errP y = 0)) = false) (fun _ => _) (fun k => []) (fun k => [(5, .int .i64 (k : Nat))]) (fun k => i - k) 0 ⟨Nat.zero_le _, rfl⟩ (.cons (by first | rfl | exact lookI rfl (by omega) | exact lookI rfl (by simp) | exact lookB rfl (by simp)) Front.nil) (by repeat' (first | exact Pick.nil _ | exact Del.here _ | apply Pick.cons | apply Del.there)) rfl (fun k hi m hm => ?_)
  replace hi : k ≤ i ∧ (l.take k).any (fun y => decide (y.addr = (l.getD i default).addr) && decide (errP y = 0)) = false := hi
  replace hm : m = i - k := hm
  change Tr _ _ [] ([(5, .int .i64 (k : Nat))] ++ _) _
  obtain ⟨hk1, hk2⟩ := hi
  refine Tr.seq ?_
  refine Tr.seq ?_
  refine Tr.region ?_
  refine Tr.q (QS.move rfl) rfl ?_
  refine Tr.q (QS.move rfl) rfl ?_
  refine Tr.q (QS.lss rfl rfl) rfl ?_
  refine Tr.nil ?_
  refine Tr.thenN ?_
  refine Tr.cond rfl (fun h1 => ?_) (fun h1 => ?_)
  · try simp only [bs] at h1
    refine Tr.skip ?_
    refine Tr.thenN ?_
    refine Tr.seq ?_
    refine Tr.block ?_
    refine Tr.seq ?_
    refine Tr.regionQ HLF.mixed (by kernel_rfl) ?_
    refine TrQ.q (QS.move rfl) rfl ?_
    refine TrQ.q (QS.move rfl) rfl ?_
    refine TrQ.q (QS.idxN rfl rfl (by assumption) Tryz.underlying22 Tryz.sizeOf35 (by rfl) (by omega)) rfl ?_
    refine TrQ.q (QS.fieldAddr (off := 0) (ft := 33) rfl Tryz.underlying35 rfl rfl Tryz.sizeOf33 (by decide)) rfl ?_
    refine TrQ.q (QS.elF rfl (by assumption) Tryz.isAgg33 (by omega) (by rfl)) rfl ?_
    refine TrQ.q (QS.move rfl) rfl ?_
    refine TrQ.q (QS.move rfl) rfl ?_
    refine TrQ.q (QS.idxN rfl rfl (by assumption) Tryz.underlying22 Tryz.sizeOf35 (by rfl) (by omega)) rfl ?_
    refine TrQ.q (QS.fieldAddr (off := 0) (ft := 33) rfl Tryz.underlying35 rfl rfl Tryz.sizeOf33 (by decide)) rfl ?_
    refine TrQ.q (QS.elF rfl (by assumption) Tryz.isAgg33 (by omega) (by rfl)) rfl ?_
    refine TrQ.q (QS.eql32 rfl rfl) rfl ?_
    refine TrQ.q (QS.move rfl) rfl ?_
    apply TrQ.andP
    · exact (rfl : _ = (6, 22, 28))
    · exact rfl
    · intro hT2; have hT2' := hT2
      try simp only [bs] at hT2'
      refine TrQ.gq rfl rfl hT2 (QS.move rfl) rfl ?_
      refine TrQ.gq rfl rfl hT2 (QS.move rfl) rfl ?_
      refine TrQ.gq rfl rfl hT2 (QS.idxN rfl rfl (by assumption) Tryz.underlying22 Tryz.sizeOf35 (by rfl) (by omega)) rfl ?_
      refine TrQ.gq rfl rfl hT2 (QS.elA rfl (by assumption) Tryz.isAgg35 Tryz.sizeOf35 (by rfl) (by omega)) rfl ?_
      refine TrQ.gq rfl rfl hT2 (QS.call rfl Tryz.call84 (fun w hw => validR_any (l.getD k default) w)) rfl ?_
      refine TrQ.q (QS.pickT rfl hT2 rfl) rfl ?_
      exact TrQ.end (Sub.cons rfl (Sub.dropN 6 (by kernel_rfl) rfl))
    · intro hF2
      refine TrQ.gskip rfl rfl hF2 rfl ?_
      refine TrQ.gskip rfl rfl hF2 rfl ?_
      refine TrQ.gskip rfl rfl hF2 rfl ?_
      refine TrQ.gskip rfl rfl hF2 rfl ?_
      refine TrQ.gskip rfl rfl hF2 rfl ?_
      refine TrQ.q (QS.pickF rfl hF2 rfl) rfl ?_
      exact TrQ.end (Sub.cons rfl (Sub.dropN 6 (by kernel_rfl) rfl))
    refine TrQ.nil ?_
    refine Tr.thenN ?_
    refine Tr.cond rfl (fun h3 => ?_) (fun h3 => ?_)
    · try simp only [bs] at h3
      refine Tr.seq ?_
      refine Tr.region ?_
      refine Tr.q (QS.assign rfl) rfl ?_
      refine Tr.nil ?_
      refine Tr.thenN ?_
      refine Tr.ret ?_
      refine Tr.inR ?_
      refine Tr.thenR ?_
      refine Tr.thenR ?_
      refine Tr.inR ?_
      refine Tr.thenR ?_
      refine Tr.ret1 Tryz.results89 rfl (fun w' hw => ?_)
      have hm : l.getD k default ∈ l.take i := by rw [List.mem_take_iff_getElem]; exact ⟨k, by omega, by rw [List.getD_eq_getElem?_getD, List.getElem?_eq_getElem (by omega)]; rfl⟩
      exact ⟨by rw [fstP, List.any_eq_true.2 ⟨_, hm, by rw [Bool.and_eq_true, decide_eq_true_eq, decide_eq_true_eq]; assumption⟩]; rfl, hw.below (Bg.le.refl _)⟩
    · try simp only [bs] at h3
      refine Tr.skip ?_
      refine Tr.inN ?_
      refine Tr.thenN ?_
      refine Tr.region ?_
      refine Tr.q (QS.move rfl) rfl ?_
      refine Tr.q (QS.addI rfl rfl (by omega)) rfl ?_
      refine Tr.q (QS.assign rfl) rfl ?_
      refine Tr.nil ?_
      refine Tr.thenN ?_
      apply Tr.again (k + 1)
      · exact rfl
      · exact (.cons (by first | rfl | exact lookI rfl (by omega) | exact lookI rfl (by simp) | exact lookB rfl (by simp)) Front.nil)
      · exact SubX.dropN 20 (by kernel_rfl) rfl
      · exact (by repeat' (first | exact Pick.nil _ | exact Del.here _ | apply Pick.cons | apply Del.there))
      · exact ⟨by omega, by rw [any_take_succ (by omega), hk2, Bool.false_or]; rw [Bool.and_eq_false_iff, decide_eq_false_iff_not, decide_eq_false_iff_not]; assumption⟩
      · exact (by (try dsimp only); omega)
  · try simp only [bs] at h1
    refine Tr.exit ?_
    refine Tr.thenE ?_
    refine Tr.thenE ?_
    refine Tr.inHit ?_
    refine Tr.thenN ?_
    refine Tr.seq ?_
    refine Tr.region ?_
    refine Tr.q (QS.assign rfl) rfl ?_
    refine Tr.nil ?_
    refine Tr.thenN ?_
    refine Tr.ret ?_
    refine Tr.ret1 Tryz.results89 rfl (fun w' hw => ?_)
    obtain rfl : k = i := by omega
    exact ⟨by rw [fstP, hk2]; rfl, hw.below (Bg.le.refl _)⟩
set_option maxRecDepth 100000 in
set_option maxHeartbeats 8000000 in
theorem counted13_any (l : List Ins) (V : Value) (w : World) (hV : Sl (hp w) encIns l V) (hI : ∀ x ∈ l, InsOK x) (h40 : l.length ≤ 200) :
    Calls Tryz.prog 62 #[V] w (fun e w' => ∃ V', e = .returned V' ∧ Ext w w' ∧ NewRow w w' 35 encIns (rcntL l) V') := by
  have hV' : Sl (Bg.of w).blk encIns l V := hV
  refine enter Tryz.func62 rfl Tryz.ntmps62 rfl ?_
  refine Tr.seq ?_
  refine Tr.region ?_
  refine Tr.q (QS.assign rfl) rfl ?_
  refine Tr.nil ?_
  refine Tr.thenN ?_
  refine Tr.seq ?_
  refine Tr.region ?_
  refine Tr.q (QS.assign rfl) rfl ?_
  refine Tr.nil ?_
  refine Tr.thenN ?_
  refine Tr.seq ?_
  refine Tr.seq ?_
  refine Tr.region ?_
  refine Tr.q (QS.assign rfl) rfl ?_
  refine Tr.nil ?_
  refine Tr.thenN ?_
  refine Tr.block ?_
  refine Tr.ownNil 35 encIns ?_
  refine Tr.loop (ι := Nat × Value) (fun ⟨i, V'⟩ => i ≤ l.length) (fun _ => _) (fun ⟨i, V'⟩ => [rowE V' 35 encIns (rcntK l i)]) (fun ⟨i, V'⟩ => [(4, .int .i64 (i : Nat)), (3, V')]) (fun ⟨i, V'⟩ => l.length - i) (0, _) (Nat.zero_le _) (.cons (by first | rfl | exact lookI rfl (by omega) | exact lookI rfl (by simp) | exact lookB rfl (by simp)) (.cons (by first | rfl | exact lookI rfl (by omega) | exact lookI rfl (by simp) | exact lookB rfl (by simp)) Front.nil)) (by repeat' (first | exact Pick.nil _ | exact Del.here _ | apply Pick.cons | apply Del.there)) rfl (fun i hi m hm => ?_)
  obtain ⟨i, V'⟩ := i
  replace hi : i ≤ l.length := hi
  replace hm : m = l.length - i := hm
  change Tr _ _ [rowE V' 35 encIns (rcntK l i)] ([(4, .int .i64 (i : Nat)), (3, V')] ++ _) _
  have hrl := rcnt_len l i
  refine Tr.seq ?_
  refine Tr.seq ?_
  refine Tr.region ?_
  refine Tr.q (QS.move rfl) rfl ?_
  refine Tr.q (QS.move rfl) rfl ?_
  refine Tr.q (QS.len rfl (by assumption) Tryz.underlying22) rfl ?_
  refine Tr.q (QS.lss rfl rfl) rfl ?_
  refine Tr.nil ?_
  refine Tr.thenN ?_
  refine Tr.cond rfl (fun h1 => ?_) (fun h1 => ?_)
  · try simp only [bs] at h1
    refine Tr.skip ?_
    refine Tr.thenN ?_
    refine Tr.seq ?_
    refine Tr.block ?_
    refine Tr.seq ?_
    refine Tr.region ?_
    refine Tr.q (QS.assign rfl) rfl ?_
    refine Tr.nil ?_
    refine Tr.thenN ?_
    refine Tr.seq ?_
    refine Tr.block ?_
    refine Tr.loop (ι := Nat) (fun k => k ≤ (rcntK l i).length ∧ ∀ j, j < k → ltA ((rcntK l i).getD j default) (l.getD i default) = true) (fun _ => _) (fun k => [rowE V' 35 encIns (rcntK l i)]) (fun k => [(5, .int .i64 (k : Nat))]) (fun k => (rcntK l i).length - k) 0 ⟨Nat.zero_le _, fun j q => by omega⟩ (.cons (by first | rfl | exact lookI rfl (by omega) | exact lookI rfl (by simp) | exact lookB rfl (by simp)) Front.nil) (by repeat' (first | exact Pick.nil _ | exact Del.here _ | apply Pick.cons | apply Del.there)) rfl (fun k hi m hm => ?_)
    replace hi : k ≤ (rcntK l i).length ∧ ∀ j, j < k → ltA ((rcntK l i).getD j default) (l.getD i default) = true := hi
    replace hm : m = (rcntK l i).length - k := hm
    change Tr _ _ [rowE V' 35 encIns (rcntK l i)] ([(5, .int .i64 (k : Nat))] ++ _) _
    obtain ⟨hk1, hk2⟩ := hi
    refine Tr.seq ?_
    refine Tr.seq ?_
    refine Tr.regionQ HLF.mixed (by kernel_rfl) ?_
    refine TrQ.q (QS.move rfl) rfl ?_
    refine TrQ.q (QS.move rfl) rfl ?_
    refine TrQ.q (QS.lenRow rfl (by repeat (first | exact List.Mem.head _ | apply List.Mem.tail)) Tryz.underlying22) rfl ?_
    refine TrQ.q (QS.lss rfl rfl) rfl ?_
    refine TrQ.q (QS.move rfl) rfl ?_
    apply TrQ.andP
    · exact (rfl : _ = (12, 17, 29))
    · exact rfl
    · intro hT2; have hT2' := hT2
      try simp only [bs] at hT2'
      refine TrQ.gq rfl rfl hT2 (QS.move rfl) rfl ?_
      refine TrQ.gq rfl rfl hT2 (QS.move rfl) rfl ?_
      refine TrQ.gq rfl rfl hT2 (QS.idxRowN rfl rfl (by repeat (first | exact List.Mem.head _ | apply List.Mem.tail)) Tryz.underlying22 Tryz.sizeOf35 (by rfl) (by omega)) rfl ?_
      refine TrQ.gq rfl rfl hT2 (QS.fieldAddr (off := 0) (ft := 33) rfl Tryz.underlying35 rfl rfl Tryz.sizeOf33 (by decide)) rfl ?_
      refine TrQ.gq rfl rfl hT2 (QS.elRF rfl (by repeat (first | exact List.Mem.head _ | apply List.Mem.tail)) Tryz.isAgg33 (by omega) (by rfl)) rfl ?_
      refine TrQ.gq rfl rfl hT2 (QS.move rfl) rfl ?_
      refine TrQ.gq rfl rfl hT2 (QS.move rfl) rfl ?_
      refine TrQ.gq rfl rfl hT2 (QS.idxN rfl rfl (by assumption) Tryz.underlying22 Tryz.sizeOf35 (by rfl) (by omega)) rfl ?_
      refine TrQ.gq rfl rfl hT2 (QS.fieldAddr (off := 0) (ft := 33) rfl Tryz.underlying35 rfl rfl Tryz.sizeOf33 (by decide)) rfl ?_
      refine TrQ.gq rfl rfl hT2 (QS.elF rfl (by assumption) Tryz.isAgg33 (by omega) (by rfl)) rfl ?_
      refine TrQ.gq rfl rfl hT2 (QS.lss32 rfl rfl) rfl ?_
      refine TrQ.q (QS.pickT rfl hT2 rfl) rfl ?_
      exact TrQ.end (Sub.cons rfl (Sub.dropN 12 (by kernel_rfl) rfl))
    · intro hF2
      refine TrQ.gskip rfl rfl hF2 rfl ?_
      refine TrQ.gskip rfl rfl hF2 rfl ?_
      refine TrQ.gskip rfl rfl hF2 rfl ?_
      refine TrQ.gskip rfl rfl hF2 rfl ?_
      refine TrQ.gskip rfl rfl hF2 rfl ?_
      refine TrQ.gskip rfl rfl hF2 rfl ?_
      refine TrQ.gskip rfl rfl hF2 rfl ?_
      refine TrQ.gskip rfl rfl hF2 rfl ?_
      refine TrQ.gskip rfl rfl hF2 rfl ?_
      refine TrQ.gskip rfl rfl hF2 rfl ?_
      refine TrQ.gskip rfl rfl hF2 rfl ?_
      refine TrQ.q (QS.pickF rfl hF2 rfl) rfl ?_
      exact TrQ.end (Sub.cons rfl (Sub.dropN 12 (by kernel_rfl) rfl))
    refine TrQ.nil ?_
    refine Tr.thenN ?_
    refine Tr.cond rfl (fun h3 => ?_) (fun h3 => ?_)
    · try simp only [bs] at h3
      refine Tr.skip ?_
      refine Tr.thenN ?_
      refine Tr.block ?_
      refine Tr.region ?_
      refine Tr.q (QS.move rfl) rfl ?_
      refine Tr.q (QS.addI rfl rfl (by omega)) rfl ?_
      refine Tr.q (QS.assign rfl) rfl ?_
      refine Tr.nil ?_
      refine Tr.inN ?_
      refine Tr.thenN ?_
      have hlt : ltA ((rcntK l i).getD k default) (l.getD i default) = true := by rw [ltA, decide_eq_true_eq]; exact h3.2
      apply Tr.again (k + 1)
      · exact rfl
      · exact (.cons (by first | rfl | exact lookI rfl (by omega) | exact lookI rfl (by simp) | exact lookB rfl (by simp)) Front.nil)
      · exact SubX.dropN 10 (by kernel_rfl) rfl
      · exact (by repeat' (first | exact Pick.nil _ | exact Del.here _ | apply Pick.cons | apply Del.there))
      · exact ⟨by omega, fun j q => by
          by_cases c : j = k
          · subst c; exact hlt
          · exact hk2 j (by omega)⟩
      · exact (by (try dsimp only); omega)
    · try simp only [bs] at h3
      refine Tr.exit ?_
      refine Tr.thenE ?_
      refine Tr.thenE ?_
      refine Tr.inHit ?_
      refine Tr.thenN ?_
      refine Tr.seq ?_
      have hid1 : kA (l.getD i default) (rcntK l i) = k := idxW_eq hk1 hk2 (by
          rcases Nat.lt_or_ge k (rcntK l i).length with c | c
          · refine .inr ?_
            show ltA _ _ = false
            rw [ltA, decide_eq_false_iff_not]
            rcases h3 with q | q
            · omega
            · simp only [UInt32.lt_iff_toNat_lt, UInt32.le_iff_toNat_le] at q ⊢; omega
          · exact .inl (by omega))
      have hid : kA (l.getD i default) (rcntK l i) = k ∧ cokP (rcntK l i) (l.getD i default) = (decide (k = (rcntK l i).length) || decide (((rcntK l i).getD k default).addr ≠ (l.getD i default).addr)) := ⟨hid1, by rw [cokP, hid1]⟩
      have hdl : (((rcntK l i)).drop k).length = (rcntK l i).length - k := List.length_drop
      refine Tr.regionQ HLF.mixed (by kernel_rfl) ?_
      refine TrQ.q (QS.move rfl) rfl ?_
      refine TrQ.q (QS.move rfl) rfl ?_
      refine TrQ.q (QS.idxN rfl rfl (by assumption) Tryz.underlying22 Tryz.sizeOf35 (by rfl) (by omega)) rfl ?_
      refine TrQ.q (QS.elA rfl (by assumption) Tryz.isAgg35 Tryz.sizeOf35 (by rfl) (by omega)) rfl ?_
      refine TrQ.q (QS.call rfl Tryz.call84 (fun w hw => validR_any (l.getD i default) w)) rfl ?_
      refine TrQ.q (QS.move rfl) rfl ?_
      apply TrQ.andP
      · exact (rfl : _ = (18, 37, 55))
      · exact rfl
      · intro hT4; have hT4' := hT4
        try simp only [bs] at hT4'
        refine TrQ.gq rfl rfl hT4 (QS.move rfl) rfl ?_
        refine TrQ.gq rfl rfl hT4 (QS.move rfl) rfl ?_
        refine TrQ.gq rfl rfl hT4 (QS.lenRow rfl (by repeat (first | exact List.Mem.head _ | apply List.Mem.tail)) Tryz.underlying22) rfl ?_
        refine TrQ.gq rfl rfl hT4 (QS.eql rfl rfl) rfl ?_
        refine TrQ.gq rfl rfl hT4 (QS.move rfl) rfl ?_
        apply TrQ.orP
        · exact (rfl : _ = (12, 42, 54))
        · exact rfl
        · intro hF5; have hF5' := hF5
          try simp only [bs] at hF5'
          refine TrQ.gq rfl rfl hF5 (QS.move rfl) rfl ?_
          refine TrQ.gq rfl rfl hF5 (QS.move rfl) rfl ?_
          refine TrQ.gq rfl rfl hF5 (QS.idxRowN rfl rfl (by repeat (first | exact List.Mem.head _ | apply List.Mem.tail)) Tryz.underlying22 Tryz.sizeOf35 (by rfl) (by omega)) rfl ?_
          refine TrQ.gq rfl rfl hF5 (QS.fieldAddr (off := 0) (ft := 33) rfl Tryz.underlying35 rfl rfl Tryz.sizeOf33 (by decide)) rfl ?_
          refine TrQ.gq rfl rfl hF5 (QS.elRF rfl (by repeat (first | exact List.Mem.head _ | apply List.Mem.tail)) Tryz.isAgg33 (by omega) (by rfl)) rfl ?_
          refine TrQ.gq rfl rfl hF5 (QS.move rfl) rfl ?_
          refine TrQ.gq rfl rfl hF5 (QS.move rfl) rfl ?_
          refine TrQ.gq rfl rfl hF5 (QS.idxN rfl rfl (by assumption) Tryz.underlying22 Tryz.sizeOf35 (by rfl) (by omega)) rfl ?_
          refine TrQ.gq rfl rfl hF5 (QS.fieldAddr (off := 0) (ft := 33) rfl Tryz.underlying35 rfl rfl Tryz.sizeOf33 (by decide)) rfl ?_
          refine TrQ.gq rfl rfl hF5 (QS.elF rfl (by assumption) Tryz.isAgg33 (by omega) (by rfl)) rfl ?_
          refine TrQ.gq rfl rfl hF5 (QS.neq32 rfl rfl) rfl ?_
          refine TrQ.gq rfl rfl hT4 (QS.pickF rfl hF5 rfl) rfl ?_
          exact TrQ.end (Sub.cons rfl (Sub.dropN 12 (by kernel_rfl) rfl))
        · intro hT5
          refine TrQ.gskip rfl rfl hT5 rfl ?_
          refine TrQ.gskip rfl rfl hT5 rfl ?_
          refine TrQ.gskip rfl rfl hT5 rfl ?_
          refine TrQ.gskip rfl rfl hT5 rfl ?_
          refine TrQ.gskip rfl rfl hT5 rfl ?_
          refine TrQ.gskip rfl rfl hT5 rfl ?_
          refine TrQ.gskip rfl rfl hT5 rfl ?_
          refine TrQ.gskip rfl rfl hT5 rfl ?_
          refine TrQ.gskip rfl rfl hT5 rfl ?_
          refine TrQ.gskip rfl rfl hT5 rfl ?_
          refine TrQ.gskip rfl rfl hT5 rfl ?_
          refine TrQ.gq rfl rfl hT4 (QS.pickT rfl hT5 rfl) rfl ?_
          exact TrQ.end (Sub.cons rfl (Sub.dropN 12 (by kernel_rfl) rfl))
        refine TrQ.q (QS.pickT rfl hT4 rfl) rfl ?_
        exact TrQ.end (Sub.cons rfl (Sub.dropN 7 (by kernel_rfl) rfl))
      · intro hF4
        refine TrQ.gskip rfl rfl hF4 rfl ?_
        refine TrQ.gskip rfl rfl hF4 rfl ?_
        refine TrQ.gskip rfl rfl hF4 rfl ?_
        refine TrQ.gskip rfl rfl hF4 rfl ?_
        refine TrQ.gskip rfl rfl hF4 rfl ?_
        refine TrQ.gskipU rfl rfl rfl ?_
        refine TrQ.gskipU rfl rfl rfl ?_
        refine TrQ.gskipU rfl rfl rfl ?_
        refine TrQ.gskipU rfl rfl rfl ?_
        refine TrQ.gskipU rfl rfl rfl ?_
        refine TrQ.gskipU rfl rfl rfl ?_
        refine TrQ.gskipU rfl rfl rfl ?_
        refine TrQ.gskipU rfl rfl rfl ?_
        refine TrQ.gskipU rfl rfl rfl ?_
        refine TrQ.gskipU rfl rfl rfl ?_
        refine TrQ.gskipU rfl rfl rfl ?_
        refine TrQ.gskip rfl rfl hF4 rfl ?_
        refine TrQ.q (QS.pickF rfl hF4 rfl) rfl ?_
        exact TrQ.end (Sub.cons rfl (Sub.dropN 18 (by kernel_rfl) rfl))
      refine TrQ.q (QS.move rfl) rfl ?_
      apply TrQ.andP
      · exact (rfl : _ = (4, 56, 60))
      · exact rfl
      · intro hT6; have hT6' := hT6
        try simp only [bs] at hT6'
        refine TrQ.gq rfl rfl hT6 (QS.move rfl) rfl ?_
        refine TrQ.gq rfl rfl hT6 (QS.move rfl) rfl ?_
        refine TrQ.gq rfl rfl hT6 (QS.call rfl Tryz.call89 (fun w hw => first13_any l V i w (hw.slF hV') (by omega))) rfl ?_
        refine TrQ.q (QS.pickT rfl hT6 rfl) rfl ?_
        exact TrQ.end (Sub.cons rfl (Sub.dropN 4 (by kernel_rfl) rfl))
      · intro hF6
        refine TrQ.gskip rfl rfl hF6 rfl ?_
        refine TrQ.gskip rfl rfl hF6 rfl ?_
        refine TrQ.gskip rfl rfl hF6 rfl ?_
        refine TrQ.q (QS.pickF rfl hF6 rfl) rfl ?_
        exact TrQ.end (Sub.cons rfl (Sub.dropN 4 (by kernel_rfl) rfl))
      refine TrQ.nil ?_
      refine Tr.thenN ?_
      refine Tr.cond rfl (fun h7 => ?_) (fun h7 => ?_)
      · try simp only [bs] at h7
        refine Tr.seq ?_
        refine Tr.region ?_
        refine Tr.q (QS.assign rfl) rfl ?_
        refine Tr.nil ?_
        refine Tr.thenN ?_
        refine Tr.seq ?_
        refine Tr.region ?_
        refine Tr.q (QS.move rfl) rfl ?_
        refine Tr.q (QS.move rfl) rfl ?_
        refine Tr.q (QS.move rfl) rfl ?_
        refine Tr.q (QS.sliceTo rfl (by repeat (first | exact List.Mem.head _ | apply List.Mem.tail)) rfl Tryz.underlying22 Tryz.sizeOf35 rfl (by omega)) rfl ?_
        refine Tr.ownNil _ _ (Tr.appendOf (ys := ((rcntK l i)).take k) rfl rfl (by repeat (first | exact Del.here _ | apply Del.there)) (fun w hw => (by have q := Sl.resl (hw.row (by repeat (first | exact List.Mem.head _ | apply List.Mem.tail))) (l := 0) (h := k) (by omega) (by omega); rw [List.drop_zero] at q; exact q)) Tryz.underlying22 HLF.info35 (by rfl) (by rfl) (by (try simp only [List.length_cons, List.length_nil, List.length_append, List.length_take, List.length_drop]); omega) (by unfold maxLen; (try simp only [List.length_cons, List.length_nil, List.length_append, List.length_take, List.length_drop]); omega) rfl (fun V71 => ?_))
        refine Tr.q (QS.assign rfl) rfl ?_
        refine Tr.nil ?_
        refine Tr.thenN ?_
        refine Tr.seq ?_
        refine Tr.region ?_
        refine Tr.q (QS.move rfl) rfl ?_
        refine Tr.q (QS.move rfl) rfl ?_
        refine Tr.q (QS.move rfl) rfl ?_
        refine Tr.q (QS.idxN rfl rfl (by assumption) Tryz.underlying22 Tryz.sizeOf35 (by rfl) (by omega)) rfl ?_
        refine Tr.q (QS.elA rfl (by assumption) Tryz.isAgg35 Tryz.sizeOf35 (by rfl) (by omega)) rfl ?_
        refine Tr.lit1 (E := encIns) _ rfl rfl Tryz.underlying22 Tryz.sizeOf35 Tryz.zeroValue35 (by rfl) (by rfl) rfl (fun V8 => ?_)
        refine Tr.append1 rfl rfl (by repeat (first | exact Del.here _ | apply Del.there)) (by repeat (first | exact Del.here _ | apply Del.there)) Tryz.underlying22 HLF.info35 (by rfl) (by rfl) (by (try simp only [List.length_cons, List.length_nil, List.length_append, List.length_take]); omega) (by unfold maxLen; (try simp only [List.length_cons, List.length_nil, List.length_append, List.length_take]); omega) rfl (fun V9 => ?_)
        refine Tr.q (QS.assign rfl) rfl ?_
        refine Tr.nil ?_
        refine Tr.thenN ?_
        refine Tr.region ?_
        refine Tr.q (QS.move rfl) rfl ?_
        refine Tr.q (QS.move rfl) rfl ?_
        refine Tr.q (QS.move rfl) rfl ?_
        refine Tr.q (QS.sliceFrom rfl (by repeat (first | exact List.Mem.head _ | apply List.Mem.tail)) rfl Tryz.underlying22 Tryz.sizeOf35 rfl (by omega)) rfl ?_
        refine Tr.appendOf (ys := ((rcntK l i)).drop k) rfl rfl (by repeat (first | exact Del.here _ | apply Del.there)) (fun w hw => (by have q := Sl.resl (hw.row (l := (rcntK l i)) (by repeat (first | exact List.Mem.head _ | apply List.Mem.tail))) (l := k) (h := (rcntK l i).length) (by omega) (by omega); rw [List.take_length] at q; exact q)) Tryz.underlying22 HLF.info35 (by rfl) (by rfl) (by (try simp only [List.length_cons, List.length_nil, List.length_append, List.length_take, List.length_drop]); omega) (by unfold maxLen; (try simp only [List.length_cons, List.length_nil, List.length_append, List.length_take, List.length_drop]); omega) rfl (fun V73 => ?_)
        refine Tr.q (QS.assign rfl) rfl ?_
        refine Tr.nil ?_
        refine Tr.inN ?_
        refine Tr.thenN ?_
        refine Tr.region ?_
        refine Tr.q (QS.move rfl) rfl ?_
        refine Tr.q (QS.addI rfl rfl (by omega)) rfl ?_
        refine Tr.q (QS.assign rfl) rfl ?_
        refine Tr.nil ?_
        refine Tr.thenN ?_
        have hst : ([] ++ ((rcntK l i)).take k) ++ [(l.getD i default)] ++ ((rcntK l i)).drop k = rcntK l (i + 1) := by
          rw [rcnt_succ, rcntS, hid.2, if_pos (by rw [Bool.and_eq_true, Bool.and_eq_true, Bool.or_eq_true, decide_eq_true_eq, decide_eq_true_eq, decide_eq_true_eq]; exact ⟨⟨h7.1.1, h7.1.2.imp (fun q => by omega) id⟩, h7.2⟩), putA, hid.1]; simp
        rw [hst]
        apply Tr.again (i + 1, _)
        · exact rfl
        · exact (.cons (by first | rfl | exact lookI rfl (by omega) | exact lookI rfl (by simp) | exact lookB rfl (by simp)) (.cons (by first | rfl | exact lookI rfl (by omega) | exact lookI rfl (by simp) | exact lookB rfl (by simp)) Front.nil))
        · exact SubX.dropN 47 (by kernel_rfl) rfl
        · exact (by repeat' (first | exact Pick.nil _ | exact Del.here _ | apply Pick.cons | apply Del.there))
        · exact (by show i + 1 ≤ _; omega)
        · exact (by (try dsimp only); omega)
      · try simp only [bs] at h7
        refine Tr.skip ?_
        refine Tr.inN ?_
        refine Tr.thenN ?_
        refine Tr.region ?_
        refine Tr.q (QS.move rfl) rfl ?_
        refine Tr.q (QS.addI rfl rfl (by omega)) rfl ?_
        refine Tr.q (QS.assign rfl) rfl ?_
        refine Tr.nil ?_
        refine Tr.thenN ?_
        have hst : (rcntK l i) = rcntK l (i + 1) := by
          rw [rcnt_succ, rcntS, hid.2, if_neg (by rw [Bool.and_eq_true, Bool.and_eq_true, Bool.or_eq_true, decide_eq_true_eq, decide_eq_true_eq, decide_eq_true_eq]; rintro ⟨⟨q1, q2⟩, q3⟩; simp_all)]
        rw [hst]
        apply Tr.again (i + 1, _)
        · exact rfl
        · exact (.cons (by first | rfl | exact lookI rfl (by omega) | exact lookI rfl (by simp) | exact lookB rfl (by simp)) (.cons (by first | rfl | exact lookI rfl (by omega) | exact lookI rfl (by simp) | exact lookB rfl (by simp)) Front.nil))
        · exact SubX.dropN 26 (by kernel_rfl) rfl
        · exact (by repeat' (first | exact Pick.nil _ | exact Del.here _ | apply Pick.cons | apply Del.there))
        · exact (by show i + 1 ≤ _; omega)
        · exact (by (try dsimp only); omega)
  · try simp only [bs] at h1
    refine Tr.exit ?_
    refine Tr.thenE ?_
    refine Tr.thenE ?_
    refine Tr.inHit ?_
    refine Tr.thenN ?_
    refine Tr.seq ?_
    refine Tr.region ?_
    refine Tr.q (QS.move rfl) rfl ?_
    refine Tr.q (QS.assign rfl) rfl ?_
    refine Tr.nil ?_
    refine Tr.thenN ?_
    refine Tr.ret ?_
    refine Tr.ret1 Tryz.results62 rfl (fun w' hw => ?_)
    obtain rfl : i = l.length := by omega
    exact ⟨_, rfl, hw.below (Bg.le.refl _), hw.new (.head _)⟩
set_option maxRecDepth 100000 in
set_option maxHeartbeats 2000000 in
theorem group13_any (ents : List UInt32) (l : List Ins) (Vi Ve Vu Vb V : Value) (a : UInt32) (w : World) (hE : Sl (hp w) encU32 ents Ve) (hV : Sl (hp w) encIns l V) :
    Calls Tryz.prog 63 #[.agg #[Vi, Ve, Vu, Vb], V, .int .u32 a.toNat] w (fun e w' => e = .returned (.int .i64 (gR ents l a)) ∧ Ext w w') := by
  have hV' : Sl (Bg.of w).blk encIns l V := hV
  have hE' : Sl (Bg.of w).blk encU32 ents Ve := hE
  have hlen := hV.len_le
  refine enter Tryz.func63 rfl Tryz.ntmps63 rfl ?_
  refine Tr.seq ?_
  refine Tr.region ?_
  refine Tr.box rfl rfl rfl (fun b1 => ?_)
  refine Tr.q (QS.assign rfl) rfl ?_
  refine Tr.nil ?_
  refine Tr.thenN ?_
  refine Tr.seq ?_
  refine Tr.seq ?_
  refine Tr.region ?_
  refine Tr.q (QS.fieldAddr (off := 1) (ft := 23) rfl Tryz.underlying25 rfl rfl Tryz.sizeOf23 (by decide)) rfl ?_
  refine Tr.q (QS.lV rfl Tryz.isAgg23) rfl ?_
  refine Tr.q (QS.move rfl) rfl ?_
  refine Tr.q (QS.call rfl Tryz.call17 (fun w hw => has12_any ents Ve a w (hw.slF hE'))) rfl ?_
  refine Tr.nil ?_
  refine Tr.thenN ?_
  refine Tr.cond rfl (fun h2 => ?_) (fun h2 => ?_)
  · try simp only [bs] at h2
    refine Tr.seq ?_
    refine Tr.region ?_
    refine Tr.q (QS.assign rfl) rfl ?_
    refine Tr.nil ?_
    refine Tr.thenN ?_
    refine Tr.ret ?_
    refine Tr.thenR ?_
    refine Tr.ret1 Tryz.results63 rfl (fun w' hw => ?_)
    exact ⟨by rw [gR, if_pos (by assumption)], hw.below (Bg.le.refl _)⟩
  · try simp only [bs] at h2
    refine Tr.skip ?_
    refine Tr.thenN ?_
    refine Tr.seq ?_
    refine Tr.seq ?_
    refine Tr.region ?_
    refine Tr.q (QS.assign rfl) rfl ?_
    refine Tr.nil ?_
    refine Tr.thenN ?_
    refine Tr.block ?_
    refine Tr.loop (ι := Nat) (fun k => k ≤ l.length ∧ (l.take k).any (fun x => (targetP x).2 && decide ((targetP x).1 = a)) = false) (fun _ => _) (fun k => [cellE b1 [Vi, Ve, Vu, Vb] 25]) (fun k => [(7, .int .i64 (k : Nat))]) (fun k => l.length - k) 0 ⟨Nat.zero_le _, rfl⟩ (.cons (by first | rfl | exact lookI rfl (by omega) | exact lookI rfl (by simp) | exact lookB rfl (by simp)) Front.nil) (by repeat' (first | exact Pick.nil _ | exact Del.here _ | apply Pick.cons | apply Del.there)) rfl (fun k hi m hm => ?_)
    replace hi : k ≤ l.length ∧ (l.take k).any (fun x => (targetP x).2 && decide ((targetP x).1 = a)) = false := hi
    replace hm : m = l.length - k := hm
    change Tr _ _ [cellE b1 [Vi, Ve, Vu, Vb] 25] ([(7, .int .i64 (k : Nat))] ++ _) _
    obtain ⟨hk1, hk2⟩ := hi
    refine Tr.seq ?_
    refine Tr.seq ?_
    refine Tr.region ?_
    refine Tr.q (QS.move rfl) rfl ?_
    refine Tr.q (QS.move rfl) rfl ?_
    refine Tr.q (QS.len rfl (by assumption) Tryz.underlying22) rfl ?_
    refine Tr.q (QS.lss rfl rfl) rfl ?_
    refine Tr.nil ?_
    refine Tr.thenN ?_
    refine Tr.cond rfl (fun h3 => ?_) (fun h3 => ?_)
    · try simp only [bs] at h3
      refine Tr.skip ?_
      refine Tr.thenN ?_
      refine Tr.seq ?_
      refine Tr.block ?_
      refine Tr.seq ?_
      refine Tr.region ?_
      refine Tr.q (QS.move rfl) rfl ?_
      refine Tr.q (QS.move rfl) rfl ?_
      refine Tr.q (QS.idxN rfl rfl (by assumption) Tryz.underlying22 Tryz.sizeOf35 (by rfl) (by omega)) rfl ?_
      refine Tr.q (QS.elA rfl (by assumption) Tryz.isAgg35 Tryz.sizeOf35 (by rfl) (by omega)) rfl ?_
      refine Tr.q (QS.call rfl Tryz.call90 (fun w hw => refTarget_any (l.getD k default) w)) rfl ?_
      refine Tr.q (QS.move rfl) rfl ?_
      refine Tr.q (QS.extract rfl rfl) rfl ?_
      refine Tr.q (QS.extract rfl rfl) rfl ?_
      refine Tr.q (QS.assign rfl) rfl ?_
      refine Tr.q (QS.assign rfl) rfl ?_
      refine Tr.nil ?_
      refine Tr.thenN ?_
      refine Tr.seq ?_
      refine Tr.region ?_
      refine Tr.q (QS.move rfl) rfl ?_
      refine Tr.q (QS.move rfl) rfl ?_
      apply Tr.andP
      · exact (rfl : _ = (4, 29, 33))
      · exact rfl
      · intro hT4; have hT4' := hT4
        try simp only [bs] at hT4'
        refine Tr.gq rfl rfl hT4 (QS.move rfl) rfl ?_
        refine Tr.gq rfl rfl hT4 (QS.move rfl) rfl ?_
        refine Tr.gq rfl rfl hT4 (QS.eql32 rfl rfl) rfl ?_
        refine Tr.q (QS.pickT rfl hT4 rfl) rfl ?_
        refine Tr.nil (Tr.thenN ?_)
        exact Tr.endX (Sub.cons rfl (Sub.dropN 4 (by kernel_rfl) rfl))
      · intro hF4
        refine Tr.gskip rfl rfl hF4 rfl ?_
        refine Tr.gskip rfl rfl hF4 rfl ?_
        refine Tr.gskip rfl rfl hF4 rfl ?_
        refine Tr.q (QS.pickF rfl hF4 rfl) rfl ?_
        refine Tr.nil (Tr.thenN ?_)
        exact Tr.endX (Sub.cons rfl (Sub.dropN 4 (by kernel_rfl) rfl))
      refine Tr.nil ?_
      refine Tr.thenN ?_
      refine Tr.cond rfl (fun h5 => ?_) (fun h5 => ?_)
      · try simp only [bs] at h5
        refine Tr.seq ?_
        refine Tr.region ?_
        refine Tr.q (QS.assign rfl) rfl ?_
        refine Tr.nil ?_
        refine Tr.thenN ?_
        refine Tr.ret ?_
        refine Tr.inR ?_
        refine Tr.thenR ?_
        refine Tr.thenR ?_
        refine Tr.inR ?_
        refine Tr.thenR ?_
        refine Tr.ret1 Tryz.results63 rfl (fun w' hw => ?_)
        exact ⟨by rw [gR, if_neg (by simp_all), if_pos (List.any_eq_true.2 ⟨_, mem_getD (k := k) (by omega), by simp_all⟩)], hw.below (Bg.le.refl _)⟩
      · try simp only [bs] at h5
        refine Tr.skip ?_
        refine Tr.inN ?_
        refine Tr.thenN ?_
        refine Tr.region ?_
        refine Tr.q (QS.move rfl) rfl ?_
        refine Tr.q (QS.addI rfl rfl (by omega)) rfl ?_
        refine Tr.q (QS.assign rfl) rfl ?_
        refine Tr.nil ?_
        refine Tr.thenN ?_
        apply Tr.again (k + 1)
        · exact rfl
        · exact (.cons (by first | rfl | exact lookI rfl (by omega) | exact lookI rfl (by simp) | exact lookB rfl (by simp)) Front.nil)
        · exact SubX.dropN 21 (by kernel_rfl) rfl
        · exact (by repeat' (first | exact Pick.nil _ | exact Del.here _ | apply Pick.cons | apply Del.there))
        · exact ⟨by omega, by rw [any_take_succ (by omega), hk2, Bool.false_or, Bool.and_eq_false_iff, decide_eq_false_iff_not]; exact h5⟩
        · exact (by (try dsimp only); omega)
    · try simp only [bs] at h3
      refine Tr.exit ?_
      refine Tr.thenE ?_
      refine Tr.thenE ?_
      refine Tr.inHit ?_
      refine Tr.thenN ?_
      refine Tr.seq ?_
      refine Tr.region ?_
      refine Tr.q (QS.assign rfl) rfl ?_
      refine Tr.nil ?_
      refine Tr.thenN ?_
      refine Tr.ret ?_
      refine Tr.ret1 Tryz.results63 rfl (fun w' hw => ?_)
      obtain rfl : k = l.length := by omega
      rw [List.take_length] at hk2
      exact ⟨by rw [gR, if_neg (by simp_all), if_neg (by rw [hk2]; simp)], hw.below (Bg.le.refl _)⟩
set_option maxRecDepth 100000 in
set_option maxHeartbeats 2000000 in
theorem free13_any (l : List Ins) (V : Value) (x : Ins) (w : World) (hV : Sl (hp w) encIns l V) (hI : ∀ y ∈ l, InsOK y) (hJ : InsOK x) :
    Calls Tryz.prog 64 #[V, .agg (encIns.enc x).toArray] w (fun e w' => e = .returned (.bool (freeR l x)) ∧ Ext w w') := by
  have hV' : Sl (Bg.of w).blk encIns l V := hV
  have hlen := hV.len_le
  refine enter Tryz.func64 rfl Tryz.ntmps64 rfl ?_
  refine Tr.seq ?_
  refine Tr.region ?_
  refine Tr.box rfl rfl rfl (fun b1 => ?_)
  refine Tr.q (QS.assign rfl) rfl ?_
  refine Tr.nil ?_
  refine Tr.thenN ?_
  refine Tr.seq ?_
  refine Tr.seq ?_
  refine Tr.region ?_
  refine Tr.q (QS.assign rfl) rfl ?_
  refine Tr.nil ?_
  refine Tr.thenN ?_
  refine Tr.block ?_
  refine Tr.loop (ι := Nat) (fun k => k ≤ l.length ∧ (l.take k).any (fun y => conflP y x) = false) (fun _ => _) (fun k => [cellE b1 (encIns.enc x) 35]) (fun k => [(5, .int .i64 (k : Nat))]) (fun k => l.length - k) 0 ⟨Nat.zero_le _, rfl⟩ (.cons (by first | rfl | exact lookI rfl (by omega) | exact lookI rfl (by simp) | exact lookB rfl (by simp)) Front.nil) (by repeat' (first | exact Pick.nil _ | exact Del.here _ | apply Pick.cons | apply Del.there)) rfl (fun k hi m hm => ?_)
  replace hi : k ≤ l.length ∧ (l.take k).any (fun y => conflP y x) = false := hi
  replace hm : m = l.length - k := hm
  change Tr _ _ [cellE b1 (encIns.enc x) 35] ([(5, .int .i64 (k : Nat))] ++ _) _
  obtain ⟨hk1, hk2⟩ := hi
  refine Tr.seq ?_
  refine Tr.seq ?_
  refine Tr.region ?_
  refine Tr.q (QS.move rfl) rfl ?_
  refine Tr.q (QS.move rfl) rfl ?_
  refine Tr.q (QS.len rfl (by assumption) Tryz.underlying22) rfl ?_
  refine Tr.q (QS.lss rfl rfl) rfl ?_
  refine Tr.nil ?_
  refine Tr.thenN ?_
  refine Tr.cond rfl (fun h2 => ?_) (fun h2 => ?_)
  · try simp only [bs] at h2
    refine Tr.skip ?_
    refine Tr.thenN ?_
    refine Tr.seq ?_
    refine Tr.block ?_
    refine Tr.seq ?_
    refine Tr.regionQ HLF.mixed (by kernel_rfl) ?_
    refine TrQ.q (QS.move rfl) rfl ?_
    refine TrQ.q (QS.move rfl) rfl ?_
    refine TrQ.q (QS.idxN rfl rfl (by assumption) Tryz.underlying22 Tryz.sizeOf35 (by rfl) (by omega)) rfl ?_
    refine TrQ.q (QS.elA rfl (by assumption) Tryz.isAgg35 Tryz.sizeOf35 (by rfl) (by omega)) rfl ?_
    refine TrQ.q (QS.lW rfl Tryz.isAgg35 Tryz.sizeOf35) rfl ?_
    refine TrQ.q (QS.call rfl Tryz.call56 (fun w hw => conflict13_any (l.getD k default) x w (hI _ (mem_getD (by omega))) hJ)) rfl ?_
    refine TrQ.nil ?_
    refine Tr.thenN ?_
    refine Tr.cond rfl (fun h3 => ?_) (fun h3 => ?_)
    · try simp only [bs] at h3
      refine Tr.seq ?_
      refine Tr.region ?_
      refine Tr.q (QS.assign rfl) rfl ?_
      refine Tr.nil ?_
      refine Tr.thenN ?_
      refine Tr.ret ?_
      refine Tr.inR ?_
      refine Tr.thenR ?_
      refine Tr.thenR ?_
      refine Tr.inR ?_
      refine Tr.thenR ?_
      refine Tr.ret1 Tryz.results64 rfl (fun w' hw => ?_)
      exact ⟨by rw [freeR, List.any_eq_true.2 ⟨_, mem_getD (k := k) (by omega), by assumption⟩]; rfl, hw.below (Bg.le.refl _)⟩
    · try simp only [bs] at h3
      refine Tr.skip ?_
      refine Tr.inN ?_
      refine Tr.thenN ?_
      refine Tr.region ?_
      refine Tr.q (QS.move rfl) rfl ?_
      refine Tr.q (QS.addI rfl rfl (by omega)) rfl ?_
      refine Tr.q (QS.assign rfl) rfl ?_
      refine Tr.nil ?_
      refine Tr.thenN ?_
      apply Tr.again (k + 1)
      · exact rfl
      · exact (.cons (by first | rfl | exact lookI rfl (by omega) | exact lookI rfl (by simp) | exact lookB rfl (by simp)) Front.nil)
      · exact SubX.dropN 14 (by kernel_rfl) rfl
      · exact (by repeat' (first | exact Pick.nil _ | exact Del.here _ | apply Pick.cons | apply Del.there))
      · exact ⟨by omega, by rw [any_take_succ (by omega), hk2, Bool.false_or]; simp_all⟩
      · exact (by (try dsimp only); omega)
  · try simp only [bs] at h2
    refine Tr.exit ?_
    refine Tr.thenE ?_
    refine Tr.thenE ?_
    refine Tr.inHit ?_
    refine Tr.thenN ?_
    refine Tr.seq ?_
    refine Tr.region ?_
    refine Tr.q (QS.assign rfl) rfl ?_
    refine Tr.nil ?_
    refine Tr.thenN ?_
    refine Tr.ret ?_
    refine Tr.ret1 Tryz.results64 rfl (fun w' hw => ?_)
    obtain rfl : k = l.length := by omega
    rw [List.take_length] at hk2
    exact ⟨by rw [freeR, hk2]; rfl, hw.below (Bg.le.refl _)⟩
set_option maxRecDepth 100000 in
set_option maxHeartbeats 4000000 in
theorem at13_any (l : List UInt32) (kept : List Ins) (V W : Value) (w : World) (hV : Sl (hp w) encU32 l V) (hW : Sl (hp w) encIns kept W) (h1 : l.length ≤ 200) (h2 : kept.length ≤ 1000) :
    Calls Tryz.prog 66 #[V, W] w (fun e w' => ∃ V', e = .returned V' ∧ Ext w w' ∧ NewRow w w' 33 encU32 ((atR l kept l.length)) V') := by
  have hV' : Sl (Bg.of w).blk encU32 l V := hV
  have hW' : Sl (Bg.of w).blk encIns kept W := hW
  refine enter Tryz.func66 rfl Tryz.ntmps66 rfl ?_
  refine Tr.seq ?_
  refine Tr.region ?_
  refine Tr.q (QS.assign rfl) rfl ?_
  refine Tr.nil ?_
  refine Tr.thenN ?_
  refine Tr.seq ?_
  refine Tr.region ?_
  refine Tr.q (QS.assign rfl) rfl ?_
  refine Tr.nil ?_
  refine Tr.thenN ?_
  refine Tr.seq ?_
  refine Tr.seq ?_
  refine Tr.region ?_
  refine Tr.q (QS.assign rfl) rfl ?_
  refine Tr.nil ?_
  refine Tr.thenN ?_
  refine Tr.block ?_
  refine Tr.ownNil 33 encU32 ?_
  refine Tr.loop (ι := Nat × Value) (fun ⟨i, V'⟩ => i ≤ l.length) (fun _ => _) (fun ⟨i, V'⟩ => [rowE V' 33 encU32 (atR l kept i)]) (fun ⟨i, V'⟩ => [(6, .int .i64 (i : Nat)), (5, V')]) (fun ⟨i, V'⟩ => l.length - i) (0, _) (Nat.zero_le _) (.cons (by first | rfl | exact lookI rfl (by omega) | exact lookI rfl (by simp) | exact lookB rfl (by simp)) (.cons (by first | rfl | exact lookI rfl (by omega) | exact lookI rfl (by simp) | exact lookB rfl (by simp)) Front.nil)) (by repeat' (first | exact Pick.nil _ | exact Del.here _ | apply Pick.cons | apply Del.there)) rfl (fun i hi m hm => ?_)
  obtain ⟨i, V'⟩ := i
  replace hi : i ≤ l.length := hi
  replace hm : m = l.length - i := hm
  change Tr _ _ [rowE V' 33 encU32 (atR l kept i)] ([(6, .int .i64 (i : Nat)), (5, V')] ++ _) _
  have hal := at_len l kept i
  have hxm : i * kept.length ≤ 200 * 1000 := Nat.mul_le_mul (by omega) h2
  refine Tr.seq ?_
  refine Tr.seq ?_
  refine Tr.region ?_
  refine Tr.q (QS.move rfl) rfl ?_
  refine Tr.q (QS.move rfl) rfl ?_
  refine Tr.q (QS.len rfl (by assumption) Tryz.underlying23) rfl ?_
  refine Tr.q (QS.lss rfl rfl) rfl ?_
  refine Tr.nil ?_
  refine Tr.thenN ?_
  refine Tr.cond rfl (fun h1 => ?_) (fun h1 => ?_)
  · try simp only [bs] at h1
    refine Tr.skip ?_
    refine Tr.thenN ?_
    refine Tr.seq ?_
    refine Tr.block ?_
    refine Tr.seq ?_
    refine Tr.region ?_
    refine Tr.q (QS.assign rfl) rfl ?_
    refine Tr.nil ?_
    refine Tr.thenN ?_
    refine Tr.block ?_
    have e0 : atR l kept i ++ atS (kept.take 0) (l.getD i default) = atR l kept i := by simp [atS]
    rw [← e0]
    refine Tr.loop (ι := Nat × Value) (fun ⟨j, V2⟩ => j ≤ kept.length) (fun _ => _) (fun ⟨j, V2⟩ => [rowE V2 33 encU32 (atR l kept i ++ atS (kept.take j) (l.getD i default))]) (fun ⟨j, V2⟩ => [(7, .int .i64 (j : Nat)), (5, V2)]) (fun ⟨j, V2⟩ => kept.length - j) (0, _) (Nat.zero_le _) (.cons (by first | rfl | exact lookI rfl (by omega) | exact lookI rfl (by simp) | exact lookB rfl (by simp)) (.cons (by first | rfl | exact lookI rfl (by omega) | exact lookI rfl (by simp) | exact lookB rfl (by simp)) Front.nil)) (by repeat' (first | exact Pick.nil _ | exact Del.here _ | apply Pick.cons | apply Del.there)) rfl (fun i hi m hm => ?_)
    obtain ⟨j, V2⟩ := i
    replace hi : j ≤ kept.length := hi
    replace hm : m = kept.length - j := hm
    change Tr _ _ [rowE V2 33 encU32 (atR l kept i ++ atS (kept.take j) (l.getD i default))] ([(7, .int .i64 (j : Nat)), (5, V2)] ++ _) _
    have hsl := atS_len (kept.take j) (l.getD i default)
    rw [List.length_take] at hsl
    refine Tr.seq ?_
    refine Tr.seq ?_
    refine Tr.region ?_
    refine Tr.q (QS.move rfl) rfl ?_
    refine Tr.q (QS.move rfl) rfl ?_
    refine Tr.q (QS.len rfl (by assumption) Tryz.underlying22) rfl ?_
    refine Tr.q (QS.lss rfl rfl) rfl ?_
    refine Tr.nil ?_
    refine Tr.thenN ?_
    refine Tr.cond rfl (fun h2 => ?_) (fun h2 => ?_)
    · try simp only [bs] at h2
      refine Tr.skip ?_
      refine Tr.thenN ?_
      refine Tr.seq ?_
      refine Tr.block ?_
      refine Tr.seq ?_
      refine Tr.regionQ HLF.mixed (by kernel_rfl) ?_
      refine TrQ.q (QS.move rfl) rfl ?_
      refine TrQ.q (QS.move rfl) rfl ?_
      refine TrQ.q (QS.idxN rfl rfl (by assumption) Tryz.underlying22 Tryz.sizeOf35 (by rfl) (by omega)) rfl ?_
      refine TrQ.q (QS.fieldAddr (off := 0) (ft := 33) rfl Tryz.underlying35 rfl rfl Tryz.sizeOf33 (by decide)) rfl ?_
      refine TrQ.q (QS.elF rfl (by assumption) Tryz.isAgg33 (by omega) (by rfl)) rfl ?_
      refine TrQ.q (QS.move rfl) rfl ?_
      refine TrQ.q (QS.move rfl) rfl ?_
      refine TrQ.q (QS.idxN rfl rfl (by assumption) Tryz.underlying23 Tryz.sizeOf33 (by rfl) (by omega)) rfl ?_
      refine TrQ.q (QS.el1 rfl (by assumption) Tryz.isAgg33 (by omega) (by rfl)) rfl ?_
      refine TrQ.q (QS.eql32 rfl rfl) rfl ?_
      refine TrQ.nil ?_
      refine Tr.thenN ?_
      refine Tr.cond rfl (fun h3 => ?_) (fun h3 => ?_)
      · try simp only [bs] at h3
        refine Tr.region ?_
        refine Tr.q (QS.move rfl) rfl ?_
        refine Tr.q (QS.move rfl) rfl ?_
        refine Tr.q (QS.move rfl) rfl ?_
        refine Tr.q (QS.idxN rfl rfl (by assumption) Tryz.underlying23 Tryz.sizeOf33 (by rfl) (by omega)) rfl ?_
        refine Tr.q (QS.el1 rfl (by assumption) Tryz.isAgg33 (by omega) (by rfl)) rfl ?_
        refine Tr.lit1 (E := encU32) _ rfl rfl Tryz.underlying23 Tryz.sizeOf33 Tryz.zeroValue33 (by rfl) (by rfl) rfl (fun V4 => ?_)
        refine Tr.append1 rfl rfl (by repeat (first | exact Del.here _ | apply Del.there)) (by repeat (first | exact Del.here _ | apply Del.there)) Tryz.underlying23 HLF.info33 (by rfl) (by rfl) (by (try simp only [List.length_cons, List.length_nil, List.length_append, List.length_take]); omega) (by unfold maxLen; (try simp only [List.length_cons, List.length_nil, List.length_append, List.length_take]); omega) rfl (fun V5 => ?_)
        refine Tr.q (QS.assign rfl) rfl ?_
        refine Tr.nil ?_
        refine Tr.inN ?_
        refine Tr.thenN ?_
        refine Tr.region ?_
        refine Tr.q (QS.move rfl) rfl ?_
        refine Tr.q (QS.addI rfl rfl (by omega)) rfl ?_
        refine Tr.q (QS.assign rfl) rfl ?_
        refine Tr.nil ?_
        refine Tr.thenN ?_
        rw [List.append_assoc, ← atS_yes (by omega) (by assumption)]
        apply Tr.again (j + 1, _)
        · exact rfl
        · exact (.cons (by first | rfl | exact lookI rfl (by omega) | exact lookI rfl (by simp) | exact lookB rfl (by simp)) (.cons (by first | rfl | exact lookI rfl (by omega) | exact lookI rfl (by simp) | exact lookB rfl (by simp)) Front.nil))
        · exact SubX.dropN 27 (by kernel_rfl) rfl
        · exact (by repeat' (first | exact Pick.nil _ | exact Del.here _ | apply Pick.cons | apply Del.there))
        · exact (by show j + 1 ≤ _; omega)
        · exact (by (try dsimp only); omega)
      · try simp only [bs] at h3
        refine Tr.skip ?_
        refine Tr.inN ?_
        refine Tr.thenN ?_
        refine Tr.region ?_
        refine Tr.q (QS.move rfl) rfl ?_
        refine Tr.q (QS.addI rfl rfl (by omega)) rfl ?_
        refine Tr.q (QS.assign rfl) rfl ?_
        refine Tr.nil ?_
        refine Tr.thenN ?_
        rw [← atS_no (by omega) (by assumption)]
        apply Tr.again (j + 1, _)
        · exact rfl
        · exact (.cons (by first | rfl | exact lookI rfl (by omega) | exact lookI rfl (by simp) | exact lookB rfl (by simp)) (.cons (by first | rfl | exact lookI rfl (by omega) | exact lookI rfl (by simp) | exact lookB rfl (by simp)) Front.nil))
        · exact SubX.dropN 19 (by kernel_rfl) rfl
        · exact (by repeat' (first | exact Pick.nil _ | exact Del.here _ | apply Pick.cons | apply Del.there))
        · exact (by show j + 1 ≤ _; omega)
        · exact (by (try dsimp only); omega)
    · try simp only [bs] at h2
      refine Tr.exit ?_
      refine Tr.thenE ?_
      refine Tr.thenE ?_
      refine Tr.inHit ?_
      refine Tr.inN ?_
      refine Tr.thenN ?_
      refine Tr.region ?_
      refine Tr.q (QS.move rfl) rfl ?_
      refine Tr.q (QS.addI rfl rfl (by omega)) rfl ?_
      refine Tr.q (QS.assign rfl) rfl ?_
      refine Tr.nil ?_
      refine Tr.thenN ?_
      obtain rfl : j = kept.length := by omega
      rw [List.take_length, ← at_succ (by omega)]
      apply Tr.again (i + 1, _)
      · exact rfl
      · exact (.cons (by first | rfl | exact lookI rfl (by omega) | exact lookI rfl (by simp) | exact lookB rfl (by simp)) (.cons (by first | rfl | exact lookI rfl (by omega) | exact lookI rfl (by simp) | exact lookB rfl (by simp)) Front.nil))
      · exact SubX.dropN 16 (by kernel_rfl) rfl
      · exact (by repeat' (first | exact Pick.nil _ | exact Del.here _ | apply Pick.cons | apply Del.there))
      · exact (by show i + 1 ≤ _; omega)
      · exact (by (try dsimp only); omega)
  · try simp only [bs] at h1
    refine Tr.exit ?_
    refine Tr.thenE ?_
    refine Tr.thenE ?_
    refine Tr.inHit ?_
    refine Tr.thenN ?_
    refine Tr.seq ?_
    refine Tr.region ?_
    refine Tr.q (QS.move rfl) rfl ?_
    refine Tr.q (QS.assign rfl) rfl ?_
    refine Tr.nil ?_
    refine Tr.thenN ?_
    refine Tr.ret ?_
    refine Tr.ret1 Tryz.results66 rfl (fun w' hw => ?_)
    obtain rfl : i = l.length := by omega
    exact ⟨_, rfl, hw.below (Bg.le.refl _), hw.new (.head _)⟩
end Go.Proofs.YtmhbfelnjkhepaaGreat
namespace Go.Proofs.YtmhbfelnjkhepaaGreat
open Go Go.HL Go.RowKit
set_option maxRecDepth 100000 in
set_option maxHeartbeats 8000000 in
theorem resolve13_any (ins : List Ins) (ents unk bad : List UInt32) (Vi Ve Vu Vb : Value) (w : World) (hV : Sl (hp w) encIns ins Vi) (hE : Sl (hp w) encU32 ents Ve) (hU : Sl (hp w) encU32 unk Vu) (hB : Sl (hp w) encU32 bad Vb) (hI : ∀ x ∈ ins, InsOK x) (hn1 : ins.length ≤ 60) (hn2 : ents.length ≤ 200) (hn3 : unk.length ≤ 200) :
    Calls Tryz.prog 27 #[.agg #[Vi, Ve, Vu, Vb]] w (fun e w' => ∃ i : Value × Value × Value × Value, e = .returned (.tuple #[.agg #[i.1, i.2.1, i.2.2.1, Vb], i.2.2.2]) ∧ Ext w w' ∧ NewEnts w w' [rowE i.1 35 encIns (rresP ins ents unk bad).kept, rowE i.2.1 33 encU32 (rresP ins ents unk bad).ents, rowE i.2.2.1 33 encU32 (rresP ins ents unk bad).unk, rowE i.2.2.2 33 encU32 (rresP ins ents unk bad).rem]) := by
  obtain ⟨sab, scb, rfl, _⟩ := hB.shape
  have hV' : Sl (Bg.of w).blk encIns ins Vi := hV
  have hE' : Sl (Bg.of w).blk encU32 ents Ve := hE
  have hU' : Sl (Bg.of w).blk encU32 unk Vu := hU
  obtain ⟨lc, hlc⟩ : ∃ lc, lc = rcntL ins := ⟨_, rfl⟩
  have hcl := rcnt_len ins ins.length
  change (rcntL ins).length ≤ _ at hcl
  rw [← hlc] at hcl
  have hcI : ∀ x ∈ lc, InsOK x := fun x hx => hI _ (rcnt_sub ins ins.length x (by rw [hlc] at hx; exact hx) (Nat.le_refl _))
  have hr3 := rres3_len ents lc 3
  have hI3 : ∀ x ∈ (rres3 ents lc 3).1, InsOK x := fun x hx => hcI x (rres3_sub ents lc 3 x hx)
  refine enter Tryz.func27 rfl Tryz.ntmps27 rfl ?_
  refine Tr.seq ?_
  refine Tr.region ?_
  refine Tr.box rfl rfl rfl (fun b1 => ?_)
  refine Tr.alloc Tryz.zeroValue25 rfl rfl (fun b2 => ?_)
  refine Tr.q (QS.assign rfl) rfl ?_
  refine Tr.nil ?_
  refine Tr.thenN ?_
  refine Tr.seq ?_
  refine Tr.region ?_
  refine Tr.q (QS.fieldAddr (off := 0) (ft := 22) rfl Tryz.underlying25 rfl rfl Tryz.sizeOf22 (by decide)) rfl ?_
  refine Tr.q (QS.lV rfl Tryz.isAgg22) rfl ?_
  refine Tr.callRow rfl Tryz.call62 (fun w hw => (by rw [hlc]; exact counted13_any ins Vi w (hw.slF hV') hI (by omega) : Calls Tryz.prog 62 #[Vi] w (fun e w' => ∃ V', e = .returned V' ∧ Ext w w' ∧ NewRow w w' 35 encIns (lc) V'))) rfl (fun V3 => ?_)
  refine Tr.q (QS.assign rfl) rfl ?_
  refine Tr.nil ?_
  refine Tr.thenN ?_
  refine Tr.seq ?_
  refine Tr.region ?_
  refine Tr.q (QS.assign rfl) rfl ?_
  refine Tr.nil ?_
  refine Tr.thenN ?_
  refine Tr.seq ?_
  refine Tr.region ?_
  refine Tr.q (QS.assign rfl) rfl ?_
  refine Tr.nil ?_
  refine Tr.thenN ?_
  refine Tr.seq ?_
  refine Tr.seq ?_
  refine Tr.region ?_
  refine Tr.q (QS.assign rfl) rfl ?_
  refine Tr.nil ?_
  refine Tr.thenN ?_
  refine Tr.block ?_
  refine Tr.ownNil 33 encU32 ?_
  refine Tr.ownNil 35 encIns ?_
  refine Tr.loop (ι := Nat × Value × Value) (fun ⟨g, Vk, Vr⟩ => g ≤ 3) (fun _ => _) (fun ⟨g, Vk, Vr⟩ => [rowE Vk 35 encIns (rres3 ents lc g).1, rowE Vr 33 encU32 (rres3 ents lc g).2, rowE V3 35 encIns lc, cellE b2 [.slice none 0 0, .slice none 0 0, .slice none 0 0, .slice none 0 0] 25, cellE b1 [Vi, Ve, Vu, .slice sab bad.length scb] 25]) (fun ⟨g, Vk, Vr⟩ => [(7, .int .i64 (g : Nat)), (5, Vk), (6, Vr)]) (fun ⟨g, Vk, Vr⟩ => 3 - g) (0, _, _) (Nat.zero_le _) (.cons (by first | rfl | exact lookI rfl (by omega) | exact lookI rfl (by simp) | exact lookB rfl (by simp)) (.cons (by first | rfl | exact lookI rfl (by omega) | exact lookI rfl (by simp) | exact lookB rfl (by simp)) (.cons (by first | rfl | exact lookI rfl (by omega) | exact lookI rfl (by simp) | exact lookB rfl (by simp)) Front.nil))) (by repeat' (first | exact Pick.nil _ | exact Del.here _ | apply Pick.cons | apply Del.there)) rfl (fun i hi m hm => ?_)
  obtain ⟨g, Vk, Vr⟩ := i
  replace hi : g ≤ 3 := hi
  replace hm : m = 3 - g := hm
  change Tr _ _ [rowE Vk 35 encIns (rres3 ents lc g).1, rowE Vr 33 encU32 (rres3 ents lc g).2, rowE V3 35 encIns lc, cellE b2 [.slice none 0 0, .slice none 0 0, .slice none 0 0, .slice none 0 0] 25, cellE b1 [Vi, Ve, Vu, .slice sab bad.length scb] 25] ([(7, .int .i64 (g : Nat)), (5, Vk), (6, Vr)] ++ _) _
  have hrg := rres3_len ents lc g
  have hmg : g * lc.length ≤ 3 * 60 := Nat.mul_le_mul hi (by omega)
  refine Tr.seq ?_
  refine Tr.seq ?_
  refine Tr.region ?_
  refine Tr.q (QS.move rfl) rfl ?_
  refine Tr.q (QS.lss rfl rfl) rfl ?_
  refine Tr.nil ?_
  refine Tr.thenN ?_
  refine Tr.cond rfl (fun h4 => ?_) (fun h4 => ?_)
  · try simp only [bs] at h4
    refine Tr.skip ?_
    refine Tr.thenN ?_
    refine Tr.seq ?_
    refine Tr.block ?_
    refine Tr.seq ?_
    refine Tr.region ?_
    refine Tr.q (QS.assign rfl) rfl ?_
    refine Tr.nil ?_
    refine Tr.thenN ?_
    refine Tr.block ?_
    refine Tr.loop (ι := Nat × Value × Value) (fun ⟨i, Vk2, Vr2⟩ => i ≤ lc.length) (fun _ => _) (fun ⟨i, Vk2, Vr2⟩ => [rowE Vk2 35 encIns (rresG ents lc ((g : Nat) : Int) (rres3 ents lc g) i).1, rowE Vr2 33 encU32 (rresG ents lc ((g : Nat) : Int) (rres3 ents lc g) i).2, rowE V3 35 encIns lc, cellE b2 [.slice none 0 0, .slice none 0 0, .slice none 0 0, .slice none 0 0] 25, cellE b1 [Vi, Ve, Vu, .slice sab bad.length scb] 25]) (fun ⟨i, Vk2, Vr2⟩ => [(8, .int .i64 (i : Nat)), (5, Vk2), (6, Vr2)]) (fun ⟨i, Vk2, Vr2⟩ => lc.length - i) (0, _, _) (Nat.zero_le _) (.cons (by first | rfl | exact lookI rfl (by omega) | exact lookI rfl (by simp) | exact lookB rfl (by simp)) (.cons (by first | rfl | exact lookI rfl (by omega) | exact lookI rfl (by simp) | exact lookB rfl (by simp)) (.cons (by first | rfl | exact lookI rfl (by omega) | exact lookI rfl (by simp) | exact lookB rfl (by simp)) Front.nil))) (by repeat' (first | exact Pick.nil _ | exact Del.here _ | apply Pick.cons | apply Del.there)) rfl (fun i hi m hm => ?_)
    obtain ⟨i, Vk2, Vr2⟩ := i
    replace hi : i ≤ lc.length := hi
    replace hm : m = lc.length - i := hm
    change Tr _ _ [rowE Vk2 35 encIns (rresG ents lc ((g : Nat) : Int) (rres3 ents lc g) i).1, rowE Vr2 33 encU32 (rresG ents lc ((g : Nat) : Int) (rres3 ents lc g) i).2, rowE V3 35 encIns lc, cellE b2 [.slice none 0 0, .slice none 0 0, .slice none 0 0, .slice none 0 0] 25, cellE b1 [Vi, Ve, Vu, .slice sab bad.length scb] 25] ([(8, .int .i64 (i : Nat)), (5, Vk2), (6, Vr2)] ++ _) _
    have hgl := rresG_len ents lc ((g : Nat) : Int) (rres3 ents lc g) i
    obtain ⟨s, hs⟩ : ∃ s, s = (rresG ents lc ((g : Nat) : Int) (rres3 ents lc g) i) := ⟨_, rfl⟩
    have hsI : ∀ x ∈ s.1, InsOK x := fun x hx => by
      rw [hs] at hx
      rcases rresG_sub _ _ _ _ _ _ hx with q | q
      · exact hcI x (rres3_sub _ _ _ _ q)
      · exact hcI x q
    rw [← hs] at hgl ⊢
    refine Tr.seq ?_
    refine Tr.seq ?_
    refine Tr.region ?_
    refine Tr.q (QS.move rfl) rfl ?_
    refine Tr.q (QS.move rfl) rfl ?_
    refine Tr.q (QS.lenRow rfl (by repeat (first | exact List.Mem.head _ | apply List.Mem.tail)) Tryz.underlying22) rfl ?_
    refine Tr.q (QS.lss rfl rfl) rfl ?_
    refine Tr.nil ?_
    refine Tr.thenN ?_
    refine Tr.cond rfl (fun h5 => ?_) (fun h5 => ?_)
    · try simp only [bs] at h5
      refine Tr.skip ?_
      refine Tr.thenN ?_
      refine Tr.seq ?_
      refine Tr.block ?_
      refine Tr.seq ?_
      refine Tr.seq ?_
      refine Tr.regionQ HLF.mixed (by kernel_rfl) ?_
      refine TrQ.q (QS.lW rfl Tryz.isAgg25 Tryz.sizeOf25) rfl ?_
      refine TrQ.q (QS.move rfl) rfl ?_
      refine TrQ.q (QS.move rfl) rfl ?_
      refine TrQ.q (QS.move rfl) rfl ?_
      refine TrQ.q (QS.idxRowN rfl rfl (by repeat (first | exact List.Mem.head _ | apply List.Mem.tail)) Tryz.underlying22 Tryz.sizeOf35 (by rfl) (by omega)) rfl ?_
      refine TrQ.q (QS.fieldAddr (off := 0) (ft := 33) rfl Tryz.underlying35 rfl rfl Tryz.sizeOf33 (by decide)) rfl ?_
      refine TrQ.q (QS.elRF rfl (by repeat (first | exact List.Mem.head _ | apply List.Mem.tail)) Tryz.isAgg33 (by omega) (by rfl)) rfl ?_
      refine TrQ.q (QS.call rfl Tryz.call63 (fun w hw => group13_any ents lc Vi Ve Vu _ V3 (lc.getD i default).addr w (hw.slF hE') (hw.row (by repeat (first | exact List.Mem.head _ | apply List.Mem.tail))))) rfl ?_
      refine TrQ.q (QS.move rfl) rfl ?_
      refine TrQ.q (QS.neq rfl rfl) rfl ?_
      refine TrQ.nil ?_
      refine Tr.thenN ?_
      refine Tr.cond rfl (fun h6 => ?_) (fun h6 => ?_)
      · try simp only [bs] at h6
        refine Tr.exit ?_
        refine Tr.thenE ?_
        refine Tr.inHit ?_
        refine Tr.thenN ?_
        refine Tr.region ?_
        refine Tr.q (QS.move rfl) rfl ?_
        refine Tr.q (QS.addI rfl rfl (by omega)) rfl ?_
        refine Tr.q (QS.assign rfl) rfl ?_
        refine Tr.nil ?_
        refine Tr.thenN ?_
        have hst : s = (rresG ents lc ((g : Nat) : Int) (rres3 ents lc g) (i + 1)) := by rw [rresG_succ (by omega), ← hs, rresS, if_pos (by assumption)]
        rw [hst]
        apply Tr.again (i + 1, _, _)
        · exact rfl
        · exact (.cons (by first | rfl | exact lookI rfl (by omega) | exact lookI rfl (by simp) | exact lookB rfl (by simp)) (.cons (by first | rfl | exact lookI rfl (by omega) | exact lookI rfl (by simp) | exact lookB rfl (by simp)) (.cons (by first | rfl | exact lookI rfl (by omega) | exact lookI rfl (by simp) | exact lookB rfl (by simp)) Front.nil)))
        · exact SubX.dropN 20 (by kernel_rfl) rfl
        · exact (by repeat' (first | exact Pick.nil _ | exact Del.here _ | apply Pick.cons | apply Del.there))
        · exact (by show i + 1 ≤ _; omega)
        · exact (by (try dsimp only); omega)
      · try simp only [bs] at h6
        refine Tr.skip ?_
        refine Tr.thenN ?_
        refine Tr.seq ?_
        refine Tr.region ?_
        refine Tr.q (QS.move rfl) rfl ?_
        refine Tr.q (QS.move rfl) rfl ?_
        refine Tr.q (QS.move rfl) rfl ?_
        refine Tr.q (QS.idxRowN rfl rfl (by repeat (first | exact List.Mem.head _ | apply List.Mem.tail)) Tryz.underlying22 Tryz.sizeOf35 (by rfl) (by omega)) rfl ?_
        refine Tr.q (QS.elRA rfl (by repeat (first | exact List.Mem.head _ | apply List.Mem.tail)) Tryz.isAgg35 Tryz.sizeOf35 (by rfl) (by omega)) rfl ?_
        refine Tr.q (QS.call rfl Tryz.call64 (fun w hw => free13_any s.1 Vk2 (lc.getD i default) w (hw.row (by repeat (first | exact List.Mem.head _ | apply List.Mem.tail))) hsI (hcI _ (mem_getD (by omega))))) rfl ?_
        refine Tr.nil ?_
        refine Tr.thenN ?_
        refine Tr.cond rfl (fun h7 => ?_) (fun h7 => ?_)
        · try simp only [bs] at h7
          refine Tr.region ?_
          refine Tr.q (QS.move rfl) rfl ?_
          refine Tr.q (QS.move rfl) rfl ?_
          refine Tr.q (QS.move rfl) rfl ?_
          refine Tr.q (QS.idxRowN rfl rfl (by repeat (first | exact List.Mem.head _ | apply List.Mem.tail)) Tryz.underlying22 Tryz.sizeOf35 (by rfl) (by omega)) rfl ?_
          refine Tr.q (QS.elRA rfl (by repeat (first | exact List.Mem.head _ | apply List.Mem.tail)) Tryz.isAgg35 Tryz.sizeOf35 (by rfl) (by omega)) rfl ?_
          refine Tr.lit1 (E := encIns) _ rfl rfl Tryz.underlying22 Tryz.sizeOf35 Tryz.zeroValue35 (by rfl) (by rfl) rfl (fun V8 => ?_)
          refine Tr.append1 rfl rfl (by repeat (first | exact Del.here _ | apply Del.there)) (by repeat (first | exact Del.here _ | apply Del.there)) Tryz.underlying22 HLF.info35 (by rfl) (by rfl) (by (try simp only [List.length_cons, List.length_nil, List.length_append, List.length_take]); omega) (by unfold maxLen; (try simp only [List.length_cons, List.length_nil, List.length_append, List.length_take]); omega) rfl (fun V9 => ?_)
          refine Tr.q (QS.assign rfl) rfl ?_
          refine Tr.nil ?_
          refine Tr.inN ?_
          refine Tr.thenN ?_
          refine Tr.region ?_
          refine Tr.q (QS.move rfl) rfl ?_
          refine Tr.q (QS.addI rfl rfl (by omega)) rfl ?_
          refine Tr.q (QS.assign rfl) rfl ?_
          refine Tr.nil ?_
          refine Tr.thenN ?_
          have hst : (rresG ents lc ((g : Nat) : Int) (rres3 ents lc g) (i + 1)) = (s.1 ++ [(lc.getD i default)], s.2) := by rw [rresG_succ (by omega), ← hs, rresS, if_neg (by simp_all), rres1, if_pos (by assumption)]
          have h81 : s.1 ++ [(lc.getD i default)] = (rresG ents lc ((g : Nat) : Int) (rres3 ents lc g) (i + 1)).1 := by rw [hst]
          have h82 : s.2 = (rresG ents lc ((g : Nat) : Int) (rres3 ents lc g) (i + 1)).2 := by rw [hst]
          rw [h81, h82]
          apply Tr.again (i + 1, _, _)
          · exact rfl
          · exact (.cons (by first | rfl | exact lookI rfl (by omega) | exact lookI rfl (by simp) | exact lookB rfl (by simp)) (.cons (by first | rfl | exact lookI rfl (by omega) | exact lookI rfl (by simp) | exact lookB rfl (by simp)) (.cons (by first | rfl | exact lookI rfl (by omega) | exact lookI rfl (by simp) | exact lookB rfl (by simp)) Front.nil)))
          · exact SubX.dropN 34 (by kernel_rfl) rfl
          · exact (by repeat' (first | exact Pick.nil _ | exact Del.here _ | apply Pick.cons | apply Del.there))
          · exact (by show i + 1 ≤ _; omega)
          · exact (by (try dsimp only); omega)
        · try simp only [bs] at h7
          refine Tr.region ?_
          refine Tr.q (QS.move rfl) rfl ?_
          refine Tr.q (QS.move rfl) rfl ?_
          refine Tr.q (QS.move rfl) rfl ?_
          refine Tr.q (QS.idxRowN rfl rfl (by repeat (first | exact List.Mem.head _ | apply List.Mem.tail)) Tryz.underlying22 Tryz.sizeOf35 (by rfl) (by omega)) rfl ?_
          refine Tr.q (QS.fieldAddr (off := 0) (ft := 33) rfl Tryz.underlying35 rfl rfl Tryz.sizeOf33 (by decide)) rfl ?_
          refine Tr.q (QS.elRF rfl (by repeat (first | exact List.Mem.head _ | apply List.Mem.tail)) Tryz.isAgg33 (by omega) (by rfl)) rfl ?_
          refine Tr.callReRow rfl Tryz.call65 (by repeat (first | exact Del.here _ | apply Del.there)) (fun w hw => insert06_any s.2 _ (lc.getD i default).addr w (hw.row (l := s.2) (by repeat (first | exact List.Mem.head _ | apply List.Mem.tail))) (by omega)) rfl (fun V44 => ?_)
          refine Tr.q (QS.assign rfl) rfl ?_
          refine Tr.nil ?_
          refine Tr.inN ?_
          refine Tr.thenN ?_
          refine Tr.region ?_
          refine Tr.q (QS.move rfl) rfl ?_
          refine Tr.q (QS.addI rfl rfl (by omega)) rfl ?_
          refine Tr.q (QS.assign rfl) rfl ?_
          refine Tr.nil ?_
          refine Tr.thenN ?_
          have hst : (rresG ents lc ((g : Nat) : Int) (rres3 ents lc g) (i + 1)) = (s.1, insR ltU s.2 (lc.getD i default).addr) := by rw [rresG_succ (by omega), ← hs, rresS, if_neg (by simp_all), rres1, if_neg (by simp_all)]; rfl
          have h81 : s.1 = (rresG ents lc ((g : Nat) : Int) (rres3 ents lc g) (i + 1)).1 := by rw [hst]
          have h82 : insR ltU s.2 (lc.getD i default).addr = (rresG ents lc ((g : Nat) : Int) (rres3 ents lc g) (i + 1)).2 := by rw [hst]
          rw [h82, h81]
          apply Tr.again (i + 1, _, _)
          · exact rfl
          · exact (.cons (by first | rfl | exact lookI rfl (by omega) | exact lookI rfl (by simp) | exact lookB rfl (by simp)) (.cons (by first | rfl | exact lookI rfl (by omega) | exact lookI rfl (by simp) | exact lookB rfl (by simp)) (.cons (by first | rfl | exact lookI rfl (by omega) | exact lookI rfl (by simp) | exact lookB rfl (by simp)) Front.nil)))
          · exact SubX.dropN 34 (by kernel_rfl) rfl
          · exact (by repeat' (first | exact Pick.nil _ | exact Del.here _ | apply Pick.cons | apply Del.there))
          · exact (by show i + 1 ≤ _; omega)
          · exact (by (try dsimp only); omega)
    · try simp only [bs] at h5
      refine Tr.exit ?_
      refine Tr.thenE ?_
      refine Tr.thenE ?_
      refine Tr.inHit ?_
      refine Tr.inN ?_
      refine Tr.thenN ?_
      refine Tr.region ?_
      refine Tr.q (QS.move rfl) rfl ?_
      refine Tr.q (QS.addI rfl rfl (by omega)) rfl ?_
      refine Tr.q (QS.assign rfl) rfl ?_
      refine Tr.nil ?_
      refine Tr.thenN ?_
      obtain rfl : i = lc.length := by omega
      have hst : s = rres3 ents lc (g + 1) := hs
      rw [hst]
      apply Tr.again (g + 1, _, _)
      · exact rfl
      · exact (.cons (by first | rfl | exact lookI rfl (by omega) | exact lookI rfl (by simp) | exact lookB rfl (by simp)) (.cons (by first | rfl | exact lookI rfl (by omega) | exact lookI rfl (by simp) | exact lookB rfl (by simp)) (.cons (by first | rfl | exact lookI rfl (by omega) | exact lookI rfl (by simp) | exact lookB rfl (by simp)) Front.nil)))
      · exact SubX.dropN 16 (by kernel_rfl) rfl
      · exact (by repeat' (first | exact Pick.nil _ | exact Del.here _ | apply Pick.cons | apply Del.there))
      · exact (by show g + 1 ≤ _; omega)
      · exact (by (try dsimp only); omega)
  · try simp only [bs] at h4
    refine Tr.exit ?_
    refine Tr.thenE ?_
    refine Tr.thenE ?_
    refine Tr.inHit ?_
    refine Tr.thenN ?_
    refine Tr.seq ?_
    obtain rfl : g = 3 := by omega
    refine Tr.region ?_
    refine Tr.q (QS.move rfl) rfl ?_
    refine Tr.callRow rfl Tryz.call62 (fun w hw => counted13_any (rres3 ents lc 3).1 _ w (hw.row (by repeat (first | exact List.Mem.head _ | apply List.Mem.tail))) hI3 (by omega)) rfl (fun V10 => ?_)
    refine Tr.q (QS.assign rfl) rfl ?_
    refine Tr.nil ?_
    refine Tr.thenN ?_
    refine Tr.seq ?_
    refine Tr.rowShape (.head _) (fun pz qz hpv => ?_)
    subst hpv
    obtain ⟨kp, hkp⟩ : ∃ kp, kp = rcntL (rres3 ents lc 3).1 := ⟨_, rfl⟩
    rw [← hkp]
    have hkl := rcnt_len (rres3 ents lc 3).1 (rres3 ents lc 3).1.length
    change (rcntL _).length ≤ _ at hkl
    rw [← hkp] at hkl
    obtain ⟨r1, hr1⟩ : ∃ r, r = (rres3 ents lc 3).1 := ⟨_, rfl⟩
    obtain ⟨r2, hr2⟩ : ∃ r, r = (rres3 ents lc 3).2 := ⟨_, rfl⟩
    obtain ⟨ea, hea⟩ : ∃ r, r = atR ents kp ents.length := ⟨_, rfl⟩
    obtain ⟨ua, hua⟩ : ∃ r, r = atR unk kp unk.length := ⟨_, rfl⟩
    have hkl2 : kp.length ≤ 1000 := by omega
    clear hkl hr3
    rw [← hr1, ← hr2]
    refine Tr.regionH ([rowE (.slice pz kp.length qz) 35 encIns kp, rowE Vk 35 encIns r1, rowE Vr 33 encU32 r2, rowE V3 35 encIns lc, cellE b1 [Vi, Ve, Vu, .slice sab bad.length scb] 25]) 15 rfl HLF.mixed ?_
    refine Tr.hT 0 rfl (by kernel_rfl) (panicThen panicBody) (QS.move rfl) ?_
    refine Tr.hT 1 rfl (by kernel_rfl) (panicThen panicBody) (QS.fieldAddr (off := 1) (ft := 23) rfl Tryz.underlying25 rfl rfl Tryz.sizeOf23 (by decide)) ?_
    refine Tr.hT 2 rfl (by kernel_rfl) (panicThen panicBody) (QS.lV rfl Tryz.isAgg23) ?_
    refine Tr.hT 3 rfl (by kernel_rfl) (panicThen panicBody) (QS.move rfl) ?_
    refine Tr.hT 5 rfl (by kernel_rfl) (panicThen panicBody) (QS.fieldAddr (off := 2) (ft := 23) rfl Tryz.underlying25 rfl rfl Tryz.sizeOf23 (by decide)) ?_
    refine Tr.hT 6 rfl (by kernel_rfl) (panicThen panicBody) (QS.lV rfl Tryz.isAgg23) ?_
    refine Tr.hT 7 rfl (by kernel_rfl) (panicThen panicBody) (QS.move rfl) ?_
    refine Tr.hT 9 rfl (by kernel_rfl) (panicThen panicBody) (QS.fieldAddr (off := 3) (ft := 23) rfl Tryz.underlying25 rfl rfl Tryz.sizeOf23 (by decide)) ?_
    refine Tr.hT 10 rfl (by kernel_rfl) (panicThen panicBody) (QS.lV rfl Tryz.isAgg23) ?_
    refine Tr.hT 12 rfl (by kernel_rfl) (panicThen panicBody) (QS.move rfl) ?_
    refine Tr.hAll [4] (by kernel_rfl) (by simp) (fun iq hq => ?_)
    obtain rfl := List.mem_singleton.1 hq
    refine Tr.hOp rfl ?_
    refine Tr.callRow rfl Tryz.call66 (fun w hw => (by rw [hea]; exact at13_any ents kp Ve _ w (hw.slF hE') (hw.row (.head _)) hn2 hkl2 : Calls Tryz.prog 66 #[_, _] w (fun e w' => ∃ V', e = .returned V' ∧ Ext w w' ∧ NewRow w w' 33 encU32 (ea) V'))) rfl (fun V11 => ?_)
    refine Tr.rowShape (.head _) (fun pa ca hpv => ?_)
    subst hpv
    refine Tr.hN ?_
    refine Tr.hAll [8] (by kernel_rfl) (by simp) (fun iq hq => ?_)
    obtain rfl := List.mem_singleton.1 hq
    refine Tr.hOp rfl ?_
    refine Tr.callRow rfl Tryz.call66 (fun w hw => (by rw [hua]; exact at13_any unk kp Vu _ w (hw.slF hU') (hw.row (.tail _ (.head _))) hn3 hkl2 : Calls Tryz.prog 66 #[_, _] w (fun e w' => ∃ V', e = .returned V' ∧ Ext w w' ∧ NewRow w w' 33 encU32 (ua) V'))) rfl (fun V12 => ?_)
    refine Tr.rowShape (.head _) (fun pb cb hpv => ?_)
    subst hpv
    refine Tr.hN ?_
    refine Tr.hT 11 rfl (by kernel_rfl) (panicThen panicBody) (QS.build (vs := [(0, _), (1, _), (2, _), (3, _)]) rfl rfl rfl) ?_
    refine Tr.hAll [13] (by kernel_rfl) (by simp) (fun iq hq => ?_)
    obtain rfl := List.mem_singleton.1 hq
    refine Tr.hOp rfl ?_
    refine Tr.storeW rfl rfl Tryz.sizeOf25 (by repeat (first | exact Put.here _ | apply Put.there)) (by rfl) (by rfl) (by first | exact List.all_eq_true.1 rfl | exact Enc.one _ _ | (intro u hu; simp [Value.cells] at hu; simp_all [Value.oneCell'])) rfl ?_
    refine Tr.hN ?_
    refine Tr.hT 14 rfl (by kernel_rfl) (panicThen panicBody) (QS.assign rfl) ?_
    refine Tr.hDone (by kernel_rfl) ?_
    refine Tr.thenN ?_
    refine Tr.ret ?_
    refine Tr.retC2 Tryz.results27 rfl rfl (by repeat (first | exact List.Mem.head _ | apply List.Mem.tail)) Tryz.isAgg25 Tryz.sizeOf25 (by rfl) (fun w' hw => ?_)
    subst hea hua hr1 hr2 hkp
    subst hlc
    exact ⟨(_, _, _, _), rfl, hw.below (Bg.le.refl _), hw.ents (w := w) (Bg.le.refl _) (by repeat' (first | exact Pick.nil _ | exact Del.here _ | apply Pick.cons | apply Del.there))⟩
end Go.Proofs.YtmhbfelnjkhepaaGreat
namespace Go.HL
open Go Go.Sort
open Go.Proofs (ltOf)
def smallP (ins : List Ins) (ents unk bad : List UInt32) : Bool := ((decide ((ins.length : Int) ≤ 40) && decide ((ents.length : Int) ≤ 40)) && decide ((unk.length : Int) ≤ 40)) && decide ((bad.length : Int) ≤ 40)
theorem small_iff {ins : List Ins} {ents unk bad : List UInt32} : smallP ins ents unk bad = true ↔ ins.length ≤ 40 ∧ ents.length ≤ 40 ∧ unk.length ≤ 40 ∧ bad.length ≤ 40 := by
  unfold smallP
  simp only [Bool.and_eq_true, decide_eq_true_eq]
  omega
end Go.HL
namespace Go.HL
open Go Go.Sort
end Go.HL
namespace Go.HL
open Go Go.Sort
end Go.HL
namespace Go.Proofs.YtmhbfelnjkhepaaGreat
open Go Go.HL Go.RowKit
set_option maxRecDepth 100000 in
set_option maxHeartbeats 2000000 in
theorem small13_any (ins : List Ins) (ents unk bad : List UInt32) (Vi Ve Vu Vb : Value) (w : World) (hV : Sl (hp w) encIns ins Vi) (hE : Sl (hp w) encU32 ents Ve) (hU : Sl (hp w) encU32 unk Vu) (hB : Sl (hp w) encU32 bad Vb) :
    Calls Tryz.prog 10 #[.agg #[Vi, Ve, Vu, Vb]] w (fun e w' => e = .returned (.bool (smallP ins ents unk bad)) ∧ Ext w w') := by
  have hV' : Sl (Bg.of w).blk encIns ins Vi := hV
  have hE' : Sl (Bg.of w).blk encU32 ents Ve := hE
  have hU' : Sl (Bg.of w).blk encU32 unk Vu := hU
  have hB' : Sl (Bg.of w).blk encU32 bad Vb := hB
  have g1 := hV.len_le
  have g2 := hE.len_le
  have g3 := hU.len_le
  have g4 := hB.len_le
  refine enter Tryz.func10 rfl Tryz.ntmps10 rfl ?_
  refine Tr.seq ?_
  refine Tr.region ?_
  refine Tr.box rfl rfl rfl (fun b1 => ?_)
  refine Tr.q (QS.assign rfl) rfl ?_
  refine Tr.nil ?_
  refine Tr.thenN ?_
  refine Tr.seq ?_
  refine Tr.region ?_
  refine Tr.q (QS.fieldAddr (off := 0) (ft := 22) rfl Tryz.underlying25 rfl rfl Tryz.sizeOf22 (by decide)) rfl ?_
  refine Tr.q (QS.lV rfl Tryz.isAgg22) rfl ?_
  refine Tr.q (QS.len rfl (by assumption) Tryz.underlying22) rfl ?_
  refine Tr.q (QS.leq rfl rfl) rfl ?_
  refine Tr.q (QS.move rfl) rfl ?_
  apply Tr.andP
  · exact (rfl : _ = (5, 7, 12))
  · exact rfl
  · intro hT2; have hT2' := hT2
    try simp only [bs] at hT2'
    refine Tr.gq rfl rfl hT2 (QS.fieldAddr (off := 1) (ft := 23) rfl Tryz.underlying25 rfl rfl Tryz.sizeOf23 (by decide)) rfl ?_
    refine Tr.gq rfl rfl hT2 (QS.lV rfl Tryz.isAgg23) rfl ?_
    refine Tr.gq rfl rfl hT2 (QS.len rfl (by assumption) Tryz.underlying23) rfl ?_
    refine Tr.gq rfl rfl hT2 (QS.leq rfl rfl) rfl ?_
    refine Tr.q (QS.pickT rfl hT2 rfl) rfl ?_
    refine Tr.nil (Tr.thenN ?_)
    exact Tr.endX (Sub.cons rfl (Sub.dropN 5 (by kernel_rfl) rfl))
  · intro hF2
    refine Tr.gskip rfl rfl hF2 rfl ?_
    refine Tr.gskip rfl rfl hF2 rfl ?_
    refine Tr.gskip rfl rfl hF2 rfl ?_
    refine Tr.gskip rfl rfl hF2 rfl ?_
    refine Tr.q (QS.pickF rfl hF2 rfl) rfl ?_
    refine Tr.nil (Tr.thenN ?_)
    exact Tr.endX (Sub.cons rfl (Sub.dropN 5 (by kernel_rfl) rfl))
  refine Tr.q (QS.move rfl) rfl ?_
  apply Tr.andP
  · exact (rfl : _ = (5, 13, 18))
  · exact rfl
  · intro hT3; have hT3' := hT3
    try simp only [bs] at hT3'
    refine Tr.gq rfl rfl hT3 (QS.fieldAddr (off := 2) (ft := 23) rfl Tryz.underlying25 rfl rfl Tryz.sizeOf23 (by decide)) rfl ?_
    refine Tr.gq rfl rfl hT3 (QS.lV rfl Tryz.isAgg23) rfl ?_
    refine Tr.gq rfl rfl hT3 (QS.len rfl (by assumption) Tryz.underlying23) rfl ?_
    refine Tr.gq rfl rfl hT3 (QS.leq rfl rfl) rfl ?_
    refine Tr.q (QS.pickT rfl hT3 rfl) rfl ?_
    refine Tr.nil (Tr.thenN ?_)
    exact Tr.endX (Sub.cons rfl (Sub.dropN 5 (by kernel_rfl) rfl))
  · intro hF3
    refine Tr.gskip rfl rfl hF3 rfl ?_
    refine Tr.gskip rfl rfl hF3 rfl ?_
    refine Tr.gskip rfl rfl hF3 rfl ?_
    refine Tr.gskip rfl rfl hF3 rfl ?_
    refine Tr.q (QS.pickF rfl hF3 rfl) rfl ?_
    refine Tr.nil (Tr.thenN ?_)
    exact Tr.endX (Sub.cons rfl (Sub.dropN 5 (by kernel_rfl) rfl))
  refine Tr.q (QS.move rfl) rfl ?_
  apply Tr.andP
  · exact (rfl : _ = (5, 19, 24))
  · exact rfl
  · intro hT4; have hT4' := hT4
    try simp only [bs] at hT4'
    refine Tr.gq rfl rfl hT4 (QS.fieldAddr (off := 3) (ft := 23) rfl Tryz.underlying25 rfl rfl Tryz.sizeOf23 (by decide)) rfl ?_
    refine Tr.gq rfl rfl hT4 (QS.lV rfl Tryz.isAgg23) rfl ?_
    refine Tr.gq rfl rfl hT4 (QS.len rfl (by assumption) Tryz.underlying23) rfl ?_
    refine Tr.gq rfl rfl hT4 (QS.leq rfl rfl) rfl ?_
    refine Tr.q (QS.pickT rfl hT4 rfl) rfl ?_
    refine Tr.nil (Tr.thenN ?_)
    exact Tr.endX (Sub.cons rfl (Sub.dropN 5 (by kernel_rfl) rfl))
  · intro hF4
    refine Tr.gskip rfl rfl hF4 rfl ?_
    refine Tr.gskip rfl rfl hF4 rfl ?_
    refine Tr.gskip rfl rfl hF4 rfl ?_
    refine Tr.gskip rfl rfl hF4 rfl ?_
    refine Tr.q (QS.pickF rfl hF4 rfl) rfl ?_
    refine Tr.nil (Tr.thenN ?_)
    exact Tr.endX (Sub.cons rfl (Sub.dropN 5 (by kernel_rfl) rfl))
  refine Tr.q (QS.assign rfl) rfl ?_
  refine Tr.nil ?_
  refine Tr.thenN ?_
  refine Tr.ret ?_
  refine Tr.ret1 Tryz.results10 rfl (fun w' hw => ?_)
  exact ⟨by rfl, hw.below (Bg.le.refl _)⟩
set_option maxRecDepth 100000 in
set_option maxHeartbeats 2000000 in
theorem program13_any (Vi Ve Vu Vb : Value) (w : World) (hsh : (∃ p n c, Vi = .slice p n c) ∧ (∃ p n c, Ve = .slice p n c) ∧ (∃ p n c, Vu = .slice p n c) ∧ ∃ p n c, Vb = .slice p n c) :
    Calls Tryz.prog 13 #[.agg #[Vi, Ve, Vu, Vb]] w (fun e w' => e = .returned (.agg #[Vi, Ve, Vu, Vb]) ∧ Ext w w') := by
  obtain ⟨⟨p1, n1, c1, rfl⟩, ⟨p2, n2, c2, rfl⟩, ⟨p3, n3, c3, rfl⟩, ⟨p4, n4, c4, rfl⟩⟩ := hsh
  refine enter Tryz.func13 rfl Tryz.ntmps13 rfl ?_
  refine Tr.seq ?_
  refine Tr.region ?_
  refine Tr.box rfl rfl rfl (fun b1 => ?_)
  refine Tr.alloc Tryz.zeroValue28 rfl rfl (fun b2 => ?_)
  refine Tr.nil ?_
  refine Tr.thenN ?_
  refine Tr.seq ?_
  refine Tr.region ?_
  refine Tr.q (QS.fieldAddr (off := 0) (ft := 22) rfl Tryz.underlying25 rfl rfl Tryz.sizeOf22 (by decide)) rfl ?_
  refine Tr.q (QS.lV rfl Tryz.isAgg22) rfl ?_
  refine Tr.q (QS.fieldAddr (off := 1) (ft := 23) rfl Tryz.underlying25 rfl rfl Tryz.sizeOf23 (by decide)) rfl ?_
  refine Tr.q (QS.lV rfl Tryz.isAgg23) rfl ?_
  refine Tr.q (QS.fieldAddr (off := 2) (ft := 23) rfl Tryz.underlying25 rfl rfl Tryz.sizeOf23 (by decide)) rfl ?_
  refine Tr.q (QS.lV rfl Tryz.isAgg23) rfl ?_
  refine Tr.q (QS.fieldAddr (off := 3) (ft := 23) rfl Tryz.underlying25 rfl rfl Tryz.sizeOf23 (by decide)) rfl ?_
  refine Tr.q (QS.lV rfl Tryz.isAgg23) rfl ?_
  refine Tr.q (QS.build (vs := [(0, _), (1, _), (2, _), (3, _)]) rfl rfl rfl) rfl ?_
  refine Tr.storeW rfl rfl Tryz.sizeOf28 (by repeat (first | exact Put.here _ | apply Put.there)) (by rfl) (by rfl) (by first | exact List.all_eq_true.1 rfl | exact Enc.one _ _ | (intro u hu; simp [Value.cells] at hu; simp_all [Value.oneCell'])) rfl ?_
  refine Tr.nil ?_
  refine Tr.thenN ?_
  refine Tr.ret ?_
  refine Tr.retC1 Tryz.results13 rfl (by repeat (first | exact List.Mem.head _ | apply List.Mem.tail)) Tryz.isAgg28 Tryz.sizeOf28 (by rfl) (fun w' hw => ?_)
  exact ⟨rfl, hw.below (Bg.le.refl _)⟩
set_option maxRecDepth 100000 in
set_option maxHeartbeats 2000000 in
theorem from13_any (Vi Ve Vu Vb : Value) (w : World) (hsh : (∃ p n c, Vi = .slice p n c) ∧ (∃ p n c, Ve = .slice p n c) ∧ (∃ p n c, Vu = .slice p n c) ∧ ∃ p n c, Vb = .slice p n c) :
    Calls Tryz.prog 28 #[.agg #[Vi, Ve, Vu, Vb]] w (fun e w' => e = .returned (.agg #[Vi, Ve, Vu, Vb]) ∧ Ext w w') := by
  obtain ⟨⟨p1, n1, c1, rfl⟩, ⟨p2, n2, c2, rfl⟩, ⟨p3, n3, c3, rfl⟩, ⟨p4, n4, c4, rfl⟩⟩ := hsh
  refine enter Tryz.func28 rfl Tryz.ntmps28 rfl ?_
  refine Tr.seq ?_
  refine Tr.region ?_
  refine Tr.box rfl rfl rfl (fun b1 => ?_)
  refine Tr.alloc Tryz.zeroValue25 rfl rfl (fun b2 => ?_)
  refine Tr.nil ?_
  refine Tr.thenN ?_
  refine Tr.seq ?_
  refine Tr.region ?_
  refine Tr.q (QS.fieldAddr (off := 0) (ft := 22) rfl Tryz.underlying28 rfl rfl Tryz.sizeOf22 (by decide)) rfl ?_
  refine Tr.q (QS.lV rfl Tryz.isAgg22) rfl ?_
  refine Tr.q (QS.fieldAddr (off := 1) (ft := 23) rfl Tryz.underlying28 rfl rfl Tryz.sizeOf23 (by decide)) rfl ?_
  refine Tr.q (QS.lV rfl Tryz.isAgg23) rfl ?_
  refine Tr.q (QS.fieldAddr (off := 2) (ft := 23) rfl Tryz.underlying28 rfl rfl Tryz.sizeOf23 (by decide)) rfl ?_
  refine Tr.q (QS.lV rfl Tryz.isAgg23) rfl ?_
  refine Tr.q (QS.fieldAddr (off := 3) (ft := 23) rfl Tryz.underlying28 rfl rfl Tryz.sizeOf23 (by decide)) rfl ?_
  refine Tr.q (QS.lV rfl Tryz.isAgg23) rfl ?_
  refine Tr.q (QS.build (vs := [(0, _), (1, _), (2, _), (3, _)]) rfl rfl rfl) rfl ?_
  refine Tr.storeW rfl rfl Tryz.sizeOf25 (by repeat (first | exact Put.here _ | apply Put.there)) (by rfl) (by rfl) (by first | exact List.all_eq_true.1 rfl | exact Enc.one _ _ | (intro u hu; simp [Value.cells] at hu; simp_all [Value.oneCell'])) rfl ?_
  refine Tr.nil ?_
  refine Tr.thenN ?_
  refine Tr.ret ?_
  refine Tr.retC1 Tryz.results28 rfl (by repeat (first | exact List.Mem.head _ | apply List.Mem.tail)) Tryz.isAgg25 Tryz.sizeOf25 (by rfl) (fun w' hw => ?_)
  exact ⟨rfl, hw.below (Bg.le.refl _)⟩
set_option maxRecDepth 100000 in
set_option maxHeartbeats 2000000 in
theorem same03_any (a b : List Ins) (V W : Value) (w : World) (hV : Sl (hp w) encIns a V) (hW : Sl (hp w) encIns b W) :
    Calls Tryz.prog 29 #[V, W] w (fun e w' => e = .returned (.bool (decide (a = b))) ∧ Ext w w') := by
  have hV' : Sl (Bg.of w).blk encIns a V := hV
  have hW' : Sl (Bg.of w).blk encIns b W := hW
  have hl1 := hV.len_le
  have hl2 := hW.len_le
  refine enter Tryz.func29 rfl Tryz.ntmps29 rfl ?_
  refine Tr.seq ?_
  refine Tr.region ?_
  refine Tr.q (QS.assign rfl) rfl ?_
  refine Tr.nil ?_
  refine Tr.thenN ?_
  refine Tr.seq ?_
  refine Tr.seq ?_
  refine Tr.region ?_
  refine Tr.q (QS.move rfl) rfl ?_
  refine Tr.q (QS.len rfl (by assumption) Tryz.underlying22) rfl ?_
  refine Tr.q (QS.move rfl) rfl ?_
  refine Tr.q (QS.len rfl (by assumption) Tryz.underlying22) rfl ?_
  refine Tr.q (QS.neq rfl rfl) rfl ?_
  refine Tr.nil ?_
  refine Tr.thenN ?_
  refine Tr.cond rfl (fun h1 => ?_) (fun h1 => ?_)
  · try simp only [bs] at h1
    refine Tr.seq ?_
    refine Tr.region ?_
    refine Tr.q (QS.assign rfl) rfl ?_
    refine Tr.nil ?_
    refine Tr.thenN ?_
    refine Tr.ret ?_
    refine Tr.thenR ?_
    refine Tr.ret1 Tryz.results29 rfl (fun w' hw => ?_)
    exact ⟨by rw [decide_eq_false (fun e => by subst e; omega)], hw.below (Bg.le.refl _)⟩
  · try simp only [bs] at h1
    refine Tr.skip ?_
    refine Tr.thenN ?_
    refine Tr.seq ?_
    refine Tr.seq ?_
    refine Tr.region ?_
    refine Tr.q (QS.assign rfl) rfl ?_
    refine Tr.nil ?_
    refine Tr.thenN ?_
    refine Tr.block ?_
    refine Tr.loop (ι := Nat) (fun k => k ≤ a.length ∧ a.take k = b.take k) (fun _ => _) (fun k => []) (fun k => [(5, .int .i64 (k : Nat))]) (fun k => a.length - k) 0 ⟨by omega, rfl⟩ (.cons (by first | rfl | exact lookI rfl (by omega) | exact lookI rfl (by simp) | exact lookB rfl (by simp)) Front.nil) (by repeat' (first | exact Pick.nil _ | exact Del.here _ | apply Pick.cons | apply Del.there)) rfl (fun k hi m hm => ?_)
    replace hi : k ≤ a.length ∧ a.take k = b.take k := hi
    replace hm : m = a.length - k := hm
    change Tr _ _ [] ([(5, .int .i64 (k : Nat))] ++ _) _
    obtain ⟨hk1, hk3⟩ := hi
    refine Tr.seq ?_
    refine Tr.seq ?_
    refine Tr.region ?_
    refine Tr.q (QS.move rfl) rfl ?_
    refine Tr.q (QS.move rfl) rfl ?_
    refine Tr.q (QS.len rfl (by assumption) Tryz.underlying22) rfl ?_
    refine Tr.q (QS.lss rfl rfl) rfl ?_
    refine Tr.nil ?_
    refine Tr.thenN ?_
    refine Tr.cond rfl (fun h2 => ?_) (fun h2 => ?_)
    · try simp only [bs] at h2
      refine Tr.skip ?_
      refine Tr.thenN ?_
      refine Tr.seq ?_
      refine Tr.block ?_
      refine Tr.seq ?_
      refine Tr.regionQ HLF.mixed (by kernel_rfl) ?_
      refine TrQ.q (QS.move rfl) rfl ?_
      refine TrQ.q (QS.move rfl) rfl ?_
      refine TrQ.q (QS.idxN rfl rfl (by assumption) Tryz.underlying22 Tryz.sizeOf35 (by rfl) (by omega)) rfl ?_
      refine TrQ.q (QS.elA rfl (by assumption) Tryz.isAgg35 Tryz.sizeOf35 (by rfl) (by omega)) rfl ?_
      refine TrQ.q (QS.move rfl) rfl ?_
      refine TrQ.q (QS.move rfl) rfl ?_
      refine TrQ.q (QS.idxN rfl rfl (by assumption) Tryz.underlying22 Tryz.sizeOf35 (by rfl) (by omega)) rfl ?_
      refine TrQ.q (QS.elA rfl (by assumption) Tryz.isAgg35 Tryz.sizeOf35 (by rfl) (by omega)) rfl ?_
      refine TrQ.q (QS.neqE rfl rfl insEqEnc Tryz.underlying35 (HLF.words35 _ Tryz.underlying35) rfl HLF.held35 HLF.eqg35) rfl ?_
      refine TrQ.nil ?_
      refine Tr.thenN ?_
      refine Tr.cond rfl (fun h3 => ?_) (fun h3 => ?_)
      · try simp only [bs] at h3
        refine Tr.seq ?_
        refine Tr.region ?_
        refine Tr.q (QS.assign rfl) rfl ?_
        refine Tr.nil ?_
        refine Tr.thenN ?_
        refine Tr.ret ?_
        refine Tr.inR ?_
        refine Tr.thenR ?_
        refine Tr.thenR ?_
        refine Tr.inR ?_
        refine Tr.thenR ?_
        refine Tr.ret1 Tryz.results29 rfl (fun w' hw => ?_)
        exact ⟨by rw [decide_eq_false (fun e => by subst e; simp_all)], hw.below (Bg.le.refl _)⟩
      · try simp only [bs] at h3
        refine Tr.skip ?_
        refine Tr.inN ?_
        refine Tr.thenN ?_
        refine Tr.region ?_
        refine Tr.q (QS.move rfl) rfl ?_
        refine Tr.q (QS.addI rfl rfl (by omega)) rfl ?_
        refine Tr.q (QS.assign rfl) rfl ?_
        refine Tr.nil ?_
        refine Tr.thenN ?_
        apply Tr.again (k + 1)
        · exact rfl
        · exact (.cons (by first | rfl | exact lookI rfl (by omega) | exact lookI rfl (by simp) | exact lookB rfl (by simp)) Front.nil)
        · exact SubX.dropN 17 (by kernel_rfl) rfl
        · exact (by repeat' (first | exact Pick.nil _ | exact Del.here _ | apply Pick.cons | apply Del.there))
        · exact ⟨by omega, by rw [take_succ (by omega), take_succ (by omega), hk3]; congr 2⟩
        · exact (by (try dsimp only); omega)
    · try simp only [bs] at h2
      refine Tr.exit ?_
      refine Tr.thenE ?_
      refine Tr.thenE ?_
      refine Tr.inHit ?_
      refine Tr.thenN ?_
      refine Tr.seq ?_
      refine Tr.region ?_
      refine Tr.q (QS.assign rfl) rfl ?_
      refine Tr.nil ?_
      refine Tr.thenN ?_
      refine Tr.ret ?_
      refine Tr.ret1 Tryz.results29 rfl (fun w' hw => ?_)
      exact ⟨by rw [decide_eq_true (show a = b by rw [← List.take_of_length_le (show a.length ≤ k by omega), hk3, List.take_of_length_le (by omega)])], hw.below (Bg.le.refl _)⟩
set_option maxRecDepth 100000 in
set_option maxHeartbeats 8000000 in
theorem resolve13_true (ins : List Ins) (ents unk bad : List UInt32) (Vi Ve Vu Vb : Value) (w : World) (hV : Sl (hp w) encIns ins Vi) (hE : Sl (hp w) encU32 ents Ve) (hU : Sl (hp w) encU32 unk Vu) (hB : Sl (hp w) encU32 bad Vb) (hI : ∀ x ∈ ins, InsOK x) :
    Calls Tryz.prog 6 #[.agg #[Vi, Ve, Vu, Vb]] w (fun e w' => e = .returned (.bool true) ∧ Ext w w') := by
  have hV' : Sl (Bg.of w).blk encIns ins Vi := hV
  have hE' : Sl (Bg.of w).blk encU32 ents Ve := hE
  have hU' : Sl (Bg.of w).blk encU32 unk Vu := hU
  have hB' : Sl (Bg.of w).blk encU32 bad Vb := hB
  have hsh : (∃ p n c, Vi = .slice p n c) ∧ (∃ p n c, Ve = .slice p n c) ∧ (∃ p n c, Vu = .slice p n c) ∧ ∃ p n c, Vb = .slice p n c := by
    obtain ⟨si, ci, h1, _⟩ := hV.shape
    obtain ⟨se, ce, h2, _⟩ := hE.shape
    obtain ⟨su, cu, h3, _⟩ := hU.shape
    obtain ⟨sb, cb, h4, _⟩ := hB.shape
    exact ⟨⟨_, _, _, h1⟩, ⟨_, _, _, h2⟩, ⟨_, _, _, h3⟩, ⟨_, _, _, h4⟩⟩
  refine enter Tryz.func6 rfl Tryz.ntmps6 rfl ?_
  refine Tr.seq ?_
  refine Tr.region ?_
  refine Tr.box rfl rfl rfl (fun b1 => ?_)
  refine Tr.q (QS.assign rfl) rfl ?_
  refine Tr.nil ?_
  refine Tr.thenN ?_
  refine Tr.seq ?_
  refine Tr.seq ?_
  refine Tr.region ?_
  refine Tr.q (QS.lW rfl Tryz.isAgg25 Tryz.sizeOf25) rfl ?_
  refine Tr.q (QS.call rfl Tryz.call10 (fun w hw => small13_any ins ents unk bad Vi Ve Vu Vb w (hw.slF hV') (hw.slF hE') (hw.slF hU') (hw.slF hB'))) rfl ?_
  refine Tr.q (QS.not rfl) rfl ?_
  refine Tr.nil ?_
  refine Tr.thenN ?_
  refine Tr.cond rfl (fun h2 => ?_) (fun h2 => ?_)
  · try simp only [bs] at h2
    refine Tr.seq ?_
    refine Tr.region ?_
    refine Tr.q (QS.call rfl Tryz.call11 (fun w hw => example13_any w)) rfl ?_
    refine Tr.q (QS.assign rfl) rfl ?_
    refine Tr.nil ?_
    refine Tr.thenN ?_
    refine Tr.ret ?_
    refine Tr.thenR ?_
    refine Tr.ret1 Tryz.results6 rfl (fun w' hw => ?_)
    exact ⟨rfl, hw.below (Bg.le.refl _)⟩
  · try simp only [bs] at h2
    refine Tr.skip ?_
    refine Tr.thenN ?_
    refine Tr.seq ?_
    obtain ⟨sm1, sm2, sm3, sm4⟩ := small_iff.1 (by simp_all : smallP ins ents unk bad = true)
    refine Tr.region ?_
    refine Tr.q (QS.lW rfl Tryz.isAgg25 Tryz.sizeOf25) rfl ?_
    refine Tr.q (QS.call rfl Tryz.call13 (fun w hw => program13_any Vi Ve Vu Vb w hsh)) rfl ?_
    refine Tr.callEnts (fun i : Value × Value × Value × Value × Value => .tuple #[.agg #[i.1, i.2.1, i.2.2.1, i.2.2.2.1], i.2.2.2.2]) (fun i => [rowE i.1 35 encIns (resP ins ents unk bad).kept, rowE i.2.1 33 encU32 (resP ins ents unk bad).ents, rowE i.2.2.1 33 encU32 (resP ins ents unk bad).unk, rowE i.2.2.2.1 33 encU32 (resP ins ents unk bad).bad, rowE i.2.2.2.2 33 encU32 (resP ins ents unk bad).rem]) (ok := fun _ => True) rfl Tryz.call12 (fun w hw => (resolve_any ins ents unk bad Vi Ve Vu Vb w (hw.slF hV') (hw.slF hE') (hw.slF hU') (hw.slF hB') hI (by omega) (by omega) (by omega) (by omega)).mono fun e w' ⟨i, q1, q2, q3⟩ => ⟨i, q1, q2, q3, trivial⟩) rfl (fun i1 _ => ?_)
    obtain ⟨Vk, Vf, Vg, Vh, Vr⟩ := i1
    refine Tr.rowShape (V := Vk) (by repeat (first | exact List.Mem.head _ | apply List.Mem.tail)) (fun pVk cVk hpv => ?_)
    subst hpv
    refine Tr.rowShape (V := Vf) (by repeat (first | exact List.Mem.head _ | apply List.Mem.tail)) (fun pVf cVf hpv => ?_)
    subst hpv
    refine Tr.rowShape (V := Vg) (by repeat (first | exact List.Mem.head _ | apply List.Mem.tail)) (fun pVg cVg hpv => ?_)
    subst hpv
    refine Tr.rowShape (V := Vh) (by repeat (first | exact List.Mem.head _ | apply List.Mem.tail)) (fun pVh cVh hpv => ?_)
    subst hpv
    refine Tr.rowShape (V := Vr) (by repeat (first | exact List.Mem.head _ | apply List.Mem.tail)) (fun pVr cVr hpv => ?_)
    subst hpv
    obtain ⟨kp, hkp⟩ : ∃ r, r = (resP ins ents unk bad).kept := ⟨_, rfl⟩
    obtain ⟨ep, hep⟩ : ∃ r, r = (resP ins ents unk bad).ents := ⟨_, rfl⟩
    obtain ⟨up, hup⟩ : ∃ r, r = (resP ins ents unk bad).unk := ⟨_, rfl⟩
    obtain ⟨bp, hbp⟩ : ∃ r, r = (resP ins ents unk bad).bad := ⟨_, rfl⟩
    obtain ⟨rp, hrp⟩ : ∃ r, r = (resP ins ents unk bad).rem := ⟨_, rfl⟩
    simp only [← hkp, ← hep, ← hup, ← hbp, ← hrp]
    obtain rfl : bad = bp := hbp.symm
    refine Tr.q (QS.move rfl) rfl ?_
    refine Tr.q (QS.extract rfl rfl) rfl ?_
    refine Tr.q (QS.extract rfl rfl) rfl ?_
    refine Tr.alloc Tryz.zeroValue28 rfl rfl (fun b3 => ?_)
    refine Tr.storeW rfl rfl Tryz.sizeOf28 (by repeat (first | exact Put.here _ | apply Put.there)) (by rfl) (by rfl) (by first | exact List.all_eq_true.1 rfl | exact Enc.one _ _ | (intro u hu; simp [Value.cells] at hu; simp_all [Value.oneCell'])) rfl ?_
    refine Tr.q (QS.assign rfl) rfl ?_
    refine Tr.nil ?_
    refine Tr.thenN ?_
    refine Tr.seq ?_
    refine Tr.region ?_
    refine Tr.q (QS.lW rfl Tryz.isAgg25 Tryz.sizeOf25) rfl ?_
    refine Tr.callEnts (fun i : Value × Value × Value × Value => .tuple #[.agg #[i.1, i.2.1, i.2.2.1, Vb], i.2.2.2]) (fun i => [rowE i.1 35 encIns (resP ins ents unk bad).kept, rowE i.2.1 33 encU32 (resP ins ents unk bad).ents, rowE i.2.2.1 33 encU32 (resP ins ents unk bad).unk, rowE i.2.2.2 33 encU32 (resP ins ents unk bad).rem]) (ok := fun _ => True) rfl Tryz.call27 (fun w hw => (by rw [res_ref]; exact (resolve13_any ins ents unk bad Vi Ve Vu Vb w (hw.slF hV') (hw.slF hE') (hw.slF hU') (hw.slF hB') hI (by omega) (by omega) (by omega)).mono fun e w' ⟨i, q1, q2, q3⟩ => ⟨i, q1, q2, q3, trivial⟩)) rfl (fun i2 _ => ?_)
    obtain ⟨Vk2, Vf2, Vg2, Vr2⟩ := i2
    refine Tr.rowShape (V := Vk2) (by repeat (first | exact List.Mem.head _ | apply List.Mem.tail)) (fun pVk2 cVk2 hpv => ?_)
    subst hpv
    refine Tr.rowShape (V := Vf2) (by repeat (first | exact List.Mem.head _ | apply List.Mem.tail)) (fun pVf2 cVf2 hpv => ?_)
    subst hpv
    refine Tr.rowShape (V := Vg2) (by repeat (first | exact List.Mem.head _ | apply List.Mem.tail)) (fun pVg2 cVg2 hpv => ?_)
    subst hpv
    refine Tr.rowShape (V := Vr2) (by repeat (first | exact List.Mem.head _ | apply List.Mem.tail)) (fun pVr2 cVr2 hpv => ?_)
    subst hpv
    obtain ⟨sb, cb, hb0, _⟩ := hB.shape
    simp only [← hkp, ← hep, ← hup, ← hrp]
    subst hb0
    refine Tr.q (QS.move rfl) rfl ?_
    refine Tr.q (QS.extract rfl rfl) rfl ?_
    refine Tr.q (QS.extract rfl rfl) rfl ?_
    refine Tr.alloc Tryz.zeroValue25 rfl rfl (fun b4 => ?_)
    refine Tr.storeW rfl rfl Tryz.sizeOf25 (by repeat (first | exact Put.here _ | apply Put.there)) (by rfl) (by rfl) (by first | exact List.all_eq_true.1 rfl | exact Enc.one _ _ | (intro u hu; simp [Value.cells] at hu; simp_all [Value.oneCell'])) rfl ?_
    refine Tr.q (QS.assign rfl) rfl ?_
    refine Tr.nil ?_
    refine Tr.thenN ?_
    refine Tr.seq ?_
    refine Tr.region ?_
    refine Tr.q (QS.lW rfl Tryz.isAgg28 Tryz.sizeOf28) rfl ?_
    refine Tr.q (QS.call rfl Tryz.call28 (fun w hw => from13_any _ _ _ _ w ⟨⟨_, _, _, rfl⟩, ⟨_, _, _, rfl⟩, ⟨_, _, _, rfl⟩, ⟨_, _, _, rfl⟩⟩)) rfl ?_
    refine Tr.alloc Tryz.zeroValue25 rfl rfl (fun b5 => ?_)
    refine Tr.storeW rfl rfl Tryz.sizeOf25 (by repeat (first | exact Put.here _ | apply Put.there)) (by rfl) (by rfl) (by first | exact List.all_eq_true.1 rfl | exact Enc.one _ _ | (intro u hu; simp [Value.cells] at hu; simp_all [Value.oneCell'])) rfl ?_
    refine Tr.nil ?_
    refine Tr.thenN ?_
    refine Tr.seq ?_
    refine Tr.region ?_
    refine Tr.q (QS.fieldAddr (off := 0) (ft := 22) rfl Tryz.underlying25 rfl rfl Tryz.sizeOf22 (by decide)) rfl ?_
    refine Tr.q (QS.lV rfl Tryz.isAgg22) rfl ?_
    refine Tr.q (QS.fieldAddr (off := 0) (ft := 22) rfl Tryz.underlying25 rfl rfl Tryz.sizeOf22 (by decide)) rfl ?_
    refine Tr.q (QS.lV rfl Tryz.isAgg22) rfl ?_
    refine Tr.q (QS.call rfl Tryz.call29 (fun w hw => same03_any kp kp _ _ w (hw.row (by repeat (first | exact List.Mem.head _ | apply List.Mem.tail))) (hw.row (by repeat (first | exact List.Mem.head _ | apply List.Mem.tail))))) rfl ?_
    refine Tr.q (QS.move rfl) rfl ?_
    apply Tr.andP
    · exact (rfl : _ = (6, 30, 36))
    · exact rfl
    · intro hT6; have hT6' := hT6
      try simp only [bs] at hT6'
      refine Tr.gq rfl rfl hT6 (QS.fieldAddr (off := 1) (ft := 23) rfl Tryz.underlying25 rfl rfl Tryz.sizeOf23 (by decide)) rfl ?_
      refine Tr.gq rfl rfl hT6 (QS.lV rfl Tryz.isAgg23) rfl ?_
      refine Tr.gq rfl rfl hT6 (QS.fieldAddr (off := 1) (ft := 23) rfl Tryz.underlying25 rfl rfl Tryz.sizeOf23 (by decide)) rfl ?_
      refine Tr.gq rfl rfl hT6 (QS.lV rfl Tryz.isAgg23) rfl ?_
      refine Tr.gq rfl rfl hT6 (QS.call rfl Tryz.call30 (fun w hw => words_any ep ep _ _ w (hw.row (by repeat (first | exact List.Mem.head _ | apply List.Mem.tail))) (hw.row (by repeat (first | exact List.Mem.head _ | apply List.Mem.tail))))) rfl ?_
      refine Tr.q (QS.pickT rfl hT6 rfl) rfl ?_
      refine Tr.nil (Tr.thenN ?_)
      exact Tr.endX (Sub.cons rfl (Sub.dropN 6 (by kernel_rfl) rfl))
    · intro hF6
      refine Tr.gskip rfl rfl hF6 rfl ?_
      refine Tr.gskip rfl rfl hF6 rfl ?_
      refine Tr.gskip rfl rfl hF6 rfl ?_
      refine Tr.gskip rfl rfl hF6 rfl ?_
      refine Tr.gskip rfl rfl hF6 rfl ?_
      refine Tr.q (QS.pickF rfl hF6 rfl) rfl ?_
      refine Tr.nil (Tr.thenN ?_)
      exact Tr.endX (Sub.cons rfl (Sub.dropN 6 (by kernel_rfl) rfl))
    refine Tr.q (QS.move rfl) rfl ?_
    apply Tr.andP
    · exact (rfl : _ = (6, 37, 43))
    · exact rfl
    · intro hT7; have hT7' := hT7
      try simp only [bs] at hT7'
      refine Tr.gq rfl rfl hT7 (QS.fieldAddr (off := 2) (ft := 23) rfl Tryz.underlying25 rfl rfl Tryz.sizeOf23 (by decide)) rfl ?_
      refine Tr.gq rfl rfl hT7 (QS.lV rfl Tryz.isAgg23) rfl ?_
      refine Tr.gq rfl rfl hT7 (QS.fieldAddr (off := 2) (ft := 23) rfl Tryz.underlying25 rfl rfl Tryz.sizeOf23 (by decide)) rfl ?_
      refine Tr.gq rfl rfl hT7 (QS.lV rfl Tryz.isAgg23) rfl ?_
      refine Tr.gq rfl rfl hT7 (QS.call rfl Tryz.call30 (fun w hw => words_any up up _ _ w (hw.row (by repeat (first | exact List.Mem.head _ | apply List.Mem.tail))) (hw.row (by repeat (first | exact List.Mem.head _ | apply List.Mem.tail))))) rfl ?_
      refine Tr.q (QS.pickT rfl hT7 rfl) rfl ?_
      refine Tr.nil (Tr.thenN ?_)
      exact Tr.endX (Sub.cons rfl (Sub.dropN 6 (by kernel_rfl) rfl))
    · intro hF7
      refine Tr.gskip rfl rfl hF7 rfl ?_
      refine Tr.gskip rfl rfl hF7 rfl ?_
      refine Tr.gskip rfl rfl hF7 rfl ?_
      refine Tr.gskip rfl rfl hF7 rfl ?_
      refine Tr.gskip rfl rfl hF7 rfl ?_
      refine Tr.q (QS.pickF rfl hF7 rfl) rfl ?_
      refine Tr.nil (Tr.thenN ?_)
      exact Tr.endX (Sub.cons rfl (Sub.dropN 6 (by kernel_rfl) rfl))
    refine Tr.q (QS.move rfl) rfl ?_
    apply Tr.andP
    · exact (rfl : _ = (6, 44, 50))
    · exact rfl
    · intro hT8; have hT8' := hT8
      try simp only [bs] at hT8'
      refine Tr.gq rfl rfl hT8 (QS.fieldAddr (off := 3) (ft := 23) rfl Tryz.underlying25 rfl rfl Tryz.sizeOf23 (by decide)) rfl ?_
      refine Tr.gq rfl rfl hT8 (QS.lV rfl Tryz.isAgg23) rfl ?_
      refine Tr.gq rfl rfl hT8 (QS.fieldAddr (off := 3) (ft := 23) rfl Tryz.underlying25 rfl rfl Tryz.sizeOf23 (by decide)) rfl ?_
      refine Tr.gq rfl rfl hT8 (QS.lV rfl Tryz.isAgg23) rfl ?_
      refine Tr.gq rfl rfl hT8 (QS.call rfl Tryz.call30 (fun w hw => words_any bad bad _ _ w (hw.row (by repeat (first | exact List.Mem.head _ | apply List.Mem.tail))) (hw.slF hB'))) rfl ?_
      refine Tr.q (QS.pickT rfl hT8 rfl) rfl ?_
      refine Tr.nil (Tr.thenN ?_)
      exact Tr.endX (Sub.cons rfl (Sub.dropN 6 (by kernel_rfl) rfl))
    · intro hF8
      refine Tr.gskip rfl rfl hF8 rfl ?_
      refine Tr.gskip rfl rfl hF8 rfl ?_
      refine Tr.gskip rfl rfl hF8 rfl ?_
      refine Tr.gskip rfl rfl hF8 rfl ?_
      refine Tr.gskip rfl rfl hF8 rfl ?_
      refine Tr.q (QS.pickF rfl hF8 rfl) rfl ?_
      refine Tr.nil (Tr.thenN ?_)
      exact Tr.endX (Sub.cons rfl (Sub.dropN 6 (by kernel_rfl) rfl))
    refine Tr.q (QS.move rfl) rfl ?_
    apply Tr.andP
    · exact (rfl : _ = (4, 51, 55))
    · exact rfl
    · intro hT9; have hT9' := hT9
      try simp only [bs] at hT9'
      refine Tr.gq rfl rfl hT9 (QS.move rfl) rfl ?_
      refine Tr.gq rfl rfl hT9 (QS.move rfl) rfl ?_
      refine Tr.gq rfl rfl hT9 (QS.call rfl Tryz.call30 (fun w hw => words_any rp rp _ _ w (hw.row (by repeat (first | exact List.Mem.head _ | apply List.Mem.tail))) (hw.row (by repeat (first | exact List.Mem.head _ | apply List.Mem.tail))))) rfl ?_
      refine Tr.q (QS.pickT rfl hT9 rfl) rfl ?_
      refine Tr.nil (Tr.thenN ?_)
      exact Tr.endX (Sub.cons rfl (Sub.dropN 4 (by kernel_rfl) rfl))
    · intro hF9
      refine Tr.gskip rfl rfl hF9 rfl ?_
      refine Tr.gskip rfl rfl hF9 rfl ?_
      refine Tr.gskip rfl rfl hF9 rfl ?_
      refine Tr.q (QS.pickF rfl hF9 rfl) rfl ?_
      refine Tr.nil (Tr.thenN ?_)
      exact Tr.endX (Sub.cons rfl (Sub.dropN 4 (by kernel_rfl) rfl))
    refine Tr.q (QS.move rfl) rfl ?_
    apply Tr.andP
    · exact (rfl : _ = (2, 56, 58))
    · exact rfl
    · intro hT10; have hT10' := hT10
      try simp only [bs] at hT10'
      refine Tr.gq rfl rfl hT10 (QS.call rfl Tryz.call11 (fun w hw => example13_any w)) rfl ?_
      refine Tr.q (QS.pickT rfl hT10 rfl) rfl ?_
      refine Tr.nil (Tr.thenN ?_)
      exact Tr.endX (Sub.cons rfl (Sub.dropN 2 (by kernel_rfl) rfl))
    · intro hF10
      refine Tr.gskip rfl rfl hF10 rfl ?_
      refine Tr.q (QS.pickF rfl hF10 rfl) rfl ?_
      refine Tr.nil (Tr.thenN ?_)
      exact Tr.endX (Sub.cons rfl (Sub.dropN 2 (by kernel_rfl) rfl))
    refine Tr.q (QS.assign rfl) rfl ?_
    refine Tr.nil ?_
    refine Tr.thenN ?_
    refine Tr.ret ?_
    refine Tr.ret1 Tryz.results6 rfl (fun w' hw => ?_)
    exact ⟨by simp, hw.below (Bg.le.refl _)⟩
end Go.Proofs.YtmhbfelnjkhepaaGreat
namespace Go.HL
open Go Go.Deep Go.ChangeShapes Go.WideShapes
section
variable {H : Type} {enc : TypeId × Value → H} {P : Program} {w : World} {base : Nat} {spare : Nat → Bool} {held : Bool}
theorem sl_of_trod {α : Type} [Inhabited α] {E : Enc α} {R : α → Prop} {t e : TypeId} {fuel : Nat} {V : Value} {x : DataW H × List MemPlace} (ht : P.underlying t = some (.slice e)) (hc : P.cellsOf e = E.k) (hk : 0 < E.k)
    (hf : ∀ n cs y, cs.length = E.k → DataW.trod enc P w base spare held n e cs = some y → ∃ a : α, cs = E.enc a ∧ R a)
    (h : DataW.trod enc P w base spare held fuel t [V] = some x) : ∃ l : List α, Sl (hp w) E l V ∧ ∀ a ∈ l, R a := by
  rcases open_slice ht h with ⟨h0, _⟩ | ⟨a, len, cap, m, n, D, Pl, hv, hb, hl, hm, hmm, _, hx⟩
  · simp only [List.cons.injEq, and_true] at h0
    subst h0
    exact ⟨[], Sl.nil _ _, by simp⟩
  · simp only [List.cons.injEq, and_true] at hv
    subst hv
    have hlm : len ≤ m := by rw [hmm]; split <;> omega
    have each : ∀ i, i < len → ∃ q : α, w.cells? base (a.add (i * E.k)) E.k = some (E.enc q) ∧ R q := fun i hi => by
      obtain ⟨cs', h1, h2⟩ := hx i (by omega)
      rw [hc] at h1
      obtain ⟨q, rfl, hq⟩ := hf n cs' _ (World.cells?_some h1).2.1 h2
      exact ⟨q, h1, hq⟩
    obtain ⟨f, hfn⟩ := choose_lt each
    have hsp : 0 < len → a = ⟨a.block, a.off, none⟩ := fun hl0 => by
      have h1 := (World.cells?_some (hfn 0 hl0).1).2.2 0 hk
      have hlen : 0 < (E.enc (f 0)).length := by rw [E.len]; exact hk
      rw [List.getElem?_eq_getElem hlen] at h1
      have hsp := World.cell?_spot h1
      obtain ⟨b, o, sp⟩ := a
      have : sp = none := by simpa [Addr.add] using hsp
      subst this
      rfl
    refine ⟨(List.range len).map f, ⟨⟨some a, cap, by simp, by simpa using hl, hm, fun hne => ?_⟩, fun i q hq => ?_⟩, fun q hq => ?_⟩
    · have hl0 : 0 < len := by
        rcases Nat.eq_zero_or_pos len with h | h
        · subst h; simp at hne
        · exact h
      rw [hsp hl0]; rfl
    · have hi : i < len := by
        have := (List.getElem?_eq_some_iff.1 hq).1
        simpa using this
      have hq' : f i = q := by simpa [hi] using hq
      subst hq'
      have ha := hsp (by omega)
      obtain ⟨b, o, sp⟩ := a
      obtain rfl : sp = none := by simpa using ha
      have hc' := (World.cells?_some (hfn i hi).1).2.2
      have hlen : (E.enc (f i)).length = E.k := E.len _
      have eA : ∀ j, (((⟨b, o, none⟩ : Addr).add (i * E.k)).add j) = ⟨b, o + i * E.k + j, none⟩ := fun j => by
        rw [Go.Deep.add_add]; simp only [Addr.add]
        by_cases h0 : i * E.k + j = 0
        · rw [if_pos h0]
          have : i * E.k = 0 := by omega
          have : j = 0 := by omega
          simp_all
        · rw [if_neg h0, Nat.add_assoc]
      have h1 := hc' 0 hk
      rw [List.getElem?_eq_getElem (by omega), eA] at h1
      have hb1 : ∃ cs T fz, w.heap[b]? = some (.cells cs T fz) := by
        unfold World.cell? at h1
        split at h1
        · rename_i cs T fz hh; exact ⟨cs, T, fz, hh⟩
        · simp at h1
      obtain ⟨cs, T, fz, hh⟩ := hb1
      refine ⟨cs, T, fz, hh, fun j v hj => ?_⟩
      have hjk : j < E.k := by have := (List.getElem?_eq_some_iff.1 hj).1; omega
      have h2 := hc' j hjk
      rw [hj, eA] at h2
      unfold World.cell? at h2
      simp only [hh] at h2
      simp only [ofs]
      simpa using h2
    · obtain ⟨i, hi, rfl⟩ := List.mem_map.1 hq
      exact (hfn i (List.mem_range.1 hi)).2
theorem u32_of_wf {n : Int} (h : (Lit.int .u32 n).wf = true) : ∃ x : UInt32, n = (x.toNat : Int) := by
  have := bounds_u32 h
  refine ⟨UInt32.ofNat n.toNat, ?_⟩
  rw [UInt32.toNat_ofNat']; omega
end
end Go.HL
namespace Go.HL
open Go Go.Deep Go.ChangeShapes Go.WideShapes
section
variable {H : Type} {enc : TypeId × Value → H} {P : Program} {w : World} {base : Nat} {spare : Nat → Bool} {held : Bool}
theorem flat_ins {e t0 t1 : TypeId} {f0 f1 f2 f3 f4 f5 f6 f7 f8 : Field} (he : P.underlying e = some (.struct #[f0, f1, f2, f3, f4, f5, f6, f7, f8]))
    (ho : [f0.offset, f1.offset, f2.offset, f3.offset, f4.offset, f5.offset, f6.offset, f7.offset, f8.offset] = [0, 1, 2, 3, 4, 5, 6, 7, 8])
    (ht : [f0.type, f1.type, f2.type, f3.type, f4.type, f5.type, f6.type, f7.type, f8.type] = [t0, t0, t1, t1, t1, t1, t1, t1, t1])
    (c0 : P.cellsOf t0 = 1) (c1 : P.cellsOf t1 = 1) (u0 : P.underlying t0 = some (.int .u32)) (u1 : P.underlying t1 = some (.int .i64))
    {n : Nat} {cs : List Value} {y : DataW H × List MemPlace} (hl : cs.length = 9) (h : DataW.trod enc P w base spare held n e cs = some y) : ∃ i, cs = encIns.enc i ∧ InsOK i := by
  simp only [List.cons.injEq, and_true] at ho ht
  obtain ⟨o0, o1, o2, o3, o4, o5, o6, o7, o8⟩ := ho
  obtain ⟨t0', t1', t2', t3', t4', t5', t6', t7', t8'⟩ := ht
  obtain ⟨xs, k, hk, hxy, _, hxl, hf⟩ := DataW.trod_struct he h
  match xs, hxl, cs, hl with
  | [y0, y1, y2, y3, y4, y5, y6, y7, y8], _, [v0, v1, v2, v3, v4, v5, v6, v7, v8], _ =>
    have g0 := hf 0 f0 rfl
    have g1 := hf 1 f1 rfl
    have g2 := hf 2 f2 rfl
    have g3 := hf 3 f3 rfl
    have g4 := hf 4 f4 rfl
    have g5 := hf 5 f5 rfl
    have g6 := hf 6 f6 rfl
    have g7 := hf 7 f7 rfl
    have g8 := hf 8 f8 rfl
    simp [o0, o1, o2, o3, o4, o5, o6, o7, o8, t0', t1', t2', t3', t4', t5', t6', t7', t8', c0, c1] at g0 g1 g2 g3 g4 g5 g6 g7 g8
    obtain ⟨z0, e0, _, w0⟩ := DataW.trod_int u0 g0
    obtain ⟨z1, e1, _, w1⟩ := DataW.trod_int u0 g1
    obtain ⟨z2, e2, _, w2⟩ := DataW.trod_int u1 g2
    obtain ⟨z3, e3, _, w3⟩ := DataW.trod_int u1 g3
    obtain ⟨z4, e4, _, w4⟩ := DataW.trod_int u1 g4
    obtain ⟨z5, e5, _, w5⟩ := DataW.trod_int u1 g5
    obtain ⟨z6, e6, _, w6⟩ := DataW.trod_int u1 g6
    obtain ⟨z7, e7, _, w7⟩ := DataW.trod_int u1 g7
    obtain ⟨z8, e8, _, w8⟩ := DataW.trod_int u1 g8
    obtain ⟨x0, rfl⟩ := u32_of_wf w0
    obtain ⟨x1, rfl⟩ := u32_of_wf w1
    simp only [List.cons.injEq, and_true] at e0 e1 e2 e3 e4 e5 e6 e7 e8
    subst e0; subst e1; subst e2; subst e3; subst e4; subst e5; subst e6; subst e7; subst e8
    have b2 := bounds_i64 w2
    have b3 := bounds_i64 w3
    have b4 := bounds_i64 w4
    have b5 := bounds_i64 w5
    have b6 := bounds_i64 w6
    have b7 := bounds_i64 w7
    have b8 := bounds_i64 w8
    exact ⟨⟨x0, x1, z2, z3, z4, z5, z6, z7, z8⟩, rfl, ⟨b2, b3, b4, b5, b6, b7, b8⟩⟩
theorem agg_of {cs : Array Value} {l : List Value} (h : (Value.agg cs).cells.toList = l) : cs = l.toArray := by
  subst h; simp [Value.cells]
end
end Go.HL
namespace Go.HL
open Go Go.Deep Go.ChangeShapes Go.WideShapes
section
variable {H : Type} {enc : TypeId × Value → H} {P : Program} {w : World} {base : Nat} {spare : Nat → Bool} {held : Bool}
theorem flat_u32 {e : TypeId} (he : P.underlying e = some (.int .u32)) {n : Nat} {cs : List Value} {y : DataW H × List MemPlace} (h : DataW.trod enc P w base spare held n e cs = some y) : ∃ a, cs = encU32.enc a ∧ True := by
  obtain ⟨z, rfl, _, hw⟩ := DataW.trod_int he h
  obtain ⟨x, rfl⟩ := u32_of_wf hw
  exact ⟨x, rfl, trivial⟩
theorem flat_code {e ti tu ei eu : TypeId} {f0 f1 f2 f3 : Field} (he : P.underlying e = some (.struct #[f0, f1, f2, f3]))
    (ho : [f0.offset, f1.offset, f2.offset, f3.offset] = [0, 1, 2, 3]) (ht : [f0.type, f1.type, f2.type, f3.type] = [ti, tu, tu, tu])
    (c0 : P.cellsOf ti = 1) (c1 : P.cellsOf tu = 1) (ui : P.underlying ti = some (.slice ei)) (uu : P.underlying tu = some (.slice eu)) (ue : P.underlying eu = some (.int .u32))
    (ci : P.cellsOf ei = 9) (cu : P.cellsOf eu = 1)
    (hfi : ∀ n cs y, cs.length = 9 → DataW.trod enc P w base spare held n ei cs = some y → ∃ i, cs = encIns.enc i ∧ InsOK i)
    {n : Nat} {cs : List Value} {y : DataW H × List MemPlace} (hl : cs.length = 4) (h : DataW.trod enc P w base spare held n e cs = some y) :
    ∃ (li : List Ins) (le lu lb : List UInt32) (Vi Ve Vu Vb : Value), cs = [Vi, Ve, Vu, Vb] ∧ Sl (hp w) encIns li Vi ∧ Sl (hp w) encU32 le Ve ∧ Sl (hp w) encU32 lu Vu ∧ Sl (hp w) encU32 lb Vb ∧ ∀ x ∈ li, InsOK x := by
  simp only [List.cons.injEq, and_true] at ho ht
  obtain ⟨o0, o1, o2, o3⟩ := ho
  obtain ⟨t0', t1', t2', t3'⟩ := ht
  obtain ⟨xs, k, hk, hxy, _, hxl, hf⟩ := DataW.trod_struct he h
  match xs, hxl, cs, hl with
  | [y0, y1, y2, y3], _, [v0, v1, v2, v3], _ =>
    have g0 := hf 0 f0 rfl
    have g1 := hf 1 f1 rfl
    have g2 := hf 2 f2 rfl
    have g3 := hf 3 f3 rfl
    simp [o0, o1, o2, o3, t0', t1', t2', t3', c0, c1] at g0 g1 g2 g3
    obtain ⟨li, s0, I0⟩ := sl_of_trod (E := encIns) (R := InsOK) ui ci (by decide) hfi g0
    obtain ⟨le, s1, _⟩ := sl_of_trod (E := encU32) (R := fun _ => True) uu cu (by decide) (fun n cs y _ hh => flat_u32 ue hh) g1
    obtain ⟨lu, s2, _⟩ := sl_of_trod (E := encU32) (R := fun _ => True) uu cu (by decide) (fun n cs y _ hh => flat_u32 ue hh) g2
    obtain ⟨lb, s3, _⟩ := sl_of_trod (E := encU32) (R := fun _ => True) uu cu (by decide) (fun n cs y _ hh => flat_u32 ue hh) g3
    exact ⟨li, le, lu, lb, v0, v1, v2, v3, rfl, s0, s1, s2, s3, I0⟩
end
end Go.HL
