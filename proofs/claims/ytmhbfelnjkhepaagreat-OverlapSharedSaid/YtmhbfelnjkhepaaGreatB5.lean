/- Own rules and walks, part 5. -/
import Derived.Test.YtmhbfelnjkhepaaGreatB4
set_option linter.unusedSimpArgs false
set_option linter.unusedVariables false
set_option linter.unusedSectionVars false
namespace Go.Proofs.YtmhbfelnjkhepaaGreat
open Go Go.HL Go.RowKit
set_option maxRecDepth 100000 in
set_option maxHeartbeats 2000000 in
theorem isReg_any (r : Int) (w : World) :
    Calls Tryz.prog 130 #[.int .i64 r] w (fun e w' => e = .returned (.bool (regP r)) ∧ Ext w w') := by
  refine enter Tryz.func130 rfl Tryz.ntmps130 rfl ?_
  refine Tr.seq ?_
  refine Tr.region ?_
  refine Tr.q (QS.assign rfl) rfl ?_
  refine Tr.nil ?_
  refine Tr.thenN ?_
  refine Tr.seq ?_
  refine Tr.region ?_
  refine Tr.q (QS.move rfl) rfl ?_
  refine Tr.q (QS.geq rfl rfl) rfl ?_
  refine Tr.q (QS.move rfl) rfl ?_
  apply Tr.andP
  · exact (rfl : _ = (3, 5, 8))
  · exact rfl
  · intro hT1; have hT1' := hT1
    try simp only [bs] at hT1'
    refine Tr.gq rfl rfl hT1 (QS.move rfl) rfl ?_
    refine Tr.gq rfl rfl hT1 (QS.lss rfl rfl) rfl ?_
    refine Tr.q (QS.pickT rfl hT1 rfl) rfl ?_
    refine Tr.nil (Tr.thenN ?_)
    exact Tr.endX (Sub.cons rfl (Sub.dropN 3 (by kernel_rfl) rfl))
  · intro hF1
    refine Tr.gskip rfl rfl hF1 rfl ?_
    refine Tr.gskip rfl rfl hF1 rfl ?_
    refine Tr.q (QS.pickF rfl hF1 rfl) rfl ?_
    refine Tr.nil (Tr.thenN ?_)
    exact Tr.endX (Sub.cons rfl (Sub.dropN 3 (by kernel_rfl) rfl))
  refine Tr.q (QS.assign rfl) rfl ?_
  refine Tr.nil ?_
  refine Tr.thenN ?_
  refine Tr.ret ?_
  refine Tr.ret1 Tryz.results130 rfl (fun w' hw => ?_)
  exact ⟨rfl, hw.below (Bg.le.refl _)⟩
set_option maxRecDepth 100000 in
set_option maxHeartbeats 2000000 in
theorem isCc_any (r : Int) (w : World) :
    Calls Tryz.prog 133 #[.int .i64 r] w (fun e w' => e = .returned (.bool (isCcP r)) ∧ Ext w w') := by
  refine enter Tryz.func133 rfl Tryz.ntmps133 rfl ?_
  refine Tr.seq ?_
  refine Tr.region ?_
  refine Tr.q (QS.assign rfl) rfl ?_
  refine Tr.nil ?_
  refine Tr.thenN ?_
  refine Tr.seq ?_
  refine Tr.region ?_
  refine Tr.q (QS.move rfl) rfl ?_
  refine Tr.q (QS.geq rfl rfl) rfl ?_
  refine Tr.q (QS.move rfl) rfl ?_
  apply Tr.andP
  · exact (rfl : _ = (3, 5, 8))
  · exact rfl
  · intro hT1; have hT1' := hT1
    try simp only [bs] at hT1'
    refine Tr.gq rfl rfl hT1 (QS.move rfl) rfl ?_
    refine Tr.gq rfl rfl hT1 (QS.leq rfl rfl) rfl ?_
    refine Tr.q (QS.pickT rfl hT1 rfl) rfl ?_
    refine Tr.nil (Tr.thenN ?_)
    exact Tr.endX (Sub.cons rfl (Sub.dropN 3 (by kernel_rfl) rfl))
  · intro hF1
    refine Tr.gskip rfl rfl hF1 rfl ?_
    refine Tr.gskip rfl rfl hF1 rfl ?_
    refine Tr.q (QS.pickF rfl hF1 rfl) rfl ?_
    refine Tr.nil (Tr.thenN ?_)
    exact Tr.endX (Sub.cons rfl (Sub.dropN 3 (by kernel_rfl) rfl))
  refine Tr.q (QS.assign rfl) rfl ?_
  refine Tr.nil ?_
  refine Tr.thenN ?_
  refine Tr.ret ?_
  refine Tr.ret1 Tryz.results133 rfl (fun w' hw => ?_)
  exact ⟨rfl, hw.below (Bg.le.refl _)⟩
set_option maxRecDepth 100000 in
set_option maxHeartbeats 2000000 in
theorem isByte_any (n : UInt32) (w : World) :
    Calls Tryz.prog 137 #[.int .u32 n.toNat] w (fun e w' => e = .returned (.bool (isByteP n)) ∧ Ext w w') := by
  refine enter Tryz.func137 rfl Tryz.ntmps137 rfl ?_
  refine Tr.seq ?_
  refine Tr.region ?_
  refine Tr.q (QS.assign rfl) rfl ?_
  refine Tr.nil ?_
  refine Tr.thenN ?_
  refine Tr.seq ?_
  refine Tr.region ?_
  refine Tr.q (QS.move rfl) rfl ?_
  refine Tr.q (QS.leq32 (n := 127) rfl rfl) rfl ?_
  refine Tr.q (QS.move rfl) rfl ?_
  apply Tr.orP
  · exact (rfl : _ = (3, 5, 8))
  · exact rfl
  · intro hF1; have hF1' := hF1
    try simp only [bs] at hF1'
    refine Tr.gq rfl rfl hF1 (QS.move rfl) rfl ?_
    refine Tr.gq rfl rfl hF1 (QS.geq32 (n := 4294967168) rfl rfl) rfl ?_
    refine Tr.q (QS.pickF rfl hF1 rfl) rfl ?_
    refine Tr.nil (Tr.thenN ?_)
    exact Tr.endX (Sub.cons rfl (Sub.dropN 3 (by kernel_rfl) rfl))
  · intro hT1
    refine Tr.gskip rfl rfl hT1 rfl ?_
    refine Tr.gskip rfl rfl hT1 rfl ?_
    refine Tr.q (QS.pickT rfl hT1 rfl) rfl ?_
    refine Tr.nil (Tr.thenN ?_)
    exact Tr.endX (Sub.cons rfl (Sub.dropN 3 (by kernel_rfl) rfl))
  refine Tr.q (QS.assign rfl) rfl ?_
  refine Tr.nil ?_
  refine Tr.thenN ?_
  refine Tr.ret ?_
  refine Tr.ret1 Tryz.results137 rfl (fun w' hw => ?_)
  exact ⟨rfl, hw.below (Bg.le.refl _)⟩
set_option maxRecDepth 100000 in
set_option maxHeartbeats 2000000 in
theorem isTwo_any (op : Int) (w : World) :
    Calls Tryz.prog 135 #[.int .i64 op] w (fun e w' => e = .returned (.bool (isTwoP op)) ∧ Ext w w') := by
  refine enter Tryz.func135 rfl Tryz.ntmps135 rfl ?_
  refine Tr.seq ?_
  refine Tr.region ?_
  refine Tr.q (QS.assign rfl) rfl ?_
  refine Tr.nil ?_
  refine Tr.thenN ?_
  refine Tr.seq ?_
  refine Tr.region ?_
  refine Tr.q (QS.move rfl) rfl ?_
  refine Tr.q (QS.geq rfl rfl) rfl ?_
  refine Tr.q (QS.move rfl) rfl ?_
  apply Tr.andP
  · exact (rfl : _ = (3, 5, 8))
  · exact rfl
  · intro hT1; have hT1' := hT1
    try simp only [bs] at hT1'
    refine Tr.gq rfl rfl hT1 (QS.move rfl) rfl ?_
    refine Tr.gq rfl rfl hT1 (QS.leq rfl rfl) rfl ?_
    refine Tr.q (QS.pickT rfl hT1 rfl) rfl ?_
    refine Tr.nil (Tr.thenN ?_)
    exact Tr.endX (Sub.cons rfl (Sub.dropN 3 (by kernel_rfl) rfl))
  · intro hF1
    refine Tr.gskip rfl rfl hF1 rfl ?_
    refine Tr.gskip rfl rfl hF1 rfl ?_
    refine Tr.q (QS.pickF rfl hF1 rfl) rfl ?_
    refine Tr.nil (Tr.thenN ?_)
    exact Tr.endX (Sub.cons rfl (Sub.dropN 3 (by kernel_rfl) rfl))
  refine Tr.q (QS.assign rfl) rfl ?_
  refine Tr.nil ?_
  refine Tr.thenN ?_
  refine Tr.ret ?_
  refine Tr.ret1 Tryz.results135 rfl (fun w' hw => ?_)
  exact ⟨rfl, hw.below (Bg.le.refl _)⟩
set_option maxRecDepth 100000 in
set_option maxHeartbeats 2000000 in
theorem isAccess_any (op : Int) (w : World) :
    Calls Tryz.prog 136 #[.int .i64 op] w (fun e w' => e = .returned (.bool (isAccP op)) ∧ Ext w w') := by
  refine enter Tryz.func136 rfl Tryz.ntmps136 rfl ?_
  refine Tr.seq ?_
  refine Tr.region ?_
  refine Tr.q (QS.assign rfl) rfl ?_
  refine Tr.nil ?_
  refine Tr.thenN ?_
  refine Tr.seq ?_
  refine Tr.region ?_
  refine Tr.q (QS.move rfl) rfl ?_
  refine Tr.q (QS.eql rfl rfl) rfl ?_
  refine Tr.q (QS.move rfl) rfl ?_
  apply Tr.orP
  · exact (rfl : _ = (3, 5, 8))
  · exact rfl
  · intro hF1; have hF1' := hF1
    try simp only [bs] at hF1'
    refine Tr.gq rfl rfl hF1 (QS.move rfl) rfl ?_
    refine Tr.gq rfl rfl hF1 (QS.eql rfl rfl) rfl ?_
    refine Tr.q (QS.pickF rfl hF1 rfl) rfl ?_
    refine Tr.nil (Tr.thenN ?_)
    exact Tr.endX (Sub.cons rfl (Sub.dropN 3 (by kernel_rfl) rfl))
  · intro hT1
    refine Tr.gskip rfl rfl hT1 rfl ?_
    refine Tr.gskip rfl rfl hT1 rfl ?_
    refine Tr.q (QS.pickT rfl hT1 rfl) rfl ?_
    refine Tr.nil (Tr.thenN ?_)
    exact Tr.endX (Sub.cons rfl (Sub.dropN 3 (by kernel_rfl) rfl))
  refine Tr.q (QS.move rfl) rfl ?_
  apply Tr.orP
  · exact (rfl : _ = (3, 9, 12))
  · exact rfl
  · intro hF2; have hF2' := hF2
    try simp only [bs] at hF2'
    refine Tr.gq rfl rfl hF2 (QS.move rfl) rfl ?_
    refine Tr.gq rfl rfl hF2 (QS.eql rfl rfl) rfl ?_
    refine Tr.q (QS.pickF rfl hF2 rfl) rfl ?_
    refine Tr.nil (Tr.thenN ?_)
    exact Tr.endX (Sub.cons rfl (Sub.dropN 3 (by kernel_rfl) rfl))
  · intro hT2
    refine Tr.gskip rfl rfl hT2 rfl ?_
    refine Tr.gskip rfl rfl hT2 rfl ?_
    refine Tr.q (QS.pickT rfl hT2 rfl) rfl ?_
    refine Tr.nil (Tr.thenN ?_)
    exact Tr.endX (Sub.cons rfl (Sub.dropN 3 (by kernel_rfl) rfl))
  refine Tr.q (QS.assign rfl) rfl ?_
  refine Tr.nil ?_
  refine Tr.thenN ?_
  refine Tr.ret ?_
  refine Tr.ret1 Tryz.results136 rfl (fun w' hw => ?_)
  exact ⟨rfl, hw.below (Bg.le.refl _)⟩
set_option maxRecDepth 100000 in
set_option maxHeartbeats 2000000 in
theorem hasA_any (op : Int) (w : World) :
    Calls Tryz.prog 129 #[.int .i64 op] w (fun e w' => e = .returned (.bool (hasAP op)) ∧ Ext w w') := by
  refine enter Tryz.func129 rfl Tryz.ntmps129 rfl ?_
  refine Tr.seq ?_
  refine Tr.region ?_
  refine Tr.q (QS.assign rfl) rfl ?_
  refine Tr.nil ?_
  refine Tr.thenN ?_
  refine Tr.seq ?_
  refine Tr.region ?_
  refine Tr.q (QS.move rfl) rfl ?_
  refine Tr.q (QS.geq rfl rfl) rfl ?_
  refine Tr.q (QS.move rfl) rfl ?_
  apply Tr.andP
  · exact (rfl : _ = (3, 5, 8))
  · exact rfl
  · intro hT1; have hT1' := hT1
    try simp only [bs] at hT1'
    refine Tr.gq rfl rfl hT1 (QS.move rfl) rfl ?_
    refine Tr.gq rfl rfl hT1 (QS.leq rfl rfl) rfl ?_
    refine Tr.q (QS.pickT rfl hT1 rfl) rfl ?_
    refine Tr.nil (Tr.thenN ?_)
    exact Tr.endX (Sub.cons rfl (Sub.dropN 3 (by kernel_rfl) rfl))
  · intro hF1
    refine Tr.gskip rfl rfl hF1 rfl ?_
    refine Tr.gskip rfl rfl hF1 rfl ?_
    refine Tr.q (QS.pickF rfl hF1 rfl) rfl ?_
    refine Tr.nil (Tr.thenN ?_)
    exact Tr.endX (Sub.cons rfl (Sub.dropN 3 (by kernel_rfl) rfl))
  refine Tr.q (QS.move rfl) rfl ?_
  apply Tr.andP
  · exact (rfl : _ = (3, 9, 12))
  · exact rfl
  · intro hT2; have hT2' := hT2
    try simp only [bs] at hT2'
    refine Tr.gq rfl rfl hT2 (QS.move rfl) rfl ?_
    refine Tr.gq rfl rfl hT2 (QS.neq rfl rfl) rfl ?_
    refine Tr.q (QS.pickT rfl hT2 rfl) rfl ?_
    refine Tr.nil (Tr.thenN ?_)
    exact Tr.endX (Sub.cons rfl (Sub.dropN 3 (by kernel_rfl) rfl))
  · intro hF2
    refine Tr.gskip rfl rfl hF2 rfl ?_
    refine Tr.gskip rfl rfl hF2 rfl ?_
    refine Tr.q (QS.pickF rfl hF2 rfl) rfl ?_
    refine Tr.nil (Tr.thenN ?_)
    exact Tr.endX (Sub.cons rfl (Sub.dropN 3 (by kernel_rfl) rfl))
  refine Tr.q (QS.move rfl) rfl ?_
  apply Tr.andP
  · exact (rfl : _ = (3, 13, 16))
  · exact rfl
  · intro hT3; have hT3' := hT3
    try simp only [bs] at hT3'
    refine Tr.gq rfl rfl hT3 (QS.move rfl) rfl ?_
    refine Tr.gq rfl rfl hT3 (QS.neq rfl rfl) rfl ?_
    refine Tr.q (QS.pickT rfl hT3 rfl) rfl ?_
    refine Tr.nil (Tr.thenN ?_)
    exact Tr.endX (Sub.cons rfl (Sub.dropN 3 (by kernel_rfl) rfl))
  · intro hF3
    refine Tr.gskip rfl rfl hF3 rfl ?_
    refine Tr.gskip rfl rfl hF3 rfl ?_
    refine Tr.q (QS.pickF rfl hF3 rfl) rfl ?_
    refine Tr.nil (Tr.thenN ?_)
    exact Tr.endX (Sub.cons rfl (Sub.dropN 3 (by kernel_rfl) rfl))
  refine Tr.q (QS.assign rfl) rfl ?_
  refine Tr.nil ?_
  refine Tr.thenN ?_
  refine Tr.ret ?_
  refine Tr.ret1 Tryz.results129 rfl (fun w' hw => ?_)
  exact ⟨rfl, hw.below (Bg.le.refl _)⟩
set_option maxRecDepth 100000 in
set_option maxHeartbeats 2000000 in
theorem hasB_any (i : Ins) (w : World) :
    Calls Tryz.prog 131 #[.agg (encIns.enc i).toArray] w (fun e w' => e = .returned (.bool (hasBP i)) ∧ Ext w w') := by
  refine enter Tryz.func131 rfl Tryz.ntmps131 rfl ?_
  refine Tr.seq ?_
  refine Tr.region ?_
  refine Tr.box rfl rfl rfl (fun b1 => ?_)
  refine Tr.q (QS.assign rfl) rfl ?_
  refine Tr.nil ?_
  refine Tr.thenN ?_
  refine Tr.seq ?_
  refine Tr.region ?_
  refine Tr.q (QS.fieldAddr (off := 2) (ft := 3) rfl Tryz.underlying35 rfl rfl Tryz.sizeOf3 (by decide)) rfl ?_
  refine Tr.q (QS.lV rfl Tryz.isAgg3) rfl ?_
  refine Tr.q (QS.call rfl Tryz.call135 (fun w hw => isTwo_any i.op w)) rfl ?_
  refine Tr.q (QS.move rfl) rfl ?_
  apply Tr.andP
  · exact (rfl : _ = (4, 6, 10))
  · exact rfl
  · intro hT2; have hT2' := hT2
    try simp only [bs] at hT2'
    refine Tr.gq rfl rfl hT2 (QS.fieldAddr (off := 3) (ft := 3) rfl Tryz.underlying35 rfl rfl Tryz.sizeOf3 (by decide)) rfl ?_
    refine Tr.gq rfl rfl hT2 (QS.lV rfl Tryz.isAgg3) rfl ?_
    refine Tr.gq rfl rfl hT2 (QS.eql rfl rfl) rfl ?_
    refine Tr.q (QS.pickT rfl hT2 rfl) rfl ?_
    refine Tr.nil (Tr.thenN ?_)
    exact Tr.endX (Sub.cons rfl (Sub.dropN 4 (by kernel_rfl) rfl))
  · intro hF2
    refine Tr.gskip rfl rfl hF2 rfl ?_
    refine Tr.gskip rfl rfl hF2 rfl ?_
    refine Tr.gskip rfl rfl hF2 rfl ?_
    refine Tr.q (QS.pickF rfl hF2 rfl) rfl ?_
    refine Tr.nil (Tr.thenN ?_)
    exact Tr.endX (Sub.cons rfl (Sub.dropN 4 (by kernel_rfl) rfl))
  refine Tr.q (QS.move rfl) rfl ?_
  apply Tr.orP
  · exact (rfl : _ = (4, 11, 15))
  · exact rfl
  · intro hF3; have hF3' := hF3
    try simp only [bs] at hF3'
    refine Tr.gq rfl rfl hF3 (QS.fieldAddr (off := 2) (ft := 3) rfl Tryz.underlying35 rfl rfl Tryz.sizeOf3 (by decide)) rfl ?_
    refine Tr.gq rfl rfl hF3 (QS.lV rfl Tryz.isAgg3) rfl ?_
    refine Tr.gq rfl rfl hF3 (QS.call rfl Tryz.call136 (fun w hw => isAccess_any i.op w)) rfl ?_
    refine Tr.q (QS.pickF rfl hF3 rfl) rfl ?_
    refine Tr.nil (Tr.thenN ?_)
    exact Tr.endX (Sub.cons rfl (Sub.dropN 4 (by kernel_rfl) rfl))
  · intro hT3
    refine Tr.gskip rfl rfl hT3 rfl ?_
    refine Tr.gskip rfl rfl hT3 rfl ?_
    refine Tr.gskip rfl rfl hT3 rfl ?_
    refine Tr.q (QS.pickT rfl hT3 rfl) rfl ?_
    refine Tr.nil (Tr.thenN ?_)
    exact Tr.endX (Sub.cons rfl (Sub.dropN 4 (by kernel_rfl) rfl))
  refine Tr.q (QS.move rfl) rfl ?_
  apply Tr.orP
  · exact (rfl : _ = (4, 16, 20))
  · exact rfl
  · intro hF4; have hF4' := hF4
    try simp only [bs] at hF4'
    refine Tr.gq rfl rfl hF4 (QS.fieldAddr (off := 2) (ft := 3) rfl Tryz.underlying35 rfl rfl Tryz.sizeOf3 (by decide)) rfl ?_
    refine Tr.gq rfl rfl hF4 (QS.lV rfl Tryz.isAgg3) rfl ?_
    refine Tr.gq rfl rfl hF4 (QS.eql rfl rfl) rfl ?_
    refine Tr.q (QS.pickF rfl hF4 rfl) rfl ?_
    refine Tr.nil (Tr.thenN ?_)
    exact Tr.endX (Sub.cons rfl (Sub.dropN 4 (by kernel_rfl) rfl))
  · intro hT4
    refine Tr.gskip rfl rfl hT4 rfl ?_
    refine Tr.gskip rfl rfl hT4 rfl ?_
    refine Tr.gskip rfl rfl hT4 rfl ?_
    refine Tr.q (QS.pickT rfl hT4 rfl) rfl ?_
    refine Tr.nil (Tr.thenN ?_)
    exact Tr.endX (Sub.cons rfl (Sub.dropN 4 (by kernel_rfl) rfl))
  refine Tr.q (QS.assign rfl) rfl ?_
  refine Tr.nil ?_
  refine Tr.thenN ?_
  refine Tr.ret ?_
  refine Tr.ret1 Tryz.results131 rfl (fun w' hw => ?_)
  exact ⟨rfl, hw.below (Bg.le.refl _)⟩
set_option maxRecDepth 100000 in
set_option maxHeartbeats 2000000 in
theorem hasImm_any (i : Ins) (w : World) :
    Calls Tryz.prog 134 #[.agg (encIns.enc i).toArray] w (fun e w' => e = .returned (.bool (hasImmP i)) ∧ Ext w w') := by
  refine enter Tryz.func134 rfl Tryz.ntmps134 rfl ?_
  refine Tr.seq ?_
  refine Tr.region ?_
  refine Tr.box rfl rfl rfl (fun b1 => ?_)
  refine Tr.q (QS.assign rfl) rfl ?_
  refine Tr.nil ?_
  refine Tr.thenN ?_
  refine Tr.seq ?_
  refine Tr.region ?_
  refine Tr.q (QS.fieldAddr (off := 2) (ft := 3) rfl Tryz.underlying35 rfl rfl Tryz.sizeOf3 (by decide)) rfl ?_
  refine Tr.q (QS.lV rfl Tryz.isAgg3) rfl ?_
  refine Tr.q (QS.call rfl Tryz.call135 (fun w hw => isTwo_any i.op w)) rfl ?_
  refine Tr.q (QS.move rfl) rfl ?_
  apply Tr.andP
  · exact (rfl : _ = (4, 6, 10))
  · exact rfl
  · intro hT2; have hT2' := hT2
    try simp only [bs] at hT2'
    refine Tr.gq rfl rfl hT2 (QS.fieldAddr (off := 3) (ft := 3) rfl Tryz.underlying35 rfl rfl Tryz.sizeOf3 (by decide)) rfl ?_
    refine Tr.gq rfl rfl hT2 (QS.lV rfl Tryz.isAgg3) rfl ?_
    refine Tr.gq rfl rfl hT2 (QS.neq rfl rfl) rfl ?_
    refine Tr.q (QS.pickT rfl hT2 rfl) rfl ?_
    refine Tr.nil (Tr.thenN ?_)
    exact Tr.endX (Sub.cons rfl (Sub.dropN 4 (by kernel_rfl) rfl))
  · intro hF2
    refine Tr.gskip rfl rfl hF2 rfl ?_
    refine Tr.gskip rfl rfl hF2 rfl ?_
    refine Tr.gskip rfl rfl hF2 rfl ?_
    refine Tr.q (QS.pickF rfl hF2 rfl) rfl ?_
    refine Tr.nil (Tr.thenN ?_)
    exact Tr.endX (Sub.cons rfl (Sub.dropN 4 (by kernel_rfl) rfl))
  refine Tr.q (QS.move rfl) rfl ?_
  apply Tr.orP
  · exact (rfl : _ = (4, 11, 15))
  · exact rfl
  · intro hF3; have hF3' := hF3
    try simp only [bs] at hF3'
    refine Tr.gq rfl rfl hF3 (QS.fieldAddr (off := 2) (ft := 3) rfl Tryz.underlying35 rfl rfl Tryz.sizeOf3 (by decide)) rfl ?_
    refine Tr.gq rfl rfl hF3 (QS.lV rfl Tryz.isAgg3) rfl ?_
    refine Tr.gq rfl rfl hF3 (QS.call rfl Tryz.call136 (fun w hw => isAccess_any i.op w)) rfl ?_
    refine Tr.q (QS.pickF rfl hF3 rfl) rfl ?_
    refine Tr.nil (Tr.thenN ?_)
    exact Tr.endX (Sub.cons rfl (Sub.dropN 4 (by kernel_rfl) rfl))
  · intro hT3
    refine Tr.gskip rfl rfl hT3 rfl ?_
    refine Tr.gskip rfl rfl hT3 rfl ?_
    refine Tr.gskip rfl rfl hT3 rfl ?_
    refine Tr.q (QS.pickT rfl hT3 rfl) rfl ?_
    refine Tr.nil (Tr.thenN ?_)
    exact Tr.endX (Sub.cons rfl (Sub.dropN 4 (by kernel_rfl) rfl))
  refine Tr.q (QS.move rfl) rfl ?_
  apply Tr.orP
  · exact (rfl : _ = (4, 16, 20))
  · exact rfl
  · intro hF4; have hF4' := hF4
    try simp only [bs] at hF4'
    refine Tr.gq rfl rfl hF4 (QS.fieldAddr (off := 2) (ft := 3) rfl Tryz.underlying35 rfl rfl Tryz.sizeOf3 (by decide)) rfl ?_
    refine Tr.gq rfl rfl hF4 (QS.lV rfl Tryz.isAgg3) rfl ?_
    refine Tr.gq rfl rfl hF4 (QS.eql rfl rfl) rfl ?_
    refine Tr.q (QS.pickF rfl hF4 rfl) rfl ?_
    refine Tr.nil (Tr.thenN ?_)
    exact Tr.endX (Sub.cons rfl (Sub.dropN 4 (by kernel_rfl) rfl))
  · intro hT4
    refine Tr.gskip rfl rfl hT4 rfl ?_
    refine Tr.gskip rfl rfl hT4 rfl ?_
    refine Tr.gskip rfl rfl hT4 rfl ?_
    refine Tr.q (QS.pickT rfl hT4 rfl) rfl ?_
    refine Tr.nil (Tr.thenN ?_)
    exact Tr.endX (Sub.cons rfl (Sub.dropN 4 (by kernel_rfl) rfl))
  refine Tr.q (QS.move rfl) rfl ?_
  apply Tr.orP
  · exact (rfl : _ = (4, 21, 25))
  · exact rfl
  · intro hF5; have hF5' := hF5
    try simp only [bs] at hF5'
    refine Tr.gq rfl rfl hF5 (QS.fieldAddr (off := 2) (ft := 3) rfl Tryz.underlying35 rfl rfl Tryz.sizeOf3 (by decide)) rfl ?_
    refine Tr.gq rfl rfl hF5 (QS.lV rfl Tryz.isAgg3) rfl ?_
    refine Tr.gq rfl rfl hF5 (QS.eql rfl rfl) rfl ?_
    refine Tr.q (QS.pickF rfl hF5 rfl) rfl ?_
    refine Tr.nil (Tr.thenN ?_)
    exact Tr.endX (Sub.cons rfl (Sub.dropN 4 (by kernel_rfl) rfl))
  · intro hT5
    refine Tr.gskip rfl rfl hT5 rfl ?_
    refine Tr.gskip rfl rfl hT5 rfl ?_
    refine Tr.gskip rfl rfl hT5 rfl ?_
    refine Tr.q (QS.pickT rfl hT5 rfl) rfl ?_
    refine Tr.nil (Tr.thenN ?_)
    exact Tr.endX (Sub.cons rfl (Sub.dropN 4 (by kernel_rfl) rfl))
  refine Tr.q (QS.move rfl) rfl ?_
  apply Tr.orP
  · exact (rfl : _ = (4, 26, 30))
  · exact rfl
  · intro hF6; have hF6' := hF6
    try simp only [bs] at hF6'
    refine Tr.gq rfl rfl hF6 (QS.fieldAddr (off := 2) (ft := 3) rfl Tryz.underlying35 rfl rfl Tryz.sizeOf3 (by decide)) rfl ?_
    refine Tr.gq rfl rfl hF6 (QS.lV rfl Tryz.isAgg3) rfl ?_
    refine Tr.gq rfl rfl hF6 (QS.eql rfl rfl) rfl ?_
    refine Tr.q (QS.pickF rfl hF6 rfl) rfl ?_
    refine Tr.nil (Tr.thenN ?_)
    exact Tr.endX (Sub.cons rfl (Sub.dropN 4 (by kernel_rfl) rfl))
  · intro hT6
    refine Tr.gskip rfl rfl hT6 rfl ?_
    refine Tr.gskip rfl rfl hT6 rfl ?_
    refine Tr.gskip rfl rfl hT6 rfl ?_
    refine Tr.q (QS.pickT rfl hT6 rfl) rfl ?_
    refine Tr.nil (Tr.thenN ?_)
    exact Tr.endX (Sub.cons rfl (Sub.dropN 4 (by kernel_rfl) rfl))
  refine Tr.q (QS.move rfl) rfl ?_
  apply Tr.orP
  · exact (rfl : _ = (4, 31, 35))
  · exact rfl
  · intro hF7; have hF7' := hF7
    try simp only [bs] at hF7'
    refine Tr.gq rfl rfl hF7 (QS.fieldAddr (off := 2) (ft := 3) rfl Tryz.underlying35 rfl rfl Tryz.sizeOf3 (by decide)) rfl ?_
    refine Tr.gq rfl rfl hF7 (QS.lV rfl Tryz.isAgg3) rfl ?_
    refine Tr.gq rfl rfl hF7 (QS.eql rfl rfl) rfl ?_
    refine Tr.q (QS.pickF rfl hF7 rfl) rfl ?_
    refine Tr.nil (Tr.thenN ?_)
    exact Tr.endX (Sub.cons rfl (Sub.dropN 4 (by kernel_rfl) rfl))
  · intro hT7
    refine Tr.gskip rfl rfl hT7 rfl ?_
    refine Tr.gskip rfl rfl hT7 rfl ?_
    refine Tr.gskip rfl rfl hT7 rfl ?_
    refine Tr.q (QS.pickT rfl hT7 rfl) rfl ?_
    refine Tr.nil (Tr.thenN ?_)
    exact Tr.endX (Sub.cons rfl (Sub.dropN 4 (by kernel_rfl) rfl))
  refine Tr.q (QS.assign rfl) rfl ?_
  refine Tr.nil ?_
  refine Tr.thenN ?_
  refine Tr.ret ?_
  refine Tr.ret1 Tryz.results134 rfl (fun w' hw => ?_)
  exact ⟨rfl, hw.below (Bg.le.refl _)⟩
set_option maxRecDepth 100000 in
set_option maxHeartbeats 2000000 in
theorem hasCc_any (op : Int) (w : World) :
    Calls Tryz.prog 132 #[.int .i64 op] w (fun e w' => e = .returned (.bool (hasCcP op)) ∧ Ext w w') := by
  refine enter Tryz.func132 rfl Tryz.ntmps132 rfl ?_
  refine Tr.seq ?_
  refine Tr.region ?_
  refine Tr.q (QS.assign rfl) rfl ?_
  refine Tr.nil ?_
  refine Tr.thenN ?_
  refine Tr.seq ?_
  refine Tr.region ?_
  refine Tr.q (QS.move rfl) rfl ?_
  refine Tr.q (QS.eql rfl rfl) rfl ?_
  refine Tr.q (QS.move rfl) rfl ?_
  apply Tr.orP
  · exact (rfl : _ = (3, 5, 8))
  · exact rfl
  · intro hF1; have hF1' := hF1
    try simp only [bs] at hF1'
    refine Tr.gq rfl rfl hF1 (QS.move rfl) rfl ?_
    refine Tr.gq rfl rfl hF1 (QS.eql rfl rfl) rfl ?_
    refine Tr.q (QS.pickF rfl hF1 rfl) rfl ?_
    refine Tr.nil (Tr.thenN ?_)
    exact Tr.endX (Sub.cons rfl (Sub.dropN 3 (by kernel_rfl) rfl))
  · intro hT1
    refine Tr.gskip rfl rfl hT1 rfl ?_
    refine Tr.gskip rfl rfl hT1 rfl ?_
    refine Tr.q (QS.pickT rfl hT1 rfl) rfl ?_
    refine Tr.nil (Tr.thenN ?_)
    exact Tr.endX (Sub.cons rfl (Sub.dropN 3 (by kernel_rfl) rfl))
  refine Tr.q (QS.assign rfl) rfl ?_
  refine Tr.nil ?_
  refine Tr.thenN ?_
  refine Tr.ret ?_
  refine Tr.ret1 Tryz.results132 rfl (fun w' hw => ?_)
  exact ⟨rfl, hw.below (Bg.le.refl _)⟩
set_option maxRecDepth 100000 in
set_option maxHeartbeats 2000000 in
theorem formValid_any (i : Ins) (w : World) :
    Calls Tryz.prog 127 #[.agg (encIns.enc i).toArray] w (fun e w' => e = .returned (.bool (formValidP i)) ∧ Ext w w') := by
  refine enter Tryz.func127 rfl Tryz.ntmps127 rfl ?_
  refine Tr.seq ?_
  refine Tr.region ?_
  refine Tr.box rfl rfl rfl (fun b1 => ?_)
  refine Tr.q (QS.assign rfl) rfl ?_
  refine Tr.nil ?_
  refine Tr.thenN ?_
  refine Tr.seq ?_
  refine Tr.seq ?_
  refine Tr.region ?_
  refine Tr.q (QS.fieldAddr (off := 2) (ft := 3) rfl Tryz.underlying35 rfl rfl Tryz.sizeOf3 (by decide)) rfl ?_
  refine Tr.q (QS.lV rfl Tryz.isAgg3) rfl ?_
  refine Tr.q (QS.call rfl Tryz.call135 (fun w hw => isTwo_any i.op w)) rfl ?_
  refine Tr.nil ?_
  refine Tr.thenN ?_
  refine Tr.cond rfl (fun h2 => ?_) (fun h2 => ?_)
  · try simp only [bs] at h2
    refine Tr.seq ?_
    refine Tr.region ?_
    refine Tr.q (QS.fieldAddr (off := 3) (ft := 3) rfl Tryz.underlying35 rfl rfl Tryz.sizeOf3 (by decide)) rfl ?_
    refine Tr.q (QS.lV rfl Tryz.isAgg3) rfl ?_
    refine Tr.q (QS.geq rfl rfl) rfl ?_
    refine Tr.q (QS.move rfl) rfl ?_
    apply Tr.andP
    · exact (rfl : _ = (4, 9, 13))
    · exact rfl
    · intro hT3; have hT3' := hT3
      try simp only [bs] at hT3'
      refine Tr.gq rfl rfl hT3 (QS.fieldAddr (off := 3) (ft := 3) rfl Tryz.underlying35 rfl rfl Tryz.sizeOf3 (by decide)) rfl ?_
      refine Tr.gq rfl rfl hT3 (QS.lV rfl Tryz.isAgg3) rfl ?_
      refine Tr.gq rfl rfl hT3 (QS.leq rfl rfl) rfl ?_
      refine Tr.q (QS.pickT rfl hT3 rfl) rfl ?_
      refine Tr.nil (Tr.thenN ?_)
      exact Tr.endX (Sub.cons rfl (Sub.dropN 4 (by kernel_rfl) rfl))
    · intro hF3
      refine Tr.gskip rfl rfl hF3 rfl ?_
      refine Tr.gskip rfl rfl hF3 rfl ?_
      refine Tr.gskip rfl rfl hF3 rfl ?_
      refine Tr.q (QS.pickF rfl hF3 rfl) rfl ?_
      refine Tr.nil (Tr.thenN ?_)
      exact Tr.endX (Sub.cons rfl (Sub.dropN 4 (by kernel_rfl) rfl))
    refine Tr.q (QS.assign rfl) rfl ?_
    refine Tr.nil ?_
    refine Tr.thenN ?_
    refine Tr.ret ?_
    refine Tr.thenR ?_
    refine Tr.ret1 Tryz.results127 rfl (fun w' hw => ?_)
    exact ⟨by clear hw; unfold formValidP; (repeat (first | rw [if_pos (by first | assumption | omega | grind)] | rw [if_neg (by first | assumption | omega | grind)])) <;> rfl, hw.below (Bg.le.refl _)⟩
  · try simp only [bs] at h2
    refine Tr.skip ?_
    refine Tr.thenN ?_
    refine Tr.seq ?_
    refine Tr.seq ?_
    refine Tr.region ?_
    refine Tr.q (QS.fieldAddr (off := 2) (ft := 3) rfl Tryz.underlying35 rfl rfl Tryz.sizeOf3 (by decide)) rfl ?_
    refine Tr.q (QS.lV rfl Tryz.isAgg3) rfl ?_
    refine Tr.q (QS.eql rfl rfl) rfl ?_
    refine Tr.nil ?_
    refine Tr.thenN ?_
    refine Tr.cond rfl (fun h4 => ?_) (fun h4 => ?_)
    · try simp only [bs] at h4
      refine Tr.seq ?_
      refine Tr.region ?_
      refine Tr.q (QS.fieldAddr (off := 3) (ft := 3) rfl Tryz.underlying35 rfl rfl Tryz.sizeOf3 (by decide)) rfl ?_
      refine Tr.q (QS.lV rfl Tryz.isAgg3) rfl ?_
      refine Tr.q (QS.eql rfl rfl) rfl ?_
      refine Tr.q (QS.move rfl) rfl ?_
      apply Tr.orP
      · exact (rfl : _ = (4, 20, 24))
      · exact rfl
      · intro hF5; have hF5' := hF5
        try simp only [bs] at hF5'
        refine Tr.gq rfl rfl hF5 (QS.fieldAddr (off := 3) (ft := 3) rfl Tryz.underlying35 rfl rfl Tryz.sizeOf3 (by decide)) rfl ?_
        refine Tr.gq rfl rfl hF5 (QS.lV rfl Tryz.isAgg3) rfl ?_
        refine Tr.gq rfl rfl hF5 (QS.eql rfl rfl) rfl ?_
        refine Tr.q (QS.pickF rfl hF5 rfl) rfl ?_
        refine Tr.nil (Tr.thenN ?_)
        exact Tr.endX (Sub.cons rfl (Sub.dropN 4 (by kernel_rfl) rfl))
      · intro hT5
        refine Tr.gskip rfl rfl hT5 rfl ?_
        refine Tr.gskip rfl rfl hT5 rfl ?_
        refine Tr.gskip rfl rfl hT5 rfl ?_
        refine Tr.q (QS.pickT rfl hT5 rfl) rfl ?_
        refine Tr.nil (Tr.thenN ?_)
        exact Tr.endX (Sub.cons rfl (Sub.dropN 4 (by kernel_rfl) rfl))
      refine Tr.q (QS.assign rfl) rfl ?_
      refine Tr.nil ?_
      refine Tr.thenN ?_
      refine Tr.ret ?_
      refine Tr.thenR ?_
      refine Tr.ret1 Tryz.results127 rfl (fun w' hw => ?_)
      exact ⟨by clear hw; unfold formValidP; (repeat (first | rw [if_pos (by first | assumption | omega | grind)] | rw [if_neg (by first | assumption | omega | grind)])) <;> rfl, hw.below (Bg.le.refl _)⟩
    · try simp only [bs] at h4
      refine Tr.skip ?_
      refine Tr.thenN ?_
      refine Tr.seq ?_
      refine Tr.region ?_
      refine Tr.q (QS.fieldAddr (off := 3) (ft := 3) rfl Tryz.underlying35 rfl rfl Tryz.sizeOf3 (by decide)) rfl ?_
      refine Tr.q (QS.lV rfl Tryz.isAgg3) rfl ?_
      refine Tr.q (QS.eql rfl rfl) rfl ?_
      refine Tr.q (QS.assign rfl) rfl ?_
      refine Tr.nil ?_
      refine Tr.thenN ?_
      refine Tr.ret ?_
      refine Tr.ret1 Tryz.results127 rfl (fun w' hw => ?_)
      exact ⟨by clear hw; unfold formValidP; (repeat (first | rw [if_pos (by first | assumption | omega | grind)] | rw [if_neg (by first | assumption | omega | grind)])) <;> rfl, hw.below (Bg.le.refl _)⟩
set_option maxRecDepth 100000 in
set_option maxHeartbeats 2000000 in
theorem widthValid_any (i : Ins) (w : World) :
    Calls Tryz.prog 128 #[.agg (encIns.enc i).toArray] w (fun e w' => e = .returned (.bool (widthValidP i)) ∧ Ext w w') := by
  refine enter Tryz.func128 rfl Tryz.ntmps128 rfl ?_
  refine Tr.seq ?_
  refine Tr.region ?_
  refine Tr.box rfl rfl rfl (fun b1 => ?_)
  refine Tr.q (QS.assign rfl) rfl ?_
  refine Tr.nil ?_
  refine Tr.thenN ?_
  refine Tr.seq ?_
  refine Tr.seq ?_
  refine Tr.region ?_
  refine Tr.q (QS.fieldAddr (off := 2) (ft := 3) rfl Tryz.underlying35 rfl rfl Tryz.sizeOf3 (by decide)) rfl ?_
  refine Tr.q (QS.lV rfl Tryz.isAgg3) rfl ?_
  refine Tr.q (QS.eql rfl rfl) rfl ?_
  refine Tr.nil ?_
  refine Tr.thenN ?_
  refine Tr.cond rfl (fun h2 => ?_) (fun h2 => ?_)
  · try simp only [bs] at h2
    refine Tr.seq ?_
    refine Tr.region ?_
    refine Tr.q (QS.fieldAddr (off := 4) (ft := 3) rfl Tryz.underlying35 rfl rfl Tryz.sizeOf3 (by decide)) rfl ?_
    refine Tr.q (QS.lV rfl Tryz.isAgg3) rfl ?_
    refine Tr.q (QS.eql rfl rfl) rfl ?_
    refine Tr.q (QS.move rfl) rfl ?_
    apply Tr.orP
    · exact (rfl : _ = (4, 9, 13))
    · exact rfl
    · intro hF3; have hF3' := hF3
      try simp only [bs] at hF3'
      refine Tr.gq rfl rfl hF3 (QS.fieldAddr (off := 4) (ft := 3) rfl Tryz.underlying35 rfl rfl Tryz.sizeOf3 (by decide)) rfl ?_
      refine Tr.gq rfl rfl hF3 (QS.lV rfl Tryz.isAgg3) rfl ?_
      refine Tr.gq rfl rfl hF3 (QS.eql rfl rfl) rfl ?_
      refine Tr.q (QS.pickF rfl hF3 rfl) rfl ?_
      refine Tr.nil (Tr.thenN ?_)
      exact Tr.endX (Sub.cons rfl (Sub.dropN 4 (by kernel_rfl) rfl))
    · intro hT3
      refine Tr.gskip rfl rfl hT3 rfl ?_
      refine Tr.gskip rfl rfl hT3 rfl ?_
      refine Tr.gskip rfl rfl hT3 rfl ?_
      refine Tr.q (QS.pickT rfl hT3 rfl) rfl ?_
      refine Tr.nil (Tr.thenN ?_)
      exact Tr.endX (Sub.cons rfl (Sub.dropN 4 (by kernel_rfl) rfl))
    refine Tr.q (QS.assign rfl) rfl ?_
    refine Tr.nil ?_
    refine Tr.thenN ?_
    refine Tr.ret ?_
    refine Tr.thenR ?_
    refine Tr.ret1 Tryz.results128 rfl (fun w' hw => ?_)
    exact ⟨by clear hw; unfold widthValidP; (repeat (first | rw [if_pos (by first | assumption | omega | grind)] | rw [if_neg (by first | assumption | omega | grind)])) <;> rfl, hw.below (Bg.le.refl _)⟩
  · try simp only [bs] at h2
    refine Tr.skip ?_
    refine Tr.thenN ?_
    refine Tr.seq ?_
    refine Tr.seq ?_
    refine Tr.region ?_
    refine Tr.q (QS.fieldAddr (off := 2) (ft := 3) rfl Tryz.underlying35 rfl rfl Tryz.sizeOf3 (by decide)) rfl ?_
    refine Tr.q (QS.lV rfl Tryz.isAgg3) rfl ?_
    refine Tr.q (QS.call rfl Tryz.call136 (fun w hw => isAccess_any i.op w)) rfl ?_
    refine Tr.nil ?_
    refine Tr.thenN ?_
    refine Tr.cond rfl (fun h4 => ?_) (fun h4 => ?_)
    · try simp only [bs] at h4
      refine Tr.seq ?_
      refine Tr.region ?_
      refine Tr.q (QS.fieldAddr (off := 4) (ft := 3) rfl Tryz.underlying35 rfl rfl Tryz.sizeOf3 (by decide)) rfl ?_
      refine Tr.q (QS.lV rfl Tryz.isAgg3) rfl ?_
      refine Tr.q (QS.eql rfl rfl) rfl ?_
      refine Tr.q (QS.move rfl) rfl ?_
      apply Tr.orP
      · exact (rfl : _ = (4, 20, 24))
      · exact rfl
      · intro hF5; have hF5' := hF5
        try simp only [bs] at hF5'
        refine Tr.gq rfl rfl hF5 (QS.fieldAddr (off := 4) (ft := 3) rfl Tryz.underlying35 rfl rfl Tryz.sizeOf3 (by decide)) rfl ?_
        refine Tr.gq rfl rfl hF5 (QS.lV rfl Tryz.isAgg3) rfl ?_
        refine Tr.gq rfl rfl hF5 (QS.eql rfl rfl) rfl ?_
        refine Tr.q (QS.pickF rfl hF5 rfl) rfl ?_
        refine Tr.nil (Tr.thenN ?_)
        exact Tr.endX (Sub.cons rfl (Sub.dropN 4 (by kernel_rfl) rfl))
      · intro hT5
        refine Tr.gskip rfl rfl hT5 rfl ?_
        refine Tr.gskip rfl rfl hT5 rfl ?_
        refine Tr.gskip rfl rfl hT5 rfl ?_
        refine Tr.q (QS.pickT rfl hT5 rfl) rfl ?_
        refine Tr.nil (Tr.thenN ?_)
        exact Tr.endX (Sub.cons rfl (Sub.dropN 4 (by kernel_rfl) rfl))
      refine Tr.q (QS.move rfl) rfl ?_
      apply Tr.orP
      · exact (rfl : _ = (4, 25, 29))
      · exact rfl
      · intro hF6; have hF6' := hF6
        try simp only [bs] at hF6'
        refine Tr.gq rfl rfl hF6 (QS.fieldAddr (off := 4) (ft := 3) rfl Tryz.underlying35 rfl rfl Tryz.sizeOf3 (by decide)) rfl ?_
        refine Tr.gq rfl rfl hF6 (QS.lV rfl Tryz.isAgg3) rfl ?_
        refine Tr.gq rfl rfl hF6 (QS.eql rfl rfl) rfl ?_
        refine Tr.q (QS.pickF rfl hF6 rfl) rfl ?_
        refine Tr.nil (Tr.thenN ?_)
        exact Tr.endX (Sub.cons rfl (Sub.dropN 4 (by kernel_rfl) rfl))
      · intro hT6
        refine Tr.gskip rfl rfl hT6 rfl ?_
        refine Tr.gskip rfl rfl hT6 rfl ?_
        refine Tr.gskip rfl rfl hT6 rfl ?_
        refine Tr.q (QS.pickT rfl hT6 rfl) rfl ?_
        refine Tr.nil (Tr.thenN ?_)
        exact Tr.endX (Sub.cons rfl (Sub.dropN 4 (by kernel_rfl) rfl))
      refine Tr.q (QS.assign rfl) rfl ?_
      refine Tr.nil ?_
      refine Tr.thenN ?_
      refine Tr.ret ?_
      refine Tr.thenR ?_
      refine Tr.ret1 Tryz.results128 rfl (fun w' hw => ?_)
      exact ⟨by clear hw; unfold widthValidP; (repeat (first | rw [if_pos (by first | assumption | omega | grind)] | rw [if_neg (by first | assumption | omega | grind)])) <;> rfl, hw.below (Bg.le.refl _)⟩
    · try simp only [bs] at h4
      refine Tr.skip ?_
      refine Tr.thenN ?_
      refine Tr.seq ?_
      refine Tr.region ?_
      refine Tr.q (QS.fieldAddr (off := 4) (ft := 3) rfl Tryz.underlying35 rfl rfl Tryz.sizeOf3 (by decide)) rfl ?_
      refine Tr.q (QS.lV rfl Tryz.isAgg3) rfl ?_
      refine Tr.q (QS.eql rfl rfl) rfl ?_
      refine Tr.q (QS.assign rfl) rfl ?_
      refine Tr.nil ?_
      refine Tr.thenN ?_
      refine Tr.ret ?_
      refine Tr.ret1 Tryz.results128 rfl (fun w' hw => ?_)
      exact ⟨by clear hw; unfold widthValidP; (repeat (first | rw [if_pos (by first | assumption | omega | grind)] | rw [if_neg (by first | assumption | omega | grind)])) <;> rfl, hw.below (Bg.le.refl _)⟩
set_option maxRecDepth 100000 in
set_option maxHeartbeats 2000000 in
theorem refCheck_any (i : Ins) (w : World) :
    Calls Tryz.prog 113 #[.agg (encIns.enc i).toArray] w (fun e w' => e = .returned (.int .i64 (refErrP i)) ∧ Ext w w') := by
  refine enter Tryz.func113 rfl Tryz.ntmps113 rfl ?_
  refine Tr.seq ?_
  refine Tr.region ?_
  refine Tr.box rfl rfl rfl (fun b1 => ?_)
  refine Tr.q (QS.assign rfl) rfl ?_
  refine Tr.nil ?_
  refine Tr.thenN ?_
  refine Tr.seq ?_
  refine Tr.seq ?_
  refine Tr.region ?_
  refine Tr.q (QS.fieldAddr (off := 2) (ft := 3) rfl Tryz.underlying35 rfl rfl Tryz.sizeOf3 (by decide)) rfl ?_
  refine Tr.q (QS.lV rfl Tryz.isAgg3) rfl ?_
  refine Tr.q (QS.lss rfl rfl) rfl ?_
  refine Tr.q (QS.move rfl) rfl ?_
  apply Tr.orP
  · exact (rfl : _ = (4, 6, 10))
  · exact rfl
  · intro hF2; have hF2' := hF2
    try simp only [bs] at hF2'
    refine Tr.gq rfl rfl hF2 (QS.fieldAddr (off := 2) (ft := 3) rfl Tryz.underlying35 rfl rfl Tryz.sizeOf3 (by decide)) rfl ?_
    refine Tr.gq rfl rfl hF2 (QS.lV rfl Tryz.isAgg3) rfl ?_
    refine Tr.gq rfl rfl hF2 (QS.gtr rfl rfl) rfl ?_
    refine Tr.q (QS.pickF rfl hF2 rfl) rfl ?_
    refine Tr.nil (Tr.thenN ?_)
    exact Tr.endX (Sub.cons rfl (Sub.dropN 4 (by kernel_rfl) rfl))
  · intro hT2
    refine Tr.gskip rfl rfl hT2 rfl ?_
    refine Tr.gskip rfl rfl hT2 rfl ?_
    refine Tr.gskip rfl rfl hT2 rfl ?_
    refine Tr.q (QS.pickT rfl hT2 rfl) rfl ?_
    refine Tr.nil (Tr.thenN ?_)
    exact Tr.endX (Sub.cons rfl (Sub.dropN 4 (by kernel_rfl) rfl))
  refine Tr.q (QS.move rfl) rfl ?_
  apply Tr.orP
  · exact (rfl : _ = (4, 11, 15))
  · exact rfl
  · intro hF3; have hF3' := hF3
    try simp only [bs] at hF3'
    refine Tr.gq rfl rfl hF3 (QS.lW rfl Tryz.isAgg35 Tryz.sizeOf35) rfl ?_
    refine Tr.gq rfl rfl hF3 (QS.call rfl Tryz.call127 (fun w hw => formValid_any i w)) rfl ?_
    refine Tr.gq rfl rfl hF3 (QS.not rfl) rfl ?_
    refine Tr.q (QS.pickF rfl hF3 rfl) rfl ?_
    refine Tr.nil (Tr.thenN ?_)
    exact Tr.endX (Sub.cons rfl (Sub.dropN 4 (by kernel_rfl) rfl))
  · intro hT3
    refine Tr.gskip rfl rfl hT3 rfl ?_
    refine Tr.gskip rfl rfl hT3 rfl ?_
    refine Tr.gskip rfl rfl hT3 rfl ?_
    refine Tr.q (QS.pickT rfl hT3 rfl) rfl ?_
    refine Tr.nil (Tr.thenN ?_)
    exact Tr.endX (Sub.cons rfl (Sub.dropN 4 (by kernel_rfl) rfl))
  refine Tr.q (QS.move rfl) rfl ?_
  apply Tr.orP
  · exact (rfl : _ = (4, 16, 20))
  · exact rfl
  · intro hF4; have hF4' := hF4
    try simp only [bs] at hF4'
    refine Tr.gq rfl rfl hF4 (QS.lW rfl Tryz.isAgg35 Tryz.sizeOf35) rfl ?_
    refine Tr.gq rfl rfl hF4 (QS.call rfl Tryz.call128 (fun w hw => widthValid_any i w)) rfl ?_
    refine Tr.gq rfl rfl hF4 (QS.not rfl) rfl ?_
    refine Tr.q (QS.pickF rfl hF4 rfl) rfl ?_
    refine Tr.nil (Tr.thenN ?_)
    exact Tr.endX (Sub.cons rfl (Sub.dropN 4 (by kernel_rfl) rfl))
  · intro hT4
    refine Tr.gskip rfl rfl hT4 rfl ?_
    refine Tr.gskip rfl rfl hT4 rfl ?_
    refine Tr.gskip rfl rfl hT4 rfl ?_
    refine Tr.q (QS.pickT rfl hT4 rfl) rfl ?_
    refine Tr.nil (Tr.thenN ?_)
    exact Tr.endX (Sub.cons rfl (Sub.dropN 4 (by kernel_rfl) rfl))
  refine Tr.nil ?_
  refine Tr.thenN ?_
  refine Tr.cond rfl (fun h5 => ?_) (fun h5 => ?_)
  · try simp only [bs] at h5
    refine Tr.seq ?_
    refine Tr.region ?_
    refine Tr.q (QS.assign rfl) rfl ?_
    refine Tr.nil ?_
    refine Tr.thenN ?_
    refine Tr.ret ?_
    refine Tr.thenR ?_
    refine Tr.ret1 Tryz.results113 rfl (fun w' hw => ?_)
    exact ⟨by clear hw; unfold refErrP; (repeat (first | rw [if_pos (by first | assumption | omega | grind)] | rw [if_neg (by first | assumption | omega | grind)])) <;> rfl, hw.below (Bg.le.refl _)⟩
  · try simp only [bs] at h5
    refine Tr.skip ?_
    refine Tr.thenN ?_
    refine Tr.seq ?_
    refine Tr.seq ?_
    refine Tr.region ?_
    refine Tr.q (QS.fieldAddr (off := 2) (ft := 3) rfl Tryz.underlying35 rfl rfl Tryz.sizeOf3 (by decide)) rfl ?_
    refine Tr.q (QS.lV rfl Tryz.isAgg3) rfl ?_
    refine Tr.q (QS.call rfl Tryz.call129 (fun w hw => hasA_any i.op w)) rfl ?_
    refine Tr.q (QS.move rfl) rfl ?_
    apply Tr.andP
    · exact (rfl : _ = (5, 24, 29))
    · exact rfl
    · intro hT6; have hT6' := hT6
      try simp only [bs] at hT6'
      refine Tr.gq rfl rfl hT6 (QS.fieldAddr (off := 6) (ft := 3) rfl Tryz.underlying35 rfl rfl Tryz.sizeOf3 (by decide)) rfl ?_
      refine Tr.gq rfl rfl hT6 (QS.lV rfl Tryz.isAgg3) rfl ?_
      refine Tr.gq rfl rfl hT6 (QS.call rfl Tryz.call130 (fun w hw => isReg_any i.a w)) rfl ?_
      refine Tr.gq rfl rfl hT6 (QS.not rfl) rfl ?_
      refine Tr.q (QS.pickT rfl hT6 rfl) rfl ?_
      refine Tr.nil (Tr.thenN ?_)
      exact Tr.endX (Sub.cons rfl (Sub.dropN 5 (by kernel_rfl) rfl))
    · intro hF6
      refine Tr.gskip rfl rfl hF6 rfl ?_
      refine Tr.gskip rfl rfl hF6 rfl ?_
      refine Tr.gskip rfl rfl hF6 rfl ?_
      refine Tr.gskip rfl rfl hF6 rfl ?_
      refine Tr.q (QS.pickF rfl hF6 rfl) rfl ?_
      refine Tr.nil (Tr.thenN ?_)
      exact Tr.endX (Sub.cons rfl (Sub.dropN 5 (by kernel_rfl) rfl))
    refine Tr.q (QS.move rfl) rfl ?_
    apply Tr.orP
    · exact (rfl : _ = (10, 30, 40))
    · exact rfl
    · intro hF7; have hF7' := hF7
      try simp only [bs] at hF7'
      refine Tr.gq rfl rfl hF7 (QS.fieldAddr (off := 2) (ft := 3) rfl Tryz.underlying35 rfl rfl Tryz.sizeOf3 (by decide)) rfl ?_
      refine Tr.gq rfl rfl hF7 (QS.lV rfl Tryz.isAgg3) rfl ?_
      refine Tr.gq rfl rfl hF7 (QS.call rfl Tryz.call129 (fun w hw => hasA_any i.op w)) rfl ?_
      refine Tr.gq rfl rfl hF7 (QS.not rfl) rfl ?_
      refine Tr.gq rfl rfl hF7 (QS.move rfl) rfl ?_
      apply Tr.andP
      · exact (rfl : _ = (4, 35, 39))
      · exact rfl
      · intro hT8; have hT8' := hT8
        try simp only [bs] at hT8'
        refine Tr.gq rfl rfl hT8 (QS.fieldAddr (off := 6) (ft := 3) rfl Tryz.underlying35 rfl rfl Tryz.sizeOf3 (by decide)) rfl ?_
        refine Tr.gq rfl rfl hT8 (QS.lV rfl Tryz.isAgg3) rfl ?_
        refine Tr.gq rfl rfl hT8 (QS.neq rfl rfl) rfl ?_
        refine Tr.gq rfl rfl hF7 (QS.pickT rfl hT8 rfl) rfl ?_
        refine Tr.nil (Tr.thenN ?_)
        exact Tr.endX (Sub.cons rfl (Sub.dropN 4 (by kernel_rfl) rfl))
      · intro hF8
        refine Tr.gskip rfl rfl hF8 rfl ?_
        refine Tr.gskip rfl rfl hF8 rfl ?_
        refine Tr.gskip rfl rfl hF8 rfl ?_
        refine Tr.gq rfl rfl hF7 (QS.pickF rfl hF8 rfl) rfl ?_
        refine Tr.nil (Tr.thenN ?_)
        exact Tr.endX (Sub.cons rfl (Sub.dropN 4 (by kernel_rfl) rfl))
      refine Tr.q (QS.pickF rfl hF7 rfl) rfl ?_
      refine Tr.nil (Tr.thenN ?_)
      exact Tr.endX (Sub.cons rfl (Sub.dropN 7 (by kernel_rfl) rfl))
    · intro hT7
      refine Tr.gskip rfl rfl hT7 rfl ?_
      refine Tr.gskip rfl rfl hT7 rfl ?_
      refine Tr.gskip rfl rfl hT7 rfl ?_
      refine Tr.gskip rfl rfl hT7 rfl ?_
      refine Tr.gskip rfl rfl hT7 rfl ?_
      refine Tr.gskipU rfl rfl rfl ?_
      refine Tr.gskipU rfl rfl rfl ?_
      refine Tr.gskipU rfl rfl rfl ?_
      refine Tr.gskip rfl rfl hT7 rfl ?_
      refine Tr.q (QS.pickT rfl hT7 rfl) rfl ?_
      refine Tr.nil (Tr.thenN ?_)
      exact Tr.endX (Sub.cons rfl (Sub.dropN 10 (by kernel_rfl) rfl))
    refine Tr.q (QS.move rfl) rfl ?_
    apply Tr.orP
    · exact (rfl : _ = (9, 41, 50))
    · exact rfl
    · intro hF9; have hF9' := hF9
      try simp only [bs] at hF9'
      refine Tr.gq rfl rfl hF9 (QS.lW rfl Tryz.isAgg35 Tryz.sizeOf35) rfl ?_
      refine Tr.gq rfl rfl hF9 (QS.call rfl Tryz.call131 (fun w hw => hasB_any i w)) rfl ?_
      refine Tr.gq rfl rfl hF9 (QS.move rfl) rfl ?_
      apply Tr.andP
      · exact (rfl : _ = (5, 44, 49))
      · exact rfl
      · intro hT10; have hT10' := hT10
        try simp only [bs] at hT10'
        refine Tr.gq rfl rfl hT10 (QS.fieldAddr (off := 7) (ft := 3) rfl Tryz.underlying35 rfl rfl Tryz.sizeOf3 (by decide)) rfl ?_
        refine Tr.gq rfl rfl hT10 (QS.lV rfl Tryz.isAgg3) rfl ?_
        refine Tr.gq rfl rfl hT10 (QS.call rfl Tryz.call130 (fun w hw => isReg_any i.b w)) rfl ?_
        refine Tr.gq rfl rfl hT10 (QS.not rfl) rfl ?_
        refine Tr.gq rfl rfl hF9 (QS.pickT rfl hT10 rfl) rfl ?_
        refine Tr.nil (Tr.thenN ?_)
        exact Tr.endX (Sub.cons rfl (Sub.dropN 5 (by kernel_rfl) rfl))
      · intro hF10
        refine Tr.gskip rfl rfl hF10 rfl ?_
        refine Tr.gskip rfl rfl hF10 rfl ?_
        refine Tr.gskip rfl rfl hF10 rfl ?_
        refine Tr.gskip rfl rfl hF10 rfl ?_
        refine Tr.gq rfl rfl hF9 (QS.pickF rfl hF10 rfl) rfl ?_
        refine Tr.nil (Tr.thenN ?_)
        exact Tr.endX (Sub.cons rfl (Sub.dropN 5 (by kernel_rfl) rfl))
      refine Tr.q (QS.pickF rfl hF9 rfl) rfl ?_
      refine Tr.nil (Tr.thenN ?_)
      exact Tr.endX (Sub.cons rfl (Sub.dropN 5 (by kernel_rfl) rfl))
    · intro hT9
      refine Tr.gskip rfl rfl hT9 rfl ?_
      refine Tr.gskip rfl rfl hT9 rfl ?_
      refine Tr.gskip rfl rfl hT9 rfl ?_
      refine Tr.gskipU rfl rfl rfl ?_
      refine Tr.gskipU rfl rfl rfl ?_
      refine Tr.gskipU rfl rfl rfl ?_
      refine Tr.gskipU rfl rfl rfl ?_
      refine Tr.gskip rfl rfl hT9 rfl ?_
      refine Tr.q (QS.pickT rfl hT9 rfl) rfl ?_
      refine Tr.nil (Tr.thenN ?_)
      exact Tr.endX (Sub.cons rfl (Sub.dropN 9 (by kernel_rfl) rfl))
    refine Tr.q (QS.move rfl) rfl ?_
    apply Tr.orP
    · exact (rfl : _ = (9, 51, 60))
    · exact rfl
    · intro hF11; have hF11' := hF11
      try simp only [bs] at hF11'
      refine Tr.gq rfl rfl hF11 (QS.lW rfl Tryz.isAgg35 Tryz.sizeOf35) rfl ?_
      refine Tr.gq rfl rfl hF11 (QS.call rfl Tryz.call131 (fun w hw => hasB_any i w)) rfl ?_
      refine Tr.gq rfl rfl hF11 (QS.not rfl) rfl ?_
      refine Tr.gq rfl rfl hF11 (QS.move rfl) rfl ?_
      apply Tr.andP
      · exact (rfl : _ = (4, 55, 59))
      · exact rfl
      · intro hT12; have hT12' := hT12
        try simp only [bs] at hT12'
        refine Tr.gq rfl rfl hT12 (QS.fieldAddr (off := 7) (ft := 3) rfl Tryz.underlying35 rfl rfl Tryz.sizeOf3 (by decide)) rfl ?_
        refine Tr.gq rfl rfl hT12 (QS.lV rfl Tryz.isAgg3) rfl ?_
        refine Tr.gq rfl rfl hT12 (QS.neq rfl rfl) rfl ?_
        refine Tr.gq rfl rfl hF11 (QS.pickT rfl hT12 rfl) rfl ?_
        refine Tr.nil (Tr.thenN ?_)
        exact Tr.endX (Sub.cons rfl (Sub.dropN 4 (by kernel_rfl) rfl))
      · intro hF12
        refine Tr.gskip rfl rfl hF12 rfl ?_
        refine Tr.gskip rfl rfl hF12 rfl ?_
        refine Tr.gskip rfl rfl hF12 rfl ?_
        refine Tr.gq rfl rfl hF11 (QS.pickF rfl hF12 rfl) rfl ?_
        refine Tr.nil (Tr.thenN ?_)
        exact Tr.endX (Sub.cons rfl (Sub.dropN 4 (by kernel_rfl) rfl))
      refine Tr.q (QS.pickF rfl hF11 rfl) rfl ?_
      refine Tr.nil (Tr.thenN ?_)
      exact Tr.endX (Sub.cons rfl (Sub.dropN 6 (by kernel_rfl) rfl))
    · intro hT11
      refine Tr.gskip rfl rfl hT11 rfl ?_
      refine Tr.gskip rfl rfl hT11 rfl ?_
      refine Tr.gskip rfl rfl hT11 rfl ?_
      refine Tr.gskip rfl rfl hT11 rfl ?_
      refine Tr.gskipU rfl rfl rfl ?_
      refine Tr.gskipU rfl rfl rfl ?_
      refine Tr.gskipU rfl rfl rfl ?_
      refine Tr.gskip rfl rfl hT11 rfl ?_
      refine Tr.q (QS.pickT rfl hT11 rfl) rfl ?_
      refine Tr.nil (Tr.thenN ?_)
      exact Tr.endX (Sub.cons rfl (Sub.dropN 9 (by kernel_rfl) rfl))
    refine Tr.nil ?_
    refine Tr.thenN ?_
    refine Tr.cond rfl (fun h13 => ?_) (fun h13 => ?_)
    · try simp only [bs] at h13
      refine Tr.seq ?_
      refine Tr.region ?_
      refine Tr.q (QS.assign rfl) rfl ?_
      refine Tr.nil ?_
      refine Tr.thenN ?_
      refine Tr.ret ?_
      refine Tr.thenR ?_
      refine Tr.ret1 Tryz.results113 rfl (fun w' hw => ?_)
      exact ⟨by clear hw; unfold refErrP; (repeat (first | rw [if_pos (by first | assumption | omega | grind)] | rw [if_neg (by first | assumption | omega | grind)])) <;> rfl, hw.below (Bg.le.refl _)⟩
    · try simp only [bs] at h13
      refine Tr.skip ?_
      refine Tr.thenN ?_
      refine Tr.seq ?_
      refine Tr.seq ?_
      refine Tr.region ?_
      refine Tr.q (QS.fieldAddr (off := 2) (ft := 3) rfl Tryz.underlying35 rfl rfl Tryz.sizeOf3 (by decide)) rfl ?_
      refine Tr.q (QS.lV rfl Tryz.isAgg3) rfl ?_
      refine Tr.q (QS.call rfl Tryz.call132 (fun w hw => hasCc_any i.op w)) rfl ?_
      refine Tr.q (QS.move rfl) rfl ?_
      apply Tr.andP
      · exact (rfl : _ = (5, 64, 69))
      · exact rfl
      · intro hT14; have hT14' := hT14
        try simp only [bs] at hT14'
        refine Tr.gq rfl rfl hT14 (QS.fieldAddr (off := 5) (ft := 3) rfl Tryz.underlying35 rfl rfl Tryz.sizeOf3 (by decide)) rfl ?_
        refine Tr.gq rfl rfl hT14 (QS.lV rfl Tryz.isAgg3) rfl ?_
        refine Tr.gq rfl rfl hT14 (QS.call rfl Tryz.call133 (fun w hw => isCc_any i.cc w)) rfl ?_
        refine Tr.gq rfl rfl hT14 (QS.not rfl) rfl ?_
        refine Tr.q (QS.pickT rfl hT14 rfl) rfl ?_
        refine Tr.nil (Tr.thenN ?_)
        exact Tr.endX (Sub.cons rfl (Sub.dropN 5 (by kernel_rfl) rfl))
      · intro hF14
        refine Tr.gskip rfl rfl hF14 rfl ?_
        refine Tr.gskip rfl rfl hF14 rfl ?_
        refine Tr.gskip rfl rfl hF14 rfl ?_
        refine Tr.gskip rfl rfl hF14 rfl ?_
        refine Tr.q (QS.pickF rfl hF14 rfl) rfl ?_
        refine Tr.nil (Tr.thenN ?_)
        exact Tr.endX (Sub.cons rfl (Sub.dropN 5 (by kernel_rfl) rfl))
      refine Tr.q (QS.move rfl) rfl ?_
      apply Tr.orP
      · exact (rfl : _ = (10, 70, 80))
      · exact rfl
      · intro hF15; have hF15' := hF15
        try simp only [bs] at hF15'
        refine Tr.gq rfl rfl hF15 (QS.fieldAddr (off := 2) (ft := 3) rfl Tryz.underlying35 rfl rfl Tryz.sizeOf3 (by decide)) rfl ?_
        refine Tr.gq rfl rfl hF15 (QS.lV rfl Tryz.isAgg3) rfl ?_
        refine Tr.gq rfl rfl hF15 (QS.call rfl Tryz.call132 (fun w hw => hasCc_any i.op w)) rfl ?_
        refine Tr.gq rfl rfl hF15 (QS.not rfl) rfl ?_
        refine Tr.gq rfl rfl hF15 (QS.move rfl) rfl ?_
        apply Tr.andP
        · exact (rfl : _ = (4, 75, 79))
        · exact rfl
        · intro hT16; have hT16' := hT16
          try simp only [bs] at hT16'
          refine Tr.gq rfl rfl hT16 (QS.fieldAddr (off := 5) (ft := 3) rfl Tryz.underlying35 rfl rfl Tryz.sizeOf3 (by decide)) rfl ?_
          refine Tr.gq rfl rfl hT16 (QS.lV rfl Tryz.isAgg3) rfl ?_
          refine Tr.gq rfl rfl hT16 (QS.neq rfl rfl) rfl ?_
          refine Tr.gq rfl rfl hF15 (QS.pickT rfl hT16 rfl) rfl ?_
          refine Tr.nil (Tr.thenN ?_)
          exact Tr.endX (Sub.cons rfl (Sub.dropN 4 (by kernel_rfl) rfl))
        · intro hF16
          refine Tr.gskip rfl rfl hF16 rfl ?_
          refine Tr.gskip rfl rfl hF16 rfl ?_
          refine Tr.gskip rfl rfl hF16 rfl ?_
          refine Tr.gq rfl rfl hF15 (QS.pickF rfl hF16 rfl) rfl ?_
          refine Tr.nil (Tr.thenN ?_)
          exact Tr.endX (Sub.cons rfl (Sub.dropN 4 (by kernel_rfl) rfl))
        refine Tr.q (QS.pickF rfl hF15 rfl) rfl ?_
        refine Tr.nil (Tr.thenN ?_)
        exact Tr.endX (Sub.cons rfl (Sub.dropN 7 (by kernel_rfl) rfl))
      · intro hT15
        refine Tr.gskip rfl rfl hT15 rfl ?_
        refine Tr.gskip rfl rfl hT15 rfl ?_
        refine Tr.gskip rfl rfl hT15 rfl ?_
        refine Tr.gskip rfl rfl hT15 rfl ?_
        refine Tr.gskip rfl rfl hT15 rfl ?_
        refine Tr.gskipU rfl rfl rfl ?_
        refine Tr.gskipU rfl rfl rfl ?_
        refine Tr.gskipU rfl rfl rfl ?_
        refine Tr.gskip rfl rfl hT15 rfl ?_
        refine Tr.q (QS.pickT rfl hT15 rfl) rfl ?_
        refine Tr.nil (Tr.thenN ?_)
        exact Tr.endX (Sub.cons rfl (Sub.dropN 10 (by kernel_rfl) rfl))
      refine Tr.q (QS.move rfl) rfl ?_
      apply Tr.orP
      · exact (rfl : _ = (9, 81, 90))
      · exact rfl
      · intro hF17; have hF17' := hF17
        try simp only [bs] at hF17'
        refine Tr.gq rfl rfl hF17 (QS.lW rfl Tryz.isAgg35 Tryz.sizeOf35) rfl ?_
        refine Tr.gq rfl rfl hF17 (QS.call rfl Tryz.call134 (fun w hw => hasImm_any i w)) rfl ?_
        refine Tr.gq rfl rfl hF17 (QS.not rfl) rfl ?_
        refine Tr.gq rfl rfl hF17 (QS.move rfl) rfl ?_
        apply Tr.andP
        · exact (rfl : _ = (4, 85, 89))
        · exact rfl
        · intro hT18; have hT18' := hT18
          try simp only [bs] at hT18'
          refine Tr.gq rfl rfl hT18 (QS.fieldAddr (off := 1) (ft := 33) rfl Tryz.underlying35 rfl rfl Tryz.sizeOf33 (by decide)) rfl ?_
          refine Tr.gq rfl rfl hT18 (QS.lV rfl Tryz.isAgg33) rfl ?_
          refine Tr.gq rfl rfl hT18 (QS.neq32 (n := 0) rfl rfl) rfl ?_
          refine Tr.gq rfl rfl hF17 (QS.pickT rfl hT18 rfl) rfl ?_
          refine Tr.nil (Tr.thenN ?_)
          exact Tr.endX (Sub.cons rfl (Sub.dropN 4 (by kernel_rfl) rfl))
        · intro hF18
          refine Tr.gskip rfl rfl hF18 rfl ?_
          refine Tr.gskip rfl rfl hF18 rfl ?_
          refine Tr.gskip rfl rfl hF18 rfl ?_
          refine Tr.gq rfl rfl hF17 (QS.pickF rfl hF18 rfl) rfl ?_
          refine Tr.nil (Tr.thenN ?_)
          exact Tr.endX (Sub.cons rfl (Sub.dropN 4 (by kernel_rfl) rfl))
        refine Tr.q (QS.pickF rfl hF17 rfl) rfl ?_
        refine Tr.nil (Tr.thenN ?_)
        exact Tr.endX (Sub.cons rfl (Sub.dropN 6 (by kernel_rfl) rfl))
      · intro hT17
        refine Tr.gskip rfl rfl hT17 rfl ?_
        refine Tr.gskip rfl rfl hT17 rfl ?_
        refine Tr.gskip rfl rfl hT17 rfl ?_
        refine Tr.gskip rfl rfl hT17 rfl ?_
        refine Tr.gskipU rfl rfl rfl ?_
        refine Tr.gskipU rfl rfl rfl ?_
        refine Tr.gskipU rfl rfl rfl ?_
        refine Tr.gskip rfl rfl hT17 rfl ?_
        refine Tr.q (QS.pickT rfl hT17 rfl) rfl ?_
        refine Tr.nil (Tr.thenN ?_)
        exact Tr.endX (Sub.cons rfl (Sub.dropN 9 (by kernel_rfl) rfl))
      refine Tr.nil ?_
      refine Tr.thenN ?_
      refine Tr.cond rfl (fun h19 => ?_) (fun h19 => ?_)
      · try simp only [bs] at h19
        refine Tr.seq ?_
        refine Tr.region ?_
        refine Tr.q (QS.assign rfl) rfl ?_
        refine Tr.nil ?_
        refine Tr.thenN ?_
        refine Tr.ret ?_
        refine Tr.thenR ?_
        refine Tr.ret1 Tryz.results113 rfl (fun w' hw => ?_)
        exact ⟨by clear hw; unfold refErrP; (repeat (first | rw [if_pos (by first | assumption | omega | grind)] | rw [if_neg (by first | assumption | omega | grind)])) <;> rfl, hw.below (Bg.le.refl _)⟩
      · try simp only [bs] at h19
        refine Tr.skip ?_
        refine Tr.thenN ?_
        refine Tr.seqJ (ι := Unit) (fun u => ¬ (((isTwoP i.op = true ∧ i.form = 1) ∨ isAccP i.op = true ∨ i.op = 19) ∧ isByteP i.imm = false)) (fun _ => Bg.of w) (fun u => [cellE b1 (encIns.enc i) 35]) (fun u => []) ?_ (fun u hi => ?_)
        · skip
          refine Tr.seq ?_
          refine Tr.region ?_
          refine Tr.q (QS.fieldAddr (off := 2) (ft := 3) rfl Tryz.underlying35 rfl rfl Tryz.sizeOf3 (by decide)) rfl ?_
          refine Tr.q (QS.lV rfl Tryz.isAgg3) rfl ?_
          refine Tr.q (QS.call rfl Tryz.call135 (fun w hw => isTwo_any i.op w)) rfl ?_
          refine Tr.q (QS.move rfl) rfl ?_
          apply Tr.andP
          · exact (rfl : _ = (4, 94, 98))
          · exact rfl
          · intro hT20; have hT20' := hT20
            try simp only [bs] at hT20'
            refine Tr.gq rfl rfl hT20 (QS.fieldAddr (off := 3) (ft := 3) rfl Tryz.underlying35 rfl rfl Tryz.sizeOf3 (by decide)) rfl ?_
            refine Tr.gq rfl rfl hT20 (QS.lV rfl Tryz.isAgg3) rfl ?_
            refine Tr.gq rfl rfl hT20 (QS.eql rfl rfl) rfl ?_
            refine Tr.q (QS.pickT rfl hT20 rfl) rfl ?_
            refine Tr.nil (Tr.thenN ?_)
            exact Tr.endX (Sub.cons rfl (Sub.dropN 4 (by kernel_rfl) rfl))
          · intro hF20
            refine Tr.gskip rfl rfl hF20 rfl ?_
            refine Tr.gskip rfl rfl hF20 rfl ?_
            refine Tr.gskip rfl rfl hF20 rfl ?_
            refine Tr.q (QS.pickF rfl hF20 rfl) rfl ?_
            refine Tr.nil (Tr.thenN ?_)
            exact Tr.endX (Sub.cons rfl (Sub.dropN 4 (by kernel_rfl) rfl))
          refine Tr.q (QS.move rfl) rfl ?_
          apply Tr.orP
          · exact (rfl : _ = (4, 99, 103))
          · exact rfl
          · intro hF21; have hF21' := hF21
            try simp only [bs] at hF21'
            refine Tr.gq rfl rfl hF21 (QS.fieldAddr (off := 2) (ft := 3) rfl Tryz.underlying35 rfl rfl Tryz.sizeOf3 (by decide)) rfl ?_
            refine Tr.gq rfl rfl hF21 (QS.lV rfl Tryz.isAgg3) rfl ?_
            refine Tr.gq rfl rfl hF21 (QS.call rfl Tryz.call136 (fun w hw => isAccess_any i.op w)) rfl ?_
            refine Tr.q (QS.pickF rfl hF21 rfl) rfl ?_
            refine Tr.nil (Tr.thenN ?_)
            exact Tr.endX (Sub.cons rfl (Sub.dropN 4 (by kernel_rfl) rfl))
          · intro hT21
            refine Tr.gskip rfl rfl hT21 rfl ?_
            refine Tr.gskip rfl rfl hT21 rfl ?_
            refine Tr.gskip rfl rfl hT21 rfl ?_
            refine Tr.q (QS.pickT rfl hT21 rfl) rfl ?_
            refine Tr.nil (Tr.thenN ?_)
            exact Tr.endX (Sub.cons rfl (Sub.dropN 4 (by kernel_rfl) rfl))
          refine Tr.q (QS.move rfl) rfl ?_
          apply Tr.orP
          · exact (rfl : _ = (4, 104, 108))
          · exact rfl
          · intro hF22; have hF22' := hF22
            try simp only [bs] at hF22'
            refine Tr.gq rfl rfl hF22 (QS.fieldAddr (off := 2) (ft := 3) rfl Tryz.underlying35 rfl rfl Tryz.sizeOf3 (by decide)) rfl ?_
            refine Tr.gq rfl rfl hF22 (QS.lV rfl Tryz.isAgg3) rfl ?_
            refine Tr.gq rfl rfl hF22 (QS.eql rfl rfl) rfl ?_
            refine Tr.q (QS.pickF rfl hF22 rfl) rfl ?_
            refine Tr.nil (Tr.thenN ?_)
            exact Tr.endX (Sub.cons rfl (Sub.dropN 4 (by kernel_rfl) rfl))
          · intro hT22
            refine Tr.gskip rfl rfl hT22 rfl ?_
            refine Tr.gskip rfl rfl hT22 rfl ?_
            refine Tr.gskip rfl rfl hT22 rfl ?_
            refine Tr.q (QS.pickT rfl hT22 rfl) rfl ?_
            refine Tr.nil (Tr.thenN ?_)
            exact Tr.endX (Sub.cons rfl (Sub.dropN 4 (by kernel_rfl) rfl))
          refine Tr.nil ?_
          refine Tr.thenN ?_
          refine Tr.cond rfl (fun h23 => ?_) (fun h23 => ?_)
          · try simp only [bs] at h23
            refine Tr.seq ?_
            refine Tr.region ?_
            refine Tr.q (QS.fieldAddr (off := 1) (ft := 33) rfl Tryz.underlying35 rfl rfl Tryz.sizeOf33 (by decide)) rfl ?_
            refine Tr.q (QS.lV rfl Tryz.isAgg33) rfl ?_
            refine Tr.q (QS.call rfl Tryz.call137 (fun w hw => isByte_any i.imm w)) rfl ?_
            refine Tr.q (QS.not rfl) rfl ?_
            refine Tr.nil ?_
            refine Tr.thenN ?_
            refine Tr.cond rfl (fun h24 => ?_) (fun h24 => ?_)
            · try simp only [bs] at h24
              refine Tr.seq ?_
              refine Tr.region ?_
              refine Tr.q (QS.assign rfl) rfl ?_
              refine Tr.nil ?_
              refine Tr.thenN ?_
              refine Tr.ret ?_
              refine Tr.thenR ?_
              refine Tr.ret1 Tryz.results113 rfl (fun w' hw => ?_)
              exact ⟨by clear hw; unfold refErrP; (repeat (first | rw [if_pos (by first | assumption | omega | grind)] | rw [if_neg (by first | assumption | omega | grind)])) <;> rfl, hw.below (Bg.le.refl _)⟩
            · try simp only [bs] at h24
              refine Tr.skip ?_
              refine Tr.thenN ?_
              apply Tr.joined ()
              · exact rfl
              · exact Front.nil
              · exact SubX.dropN 13 (by kernel_rfl) rfl
              · exact (by repeat' (first | exact Pick.nil _ | exact Del.here _ | apply Pick.cons | apply Del.there))
              · exact (by grind)
          · try simp only [bs] at h23
            refine Tr.skip ?_
            refine Tr.thenN ?_
            apply Tr.joined ()
            · exact rfl
            · exact Front.nil
            · exact SubX.dropN 9 (by kernel_rfl) rfl
            · exact (by repeat' (first | exact Pick.nil _ | exact Del.here _ | apply Pick.cons | apply Del.there))
            · exact (by grind)
        · skip
          replace hi : ¬ (((isTwoP i.op = true ∧ i.form = 1) ∨ isAccP i.op = true ∨ i.op = 19) ∧ isByteP i.imm = false) := hi
          change Tr _ _ [cellE b1 (encIns.enc i) 35] ([] ++ _) _
          refine Tr.seq ?_
          refine Tr.seq ?_
          refine Tr.region ?_
          refine Tr.q (QS.fieldAddr (off := 2) (ft := 3) rfl Tryz.underlying35 rfl rfl Tryz.sizeOf3 (by decide)) rfl ?_
          refine Tr.q (QS.lV rfl Tryz.isAgg3) rfl ?_
          refine Tr.q (QS.eql rfl rfl) rfl ?_
          refine Tr.q (QS.move rfl) rfl ?_
          apply Tr.andP
          · exact (rfl : _ = (4, 116, 120))
          · exact rfl
          · intro hT25; have hT25' := hT25
            try simp only [bs] at hT25'
            refine Tr.gq rfl rfl hT25 (QS.fieldAddr (off := 3) (ft := 3) rfl Tryz.underlying35 rfl rfl Tryz.sizeOf3 (by decide)) rfl ?_
            refine Tr.gq rfl rfl hT25 (QS.lV rfl Tryz.isAgg3) rfl ?_
            refine Tr.gq rfl rfl hT25 (QS.eql rfl rfl) rfl ?_
            refine Tr.q (QS.pickT rfl hT25 rfl) rfl ?_
            refine Tr.nil (Tr.thenN ?_)
            exact Tr.endX (Sub.cons rfl (Sub.dropN 4 (by kernel_rfl) rfl))
          · intro hF25
            refine Tr.gskip rfl rfl hF25 rfl ?_
            refine Tr.gskip rfl rfl hF25 rfl ?_
            refine Tr.gskip rfl rfl hF25 rfl ?_
            refine Tr.q (QS.pickF rfl hF25 rfl) rfl ?_
            refine Tr.nil (Tr.thenN ?_)
            exact Tr.endX (Sub.cons rfl (Sub.dropN 4 (by kernel_rfl) rfl))
          refine Tr.q (QS.move rfl) rfl ?_
          apply Tr.andP
          · exact (rfl : _ = (9, 121, 130))
          · exact rfl
          · intro hT26; have hT26' := hT26
            try simp only [bs] at hT26'
            refine Tr.gq rfl rfl hT26 (QS.fieldAddr (off := 1) (ft := 33) rfl Tryz.underlying35 rfl rfl Tryz.sizeOf33 (by decide)) rfl ?_
            refine Tr.gq rfl rfl hT26 (QS.lV rfl Tryz.isAgg33) rfl ?_
            refine Tr.gq rfl rfl hT26 (QS.fieldAddr (off := 0) (ft := 33) rfl Tryz.underlying35 rfl rfl Tryz.sizeOf33 (by decide)) rfl ?_
            refine Tr.gq rfl rfl hT26 (QS.lV rfl Tryz.isAgg33) rfl ?_
            refine Tr.gq rfl rfl hT26 (QS.sub32 rfl rfl) rfl ?_
            refine Tr.gq rfl rfl hT26 (QS.sub32 (n := 2) rfl rfl) rfl ?_
            refine Tr.gq rfl rfl hT26 (QS.call rfl Tryz.call137 (fun w hw => isByte_any (i.imm - i.addr - 2) w)) rfl ?_
            refine Tr.gq rfl rfl hT26 (QS.not rfl) rfl ?_
            refine Tr.q (QS.pickT rfl hT26 rfl) rfl ?_
            refine Tr.nil (Tr.thenN ?_)
            exact Tr.endX (Sub.cons rfl (Sub.dropN 9 (by kernel_rfl) rfl))
          · intro hF26
            refine Tr.gskip rfl rfl hF26 rfl ?_
            refine Tr.gskip rfl rfl hF26 rfl ?_
            refine Tr.gskip rfl rfl hF26 rfl ?_
            refine Tr.gskip rfl rfl hF26 rfl ?_
            refine Tr.gskip rfl rfl hF26 rfl ?_
            refine Tr.gskip rfl rfl hF26 rfl ?_
            refine Tr.gskip rfl rfl hF26 rfl ?_
            refine Tr.gskip rfl rfl hF26 rfl ?_
            refine Tr.q (QS.pickF rfl hF26 rfl) rfl ?_
            refine Tr.nil (Tr.thenN ?_)
            exact Tr.endX (Sub.cons rfl (Sub.dropN 9 (by kernel_rfl) rfl))
          refine Tr.nil ?_
          refine Tr.thenN ?_
          refine Tr.cond rfl (fun h27 => ?_) (fun h27 => ?_)
          · try simp only [bs] at h27
            refine Tr.seq ?_
            refine Tr.region ?_
            refine Tr.q (QS.assign rfl) rfl ?_
            refine Tr.nil ?_
            refine Tr.thenN ?_
            refine Tr.ret ?_
            refine Tr.thenR ?_
            refine Tr.ret1 Tryz.results113 rfl (fun w' hw => ?_)
            exact ⟨by clear hw; unfold refErrP; (repeat (first | rw [if_pos (by first | assumption | omega | grind)] | rw [if_neg (by first | assumption | omega | grind)])) <;> rfl, hw.below (Bg.le.refl _)⟩
          · try simp only [bs] at h27
            refine Tr.skip ?_
            refine Tr.thenN ?_
            refine Tr.seq ?_
            refine Tr.region ?_
            refine Tr.q (QS.assign rfl) rfl ?_
            refine Tr.nil ?_
            refine Tr.thenN ?_
            refine Tr.ret ?_
            refine Tr.ret1 Tryz.results113 rfl (fun w' hw => ?_)
            exact ⟨by clear hw; unfold refErrP; (repeat (first | rw [if_pos (by first | assumption | omega | grind)] | rw [if_neg (by first | assumption | omega | grind)])) <;> rfl, hw.below (Bg.le.refl _)⟩
set_option maxRecDepth 100000 in
set_option maxHeartbeats 2000000 in
theorem refValid_any (i : Ins) (w : World) :
    Calls Tryz.prog 84 #[.agg (encIns.enc i).toArray] w (fun e w' => e = .returned (.bool (decide (refErrP i = 0))) ∧ Ext w w') := by
  refine enter Tryz.func84 rfl Tryz.ntmps84 rfl ?_
  refine Tr.seq ?_
  refine Tr.region ?_
  refine Tr.box rfl rfl rfl (fun b1 => ?_)
  refine Tr.q (QS.assign rfl) rfl ?_
  refine Tr.nil ?_
  refine Tr.thenN ?_
  refine Tr.seq ?_
  refine Tr.region ?_
  refine Tr.q (QS.lW rfl Tryz.isAgg35 Tryz.sizeOf35) rfl ?_
  refine Tr.q (QS.call rfl Tryz.call113 (fun w hw => refCheck_any i w)) rfl ?_
  refine Tr.q (QS.eql rfl rfl) rfl ?_
  refine Tr.q (QS.assign rfl) rfl ?_
  refine Tr.nil ?_
  refine Tr.thenN ?_
  refine Tr.ret ?_
  refine Tr.ret1 Tryz.results84 rfl (fun w' hw => ?_)
  exact ⟨rfl, hw.below (Bg.le.refl _)⟩
set_option maxRecDepth 100000 in
set_option maxHeartbeats 2000000 in
theorem word_any (n : UInt32) (w : World) :
    Calls Tryz.prog 146 #[.int .u32 n.toNat] w (fun e w' => ∃ V, e = .returned V ∧ Ext w w' ∧ NewRow w w' 5 encU8 (wordP n) V) := by
  refine enter Tryz.func146 rfl Tryz.ntmps146 rfl ?_
  refine Tr.seq ?_
  refine Tr.region ?_
  refine Tr.q (QS.assign rfl) rfl ?_
  refine Tr.nil ?_
  refine Tr.thenN ?_
  refine Tr.seq ?_
  refine Tr.region ?_
  refine Tr.q (QS.move rfl) rfl ?_
  refine Tr.q (QS.rem32 (n := 256) rfl rfl (by first | decide | assumption)) rfl ?_
  refine Tr.q (QS.cvt32to8 rfl Tryz.underlying33 Tryz.underlying5) rfl ?_
  refine Tr.q (QS.move rfl) rfl ?_
  refine Tr.q (QS.quo32 (n := 256) rfl rfl (by first | decide | assumption)) rfl ?_
  refine Tr.q (QS.rem32 (n := 256) rfl rfl (by first | decide | assumption)) rfl ?_
  refine Tr.q (QS.cvt32to8 rfl Tryz.underlying33 Tryz.underlying5) rfl ?_
  refine Tr.q (QS.move rfl) rfl ?_
  refine Tr.q (QS.quo32 (n := 65536) rfl rfl (by first | decide | assumption)) rfl ?_
  refine Tr.q (QS.rem32 (n := 256) rfl rfl (by first | decide | assumption)) rfl ?_
  refine Tr.q (QS.cvt32to8 rfl Tryz.underlying33 Tryz.underlying5) rfl ?_
  refine Tr.q (QS.move rfl) rfl ?_
  refine Tr.q (QS.quo32 (n := 16777216) rfl rfl (by first | decide | assumption)) rfl ?_
  refine Tr.q (QS.cvt32to8 rfl Tryz.underlying33 Tryz.underlying5) rfl ?_
  refine Tr.litN (E := encU8) (wordP n) (vs := [(0, _), (1, _), (2, _), (3, _)]) rfl rfl Tryz.underlying127 Tryz.sizeOf5 Tryz.zeroValue5 (by rfl) (by rfl) rfl (by first | kernel_rfl | rfl) rfl (fun V1 => ?_)
  refine Tr.q (QS.assign rfl) rfl ?_
  refine Tr.nil ?_
  refine Tr.thenN ?_
  refine Tr.ret ?_
  refine Tr.ret1 Tryz.results146 rfl (fun w' hw => ?_)
  exact ⟨_, rfl, hw.below (Bg.le.refl _), hw.new (.head _)⟩
set_option maxRecDepth 100000 in
set_option maxHeartbeats 2000000 in
theorem accCode_any (i : Ins) (w : World) (hb : 0 ≤ i.width ∧ i.width ≤ 4) :
    Calls Tryz.prog 147 #[.agg (encIns.enc i).toArray] w (fun e w' => e = .returned (.int .i64 (accCodeP i)) ∧ Ext w w') := by
  refine enter Tryz.func147 rfl Tryz.ntmps147 rfl ?_
  refine Tr.seq ?_
  refine Tr.region ?_
  refine Tr.box rfl rfl rfl (fun b1 => ?_)
  refine Tr.q (QS.assign rfl) rfl ?_
  refine Tr.nil ?_
  refine Tr.thenN ?_
  refine Tr.seq ?_
  refine Tr.seq ?_
  refine Tr.region ?_
  refine Tr.q (QS.fieldAddr (off := 2) (ft := 3) rfl Tryz.underlying35 rfl rfl Tryz.sizeOf3 (by decide)) rfl ?_
  refine Tr.q (QS.lV rfl Tryz.isAgg3) rfl ?_
  refine Tr.q (QS.eql rfl rfl) rfl ?_
  refine Tr.nil ?_
  refine Tr.thenN ?_
  refine Tr.cond rfl (fun h2 => ?_) (fun h2 => ?_)
  · try simp only [bs] at h2
    refine Tr.seq ?_
    refine Tr.region ?_
    refine Tr.q (QS.fieldAddr (off := 4) (ft := 3) rfl Tryz.underlying35 rfl rfl Tryz.sizeOf3 (by decide)) rfl ?_
    refine Tr.q (QS.lV rfl Tryz.isAgg3) rfl ?_
    refine Tr.q (QS.mulI rfl rfl (by omega)) rfl ?_
    refine Tr.q (QS.addI rfl rfl (by omega)) rfl ?_
    refine Tr.q (QS.assign rfl) rfl ?_
    refine Tr.nil ?_
    refine Tr.thenN ?_
    refine Tr.ret ?_
    refine Tr.thenR ?_
    refine Tr.ret1 Tryz.results147 rfl (fun w' hw => ?_)
    exact ⟨by clear hw; unfold accCodeP; rw [if_pos (by assumption)], hw.below (Bg.le.refl _)⟩
  · try simp only [bs] at h2
    refine Tr.skip ?_
    refine Tr.thenN ?_
    refine Tr.seq ?_
    refine Tr.region ?_
    refine Tr.q (QS.assign rfl) rfl ?_
    refine Tr.nil ?_
    refine Tr.thenN ?_
    refine Tr.seqJ (ι := Int) (fun n => n = if i.op = 18 then (85 : Int) else 80) (fun _ => Bg.of w) (fun n => [cellE b1 (encIns.enc i) 35]) (fun n => [(3, .int .i64 n)]) ?_ (fun n hi => ?_)
    · skip
      refine Tr.seq ?_
      refine Tr.region ?_
      refine Tr.q (QS.fieldAddr (off := 2) (ft := 3) rfl Tryz.underlying35 rfl rfl Tryz.sizeOf3 (by decide)) rfl ?_
      refine Tr.q (QS.lV rfl Tryz.isAgg3) rfl ?_
      refine Tr.q (QS.eql rfl rfl) rfl ?_
      refine Tr.nil ?_
      refine Tr.thenN ?_
      refine Tr.cond rfl (fun h3 => ?_) (fun h3 => ?_)
      · try simp only [bs] at h3
        refine Tr.region ?_
        refine Tr.q (QS.assign rfl) rfl ?_
        refine Tr.nil ?_
        refine Tr.thenN ?_
        apply Tr.joined 85
        · exact rfl
        · exact (.cons (by first | rfl | exact lookI rfl (by omega) | exact lookI rfl (by simp) | exact lookB rfl (by simp)) Front.nil)
        · exact SubX.dropN 4 (by kernel_rfl) rfl
        · exact (by repeat' (first | exact Pick.nil _ | exact Del.here _ | apply Pick.cons | apply Del.there))
        · exact (by rw [if_pos (by assumption)])
      · try simp only [bs] at h3
        refine Tr.skip ?_
        refine Tr.thenN ?_
        apply Tr.joined 80
        · exact rfl
        · exact (.cons (by first | rfl | exact lookI rfl (by omega) | exact lookI rfl (by simp) | exact lookB rfl (by simp)) Front.nil)
        · exact SubX.dropN 3 (by kernel_rfl) rfl
        · exact (by repeat' (first | exact Pick.nil _ | exact Del.here _ | apply Pick.cons | apply Del.there))
        · exact (by rw [if_neg (by assumption)])
    · skip
      replace hi : n = if i.op = 18 then (85 : Int) else 80 := hi
      change Tr _ _ [cellE b1 (encIns.enc i) 35] ([(3, .int .i64 n)] ++ _) _
      refine Tr.seq ?_
      refine Tr.seq ?_
      have hn : 80 ≤ n ∧ n ≤ 85 := by rw [hi]; split <;> omega
      refine Tr.region ?_
      refine Tr.q (QS.fieldAddr (off := 4) (ft := 3) rfl Tryz.underlying35 rfl rfl Tryz.sizeOf3 (by decide)) rfl ?_
      refine Tr.q (QS.lV rfl Tryz.isAgg3) rfl ?_
      refine Tr.q (QS.eql rfl rfl) rfl ?_
      refine Tr.nil ?_
      refine Tr.thenN ?_
      refine Tr.cond rfl (fun h4 => ?_) (fun h4 => ?_)
      · try simp only [bs] at h4
        refine Tr.seq ?_
        refine Tr.region ?_
        refine Tr.q (QS.move rfl) rfl ?_
        refine Tr.q (QS.addI rfl rfl (by omega)) rfl ?_
        refine Tr.q (QS.assign rfl) rfl ?_
        refine Tr.nil ?_
        refine Tr.thenN ?_
        refine Tr.ret ?_
        refine Tr.thenR ?_
        refine Tr.ret1 Tryz.results147 rfl (fun w' hw => ?_)
        exact ⟨by clear hw; subst hi; unfold accCodeP; rw [if_neg (show ¬ i.op = 17 by assumption)]; simp only []; generalize (if i.op = 18 then (85 : Int) else 80) = q; (repeat (first | rw [if_pos (by omega)] | rw [if_neg (by omega)])), hw.below (Bg.le.refl _)⟩
      · try simp only [bs] at h4
        refine Tr.skip ?_
        refine Tr.thenN ?_
        refine Tr.seq ?_
        refine Tr.seq ?_
        refine Tr.region ?_
        refine Tr.q (QS.fieldAddr (off := 4) (ft := 3) rfl Tryz.underlying35 rfl rfl Tryz.sizeOf3 (by decide)) rfl ?_
        refine Tr.q (QS.lV rfl Tryz.isAgg3) rfl ?_
        refine Tr.q (QS.eql rfl rfl) rfl ?_
        refine Tr.q (QS.move rfl) rfl ?_
        apply Tr.andP
        · exact (rfl : _ = (4, 22, 26))
        · exact rfl
        · intro hT5; have hT5' := hT5
          try simp only [bs] at hT5'
          refine Tr.gq rfl rfl hT5 (QS.fieldAddr (off := 2) (ft := 3) rfl Tryz.underlying35 rfl rfl Tryz.sizeOf3 (by decide)) rfl ?_
          refine Tr.gq rfl rfl hT5 (QS.lV rfl Tryz.isAgg3) rfl ?_
          refine Tr.gq rfl rfl hT5 (QS.eql rfl rfl) rfl ?_
          refine Tr.q (QS.pickT rfl hT5 rfl) rfl ?_
          refine Tr.nil (Tr.thenN ?_)
          exact Tr.endX (Sub.cons rfl (Sub.dropN 4 (by kernel_rfl) rfl))
        · intro hF5
          refine Tr.gskip rfl rfl hF5 rfl ?_
          refine Tr.gskip rfl rfl hF5 rfl ?_
          refine Tr.gskip rfl rfl hF5 rfl ?_
          refine Tr.q (QS.pickF rfl hF5 rfl) rfl ?_
          refine Tr.nil (Tr.thenN ?_)
          exact Tr.endX (Sub.cons rfl (Sub.dropN 4 (by kernel_rfl) rfl))
        refine Tr.nil ?_
        refine Tr.thenN ?_
        refine Tr.cond rfl (fun h6 => ?_) (fun h6 => ?_)
        · try simp only [bs] at h6
          refine Tr.seq ?_
          refine Tr.region ?_
          refine Tr.q (QS.move rfl) rfl ?_
          refine Tr.q (QS.addI rfl rfl (by omega)) rfl ?_
          refine Tr.q (QS.assign rfl) rfl ?_
          refine Tr.nil ?_
          refine Tr.thenN ?_
          refine Tr.ret ?_
          refine Tr.thenR ?_
          refine Tr.ret1 Tryz.results147 rfl (fun w' hw => ?_)
          exact ⟨by clear hw; subst hi; unfold accCodeP; rw [if_neg (show ¬ i.op = 17 by assumption)]; simp only []; generalize (if i.op = 18 then (85 : Int) else 80) = q; (repeat (first | rw [if_pos (by omega)] | rw [if_neg (by omega)])), hw.below (Bg.le.refl _)⟩
        · try simp only [bs] at h6
          refine Tr.skip ?_
          refine Tr.thenN ?_
          refine Tr.seq ?_
          refine Tr.seq ?_
          refine Tr.region ?_
          refine Tr.q (QS.fieldAddr (off := 4) (ft := 3) rfl Tryz.underlying35 rfl rfl Tryz.sizeOf3 (by decide)) rfl ?_
          refine Tr.q (QS.lV rfl Tryz.isAgg3) rfl ?_
          refine Tr.q (QS.eql rfl rfl) rfl ?_
          refine Tr.nil ?_
          refine Tr.thenN ?_
          refine Tr.cond rfl (fun h7 => ?_) (fun h7 => ?_)
          · try simp only [bs] at h7
            refine Tr.seq ?_
            refine Tr.region ?_
            refine Tr.q (QS.move rfl) rfl ?_
            refine Tr.q (QS.addI rfl rfl (by omega)) rfl ?_
            refine Tr.q (QS.assign rfl) rfl ?_
            refine Tr.nil ?_
            refine Tr.thenN ?_
            refine Tr.ret ?_
            refine Tr.thenR ?_
            refine Tr.ret1 Tryz.results147 rfl (fun w' hw => ?_)
            exact ⟨by clear hw; subst hi; unfold accCodeP; rw [if_neg (show ¬ i.op = 17 by assumption)]; simp only []; generalize (if i.op = 18 then (85 : Int) else 80) = q; (repeat (first | rw [if_pos (by omega)] | rw [if_neg (by omega)])), hw.below (Bg.le.refl _)⟩
          · try simp only [bs] at h7
            refine Tr.skip ?_
            refine Tr.thenN ?_
            refine Tr.seq ?_
            refine Tr.region ?_
            refine Tr.q (QS.move rfl) rfl ?_
            refine Tr.q (QS.assign rfl) rfl ?_
            refine Tr.nil ?_
            refine Tr.thenN ?_
            refine Tr.ret ?_
            refine Tr.ret1 Tryz.results147 rfl (fun w' hw => ?_)
            exact ⟨by clear hw; subst hi; unfold accCodeP; rw [if_neg (show ¬ i.op = 17 by assumption)]; simp only []; generalize (if i.op = 18 then (85 : Int) else 80) = q; (repeat (first | rw [if_pos (by omega)] | rw [if_neg (by omega)])), hw.below (Bg.le.refl _)⟩
set_option maxRecDepth 100000 in
set_option maxHeartbeats 2000000 in
theorem plain_any (i : Ins) (w : World) (hcc : -100 ≤ i.cc ∧ i.cc ≤ 100) :
    Calls Tryz.prog 148 #[.agg (encIns.enc i).toArray] w (fun e w' => ∃ V, e = .returned V ∧ Ext w w' ∧ NewRow w w' 5 encU8 (plainP i) V) := by
  refine enter Tryz.func148 rfl Tryz.ntmps148 rfl ?_
  refine Tr.seq ?_
  refine Tr.region ?_
  refine Tr.box rfl rfl rfl (fun b1 => ?_)
  refine Tr.q (QS.assign rfl) rfl ?_
  refine Tr.nil ?_
  refine Tr.thenN ?_
  refine Tr.seq ?_
  refine Tr.region ?_
  refine Tr.q (QS.fieldAddr (off := 6) (ft := 3) rfl Tryz.underlying35 rfl rfl Tryz.sizeOf3 (by decide)) rfl ?_
  refine Tr.q (QS.lV rfl Tryz.isAgg3) rfl ?_
  refine Tr.q (QS.cvtTo8 rfl Tryz.underlying3 Tryz.underlying5) rfl ?_
  refine Tr.q (QS.assign rfl) rfl ?_
  refine Tr.nil ?_
  refine Tr.thenN ?_
  refine Tr.seq ?_
  refine Tr.seq ?_
  refine Tr.region ?_
  refine Tr.q (QS.fieldAddr (off := 2) (ft := 3) rfl Tryz.underlying35 rfl rfl Tryz.sizeOf3 (by decide)) rfl ?_
  refine Tr.q (QS.lV rfl Tryz.isAgg3) rfl ?_
  refine Tr.nil ?_
  refine Tr.thenN ?_
  refine Tr.block ?_
  refine Tr.seq ?_
  refine Tr.region ?_
  refine Tr.q (QS.eql rfl rfl) rfl ?_
  refine Tr.q (QS.assign rfl) rfl ?_
  refine Tr.nil ?_
  refine Tr.thenN ?_
  refine Tr.cond rfl (fun h2 => ?_) (fun h2 => ?_)
  · try simp only [bs] at h2
    refine Tr.seq ?_
    refine Tr.region ?_
    refine Tr.q (QS.move rfl) rfl ?_
    refine Tr.q (QS.add8 (m := 8) rfl rfl) rfl ?_
    refine Tr.lit1 (E := encU8) _ rfl rfl Tryz.underlying127 Tryz.sizeOf5 Tryz.zeroValue5 (by rfl) (by rfl) rfl (fun V3 => ?_)
    refine Tr.q (QS.assign rfl) rfl ?_
    refine Tr.nil ?_
    refine Tr.thenN ?_
    refine Tr.ret ?_
    refine Tr.inR ?_
    refine Tr.thenR ?_
    refine Tr.ret1 Tryz.results148 rfl (fun w' hw => ?_)
    exact ⟨_, rfl, hw.below (Bg.le.refl _), by unfold plainP; (repeat (first | rw [if_pos (by first | assumption | omega | grind)] | rw [if_neg (by first | assumption | omega | grind)])); exact hw.new (.head _)⟩
  · try simp only [bs] at h2
    refine Tr.seq ?_
    refine Tr.region ?_
    refine Tr.q (QS.eql rfl rfl) rfl ?_
    refine Tr.q (QS.assign rfl) rfl ?_
    refine Tr.nil ?_
    refine Tr.thenN ?_
    refine Tr.cond rfl (fun h4 => ?_) (fun h4 => ?_)
    · try simp only [bs] at h4
      refine Tr.seq ?_
      refine Tr.region ?_
      refine Tr.q (QS.move rfl) rfl ?_
      refine Tr.q (QS.add8 (m := 16) rfl rfl) rfl ?_
      refine Tr.lit1 (E := encU8) _ rfl rfl Tryz.underlying127 Tryz.sizeOf5 Tryz.zeroValue5 (by rfl) (by rfl) rfl (fun V5 => ?_)
      refine Tr.q (QS.assign rfl) rfl ?_
      refine Tr.nil ?_
      refine Tr.thenN ?_
      refine Tr.ret ?_
      refine Tr.inR ?_
      refine Tr.thenR ?_
      refine Tr.ret1 Tryz.results148 rfl (fun w' hw => ?_)
      exact ⟨_, rfl, hw.below (Bg.le.refl _), by unfold plainP; (repeat (first | rw [if_pos (by first | assumption | omega | grind)] | rw [if_neg (by first | assumption | omega | grind)])); exact hw.new (.head _)⟩
    · try simp only [bs] at h4
      refine Tr.seq ?_
      refine Tr.region ?_
      refine Tr.q (QS.eql rfl rfl) rfl ?_
      refine Tr.q (QS.assign rfl) rfl ?_
      refine Tr.nil ?_
      refine Tr.thenN ?_
      refine Tr.cond rfl (fun h6 => ?_) (fun h6 => ?_)
      · try simp only [bs] at h6
        refine Tr.seq ?_
        refine Tr.region ?_
        refine Tr.q (QS.move rfl) rfl ?_
        refine Tr.litN (E := encU8) [129, u8 i.a] (vs := [(0, _), (1, _)]) rfl rfl Tryz.underlying127 Tryz.sizeOf5 Tryz.zeroValue5 (by rfl) (by rfl) rfl (by first | kernel_rfl | rfl) rfl (fun V7 => ?_)
        refine Tr.q (QS.assign rfl) rfl ?_
        refine Tr.nil ?_
        refine Tr.thenN ?_
        refine Tr.ret ?_
        refine Tr.inR ?_
        refine Tr.thenR ?_
        refine Tr.ret1 Tryz.results148 rfl (fun w' hw => ?_)
        exact ⟨_, rfl, hw.below (Bg.le.refl _), by unfold plainP; (repeat (first | rw [if_pos (by first | assumption | omega | grind)] | rw [if_neg (by first | assumption | omega | grind)])); exact hw.new (.head _)⟩
      · try simp only [bs] at h6
        refine Tr.seq ?_
        refine Tr.region ?_
        refine Tr.q (QS.eql rfl rfl) rfl ?_
        refine Tr.q (QS.assign rfl) rfl ?_
        refine Tr.nil ?_
        refine Tr.thenN ?_
        refine Tr.cond rfl (fun h8 => ?_) (fun h8 => ?_)
        · try simp only [bs] at h8
          refine Tr.seq ?_
          refine Tr.region ?_
          refine Tr.q (QS.move rfl) rfl ?_
          refine Tr.litN (E := encU8) [130, u8 i.a] (vs := [(0, _), (1, _)]) rfl rfl Tryz.underlying127 Tryz.sizeOf5 Tryz.zeroValue5 (by rfl) (by rfl) rfl (by first | kernel_rfl | rfl) rfl (fun V9 => ?_)
          refine Tr.q (QS.assign rfl) rfl ?_
          refine Tr.nil ?_
          refine Tr.thenN ?_
          refine Tr.ret ?_
          refine Tr.inR ?_
          refine Tr.thenR ?_
          refine Tr.ret1 Tryz.results148 rfl (fun w' hw => ?_)
          exact ⟨_, rfl, hw.below (Bg.le.refl _), by unfold plainP; (repeat (first | rw [if_pos (by first | assumption | omega | grind)] | rw [if_neg (by first | assumption | omega | grind)])); exact hw.new (.head _)⟩
        · try simp only [bs] at h8
          refine Tr.seq ?_
          refine Tr.region ?_
          refine Tr.q (QS.eql rfl rfl) rfl ?_
          refine Tr.q (QS.assign rfl) rfl ?_
          refine Tr.nil ?_
          refine Tr.thenN ?_
          refine Tr.cond rfl (fun h10 => ?_) (fun h10 => ?_)
          · try simp only [bs] at h10
            refine Tr.seq ?_
            refine Tr.region ?_
            refine Tr.q (QS.fieldAddr (off := 5) (ft := 3) rfl Tryz.underlying35 rfl rfl Tryz.sizeOf3 (by decide)) rfl ?_
            refine Tr.q (QS.lV rfl Tryz.isAgg3) rfl ?_
            refine Tr.q (QS.addI rfl rfl (by omega)) rfl ?_
            refine Tr.q (QS.cvtTo8 rfl Tryz.underlying3 Tryz.underlying5) rfl ?_
            refine Tr.q (QS.move rfl) rfl ?_
            refine Tr.litN (E := encU8) [u8 (144 + i.cc), u8 i.a] (vs := [(0, _), (1, _)]) rfl rfl Tryz.underlying127 Tryz.sizeOf5 Tryz.zeroValue5 (by rfl) (by rfl) rfl (by first | kernel_rfl | rfl) rfl (fun V11 => ?_)
            refine Tr.q (QS.assign rfl) rfl ?_
            refine Tr.nil ?_
            refine Tr.thenN ?_
            refine Tr.ret ?_
            refine Tr.inR ?_
            refine Tr.thenR ?_
            refine Tr.ret1 Tryz.results148 rfl (fun w' hw => ?_)
            exact ⟨_, rfl, hw.below (Bg.le.refl _), by unfold plainP; (repeat (first | rw [if_pos (by first | assumption | omega | grind)] | rw [if_neg (by first | assumption | omega | grind)])); exact hw.new (.head _)⟩
          · try simp only [bs] at h10
            refine Tr.seq ?_
            refine Tr.region ?_
            refine Tr.q (QS.eql rfl rfl) rfl ?_
            refine Tr.q (QS.assign rfl) rfl ?_
            refine Tr.nil ?_
            refine Tr.thenN ?_
            refine Tr.cond rfl (fun h12 => ?_) (fun h12 => ?_)
            · try simp only [bs] at h12
              refine Tr.seq ?_
              refine Tr.region ?_
              refine Tr.q (QS.move rfl) rfl ?_
              refine Tr.litN (E := encU8) [160, u8 i.a] (vs := [(0, _), (1, _)]) rfl rfl Tryz.underlying127 Tryz.sizeOf5 Tryz.zeroValue5 (by rfl) (by rfl) rfl (by first | kernel_rfl | rfl) rfl (fun V13 => ?_)
              refine Tr.q (QS.assign rfl) rfl ?_
              refine Tr.nil ?_
              refine Tr.thenN ?_
              refine Tr.ret ?_
              refine Tr.inR ?_
              refine Tr.thenR ?_
              refine Tr.ret1 Tryz.results148 rfl (fun w' hw => ?_)
              exact ⟨_, rfl, hw.below (Bg.le.refl _), by unfold plainP; (repeat (first | rw [if_pos (by first | assumption | omega | grind)] | rw [if_neg (by first | assumption | omega | grind)])); exact hw.new (.head _)⟩
            · try simp only [bs] at h12
              refine Tr.seq ?_
              refine Tr.region ?_
              refine Tr.q (QS.eql rfl rfl) rfl ?_
              refine Tr.q (QS.assign rfl) rfl ?_
              refine Tr.nil ?_
              refine Tr.thenN ?_
              refine Tr.cond rfl (fun h14 => ?_) (fun h14 => ?_)
              · try simp only [bs] at h14
                refine Tr.seq ?_
                refine Tr.region ?_
                refine Tr.q (QS.move rfl) rfl ?_
                refine Tr.litN (E := encU8) [161, u8 i.a] (vs := [(0, _), (1, _)]) rfl rfl Tryz.underlying127 Tryz.sizeOf5 Tryz.zeroValue5 (by rfl) (by rfl) rfl (by first | kernel_rfl | rfl) rfl (fun V15 => ?_)
                refine Tr.q (QS.assign rfl) rfl ?_
                refine Tr.nil ?_
                refine Tr.thenN ?_
                refine Tr.ret ?_
                refine Tr.inR ?_
                refine Tr.thenR ?_
                refine Tr.ret1 Tryz.results148 rfl (fun w' hw => ?_)
                exact ⟨_, rfl, hw.below (Bg.le.refl _), by unfold plainP; (repeat (first | rw [if_pos (by first | assumption | omega | grind)] | rw [if_neg (by first | assumption | omega | grind)])); exact hw.new (.head _)⟩
              · try simp only [bs] at h14
                refine Tr.skip ?_
                refine Tr.inN ?_
                refine Tr.thenN ?_
                refine Tr.seq ?_
                refine Tr.region ?_
                refine Tr.q (QS.fieldAddr (off := 2) (ft := 3) rfl Tryz.underlying35 rfl rfl Tryz.sizeOf3 (by decide)) rfl ?_
                refine Tr.q (QS.lV rfl Tryz.isAgg3) rfl ?_
                refine Tr.q (QS.cvtTo8 rfl Tryz.underlying3 Tryz.underlying5) rfl ?_
                refine Tr.lit1 (E := encU8) _ rfl rfl Tryz.underlying127 Tryz.sizeOf5 Tryz.zeroValue5 (by rfl) (by rfl) rfl (fun V16 => ?_)
                refine Tr.q (QS.assign rfl) rfl ?_
                refine Tr.nil ?_
                refine Tr.thenN ?_
                refine Tr.ret ?_
                refine Tr.ret1 Tryz.results148 rfl (fun w' hw => ?_)
                exact ⟨_, rfl, hw.below (Bg.le.refl _), by unfold plainP; (repeat (first | rw [if_pos (by first | assumption | omega | grind)] | rw [if_neg (by first | assumption | omega | grind)])); exact hw.new (.head _)⟩
end Go.Proofs.YtmhbfelnjkhepaaGreat
namespace Go.Proofs.YtmhbfelnjkhepaaGreat
open Go Go.HL Go.RowKit
set_option maxRecDepth 100000 in
set_option maxHeartbeats 2000000 in
theorem bytesOf_any (i : Ins) (w : World) (hop : 0 ≤ i.op ∧ i.op ≤ 27) (hcc : -100 ≤ i.cc ∧ i.cc ≤ 100) (hwd : 0 ≤ i.width ∧ i.width ≤ 4) (ha : 0 ≤ i.a ∧ i.a ≤ 100) (hbb : 0 ≤ i.b ∧ i.b ≤ 100) :
    Calls Tryz.prog 115 #[.agg (encIns.enc i).toArray] w (fun e w' => ∃ V, e = .returned V ∧ Ext w w' ∧ NewRow w w' 5 encU8 (bytesP i) V) := by
  refine enter Tryz.func115 rfl Tryz.ntmps115 rfl ?_
  refine Tr.seq ?_
  refine Tr.region ?_
  refine Tr.box rfl rfl rfl (fun b1 => ?_)
  refine Tr.q (QS.assign rfl) rfl ?_
  refine Tr.nil ?_
  refine Tr.thenN ?_
  refine Tr.seq ?_
  refine Tr.region ?_
  refine Tr.q (QS.fieldAddr (off := 6) (ft := 3) rfl Tryz.underlying35 rfl rfl Tryz.sizeOf3 (by decide)) rfl ?_
  refine Tr.q (QS.lV rfl Tryz.isAgg3) rfl ?_
  refine Tr.q (QS.mulI rfl rfl (by omega)) rfl ?_
  refine Tr.q (QS.fieldAddr (off := 7) (ft := 3) rfl Tryz.underlying35 rfl rfl Tryz.sizeOf3 (by decide)) rfl ?_
  refine Tr.q (QS.lV rfl Tryz.isAgg3) rfl ?_
  refine Tr.q (QS.addI rfl rfl (by omega)) rfl ?_
  refine Tr.q (QS.cvtTo8 rfl Tryz.underlying3 Tryz.underlying5) rfl ?_
  refine Tr.q (QS.assign rfl) rfl ?_
  refine Tr.nil ?_
  refine Tr.thenN ?_
  refine Tr.seq ?_
  refine Tr.seq ?_
  refine Tr.region ?_
  refine Tr.q (QS.fieldAddr (off := 2) (ft := 3) rfl Tryz.underlying35 rfl rfl Tryz.sizeOf3 (by decide)) rfl ?_
  refine Tr.q (QS.lV rfl Tryz.isAgg3) rfl ?_
  refine Tr.q (QS.call rfl Tryz.call135 (fun w hw => isTwo_any i.op w)) rfl ?_
  refine Tr.nil ?_
  refine Tr.thenN ?_
  refine Tr.cond rfl (fun h2 => ?_) (fun h2 => ?_)
  · try simp only [bs] at h2
    refine Tr.seq ?_
    refine Tr.region ?_
    refine Tr.q (QS.fieldAddr (off := 2) (ft := 3) rfl Tryz.underlying35 rfl rfl Tryz.sizeOf3 (by decide)) rfl ?_
    refine Tr.q (QS.lV rfl Tryz.isAgg3) rfl ?_
    refine Tr.q (QS.subI rfl rfl (by omega)) rfl ?_
    refine Tr.q (QS.assign rfl) rfl ?_
    refine Tr.nil ?_
    refine Tr.thenN ?_
    refine Tr.seq ?_
    refine Tr.seq ?_
    refine Tr.region ?_
    refine Tr.q (QS.fieldAddr (off := 3) (ft := 3) rfl Tryz.underlying35 rfl rfl Tryz.sizeOf3 (by decide)) rfl ?_
    refine Tr.q (QS.lV rfl Tryz.isAgg3) rfl ?_
    refine Tr.q (QS.eql rfl rfl) rfl ?_
    refine Tr.nil ?_
    refine Tr.thenN ?_
    refine Tr.cond rfl (fun h3 => ?_) (fun h3 => ?_)
    · try simp only [bs] at h3
      refine Tr.seq ?_
      refine Tr.region ?_
      refine Tr.q (QS.move rfl) rfl ?_
      refine Tr.q (QS.addI rfl rfl (by omega)) rfl ?_
      refine Tr.q (QS.cvtTo8 rfl Tryz.underlying3 Tryz.underlying5) rfl ?_
      refine Tr.q (QS.move rfl) rfl ?_
      refine Tr.litN (E := encU8) [u8 (32 + (i.op - 5)), u8 (16 * i.a + i.b)] (vs := [(0, _), (1, _)]) rfl rfl Tryz.underlying127 Tryz.sizeOf5 Tryz.zeroValue5 (by rfl) (by rfl) rfl (by first | kernel_rfl | rfl) rfl (fun V4 => ?_)
      refine Tr.q (QS.assign rfl) rfl ?_
      refine Tr.nil ?_
      refine Tr.thenN ?_
      refine Tr.ret ?_
      refine Tr.thenR ?_
      refine Tr.thenR ?_
      refine Tr.ret1 Tryz.results115 rfl (fun w' hw => ?_)
      exact ⟨_, rfl, hw.below (Bg.le.refl _), by unfold bytesP; (repeat (first | rw [if_pos (by first | assumption | omega | grind)] | rw [if_neg (by first | assumption | omega | grind)])); exact hw.new (.head _)⟩
    · try simp only [bs] at h3
      refine Tr.skip ?_
      refine Tr.thenN ?_
      refine Tr.seq ?_
      refine Tr.seq ?_
      refine Tr.region ?_
      refine Tr.q (QS.fieldAddr (off := 3) (ft := 3) rfl Tryz.underlying35 rfl rfl Tryz.sizeOf3 (by decide)) rfl ?_
      refine Tr.q (QS.lV rfl Tryz.isAgg3) rfl ?_
      refine Tr.q (QS.eql rfl rfl) rfl ?_
      refine Tr.nil ?_
      refine Tr.thenN ?_
      refine Tr.cond rfl (fun h5 => ?_) (fun h5 => ?_)
      · try simp only [bs] at h5
        refine Tr.seq ?_
        refine Tr.region ?_
        refine Tr.q (QS.move rfl) rfl ?_
        refine Tr.q (QS.addI rfl rfl (by omega)) rfl ?_
        refine Tr.q (QS.cvtTo8 rfl Tryz.underlying3 Tryz.underlying5) rfl ?_
        refine Tr.q (QS.fieldAddr (off := 6) (ft := 3) rfl Tryz.underlying35 rfl rfl Tryz.sizeOf3 (by decide)) rfl ?_
        refine Tr.q (QS.lV rfl Tryz.isAgg3) rfl ?_
        refine Tr.q (QS.cvtTo8 rfl Tryz.underlying3 Tryz.underlying5) rfl ?_
        refine Tr.q (QS.fieldAddr (off := 1) (ft := 33) rfl Tryz.underlying35 rfl rfl Tryz.sizeOf33 (by decide)) rfl ?_
        refine Tr.q (QS.lV rfl Tryz.isAgg33) rfl ?_
        refine Tr.q (QS.rem32 (n := 256) rfl rfl (by first | decide | assumption)) rfl ?_
        refine Tr.q (QS.cvt32to8 rfl Tryz.underlying33 Tryz.underlying5) rfl ?_
        refine Tr.litN (E := encU8) [u8 (48 + (i.op - 5)), u8 i.a, (i.imm % 256).toUInt8] (vs := [(0, _), (1, _), (2, _)]) rfl rfl Tryz.underlying127 Tryz.sizeOf5 Tryz.zeroValue5 (by rfl) (by rfl) rfl (by first | kernel_rfl | rfl) rfl (fun V6 => ?_)
        refine Tr.q (QS.assign rfl) rfl ?_
        refine Tr.nil ?_
        refine Tr.thenN ?_
        refine Tr.ret ?_
        refine Tr.thenR ?_
        refine Tr.thenR ?_
        refine Tr.ret1 Tryz.results115 rfl (fun w' hw => ?_)
        exact ⟨_, rfl, hw.below (Bg.le.refl _), by unfold bytesP; (repeat (first | rw [if_pos (by first | assumption | omega | grind)] | rw [if_neg (by first | assumption | omega | grind)])); exact hw.new (.head _)⟩
      · try simp only [bs] at h5
        refine Tr.skip ?_
        refine Tr.thenN ?_
        refine Tr.seq ?_
        refine Tr.regionH ([cellE b1 (encIns.enc i) 35]) 12 rfl HLF.mixed ?_
        refine Tr.hT 0 rfl (by kernel_rfl) (panicThen (panicThen panicBody)) (QS.move rfl) ?_
        refine Tr.hT 1 rfl (by kernel_rfl) (panicThen (panicThen panicBody)) (QS.addI rfl rfl (by omega)) ?_
        refine Tr.hT 2 rfl (by kernel_rfl) (panicThen (panicThen panicBody)) (QS.cvtTo8 rfl Tryz.underlying3 Tryz.underlying5) ?_
        refine Tr.hT 3 rfl (by kernel_rfl) (panicThen (panicThen panicBody)) (QS.fieldAddr (off := 6) (ft := 3) rfl Tryz.underlying35 rfl rfl Tryz.sizeOf3 (by decide)) ?_
        refine Tr.hT 4 rfl (by kernel_rfl) (panicThen (panicThen panicBody)) (QS.lV rfl Tryz.isAgg3) ?_
        refine Tr.hT 5 rfl (by kernel_rfl) (panicThen (panicThen panicBody)) (QS.cvtTo8 rfl Tryz.underlying3 Tryz.underlying5) ?_
        refine Tr.hT 7 rfl (by kernel_rfl) (panicThen (panicThen panicBody)) (QS.fieldAddr (off := 1) (ft := 33) rfl Tryz.underlying35 rfl rfl Tryz.sizeOf33 (by decide)) ?_
        refine Tr.hT 8 rfl (by kernel_rfl) (panicThen (panicThen panicBody)) (QS.lV rfl Tryz.isAgg33) ?_
        refine Tr.hAll [6, 9] (by kernel_rfl) (by simp) (fun iq hq => ?_)
        rcases List.mem_cons.1 hq with rfl | hq
        · skip
          refine Tr.hOp rfl ?_
          refine Tr.litN (E := encU8) [u8 (64 + (i.op - 5)), u8 i.a] (vs := [(0, _), (1, _)]) rfl rfl Tryz.underlying127 Tryz.sizeOf5 Tryz.zeroValue5 (by rfl) (by rfl) rfl (by first | kernel_rfl | rfl) rfl (fun V7 => ?_)
          refine Tr.hN ?_
          refine Tr.hAll [9] (by kernel_rfl) (by simp) (fun iq hq => ?_)
          obtain rfl := List.mem_singleton.1 hq
          refine Tr.hOp rfl ?_
          refine Tr.callRow rfl Tryz.call146 (fun w hw => word_any i.imm w) rfl (fun V8 => ?_)
          refine Tr.hN ?_
          refine Tr.hAll [10] (by kernel_rfl) (by simp) (fun iq hq => ?_)
          obtain rfl := List.mem_singleton.1 hq
          refine Tr.hOp rfl ?_
          refine Tr.append1 rfl rfl (by repeat (first | exact Del.here _ | apply Del.there)) (by repeat (first | exact Del.here _ | apply Del.there)) Tryz.underlying127 HLF.info5 (by rfl) (by rfl) (by simp [wordP]) (by unfold maxLen; simp [wordP]) rfl (fun V9 => ?_)
          refine Tr.hN ?_
          refine Tr.hT 11 rfl (by kernel_rfl) (panicThen (panicThen panicBody)) (QS.assign rfl) ?_
          refine Tr.hDone (by kernel_rfl) ?_
          refine Tr.thenN ?_
          refine Tr.ret ?_
          refine Tr.thenR ?_
          refine Tr.ret1 Tryz.results115 rfl (fun w' hw => ?_)
          exact ⟨_, rfl, hw.below (Bg.le.refl _), by unfold bytesP; (repeat (first | rw [if_pos (by first | assumption | omega | grind)] | rw [if_neg (by first | assumption | omega | grind)])); exact hw.new (.head _)⟩
        obtain rfl := List.mem_singleton.1 hq
        refine Tr.hOp rfl ?_
        refine Tr.callRow rfl Tryz.call146 (fun w hw => word_any i.imm w) rfl (fun V10 => ?_)
        refine Tr.hN ?_
        refine Tr.hAll [6] (by kernel_rfl) (by simp) (fun iq hq => ?_)
        obtain rfl := List.mem_singleton.1 hq
        refine Tr.hOp rfl ?_
        refine Tr.litN (E := encU8) [u8 (64 + (i.op - 5)), u8 i.a] (vs := [(0, _), (1, _)]) rfl rfl Tryz.underlying127 Tryz.sizeOf5 Tryz.zeroValue5 (by rfl) (by rfl) rfl (by first | kernel_rfl | rfl) rfl (fun V11 => ?_)
        refine Tr.hN ?_
        refine Tr.hAll [10] (by kernel_rfl) (by simp) (fun iq hq => ?_)
        obtain rfl := List.mem_singleton.1 hq
        refine Tr.hOp rfl ?_
        refine Tr.append1 rfl rfl (by repeat (first | exact Del.here _ | apply Del.there)) (by repeat (first | exact Del.here _ | apply Del.there)) Tryz.underlying127 HLF.info5 (by rfl) (by rfl) (by simp [wordP]) (by unfold maxLen; simp [wordP]) rfl (fun V12 => ?_)
        refine Tr.hN ?_
        refine Tr.hT 11 rfl (by kernel_rfl) (panicThen (panicThen panicBody)) (QS.assign rfl) ?_
        refine Tr.hDone (by kernel_rfl) ?_
        refine Tr.thenN ?_
        refine Tr.ret ?_
        refine Tr.thenR ?_
        refine Tr.ret1 Tryz.results115 rfl (fun w' hw => ?_)
        exact ⟨_, rfl, hw.below (Bg.le.refl _), by unfold bytesP; (repeat (first | rw [if_pos (by first | assumption | omega | grind)] | rw [if_neg (by first | assumption | omega | grind)])); exact hw.new (.head _)⟩
  · try simp only [bs] at h2
    refine Tr.skip ?_
    refine Tr.thenN ?_
    refine Tr.seq ?_
    refine Tr.seq ?_
    refine Tr.region ?_
    refine Tr.q (QS.fieldAddr (off := 2) (ft := 3) rfl Tryz.underlying35 rfl rfl Tryz.sizeOf3 (by decide)) rfl ?_
    refine Tr.q (QS.lV rfl Tryz.isAgg3) rfl ?_
    refine Tr.q (QS.call rfl Tryz.call136 (fun w hw => isAccess_any i.op w)) rfl ?_
    refine Tr.nil ?_
    refine Tr.thenN ?_
    refine Tr.cond rfl (fun h13 => ?_) (fun h13 => ?_)
    · try simp only [bs] at h13
      refine Tr.seq ?_
      refine Tr.regionH ([cellE b1 (encIns.enc i) 35]) 10 rfl HLF.mixed ?_
      refine Tr.hT 0 rfl (by kernel_rfl) (panicThen (panicThen panicBody)) (QS.lW rfl Tryz.isAgg35 Tryz.sizeOf35) ?_
      refine Tr.hT 3 rfl (by kernel_rfl) (panicThen (panicThen panicBody)) (QS.move rfl) ?_
      refine Tr.hT 4 rfl (by kernel_rfl) (panicThen (panicThen panicBody)) (QS.fieldAddr (off := 1) (ft := 33) rfl Tryz.underlying35 rfl rfl Tryz.sizeOf33 (by decide)) ?_
      refine Tr.hT 5 rfl (by kernel_rfl) (panicThen (panicThen panicBody)) (QS.lV rfl Tryz.isAgg33) ?_
      refine Tr.hT 6 rfl (by kernel_rfl) (panicThen (panicThen panicBody)) (QS.rem32 (n := 256) rfl rfl (by first | decide | assumption)) ?_
      refine Tr.hT 7 rfl (by kernel_rfl) (panicThen (panicThen panicBody)) (QS.cvt32to8 rfl Tryz.underlying33 Tryz.underlying5) ?_
      refine Tr.hAll [1] (by kernel_rfl) (by simp) (fun iq hq => ?_)
      obtain rfl := List.mem_singleton.1 hq
      refine Tr.hOp rfl ?_
      refine Tr.q (QS.call rfl Tryz.call147 (fun w hw => accCode_any i w hwd)) rfl ?_
      refine Tr.hN ?_
      refine Tr.hT 2 rfl (by kernel_rfl) (panicThen (panicThen panicBody)) (QS.cvtTo8 rfl Tryz.underlying3 Tryz.underlying5) ?_
      refine Tr.hAll [8] (by kernel_rfl) (by simp) (fun iq hq => ?_)
      obtain rfl := List.mem_singleton.1 hq
      refine Tr.hOp rfl ?_
      refine Tr.litN (E := encU8) [u8 (accCodeP i), u8 (16 * i.a + i.b), (i.imm % 256).toUInt8] (vs := [(0, _), (1, _), (2, _)]) rfl rfl Tryz.underlying127 Tryz.sizeOf5 Tryz.zeroValue5 (by rfl) (by rfl) rfl (by first | kernel_rfl | rfl) rfl (fun V14 => ?_)
      refine Tr.hN ?_
      refine Tr.hT 9 rfl (by kernel_rfl) (panicThen (panicThen panicBody)) (QS.assign rfl) ?_
      refine Tr.hDone (by kernel_rfl) ?_
      refine Tr.thenN ?_
      refine Tr.ret ?_
      refine Tr.thenR ?_
      refine Tr.ret1 Tryz.results115 rfl (fun w' hw => ?_)
      exact ⟨_, rfl, hw.below (Bg.le.refl _), by unfold bytesP; (repeat (first | rw [if_pos (by first | assumption | omega | grind)] | rw [if_neg (by first | assumption | omega | grind)])); exact hw.new (.head _)⟩
    · try simp only [bs] at h13
      refine Tr.skip ?_
      refine Tr.thenN ?_
      refine Tr.seq ?_
      refine Tr.seq ?_
      refine Tr.region ?_
      refine Tr.q (QS.fieldAddr (off := 2) (ft := 3) rfl Tryz.underlying35 rfl rfl Tryz.sizeOf3 (by decide)) rfl ?_
      refine Tr.q (QS.lV rfl Tryz.isAgg3) rfl ?_
      refine Tr.nil ?_
      refine Tr.thenN ?_
      refine Tr.block ?_
      refine Tr.seq ?_
      refine Tr.region ?_
      refine Tr.q (QS.eql rfl rfl) rfl ?_
      refine Tr.q (QS.assign rfl) rfl ?_
      refine Tr.nil ?_
      refine Tr.thenN ?_
      refine Tr.cond rfl (fun h15 => ?_) (fun h15 => ?_)
      · try simp only [bs] at h15
        refine Tr.seq ?_
        refine Tr.region ?_
        refine Tr.q (QS.move rfl) rfl ?_
        refine Tr.q (QS.fieldAddr (off := 1) (ft := 33) rfl Tryz.underlying35 rfl rfl Tryz.sizeOf33 (by decide)) rfl ?_
        refine Tr.q (QS.lV rfl Tryz.isAgg33) rfl ?_
        refine Tr.q (QS.rem32 (n := 256) rfl rfl (by first | decide | assumption)) rfl ?_
        refine Tr.q (QS.cvt32to8 rfl Tryz.underlying33 Tryz.underlying5) rfl ?_
        refine Tr.litN (E := encU8) [90, u8 (16 * i.a + i.b), (i.imm % 256).toUInt8] (vs := [(0, _), (1, _), (2, _)]) rfl rfl Tryz.underlying127 Tryz.sizeOf5 Tryz.zeroValue5 (by rfl) (by rfl) rfl (by first | kernel_rfl | rfl) rfl (fun V16 => ?_)
        refine Tr.q (QS.assign rfl) rfl ?_
        refine Tr.nil ?_
        refine Tr.thenN ?_
        refine Tr.ret ?_
        refine Tr.inR ?_
        refine Tr.thenR ?_
        refine Tr.ret1 Tryz.results115 rfl (fun w' hw => ?_)
        exact ⟨_, rfl, hw.below (Bg.le.refl _), by unfold bytesP; (repeat (first | rw [if_pos (by first | assumption | omega | grind)] | rw [if_neg (by first | assumption | omega | grind)])); exact hw.new (.head _)⟩
      · try simp only [bs] at h15
        refine Tr.seq ?_
        refine Tr.region ?_
        refine Tr.q (QS.eql rfl rfl) rfl ?_
        refine Tr.q (QS.assign rfl) rfl ?_
        refine Tr.nil ?_
        refine Tr.thenN ?_
        refine Tr.cond rfl (fun h17 => ?_) (fun h17 => ?_)
        · try simp only [bs] at h17
          refine Tr.seq ?_
          refine Tr.seq ?_
          refine Tr.region ?_
          refine Tr.q (QS.fieldAddr (off := 3) (ft := 3) rfl Tryz.underlying35 rfl rfl Tryz.sizeOf3 (by decide)) rfl ?_
          refine Tr.q (QS.lV rfl Tryz.isAgg3) rfl ?_
          refine Tr.q (QS.eql rfl rfl) rfl ?_
          refine Tr.nil ?_
          refine Tr.thenN ?_
          refine Tr.cond rfl (fun h18 => ?_) (fun h18 => ?_)
          · try simp only [bs] at h18
            refine Tr.seq ?_
            refine Tr.region ?_
            refine Tr.q (QS.fieldAddr (off := 5) (ft := 3) rfl Tryz.underlying35 rfl rfl Tryz.sizeOf3 (by decide)) rfl ?_
            refine Tr.q (QS.lV rfl Tryz.isAgg3) rfl ?_
            refine Tr.q (QS.addI rfl rfl (by omega)) rfl ?_
            refine Tr.q (QS.cvtTo8 rfl Tryz.underlying3 Tryz.underlying5) rfl ?_
            refine Tr.q (QS.fieldAddr (off := 1) (ft := 33) rfl Tryz.underlying35 rfl rfl Tryz.sizeOf33 (by decide)) rfl ?_
            refine Tr.q (QS.lV rfl Tryz.isAgg33) rfl ?_
            refine Tr.q (QS.fieldAddr (off := 0) (ft := 33) rfl Tryz.underlying35 rfl rfl Tryz.sizeOf33 (by decide)) rfl ?_
            refine Tr.q (QS.lV rfl Tryz.isAgg33) rfl ?_
            refine Tr.q (QS.sub32 rfl rfl) rfl ?_
            refine Tr.q (QS.sub32 (n := 2) rfl rfl) rfl ?_
            refine Tr.q (QS.rem32 (n := 256) rfl rfl (by first | decide | assumption)) rfl ?_
            refine Tr.q (QS.cvt32to8 rfl Tryz.underlying33 Tryz.underlying5) rfl ?_
            refine Tr.litN (E := encU8) [u8 (96 + i.cc), ((i.imm - i.addr - 2) % 256).toUInt8] (vs := [(0, _), (1, _)]) rfl rfl Tryz.underlying127 Tryz.sizeOf5 Tryz.zeroValue5 (by rfl) (by rfl) rfl (by first | kernel_rfl | rfl) rfl (fun V19 => ?_)
            refine Tr.q (QS.assign rfl) rfl ?_
            refine Tr.nil ?_
            refine Tr.thenN ?_
            refine Tr.ret ?_
            refine Tr.thenR ?_
            refine Tr.inR ?_
            refine Tr.thenR ?_
            refine Tr.ret1 Tryz.results115 rfl (fun w' hw => ?_)
            exact ⟨_, rfl, hw.below (Bg.le.refl _), by unfold bytesP; (repeat (first | rw [if_pos (by first | assumption | omega | grind)] | rw [if_neg (by first | assumption | omega | grind)])); exact hw.new (.head _)⟩
          · try simp only [bs] at h18
            refine Tr.skip ?_
            refine Tr.thenN ?_
            refine Tr.seq ?_
            refine Tr.regionH ([cellE b1 (encIns.enc i) 35]) 14 rfl HLF.mixed ?_
            refine Tr.hT 0 rfl (by kernel_rfl) (panicThen (panicIn (panicThen panicBody))) (QS.fieldAddr (off := 5) (ft := 3) rfl Tryz.underlying35 rfl rfl Tryz.sizeOf3 (by decide)) ?_
            refine Tr.hT 1 rfl (by kernel_rfl) (panicThen (panicIn (panicThen panicBody))) (QS.lV rfl Tryz.isAgg3) ?_
            refine Tr.hT 2 rfl (by kernel_rfl) (panicThen (panicIn (panicThen panicBody))) (QS.addI rfl rfl (by omega)) ?_
            refine Tr.hT 3 rfl (by kernel_rfl) (panicThen (panicIn (panicThen panicBody))) (QS.cvtTo8 rfl Tryz.underlying3 Tryz.underlying5) ?_
            refine Tr.hT 5 rfl (by kernel_rfl) (panicThen (panicIn (panicThen panicBody))) (QS.fieldAddr (off := 1) (ft := 33) rfl Tryz.underlying35 rfl rfl Tryz.sizeOf33 (by decide)) ?_
            refine Tr.hT 6 rfl (by kernel_rfl) (panicThen (panicIn (panicThen panicBody))) (QS.lV rfl Tryz.isAgg33) ?_
            refine Tr.hT 7 rfl (by kernel_rfl) (panicThen (panicIn (panicThen panicBody))) (QS.fieldAddr (off := 0) (ft := 33) rfl Tryz.underlying35 rfl rfl Tryz.sizeOf33 (by decide)) ?_
            refine Tr.hT 8 rfl (by kernel_rfl) (panicThen (panicIn (panicThen panicBody))) (QS.lV rfl Tryz.isAgg33) ?_
            refine Tr.hT 9 rfl (by kernel_rfl) (panicThen (panicIn (panicThen panicBody))) (QS.sub32 rfl rfl) ?_
            refine Tr.hT 10 rfl (by kernel_rfl) (panicThen (panicIn (panicThen panicBody))) (QS.sub32 (n := 5) rfl rfl) ?_
            refine Tr.hAll [4, 11] (by kernel_rfl) (by simp) (fun iq hq => ?_)
            rcases List.mem_cons.1 hq with rfl | hq
            · skip
              refine Tr.hOp rfl ?_
              refine Tr.lit1 (E := encU8) _ rfl rfl Tryz.underlying127 Tryz.sizeOf5 Tryz.zeroValue5 (by rfl) (by rfl) rfl (fun V20 => ?_)
              refine Tr.hN ?_
              refine Tr.hAll [11] (by kernel_rfl) (by simp) (fun iq hq => ?_)
              obtain rfl := List.mem_singleton.1 hq
              refine Tr.hOp rfl ?_
              refine Tr.callRow rfl Tryz.call146 (fun w hw => word_any (i.imm - i.addr - 5) w) rfl (fun V21 => ?_)
              refine Tr.hN ?_
              refine Tr.hAll [12] (by kernel_rfl) (by simp) (fun iq hq => ?_)
              obtain rfl := List.mem_singleton.1 hq
              refine Tr.hOp rfl ?_
              refine Tr.append1 rfl rfl (by repeat (first | exact Del.here _ | apply Del.there)) (by repeat (first | exact Del.here _ | apply Del.there)) Tryz.underlying127 HLF.info5 (by rfl) (by rfl) (by simp [wordP]) (by unfold maxLen; simp [wordP]) rfl (fun V22 => ?_)
              refine Tr.hN ?_
              refine Tr.hT 13 rfl (by kernel_rfl) (panicThen (panicIn (panicThen panicBody))) (QS.assign rfl) ?_
              refine Tr.hDone (by kernel_rfl) ?_
              refine Tr.thenN ?_
              refine Tr.ret ?_
              refine Tr.inR ?_
              refine Tr.thenR ?_
              refine Tr.ret1 Tryz.results115 rfl (fun w' hw => ?_)
              exact ⟨_, rfl, hw.below (Bg.le.refl _), by unfold bytesP; (repeat (first | rw [if_pos (by first | assumption | omega | grind)] | rw [if_neg (by first | assumption | omega | grind)])); exact hw.new (.head _)⟩
            obtain rfl := List.mem_singleton.1 hq
            refine Tr.hOp rfl ?_
            refine Tr.callRow rfl Tryz.call146 (fun w hw => word_any (i.imm - i.addr - 5) w) rfl (fun V23 => ?_)
            refine Tr.hN ?_
            refine Tr.hAll [4] (by kernel_rfl) (by simp) (fun iq hq => ?_)
            obtain rfl := List.mem_singleton.1 hq
            refine Tr.hOp rfl ?_
            refine Tr.lit1 (E := encU8) _ rfl rfl Tryz.underlying127 Tryz.sizeOf5 Tryz.zeroValue5 (by rfl) (by rfl) rfl (fun V24 => ?_)
            refine Tr.hN ?_
            refine Tr.hAll [12] (by kernel_rfl) (by simp) (fun iq hq => ?_)
            obtain rfl := List.mem_singleton.1 hq
            refine Tr.hOp rfl ?_
            refine Tr.append1 rfl rfl (by repeat (first | exact Del.here _ | apply Del.there)) (by repeat (first | exact Del.here _ | apply Del.there)) Tryz.underlying127 HLF.info5 (by rfl) (by rfl) (by simp [wordP]) (by unfold maxLen; simp [wordP]) rfl (fun V25 => ?_)
            refine Tr.hN ?_
            refine Tr.hT 13 rfl (by kernel_rfl) (panicThen (panicIn (panicThen panicBody))) (QS.assign rfl) ?_
            refine Tr.hDone (by kernel_rfl) ?_
            refine Tr.thenN ?_
            refine Tr.ret ?_
            refine Tr.inR ?_
            refine Tr.thenR ?_
            refine Tr.ret1 Tryz.results115 rfl (fun w' hw => ?_)
            exact ⟨_, rfl, hw.below (Bg.le.refl _), by unfold bytesP; (repeat (first | rw [if_pos (by first | assumption | omega | grind)] | rw [if_neg (by first | assumption | omega | grind)])); exact hw.new (.head _)⟩
        · try simp only [bs] at h17
          refine Tr.seq ?_
          refine Tr.region ?_
          refine Tr.q (QS.eql rfl rfl) rfl ?_
          refine Tr.q (QS.assign rfl) rfl ?_
          refine Tr.nil ?_
          refine Tr.thenN ?_
          refine Tr.cond rfl (fun h26 => ?_) (fun h26 => ?_)
          · try simp only [bs] at h26
            refine Tr.seq ?_
            refine Tr.region ?_
            refine Tr.lit1 (E := encU8) (128 : UInt8) rfl rfl Tryz.underlying127 Tryz.sizeOf5 Tryz.zeroValue5 (by rfl) (by rfl) rfl (fun V27 => ?_)
            refine Tr.q (QS.fieldAddr (off := 1) (ft := 33) rfl Tryz.underlying35 rfl rfl Tryz.sizeOf33 (by decide)) rfl ?_
            refine Tr.q (QS.lV rfl Tryz.isAgg33) rfl ?_
            refine Tr.q (QS.fieldAddr (off := 0) (ft := 33) rfl Tryz.underlying35 rfl rfl Tryz.sizeOf33 (by decide)) rfl ?_
            refine Tr.q (QS.lV rfl Tryz.isAgg33) rfl ?_
            refine Tr.q (QS.sub32 rfl rfl) rfl ?_
            refine Tr.q (QS.sub32 (n := 5) rfl rfl) rfl ?_
            refine Tr.callRow rfl Tryz.call146 (fun w hw => word_any (i.imm - i.addr - 5) w) rfl (fun V28 => ?_)
            refine Tr.append1 rfl rfl (by repeat (first | exact Del.here _ | apply Del.there)) (by repeat (first | exact Del.here _ | apply Del.there)) Tryz.underlying127 HLF.info5 (by rfl) (by rfl) (by simp [wordP]) (by unfold maxLen; simp [wordP]) rfl (fun V29 => ?_)
            refine Tr.q (QS.assign rfl) rfl ?_
            refine Tr.nil ?_
            refine Tr.thenN ?_
            refine Tr.ret ?_
            refine Tr.inR ?_
            refine Tr.thenR ?_
            refine Tr.ret1 Tryz.results115 rfl (fun w' hw => ?_)
            exact ⟨_, rfl, hw.below (Bg.le.refl _), by unfold bytesP; (repeat (first | rw [if_pos (by first | assumption | omega | grind)] | rw [if_neg (by first | assumption | omega | grind)])); exact hw.new (.head _)⟩
          · try simp only [bs] at h26
            refine Tr.seq ?_
            refine Tr.region ?_
            refine Tr.q (QS.eql rfl rfl) rfl ?_
            refine Tr.q (QS.assign rfl) rfl ?_
            refine Tr.nil ?_
            refine Tr.thenN ?_
            refine Tr.cond rfl (fun h30 => ?_) (fun h30 => ?_)
            · try simp only [bs] at h30
              refine Tr.seq ?_
              refine Tr.regionH ([cellE b1 (encIns.enc i) 35]) 9 rfl HLF.mixed ?_
              refine Tr.hT 0 rfl (by kernel_rfl) (panicThen (panicIn (panicThen panicBody))) (QS.fieldAddr (off := 6) (ft := 3) rfl Tryz.underlying35 rfl rfl Tryz.sizeOf3 (by decide)) ?_
              refine Tr.hT 1 rfl (by kernel_rfl) (panicThen (panicIn (panicThen panicBody))) (QS.lV rfl Tryz.isAgg3) ?_
              refine Tr.hT 2 rfl (by kernel_rfl) (panicThen (panicIn (panicThen panicBody))) (QS.cvtTo8 rfl Tryz.underlying3 Tryz.underlying5) ?_
              refine Tr.hT 4 rfl (by kernel_rfl) (panicThen (panicIn (panicThen panicBody))) (QS.fieldAddr (off := 1) (ft := 33) rfl Tryz.underlying35 rfl rfl Tryz.sizeOf33 (by decide)) ?_
              refine Tr.hT 5 rfl (by kernel_rfl) (panicThen (panicIn (panicThen panicBody))) (QS.lV rfl Tryz.isAgg33) ?_
              refine Tr.hAll [3, 6] (by kernel_rfl) (by simp) (fun iq hq => ?_)
              rcases List.mem_cons.1 hq with rfl | hq
              · skip
                refine Tr.hOp rfl ?_
                refine Tr.litN (E := encU8) [131, u8 i.a] (vs := [(0, _), (1, _)]) rfl rfl Tryz.underlying127 Tryz.sizeOf5 Tryz.zeroValue5 (by rfl) (by rfl) rfl (by first | kernel_rfl | rfl) rfl (fun V31 => ?_)
                refine Tr.hN ?_
                refine Tr.hAll [6] (by kernel_rfl) (by simp) (fun iq hq => ?_)
                obtain rfl := List.mem_singleton.1 hq
                refine Tr.hOp rfl ?_
                refine Tr.callRow rfl Tryz.call146 (fun w hw => word_any i.imm w) rfl (fun V32 => ?_)
                refine Tr.hN ?_
                refine Tr.hAll [7] (by kernel_rfl) (by simp) (fun iq hq => ?_)
                obtain rfl := List.mem_singleton.1 hq
                refine Tr.hOp rfl ?_
                refine Tr.append1 rfl rfl (by repeat (first | exact Del.here _ | apply Del.there)) (by repeat (first | exact Del.here _ | apply Del.there)) Tryz.underlying127 HLF.info5 (by rfl) (by rfl) (by simp [wordP]) (by unfold maxLen; simp [wordP]) rfl (fun V33 => ?_)
                refine Tr.hN ?_
                refine Tr.hT 8 rfl (by kernel_rfl) (panicThen (panicIn (panicThen panicBody))) (QS.assign rfl) ?_
                refine Tr.hDone (by kernel_rfl) ?_
                refine Tr.thenN ?_
                refine Tr.ret ?_
                refine Tr.inR ?_
                refine Tr.thenR ?_
                refine Tr.ret1 Tryz.results115 rfl (fun w' hw => ?_)
                exact ⟨_, rfl, hw.below (Bg.le.refl _), by unfold bytesP; (repeat (first | rw [if_pos (by first | assumption | omega | grind)] | rw [if_neg (by first | assumption | omega | grind)])); exact hw.new (.head _)⟩
              obtain rfl := List.mem_singleton.1 hq
              refine Tr.hOp rfl ?_
              refine Tr.callRow rfl Tryz.call146 (fun w hw => word_any i.imm w) rfl (fun V34 => ?_)
              refine Tr.hN ?_
              refine Tr.hAll [3] (by kernel_rfl) (by simp) (fun iq hq => ?_)
              obtain rfl := List.mem_singleton.1 hq
              refine Tr.hOp rfl ?_
              refine Tr.litN (E := encU8) [131, u8 i.a] (vs := [(0, _), (1, _)]) rfl rfl Tryz.underlying127 Tryz.sizeOf5 Tryz.zeroValue5 (by rfl) (by rfl) rfl (by first | kernel_rfl | rfl) rfl (fun V35 => ?_)
              refine Tr.hN ?_
              refine Tr.hAll [7] (by kernel_rfl) (by simp) (fun iq hq => ?_)
              obtain rfl := List.mem_singleton.1 hq
              refine Tr.hOp rfl ?_
              refine Tr.append1 rfl rfl (by repeat (first | exact Del.here _ | apply Del.there)) (by repeat (first | exact Del.here _ | apply Del.there)) Tryz.underlying127 HLF.info5 (by rfl) (by rfl) (by simp [wordP]) (by unfold maxLen; simp [wordP]) rfl (fun V36 => ?_)
              refine Tr.hN ?_
              refine Tr.hT 8 rfl (by kernel_rfl) (panicThen (panicIn (panicThen panicBody))) (QS.assign rfl) ?_
              refine Tr.hDone (by kernel_rfl) ?_
              refine Tr.thenN ?_
              refine Tr.ret ?_
              refine Tr.inR ?_
              refine Tr.thenR ?_
              refine Tr.ret1 Tryz.results115 rfl (fun w' hw => ?_)
              exact ⟨_, rfl, hw.below (Bg.le.refl _), by unfold bytesP; (repeat (first | rw [if_pos (by first | assumption | omega | grind)] | rw [if_neg (by first | assumption | omega | grind)])); exact hw.new (.head _)⟩
            · try simp only [bs] at h30
              refine Tr.skip ?_
              refine Tr.inN ?_
              refine Tr.thenN ?_
              refine Tr.seq ?_
              refine Tr.region ?_
              refine Tr.q (QS.lW rfl Tryz.isAgg35 Tryz.sizeOf35) rfl ?_
              refine Tr.callRow rfl Tryz.call148 (fun w hw => plain_any i w hcc) rfl (fun V37 => ?_)
              refine Tr.q (QS.assign rfl) rfl ?_
              refine Tr.nil ?_
              refine Tr.thenN ?_
              refine Tr.ret ?_
              refine Tr.ret1 Tryz.results115 rfl (fun w' hw => ?_)
              exact ⟨_, rfl, hw.below (Bg.le.refl _), by unfold bytesP; (repeat (first | rw [if_pos (by first | assumption | omega | grind)] | rw [if_neg (by first | assumption | omega | grind)])); exact hw.new (.head _)⟩
set_option maxRecDepth 100000 in
set_option maxHeartbeats 2000000 in
theorem refLength_any (i : Ins) (w : World) (hI : InsOK i) :
    Calls Tryz.prog 87 #[.agg (encIns.enc i).toArray] w (fun e w' => e = .returned (.int .i64 (refLenP i)) ∧ Ext w w') := by
  refine enter Tryz.func87 rfl Tryz.ntmps87 rfl ?_
  refine Tr.seq ?_
  refine Tr.region ?_
  refine Tr.box rfl rfl rfl (fun b1 => ?_)
  refine Tr.q (QS.assign rfl) rfl ?_
  refine Tr.nil ?_
  refine Tr.thenN ?_
  refine Tr.seq ?_
  refine Tr.seq ?_
  refine Tr.region ?_
  refine Tr.q (QS.lW rfl Tryz.isAgg35 Tryz.sizeOf35) rfl ?_
  refine Tr.q (QS.call rfl Tryz.call84 (fun w hw => refValid_any i w)) rfl ?_
  refine Tr.q (QS.not rfl) rfl ?_
  refine Tr.nil ?_
  refine Tr.thenN ?_
  refine Tr.cond rfl (fun h2 => ?_) (fun h2 => ?_)
  · try simp only [bs] at h2
    refine Tr.seq ?_
    refine Tr.region ?_
    refine Tr.q (QS.assign rfl) rfl ?_
    refine Tr.nil ?_
    refine Tr.thenN ?_
    refine Tr.ret ?_
    refine Tr.thenR ?_
    refine Tr.ret1 Tryz.results87 rfl (fun w' hw => ?_)
    exact ⟨by unfold refLenP; rw [if_neg (by assumption)], hw.below (Bg.le.refl _)⟩
  · try simp only [bs] at h2
    refine Tr.skip ?_
    refine Tr.thenN ?_
    refine Tr.seq ?_
    have he : refErrP i = 0 := (by first | assumption | grind)
    have hv := refErr_valid he
    refine Tr.region ?_
    refine Tr.q (QS.lW rfl Tryz.isAgg35 Tryz.sizeOf35) rfl ?_
    refine Tr.callRow rfl Tryz.call115 (fun w hw => bytesOf_any i w hv.1 hv.2.1 hv.2.2.1 hv.2.2.2.1 hv.2.2.2.2) rfl (fun V3 => ?_)
    refine Tr.q (QS.lenRow rfl (by repeat (first | exact List.Mem.head _ | apply List.Mem.tail)) Tryz.underlying127) rfl ?_
    refine Tr.q (QS.assign rfl) rfl ?_
    refine Tr.nil ?_
    refine Tr.thenN ?_
    refine Tr.ret ?_
    refine Tr.ret1 Tryz.results87 rfl (fun w' hw => ?_)
    exact ⟨by unfold refLenP; rw [if_pos he], hw.below (Bg.le.refl _)⟩
end Go.Proofs.YtmhbfelnjkhepaaGreat
namespace Go.HL
open Go
def pairsOf (l : List Rng) : List UInt32 := l.flatMap fun r => [r.lo, r.hi]
theorem pairs_take_succ {l : List Rng} {k : Nat} (h : k < l.length) : pairsOf (l.take (k + 1)) = pairsOf (l.take k) ++ [(l.getD k default).lo] ++ [(l.getD k default).hi] := by
  rw [take_succ h]; simp only [pairsOf, List.flatMap_append, List.flatMap_cons, List.flatMap_nil, List.append_nil, List.append_assoc]; rfl
theorem pairs_len : ∀ l : List Rng, (pairsOf l).length = 2 * l.length
  | [] => rfl
  | r :: l => by have := pairs_len l; simp only [pairsOf, List.flatMap_cons, List.length_append, List.length_cons, List.length_nil] at *; omega
def lastU (out : List UInt32) : UInt32 := out.getD ((out.length : Int) - 1).toNat default
def scanStep (out : List UInt32) (s : UInt32 × Bool) (x : UInt32) : UInt32 × Bool :=
  if ((out.length : Int) = 0 ∨ lastU out < x) ∧ (s.2 = false ∨ x < s.1) then (x, true) else s
theorem scanStep_neg {out : List UInt32} {s : UInt32 × Bool} {x : UInt32} (h : (¬ (out.length : Int) = 0 ∧ ¬ lastU out < x) ∨ (s.2 = true ∧ ¬ x < s.1)) : scanStep out s x = s := by
  unfold scanStep
  rw [if_neg]
  rintro ⟨h1, h2⟩
  rcases h with h | h
  · exact h1.elim h.1 h.2
  · rcases h2 with h2 | h2
    · rw [h.1] at h2; simp at h2
    · exact h.2 h2
def scan (all out : List UInt32) : UInt32 × Bool := all.foldl (scanStep out) (0, false)
def boundsF (all : List UInt32) : Nat → List UInt32 → List UInt32
  | 0, out => out
  | n + 1, out => if (scan all out).2 = false then out else boundsF all n (out ++ [(scan all out).1])
def boundsP (a b : List Rng) : List UInt32 := boundsF (pairsOf a ++ pairsOf b) (pairsOf a ++ pairsOf b).length []
theorem boundsF_len (all : List UInt32) : ∀ n out, (boundsF all n out).length ≤ out.length + n
  | 0, out => by simp [boundsF]
  | n + 1, out => by
    unfold boundsF; split
    · omega
    · have := boundsF_len all n (out ++ [(scan all out).1]); simp at this; omega
def inC (a b : List Rng) (both without : Bool) (c : UInt32) : Bool :=
  if (without && b.any (inR c)) = true then false else (a.any (inR c) || (both && b.any (inR c)))
def chStep (a b : List Rng) (both without : Bool) (cuts : List UInt32) (out : List Rng) (i : Nat) : List Rng :=
  if inC a b both without (cuts.getD i default) = true then
    (if 0 < (out.length : Int) ∧ (lastR out).hi = cuts.getD i default then out.set ((out.length : Int) - 1).toNat ⟨(lastR out).lo, cuts.getD (i + 1) default⟩ else out ++ [⟨cuts.getD i default, cuts.getD (i + 1) default⟩])
  else out
theorem inC_cut {a b : List Rng} {both without : Bool} {c : UInt32} (h : without = true ∧ b.any (inR c) = true) : inC a b both without c = false := by
  rw [inC, if_pos (by rw [h.1, h.2]; rfl)]
theorem inC_eq {a b : List Rng} {both without : Bool} {c : UInt32} (h : without = false ∨ b.any (inR c) = false) : inC a b both without c = (a.any (inR c) || (both && b.any (inR c))) := by
  rw [inC, if_neg]
  rcases h with h | h <;> rw [h] <;> simp
theorem inC_no {a b : List Rng} {both without : Bool} {c : UInt32} (h : without = false ∨ b.any (inR c) = false) (h2 : a.any (inR c) = false ∧ (both = false ∨ b.any (inR c) = false)) : inC a b both without c = false := by
  rw [inC_eq h, h2.1]
  rcases h2.2 with h2 | h2 <;> rw [h2] <;> simp
theorem inC_yes {a b : List Rng} {both without : Bool} {c : UInt32} (h : without = false ∨ b.any (inR c) = false) (h2 : a.any (inR c) = true ∨ both = true ∧ b.any (inR c) = true) : inC a b both without c = true := by
  rw [inC_eq h]
  rcases h2 with h2 | ⟨h2, h3⟩
  · rw [h2]; rfl
  · rw [h2, h3]; simp
theorem chStep_no {a b : List Rng} {both without : Bool} {cuts : List UInt32} {out : List Rng} {i : Nat} (h : inC a b both without (cuts.getD i default) = false) : chStep a b both without cuts out i = out := by
  rw [chStep, if_neg (by rw [h]; simp)]
theorem chStep_set {a b : List Rng} {both without : Bool} {cuts : List UInt32} {out : List Rng} {i : Nat} (h : inC a b both without (cuts.getD i default) = true) (h2 : 0 < (out.length : Int) ∧ (lastR out).hi = cuts.getD i default) :
    chStep a b both without cuts out i = out.set ((out.length : Int) - 1).toNat ⟨(lastR out).lo, cuts.getD (i + 1) default⟩ := by rw [chStep, if_pos h, if_pos h2]
theorem chStep_app {a b : List Rng} {both without : Bool} {cuts : List UInt32} {out : List Rng} {i : Nat} (h : inC a b both without (cuts.getD i default) = true) (h2 : ¬ 0 < (out.length : Int) ∨ ¬ (lastR out).hi = cuts.getD i default) :
    chStep a b both without cuts out i = out ++ [⟨cuts.getD i default, cuts.getD (i + 1) default⟩] := by rw [chStep, if_pos h, if_neg (fun q => h2.elim (fun z => z q.1) (fun z => z q.2))]
def chF (a b : List Rng) (both without : Bool) (cuts : List UInt32) (k : Nat) : List Rng := (List.range k).foldl (chStep a b both without cuts) []
def chooseP (a b : List Rng) (both without : Bool) : List Rng := chF a b both without (boundsP a b) ((boundsP a b).length - 1)
theorem chF_succ (a b : List Rng) (both without : Bool) (cuts : List UInt32) (k : Nat) : chF a b both without cuts (k + 1) = chStep a b both without cuts (chF a b both without cuts k) k := by
  simp [chF, List.range_succ]
theorem chF_len (a b : List Rng) (both without : Bool) (cuts : List UInt32) : ∀ k, (chF a b both without cuts k).length ≤ k
  | 0 => by simp [chF]
  | k + 1 => by
    have := chF_len a b both without cuts k
    rw [chF_succ]; unfold chStep; split
    · split <;> simp <;> omega
    · omega
theorem boundsP_len (a b : List Rng) : (boundsP a b).length ≤ 2 * a.length + 2 * b.length := by
  have := boundsF_len (pairsOf a ++ pairsOf b) (pairsOf a ++ pairsOf b).length []
  simp only [List.length_append, pairs_len, List.length_nil] at this
  unfold boundsP; simp only [List.length_append, pairs_len]; omega
end Go.HL
namespace Go.Proofs.YtmhbfelnjkhepaaGreat
open Go Go.HL Go.RowKit
set_option maxRecDepth 100000 in
set_option maxHeartbeats 2000000 in
theorem bounds_any (a b : List Rng) (V W : Value) (w : World) (hV : Sl (hp w) encRng a V) (hW : Sl (hp w) encRng b W) (ha : a.length ≤ 1000000) (hb : b.length ≤ 1000000) :
    Calls Tryz.prog 116 #[V, W] w (fun e w' => ∃ V', e = .returned V' ∧ Ext w w' ∧ NewRow w w' 33 encU32 (boundsP a b) V') := by
  have hV' : Sl (Bg.of w).blk encRng a V := hV
  have hW' : Sl (Bg.of w).blk encRng b W := hW
  refine enter Tryz.func116 rfl Tryz.ntmps116 rfl ?_
  refine Tr.seq ?_
  refine Tr.region ?_
  refine Tr.q (QS.assign rfl) rfl ?_
  refine Tr.nil ?_
  refine Tr.thenN ?_
  refine Tr.seq ?_
  refine Tr.region ?_
  refine Tr.q (QS.assign rfl) rfl ?_
  refine Tr.nil ?_
  refine Tr.thenN ?_
  refine Tr.seq ?_
  refine Tr.seq ?_
  refine Tr.region ?_
  refine Tr.q (QS.assign rfl) rfl ?_
  refine Tr.nil ?_
  refine Tr.thenN ?_
  refine Tr.block ?_
  refine Tr.ownNil 33 encU32 ?_
  refine Tr.loop (ι := Nat × Value) (fun ⟨k, V'⟩ => k ≤ a.length) (fun _ => _) (fun ⟨k, V'⟩ => [rowE V' 33 encU32 (pairsOf (a.take k))]) (fun ⟨k, V'⟩ => [(6, .int .i64 (k : Nat)), (5, V')]) (fun ⟨k, V'⟩ => a.length - k) (0, _) (Nat.zero_le _) (.cons (by first | rfl | exact lookI rfl (by omega) | exact lookI rfl (by simp) | exact lookB rfl (by simp)) (.cons (by first | rfl | exact lookI rfl (by omega) | exact lookI rfl (by simp) | exact lookB rfl (by simp)) Front.nil)) (by repeat' (first | exact Pick.nil _ | exact Del.here _ | apply Pick.cons | apply Del.there)) rfl (fun i hi m hm => ?_)
  obtain ⟨k, V'⟩ := i
  replace hi : k ≤ a.length := hi
  replace hm : m = a.length - k := hm
  change Tr _ _ [rowE V' 33 encU32 (pairsOf (a.take k))] ([(6, .int .i64 (k : Nat)), (5, V')] ++ _) _
  have hpl := pairs_len (a.take k)
  simp only [List.length_take] at hpl
  have hpa := pairs_len a
  refine Tr.seq ?_
  refine Tr.seq ?_
  refine Tr.region ?_
  refine Tr.q (QS.move rfl) rfl ?_
  refine Tr.q (QS.move rfl) rfl ?_
  refine Tr.q (QS.len rfl (by assumption) Tryz.underlying45) rfl ?_
  refine Tr.q (QS.lss rfl rfl) rfl ?_
  refine Tr.nil ?_
  refine Tr.thenN ?_
  refine Tr.cond rfl (fun h1 => ?_) (fun h1 => ?_)
  · try simp only [Bool.and_eq_true, Bool.or_eq_true, Bool.not_eq_true', Bool.not_eq_false', decide_eq_true_eq, decide_eq_false_iff_not, Bool.and_eq_false_iff, Bool.or_eq_false_iff, ne_eq, Decidable.not_not] at h1
    refine Tr.skip ?_
    refine Tr.thenN ?_
    refine Tr.seq ?_
    refine Tr.block ?_
    refine Tr.seq ?_
    refine Tr.region ?_
    refine Tr.q (QS.move rfl) rfl ?_
    refine Tr.q (QS.move rfl) rfl ?_
    refine Tr.q (QS.move rfl) rfl ?_
    refine Tr.q (QS.idxN rfl rfl (by assumption) Tryz.underlying45 Tryz.sizeOf60 (by rfl) (by omega)) rfl ?_
    refine Tr.q (QS.fieldAddr (off := 0) (ft := 33) rfl Tryz.underlying60 rfl rfl Tryz.sizeOf33 (by decide)) rfl ?_
    refine Tr.q (QS.el1 rfl (by assumption) Tryz.isAgg33 (by omega) (by rfl)) rfl ?_
    refine Tr.lit1 (E := encU32) _ rfl rfl Tryz.underlying23 Tryz.sizeOf33 Tryz.zeroValue33 (by rfl) (by rfl) rfl (fun V2 => ?_)
    refine Tr.append1 rfl rfl (by repeat (first | exact Del.here _ | apply Del.there)) (by repeat (first | exact Del.here _ | apply Del.there)) Tryz.underlying23 HLF.info33 (by rfl) (by rfl) (by (try simp only [List.length_cons, List.length_nil, List.length_append, List.length_take]); omega) (by unfold maxLen; (try simp only [List.length_cons, List.length_nil, List.length_append, List.length_take]); omega) rfl (fun V3 => ?_)
    refine Tr.q (QS.assign rfl) rfl ?_
    refine Tr.nil ?_
    refine Tr.thenN ?_
    refine Tr.region ?_
    refine Tr.q (QS.move rfl) rfl ?_
    refine Tr.q (QS.move rfl) rfl ?_
    refine Tr.q (QS.move rfl) rfl ?_
    refine Tr.q (QS.idxN rfl rfl (by assumption) Tryz.underlying45 Tryz.sizeOf60 (by rfl) (by omega)) rfl ?_
    refine Tr.q (QS.fieldAddr (off := 1) (ft := 33) rfl Tryz.underlying60 rfl rfl Tryz.sizeOf33 (by decide)) rfl ?_
    refine Tr.q (QS.elF rfl (by assumption) Tryz.isAgg33 (by omega) (by rfl)) rfl ?_
    refine Tr.lit1 (E := encU32) _ rfl rfl Tryz.underlying23 Tryz.sizeOf33 Tryz.zeroValue33 (by rfl) (by rfl) rfl (fun V4 => ?_)
    refine Tr.append1 rfl rfl (by repeat (first | exact Del.here _ | apply Del.there)) (by repeat (first | exact Del.here _ | apply Del.there)) Tryz.underlying23 HLF.info33 (by rfl) (by rfl) (by (try simp only [List.length_cons, List.length_nil, List.length_append, List.length_take]); omega) (by unfold maxLen; (try simp only [List.length_cons, List.length_nil, List.length_append, List.length_take]); omega) rfl (fun V5 => ?_)
    refine Tr.q (QS.assign rfl) rfl ?_
    refine Tr.nil ?_
    refine Tr.inN ?_
    refine Tr.thenN ?_
    refine Tr.region ?_
    refine Tr.q (QS.move rfl) rfl ?_
    refine Tr.q (QS.addI rfl rfl (by omega)) rfl ?_
    refine Tr.q (QS.assign rfl) rfl ?_
    refine Tr.nil ?_
    refine Tr.thenN ?_
    have hst := pairs_take_succ (l := a) (k := k) (by omega)
    rw [← hst]
    apply Tr.again (k + 1, _)
    · exact rfl
    · exact (.cons (by first | rfl | exact lookI rfl (by omega) | exact lookI rfl (by simp) | exact lookB rfl (by simp)) (.cons (by first | rfl | exact lookI rfl (by omega) | exact lookI rfl (by simp) | exact lookB rfl (by simp)) Front.nil))
    · exact SubX.dropN 27 (by kernel_rfl) rfl
    · exact (by repeat' (first | exact Pick.nil _ | exact Del.here _ | apply Pick.cons | apply Del.there))
    · exact (by show k + 1 ≤ _; omega)
    · exact (by (try dsimp only); omega)
  · try simp only [Bool.and_eq_true, Bool.or_eq_true, Bool.not_eq_true', Bool.not_eq_false', decide_eq_true_eq, decide_eq_false_iff_not, Bool.and_eq_false_iff, Bool.or_eq_false_iff, ne_eq, Decidable.not_not] at h1
    refine Tr.exit ?_
    refine Tr.thenE ?_
    refine Tr.thenE ?_
    refine Tr.inHit ?_
    refine Tr.thenN ?_
    refine Tr.seq ?_
    refine Tr.seq ?_
    refine Tr.region ?_
    refine Tr.q (QS.assign rfl) rfl ?_
    refine Tr.nil ?_
    refine Tr.thenN ?_
    refine Tr.block ?_
    rw [show a.take k = a from List.take_of_length_le (by omega), ← List.append_nil (pairsOf a)]
    refine Tr.loop (ι := Nat × Value) (fun ⟨k2, V2⟩ => k2 ≤ b.length) (fun _ => _) (fun ⟨k2, V2⟩ => [rowE V2 33 encU32 (pairsOf a ++ pairsOf (b.take k2))]) (fun ⟨k2, V2⟩ => [(7, .int .i64 (k2 : Nat)), (5, V2)]) (fun ⟨k2, V2⟩ => b.length - k2) (0, _) (Nat.zero_le _) (.cons (by first | rfl | exact lookI rfl (by omega) | exact lookI rfl (by simp) | exact lookB rfl (by simp)) (.cons (by first | rfl | exact lookI rfl (by omega) | exact lookI rfl (by simp) | exact lookB rfl (by simp)) Front.nil)) (by repeat' (first | exact Pick.nil _ | exact Del.here _ | apply Pick.cons | apply Del.there)) rfl (fun i hi m hm => ?_)
    obtain ⟨k2, V2⟩ := i
    replace hi : k2 ≤ b.length := hi
    replace hm : m = b.length - k2 := hm
    change Tr _ _ [rowE V2 33 encU32 (pairsOf a ++ pairsOf (b.take k2))] ([(7, .int .i64 (k2 : Nat)), (5, V2)] ++ _) _
    have hpl := pairs_len (b.take k2)
    simp only [List.length_take] at hpl
    have hpa := pairs_len a
    refine Tr.seq ?_
    refine Tr.seq ?_
    refine Tr.region ?_
    refine Tr.q (QS.move rfl) rfl ?_
    refine Tr.q (QS.move rfl) rfl ?_
    refine Tr.q (QS.len rfl (by assumption) Tryz.underlying45) rfl ?_
    refine Tr.q (QS.lss rfl rfl) rfl ?_
    refine Tr.nil ?_
    refine Tr.thenN ?_
    refine Tr.cond rfl (fun h6 => ?_) (fun h6 => ?_)
    · try simp only [Bool.and_eq_true, Bool.or_eq_true, Bool.not_eq_true', Bool.not_eq_false', decide_eq_true_eq, decide_eq_false_iff_not, Bool.and_eq_false_iff, Bool.or_eq_false_iff, ne_eq, Decidable.not_not] at h6
      refine Tr.skip ?_
      refine Tr.thenN ?_
      refine Tr.seq ?_
      refine Tr.block ?_
      refine Tr.seq ?_
      refine Tr.region ?_
      refine Tr.q (QS.move rfl) rfl ?_
      refine Tr.q (QS.move rfl) rfl ?_
      refine Tr.q (QS.move rfl) rfl ?_
      refine Tr.q (QS.idxN rfl rfl (by assumption) Tryz.underlying45 Tryz.sizeOf60 (by rfl) (by omega)) rfl ?_
      refine Tr.q (QS.fieldAddr (off := 0) (ft := 33) rfl Tryz.underlying60 rfl rfl Tryz.sizeOf33 (by decide)) rfl ?_
      refine Tr.q (QS.el1 rfl (by assumption) Tryz.isAgg33 (by omega) (by rfl)) rfl ?_
      refine Tr.lit1 (E := encU32) _ rfl rfl Tryz.underlying23 Tryz.sizeOf33 Tryz.zeroValue33 (by rfl) (by rfl) rfl (fun V7 => ?_)
      refine Tr.append1 rfl rfl (by repeat (first | exact Del.here _ | apply Del.there)) (by repeat (first | exact Del.here _ | apply Del.there)) Tryz.underlying23 HLF.info33 (by rfl) (by rfl) (by (try simp only [List.length_cons, List.length_nil, List.length_append, List.length_take]); omega) (by unfold maxLen; (try simp only [List.length_cons, List.length_nil, List.length_append, List.length_take]); omega) rfl (fun V8 => ?_)
      refine Tr.q (QS.assign rfl) rfl ?_
      refine Tr.nil ?_
      refine Tr.thenN ?_
      refine Tr.region ?_
      refine Tr.q (QS.move rfl) rfl ?_
      refine Tr.q (QS.move rfl) rfl ?_
      refine Tr.q (QS.move rfl) rfl ?_
      refine Tr.q (QS.idxN rfl rfl (by assumption) Tryz.underlying45 Tryz.sizeOf60 (by rfl) (by omega)) rfl ?_
      refine Tr.q (QS.fieldAddr (off := 1) (ft := 33) rfl Tryz.underlying60 rfl rfl Tryz.sizeOf33 (by decide)) rfl ?_
      refine Tr.q (QS.elF rfl (by assumption) Tryz.isAgg33 (by omega) (by rfl)) rfl ?_
      refine Tr.lit1 (E := encU32) _ rfl rfl Tryz.underlying23 Tryz.sizeOf33 Tryz.zeroValue33 (by rfl) (by rfl) rfl (fun V9 => ?_)
      refine Tr.append1 rfl rfl (by repeat (first | exact Del.here _ | apply Del.there)) (by repeat (first | exact Del.here _ | apply Del.there)) Tryz.underlying23 HLF.info33 (by rfl) (by rfl) (by (try simp only [List.length_cons, List.length_nil, List.length_append, List.length_take]); omega) (by unfold maxLen; (try simp only [List.length_cons, List.length_nil, List.length_append, List.length_take]); omega) rfl (fun V10 => ?_)
      refine Tr.q (QS.assign rfl) rfl ?_
      refine Tr.nil ?_
      refine Tr.inN ?_
      refine Tr.thenN ?_
      refine Tr.region ?_
      refine Tr.q (QS.move rfl) rfl ?_
      refine Tr.q (QS.addI rfl rfl (by omega)) rfl ?_
      refine Tr.q (QS.assign rfl) rfl ?_
      refine Tr.nil ?_
      refine Tr.thenN ?_
      have hst := pairs_take_succ (l := b) (k := k2) (by omega)
      rw [List.append_assoc, List.append_assoc, ← List.append_assoc (pairsOf (b.take k2)), ← hst]
      apply Tr.again (k2 + 1, _)
      · exact rfl
      · exact (.cons (by first | rfl | exact lookI rfl (by omega) | exact lookI rfl (by simp) | exact lookB rfl (by simp)) (.cons (by first | rfl | exact lookI rfl (by omega) | exact lookI rfl (by simp) | exact lookB rfl (by simp)) Front.nil))
      · exact SubX.dropN 27 (by kernel_rfl) rfl
      · exact (by repeat' (first | exact Pick.nil _ | exact Del.here _ | apply Pick.cons | apply Del.there))
      · exact (by show k2 + 1 ≤ _; omega)
      · exact (by (try dsimp only); omega)
    · try simp only [Bool.and_eq_true, Bool.or_eq_true, Bool.not_eq_true', Bool.not_eq_false', decide_eq_true_eq, decide_eq_false_iff_not, Bool.and_eq_false_iff, Bool.or_eq_false_iff, ne_eq, Decidable.not_not] at h6
      refine Tr.exit ?_
      refine Tr.thenE ?_
      refine Tr.thenE ?_
      refine Tr.inHit ?_
      refine Tr.thenN ?_
      refine Tr.seq ?_
      refine Tr.region ?_
      refine Tr.q (QS.assign rfl) rfl ?_
      refine Tr.nil ?_
      refine Tr.thenN ?_
      refine Tr.seq ?_
      refine Tr.block ?_
      rw [show b.take k2 = b from List.take_of_length_le (by omega)]
      refine Tr.ownNil 33 encU32 ?_
      refine Tr.loop (ι := Value × List UInt32) (fun ⟨V3, out⟩ => out.length ≤ (pairsOf a ++ pairsOf b).length ∧ boundsF (pairsOf a ++ pairsOf b) ((pairsOf a ++ pairsOf b).length - out.length) out = boundsP a b) (fun _ => _) (fun ⟨V3, out⟩ => [rowE V3 33 encU32 out, rowE V2 33 encU32 (pairsOf a ++ pairsOf b)]) (fun ⟨V3, out⟩ => [(8, V3)]) (fun ⟨V3, out⟩ => (pairsOf a ++ pairsOf b).length - out.length) (_, []) ⟨Nat.zero_le _, rfl⟩ (.cons (by first | rfl | exact lookI rfl (by omega) | exact lookI rfl (by simp) | exact lookB rfl (by simp)) Front.nil) (by repeat' (first | exact Pick.nil _ | exact Del.here _ | apply Pick.cons | apply Del.there)) rfl (fun i hi m hm => ?_)
      obtain ⟨V3, out⟩ := i
      replace hi : out.length ≤ (pairsOf a ++ pairsOf b).length ∧ boundsF (pairsOf a ++ pairsOf b) ((pairsOf a ++ pairsOf b).length - out.length) out = boundsP a b := hi
      replace hm : m = (pairsOf a ++ pairsOf b).length - out.length := hm
      change Tr _ _ [rowE V3 33 encU32 out, rowE V2 33 encU32 (pairsOf a ++ pairsOf b)] ([(8, V3)] ++ _) _
      obtain ⟨ho, hi2⟩ := hi
      have hpa := pairs_len a
      have hpb := pairs_len b
      have hal : (pairsOf a ++ pairsOf b).length = 2 * a.length + 2 * b.length := by simp only [List.length_append]; omega
      revert hal ho hi2 hm
      generalize (pairsOf a ++ pairsOf b) = all
      intro hm ho hi2 hal
      refine Tr.seq ?_
      refine Tr.seq ?_
      refine Tr.region ?_
      refine Tr.q (QS.move rfl) rfl ?_
      refine Tr.q (QS.lenRow rfl (by repeat (first | exact List.Mem.head _ | apply List.Mem.tail)) Tryz.underlying23) rfl ?_
      refine Tr.q (QS.move rfl) rfl ?_
      refine Tr.q (QS.lenRow rfl (by repeat (first | exact List.Mem.head _ | apply List.Mem.tail)) Tryz.underlying23) rfl ?_
      refine Tr.q (QS.lss rfl rfl) rfl ?_
      refine Tr.nil ?_
      refine Tr.thenN ?_
      refine Tr.cond rfl (fun h11 => ?_) (fun h11 => ?_)
      · try simp only [Bool.and_eq_true, Bool.or_eq_true, Bool.not_eq_true', Bool.not_eq_false', decide_eq_true_eq, decide_eq_false_iff_not, Bool.and_eq_false_iff, Bool.or_eq_false_iff, ne_eq, Decidable.not_not] at h11
        refine Tr.skip ?_
        refine Tr.thenN ?_
        refine Tr.block ?_
        refine Tr.seq ?_
        refine Tr.region ?_
        refine Tr.q (QS.assign rfl) rfl ?_
        refine Tr.nil ?_
        refine Tr.thenN ?_
        refine Tr.seq ?_
        refine Tr.region ?_
        refine Tr.q (QS.assign rfl) rfl ?_
        refine Tr.nil ?_
        refine Tr.thenN ?_
        refine Tr.seq ?_
        refine Tr.seq ?_
        refine Tr.region ?_
        refine Tr.q (QS.assign rfl) rfl ?_
        refine Tr.nil ?_
        refine Tr.thenN ?_
        refine Tr.block ?_
        refine Tr.loop (ι := Nat × (UInt32 × Bool)) (fun ⟨j, s⟩ => j ≤ all.length ∧ (all.take j).foldl (scanStep out) (0, false) = s) (fun _ => _) (fun ⟨j, s⟩ => [rowE V3 33 encU32 out, rowE V2 33 encU32 all]) (fun ⟨j, s⟩ => [(11, .int .i64 (j : Nat)), (9, .int .u32 s.1.toNat), (10, .bool s.2)]) (fun ⟨j, s⟩ => all.length - j) (0, (0, false)) ⟨Nat.zero_le _, rfl⟩ (.cons (by first | rfl | exact lookI rfl (by omega) | exact lookI rfl (by simp) | exact lookB rfl (by simp)) (.cons (by first | rfl | exact lookI rfl (by omega) | exact lookI rfl (by simp) | exact lookB rfl (by simp)) (.cons (by first | rfl | exact lookI rfl (by omega) | exact lookI rfl (by simp) | exact lookB rfl (by simp)) Front.nil))) (by repeat' (first | exact Pick.nil _ | exact Del.here _ | apply Pick.cons | apply Del.there)) rfl (fun i hi m hm => ?_)
        obtain ⟨j, s⟩ := i
        replace hi : j ≤ all.length ∧ (all.take j).foldl (scanStep out) (0, false) = s := hi
        replace hm : m = all.length - j := hm
        change Tr _ _ [rowE V3 33 encU32 out, rowE V2 33 encU32 all] ([(11, .int .i64 (j : Nat)), (9, .int .u32 s.1.toNat), (10, .bool s.2)] ++ _) _
        obtain ⟨hj, hs⟩ := hi
        refine Tr.seq ?_
        refine Tr.seq ?_
        refine Tr.region ?_
        refine Tr.q (QS.move rfl) rfl ?_
        refine Tr.q (QS.move rfl) rfl ?_
        refine Tr.q (QS.lenRow rfl (by repeat (first | exact List.Mem.head _ | apply List.Mem.tail)) Tryz.underlying23) rfl ?_
        refine Tr.q (QS.lss rfl rfl) rfl ?_
        refine Tr.nil ?_
        refine Tr.thenN ?_
        refine Tr.cond rfl (fun h12 => ?_) (fun h12 => ?_)
        · try simp only [Bool.and_eq_true, Bool.or_eq_true, Bool.not_eq_true', Bool.not_eq_false', decide_eq_true_eq, decide_eq_false_iff_not, Bool.and_eq_false_iff, Bool.or_eq_false_iff, ne_eq, Decidable.not_not] at h12
          refine Tr.skip ?_
          refine Tr.thenN ?_
          refine Tr.seq ?_
          refine Tr.block ?_
          refine Tr.seq ?_
          refine Tr.regionQ HLF.mixed (by kernel_rfl) ?_
          refine TrQ.q (QS.move rfl) rfl ?_
          refine TrQ.q (QS.lenRow rfl (by repeat (first | exact List.Mem.head _ | apply List.Mem.tail)) Tryz.underlying23) rfl ?_
          refine TrQ.q (QS.eql rfl rfl) rfl ?_
          refine TrQ.q (QS.move rfl) rfl ?_
          apply TrQ.or (t := 70) (d := 82) 12
          · exact rfl
          · intro hF13; have hF13' := hF13
            try simp only [Bool.and_eq_true, Bool.or_eq_true, Bool.not_eq_true', Bool.not_eq_false', decide_eq_true_eq, decide_eq_false_iff_not, Bool.and_eq_false_iff, Bool.or_eq_false_iff, ne_eq, Decidable.not_not] at hF13'
            refine TrQ.gq rfl rfl hF13 (QS.move rfl) rfl ?_
            refine TrQ.gq rfl rfl hF13 (QS.move rfl) rfl ?_
            refine TrQ.gq rfl rfl hF13 (QS.idxRowN rfl rfl (by repeat (first | exact List.Mem.head _ | apply List.Mem.tail)) Tryz.underlying23 Tryz.sizeOf33 (by rfl) (by omega)) rfl ?_
            refine TrQ.gq rfl rfl hF13 (QS.elR1 rfl (by repeat (first | exact List.Mem.head _ | apply List.Mem.tail)) Tryz.isAgg33 (by omega) (by rfl)) rfl ?_
            refine TrQ.gq rfl rfl hF13 (QS.move rfl) rfl ?_
            refine TrQ.gq rfl rfl hF13 (QS.move rfl) rfl ?_
            refine TrQ.gq rfl rfl hF13 (QS.lenRow rfl (by repeat (first | exact List.Mem.head _ | apply List.Mem.tail)) Tryz.underlying23) rfl ?_
            refine TrQ.gq rfl rfl hF13 (QS.subI rfl rfl (by omega)) rfl ?_
            refine TrQ.gq rfl rfl hF13 (QS.idxRow rfl rfl (by repeat (first | exact List.Mem.head _ | apply List.Mem.tail)) Tryz.underlying23 Tryz.sizeOf33 (by rfl) (by omega)) rfl ?_
            refine TrQ.gq rfl rfl hF13 (QS.elR1 rfl (by repeat (first | exact List.Mem.head _ | apply List.Mem.tail)) Tryz.isAgg33 (by omega) (by rfl)) rfl ?_
            refine TrQ.gq rfl rfl hF13 (QS.gtr32 rfl rfl) rfl ?_
            refine TrQ.q (QS.pickF rfl hF13 rfl) rfl ?_
            exact TrQ.end (Sub.cons rfl (Sub.dropN 12 (by kernel_rfl) rfl))
          · intro hT13
            refine TrQ.gskip rfl rfl hT13 rfl ?_
            refine TrQ.gskip rfl rfl hT13 rfl ?_
            refine TrQ.gskip rfl rfl hT13 rfl ?_
            refine TrQ.gskip rfl rfl hT13 rfl ?_
            refine TrQ.gskip rfl rfl hT13 rfl ?_
            refine TrQ.gskip rfl rfl hT13 rfl ?_
            refine TrQ.gskip rfl rfl hT13 rfl ?_
            refine TrQ.gskip rfl rfl hT13 rfl ?_
            refine TrQ.gskip rfl rfl hT13 rfl ?_
            refine TrQ.gskip rfl rfl hT13 rfl ?_
            refine TrQ.gskip rfl rfl hT13 rfl ?_
            refine TrQ.q (QS.pickT rfl hT13 rfl) rfl ?_
            exact TrQ.end (Sub.cons rfl (Sub.dropN 12 (by kernel_rfl) rfl))
          refine TrQ.q (QS.move rfl) rfl ?_
          apply TrQ.and (t := 83) (d := 94) 11
          · exact rfl
          · intro hT14; have hT14' := hT14
            try simp only [Bool.and_eq_true, Bool.or_eq_true, Bool.not_eq_true', Bool.not_eq_false', decide_eq_true_eq, decide_eq_false_iff_not, Bool.and_eq_false_iff, Bool.or_eq_false_iff, ne_eq, Decidable.not_not] at hT14'
            refine TrQ.gq rfl rfl hT14 (QS.move rfl) rfl ?_
            refine TrQ.gq rfl rfl hT14 (QS.not rfl) rfl ?_
            refine TrQ.gq rfl rfl hT14 (QS.move rfl) rfl ?_
            apply TrQ.or (t := 86) (d := 93) 7
            · exact rfl
            · intro hF15; have hF15' := hF15
              try simp only [Bool.and_eq_true, Bool.or_eq_true, Bool.not_eq_true', Bool.not_eq_false', decide_eq_true_eq, decide_eq_false_iff_not, Bool.and_eq_false_iff, Bool.or_eq_false_iff, ne_eq, Decidable.not_not] at hF15'
              refine TrQ.gq rfl rfl hF15 (QS.move rfl) rfl ?_
              refine TrQ.gq rfl rfl hF15 (QS.move rfl) rfl ?_
              refine TrQ.gq rfl rfl hF15 (QS.idxRowN rfl rfl (by repeat (first | exact List.Mem.head _ | apply List.Mem.tail)) Tryz.underlying23 Tryz.sizeOf33 (by rfl) (by omega)) rfl ?_
              refine TrQ.gq rfl rfl hF15 (QS.elR1 rfl (by repeat (first | exact List.Mem.head _ | apply List.Mem.tail)) Tryz.isAgg33 (by omega) (by rfl)) rfl ?_
              refine TrQ.gq rfl rfl hF15 (QS.move rfl) rfl ?_
              refine TrQ.gq rfl rfl hF15 (QS.lss32 rfl rfl) rfl ?_
              refine TrQ.gq rfl rfl hT14 (QS.pickF rfl hF15 rfl) rfl ?_
              exact TrQ.end (Sub.cons rfl (Sub.dropN 7 (by kernel_rfl) rfl))
            · intro hT15
              refine TrQ.gskip rfl rfl hT15 rfl ?_
              refine TrQ.gskip rfl rfl hT15 rfl ?_
              refine TrQ.gskip rfl rfl hT15 rfl ?_
              refine TrQ.gskip rfl rfl hT15 rfl ?_
              refine TrQ.gskip rfl rfl hT15 rfl ?_
              refine TrQ.gskip rfl rfl hT15 rfl ?_
              refine TrQ.gq rfl rfl hT14 (QS.pickT rfl hT15 rfl) rfl ?_
              exact TrQ.end (Sub.cons rfl (Sub.dropN 7 (by kernel_rfl) rfl))
            refine TrQ.q (QS.pickT rfl hT14 rfl) rfl ?_
            exact TrQ.end (Sub.cons rfl (Sub.dropN 5 (by kernel_rfl) rfl))
          · intro hF14
            refine TrQ.gskip rfl rfl hF14 rfl ?_
            refine TrQ.gskip rfl rfl hF14 rfl ?_
            refine TrQ.gskip rfl rfl hF14 rfl ?_
            refine TrQ.gskipU rfl rfl rfl ?_
            refine TrQ.gskipU rfl rfl rfl ?_
            refine TrQ.gskipU rfl rfl rfl ?_
            refine TrQ.gskipU rfl rfl rfl ?_
            refine TrQ.gskipU rfl rfl rfl ?_
            refine TrQ.gskipU rfl rfl rfl ?_
            refine TrQ.gskip rfl rfl hF14 rfl ?_
            refine TrQ.q (QS.pickF rfl hF14 rfl) rfl ?_
            exact TrQ.end (Sub.cons rfl (Sub.dropN 11 (by kernel_rfl) rfl))
          refine TrQ.nil ?_
          refine Tr.thenN ?_
          refine Tr.cond rfl (fun h16 => ?_) (fun h16 => ?_)
          · try simp only [Bool.and_eq_true, Bool.or_eq_true, Bool.not_eq_true', Bool.not_eq_false', decide_eq_true_eq, decide_eq_false_iff_not, Bool.and_eq_false_iff, Bool.or_eq_false_iff, ne_eq, Decidable.not_not] at h16
            refine Tr.seq ?_
            refine Tr.region ?_
            refine Tr.q (QS.move rfl) rfl ?_
            refine Tr.q (QS.move rfl) rfl ?_
            refine Tr.q (QS.idxRowN rfl rfl (by repeat (first | exact List.Mem.head _ | apply List.Mem.tail)) Tryz.underlying23 Tryz.sizeOf33 (by rfl) (by omega)) rfl ?_
            refine Tr.q (QS.elR1 rfl (by repeat (first | exact List.Mem.head _ | apply List.Mem.tail)) Tryz.isAgg33 (by omega) (by rfl)) rfl ?_
            refine Tr.q (QS.assign rfl) rfl ?_
            refine Tr.nil ?_
            refine Tr.thenN ?_
            refine Tr.region ?_
            refine Tr.q (QS.assign rfl) rfl ?_
            refine Tr.nil ?_
            refine Tr.inN ?_
            refine Tr.thenN ?_
            refine Tr.region ?_
            refine Tr.q (QS.move rfl) rfl ?_
            refine Tr.q (QS.addI rfl rfl (by omega)) rfl ?_
            refine Tr.q (QS.assign rfl) rfl ?_
            refine Tr.nil ?_
            refine Tr.thenN ?_
            apply Tr.again (j + 1, (all.getD j default, true))
            · exact rfl
            · exact (.cons (by first | rfl | exact lookI rfl (by omega) | exact lookI rfl (by simp) | exact lookB rfl (by simp)) (.cons (by first | rfl | exact lookI rfl (by omega) | exact lookI rfl (by simp) | exact lookB rfl (by simp)) (.cons (by first | rfl | exact lookI rfl (by omega) | exact lookI rfl (by simp) | exact lookB rfl (by simp)) Front.nil)))
            · exact SubX.dropN 23 (by kernel_rfl) rfl
            · exact (by repeat' (first | exact Pick.nil _ | exact Del.here _ | apply Pick.cons | apply Del.there))
            · exact ⟨by omega, by rw [foldl_take_succ (by omega), hs, scanStep, if_pos (by assumption)]⟩
            · exact (by (try dsimp only); omega)
          · try simp only [Bool.and_eq_true, Bool.or_eq_true, Bool.not_eq_true', Bool.not_eq_false', decide_eq_true_eq, decide_eq_false_iff_not, Bool.and_eq_false_iff, Bool.or_eq_false_iff, ne_eq, Decidable.not_not] at h16
            refine Tr.skip ?_
            refine Tr.inN ?_
            refine Tr.thenN ?_
            refine Tr.region ?_
            refine Tr.q (QS.move rfl) rfl ?_
            refine Tr.q (QS.addI rfl rfl (by omega)) rfl ?_
            refine Tr.q (QS.assign rfl) rfl ?_
            refine Tr.nil ?_
            refine Tr.thenN ?_
            apply Tr.again (j + 1, s)
            · exact rfl
            · exact (.cons (by first | rfl | exact lookI rfl (by omega) | exact lookI rfl (by simp) | exact lookB rfl (by simp)) (.cons (by first | rfl | exact lookI rfl (by omega) | exact lookI rfl (by simp) | exact lookB rfl (by simp)) (.cons (by first | rfl | exact lookI rfl (by omega) | exact lookI rfl (by simp) | exact lookB rfl (by simp)) Front.nil)))
            · exact SubX.dropN 17 (by kernel_rfl) rfl
            · exact (by repeat' (first | exact Pick.nil _ | exact Del.here _ | apply Pick.cons | apply Del.there))
            · exact ⟨by omega, by rw [foldl_take_succ (by omega), hs, scanStep_neg (by assumption)]⟩
            · exact (by (try dsimp only); omega)
        · try simp only [Bool.and_eq_true, Bool.or_eq_true, Bool.not_eq_true', Bool.not_eq_false', decide_eq_true_eq, decide_eq_false_iff_not, Bool.and_eq_false_iff, Bool.or_eq_false_iff, ne_eq, Decidable.not_not] at h12
          refine Tr.exit ?_
          refine Tr.thenE ?_
          refine Tr.thenE ?_
          refine Tr.inHit ?_
          refine Tr.thenN ?_
          refine Tr.seq ?_
          refine Tr.seq ?_
          have hsc : scan all out = s := by rw [← hs, List.take_of_length_le (by omega)]; rfl
          refine Tr.region ?_
          refine Tr.q (QS.move rfl) rfl ?_
          refine Tr.q (QS.not rfl) rfl ?_
          refine Tr.nil ?_
          refine Tr.thenN ?_
          refine Tr.cond rfl (fun h17 => ?_) (fun h17 => ?_)
          · try simp only [Bool.and_eq_true, Bool.or_eq_true, Bool.not_eq_true', Bool.not_eq_false', decide_eq_true_eq, decide_eq_false_iff_not, Bool.and_eq_false_iff, Bool.or_eq_false_iff, ne_eq, Decidable.not_not] at h17
            refine Tr.seq ?_
            refine Tr.region ?_
            refine Tr.q (QS.move rfl) rfl ?_
            refine Tr.q (QS.assign rfl) rfl ?_
            refine Tr.nil ?_
            refine Tr.thenN ?_
            refine Tr.ret ?_
            refine Tr.thenR ?_
            refine Tr.inR ?_
            refine Tr.thenR ?_
            refine Tr.inR ?_
            refine Tr.thenR ?_
            refine Tr.ret1 Tryz.results116 rfl (fun w' hw => ?_)
            have e : boundsP a b = out := by rw [← hi2, show all.length - out.length = (all.length - out.length - 1) + 1 by omega, boundsF, if_pos (by rw [hsc]; assumption)]
            exact ⟨_, rfl, hw.below (Bg.le.refl _), by rw [e]; exact hw.new (.head _)⟩
          · try simp only [Bool.and_eq_true, Bool.or_eq_true, Bool.not_eq_true', Bool.not_eq_false', decide_eq_true_eq, decide_eq_false_iff_not, Bool.and_eq_false_iff, Bool.or_eq_false_iff, ne_eq, Decidable.not_not] at h17
            refine Tr.skip ?_
            refine Tr.thenN ?_
            refine Tr.region ?_
            refine Tr.q (QS.move rfl) rfl ?_
            refine Tr.q (QS.move rfl) rfl ?_
            refine Tr.lit1 (E := encU32) _ rfl rfl Tryz.underlying23 Tryz.sizeOf33 Tryz.zeroValue33 (by rfl) (by rfl) rfl (fun V18 => ?_)
            refine Tr.append1 rfl rfl (by repeat (first | exact Del.here _ | apply Del.there)) (by repeat (first | exact Del.here _ | apply Del.there)) Tryz.underlying23 HLF.info33 (by rfl) (by rfl) (by (try simp only [List.length_cons, List.length_nil, List.length_append, List.length_take]); omega) (by unfold maxLen; (try simp only [List.length_cons, List.length_nil, List.length_append, List.length_take]); omega) rfl (fun V19 => ?_)
            refine Tr.q (QS.assign rfl) rfl ?_
            refine Tr.nil ?_
            refine Tr.inN ?_
            refine Tr.thenN ?_
            apply Tr.again (_, out ++ [s.1])
            · exact rfl
            · exact (.cons (by first | rfl | exact lookI rfl (by omega) | exact lookI rfl (by simp) | exact lookB rfl (by simp)) Front.nil)
            · exact SubX.dropN 23 (by kernel_rfl) rfl
            · exact (by repeat' (first | exact Pick.nil _ | exact Del.here _ | apply Pick.cons | apply Del.there))
            · exact ⟨by simp; omega, by rw [← hi2, show all.length - out.length = (all.length - (out ++ [s.1]).length) + 1 by simp; omega, boundsF, if_neg (by rw [hsc]; simp_all), hsc]⟩
            · exact (by simp; omega)
      · try simp only [Bool.and_eq_true, Bool.or_eq_true, Bool.not_eq_true', Bool.not_eq_false', decide_eq_true_eq, decide_eq_false_iff_not, Bool.and_eq_false_iff, Bool.or_eq_false_iff, ne_eq, Decidable.not_not] at h11
        refine Tr.exit ?_
        refine Tr.thenE ?_
        refine Tr.thenE ?_
        refine Tr.inHit ?_
        refine Tr.thenN ?_
        refine Tr.seq ?_
        refine Tr.region ?_
        refine Tr.q (QS.move rfl) rfl ?_
        refine Tr.q (QS.assign rfl) rfl ?_
        refine Tr.nil ?_
        refine Tr.thenN ?_
        refine Tr.ret ?_
        refine Tr.ret1 Tryz.results116 rfl (fun w' hw => ?_)
        have e : boundsP a b = out := by rw [← hi2, show all.length - out.length = 0 by omega]; rfl
        exact ⟨_, rfl, hw.below (Bg.le.refl _), by rw [e]; exact hw.new (.head _)⟩
set_option maxRecDepth 100000 in
set_option maxHeartbeats 2000000 in
theorem choose_any (a b : List Rng) (V W : Value) (both without : Bool) (w : World) (hV : Sl (hp w) encRng a V) (hW : Sl (hp w) encRng b W) (ha : a.length ≤ 1000000) (hb : b.length ≤ 1000000) :
    Calls Tryz.prog 88 #[V, W, .bool both, .bool without] w (fun e w' => ∃ V', e = .returned V' ∧ Ext w w' ∧ NewRow w w' 60 encRng (chooseP a b both without) V') := by
  have hV' : Sl (Bg.of w).blk encRng a V := hV
  have hW' : Sl (Bg.of w).blk encRng b W := hW
  have hbl := boundsP_len a b
  obtain ⟨cuts, hcu⟩ : ∃ cuts, cuts = boundsP a b := ⟨_, rfl⟩
  rw [← hcu] at hbl
  refine enter Tryz.func88 rfl Tryz.ntmps88 rfl ?_
  refine Tr.seq ?_
  refine Tr.region ?_
  refine Tr.q (QS.assign rfl) rfl ?_
  refine Tr.nil ?_
  refine Tr.thenN ?_
  refine Tr.seq ?_
  refine Tr.region ?_
  refine Tr.q (QS.move rfl) rfl ?_
  refine Tr.q (QS.move rfl) rfl ?_
  refine Tr.callRow rfl Tryz.call116 (fun w hw => bounds_any a b V W w (hw.slF hV) (hw.slF hW) ha hb) rfl (fun V1 => ?_)
  refine Tr.q (QS.assign rfl) rfl ?_
  refine Tr.nil ?_
  refine Tr.thenN ?_
  refine Tr.seq ?_
  rw [← hcu]
  refine Tr.region ?_
  refine Tr.q (QS.assign rfl) rfl ?_
  refine Tr.nil ?_
  refine Tr.thenN ?_
  refine Tr.seq ?_
  refine Tr.seq ?_
  refine Tr.region ?_
  refine Tr.q (QS.assign rfl) rfl ?_
  refine Tr.nil ?_
  refine Tr.thenN ?_
  refine Tr.block ?_
  refine Tr.ownNil 60 encRng ?_
  refine Tr.loop (ι := Nat × Value × List Rng) (fun ⟨k, V', out⟩ => (k = 0 ∨ k + 1 ≤ cuts.length) ∧ out = chF a b both without cuts k) (fun _ => _) (fun ⟨k, V', out⟩ => [rowE V' 60 encRng out, rowE V1 33 encU32 cuts]) (fun ⟨k, V', out⟩ => [(11, .int .i64 (k : Nat)), (10, V')]) (fun ⟨k, V', out⟩ => cuts.length - k) (0, _, []) ⟨.inl rfl, rfl⟩ (.cons (by first | rfl | exact lookI rfl (by omega) | exact lookI rfl (by simp) | exact lookB rfl (by simp)) (.cons (by first | rfl | exact lookI rfl (by omega) | exact lookI rfl (by simp) | exact lookB rfl (by simp)) Front.nil)) (by repeat' (first | exact Pick.nil _ | exact Del.here _ | apply Pick.cons | apply Del.there)) rfl (fun i hi m hm => ?_)
  obtain ⟨k, V', out⟩ := i
  replace hi : (k = 0 ∨ k + 1 ≤ cuts.length) ∧ out = chF a b both without cuts k := hi
  replace hm : m = cuts.length - k := hm
  change Tr _ _ [rowE V' 60 encRng out, rowE V1 33 encU32 cuts] ([(11, .int .i64 (k : Nat)), (10, V')] ++ _) _
  obtain ⟨hk, ho⟩ := hi
  have hcl := chF_len a b both without cuts k
  rw [← ho] at hcl
  refine Tr.seq ?_
  refine Tr.seq ?_
  refine Tr.region ?_
  refine Tr.q (QS.move rfl) rfl ?_
  refine Tr.q (QS.addI rfl rfl (by omega)) rfl ?_
  refine Tr.q (QS.move rfl) rfl ?_
  refine Tr.q (QS.lenRow rfl (by repeat (first | exact List.Mem.head _ | apply List.Mem.tail)) Tryz.underlying23) rfl ?_
  refine Tr.q (QS.lss rfl rfl) rfl ?_
  refine Tr.nil ?_
  refine Tr.thenN ?_
  refine Tr.cond rfl (fun h2 => ?_) (fun h2 => ?_)
  · try simp only [Bool.and_eq_true, Bool.or_eq_true, Bool.not_eq_true', Bool.not_eq_false', decide_eq_true_eq, decide_eq_false_iff_not, Bool.and_eq_false_iff, Bool.or_eq_false_iff, ne_eq, Decidable.not_not] at h2
    refine Tr.skip ?_
    refine Tr.thenN ?_
    refine Tr.seq ?_
    refine Tr.block ?_
    refine Tr.seq ?_
    refine Tr.region ?_
    refine Tr.q (QS.move rfl) rfl ?_
    refine Tr.q (QS.move rfl) rfl ?_
    refine Tr.q (QS.move rfl) rfl ?_
    refine Tr.q (QS.idxRowN rfl rfl (by repeat (first | exact List.Mem.head _ | apply List.Mem.tail)) Tryz.underlying23 Tryz.sizeOf33 (by rfl) (by omega)) rfl ?_
    refine Tr.q (QS.elR1 rfl (by repeat (first | exact List.Mem.head _ | apply List.Mem.tail)) Tryz.isAgg33 (by omega) (by rfl)) rfl ?_
    refine Tr.q (QS.call rfl Tryz.call117 (fun w hw => refContains_any a V _ w (hw.slF hV))) rfl ?_
    refine Tr.q (QS.move rfl) rfl ?_
    apply Tr.or (t := 30) (d := 40) 10
    · exact rfl
    · intro hF3; have hF3' := hF3
      try simp only [Bool.and_eq_true, Bool.or_eq_true, Bool.not_eq_true', Bool.not_eq_false', decide_eq_true_eq, decide_eq_false_iff_not, Bool.and_eq_false_iff, Bool.or_eq_false_iff, ne_eq, Decidable.not_not] at hF3'
      refine Tr.gq rfl rfl hF3 (QS.move rfl) rfl ?_
      refine Tr.gq rfl rfl hF3 (QS.move rfl) rfl ?_
      apply Tr.and (t := 32) (d := 39) 7
      · exact rfl
      · intro hT4; have hT4' := hT4
        try simp only [Bool.and_eq_true, Bool.or_eq_true, Bool.not_eq_true', Bool.not_eq_false', decide_eq_true_eq, decide_eq_false_iff_not, Bool.and_eq_false_iff, Bool.or_eq_false_iff, ne_eq, Decidable.not_not] at hT4'
        refine Tr.gq rfl rfl hT4 (QS.move rfl) rfl ?_
        refine Tr.gq rfl rfl hT4 (QS.move rfl) rfl ?_
        refine Tr.gq rfl rfl hT4 (QS.move rfl) rfl ?_
        refine Tr.gq rfl rfl hT4 (QS.idxRowN rfl rfl (by repeat (first | exact List.Mem.head _ | apply List.Mem.tail)) Tryz.underlying23 Tryz.sizeOf33 (by rfl) (by omega)) rfl ?_
        refine Tr.gq rfl rfl hT4 (QS.elR1 rfl (by repeat (first | exact List.Mem.head _ | apply List.Mem.tail)) Tryz.isAgg33 (by omega) (by rfl)) rfl ?_
        refine Tr.gq rfl rfl hT4 (QS.call rfl Tryz.call117 (fun w hw => refContains_any b W _ w (hw.slF hW))) rfl ?_
        refine Tr.gq rfl rfl hF3 (QS.pickT rfl hT4 rfl) rfl ?_
        refine Tr.nil (Tr.thenN ?_)
        first | exact Tr.end (Sub.cons rfl (Sub.dropN 7 (by kernel_rfl) rfl)) rfl rfl | exact Tr.endP (Sub.cons rfl (Sub.dropN 7 (by kernel_rfl) rfl)) rfl (by repeat' (first | exact Pick.nil _ | exact Del.here _ | apply Pick.cons | apply Del.there))
      · intro hF4
        refine Tr.gskip rfl rfl hF4 rfl ?_
        refine Tr.gskip rfl rfl hF4 rfl ?_
        refine Tr.gskip rfl rfl hF4 rfl ?_
        refine Tr.gskip rfl rfl hF4 rfl ?_
        refine Tr.gskip rfl rfl hF4 rfl ?_
        refine Tr.gskip rfl rfl hF4 rfl ?_
        refine Tr.gq rfl rfl hF3 (QS.pickF rfl hF4 rfl) rfl ?_
        refine Tr.nil (Tr.thenN ?_)
        first | exact Tr.end (Sub.cons rfl (Sub.dropN 7 (by kernel_rfl) rfl)) rfl rfl | exact Tr.endP (Sub.cons rfl (Sub.dropN 7 (by kernel_rfl) rfl)) rfl (by repeat' (first | exact Pick.nil _ | exact Del.here _ | apply Pick.cons | apply Del.there))
      refine Tr.q (QS.pickF rfl hF3 rfl) rfl ?_
      refine Tr.nil (Tr.thenN ?_)
      first | exact Tr.end (Sub.cons rfl (Sub.dropN 4 (by kernel_rfl) rfl)) rfl rfl | exact Tr.endP (Sub.cons rfl (Sub.dropN 4 (by kernel_rfl) rfl)) rfl (by repeat' (first | exact Pick.nil _ | exact Del.here _ | apply Pick.cons | apply Del.there))
    · intro hT3
      refine Tr.gskip rfl rfl hT3 rfl ?_
      refine Tr.gskip rfl rfl hT3 rfl ?_
      refine Tr.gskipU rfl rfl rfl ?_
      refine Tr.gskipU rfl rfl rfl ?_
      refine Tr.gskipU rfl rfl rfl ?_
      refine Tr.gskipU rfl rfl rfl ?_
      refine Tr.gskipU rfl rfl rfl ?_
      refine Tr.gskipU rfl rfl rfl ?_
      refine Tr.gskip rfl rfl hT3 rfl ?_
      refine Tr.q (QS.pickT rfl hT3 rfl) rfl ?_
      refine Tr.nil (Tr.thenN ?_)
      first | exact Tr.end (Sub.cons rfl (Sub.dropN 10 (by kernel_rfl) rfl)) rfl rfl | exact Tr.endP (Sub.cons rfl (Sub.dropN 10 (by kernel_rfl) rfl)) rfl (by repeat' (first | exact Pick.nil _ | exact Del.here _ | apply Pick.cons | apply Del.there))
    refine Tr.q (QS.assign rfl) rfl ?_
    refine Tr.nil ?_
    refine Tr.thenN ?_
    refine Tr.seq ?_
    refine Tr.seq ?_
    refine Tr.region ?_
    refine Tr.q (QS.move rfl) rfl ?_
    refine Tr.q (QS.move rfl) rfl ?_
    apply Tr.and (t := 42) (d := 49) 7
    · exact rfl
    · intro hT5; have hT5' := hT5
      try simp only [Bool.and_eq_true, Bool.or_eq_true, Bool.not_eq_true', Bool.not_eq_false', decide_eq_true_eq, decide_eq_false_iff_not, Bool.and_eq_false_iff, Bool.or_eq_false_iff, ne_eq, Decidable.not_not] at hT5'
      refine Tr.gq rfl rfl hT5 (QS.move rfl) rfl ?_
      refine Tr.gq rfl rfl hT5 (QS.move rfl) rfl ?_
      refine Tr.gq rfl rfl hT5 (QS.move rfl) rfl ?_
      refine Tr.gq rfl rfl hT5 (QS.idxRowN rfl rfl (by repeat (first | exact List.Mem.head _ | apply List.Mem.tail)) Tryz.underlying23 Tryz.sizeOf33 (by rfl) (by omega)) rfl ?_
      refine Tr.gq rfl rfl hT5 (QS.elR1 rfl (by repeat (first | exact List.Mem.head _ | apply List.Mem.tail)) Tryz.isAgg33 (by omega) (by rfl)) rfl ?_
      refine Tr.gq rfl rfl hT5 (QS.call rfl Tryz.call117 (fun w hw => refContains_any b W _ w (hw.slF hW))) rfl ?_
      refine Tr.q (QS.pickT rfl hT5 rfl) rfl ?_
      refine Tr.nil (Tr.thenN ?_)
      first | exact Tr.end (Sub.cons rfl (Sub.dropN 7 (by kernel_rfl) rfl)) rfl rfl | exact Tr.endP (Sub.cons rfl (Sub.dropN 7 (by kernel_rfl) rfl)) rfl (by repeat' (first | exact Pick.nil _ | exact Del.here _ | apply Pick.cons | apply Del.there))
    · intro hF5
      refine Tr.gskip rfl rfl hF5 rfl ?_
      refine Tr.gskip rfl rfl hF5 rfl ?_
      refine Tr.gskip rfl rfl hF5 rfl ?_
      refine Tr.gskip rfl rfl hF5 rfl ?_
      refine Tr.gskip rfl rfl hF5 rfl ?_
      refine Tr.gskip rfl rfl hF5 rfl ?_
      refine Tr.q (QS.pickF rfl hF5 rfl) rfl ?_
      refine Tr.nil (Tr.thenN ?_)
      first | exact Tr.end (Sub.cons rfl (Sub.dropN 7 (by kernel_rfl) rfl)) rfl rfl | exact Tr.endP (Sub.cons rfl (Sub.dropN 7 (by kernel_rfl) rfl)) rfl (by repeat' (first | exact Pick.nil _ | exact Del.here _ | apply Pick.cons | apply Del.there))
    refine Tr.nil ?_
    refine Tr.thenN ?_
    refine Tr.cond rfl (fun h6 => ?_) (fun h6 => ?_)
    · try simp only [Bool.and_eq_true, Bool.or_eq_true, Bool.not_eq_true', Bool.not_eq_false', decide_eq_true_eq, decide_eq_false_iff_not, Bool.and_eq_false_iff, Bool.or_eq_false_iff, ne_eq, Decidable.not_not] at h6
      refine Tr.region ?_
      refine Tr.q (QS.assign rfl) rfl ?_
      refine Tr.nil ?_
      refine Tr.thenN ?_
      refine Tr.seq ?_
      refine Tr.seq ?_
      refine Tr.region ?_
      refine Tr.q (QS.move rfl) rfl ?_
      refine Tr.q (QS.not rfl) rfl ?_
      refine Tr.nil ?_
      refine Tr.thenN ?_
      refine Tr.cond rfl (fun h7 => ?_) (fun h7 => ?_)
      · try simp only [Bool.and_eq_true, Bool.or_eq_true, Bool.not_eq_true', Bool.not_eq_false', decide_eq_true_eq, decide_eq_false_iff_not, Bool.and_eq_false_iff, Bool.or_eq_false_iff, ne_eq, Decidable.not_not] at h7
        refine Tr.exit ?_
        refine Tr.thenE ?_
        refine Tr.inHit ?_
        refine Tr.thenN ?_
        refine Tr.region ?_
        refine Tr.q (QS.move rfl) rfl ?_
        refine Tr.q (QS.addI rfl rfl (by omega)) rfl ?_
        refine Tr.q (QS.assign rfl) rfl ?_
        refine Tr.nil ?_
        refine Tr.thenN ?_
        apply Tr.again (k + 1, _, _)
        · exact rfl
        · exact (.cons (by first | rfl | exact lookI rfl (by omega) | exact lookI rfl (by simp) | exact lookB rfl (by simp)) (.cons (by first | rfl | exact lookI rfl (by omega) | exact lookI rfl (by simp) | exact lookB rfl (by simp)) Front.nil))
        · exact SubX.dropN 25 (by kernel_rfl) rfl
        · exact (by repeat' (first | exact Pick.nil _ | exact Del.here _ | apply Pick.cons | apply Del.there))
        · exact ⟨.inr (by omega), by rw [chF_succ, ← ho]; exact (chStep_no (inC_cut h6)).symm⟩
        · exact (by dsimp only; omega)
      · try simp only [Bool.and_eq_true, Bool.or_eq_true, Bool.not_eq_true', Bool.not_eq_false', decide_eq_true_eq, decide_eq_false_iff_not, Bool.and_eq_false_iff, Bool.or_eq_false_iff, ne_eq, Decidable.not_not] at h7
        refine Tr.skip ?_
        refine Tr.thenN ?_
        refine Tr.seq ?_
        refine Tr.region ?_
        refine Tr.q (QS.move rfl) rfl ?_
        refine Tr.q (QS.lenRow rfl (by repeat (first | exact List.Mem.head _ | apply List.Mem.tail)) Tryz.underlying45) rfl ?_
        refine Tr.q (QS.assign rfl) rfl ?_
        refine Tr.nil ?_
        refine Tr.thenN ?_
        refine Tr.seq ?_
        refine Tr.regionQ HLF.mixed (by kernel_rfl) ?_
        refine TrQ.q (QS.move rfl) rfl ?_
        refine TrQ.q (QS.gtr rfl rfl) rfl ?_
        refine TrQ.q (QS.move rfl) rfl ?_
        apply TrQ.and (t := 56) (d := 68) 12
        · exact rfl
        · intro hT8; have hT8' := hT8
          try simp only [Bool.and_eq_true, Bool.or_eq_true, Bool.not_eq_true', Bool.not_eq_false', decide_eq_true_eq, decide_eq_false_iff_not, Bool.and_eq_false_iff, Bool.or_eq_false_iff, ne_eq, Decidable.not_not] at hT8'
          refine TrQ.gq rfl rfl hT8 (QS.move rfl) rfl ?_
          refine TrQ.gq rfl rfl hT8 (QS.move rfl) rfl ?_
          refine TrQ.gq rfl rfl hT8 (QS.subI rfl rfl (by omega)) rfl ?_
          refine TrQ.gq rfl rfl hT8 (QS.idxRow rfl rfl (by repeat (first | exact List.Mem.head _ | apply List.Mem.tail)) Tryz.underlying45 Tryz.sizeOf60 (by rfl) (by omega)) rfl ?_
          refine TrQ.gq rfl rfl hT8 (QS.fieldAddr (off := 1) (ft := 33) rfl Tryz.underlying60 rfl rfl Tryz.sizeOf33 (by decide)) rfl ?_
          refine TrQ.gq rfl rfl hT8 (QS.elRF rfl (by repeat (first | exact List.Mem.head _ | apply List.Mem.tail)) Tryz.isAgg33 (by omega) (by rfl)) rfl ?_
          refine TrQ.gq rfl rfl hT8 (QS.move rfl) rfl ?_
          refine TrQ.gq rfl rfl hT8 (QS.move rfl) rfl ?_
          refine TrQ.gq rfl rfl hT8 (QS.idxRowN rfl rfl (by repeat (first | exact List.Mem.head _ | apply List.Mem.tail)) Tryz.underlying23 Tryz.sizeOf33 (by rfl) (by omega)) rfl ?_
          refine TrQ.gq rfl rfl hT8 (QS.elR1 rfl (by repeat (first | exact List.Mem.head _ | apply List.Mem.tail)) Tryz.isAgg33 (by omega) (by rfl)) rfl ?_
          refine TrQ.gq rfl rfl hT8 (QS.eql32 rfl rfl) rfl ?_
          refine TrQ.q (QS.pickT rfl hT8 rfl) rfl ?_
          exact TrQ.end (Sub.cons rfl (Sub.dropN 12 (by kernel_rfl) rfl))
        · intro hF8
          refine TrQ.gskip rfl rfl hF8 rfl ?_
          refine TrQ.gskip rfl rfl hF8 rfl ?_
          refine TrQ.gskip rfl rfl hF8 rfl ?_
          refine TrQ.gskip rfl rfl hF8 rfl ?_
          refine TrQ.gskip rfl rfl hF8 rfl ?_
          refine TrQ.gskip rfl rfl hF8 rfl ?_
          refine TrQ.gskip rfl rfl hF8 rfl ?_
          refine TrQ.gskip rfl rfl hF8 rfl ?_
          refine TrQ.gskip rfl rfl hF8 rfl ?_
          refine TrQ.gskip rfl rfl hF8 rfl ?_
          refine TrQ.gskip rfl rfl hF8 rfl ?_
          refine TrQ.q (QS.pickF rfl hF8 rfl) rfl ?_
          exact TrQ.end (Sub.cons rfl (Sub.dropN 12 (by kernel_rfl) rfl))
        refine TrQ.nil ?_
        refine Tr.thenN ?_
        refine Tr.cond rfl (fun h9 => ?_) (fun h9 => ?_)
        · try simp only [Bool.and_eq_true, Bool.or_eq_true, Bool.not_eq_true', Bool.not_eq_false', decide_eq_true_eq, decide_eq_false_iff_not, Bool.and_eq_false_iff, Bool.or_eq_false_iff, ne_eq, Decidable.not_not] at h9
          refine Tr.region ?_
          refine Tr.q (QS.move rfl) rfl ?_
          refine Tr.q (QS.move rfl) rfl ?_
          refine Tr.q (QS.subI rfl rfl (by omega)) rfl ?_
          refine Tr.q (QS.move rfl) rfl ?_
          refine Tr.q (QS.move rfl) rfl ?_
          refine Tr.q (QS.addI rfl rfl (by omega)) rfl ?_
          refine Tr.q (QS.idxRow rfl rfl (by repeat (first | exact List.Mem.head _ | apply List.Mem.tail)) Tryz.underlying23 Tryz.sizeOf33 (by rfl) (by omega)) rfl ?_
          refine Tr.q (QS.elR1 rfl (by repeat (first | exact List.Mem.head _ | apply List.Mem.tail)) Tryz.isAgg33 (by omega) (by rfl)) rfl ?_
          refine Tr.q (QS.idxRow rfl rfl (by repeat (first | exact List.Mem.head _ | apply List.Mem.tail)) Tryz.underlying45 Tryz.sizeOf60 (by rfl) (by omega)) rfl ?_
          refine Tr.q (QS.fieldAddr (off := 1) (ft := 33) rfl Tryz.underlying60 rfl rfl Tryz.sizeOf33 (by decide)) rfl ?_
          refine Tr.storeRow (⟨(lastR out).lo, cuts.getD (k + 1) default⟩) rfl rfl Tryz.sizeOf33 (by repeat (first | exact Put.here _ | apply Put.there)) (by omega) (by decide) (by rfl) rfl rfl rfl ?_
          refine Tr.nil ?_
          refine Tr.inN ?_
          refine Tr.thenN ?_
          refine Tr.region ?_
          refine Tr.q (QS.move rfl) rfl ?_
          refine Tr.q (QS.addI rfl rfl (by omega)) rfl ?_
          refine Tr.q (QS.assign rfl) rfl ?_
          refine Tr.nil ?_
          refine Tr.thenN ?_
          apply Tr.again (k + 1, _, _)
          · exact rfl
          · exact (.cons (by first | rfl | exact lookI rfl (by omega) | exact lookI rfl (by simp) | exact lookB rfl (by simp)) (.cons (by first | rfl | exact lookI rfl (by omega) | exact lookI rfl (by simp) | exact lookB rfl (by simp)) Front.nil))
          · exact SubX.dropN 42 (by kernel_rfl) rfl
          · exact (by repeat' (first | exact Pick.nil _ | exact Del.here _ | apply Pick.cons | apply Del.there))
          · exact ⟨.inr (by omega), by rw [chF_succ, ← ho]; simp at h7⟩
          · exact (by dsimp only; omega)
        · try simp only [Bool.and_eq_true, Bool.or_eq_true, Bool.not_eq_true', Bool.not_eq_false', decide_eq_true_eq, decide_eq_false_iff_not, Bool.and_eq_false_iff, Bool.or_eq_false_iff, ne_eq, Decidable.not_not] at h9
          refine Tr.regionT 1 11 HLF.mixed (by kernel_rfl) (panicIn (panicThen (panicThen (panicIn (panicThen panicBody))))) ?_
          refine TrQ.pureMove rfl rfl ?_
          refine TrQ.pureNil ?_
          refine TrQ.q (QS.move rfl) rfl ?_
          refine TrQ.q (QS.move rfl) rfl ?_
          refine TrQ.q (QS.idxRowN rfl rfl (by repeat (first | exact List.Mem.head _ | apply List.Mem.tail)) Tryz.underlying23 Tryz.sizeOf33 (by rfl) (by omega)) rfl ?_
          refine TrQ.q (QS.elR1 rfl (by repeat (first | exact List.Mem.head _ | apply List.Mem.tail)) Tryz.isAgg33 (by omega) (by rfl)) rfl ?_
          refine TrQ.q (QS.move rfl) rfl ?_
          refine TrQ.q (QS.move rfl) rfl ?_
          refine TrQ.q (QS.addI rfl rfl (by omega)) rfl ?_
          refine TrQ.q (QS.idxRow rfl rfl (by repeat (first | exact List.Mem.head _ | apply List.Mem.tail)) Tryz.underlying23 Tryz.sizeOf33 (by rfl) (by omega)) rfl ?_
          refine TrQ.q (QS.elR1 rfl (by repeat (first | exact List.Mem.head _ | apply List.Mem.tail)) Tryz.isAgg33 (by omega) (by rfl)) rfl ?_
          refine TrQ.q (QS.build (vs := [(0, _), (1, _)]) rfl rfl rfl) rfl ?_
          refine TrQ.nil ?_
          refine Tr.lit1 (E := encRng) ⟨_, _⟩ rfl rfl Tryz.underlying45 Tryz.sizeOf60 Tryz.zeroValue60 (by rfl) (by rfl) rfl (fun V10 => ?_)
          refine Tr.append1 rfl rfl (by repeat (first | exact Del.here _ | apply Del.there)) (by repeat (first | exact Del.here _ | apply Del.there)) Tryz.underlying45 HLF.info60 (by rfl) (by rfl) (by (try simp only [List.length_cons, List.length_nil, List.length_append, List.length_take]); omega) (by unfold maxLen; (try simp only [List.length_cons, List.length_nil, List.length_append, List.length_take]); omega) rfl (fun V11 => ?_)
          refine Tr.q (QS.assign rfl) rfl ?_
          refine Tr.nil ?_
          refine Tr.inN ?_
          refine Tr.thenN ?_
          refine Tr.region ?_
          refine Tr.q (QS.move rfl) rfl ?_
          refine Tr.q (QS.addI rfl rfl (by omega)) rfl ?_
          refine Tr.q (QS.assign rfl) rfl ?_
          refine Tr.nil ?_
          refine Tr.thenN ?_
          apply Tr.again (k + 1, _, _)
          · exact rfl
          · exact (.cons (by first | rfl | exact lookI rfl (by omega) | exact lookI rfl (by simp) | exact lookB rfl (by simp)) (.cons (by first | rfl | exact lookI rfl (by omega) | exact lookI rfl (by simp) | exact lookB rfl (by simp)) Front.nil))
          · exact SubX.dropN 46 (by kernel_rfl) rfl
          · exact (by repeat' (first | exact Pick.nil _ | exact Del.here _ | apply Pick.cons | apply Del.there))
          · exact ⟨.inr (by omega), by rw [chF_succ, ← ho]; simp at h7⟩
          · exact (by dsimp only; omega)
    · try simp only [Bool.and_eq_true, Bool.or_eq_true, Bool.not_eq_true', Bool.not_eq_false', decide_eq_true_eq, decide_eq_false_iff_not, Bool.and_eq_false_iff, Bool.or_eq_false_iff, ne_eq, Decidable.not_not] at h6
      refine Tr.skip ?_
      refine Tr.thenN ?_
      refine Tr.seq ?_
      refine Tr.seq ?_
      refine Tr.region ?_
      refine Tr.q (QS.move rfl) rfl ?_
      refine Tr.q (QS.not rfl) rfl ?_
      refine Tr.nil ?_
      refine Tr.thenN ?_
      refine Tr.cond rfl (fun h12 => ?_) (fun h12 => ?_)
      · try simp only [Bool.and_eq_true, Bool.or_eq_true, Bool.not_eq_true', Bool.not_eq_false', decide_eq_true_eq, decide_eq_false_iff_not, Bool.and_eq_false_iff, Bool.or_eq_false_iff, ne_eq, Decidable.not_not] at h12
        refine Tr.exit ?_
        refine Tr.thenE ?_
        refine Tr.inHit ?_
        refine Tr.thenN ?_
        refine Tr.region ?_
        refine Tr.q (QS.move rfl) rfl ?_
        refine Tr.q (QS.addI rfl rfl (by omega)) rfl ?_
        refine Tr.q (QS.assign rfl) rfl ?_
        refine Tr.nil ?_
        refine Tr.thenN ?_
        apply Tr.again (k + 1, _, _)
        · exact rfl
        · exact (.cons (by first | rfl | exact lookI rfl (by omega) | exact lookI rfl (by simp) | exact lookB rfl (by simp)) (.cons (by first | rfl | exact lookI rfl (by omega) | exact lookI rfl (by simp) | exact lookB rfl (by simp)) Front.nil))
        · exact SubX.dropN 24 (by kernel_rfl) rfl
        · exact (by repeat' (first | exact Pick.nil _ | exact Del.here _ | apply Pick.cons | apply Del.there))
        · exact ⟨.inr (by omega), by rw [chF_succ, ← ho]; exact (chStep_no (inC_no h6 h12)).symm⟩
        · exact (by dsimp only; omega)
      · try simp only [Bool.and_eq_true, Bool.or_eq_true, Bool.not_eq_true', Bool.not_eq_false', decide_eq_true_eq, decide_eq_false_iff_not, Bool.and_eq_false_iff, Bool.or_eq_false_iff, ne_eq, Decidable.not_not] at h12
        refine Tr.skip ?_
        refine Tr.thenN ?_
        refine Tr.seq ?_
        refine Tr.region ?_
        refine Tr.q (QS.move rfl) rfl ?_
        refine Tr.q (QS.lenRow rfl (by repeat (first | exact List.Mem.head _ | apply List.Mem.tail)) Tryz.underlying45) rfl ?_
        refine Tr.q (QS.assign rfl) rfl ?_
        refine Tr.nil ?_
        refine Tr.thenN ?_
        refine Tr.seq ?_
        refine Tr.regionQ HLF.mixed (by kernel_rfl) ?_
        refine TrQ.q (QS.move rfl) rfl ?_
        refine TrQ.q (QS.gtr rfl rfl) rfl ?_
        refine TrQ.q (QS.move rfl) rfl ?_
        apply TrQ.and (t := 56) (d := 68) 12
        · exact rfl
        · intro hT13; have hT13' := hT13
          try simp only [Bool.and_eq_true, Bool.or_eq_true, Bool.not_eq_true', Bool.not_eq_false', decide_eq_true_eq, decide_eq_false_iff_not, Bool.and_eq_false_iff, Bool.or_eq_false_iff, ne_eq, Decidable.not_not] at hT13'
          refine TrQ.gq rfl rfl hT13 (QS.move rfl) rfl ?_
          refine TrQ.gq rfl rfl hT13 (QS.move rfl) rfl ?_
          refine TrQ.gq rfl rfl hT13 (QS.subI rfl rfl (by omega)) rfl ?_
          refine TrQ.gq rfl rfl hT13 (QS.idxRow rfl rfl (by repeat (first | exact List.Mem.head _ | apply List.Mem.tail)) Tryz.underlying45 Tryz.sizeOf60 (by rfl) (by omega)) rfl ?_
          refine TrQ.gq rfl rfl hT13 (QS.fieldAddr (off := 1) (ft := 33) rfl Tryz.underlying60 rfl rfl Tryz.sizeOf33 (by decide)) rfl ?_
          refine TrQ.gq rfl rfl hT13 (QS.elRF rfl (by repeat (first | exact List.Mem.head _ | apply List.Mem.tail)) Tryz.isAgg33 (by omega) (by rfl)) rfl ?_
          refine TrQ.gq rfl rfl hT13 (QS.move rfl) rfl ?_
          refine TrQ.gq rfl rfl hT13 (QS.move rfl) rfl ?_
          refine TrQ.gq rfl rfl hT13 (QS.idxRowN rfl rfl (by repeat (first | exact List.Mem.head _ | apply List.Mem.tail)) Tryz.underlying23 Tryz.sizeOf33 (by rfl) (by omega)) rfl ?_
          refine TrQ.gq rfl rfl hT13 (QS.elR1 rfl (by repeat (first | exact List.Mem.head _ | apply List.Mem.tail)) Tryz.isAgg33 (by omega) (by rfl)) rfl ?_
          refine TrQ.gq rfl rfl hT13 (QS.eql32 rfl rfl) rfl ?_
          refine TrQ.q (QS.pickT rfl hT13 rfl) rfl ?_
          exact TrQ.end (Sub.cons rfl (Sub.dropN 12 (by kernel_rfl) rfl))
        · intro hF13
          refine TrQ.gskip rfl rfl hF13 rfl ?_
          refine TrQ.gskip rfl rfl hF13 rfl ?_
          refine TrQ.gskip rfl rfl hF13 rfl ?_
          refine TrQ.gskip rfl rfl hF13 rfl ?_
          refine TrQ.gskip rfl rfl hF13 rfl ?_
          refine TrQ.gskip rfl rfl hF13 rfl ?_
          refine TrQ.gskip rfl rfl hF13 rfl ?_
          refine TrQ.gskip rfl rfl hF13 rfl ?_
          refine TrQ.gskip rfl rfl hF13 rfl ?_
          refine TrQ.gskip rfl rfl hF13 rfl ?_
          refine TrQ.gskip rfl rfl hF13 rfl ?_
          refine TrQ.q (QS.pickF rfl hF13 rfl) rfl ?_
          exact TrQ.end (Sub.cons rfl (Sub.dropN 12 (by kernel_rfl) rfl))
        refine TrQ.nil ?_
        refine Tr.thenN ?_
        refine Tr.cond rfl (fun h14 => ?_) (fun h14 => ?_)
        · try simp only [Bool.and_eq_true, Bool.or_eq_true, Bool.not_eq_true', Bool.not_eq_false', decide_eq_true_eq, decide_eq_false_iff_not, Bool.and_eq_false_iff, Bool.or_eq_false_iff, ne_eq, Decidable.not_not] at h14
          refine Tr.region ?_
          refine Tr.q (QS.move rfl) rfl ?_
          refine Tr.q (QS.move rfl) rfl ?_
          refine Tr.q (QS.subI rfl rfl (by omega)) rfl ?_
          refine Tr.q (QS.move rfl) rfl ?_
          refine Tr.q (QS.move rfl) rfl ?_
          refine Tr.q (QS.addI rfl rfl (by omega)) rfl ?_
          refine Tr.q (QS.idxRow rfl rfl (by repeat (first | exact List.Mem.head _ | apply List.Mem.tail)) Tryz.underlying23 Tryz.sizeOf33 (by rfl) (by omega)) rfl ?_
          refine Tr.q (QS.elR1 rfl (by repeat (first | exact List.Mem.head _ | apply List.Mem.tail)) Tryz.isAgg33 (by omega) (by rfl)) rfl ?_
          refine Tr.q (QS.idxRow rfl rfl (by repeat (first | exact List.Mem.head _ | apply List.Mem.tail)) Tryz.underlying45 Tryz.sizeOf60 (by rfl) (by omega)) rfl ?_
          refine Tr.q (QS.fieldAddr (off := 1) (ft := 33) rfl Tryz.underlying60 rfl rfl Tryz.sizeOf33 (by decide)) rfl ?_
          refine Tr.storeRow (⟨(lastR out).lo, cuts.getD (k + 1) default⟩) rfl rfl Tryz.sizeOf33 (by repeat (first | exact Put.here _ | apply Put.there)) (by omega) (by decide) (by rfl) rfl rfl rfl ?_
          refine Tr.nil ?_
          refine Tr.inN ?_
          refine Tr.thenN ?_
          refine Tr.region ?_
          refine Tr.q (QS.move rfl) rfl ?_
          refine Tr.q (QS.addI rfl rfl (by omega)) rfl ?_
          refine Tr.q (QS.assign rfl) rfl ?_
          refine Tr.nil ?_
          refine Tr.thenN ?_
          apply Tr.again (k + 1, _, _)
          · exact rfl
          · exact (.cons (by first | rfl | exact lookI rfl (by omega) | exact lookI rfl (by simp) | exact lookB rfl (by simp)) (.cons (by first | rfl | exact lookI rfl (by omega) | exact lookI rfl (by simp) | exact lookB rfl (by simp)) Front.nil))
          · exact SubX.dropN 41 (by kernel_rfl) rfl
          · exact (by repeat' (first | exact Pick.nil _ | exact Del.here _ | apply Pick.cons | apply Del.there))
          · exact ⟨.inr (by omega), by rw [chF_succ, ← ho]; exact (chStep_set (inC_yes h6 h12) h14).symm⟩
          · exact (by dsimp only; omega)
        · try simp only [Bool.and_eq_true, Bool.or_eq_true, Bool.not_eq_true', Bool.not_eq_false', decide_eq_true_eq, decide_eq_false_iff_not, Bool.and_eq_false_iff, Bool.or_eq_false_iff, ne_eq, Decidable.not_not] at h14
          refine Tr.regionT 1 11 HLF.mixed (by kernel_rfl) (panicIn (panicThen (panicThen (panicIn (panicThen panicBody))))) ?_
          refine TrQ.pureMove rfl rfl ?_
          refine TrQ.pureNil ?_
          refine TrQ.q (QS.move rfl) rfl ?_
          refine TrQ.q (QS.move rfl) rfl ?_
          refine TrQ.q (QS.idxRowN rfl rfl (by repeat (first | exact List.Mem.head _ | apply List.Mem.tail)) Tryz.underlying23 Tryz.sizeOf33 (by rfl) (by omega)) rfl ?_
          refine TrQ.q (QS.elR1 rfl (by repeat (first | exact List.Mem.head _ | apply List.Mem.tail)) Tryz.isAgg33 (by omega) (by rfl)) rfl ?_
          refine TrQ.q (QS.move rfl) rfl ?_
          refine TrQ.q (QS.move rfl) rfl ?_
          refine TrQ.q (QS.addI rfl rfl (by omega)) rfl ?_
          refine TrQ.q (QS.idxRow rfl rfl (by repeat (first | exact List.Mem.head _ | apply List.Mem.tail)) Tryz.underlying23 Tryz.sizeOf33 (by rfl) (by omega)) rfl ?_
          refine TrQ.q (QS.elR1 rfl (by repeat (first | exact List.Mem.head _ | apply List.Mem.tail)) Tryz.isAgg33 (by omega) (by rfl)) rfl ?_
          refine TrQ.q (QS.build (vs := [(0, _), (1, _)]) rfl rfl rfl) rfl ?_
          refine TrQ.nil ?_
          refine Tr.lit1 (E := encRng) ⟨_, _⟩ rfl rfl Tryz.underlying45 Tryz.sizeOf60 Tryz.zeroValue60 (by rfl) (by rfl) rfl (fun V15 => ?_)
          refine Tr.append1 rfl rfl (by repeat (first | exact Del.here _ | apply Del.there)) (by repeat (first | exact Del.here _ | apply Del.there)) Tryz.underlying45 HLF.info60 (by rfl) (by rfl) (by (try simp only [List.length_cons, List.length_nil, List.length_append, List.length_take]); omega) (by unfold maxLen; (try simp only [List.length_cons, List.length_nil, List.length_append, List.length_take]); omega) rfl (fun V16 => ?_)
          refine Tr.q (QS.assign rfl) rfl ?_
          refine Tr.nil ?_
          refine Tr.inN ?_
          refine Tr.thenN ?_
          refine Tr.region ?_
          refine Tr.q (QS.move rfl) rfl ?_
          refine Tr.q (QS.addI rfl rfl (by omega)) rfl ?_
          refine Tr.q (QS.assign rfl) rfl ?_
          refine Tr.nil ?_
          refine Tr.thenN ?_
          apply Tr.again (k + 1, _, _)
          · exact rfl
          · exact (.cons (by first | rfl | exact lookI rfl (by omega) | exact lookI rfl (by simp) | exact lookB rfl (by simp)) (.cons (by first | rfl | exact lookI rfl (by omega) | exact lookI rfl (by simp) | exact lookB rfl (by simp)) Front.nil))
          · exact SubX.dropN 45 (by kernel_rfl) rfl
          · exact (by repeat' (first | exact Pick.nil _ | exact Del.here _ | apply Pick.cons | apply Del.there))
          · exact ⟨.inr (by omega), by rw [chF_succ, ← ho]; exact (chStep_app (inC_yes h6 h12) h14).symm⟩
          · exact (by dsimp only; omega)
  · try simp only [Bool.and_eq_true, Bool.or_eq_true, Bool.not_eq_true', Bool.not_eq_false', decide_eq_true_eq, decide_eq_false_iff_not, Bool.and_eq_false_iff, Bool.or_eq_false_iff, ne_eq, Decidable.not_not] at h2
    refine Tr.exit ?_
    refine Tr.thenE ?_
    refine Tr.thenE ?_
    refine Tr.inHit ?_
    refine Tr.thenN ?_
    refine Tr.seq ?_
    refine Tr.region ?_
    refine Tr.q (QS.move rfl) rfl ?_
    refine Tr.q (QS.assign rfl) rfl ?_
    refine Tr.nil ?_
    refine Tr.thenN ?_
    refine Tr.ret ?_
    refine Tr.ret1 Tryz.results88 rfl (fun w' hw => ?_)
    have ek : k = cuts.length - 1 := by omega
    have e : chooseP a b both without = out := by rw [chooseP, ← hcu, ← ek, ← ho]
    exact ⟨_, rfl, hw.below (Bg.le.refl _), by rw [e]; exact hw.new (.head _)⟩
set_option maxRecDepth 100000 in
set_option maxHeartbeats 2000000 in
theorem refNormal_any (l : List Rng) (V : Value) (w : World) (hV : Sl (hp w) encRng l V) (hb : l.length ≤ 1000000) :
    Calls Tryz.prog 61 #[V] w (fun e w' => ∃ V', e = .returned V' ∧ Ext w w' ∧ NewRow w w' 60 encRng (chooseP l [] false false) V') := by
  refine enter Tryz.func61 rfl Tryz.ntmps61 rfl ?_
  refine Tr.seq ?_
  refine Tr.region ?_
  refine Tr.q (QS.assign rfl) rfl ?_
  refine Tr.nil ?_
  refine Tr.thenN ?_
  refine Tr.seq ?_
  refine Tr.region ?_
  refine Tr.q (QS.move rfl) rfl ?_
  refine Tr.callRow rfl Tryz.call88 (fun w hw => choose_any l [] V _ false false w (hw.slF hV) sl_nil hb (by simp)) rfl (fun V1 => ?_)
  refine Tr.q (QS.assign rfl) rfl ?_
  refine Tr.nil ?_
  refine Tr.thenN ?_
  refine Tr.ret ?_
  refine Tr.ret1 Tryz.results61 rfl (fun w' hw => ?_)
  exact ⟨_, rfl, hw.below (Bg.le.refl _), hw.new (.head _)⟩
end Go.Proofs.YtmhbfelnjkhepaaGreat
namespace Go.HL
open Go Go.Sort
def SA (l : List UInt32) : Prop := l.Pairwise fun x y => x.toNat < y.toNat
def okU (out : List UInt32) (x : UInt32) : Prop := (out.length : Int) = 0 ∨ lastU out < x
theorem scan_ok (out : List UInt32) : ∀ (l : List UInt32) (s : UInt32 × Bool),
    ((l.foldl (scanStep out) s).2 = false → s.2 = false ∧ ∀ x ∈ l, ¬ okU out x) ∧
    ((l.foldl (scanStep out) s).2 = true → ((s.2 = true ∧ (l.foldl (scanStep out) s).1 = s.1) ∨ ((l.foldl (scanStep out) s).1 ∈ l ∧ okU out (l.foldl (scanStep out) s).1)) ∧
      (∀ x ∈ l, okU out x → (l.foldl (scanStep out) s).1.toNat ≤ x.toNat) ∧ (s.2 = true → (l.foldl (scanStep out) s).1.toNat ≤ s.1.toNat))
  | [], s => by
    refine ⟨fun h => ⟨h, by simp⟩, fun h => ⟨.inl ⟨h, rfl⟩, by simp, fun _ => Nat.le_refl _⟩⟩
  | y :: l, s => by
    have ih := scan_ok out l (scanStep out s y)
    simp only [List.foldl_cons]
    generalize l.foldl (scanStep out) (scanStep out s y) = r at ih ⊢
    by_cases hc : ((out.length : Int) = 0 ∨ lastU out < y) ∧ (s.2 = false ∨ y < s.1)
    · have e : scanStep out s y = (y, true) := by rw [scanStep, if_pos hc]
      rw [e] at ih
      refine ⟨fun h => absurd (ih.1 h).1 (by simp), fun h => ?_⟩
      obtain ⟨i1, i2, i3⟩ := ih.2 h
      have i3' := i3 rfl
      dsimp only at i3'
      refine ⟨.inr ?_, fun x hx ho => ?_, fun hs => ?_⟩
      · rcases i1 with ⟨_, i1⟩ | ⟨i1, i4⟩
        · dsimp only at i1; rw [i1]; exact ⟨.head _, hc.1⟩
        · exact ⟨.tail _ i1, i4⟩
      · rcases List.mem_cons.1 hx with rfl | hx
        · exact i3'
        · exact i2 x hx ho
      · rcases hc.2 with h2 | h2
        · rw [h2] at hs; simp at hs
        · rw [UInt32.lt_iff_toNat_lt] at h2; omega
    · have e : scanStep out s y = s := by rw [scanStep, if_neg hc]
      rw [e] at ih
      refine ⟨fun h => ?_, fun h => ?_⟩
      · obtain ⟨i1, i2⟩ := ih.1 h
        refine ⟨i1, fun x hx ho => ?_⟩
        rcases List.mem_cons.1 hx with rfl | hx
        · exact hc ⟨ho, .inl i1⟩
        · exact i2 x hx ho
      · obtain ⟨i1, i2, i3⟩ := ih.2 h
        refine ⟨i1.imp id fun q => ⟨.tail _ q.1, q.2⟩, fun x hx ho => ?_, i3⟩
        rcases List.mem_cons.1 hx with rfl | hx
        · have h2 : ¬ (s.2 = false ∨ x < s.1) := fun q => hc ⟨ho, q⟩
          cases hs : s.2 with
          | false => exact absurd (.inl hs) h2
          | true =>
            have := i3 hs
            have h3 : ¬ x < s.1 := fun q => h2 (.inr q)
            rw [UInt32.lt_iff_toNat_lt] at h3; omega
        · exact i2 x hx ho
theorem lastU_append (pre : List UInt32) (x : UInt32) : lastU (pre ++ [x]) = x := by
  unfold lastU
  rw [show (((pre ++ [x]).length : Int) - 1).toNat = pre.length by simp]
  simp [List.getD_eq_getElem?_getD]
theorem le_lastU {out : List UInt32} (h : SA out) {x : UInt32} (hx : x ∈ out) : x.toNat ≤ (lastU out).toNat := by
  rcases List.eq_nil_or_concat out with rfl | ⟨pre, y, rfl⟩
  · simp at hx
  · rw [List.concat_eq_append] at *
    rw [lastU_append]
    rcases List.mem_append.1 hx with hx | hx
    · exact Nat.le_of_lt ((List.pairwise_append.1 h).2.2 x hx y (.head _))
    · simp only [List.mem_singleton] at hx; rw [hx]; exact Nat.le_refl _
theorem all_in : ∀ (out all : List UInt32), out.Nodup → (∀ x ∈ out, x ∈ all) → all.length ≤ out.length → ∀ x ∈ all, x ∈ out
  | [], all, _, _, hl, x, hx => by
    have : all = [] := List.length_eq_zero_iff.1 (by simpa using hl)
    rw [this] at hx; exact hx
  | y :: out, all, hn, hs, hl, x, hx => by
    rw [List.nodup_cons] at hn
    have hy := hs y (.head _)
    by_cases h : x = y
    · rw [h]; exact .head _
    · refine .tail _ (all_in out (all.erase y) hn.2 (fun z hz => ?_) ?_ x ((List.mem_erase_of_ne h).2 hx))
      · exact (List.mem_erase_of_ne (fun e => hn.1 (by rw [← e]; exact hz))).2 (hs z (.tail _ hz))
      · rw [List.length_erase_of_mem hy]; simp at hl; omega
theorem SA.nodup {l : List UInt32} (h : SA l) : l.Nodup := h.imp fun {a b} q e => by rw [e] at q; omega
theorem boundsF_ok (all : List UInt32) : ∀ (n : Nat) (out : List UInt32), all.length ≤ out.length + n → SA out → (∀ x ∈ out, x ∈ all) → (∀ x ∈ all, ¬ okU out x → x ∈ out) →
    SA (boundsF all n out) ∧ ∀ x, x ∈ boundsF all n out ↔ x ∈ all
  | 0, out, hl, hs, hi, _ => ⟨hs, fun x => ⟨hi x, all_in out all hs.nodup hi (by omega) x⟩⟩
  | n + 1, out, hl, hs, hi, ho => by
    have hsc := scan_ok out all (0, false)
    unfold boundsF
    split
    · rename_i hf
      exact ⟨hs, fun x => ⟨hi x, fun hx => ho x hx ((hsc.1 hf).2 x hx)⟩⟩
    · rename_i hf
      have ht : (scan all out).2 = true := by cases h : (scan all out).2 <;> simp_all
      obtain ⟨h1, h2, _⟩ := hsc.2 ht
      have h3 : (scan all out).1 ∈ all ∧ okU out (scan all out).1 := h1.elim (fun q => by simp at q) id
      have h2' : ∀ x ∈ all, okU out x → (scan all out).1.toNat ≤ x.toNat := h2
      generalize (scan all out).1 = b at h3 h2'
      refine boundsF_ok all n (out ++ [b]) (by simp; omega) ?_ ?_ ?_
      · refine List.pairwise_append.2 ⟨hs, List.pairwise_singleton _ _, fun x hx y hy => ?_⟩
        simp only [List.mem_singleton] at hy; subst hy
        have := le_lastU hs hx
        rcases h3.2 with h4 | h4
        · have : out = [] := List.length_eq_zero_iff.1 (by omega)
          rw [this] at hx; simp at hx
        · rw [UInt32.lt_iff_toNat_lt] at h4; omega
      · intro x hx
        rcases List.mem_append.1 hx with hx | hx
        · exact hi x hx
        · simp only [List.mem_singleton] at hx; rw [hx]; exact h3.1
      · intro x hx hn
        by_cases hk : okU out x
        · have h4 := h2' x hx hk
          have h5 : ¬ b < x := fun q => hn (.inr (by rw [lastU_append]; exact q))
          rw [UInt32.lt_iff_toNat_lt] at h5
          exact List.mem_append.2 (.inr (by rw [u32_ext (show x.toNat = b.toNat by omega)]; exact .head _))
        · exact List.mem_append.2 (.inl (ho x hx hk))
theorem bounds_ok (a b : List Rng) : SA (boundsP a b) ∧ ∀ x, x ∈ boundsP a b ↔ x ∈ pairsOf a ∨ x ∈ pairsOf b := by
  have := boundsF_ok (pairsOf a ++ pairsOf b) (pairsOf a ++ pairsOf b).length [] (by simp) List.Pairwise.nil (by simp) (fun x _ h => absurd (.inl rfl) h)
  exact ⟨this.1, fun x => (this.2 x).trans List.mem_append⟩
theorem mem_pairs {l : List Rng} {r : Rng} (h : r ∈ l) : r.lo ∈ pairsOf l ∧ r.hi ∈ pairsOf l :=
  ⟨List.mem_flatMap.2 ⟨r, h, .head _⟩, List.mem_flatMap.2 ⟨r, h, .tail _ (.head _)⟩⟩
/-- Each number between two cuts lies in one gap. -/
theorem gap : ∀ (l : List UInt32), SA l → ∀ n x y, x ∈ l → y ∈ l → x.toNat ≤ n → n < y.toNat → ∃ i, i + 1 < l.length ∧ (l.getD i default).toNat ≤ n ∧ n < (l.getD (i + 1) default).toNat
  | [], _, n, x, y, hx, _, _, _ => by simp at hx
  | [c], _, n, x, y, hx, hy, h1, h2 => by simp at hx hy; subst hx; subst hy; omega
  | c :: d :: l, h, n, x, y, hx, hy, h1, h2 => by
    have hcd := (List.pairwise_cons.1 h).1
    have hs := (List.pairwise_cons.1 h).2
    have hd := (List.pairwise_cons.1 hs).1
    by_cases hn : n < d.toNat
    · refine ⟨0, by simp, ?_, by simpa using hn⟩
      rcases List.mem_cons.1 hx with rfl | hx
      · simpa using h1
      · rcases List.mem_cons.1 hx with rfl | hx
        · omega
        · have := hd x hx; omega
    · have hy' : y ∈ d :: l := by
        rcases List.mem_cons.1 hy with rfl | hy
        · have := hcd d (.head _); omega
        · exact hy
      obtain ⟨i, q1, q2, q3⟩ := gap (d :: l) hs n d y (.head _) hy' (by omega) h2
      exact ⟨i + 1, by simpa using q1, by simpa using q2, by simpa using q3⟩
theorem SA.lt {l : List UInt32} (h : SA l) {i j : Nat} (hij : i < j) (hj : j < l.length) : (l.getD i default).toNat < (l.getD j default).toNat := by
  have := List.pairwise_iff_getElem.1 h i j (by omega) hj hij
  simpa [List.getD_eq_getElem?_getD, hj, show i < l.length by omega] using this
/-- No cut lies inside a gap. -/
theorem SA.out {l : List UInt32} (h : SA l) {i : Nat} (hi : i + 1 < l.length) {x : UInt32} (hx : x ∈ l) : x.toNat ≤ (l.getD i default).toNat ∨ (l.getD (i + 1) default).toNat ≤ x.toNat := by
  obtain ⟨j, hj, rfl⟩ := List.mem_iff_getElem.1 hx
  have e : l[j] = l.getD j default := by simp [List.getD_eq_getElem?_getD, hj]
  rw [e]
  rcases Nat.lt_trichotomy j i with h1 | rfl | h1
  · exact .inl (Nat.le_of_lt (h.lt h1 (by omega)))
  · exact .inl (Nat.le_refl _)
  · rcases Nat.lt_or_ge (i + 1) j with h2 | h2
    · exact .inr (Nat.le_of_lt (h.lt h2 hj))
    · rw [show j = i + 1 by omega]; exact .inr (Nat.le_refl _)
theorem any_inR {l : List Rng} {c : UInt32} : l.any (inR c) = true ↔ Has l c.toNat := by
  simp only [List.any_eq_true, inR, Bool.and_eq_true, decide_eq_true_eq, UInt32.le_iff_toNat_le, UInt32.lt_iff_toNat_lt, Has]
theorem chF_ok (a b : List Rng) (both without : Bool) (cuts : List UInt32) (hs : SA cuts) : ∀ k, k + 1 ≤ cuts.length → Norm (chF a b both without cuts k) ∧ (∀ x ∈ chF a b both without cuts k, x.hi.toNat ≤ (cuts.getD k default).toNat) ∧
    ∀ n, Has (chF a b both without cuts k) n ↔ ∃ i, i < k ∧ (cuts.getD i default).toNat ≤ n ∧ n < (cuts.getD (i + 1) default).toNat ∧ inC a b both without (cuts.getD i default) = true
  | 0, _ => ⟨norm_nil, by simp [chF], fun n => ⟨fun h => absurd h Has.nil, fun ⟨i, h, _⟩ => absurd h (by omega)⟩⟩
  | k + 1, hk => by
    obtain ⟨h1, h2, h3⟩ := chF_ok a b both without cuts hs k (by omega)
    have hlt := hs.lt (show k < k + 1 by omega) (by omega)
    rw [chF_succ]
    generalize chF a b both without cuts k = out at h1 h2 h3
    have hsplit : ∀ n, (∃ i, i < k + 1 ∧ (cuts.getD i default).toNat ≤ n ∧ n < (cuts.getD (i + 1) default).toNat ∧ inC a b both without (cuts.getD i default) = true) ↔
        Has out n ∨ ((cuts.getD k default).toNat ≤ n ∧ n < (cuts.getD (k + 1) default).toNat ∧ inC a b both without (cuts.getD k default) = true) := fun n => by
      rw [h3 n]
      constructor
      · rintro ⟨i, q1, q2⟩
        rcases Nat.lt_or_ge i k with h | h
        · exact .inl ⟨i, h, q2⟩
        · obtain rfl : i = k := by omega
          exact .inr q2
      · rintro (⟨i, q1, q2⟩ | q)
        · exact ⟨i, by omega, q2⟩
        · exact ⟨k, by omega, q⟩
    cases hin : inC a b both without (cuts.getD k default) with
    | false =>
      rw [chStep_no hin]
      refine ⟨h1, fun x hx => by have := h2 x hx; omega, fun n => ?_⟩
      rw [hsplit n, hin]; simp
    | true =>
      rcases List.eq_nil_or_concat out with rfl | ⟨pre, x, rfl⟩
      · rw [chStep_app hin (.inl (by simp))]
        refine ⟨norm_single.2 hlt, fun x hx => by simp at hx; subst hx; exact Nat.le_refl _, fun n => ?_⟩
        rw [hsplit n, hin, List.nil_append, has_single]; simp [Has.nil]
      · rw [List.concat_eq_append] at *
        have hx := h2 x (List.mem_append.2 (.inr (.head _)))
        obtain ⟨n1, n2, n3⟩ := norm_append.1 h1
        have n2' := norm_single.1 n2
        by_cases he : x.hi = cuts.getD k default
        · rw [chStep_set hin ⟨by simp, by rw [lastR_append]; exact he⟩, set_last, lastR_append]
          rw [he] at n2'
          refine ⟨norm_append.2 ⟨n1, norm_single.2 (by dsimp only; omega), fun p hp q hq => ?_⟩, fun p hp => ?_, fun n => ?_⟩
          · simp only [List.mem_singleton] at hq; subst hq; exact n3 p hp x (.head _)
          · rcases List.mem_append.1 hp with hp | hp
            · have := h2 p (List.mem_append.2 (.inl hp)); omega
            · simp only [List.mem_singleton] at hp; subst hp; exact Nat.le_refl _
          · rw [hsplit n, hin, has_append, has_append, has_single, has_single, he]
            constructor
            · rintro (q | q)
              · exact .inl (.inl q)
              · dsimp only at q
                by_cases h : n < (cuts.getD k default).toNat
                · exact .inl (.inr ⟨q.1, h⟩)
                · exact .inr ⟨by omega, q.2, rfl⟩
            · rintro ((q | q) | q)
              · exact .inl q
              · exact .inr ⟨q.1, by dsimp only; omega⟩
              · exact .inr ⟨by dsimp only; omega, q.2.1⟩
        · have hne : x.hi.toNat ≠ (cuts.getD k default).toNat := fun e => he (u32_ext e)
          rw [chStep_app hin (.inr (by rw [lastR_append]; exact he))]
          refine ⟨norm_append.2 ⟨h1, norm_single.2 hlt, fun p hp q hq => ?_⟩, fun p hp => ?_, fun n => ?_⟩
          · simp only [List.mem_singleton] at hq; subst hq
            rcases List.mem_append.1 hp with hp | hp
            · have := n3 p hp x (.head _); dsimp only; omega
            · simp only [List.mem_singleton] at hp; subst hp; dsimp only; omega
          · rcases List.mem_append.1 hp with hp | hp
            · have := h2 p hp; omega
            · simp only [List.mem_singleton] at hp; subst hp; exact Nat.le_refl _
          · rw [hsplit n, hin, has_append, has_single]; simp
/-- choose: a normal list of what it says. -/
theorem choose_ok (a b : List Rng) (both without : Bool) : Norm (chooseP a b both without) ∧
    ∀ n, Has (chooseP a b both without) n ↔ (¬ (without = true ∧ Has b n) ∧ (Has a n ∨ both = true ∧ Has b n)) := by
  obtain ⟨hs, hm⟩ := bounds_ok a b
  unfold chooseP
  generalize boundsP a b = cuts at hs hm
  have hin : ∀ i n, i + 1 < cuts.length → (cuts.getD i default).toNat ≤ n → n < (cuts.getD (i + 1) default).toNat → (∀ l, (l = a ∨ l = b) → (Has l (cuts.getD i default).toNat ↔ Has l n)) := by
    intro i n hi h1 h2 l hl
    have hmem : ∀ r ∈ l, r.lo ∈ cuts ∧ r.hi ∈ cuts := fun r hr => by
      have := mem_pairs hr
      rcases hl with rfl | rfl
      · exact ⟨(hm _).2 (.inl this.1), (hm _).2 (.inl this.2)⟩
      · exact ⟨(hm _).2 (.inr this.1), (hm _).2 (.inr this.2)⟩
    constructor
    · rintro ⟨r, hr, q1, q2⟩
      have := hs.out hi (hmem r hr).1; have := hs.out hi (hmem r hr).2
      exact ⟨r, hr, by omega, by omega⟩
    · rintro ⟨r, hr, q1, q2⟩
      have := hs.out hi (hmem r hr).1; have := hs.out hi (hmem r hr).2
      exact ⟨r, hr, by omega, by omega⟩
  have hC : ∀ i n, i + 1 < cuts.length → (cuts.getD i default).toNat ≤ n → n < (cuts.getD (i + 1) default).toNat → (inC a b both without (cuts.getD i default) = true ↔ (¬ (without = true ∧ Has b n) ∧ (Has a n ∨ both = true ∧ Has b n))) := by
    intro i n hi h1 h2
    rw [← hin i n hi h1 h2 a (.inl rfl), ← hin i n hi h1 h2 b (.inr rfl), ← any_inR, ← any_inR]
    unfold inC
    cases without <;> cases both <;> cases a.any (inR (cuts.getD i default)) <;> cases b.any (inR (cuts.getD i default)) <;> simp
  have hgap : ∀ n l, (l = a ∨ l = b) → Has l n → ∃ i, i + 1 < cuts.length ∧ (cuts.getD i default).toNat ≤ n ∧ n < (cuts.getD (i + 1) default).toNat := by
    rintro n l hl ⟨r, hr, q1, q2⟩
    have := mem_pairs hr
    refine gap cuts hs n r.lo r.hi ?_ ?_ q1 q2
    · rcases hl with rfl | rfl
      · exact (hm _).2 (.inl this.1)
      · exact (hm _).2 (.inr this.1)
    · rcases hl with rfl | rfl
      · exact (hm _).2 (.inl this.2)
      · exact (hm _).2 (.inr this.2)
  by_cases h0 : cuts.length = 0
  · have e : cuts.length - 1 = 0 := by omega
    rw [e]
    refine ⟨norm_nil, fun n => ⟨fun h => absurd h Has.nil, fun ⟨_, h⟩ => ?_⟩⟩
    rcases h with h | ⟨_, h⟩
    · obtain ⟨i, hi, _⟩ := hgap n a (.inl rfl) h; omega
    · obtain ⟨i, hi, _⟩ := hgap n b (.inr rfl) h; omega
  · obtain ⟨c1, _, c3⟩ := chF_ok a b both without cuts hs (cuts.length - 1) (by omega)
    refine ⟨c1, fun n => ?_⟩
    rw [c3 n]
    constructor
    · rintro ⟨i, q1, q2, q3, q4⟩
      exact (hC i n (by omega) q2 q3).1 q4
    · intro q
      have hg : ∃ i, i + 1 < cuts.length ∧ (cuts.getD i default).toNat ≤ n ∧ n < (cuts.getD (i + 1) default).toNat :=
        q.2.elim (hgap n a (.inl rfl)) (fun z => hgap n b (.inr rfl) z.2)
      obtain ⟨i, g1, g2, g3⟩ := hg
      exact ⟨i, by omega, g2, g3, (hC i n g1 g2 g3).2 q⟩
theorem refNormal_eq (l : List Rng) : chooseP l [] false false = normalP l := by
  have h := choose_ok l [] false false
  refine Norm.unique _ _ h.1 (normal_ok l).1 fun n => ?_
  rw [h.2 n, (normal_ok l).2 n]; simp
end Go.HL
namespace Go.Proofs.YtmhbfelnjkhepaaGreat
open Go Go.HL Go.RowKit
theorem validR_any (i : Ins) (w : World) : Calls Tryz.prog 84 #[.agg (encIns.enc i).toArray] w (fun e w' => e = .returned (.bool (decide (errP i = 0))) ∧ Ext w w') := by
  have h := refValid_any i w
  rw [err_ref] at h; exact h
theorem lengthR_any (i : Ins) (w : World) (hI : InsOK i) : Calls Tryz.prog 87 #[.agg (encIns.enc i).toArray] w (fun e w' => e = .returned (.int .i64 (lengthPI i)) ∧ Ext w w') := by
  have h := refLength_any i w hI
  rw [len_ref] at h; exact h
set_option maxRecDepth 100000 in
set_option maxHeartbeats 2000000 in
theorem end13_any (i : Ins) (w : World) (hI : InsOK i) :
    Calls Tryz.prog 60 #[.agg (encIns.enc i).toArray] w (fun e w' => e = .returned (.int .u64 (endI i)) ∧ Ext w w') := by
  have hl := len_rng i
  have ha := i.addr.toNat_lt
  refine enter Tryz.func60 rfl Tryz.ntmps60 rfl ?_
  refine Tr.seq ?_
  refine Tr.region ?_
  refine Tr.box rfl rfl rfl (fun b1 => ?_)
  refine Tr.q (QS.assign rfl) rfl ?_
  refine Tr.nil ?_
  refine Tr.thenN ?_
  refine Tr.seq ?_
  refine Tr.regionQ HLF.mixed (by kernel_rfl) ?_
  refine TrQ.q (QS.fieldAddr (off := 0) (ft := 33) rfl Tryz.underlying35 rfl rfl Tryz.sizeOf33 (by decide)) rfl ?_
  refine TrQ.q (QS.lV rfl Tryz.isAgg33) rfl ?_
  refine TrQ.q (QS.cvt32toU rfl Tryz.underlying33 Tryz.underlying81) rfl ?_
  refine TrQ.q (QS.lW rfl Tryz.isAgg35 Tryz.sizeOf35) rfl ?_
  refine TrQ.q (QS.call rfl Tryz.call87 (fun w hw => lengthR_any i w hI)) rfl ?_
  refine TrQ.q (QS.cvtIn rfl Tryz.underlying3 Tryz.underlying81 (IntWalk.u64_in _ (by omega))) rfl ?_
  refine TrQ.q (QS.addU rfl rfl (by omega)) rfl ?_
  refine TrQ.q (QS.assign rfl) rfl ?_
  refine TrQ.nil ?_
  refine Tr.thenN ?_
  refine Tr.ret ?_
  refine Tr.ret1 Tryz.results60 rfl (fun w' hw => ?_)
  exact ⟨rfl, hw.below (Bg.le.refl _)⟩
set_option maxRecDepth 100000 in
set_option maxHeartbeats 2000000 in
theorem conflict13_any (a b : Ins) (w : World) (hI : InsOK a) (hJ : InsOK b) :
    Calls Tryz.prog 56 #[.agg (encIns.enc a).toArray, .agg (encIns.enc b).toArray] w (fun e w' => e = .returned (.bool (conflP a b)) ∧ Ext w w') := by
  refine enter Tryz.func56 rfl Tryz.ntmps56 rfl ?_
  refine Tr.seq ?_
  refine Tr.region ?_
  refine Tr.box rfl rfl rfl (fun b1 => ?_)
  refine Tr.box rfl rfl rfl (fun b2 => ?_)
  refine Tr.q (QS.assign rfl) rfl ?_
  refine Tr.nil ?_
  refine Tr.thenN ?_
  refine Tr.seq ?_
  refine Tr.regionQ HLF.mixed (by kernel_rfl) ?_
  refine TrQ.q (QS.fieldAddr (off := 0) (ft := 33) rfl Tryz.underlying35 rfl rfl Tryz.sizeOf33 (by decide)) rfl ?_
  refine TrQ.q (QS.lV rfl Tryz.isAgg33) rfl ?_
  refine TrQ.q (QS.fieldAddr (off := 0) (ft := 33) rfl Tryz.underlying35 rfl rfl Tryz.sizeOf33 (by decide)) rfl ?_
  refine TrQ.q (QS.lV rfl Tryz.isAgg33) rfl ?_
  refine TrQ.q (QS.neq32 rfl rfl) rfl ?_
  refine TrQ.q (QS.move rfl) rfl ?_
  apply TrQ.andP
  · exact (rfl : _ = (3, 10, 13))
  · exact rfl
  · intro hT3; have hT3' := hT3
    try simp only [bs] at hT3'
    refine TrQ.gq rfl rfl hT3 (QS.lW rfl Tryz.isAgg35 Tryz.sizeOf35) rfl ?_
    refine TrQ.gq rfl rfl hT3 (QS.call rfl Tryz.call84 (fun w hw => validR_any a w)) rfl ?_
    refine TrQ.q (QS.pickT rfl hT3 rfl) rfl ?_
    exact TrQ.end (Sub.cons rfl (Sub.dropN 3 (by kernel_rfl) rfl))
  · intro hF3
    refine TrQ.gskip rfl rfl hF3 rfl ?_
    refine TrQ.gskip rfl rfl hF3 rfl ?_
    refine TrQ.q (QS.pickF rfl hF3 rfl) rfl ?_
    exact TrQ.end (Sub.cons rfl (Sub.dropN 3 (by kernel_rfl) rfl))
  refine TrQ.q (QS.move rfl) rfl ?_
  apply TrQ.andP
  · exact (rfl : _ = (3, 14, 17))
  · exact rfl
  · intro hT4; have hT4' := hT4
    try simp only [bs] at hT4'
    refine TrQ.gq rfl rfl hT4 (QS.lW rfl Tryz.isAgg35 Tryz.sizeOf35) rfl ?_
    refine TrQ.gq rfl rfl hT4 (QS.call rfl Tryz.call84 (fun w hw => validR_any b w)) rfl ?_
    refine TrQ.q (QS.pickT rfl hT4 rfl) rfl ?_
    exact TrQ.end (Sub.cons rfl (Sub.dropN 3 (by kernel_rfl) rfl))
  · intro hF4
    refine TrQ.gskip rfl rfl hF4 rfl ?_
    refine TrQ.gskip rfl rfl hF4 rfl ?_
    refine TrQ.q (QS.pickF rfl hF4 rfl) rfl ?_
    exact TrQ.end (Sub.cons rfl (Sub.dropN 3 (by kernel_rfl) rfl))
  refine TrQ.q (QS.move rfl) rfl ?_
  apply TrQ.andP
  · exact (rfl : _ = (7, 18, 25))
  · exact rfl
  · intro hT5; have hT5' := hT5
    try simp only [bs] at hT5'
    refine TrQ.gq rfl rfl hT5 (QS.fieldAddr (off := 0) (ft := 33) rfl Tryz.underlying35 rfl rfl Tryz.sizeOf33 (by decide)) rfl ?_
    refine TrQ.gq rfl rfl hT5 (QS.lV rfl Tryz.isAgg33) rfl ?_
    refine TrQ.gq rfl rfl hT5 (QS.cvt32toU rfl Tryz.underlying33 Tryz.underlying81) rfl ?_
    refine TrQ.gq rfl rfl hT5 (QS.lW rfl Tryz.isAgg35 Tryz.sizeOf35) rfl ?_
    refine TrQ.gq rfl rfl hT5 (QS.call rfl Tryz.call60 (fun w hw => end13_any b w hJ)) rfl ?_
    refine TrQ.gq rfl rfl hT5 (QS.lss rfl rfl) rfl ?_
    refine TrQ.q (QS.pickT rfl hT5 rfl) rfl ?_
    exact TrQ.end (Sub.cons rfl (Sub.dropN 7 (by kernel_rfl) rfl))
  · intro hF5
    refine TrQ.gskip rfl rfl hF5 rfl ?_
    refine TrQ.gskip rfl rfl hF5 rfl ?_
    refine TrQ.gskip rfl rfl hF5 rfl ?_
    refine TrQ.gskip rfl rfl hF5 rfl ?_
    refine TrQ.gskip rfl rfl hF5 rfl ?_
    refine TrQ.gskip rfl rfl hF5 rfl ?_
    refine TrQ.q (QS.pickF rfl hF5 rfl) rfl ?_
    exact TrQ.end (Sub.cons rfl (Sub.dropN 7 (by kernel_rfl) rfl))
  refine TrQ.q (QS.move rfl) rfl ?_
  apply TrQ.andP
  · exact (rfl : _ = (7, 26, 33))
  · exact rfl
  · intro hT6; have hT6' := hT6
    try simp only [bs] at hT6'
    refine TrQ.gq rfl rfl hT6 (QS.fieldAddr (off := 0) (ft := 33) rfl Tryz.underlying35 rfl rfl Tryz.sizeOf33 (by decide)) rfl ?_
    refine TrQ.gq rfl rfl hT6 (QS.lV rfl Tryz.isAgg33) rfl ?_
    refine TrQ.gq rfl rfl hT6 (QS.cvt32toU rfl Tryz.underlying33 Tryz.underlying81) rfl ?_
    refine TrQ.gq rfl rfl hT6 (QS.lW rfl Tryz.isAgg35 Tryz.sizeOf35) rfl ?_
    refine TrQ.gq rfl rfl hT6 (QS.call rfl Tryz.call60 (fun w hw => end13_any a w hI)) rfl ?_
    refine TrQ.gq rfl rfl hT6 (QS.lss rfl rfl) rfl ?_
    refine TrQ.q (QS.pickT rfl hT6 rfl) rfl ?_
    exact TrQ.end (Sub.cons rfl (Sub.dropN 7 (by kernel_rfl) rfl))
  · intro hF6
    refine TrQ.gskip rfl rfl hF6 rfl ?_
    refine TrQ.gskip rfl rfl hF6 rfl ?_
    refine TrQ.gskip rfl rfl hF6 rfl ?_
    refine TrQ.gskip rfl rfl hF6 rfl ?_
    refine TrQ.gskip rfl rfl hF6 rfl ?_
    refine TrQ.gskip rfl rfl hF6 rfl ?_
    refine TrQ.q (QS.pickF rfl hF6 rfl) rfl ?_
    exact TrQ.end (Sub.cons rfl (Sub.dropN 7 (by kernel_rfl) rfl))
  refine TrQ.q (QS.assign rfl) rfl ?_
  refine TrQ.nil ?_
  refine Tr.thenN ?_
  refine Tr.ret ?_
  refine Tr.ret1 Tryz.results56 rfl (fun w' hw => ?_)
  exact ⟨by rw [← rconf_eq]; rfl, hw.below (Bg.le.refl _)⟩
set_option maxRecDepth 100000 in
set_option maxHeartbeats 4000000 in
theorem shared13_any (l : List Ins) (V : Value) (w : World) (hV : Sl (hp w) encIns l V) (hI : ∀ x ∈ l, InsOK x) (h40 : l.length ≤ 200) :
    Calls Tryz.prog 26 #[V] w (fun e w' => ∃ V', e = .returned V' ∧ Ext w w' ∧ NewRow w w' 60 encRng (sharP l) V') := by
  have hV' : Sl (Bg.of w).blk encIns l V := hV
  have hIx : ∀ x, x < l.length → InsOK (l.getD x default) := fun x hx => hI _ (mem_getD hx)
  refine enter Tryz.func26 rfl Tryz.ntmps26 rfl ?_
  refine Tr.seq ?_
  refine Tr.region ?_
  refine Tr.q (QS.assign rfl) rfl ?_
  refine Tr.nil ?_
  refine Tr.thenN ?_
  refine Tr.seq ?_
  refine Tr.region ?_
  refine Tr.q (QS.assign rfl) rfl ?_
  refine Tr.nil ?_
  refine Tr.thenN ?_
  refine Tr.seq ?_
  refine Tr.seq ?_
  refine Tr.region ?_
  refine Tr.q (QS.assign rfl) rfl ?_
  refine Tr.nil ?_
  refine Tr.thenN ?_
  refine Tr.block ?_
  refine Tr.ownNil 60 encRng ?_
  refine Tr.loop (ι := Nat × Value) (fun ⟨i, V'⟩ => i ≤ l.length) (fun _ => _) (fun ⟨i, V'⟩ => [rowE V' 60 encRng (rshL l i)]) (fun ⟨i, V'⟩ => [(4, .int .i64 (i : Nat)), (3, V')]) (fun ⟨i, V'⟩ => l.length - i) (0, _) (Nat.zero_le _) (.cons (by first | rfl | exact lookI rfl (by omega) | exact lookI rfl (by simp) | exact lookB rfl (by simp)) (.cons (by first | rfl | exact lookI rfl (by omega) | exact lookI rfl (by simp) | exact lookB rfl (by simp)) Front.nil)) (by repeat' (first | exact Pick.nil _ | exact Del.here _ | apply Pick.cons | apply Del.there)) rfl (fun i hi m hm => ?_)
  obtain ⟨i, V'⟩ := i
  replace hi : i ≤ l.length := hi
  replace hm : m = l.length - i := hm
  change Tr _ _ [rowE V' 60 encRng (rshL l i)] ([(4, .int .i64 (i : Nat)), (3, V')] ++ _) _
  have hoL := rsh_le h40 (k := i) hi
  refine Tr.seq ?_
  refine Tr.seq ?_
  refine Tr.region ?_
  refine Tr.q (QS.move rfl) rfl ?_
  refine Tr.q (QS.move rfl) rfl ?_
  refine Tr.q (QS.len rfl (by assumption) Tryz.underlying22) rfl ?_
  refine Tr.q (QS.lss rfl rfl) rfl ?_
  refine Tr.nil ?_
  refine Tr.thenN ?_
  refine Tr.cond rfl (fun h1 => ?_) (fun h1 => ?_)
  · try simp only [bs] at h1
    refine Tr.skip ?_
    refine Tr.thenN ?_
    refine Tr.seq ?_
    refine Tr.block ?_
    refine Tr.seq ?_
    refine Tr.region ?_
    refine Tr.q (QS.assign rfl) rfl ?_
    refine Tr.nil ?_
    refine Tr.thenN ?_
    refine Tr.block ?_
    have e0 : rshL l i ++ rsin (l.getD i default) (l.take 0) = rshL l i := by simp [rsin]
    rw [← e0]
    refine Tr.loop (ι := Nat × Value) (fun ⟨j, V2⟩ => j ≤ l.length) (fun _ => _) (fun ⟨j, V2⟩ => [rowE V2 60 encRng (rshL l i ++ rsin (l.getD i default) (l.take j))]) (fun ⟨j, V2⟩ => [(5, .int .i64 (j : Nat)), (3, V2)]) (fun ⟨j, V2⟩ => l.length - j) (0, _) (Nat.zero_le _) (.cons (by first | rfl | exact lookI rfl (by omega) | exact lookI rfl (by simp) | exact lookB rfl (by simp)) (.cons (by first | rfl | exact lookI rfl (by omega) | exact lookI rfl (by simp) | exact lookB rfl (by simp)) Front.nil)) (by repeat' (first | exact Pick.nil _ | exact Del.here _ | apply Pick.cons | apply Del.there)) rfl (fun i hi m hm => ?_)
    obtain ⟨j, V2⟩ := i
    replace hi : j ≤ l.length := hi
    replace hm : m = l.length - j := hm
    change Tr _ _ [rowE V2 60 encRng (rshL l i ++ rsin (l.getD i default) (l.take j))] ([(5, .int .i64 (j : Nat)), (3, V2)] ++ _) _
    have hin := rsin_len (l.getD i default) (l.take j)
    rw [List.length_take] at hin
    have her1 := endI_rng (l.getD i default)
    have her2 := endI_rng (l.getD j default)
    have hadr1 := (l.getD i default).addr.toNat_lt
    have hadr2 := (l.getD j default).addr.toNat_lt
    refine Tr.seq ?_
    refine Tr.seq ?_
    refine Tr.region ?_
    refine Tr.q (QS.move rfl) rfl ?_
    refine Tr.q (QS.move rfl) rfl ?_
    refine Tr.q (QS.len rfl (by assumption) Tryz.underlying22) rfl ?_
    refine Tr.q (QS.lss rfl rfl) rfl ?_
    refine Tr.nil ?_
    refine Tr.thenN ?_
    refine Tr.cond rfl (fun h2 => ?_) (fun h2 => ?_)
    · try simp only [bs] at h2
      refine Tr.skip ?_
      refine Tr.thenN ?_
      refine Tr.seq ?_
      refine Tr.block ?_
      refine Tr.seq ?_
      refine Tr.regionQ HLF.mixed (by kernel_rfl) ?_
      refine TrQ.q (QS.move rfl) rfl ?_
      refine TrQ.q (QS.move rfl) rfl ?_
      refine TrQ.q (QS.idxN rfl rfl (by assumption) Tryz.underlying22 Tryz.sizeOf35 (by rfl) (by omega)) rfl ?_
      refine TrQ.q (QS.fieldAddr (off := 0) (ft := 33) rfl Tryz.underlying35 rfl rfl Tryz.sizeOf33 (by decide)) rfl ?_
      refine TrQ.q (QS.elF rfl (by assumption) Tryz.isAgg33 (by omega) (by rfl)) rfl ?_
      refine TrQ.q (QS.move rfl) rfl ?_
      refine TrQ.q (QS.move rfl) rfl ?_
      refine TrQ.q (QS.idxN rfl rfl (by assumption) Tryz.underlying22 Tryz.sizeOf35 (by rfl) (by omega)) rfl ?_
      refine TrQ.q (QS.fieldAddr (off := 0) (ft := 33) rfl Tryz.underlying35 rfl rfl Tryz.sizeOf33 (by decide)) rfl ?_
      refine TrQ.q (QS.elF rfl (by assumption) Tryz.isAgg33 (by omega) (by rfl)) rfl ?_
      refine TrQ.q (QS.lss32 rfl rfl) rfl ?_
      refine TrQ.q (QS.move rfl) rfl ?_
      apply TrQ.andP
      · exact (rfl : _ = (10, 30, 40))
      · exact rfl
      · intro hT3; have hT3' := hT3
        try simp only [bs] at hT3'
        refine TrQ.gq rfl rfl hT3 (QS.move rfl) rfl ?_
        refine TrQ.gq rfl rfl hT3 (QS.move rfl) rfl ?_
        refine TrQ.gq rfl rfl hT3 (QS.idxN rfl rfl (by assumption) Tryz.underlying22 Tryz.sizeOf35 (by rfl) (by omega)) rfl ?_
        refine TrQ.gq rfl rfl hT3 (QS.elA rfl (by assumption) Tryz.isAgg35 Tryz.sizeOf35 (by rfl) (by omega)) rfl ?_
        refine TrQ.gq rfl rfl hT3 (QS.move rfl) rfl ?_
        refine TrQ.gq rfl rfl hT3 (QS.move rfl) rfl ?_
        refine TrQ.gq rfl rfl hT3 (QS.idxN rfl rfl (by assumption) Tryz.underlying22 Tryz.sizeOf35 (by rfl) (by omega)) rfl ?_
        refine TrQ.gq rfl rfl hT3 (QS.elA rfl (by assumption) Tryz.isAgg35 Tryz.sizeOf35 (by rfl) (by omega)) rfl ?_
        refine TrQ.gq rfl rfl hT3 (QS.call rfl Tryz.call56 (fun w hw => conflict13_any (l.getD i default) (l.getD j default) w (hIx _ (by omega)) (hIx _ (by omega)))) rfl ?_
        refine TrQ.q (QS.pickT rfl hT3 rfl) rfl ?_
        exact TrQ.end (Sub.cons rfl (Sub.dropN 10 (by kernel_rfl) rfl))
      · intro hF3
        refine TrQ.gskip rfl rfl hF3 rfl ?_
        refine TrQ.gskip rfl rfl hF3 rfl ?_
        refine TrQ.gskip rfl rfl hF3 rfl ?_
        refine TrQ.gskip rfl rfl hF3 rfl ?_
        refine TrQ.gskip rfl rfl hF3 rfl ?_
        refine TrQ.gskip rfl rfl hF3 rfl ?_
        refine TrQ.gskip rfl rfl hF3 rfl ?_
        refine TrQ.gskip rfl rfl hF3 rfl ?_
        refine TrQ.gskip rfl rfl hF3 rfl ?_
        refine TrQ.q (QS.pickF rfl hF3 rfl) rfl ?_
        exact TrQ.end (Sub.cons rfl (Sub.dropN 10 (by kernel_rfl) rfl))
      refine TrQ.nil ?_
      refine Tr.thenN ?_
      refine Tr.cond rfl (fun h4 => ?_) (fun h4 => ?_)
      · try simp only [bs] at h4
        refine Tr.seq ?_
        refine Tr.regionQ HLF.mixed (by kernel_rfl) ?_
        refine TrQ.q (QS.move rfl) rfl ?_
        refine TrQ.q (QS.move rfl) rfl ?_
        refine TrQ.q (QS.idxN rfl rfl (by assumption) Tryz.underlying22 Tryz.sizeOf35 (by rfl) (by omega)) rfl ?_
        refine TrQ.q (QS.elA rfl (by assumption) Tryz.isAgg35 Tryz.sizeOf35 (by rfl) (by omega)) rfl ?_
        refine TrQ.q (QS.call rfl Tryz.call60 (fun w hw => end13_any (l.getD i default) w (hIx _ (by omega)))) rfl ?_
        refine TrQ.q (QS.move rfl) rfl ?_
        refine TrQ.q (QS.move rfl) rfl ?_
        refine TrQ.q (QS.idxN rfl rfl (by assumption) Tryz.underlying22 Tryz.sizeOf35 (by rfl) (by omega)) rfl ?_
        refine TrQ.q (QS.elA rfl (by assumption) Tryz.isAgg35 Tryz.sizeOf35 (by rfl) (by omega)) rfl ?_
        refine TrQ.q (QS.call rfl Tryz.call60 (fun w hw => end13_any (l.getD j default) w (hIx _ (by omega)))) rfl ?_
        refine TrQ.q (QS.min3 rfl rfl rfl) rfl ?_
        refine TrQ.q (QS.assign rfl) rfl ?_
        refine TrQ.nil ?_
        refine Tr.thenN ?_
        refine Tr.region ?_
        refine Tr.q (QS.move rfl) rfl ?_
        refine Tr.q (QS.move rfl) rfl ?_
        refine Tr.q (QS.move rfl) rfl ?_
        refine Tr.q (QS.idxN rfl rfl (by assumption) Tryz.underlying22 Tryz.sizeOf35 (by rfl) (by omega)) rfl ?_
        refine Tr.q (QS.fieldAddr (off := 0) (ft := 33) rfl Tryz.underlying35 rfl rfl Tryz.sizeOf33 (by decide)) rfl ?_
        refine Tr.q (QS.elF rfl (by assumption) Tryz.isAgg33 (by omega) (by rfl)) rfl ?_
        refine Tr.q (QS.move rfl) rfl ?_
        refine Tr.q (QS.cvtTo32 rfl Tryz.underlying81 Tryz.underlying33) rfl ?_
        refine Tr.q (QS.build (vs := [(0, _), (1, _)]) rfl rfl (HLF.built60_0_1 _ _)) rfl ?_
        refine Tr.lit1 (E := encRng) (⟨(l.getD j default).addr, u32 (min (min (endI (l.getD i default)) (endI (l.getD j default))) 4294967295)⟩ : Rng) rfl rfl Tryz.underlying45 Tryz.sizeOf60 Tryz.zeroValue60 (by rfl) (by rfl) rfl (fun V5 => ?_)
        refine Tr.append1 rfl rfl (by repeat (first | exact Del.here _ | apply Del.there)) (by repeat (first | exact Del.here _ | apply Del.there)) Tryz.underlying45 HLF.info60 (by rfl) (by rfl) (by (try simp only [List.length_cons, List.length_nil, List.length_append, List.length_take]); omega) (by unfold maxLen; (try simp only [List.length_cons, List.length_nil, List.length_append, List.length_take]); omega) rfl (fun V6 => ?_)
        refine Tr.q (QS.assign rfl) rfl ?_
        refine Tr.nil ?_
        refine Tr.inN ?_
        refine Tr.thenN ?_
        refine Tr.region ?_
        refine Tr.q (QS.move rfl) rfl ?_
        refine Tr.q (QS.addI rfl rfl (by omega)) rfl ?_
        refine Tr.q (QS.assign rfl) rfl ?_
        refine Tr.nil ?_
        refine Tr.thenN ?_
        have hov : ovP (l.getD i default) (l.getD j default) = true := by rw [ovP, rconf_eq, Bool.and_eq_true, decide_eq_true_eq]; assumption
        rw [List.append_assoc, ← rsin_yes (by omega) hov]
        apply Tr.again (j + 1, _)
        · exact rfl
        · exact (.cons (by first | rfl | exact lookI rfl (by omega) | exact lookI rfl (by simp) | exact lookB rfl (by simp)) (.cons (by first | rfl | exact lookI rfl (by omega) | exact lookI rfl (by simp) | exact lookB rfl (by simp)) Front.nil))
        · exact SubX.dropN 46 (by kernel_rfl) rfl
        · exact (by repeat' (first | exact Pick.nil _ | exact Del.here _ | apply Pick.cons | apply Del.there))
        · exact (by show j + 1 ≤ _; omega)
        · exact (by (try dsimp only); omega)
      · try simp only [bs] at h4
        refine Tr.skip ?_
        refine Tr.inN ?_
        refine Tr.thenN ?_
        refine Tr.region ?_
        refine Tr.q (QS.move rfl) rfl ?_
        refine Tr.q (QS.addI rfl rfl (by omega)) rfl ?_
        refine Tr.q (QS.assign rfl) rfl ?_
        refine Tr.nil ?_
        refine Tr.thenN ?_
        have hov : ovP (l.getD i default) (l.getD j default) = false := by rw [ovP, rconf_eq, Bool.and_eq_false_iff, decide_eq_false_iff_not]; assumption
        rw [← rsin_no (by omega) hov]
        apply Tr.again (j + 1, _)
        · exact rfl
        · exact (.cons (by first | rfl | exact lookI rfl (by omega) | exact lookI rfl (by simp) | exact lookB rfl (by simp)) (.cons (by first | rfl | exact lookI rfl (by omega) | exact lookI rfl (by simp) | exact lookB rfl (by simp)) Front.nil))
        · exact SubX.dropN 22 (by kernel_rfl) rfl
        · exact (by repeat' (first | exact Pick.nil _ | exact Del.here _ | apply Pick.cons | apply Del.there))
        · exact (by show j + 1 ≤ _; omega)
        · exact (by (try dsimp only); omega)
    · try simp only [bs] at h2
      refine Tr.exit ?_
      refine Tr.thenE ?_
      refine Tr.thenE ?_
      refine Tr.inHit ?_
      refine Tr.inN ?_
      refine Tr.thenN ?_
      refine Tr.region ?_
      refine Tr.q (QS.move rfl) rfl ?_
      refine Tr.q (QS.addI rfl rfl (by omega)) rfl ?_
      refine Tr.q (QS.assign rfl) rfl ?_
      refine Tr.nil ?_
      refine Tr.thenN ?_
      obtain rfl : j = l.length := by omega
      rw [List.take_length, ← rsh_succ]
      apply Tr.again (i + 1, _)
      · exact rfl
      · exact (.cons (by first | rfl | exact lookI rfl (by omega) | exact lookI rfl (by simp) | exact lookB rfl (by simp)) (.cons (by first | rfl | exact lookI rfl (by omega) | exact lookI rfl (by simp) | exact lookB rfl (by simp)) Front.nil))
      · exact SubX.dropN 16 (by kernel_rfl) rfl
      · exact (by repeat' (first | exact Pick.nil _ | exact Del.here _ | apply Pick.cons | apply Del.there))
      · exact (by show i + 1 ≤ _; omega)
      · exact (by (try dsimp only); omega)
  · try simp only [bs] at h1
    refine Tr.exit ?_
    refine Tr.thenE ?_
    refine Tr.thenE ?_
    refine Tr.inHit ?_
    refine Tr.thenN ?_
    refine Tr.seq ?_
    obtain rfl : i = l.length := by omega
    refine Tr.region ?_
    refine Tr.q (QS.move rfl) rfl ?_
    refine Tr.callRow rfl Tryz.call61 (fun w hw => (by rw [share_ref, ← refNormal_eq]; exact refNormal_any (rshL l l.length) _ w (hw.row (.head _)) (by omega) : Calls Tryz.prog 61 #[V'] w (fun e w' => ∃ V', e = .returned V' ∧ Ext w w' ∧ NewRow w w' 60 encRng (sharP l) V'))) rfl (fun V7 => ?_)
    refine Tr.q (QS.assign rfl) rfl ?_
    refine Tr.nil ?_
    refine Tr.thenN ?_
    refine Tr.ret ?_
    refine Tr.ret1 Tryz.results26 rfl (fun w' hw => ?_)
    exact ⟨_, rfl, hw.below (Bg.le.refl _), hw.new (.head _)⟩
end Go.Proofs.YtmhbfelnjkhepaaGreat
namespace Go.Proofs.YtmhbfelnjkhepaaGreat
open Go Go.HL Go.RowKit
set_option maxRecDepth 100000 in
set_option maxHeartbeats 2000000 in
theorem sharedl_true (l : List Ins) (V : Value) (w : World) (hV : Sl (hp w) encIns l V) (hI : ∀ x ∈ l, InsOK x) :
    Calls Tryz.prog 5 #[V] w (fun e w' => e = .returned (.bool true) ∧ Ext w w') := by
  have hV' : Sl (Bg.of w).blk encIns l V := hV
  obtain ⟨pl, hpl⟩ : ∃ pl, pl = sharP l := ⟨_, rfl⟩
  have hpn : pl.length ≤ 100000 ∨ 40 < l.length := by
    rcases Nat.lt_or_ge 40 l.length with c | c
    · exact .inr c
    · have h1 := normalP_len (outer shareR l l.length)
      have h2 := outer_le (f := shareR) (l := l) (by omega) (Nat.le_refl _)
      rw [hpl]; exact .inl (by unfold sharP; omega)
  refine enter Tryz.func5 rfl Tryz.ntmps5 rfl ?_
  refine Tr.seq ?_
  refine Tr.region ?_
  refine Tr.q (QS.assign rfl) rfl ?_
  refine Tr.nil ?_
  refine Tr.thenN ?_
  refine Tr.seq ?_
  refine Tr.seq ?_
  refine Tr.region ?_
  refine Tr.q (QS.move rfl) rfl ?_
  refine Tr.q (QS.len rfl (by assumption) Tryz.underlying22) rfl ?_
  refine Tr.q (QS.gtr rfl rfl) rfl ?_
  refine Tr.nil ?_
  refine Tr.thenN ?_
  refine Tr.cond rfl (fun h1 => ?_) (fun h1 => ?_)
  · try simp only [bs] at h1
    refine Tr.seq ?_
    refine Tr.region ?_
    refine Tr.q (QS.call rfl Tryz.call11 (fun w hw => example13_any w)) rfl ?_
    refine Tr.q (QS.assign rfl) rfl ?_
    refine Tr.nil ?_
    refine Tr.thenN ?_
    refine Tr.ret ?_
    refine Tr.thenR ?_
    refine Tr.ret1 Tryz.results5 rfl (fun w' hw => ?_)
    exact ⟨rfl, hw.below (Bg.le.refl _)⟩
  · try simp only [bs] at h1
    refine Tr.skip ?_
    refine Tr.thenN ?_
    refine Tr.seq ?_
    refine Tr.region ?_
    refine Tr.q (QS.move rfl) rfl ?_
    refine Tr.callRow rfl Tryz.call25 (fun w hw => (by rw [hpl]; exact shared_any l V w (hw.slF hV') hI (by omega) : Calls Tryz.prog 25 #[V] w (fun e w' => ∃ V', e = .returned V' ∧ Ext w w' ∧ NewRow w w' 80 encRng (pl) V'))) rfl (fun V2 => ?_)
    refine Tr.callRow rfl Tryz.call24 (fun w hw => ranges_any pl _ w (hw.row (.head _)) (by omega)) rfl (fun V3 => ?_)
    refine Tr.q (QS.move rfl) rfl ?_
    refine Tr.callRow rfl Tryz.call26 (fun w hw => (by rw [hpl]; exact shared13_any l V w (hw.slF hV') hI (by omega) : Calls Tryz.prog 26 #[V] w (fun e w' => ∃ V', e = .returned V' ∧ Ext w w' ∧ NewRow w w' 60 encRng (pl) V'))) rfl (fun V4 => ?_)
    refine Tr.q (QS.call rfl Tryz.call23 (fun w hw => sameRanges_any pl pl _ _ w (hw.row (.tail _ (.head _))) (hw.row (.head _)))) rfl ?_
    refine Tr.q (QS.move rfl) rfl ?_
    apply Tr.andP
    · exact (rfl : _ = (2, 13, 15))
    · exact rfl
    · intro hT5; have hT5' := hT5
      try simp only [bs] at hT5'
      refine Tr.gq rfl rfl hT5 (QS.call rfl Tryz.call11 (fun w hw => example13_any w)) rfl ?_
      refine Tr.q (QS.pickT rfl hT5 rfl) rfl ?_
      refine Tr.nil (Tr.thenN ?_)
      exact Tr.endX (Sub.cons rfl (Sub.dropN 2 (by kernel_rfl) rfl))
    · intro hF5
      refine Tr.gskip rfl rfl hF5 rfl ?_
      refine Tr.q (QS.pickF rfl hF5 rfl) rfl ?_
      refine Tr.nil (Tr.thenN ?_)
      exact Tr.endX (Sub.cons rfl (Sub.dropN 2 (by kernel_rfl) rfl))
    refine Tr.q (QS.assign rfl) rfl ?_
    refine Tr.nil ?_
    refine Tr.thenN ?_
    refine Tr.ret ?_
    refine Tr.ret1 Tryz.results5 rfl (fun w' hw => ?_)
    exact ⟨by simp, hw.below (Bg.le.refl _)⟩
end Go.Proofs.YtmhbfelnjkhepaaGreat
namespace Go.HL
open Go Go.Deep Go.ChangeShapes Go.WideShapes
section
variable {H : Type} {enc : TypeId × Value → H} {P : Program} {w : World} {base : Nat} {spare : Nat → Bool} {held : Bool}
theorem sl_of_trod {α : Type} [Inhabited α] {E : Enc α} {R : α → Prop} {t e : TypeId} {fuel : Nat} {V : Value} {x : DataW H × List MemPlace} (ht : P.underlying t = some (.slice e)) (hc : P.cellsOf e = E.k) (hk : 0 < E.k)
    (hf : ∀ n cs y, cs.length = E.k → DataW.trod enc P w base spare held n e cs = some y → ∃ a : α, cs = E.enc a ∧ R a)
    (h : DataW.trod enc P w base spare held fuel t [V] = some x) : ∃ l : List α, Sl (hp w) E l V ∧ ∀ a ∈ l, R a := by
  rcases open_slice ht h with ⟨h0, _⟩ | ⟨a, len, cap, m, n, D, Pl, hv, hb, hl, hm, hmm, _, hx⟩
  · simp only [List.cons.injEq, and_true] at h0
    subst h0
    exact ⟨[], Sl.nil _ _, by simp⟩
  · simp only [List.cons.injEq, and_true] at hv
    subst hv
    have hlm : len ≤ m := by rw [hmm]; split <;> omega
    have each : ∀ i, i < len → ∃ q : α, w.cells? base (a.add (i * E.k)) E.k = some (E.enc q) ∧ R q := fun i hi => by
      obtain ⟨cs', h1, h2⟩ := hx i (by omega)
      rw [hc] at h1
      obtain ⟨q, rfl, hq⟩ := hf n cs' _ (World.cells?_some h1).2.1 h2
      exact ⟨q, h1, hq⟩
    obtain ⟨f, hfn⟩ := choose_lt each
    have hsp : 0 < len → a = ⟨a.block, a.off, none⟩ := fun hl0 => by
      have h1 := (World.cells?_some (hfn 0 hl0).1).2.2 0 hk
      have hlen : 0 < (E.enc (f 0)).length := by rw [E.len]; exact hk
      rw [List.getElem?_eq_getElem hlen] at h1
      have hsp := World.cell?_spot h1
      obtain ⟨b, o, sp⟩ := a
      have : sp = none := by simpa [Addr.add] using hsp
      subst this
      rfl
    refine ⟨(List.range len).map f, ⟨⟨some a, cap, by simp, by simpa using hl, hm, fun hne => ?_⟩, fun i q hq => ?_⟩, fun q hq => ?_⟩
    · have hl0 : 0 < len := by
        rcases Nat.eq_zero_or_pos len with h | h
        · subst h; simp at hne
        · exact h
      rw [hsp hl0]; rfl
    · have hi : i < len := by
        have := (List.getElem?_eq_some_iff.1 hq).1
        simpa using this
      have hq' : f i = q := by simpa [hi] using hq
      subst hq'
      have ha := hsp (by omega)
      obtain ⟨b, o, sp⟩ := a
      obtain rfl : sp = none := by simpa using ha
      have hc' := (World.cells?_some (hfn i hi).1).2.2
      have hlen : (E.enc (f i)).length = E.k := E.len _
      have eA : ∀ j, (((⟨b, o, none⟩ : Addr).add (i * E.k)).add j) = ⟨b, o + i * E.k + j, none⟩ := fun j => by
        rw [Go.Deep.add_add]; simp only [Addr.add]
        by_cases h0 : i * E.k + j = 0
        · rw [if_pos h0]
          have : i * E.k = 0 := by omega
          have : j = 0 := by omega
          simp_all
        · rw [if_neg h0, Nat.add_assoc]
      have h1 := hc' 0 hk
      rw [List.getElem?_eq_getElem (by omega), eA] at h1
      have hb1 : ∃ cs T fz, w.heap[b]? = some (.cells cs T fz) := by
        unfold World.cell? at h1
        split at h1
        · rename_i cs T fz hh; exact ⟨cs, T, fz, hh⟩
        · simp at h1
      obtain ⟨cs, T, fz, hh⟩ := hb1
      refine ⟨cs, T, fz, hh, fun j v hj => ?_⟩
      have hjk : j < E.k := by have := (List.getElem?_eq_some_iff.1 hj).1; omega
      have h2 := hc' j hjk
      rw [hj, eA] at h2
      unfold World.cell? at h2
      simp only [hh] at h2
      simp only [ofs]
      simpa using h2
    · obtain ⟨i, hi, rfl⟩ := List.mem_map.1 hq
      exact (hfn i (List.mem_range.1 hi)).2
theorem u32_of_wf {n : Int} (h : (Lit.int .u32 n).wf = true) : ∃ x : UInt32, n = (x.toNat : Int) := by
  have := bounds_u32 h
  refine ⟨UInt32.ofNat n.toNat, ?_⟩
  rw [UInt32.toNat_ofNat']; omega
end
end Go.HL
namespace Go.HL
open Go Go.Deep Go.ChangeShapes Go.WideShapes
section
variable {H : Type} {enc : TypeId × Value → H} {P : Program} {w : World} {base : Nat} {spare : Nat → Bool} {held : Bool}
theorem flat_ins {e t0 t1 : TypeId} {f0 f1 f2 f3 f4 f5 f6 f7 f8 : Field} (he : P.underlying e = some (.struct #[f0, f1, f2, f3, f4, f5, f6, f7, f8]))
    (ho : [f0.offset, f1.offset, f2.offset, f3.offset, f4.offset, f5.offset, f6.offset, f7.offset, f8.offset] = [0, 1, 2, 3, 4, 5, 6, 7, 8])
    (ht : [f0.type, f1.type, f2.type, f3.type, f4.type, f5.type, f6.type, f7.type, f8.type] = [t0, t0, t1, t1, t1, t1, t1, t1, t1])
    (c0 : P.cellsOf t0 = 1) (c1 : P.cellsOf t1 = 1) (u0 : P.underlying t0 = some (.int .u32)) (u1 : P.underlying t1 = some (.int .i64))
    {n : Nat} {cs : List Value} {y : DataW H × List MemPlace} (hl : cs.length = 9) (h : DataW.trod enc P w base spare held n e cs = some y) : ∃ i, cs = encIns.enc i ∧ InsOK i := by
  simp only [List.cons.injEq, and_true] at ho ht
  obtain ⟨o0, o1, o2, o3, o4, o5, o6, o7, o8⟩ := ho
  obtain ⟨t0', t1', t2', t3', t4', t5', t6', t7', t8'⟩ := ht
  obtain ⟨xs, k, hk, hxy, _, hxl, hf⟩ := DataW.trod_struct he h
  match xs, hxl, cs, hl with
  | [y0, y1, y2, y3, y4, y5, y6, y7, y8], _, [v0, v1, v2, v3, v4, v5, v6, v7, v8], _ =>
    have g0 := hf 0 f0 rfl
    have g1 := hf 1 f1 rfl
    have g2 := hf 2 f2 rfl
    have g3 := hf 3 f3 rfl
    have g4 := hf 4 f4 rfl
    have g5 := hf 5 f5 rfl
    have g6 := hf 6 f6 rfl
    have g7 := hf 7 f7 rfl
    have g8 := hf 8 f8 rfl
    simp [o0, o1, o2, o3, o4, o5, o6, o7, o8, t0', t1', t2', t3', t4', t5', t6', t7', t8', c0, c1] at g0 g1 g2 g3 g4 g5 g6 g7 g8
    obtain ⟨z0, e0, _, w0⟩ := DataW.trod_int u0 g0
    obtain ⟨z1, e1, _, w1⟩ := DataW.trod_int u0 g1
    obtain ⟨z2, e2, _, w2⟩ := DataW.trod_int u1 g2
    obtain ⟨z3, e3, _, w3⟩ := DataW.trod_int u1 g3
    obtain ⟨z4, e4, _, w4⟩ := DataW.trod_int u1 g4
    obtain ⟨z5, e5, _, w5⟩ := DataW.trod_int u1 g5
    obtain ⟨z6, e6, _, w6⟩ := DataW.trod_int u1 g6
    obtain ⟨z7, e7, _, w7⟩ := DataW.trod_int u1 g7
    obtain ⟨z8, e8, _, w8⟩ := DataW.trod_int u1 g8
    obtain ⟨x0, rfl⟩ := u32_of_wf w0
    obtain ⟨x1, rfl⟩ := u32_of_wf w1
    simp only [List.cons.injEq, and_true] at e0 e1 e2 e3 e4 e5 e6 e7 e8
    subst e0; subst e1; subst e2; subst e3; subst e4; subst e5; subst e6; subst e7; subst e8
    have b2 := bounds_i64 w2
    have b3 := bounds_i64 w3
    have b4 := bounds_i64 w4
    have b5 := bounds_i64 w5
    have b6 := bounds_i64 w6
    have b7 := bounds_i64 w7
    have b8 := bounds_i64 w8
    exact ⟨⟨x0, x1, z2, z3, z4, z5, z6, z7, z8⟩, rfl, ⟨b2, b3, b4, b5, b6, b7, b8⟩⟩
end
end Go.HL
