/- The walks of chapter 03's reference. -/
import Derived.Test.YtfnedefgepjbpaaWj
import Derived.Test.YtfnedefgepjbpaaIg
set_option linter.unusedSimpArgs false
set_option linter.unusedVariables false
namespace Go.Proofs.Ytfnedefgepjbpaa
open Go Go.HL Go.RowKit

set_option maxRecDepth 100000 in
set_option maxHeartbeats 2000000 in
theorem isReg_any (r : Int) (w : World) :
    Calls Try.prog 71 #[.int .i64 r] w (fun e w' => e = .returned (.bool (regP r)) ∧ Ext w w') := by
  refine enter Try.func71 rfl Try.ntmps71 rfl ?_
  refine Tr.seq ?_
  refine Tr.region ?_
  refine Tr.q (QS.assign rfl) rfl ?_
  refine Tr.nil ?_
  refine Tr.thenN ?_
  refine Tr.seq ?_
  refine Tr.region ?_
  refine Tr.q (QS.move rfl) rfl ?_
  refine Tr.q (QS.geq rfl rfl) rfl ?_
  refine Tr.q (QS.move rfl) rfl ?_
  apply Tr.andP
  · exact (rfl : _ = (3, 5, 8))
  · exact rfl
  · intro hT1; have hT1' := hT1
    try simp only [bs] at hT1'
    refine Tr.gq rfl rfl hT1 (QS.move rfl) rfl ?_
    refine Tr.gq rfl rfl hT1 (QS.lss rfl rfl) rfl ?_
    refine Tr.q (QS.pickT rfl hT1 rfl) rfl ?_
    refine Tr.nil (Tr.thenN ?_)
    exact Tr.endX (Sub.cons rfl (Sub.dropN 3 (by kernel_rfl) rfl))
  · intro hF1
    refine Tr.gskip rfl rfl hF1 rfl ?_
    refine Tr.gskip rfl rfl hF1 rfl ?_
    refine Tr.q (QS.pickF rfl hF1 rfl) rfl ?_
    refine Tr.nil (Tr.thenN ?_)
    exact Tr.endX (Sub.cons rfl (Sub.dropN 3 (by kernel_rfl) rfl))
  refine Tr.q (QS.assign rfl) rfl ?_
  refine Tr.nil ?_
  refine Tr.thenN ?_
  refine Tr.ret ?_
  refine Tr.ret1 Try.results71 rfl (fun w' hw => ?_)
  exact ⟨rfl, hw.below (Bg.le.refl _)⟩

end Go.Proofs.Ytfnedefgepjbpaa
