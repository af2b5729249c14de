/- Closed facts of the program's tables: struct types. -/
import Derived.Test.YtfmhhakhbopfdaaF
import Derived.Test.YtfmhhakhbopfdaaHe
set_option linter.unusedSimpArgs false
set_option linter.unusedVariables false
namespace Go.Proofs.Ytfmhhakhbopfdaa
open Go Go.HL
theorem HLF.words51 : ∀ fs, Try.prog.underlying 51 = some (.struct fs) → WordFields Try.prog fs.toList [(.int .u32), (.int .u32)] := by
  intro fs h
  rw [Try.underlying51] at h
  cases h
  exact (.cons (by decide) Try.underlying23 Try.isAgg23 (.cons (by decide) Try.underlying23 Try.isAgg23 .nil))
theorem HLF.held51 : Try.prog.stoodInHeld 51 = false := by kernel_rfl
theorem HLF.eqg51 : Try.prog.eqGuardType Try.prog.depth 51 = false := by kernel_rfl
theorem HLF.words73 : ∀ fs, Try.prog.underlying 73 = some (.struct fs) → WordFields Try.prog fs.toList [(.int .u32), (.int .u32)] := by
  intro fs h
  rw [Try.underlying73] at h
  cases h
  exact (.cons (by decide) Try.underlying23 Try.isAgg23 (.cons (by decide) Try.underlying23 Try.isAgg23 .nil))
theorem HLF.held73 : Try.prog.stoodInHeld 73 = false := by kernel_rfl
theorem HLF.eqg73 : Try.prog.eqGuardType Try.prog.depth 73 = false := by kernel_rfl
theorem HLF.eqg135 : Try.prog.eqGuardType Try.prog.depth 135 = false := by kernel_rfl
theorem HLF.built51_0_1 (x0 : Int) (x1 : Int) : Try.prog.built 51 [(0, (.int .u32 x0)), (1, (.int .u32 x1))] = some #[(.int .u32 x0), (.int .u32 x1)] := by kernel_rfl
theorem HLF.built73_0_1 (x0 : Int) (x1 : Int) : Try.prog.built 73 [(0, (.int .u32 x0)), (1, (.int .u32 x1))] = some #[(.int .u32 x0), (.int .u32 x1)] := by kernel_rfl
end Go.Proofs.Ytfmhhakhbopfdaa
