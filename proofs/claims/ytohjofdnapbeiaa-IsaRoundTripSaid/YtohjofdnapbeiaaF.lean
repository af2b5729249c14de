/- Closed facts of the program's tables. -/
import Derived.Test.YtohjofdnapbeiaaHb
import Derived.Test.YtohjofdnapbeiaaProg
import Derived.KernelRfl
set_option linter.unusedSimpArgs false
set_option linter.unusedVariables false
namespace Go.Proofs.Ytohjofdnapbeiaa
open Go Go.HL
theorem HLF.mixed : Try.prog.follows .mixedOrders = true := by kernel_rfl
theorem HLF.info3 : (Try.prog.info? 3).map (fun i => (i.zero, i.size, i.bytes)) = some (some (.int .i64 0), 1, 8) := by kernel_rfl
theorem HLF.info5 : (Try.prog.info? 5).map (fun i => (i.zero, i.size, i.bytes)) = some (some (.int .u8 0), 1, 1) := by kernel_rfl
end Go.Proofs.Ytohjofdnapbeiaa
