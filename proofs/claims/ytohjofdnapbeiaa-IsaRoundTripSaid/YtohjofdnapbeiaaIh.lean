/- Small facts for the walks of Reads and Writes. -/
import Derived.Test.YtohjofdnapbeiaaIg
set_option linter.unusedSimpArgs false
set_option linter.unusedVariables false
namespace Go.HL
open Go
theorem compact_le (l : List Int) : (Lib.compact l).length ≤ l.length := by
  unfold Lib.compact Lib.compactUpTo
  rw [List.length_map]
  refine Nat.le_trans (List.length_filter_le _ _) ?_
  simp
theorem errP_cc {i : Ins} (h : errP i = 0) (ho : i.op = 20 ∨ i.op = 25) : 0 ≤ i.cc ∧ i.cc ≤ 14 := by
  have h1 := (errP_regs h).1
  have e : opcodeP i = condP i := by
    unfold opcodeP
    rw [if_neg (by omega), if_neg (by omega), if_neg (by omega), if_neg (by omega), if_neg (by omega), if_neg (by omega), if_pos ho]
  rw [e] at h1
  unfold condP at h1
  split at h1
  · cases h1
  · omega
theorem mask_eq {cc : Int} (h : 0 ≤ cc ∧ cc ≤ 14) : (((([97, 98, 98, 107, 107, 108, 108, 101, 101, 102, 102, 99, 99, 105, 105] : List UInt8).getD cc.toNat 0 - 97).toNat : Nat) : Int) = maskP cc := by
  obtain rfl | rfl | rfl | rfl | rfl | rfl | rfl | rfl | rfl | rfl | rfl | rfl | rfl | rfl | rfl : cc = 0 ∨ cc = 1 ∨ cc = 2 ∨ cc = 3 ∨ cc = 4 ∨ cc = 5 ∨ cc = 6 ∨ cc = 7 ∨ cc = 8 ∨ cc = 9 ∨ cc = 10 ∨ cc = 11 ∨ cc = 12 ∨ cc = 13 ∨ cc = 14 := by omega
  all_goals rfl
end Go.HL
