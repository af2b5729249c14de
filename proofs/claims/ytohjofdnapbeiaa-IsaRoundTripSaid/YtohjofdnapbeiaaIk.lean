/- Short sorted lists; the example of chapter 03. -/
import Derived.Test.YtohjofdnapbeiaaIh
set_option linter.unusedSimpArgs false
set_option linter.unusedVariables false
namespace Go.HL
open Go
theorem compact_2 (x y : Int) : Lib.compact [x, y] = if x = y then [x] else [x, y] := by
  by_cases h : x = y
  · subst h; simp [Lib.compact, Lib.compactUpTo, Lib.keeps, List.range, List.range.loop, List.filter]
  · have : ¬ y = x := fun e => h e.symm
    simp [Lib.compact, Lib.compactUpTo, Lib.keeps, List.range, List.range.loop, List.filter, h, this]
theorem compact_1 (x : Int) : Lib.compact [x] = [x] := by simp [Lib.compact, Lib.compactUpTo, Lib.keeps, List.range, List.range.loop, List.filter]
theorem compact_0 : Lib.compact ([] : List Int) = [] := rfl
theorem sorted_2 (x y : Int) : sortedP [x, y] = if x < y then [x, y] else if x = y then [x] else [y, x] := by
  have e : ([x, y].mergeSort fun x y => decide (x ≤ y)) = if x ≤ y then [x, y] else [y, x] := by
    by_cases h : x ≤ y
    · rw [if_pos h]
      exact List.mergeSort_of_pairwise (by simp [h])
    · rw [if_neg h]
      rw [List.mergeSort.eq_def]
      simp [List.MergeSort.Internal.splitInTwo, List.merge, h]
  unfold sortedP
  rw [e]
  by_cases h1 : x < y
  · rw [if_pos (by omega), compact_2, if_neg (by omega), if_pos h1]
  · rw [if_neg h1]
    by_cases h2 : x = y
    · rw [if_pos (by omega), compact_2, if_pos h2, if_pos h2]
    · rw [if_neg (by omega), compact_2, if_neg (by omega), if_neg h2]
theorem sorted_1 (x : Int) : sortedP [x] = [x] := by unfold sortedP; rw [List.mergeSort_singleton, compact_1]
theorem sorted_0 : sortedP [] = [] := by unfold sortedP; rw [List.mergeSort_nil, compact_0]
theorem ex03_reads : readsP (decP [33, 19] 4096).1 = [1, 3] := by
  have e : (decP [33, 19] 4096).1 = ⟨4096, 0, 6, 0, 0, 0, 1, 3, 2⟩ := by decide +kernel
  rw [e]
  have h : errP ⟨4096, 0, 6, 0, 0, 0, 1, 3, 2⟩ = 0 := by decide +kernel
  unfold readsP
  simp [h, sorted_2]
theorem ex03_writes : writesP (decP [33, 19] 4096).1 = [1, 8, 9, 10, 11] := by
  have e : (decP [33, 19] 4096).1 = ⟨4096, 0, 6, 0, 0, 0, 1, 3, 2⟩ := by decide +kernel
  rw [e]
  have h : errP ⟨4096, 0, 6, 0, 0, 0, 1, 3, 2⟩ = 0 := by decide +kernel
  unfold writesP
  simp [h]
theorem dec_ok {b : List UInt8} {addr : UInt32} : InsOK (decP b addr).1 := by
  unfold decP
  split
  · exact ⟨by simp [zeroIns, I64], by simp [zeroIns, I64], by simp [zeroIns, I64], by simp [zeroIns, I64], by simp [zeroIns, I64], by simp [zeroIns, I64], by simp [zeroIns, I64]⟩
  split
  · exact ⟨by simp [zeroIns, I64], by simp [zeroIns, I64], by simp [zeroIns, I64], by simp [zeroIns, I64], by simp [zeroIns, I64], by simp [zeroIns, I64], by simp [zeroIns, I64]⟩
  split
  · exact ⟨by simp [zeroIns, I64], by simp [zeroIns, I64], by simp [zeroIns, I64], by simp [zeroIns, I64], by simp [zeroIns, I64], by simp [zeroIns, I64], by simp [zeroIns, I64]⟩
  simp only
  split
  · exact ⟨by simp [zeroIns, I64], by simp [zeroIns, I64], by simp [zeroIns, I64], by simp [zeroIns, I64], by simp [zeroIns, I64], by simp [zeroIns, I64], by simp [zeroIns, I64]⟩
  rename_i hr
  simp only [not_or, Bool.not_eq_false] at hr
  have ha := regP_iff.1 hr.1
  have hb := regP_iff.1 hr.2
  have hk := row_ok (b.getD 0 default)
  generalize (rowP (b.getD 0 default)).1 = k at *
  generalize (opcodeP k).2.1 = s at *
  have hs : ∀ s k b nx, (applyP s k b nx).op = k.op ∧ (applyP s k b nx).form = k.form ∧ (applyP s k b nx).width = k.width ∧ (applyP s k b nx).cc = k.cc ∧ (applyP s k b nx).size = k.size := fun s k b nx => by
    unfold applyP; repeat' split
    all_goals exact ⟨rfl, rfl, rfl, rfl, rfl⟩
  have hsz : 0 ≤ sizeP s ∧ sizeP s ≤ 6 := by unfold sizeP; repeat' split
                                             all_goals omega
  have h1 := hs s { k with addr := addr, size := sizeP s } b (addr + u32 (sizeP s))
  unfold bodyP at *
  show InsOK (applyP s { k with addr := addr, size := sizeP s } b (addr + u32 (sizeP s)))
  exact ⟨by rw [h1.1]; exact hk.op, by rw [h1.2.1]; exact hk.form, by rw [h1.2.2.1]; exact hk.width, by rw [h1.2.2.2.1]; exact hk.cc, by unfold I64; omega, by unfold I64; omega, by rw [h1.2.2.2.2]; unfold I64; show _ ≤ sizeP s ∧ sizeP s ≤ _; omega⟩
end Go.HL
