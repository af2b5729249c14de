/- Small facts for the walks of chapter 03's reference. -/
import Derived.Test.YtfnedefgepjbpaaIe
set_option linter.unusedSimpArgs false
set_option linter.unusedVariables false
namespace Go.HL
open Go
theorem sizedP_ne {c : Int} (h : sizedP c ≠ 0) : (c ≤ 2 ∨ 8 ≤ c ∧ c ≤ 23) ∨ (32 ≤ c ∧ c ≤ 42 ∨ 96 ≤ c ∧ c ≤ 110 ∨ c = 129 ∨ c = 130 ∨ 144 ≤ c ∧ c ≤ 158 ∨ c = 160 ∨ c = 161) ∨ (48 ≤ c ∧ c ≤ 58 ∨ 80 ≤ c ∧ c ≤ 87 ∨ c = 90) ∨ (112 ≤ c ∧ c ≤ 126 ∨ c = 128) ∨ (64 ≤ c ∧ c ≤ 74 ∨ c = 131) := by
  by_cases h0 : (c ≤ 2 ∨ 8 ≤ c ∧ c ≤ 23) ∨ (32 ≤ c ∧ c ≤ 42 ∨ 96 ≤ c ∧ c ≤ 110 ∨ c = 129 ∨ c = 130 ∨ 144 ≤ c ∧ c ≤ 158 ∨ c = 160 ∨ c = 161) ∨ (48 ≤ c ∧ c ≤ 58 ∨ 80 ≤ c ∧ c ≤ 87 ∨ c = 90) ∨ (112 ≤ c ∧ c ≤ 126 ∨ c = 128) ∨ (64 ≤ c ∧ c ≤ 74 ∨ c = 131)
  · exact h0
  · exfalso; apply h; unfold sizedP
    rw [if_neg (by omega), if_neg (by omega), if_neg (by omega), if_neg (by omega), if_neg (by omega)]
theorem long_drop {b : List UInt8} {k : Nat} (h : k + 4 ≤ b.length) : longP ((b.take (b.length : Int).toNat).drop (k : Int).toNat) 0 = longP b k := by
  rw [Int.toNat_natCast, Int.toNat_natCast, List.take_length]
  simp only [longP, List.getD_eq_getElem?_getD, List.getElem?_drop, Nat.add_zero]
/-- What a checked instruction is like. -/
theorem refErr_valid {i : Ins} (h : refErrP i = 0) : (0 ≤ i.op ∧ i.op ≤ 27) ∧ (-100 ≤ i.cc ∧ i.cc ≤ 100) ∧ (0 ≤ i.width ∧ i.width ≤ 4) ∧ (0 ≤ i.a ∧ i.a ≤ 100) ∧ (0 ≤ i.b ∧ i.b ≤ 100) := by
  unfold refErrP at h
  split at h
  · cases h
  rename_i h1
  split at h
  · cases h
  rename_i h2
  split at h
  · cases h
  rename_i h3
  clear h
  simp only [not_or] at h1 h2 h3
  obtain ⟨o1, o2, o3, o4⟩ := h1
  obtain ⟨a1, a2, b1, b2⟩ := h2
  obtain ⟨c1, c2, c3⟩ := h3
  refine ⟨⟨by omega, by omega⟩, ?_, ?_, ?_, ?_⟩
  · cases hc : hasCcP i.op
    · simp only [hc, not_and, Decidable.not_not] at c2; have := c2 trivial; omega
    · simp only [hc, not_and, Bool.not_eq_false] at c1
      have := c1 trivial
      simp only [isCcP, Bool.and_eq_true, decide_eq_true_eq] at this; omega
  · simp only [Bool.not_eq_false] at o4
    unfold widthValidP at o4
    split at o4
    · simp at o4; omega
    split at o4
    · simp at o4; omega
    · simp at o4; omega
  · cases hc : hasAP i.op
    · simp only [hc, not_and, Decidable.not_not] at a2; have := a2 trivial; omega
    · simp only [hc, not_and, Bool.not_eq_false] at a1
      have := regP_iff.1 (a1 trivial); omega
  · cases hc : hasBP i
    · simp only [hc, not_and, Decidable.not_not] at b2; have := b2 trivial; omega
    · simp only [hc, not_and, Bool.not_eq_false] at b1
      have := regP_iff.1 (b1 trivial); omega
end Go.HL
namespace Go.HL
theorem sizedP_nonneg (c : Int) : 0 ≤ sizedP c := by unfold sizedP; repeat' split
                                                     all_goals omega
theorem take_head {b : List UInt8} {n : Nat} (h : 0 < n) : (b.take n).getD 0 default = b.getD 0 default := by
  simp only [List.getD_eq_getElem?_getD, List.getElem?_take, if_pos h]
theorem take_size {b : List UInt8} {n : Int} (h : 0 < n) (h2 : n ≤ b.length) (e : (b.take n.toNat).getD 0 default = b.getD 0 default := by exact take_head (by omega)) (hs : sizedP ((b.getD 0 default).toNat : Nat) = n := by rfl) :
    ((b.take n.toNat).length : Int) = sizedP (((b.take n.toNat).getD 0 default).toNat : Nat) := by
  rw [e, hs, List.length_take]; omega
end Go.HL
