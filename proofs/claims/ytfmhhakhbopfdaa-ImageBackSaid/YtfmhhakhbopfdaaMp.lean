/- Plain laws of chapter 02: numbers and texts. -/
import Derived.Test.YtfmhhakhbopfdaaMn
set_option linter.unusedSimpArgs false
set_option linter.unusedVariables false
namespace Go.HL
open Go

theorem u32_byte (n : UInt32) : (n % 256).toUInt8 = n.toUInt8 := by
  apply UInt8.toNat_inj.1
  simp [UInt32.toNat_toUInt8, UInt32.toNat_mod]
theorem putF_ref (n : UInt32) : ∀ (j k : Nat) (xs : List UInt8), k + j ≤ 4 → ∀ m : UInt32, m.toNat = n.toNat / 256 ^ k → putF n xs k j = refPutF m xs j
  | 0, _, _, _, _, _ => rfl
  | j + 1, k, xs, hk, m, hm => by
    have e1 : (shr32 n (8 * (k : Int)).toNat) = m := by
      apply u32_ext
      rw [shr32_toNat, hm, show (8 * (k : Int)).toNat = 8 * k by omega, Nat.pow_mul]
    simp only [putF, refPutF, e1, u32_byte]
    refine putF_ref n j (k + 1) _ (by omega) _ ?_
    rw [UInt32.toNat_div, hm, Nat.div_div_eq_div_mul, Nat.pow_succ]; rfl
theorem putP_ref (b : List UInt8) (n : UInt32) (w : Int) : refPutP b n w = putP b n w := by
  unfold putP refPutP
  split
  · rename_i h
    have := (widthOK_iff w).1 h
    exact (putF_ref n _ 0 _ (by omega) n (by simp)).symm
  · rfl
theorem shl_or (m : UInt32) (x : UInt8) : (shl32 m 8 ||| x.toUInt32) = m * 256 + x.toUInt32 := by
  apply u32_ext
  have hx := x.toNat_lt
  have hm := m.toNat_lt
  rw [UInt32.toNat_or, shl32_toNat, UInt32.toNat_add, UInt32.toNat_mul]
  have e1 : m.toNat * 2 ^ 8 % 4294967296 = (m.toNat % 16777216) <<< 8 := by rw [Nat.shiftLeft_eq]; omega
  have e2 : x.toUInt32.toNat = x.toNat := by simp
  rw [e1, e2, ← Nat.shiftLeft_add_eq_or_of_lt (by omega : x.toNat < 2 ^ 8), Nat.shiftLeft_eq]
  have e3 : (256 : UInt32).toNat = 256 := rfl
  rw [e3]; omega
theorem getF_ref (b : List UInt8) (a : Int) : ∀ (k : Nat) (acc : UInt32), refGetF b a acc k = getF b a acc k
  | 0, _ => rfl
  | k + 1, acc => by
    simp only [getF, refGetF]
    rw [getF_ref b a k]
    congr 1
    generalize b.getD _ _ = x
    exact (shl_or acc x).symm
theorem getP_ref (b : List UInt8) (a w : Int) : refGetP b a w = getP b a w := by
  unfold getP refGetP
  rw [getF_ref]
end Go.HL
