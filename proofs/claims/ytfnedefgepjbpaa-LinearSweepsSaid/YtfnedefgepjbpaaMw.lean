/- Words and bytes: plain laws. -/
import Derived.Test.YtfnedefgepjbpaaMa
set_option linter.unusedSimpArgs false
set_option linter.unusedVariables false
namespace Go.HL.W
open Go
theorem u32_extI {a b : UInt32} (h : a.toNat = b.toNat) : a = b := UInt32.toNat_inj.1 h

theorem u32_byteI (n : UInt32) : (n % 256).toUInt8 = n.toUInt8 := by
  apply UInt8.toNat_inj.1
  simp [UInt32.toNat_toUInt8, UInt32.toNat_mod]
theorem shl_orI (m : UInt32) (x : UInt8) : (shl32 m 8 ||| x.toUInt32) = m * 256 + x.toUInt32 := by
  apply u32_extI
  have hx := x.toNat_lt
  have hm := m.toNat_lt
  rw [UInt32.toNat_or, shl32_toNat, UInt32.toNat_add, UInt32.toNat_mul]
  have e1 : m.toNat * 2 ^ 8 % 4294967296 = (m.toNat % 16777216) <<< 8 := by rw [Nat.shiftLeft_eq]; omega
  have e2 : x.toUInt32.toNat = x.toNat := by simp
  rw [e1, e2, ← Nat.shiftLeft_add_eq_or_of_lt (by omega : x.toNat < 2 ^ 8), Nat.shiftLeft_eq]
  have e3 : (256 : UInt32).toNat = 256 := rfl
  rw [e3]; omega
theorem getD_appI {b l : List UInt8} {i : Nat} {a : Int} (h : a = (b.length : Int) + i) : (b ++ l).getD a.toNat default = l.getD i default := by
  subst h
  rw [show ((b.length : Int) + i).toNat = b.length + i by omega]
  rw [List.getD_eq_getElem?_getD, List.getD_eq_getElem?_getD, List.getElem?_append_right (by omega), Nat.add_sub_cancel_left]
theorem shr_byteI (n : UInt32) (c : Nat) : (shr32 n c).toUInt8.toUInt32.toNat = n.toNat / 2 ^ c % 256 := by
  rw [UInt8.toNat_toUInt32, UInt32.toNat_toUInt8, shr32_toNat]
def backPI (n : UInt32) (w : Int) : UInt32 := if w = 1 then n % 256 else if w = 2 then n % 65536 else n
theorem get_putI (b : List UInt8) (n : UInt32) (w : Int) (h : w = 1 ∨ w = 2 ∨ w = 4) : getP (putP b n w) (b.length : Int) w = (backPI n w, 0) := by
  have hn := n.toNat_lt
  rcases h with rfl | rfl | rfl
  · have e1 : putP b n 1 = b ++ [(shr32 n 0).toUInt8] := rfl
    rw [getP_ok rfl (by rw [e1]; simp), e1]
    show (getF _ _ 0 1, _) = _
    simp only [getF]
    rw [getD_appI (i := 0) (by omega), shl_orI]
    congr 1
    apply u32_extI
    rw [UInt32.toNat_add]
    simp only [List.getD_eq_getElem?_getD, List.getElem?_cons_zero, Option.getD_some]
    rw [shr_byteI]
    simp [backPI]
    omega
  · have e1 : putP b n 2 = b ++ [(shr32 n 0).toUInt8, (shr32 n 8).toUInt8] := by
      show (b ++ [_]) ++ [_] = _
      rw [List.append_assoc]; rfl
    rw [getP_ok rfl (by rw [e1]; simp), e1]
    show (getF _ _ 0 2, _) = _
    simp only [getF]
    rw [getD_appI (i := 1) (by omega), getD_appI (i := 0) (by omega), shl_orI, shl_orI]
    congr 1
    apply u32_extI
    rw [UInt32.toNat_add, UInt32.toNat_mul, UInt32.toNat_add]
    simp only [List.getD_eq_getElem?_getD, List.getElem?_cons_zero, List.getElem?_cons_succ, Option.getD_some]
    rw [shr_byteI, shr_byteI]
    simp [backPI]
    omega
  · have e1 : putP b n 4 = b ++ [(shr32 n 0).toUInt8, (shr32 n 8).toUInt8, (shr32 n 16).toUInt8, (shr32 n 24).toUInt8] := by
      show (((b ++ [_]) ++ [_]) ++ [_]) ++ [_] = _
      simp only [List.append_assoc]; rfl
    rw [getP_ok rfl (by rw [e1]; simp), e1]
    show (getF _ _ 0 4, _) = _
    simp only [getF]
    rw [getD_appI (i := 3) (by omega), getD_appI (i := 2) (by omega), getD_appI (i := 1) (by omega), getD_appI (i := 0) (by omega), shl_orI, shl_orI, shl_orI, shl_orI]
    congr 1
    apply u32_extI
    simp only [UInt32.toNat_add, UInt32.toNat_mul]
    simp only [List.getD_eq_getElem?_getD, List.getElem?_cons_zero, List.getElem?_cons_succ, Option.getD_some]
    simp only [shr_byteI]
    simp [backPI]
    omega

end Go.HL.W
