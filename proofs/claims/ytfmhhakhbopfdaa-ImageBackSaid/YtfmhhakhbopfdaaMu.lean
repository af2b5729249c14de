/- Plain laws of chapter 02: what Put and PutText wrote comes back. -/
import Derived.Test.YtfmhhakhbopfdaaMt
set_option linter.unusedSimpArgs false
set_option linter.unusedVariables false
namespace Go.HL
open Go

theorem getD_app {b l : List UInt8} {i : Nat} {a : Int} (h : a = (b.length : Int) + i) : (b ++ l).getD a.toNat default = l.getD i default := by
  subst h
  rw [show ((b.length : Int) + i).toNat = b.length + i by omega]
  rw [List.getD_eq_getElem?_getD, List.getD_eq_getElem?_getD, List.getElem?_append_right (by omega), Nat.add_sub_cancel_left]
theorem shr_byte (n : UInt32) (c : Nat) : (shr32 n c).toUInt8.toUInt32.toNat = n.toNat / 2 ^ c % 256 := by
  rw [UInt8.toNat_toUInt32, UInt32.toNat_toUInt8, shr32_toNat]
def backP (n : UInt32) (w : Int) : UInt32 := if w = 1 then n % 256 else if w = 2 then n % 65536 else n
theorem get_put (b : List UInt8) (n : UInt32) (w : Int) (h : w = 1 ∨ w = 2 ∨ w = 4) : getP (putP b n w) (b.length : Int) w = (backP n w, 0) := by
  have hn := n.toNat_lt
  rcases h with rfl | rfl | rfl
  · have e1 : putP b n 1 = b ++ [(shr32 n 0).toUInt8] := rfl
    rw [getP_ok rfl (by rw [e1]; simp), e1]
    show (getF _ _ 0 1, _) = _
    simp only [getF]
    rw [getD_app (i := 0) (by omega), shl_or]
    congr 1
    apply u32_ext
    rw [UInt32.toNat_add]
    simp only [List.getD_eq_getElem?_getD, List.getElem?_cons_zero, Option.getD_some]
    rw [shr_byte]
    simp [backP]
    omega
  · have e1 : putP b n 2 = b ++ [(shr32 n 0).toUInt8, (shr32 n 8).toUInt8] := by
      show (b ++ [_]) ++ [_] = _
      rw [List.append_assoc]; rfl
    rw [getP_ok rfl (by rw [e1]; simp), e1]
    show (getF _ _ 0 2, _) = _
    simp only [getF]
    rw [getD_app (i := 1) (by omega), getD_app (i := 0) (by omega), shl_or, shl_or]
    congr 1
    apply u32_ext
    rw [UInt32.toNat_add, UInt32.toNat_mul, UInt32.toNat_add]
    simp only [List.getD_eq_getElem?_getD, List.getElem?_cons_zero, List.getElem?_cons_succ, Option.getD_some]
    rw [shr_byte, shr_byte]
    simp [backP]
    omega
  · have e1 : putP b n 4 = b ++ [(shr32 n 0).toUInt8, (shr32 n 8).toUInt8, (shr32 n 16).toUInt8, (shr32 n 24).toUInt8] := by
      show (((b ++ [_]) ++ [_]) ++ [_]) ++ [_] = _
      simp only [List.append_assoc]; rfl
    rw [getP_ok rfl (by rw [e1]; simp), e1]
    show (getF _ _ 0 4, _) = _
    simp only [getF]
    rw [getD_app (i := 3) (by omega), getD_app (i := 2) (by omega), getD_app (i := 1) (by omega), getD_app (i := 0) (by omega), shl_or, shl_or, shl_or, shl_or]
    congr 1
    apply u32_ext
    simp only [UInt32.toNat_add, UInt32.toNat_mul]
    simp only [List.getD_eq_getElem?_getD, List.getElem?_cons_zero, List.getElem?_cons_succ, Option.getD_some]
    simp only [shr_byte]
    simp [backP]
    omega

theorem getText_put (b : List UInt8) (s : ByteArray) (h : ¬ 32 < (s.size : Int)) : getTextP (putTextP b s) (b.length : Int) = (s, ((putTextP b s).length : Int), 0) := by
  have hl := bts_len s
  have h8 := u8_toNat (s.size : Nat)
  have e0 : (putTextP b s).getD (b.length : Int).toNat default = u8 (s.size : Nat) := by
    rw [(putTextP_ok h).1, List.append_assoc, getD_app (i := 0) (by omega)]; rfl
  have e1 : (putTextP b s).length = b.length + 1 + s.size := by rw [(putTextP_ok h).1]; simp [hl]; omega
  have e2 : ((u8 (s.size : Nat)).toNat : Int) = s.size := by omega
  rw [getTextP_4 (by omega) (by rw [e0]; omega) (by rw [e0]; omega), e0, e2]
  have e3 : ((putTextP b s).take ((b.length : Int) + 1 + s.size).toNat).drop ((b.length : Int) + 1).toNat = bts s := by
    rw [List.take_of_length_le (by omega), (putTextP_ok h).1, List.append_assoc]
    rw [show ((b.length : Int) + 1).toNat = b.length + 1 by omega]
    simp [List.drop_append]
  rw [e3, txt_bts, e1]
  first | rfl | (congr 2; omega)
end Go.HL
