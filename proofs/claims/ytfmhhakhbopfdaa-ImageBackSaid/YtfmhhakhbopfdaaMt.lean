/- Plain functions of chapter 02: texts. -/
import Derived.Test.YtfmhhakhbopfdaaHc
import Derived.Test.YtfmhhakhbopfdaaMp
set_option linter.unusedSimpArgs false
set_option linter.unusedVariables false
namespace Go.HL
open Go

def putTextP (b : List UInt8) (s : ByteArray) : List UInt8 := if 32 < (s.size : Int) then [] else b ++ [u8 (s.size : Nat)] ++ bts s
def putTextE (s : ByteArray) : Int := if 32 < (s.size : Int) then 6 else 0
theorem putTextP_big {b : List UInt8} {s : ByteArray} (h : 32 < (s.size : Int)) : putTextP b s = [] ∧ putTextE s = 6 := by rw [putTextP, if_pos h, putTextE, if_pos h]; exact ⟨rfl, rfl⟩
theorem putTextP_ok {b : List UInt8} {s : ByteArray} (h : ¬ 32 < (s.size : Int)) : putTextP b s = b ++ [u8 (s.size : Nat)] ++ bts s ∧ putTextE s = 0 := by rw [putTextP, if_neg h, putTextE, if_neg h]; exact ⟨rfl, rfl⟩
theorem put_one (b : List UInt8) (s : ByteArray) (h : ¬ 32 < (s.size : Int)) : refPutP b (u32 (s.size : Nat)) 1 = b ++ [u8 (s.size : Nat)] := by
  have e1 : refPutP b (u32 (s.size : Nat)) 1 = b ++ [(u32 (s.size : Nat) % 256).toUInt8] := rfl
  rw [e1, u32_byte]
  congr 2
  apply UInt8.toNat_inj.1
  have h1 := u32_toNat (s.size : Nat)
  have h2 := u8_toNat (s.size : Nat)
  rw [UInt32.toNat_toUInt8]
  omega
def getTextP (b : List UInt8) (a : Int) : ByteArray × Int × Int :=
  if a < 0 ∨ (b.length : Int) ≤ a then (txt [], 0, 5)
  else if 32 < ((b.getD a.toNat default).toNat : Int) then (txt [], 0, 6)
  else if (b.length : Int) - a - 1 < ((b.getD a.toNat default).toNat : Int) then (txt [], 0, 5)
  else (txt ((b.take (a + 1 + ((b.getD a.toNat default).toNat : Int)).toNat).drop (a + 1).toNat), a + 1 + ((b.getD a.toNat default).toNat : Int), 0)
theorem getTextP_1 {b : List UInt8} {a : Int} (h : a < 0 ∨ (b.length : Int) ≤ a) : getTextP b a = (txt [], 0, 5) := by rw [getTextP, if_pos h]
theorem getTextP_2 {b : List UInt8} {a : Int} (h : ¬ (a < 0 ∨ (b.length : Int) ≤ a)) (h2 : 32 < ((b.getD a.toNat default).toNat : Int)) : getTextP b a = (txt [], 0, 6) := by rw [getTextP, if_neg h, if_pos h2]
theorem getTextP_3 {b : List UInt8} {a : Int} (h : ¬ (a < 0 ∨ (b.length : Int) ≤ a)) (h2 : ¬ 32 < ((b.getD a.toNat default).toNat : Int)) (h3 : (b.length : Int) - a - 1 < ((b.getD a.toNat default).toNat : Int)) : getTextP b a = (txt [], 0, 5) := by rw [getTextP, if_neg h, if_neg h2, if_pos h3]
theorem getTextP_4 {b : List UInt8} {a : Int} (h : ¬ (a < 0 ∨ (b.length : Int) ≤ a)) (h2 : ¬ 32 < ((b.getD a.toNat default).toNat : Int)) (h3 : ¬ (b.length : Int) - a - 1 < ((b.getD a.toNat default).toNat : Int)) :
    getTextP b a = (txt ((b.take (a + 1 + ((b.getD a.toNat default).toNat : Int)).toNat).drop (a + 1).toNat), a + 1 + ((b.getD a.toNat default).toNat : Int), 0) := by rw [getTextP, if_neg h, if_neg h2, if_neg h3]
end Go.HL
