/- Plain functions of chapter 03: what is read and written. -/
import Derived.Test.YtfnedefgepjbpaaIf
import Derived.Lib.SlicesCompact
set_option linter.unusedSimpArgs false
set_option linter.unusedVariables false
namespace Go.HL
open Go

def usesStackP (op : Int) : Bool := (((decide (op = 2) || decide (op = 3)) || decide (op = 4)) || decide (op = 23)) || decide (op = 24)
def readsAP (op : Int) : Bool := (((((decide (op = 3) || (decide (6 ≤ op) && decide (op ≤ 15))) || decide (op = 18)) || decide (op = 21)) || decide (op = 22)) || decide (op = 27)) || decide (op = 24)
def writesAP (op : Int) : Bool := (((((decide (op = 4) || (decide (5 ≤ op) && decide (op ≤ 14))) || decide (op = 16)) || decide (op = 17)) || decide (op = 19)) || decide (op = 25)) || decide (op = 26)
def flagReadP (cc v : Int) : Bool :=
  if v = 8 then ((((decide (cc = 1) || decide (cc = 2)) || decide (cc = 5)) || decide (cc = 6)) || decide (cc = 9)) || decide (cc = 10)
  else if v = 9 then ((decide (3 ≤ cc) && decide (cc ≤ 6)) || decide (cc = 11)) || decide (cc = 12)
  else if v = 10 then decide (7 ≤ cc) && decide (cc ≤ 10)
  else ((decide (3 ≤ cc) && decide (cc ≤ 6)) || decide (cc = 13)) || decide (cc = 14)
def readB (i : Ins) (v : Int) : Bool :=
  ((decide (v = 7) && usesStackP i.op) || (decide (v < 8) && ((readsAP i.op && decide (v = i.a)) || (hasBP i && decide (v = i.b))))) || ((decide (8 ≤ v) && hasCcP i.op) && flagReadP i.cc v)
def writeB (i : Ins) (v : Int) : Bool :=
  ((decide (v = 7) && usesStackP i.op) || ((decide (v < 8) && writesAP i.op) && decide (v = i.a))) || ((decide (8 ≤ v) && decide (6 ≤ i.op)) && decide (i.op ≤ 15))
/-- The numbers below k for which p holds. -/
def pickN (p : Int → Bool) (k : Nat) : List Int := ((List.range k).map fun (n : Nat) => (n : Int)).filter p
theorem pickN_yes {p : Int → Bool} {k : Nat} (h : p k = true) : pickN p (k + 1) = pickN p k ++ [(k : Int)] := by
  simp [pickN, List.range_succ, List.filter_append, h]
theorem pickN_no {p : Int → Bool} {k : Nat} (h : p k = false) : pickN p (k + 1) = pickN p k := by
  simp [pickN, List.range_succ, List.filter_append, h]
theorem pickN_len (p : Int → Bool) (k : Nat) : (pickN p k).length ≤ k := by
  have := List.length_filter_le p ((List.range k).map fun (n : Nat) => (n : Int))
  simpa [pickN] using this
def refReadsP (i : Ins) : List Int := if refErrP i = 0 then pickN (readB i) 12 else []
def refWritesP (i : Ins) : List Int := if refErrP i = 0 then pickN (writeB i) 12 else []
/-- One flag bit of a mask. -/
def bitP (m v : Int) : Bool := decide ((m.fdiv (2 ^ (min v.toNat IntKind.i64.bits))) % 2 = 1)
def maskP (cc : Int) : Int := ((if cc = 0 then (97 : UInt8) else if cc = 1 ∨ cc = 2 then 98 else if cc = 3 ∨ cc = 4 then 107 else if cc = 5 ∨ cc = 6 then 108 else if cc = 7 ∨ cc = 8 then 101 else if cc = 9 ∨ cc = 10 then 102 else if cc = 11 ∨ cc = 12 then 99 else 105) - 97).toNat
def condFlagsP (cc : Int) : List Int := (pickN (bitP (maskP cc)) 4).map (8 + ·)
theorem condFlags_yes {m : Int} {k : Nat} (h : bitP m k = true) : (pickN (bitP m) (k + 1)).map (8 + ·) = (pickN (bitP m) k).map (8 + ·) ++ [8 + (k : Int)] := by rw [pickN_yes h]; simp
theorem condFlags_no {m : Int} {k : Nat} (h : bitP m k = false) : (pickN (bitP m) (k + 1)).map (8 + ·) = (pickN (bitP m) k).map (8 + ·) := by rw [pickN_no h]
def sortedP (l : List Int) : List Int := Lib.compact (l.mergeSort fun x y => decide (x ≤ y))
def readsP (i : Ins) : List Int :=
  if errP i ≠ 0 then [] else if i.op = 2 ∨ i.op = 4 ∨ i.op = 23 then [7] else if i.op = 3 ∨ i.op = 24 then sortedP [i.a, 7] else if i.op = 16 ∨ i.op = 17 ∨ i.op = 19 then [i.b] else if i.op = 18 then sortedP [i.a, i.b]
  else if i.op = 20 ∨ i.op = 25 then condFlagsP i.cc else if i.op = 21 ∨ i.op = 22 ∨ i.op = 27 then [i.a] else if i.op < 5 ∨ 15 < i.op then [] else sortedP ((if i.op ≠ 5 then [i.a] else []) ++ (if i.form = 0 then [i.b] else []))
def writesP (i : Ins) : List Int :=
  if errP i ≠ 0 then [] else if i.op = 2 ∨ i.op = 3 ∨ i.op = 23 ∨ i.op = 24 then [7] else if i.op = 4 then sortedP [i.a, 7] else if i.op = 5 ∨ i.op = 16 ∨ i.op = 17 ∨ i.op = 19 ∨ i.op = 25 ∨ i.op = 26 then [i.a]
  else if i.op = 15 then [8, 9, 10, 11] else if 6 ≤ i.op ∧ i.op ≤ 14 then [i.a, 8, 9, 10, 11] else []
end Go.HL
