/- Plain data and plain functions of chapter 02: bytes, ranges. -/
import Derived.Test.YtfnedefgepjbpaaHb
set_option linter.unusedSimpArgs false
set_option linter.unusedVariables false
namespace Go.HL
open Go

def encU8 : Enc UInt8 := ⟨1, fun x => [.int .u8 x.toNat], fun _ => rfl, fun x v h => by simp at h; subst h; rfl⟩
def encU32 : Enc UInt32 := ⟨1, fun x => [.int .u32 x.toNat], fun _ => rfl, fun x v h => by simp at h; subst h; rfl⟩
def encInt : Enc Int := ⟨1, fun x => [.int .i64 x], fun _ => rfl, fun x v h => by simp at h; subst h; rfl⟩

structure Rng where
  lo : UInt32
  hi : UInt32
  deriving DecidableEq, Inhabited
def encRng : Enc Rng := ⟨2, fun r => [.int .u32 r.lo.toNat, .int .u32 r.hi.toNat], fun _ => rfl, fun x v h => by simp at h; rcases h with h | h <;> subst h <;> rfl⟩

def widthOK (w : Int) : Bool := (decide (w = 1) || decide (w = 2)) || decide (w = 4)
theorem widthOK_iff (w : Int) : widthOK w = true ↔ w = 1 ∨ w = 2 ∨ w = 4 := by simp [widthOK, or_assoc]

/-- Put: one byte after the other. -/
def putF (n : UInt32) (xs : List UInt8) (k : Nat) : Nat → List UInt8
  | 0 => xs
  | j + 1 => putF n (xs ++ [(shr32 n (8 * (k : Int)).toNat).toUInt8]) (k + 1) j
def putP (b : List UInt8) (n : UInt32) (width : Int) : List UInt8 := if widthOK width then putF n b 0 width.toNat else b
def refPutF (n : UInt32) (xs : List UInt8) : Nat → List UInt8
  | 0 => xs
  | j + 1 => refPutF (n / 256) (xs ++ [(n % 256).toUInt8]) j
def refPutP (b : List UInt8) (n : UInt32) (width : Int) : List UInt8 := if widthOK width then refPutF n b width.toNat else b

/-- Get: from the last byte to the first. -/
def getF (b : List UInt8) (at_ : Int) (acc : UInt32) : Nat → UInt32
  | 0 => acc
  | k + 1 => getF b at_ (shl32 acc 8 ||| (b.getD (at_ + (k : Int)).toNat default).toUInt32) k
def getP (b : List UInt8) (at_ width : Int) : UInt32 × Int :=
  if widthOK width = false then (0, 2) else if at_ < 0 ∨ (b.length : Int) - width < at_ then (0, 5) else (getF b at_ 0 width.toNat, 0)
theorem getP_arg {b : List UInt8} {a w : Int} (h : widthOK w = false) : getP b a w = (0, 2) := by simp [getP, h]
theorem getP_short {b : List UInt8} {a w : Int} (h : widthOK w = true) (h2 : a < 0 ∨ (b.length : Int) - w < a) : getP b a w = (0, 5) := by simp only [getP, h]; rw [if_neg (by simp), if_pos h2]
theorem getP_ok {b : List UInt8} {a w : Int} (h : widthOK w = true) (h2 : ¬ (a < 0 ∨ (b.length : Int) - w < a)) : getP b a w = (getF b a 0 w.toNat, 0) := by simp only [getP, h]; rw [if_neg (by simp), if_neg h2]
def refGetF (b : List UInt8) (at_ : Int) (acc : UInt32) : Nat → UInt32
  | 0 => acc
  | k + 1 => refGetF b at_ (acc * 256 + (b.getD (at_ + (k : Int)).toNat default).toUInt32) k
def refGetP (b : List UInt8) (at_ width : Int) : UInt32 × Int :=
  if widthOK width = false then (0, 2) else if at_ < 0 ∨ (b.length : Int) - width < at_ then (0, 5) else (refGetF b at_ 0 width.toNat, 0)
theorem refGetP_arg {b : List UInt8} {a w : Int} (h : widthOK w = false) : refGetP b a w = (0, 2) := by simp [refGetP, h]
theorem refGetP_short {b : List UInt8} {a w : Int} (h : widthOK w = true) (h2 : a < 0 ∨ (b.length : Int) - w < a) : refGetP b a w = (0, 5) := by simp only [refGetP, h]; rw [if_neg (by simp), if_pos h2]
theorem refGetP_ok {b : List UInt8} {a w : Int} (h : widthOK w = true) (h2 : ¬ (a < 0 ∨ (b.length : Int) - w < a)) : refGetP b a w = (refGetF b a 0 w.toNat, 0) := by simp only [refGetP, h]; rw [if_neg (by simp), if_neg h2]
theorem widthNot {w : Int} (h : ¬ (w = 1 ∨ w = 2 ∨ w = 4)) : widthOK w = false := by
  cases e : widthOK w
  · rfl
  · exact absurd ((widthOK_iff w).1 e) h

theorem take_succ {α : Type} [Inhabited α] {l : List α} {k : Nat} (h : k < l.length) : l.take (k + 1) = l.take k ++ [l.getD k default] := by
  rw [List.take_succ_eq_append_getElem h]; simp [List.getD_eq_getElem?_getD, h]
theorem take_snoc {l : List Rng} {k : Nat} (h : k < l.length) : l.take (k + 1) = l.take k ++ [⟨(l.getD k default).lo, (l.getD k default).hi⟩] := take_succ h
theorem rng_ext {a b : Rng} (h1 : a.lo = b.lo) (h2 : a.hi = b.hi) : a = b := by cases a; cases b; simp_all

/-- The first place at which p holds, counted from k, or -1. -/
def idxP {α : Type} (p : α → Bool) (k : Nat) : List α → Int
  | [] => -1
  | x :: l => if p x = true then k else idxP p (k + 1) l
theorem idxP_iff {α : Type} (p : α → Bool) : ∀ (l : List α) (k : Nat), (0 ≤ idxP p k l) ↔ l.any p = true
  | [], k => by simp [idxP]
  | x :: l, k => by
    unfold idxP
    by_cases h : p x = true
    · simp [h]
    · rw [if_neg h, idxP_iff p l (k + 1)]; simp [h]
theorem idxP_any {α : Type} (p : α → Bool) (l : List α) (k : Nat) : decide (0 ≤ idxP p k l) = l.any p := by
  rw [Bool.eq_iff_iff, decide_eq_true_iff]; exact idxP_iff p l k
def inR (a : UInt32) (r : Rng) : Bool := decide (r.lo ≤ a) && decide (a < r.hi)
theorem inR_true {a : UInt32} {r : Rng} (h : r.lo ≤ a ∧ a < r.hi) : inR a r = true := by simp [inR, h]
theorem inR_false {a : UInt32} {r : Rng} (h : ¬ (r.lo ≤ a ∧ a < r.hi)) : inR a r = false := by
  simp only [inR]; rw [← Bool.not_eq_true]; simpa using h

/-- Two lists of bytes compared from k on. -/
def sameF (a b : List UInt8) (k : Nat) : Nat → Bool
  | 0 => true
  | n + 1 => if a.getD k default ≠ b.getD k default then false else sameF a b (k + 1) n
def sameP (a b : List UInt8) : Bool := if (a.length : Int) ≠ b.length then false else sameF a b 0 a.length
theorem sameF_true (a : List UInt8) : ∀ n k, sameF a a k n = true
  | 0, _ => rfl
  | n + 1, k => by simp [sameF]; exact sameF_true a n _
theorem sameP_self (a : List UInt8) : sameP a a = true := by simp [sameP, sameF_true]
end Go.HL
