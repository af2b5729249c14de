/- Plain functions of chapter 02: normal lists. -/
import Derived.Test.YtfnedefgepjbpaaMa
import Derived.Test.YtfnedefgepjbpaaHs
set_option linter.unusedSimpArgs false
set_option linter.unusedVariables false
namespace Go.HL
open Go Go.Sort
open Go.Proofs (ltOf)

def cmpR (x y : Rng) : Int := if x.lo < y.lo then -1 else if y.lo < x.lo then 1 else 0
theorem ltOf_cmpR (x y : Rng) : ltOf cmpR x y = decide (x.lo < y.lo) := by
  unfold ltOf cmpR
  by_cases h : x.lo < y.lo
  · simp [h]
  · by_cases h2 : y.lo < x.lo <;> simp [h, h2]
theorem swo_cmpR : SWO (ltOf cmpR) where
  irrefl x := by simp [ltOf_cmpR]
  trans x y z h1 h2 := by
    simp only [ltOf_cmpR, decide_eq_true_eq, UInt32.lt_iff_toNat_lt] at *; omega
  ntrans x y z h1 h2 := by
    simp only [ltOf_cmpR, decide_eq_false_iff_not, UInt32.lt_iff_toNat_lt] at *; omega

def neR (r : Rng) : Bool := decide (r.lo < r.hi)
def lastR (out : List Rng) : Rng := out.getD ((out.length : Int) - 1).toNat default
def mergeStep (out : List Rng) (r : Rng) : List Rng :=
  if 0 < (out.length : Int) ∧ r.lo ≤ (lastR out).hi then out.set ((out.length : Int) - 1).toNat ⟨(lastR out).lo, if (lastR out).hi < r.hi then r.hi else (lastR out).hi⟩ else out ++ [r]
def normalP (l : List Rng) : List Rng := (sortP (ltOf cmpR) (l.filter neR)).foldl mergeStep []
theorem filter_take_pos {α : Type} [Inhabited α] {p : α → Bool} {l : List α} {k : Nat} (h : k < l.length) (hp : p (l.getD k default) = true) : (l.take (k + 1)).filter p = (l.take k).filter p ++ [l.getD k default] := by
  rw [take_succ h, List.filter_append]; simp only [List.filter_cons, hp, if_true, List.filter_nil]
theorem filter_take_neg {α : Type} [Inhabited α] {p : α → Bool} {l : List α} {k : Nat} (h : k < l.length) (hp : p (l.getD k default) = false) : (l.take (k + 1)).filter p = (l.take k).filter p := by
  rw [take_succ h, List.filter_append]; simp only [List.filter_cons, hp, Bool.false_eq_true, if_false, List.filter_nil, List.append_nil]
theorem foldl_take_succ {α β : Type} [Inhabited α] {f : β → α → β} {b : β} {l : List α} {k : Nat} (h : k < l.length) : (l.take (k + 1)).foldl f b = f ((l.take k).foldl f b) (l.getD k default) := by
  rw [take_succ h, List.foldl_append]; rfl
theorem mergeStep_len (out : List Rng) (r : Rng) : (mergeStep out r).length ≤ out.length + 1 := by
  unfold mergeStep; split <;> simp
theorem mergeFold_len : ∀ (l out : List Rng), (l.foldl mergeStep out).length ≤ out.length + l.length
  | [], _ => by simp
  | r :: l, out => by
    have h1 := mergeFold_len l (mergeStep out r)
    have h2 := mergeStep_len out r
    simp only [List.foldl_cons, List.length_cons]; omega
theorem normalP_len (l : List Rng) : (normalP l).length ≤ l.length := by
  have h := mergeFold_len (sortP (ltOf cmpR) (l.filter neR)) []
  rw [sortP_length swo_cmpR] at h
  have h2 := List.length_filter_le neR l
  unfold normalP; simp only [List.length_nil] at h; omega
theorem mergeStep_pos {out : List Rng} {r : Rng} (h1 : 0 < (out.length : Int)) (h2 : r.lo ≤ (lastR out).hi) : mergeStep out r = out.set ((out.length : Int) - 1).toNat ⟨(lastR out).lo, if (lastR out).hi < r.hi then r.hi else (lastR out).hi⟩ := by rw [mergeStep, if_pos ⟨h1, h2⟩]
theorem mergeStep_neg {out : List Rng} {r : Rng} (h : ¬ (0 < (out.length : Int) ∧ r.lo ≤ (lastR out).hi)) : mergeStep out r = out ++ [r] := by rw [mergeStep, if_neg h]

/-- The number of addresses. -/
def lenStep (n : Int) (r : Rng) : Int := n + ((r.hi - r.lo).toNat : Int)
def lengthP (l : List Rng) : Int := (normalP l).foldl lenStep 0
theorem lenFold_le : ∀ (l : List Rng) (n : Int), n ≤ l.foldl lenStep n ∧ l.foldl lenStep n ≤ n + 4294967296 * (l.length : Int)
  | [], n => by simp
  | r :: l, n => by
    have h := lenFold_le l (lenStep n r)
    have h2 := (r.hi - r.lo).toNat_lt
    simp only [List.foldl_cons, List.length_cons]
    have e : lenStep n r = n + ((r.hi - r.lo).toNat : Int) := rfl
    omega

/-- a without cut: what is cut from one range. -/
def subStep (s : List Rng × Rng) (c : Rng) : List Rng × Rng :=
  if c.hi ≤ s.2.lo ∨ s.2.hi ≤ c.lo then s else
    (if s.2.lo < c.lo then s.1 ++ [⟨s.2.lo, c.lo⟩] else s.1, ⟨if s.2.hi < c.hi then s.2.hi else c.hi, s.2.hi⟩)
theorem subStep_skip {s : List Rng × Rng} {c : Rng} (h : c.hi ≤ s.2.lo ∨ s.2.hi ≤ c.lo) : subStep s c = s := by rw [subStep, if_pos h]
theorem subStep_app {s : List Rng × Rng} {c : Rng} (h : ¬ c.hi ≤ s.2.lo ∧ ¬ s.2.hi ≤ c.lo) (h2 : s.2.lo < c.lo) : subStep s c = (s.1 ++ [⟨s.2.lo, c.lo⟩], ⟨if s.2.hi < c.hi then s.2.hi else c.hi, s.2.hi⟩) := by rw [subStep, if_neg (fun q => q.elim h.1 h.2), if_pos h2]
theorem subStep_no {s : List Rng × Rng} {c : Rng} (h : ¬ c.hi ≤ s.2.lo ∧ ¬ s.2.hi ≤ c.lo) (h2 : ¬ s.2.lo < c.lo) : subStep s c = (s.1, ⟨if s.2.hi < c.hi then s.2.hi else c.hi, s.2.hi⟩) := by rw [subStep, if_neg (fun q => q.elim h.1 h.2), if_neg h2]
def subEnd (s : List Rng × Rng) : List Rng := if s.2.lo < s.2.hi then s.1 ++ [s.2] else s.1
def subOne (cut : List Rng) (out : List Rng) (r : Rng) : List Rng := subEnd (cut.foldl subStep (out, r))
def subtractP (a b : List Rng) : List Rng := (normalP a).foldl (subOne (normalP b)) []
theorem subStep_len (s : List Rng × Rng) (c : Rng) : (subStep s c).1.length ≤ s.1.length + 1 := by
  unfold subStep; split
  · omega
  · dsimp only; split <;> simp
theorem subFold_len : ∀ (cut : List Rng) (s : List Rng × Rng), (cut.foldl subStep s).1.length ≤ s.1.length + cut.length
  | [], _ => by simp
  | c :: l, s => by
    have h1 := subFold_len l (subStep s c)
    have h2 := subStep_len s c
    simp only [List.foldl_cons, List.length_cons]; omega
theorem subOne_len (cut out : List Rng) (r : Rng) : (subOne cut out r).length ≤ out.length + (cut.length + 1) := by
  have h := subFold_len cut (out, r)
  unfold subOne subEnd; split
  · simp; dsimp only at h; omega
  · dsimp only at h; omega
theorem subOnes_len (cut : List Rng) : ∀ (l out : List Rng), (l.foldl (subOne cut) out).length ≤ out.length + l.length * (cut.length + 1)
  | [], _ => by simp
  | r :: l, out => by
    have h1 := subOnes_len cut l (subOne cut out r)
    have h2 := subOne_len cut out r
    simp only [List.foldl_cons, List.length_cons, Nat.add_mul, Nat.one_mul]; omega
end Go.HL
