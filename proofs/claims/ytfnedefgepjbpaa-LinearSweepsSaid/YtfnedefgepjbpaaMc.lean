/- Plain functions of the reference of chapter 02: bounds and choices. -/
import Derived.Test.YtfnedefgepjbpaaMn
set_option linter.unusedSimpArgs false
set_option linter.unusedVariables false
namespace Go.HL
open Go

def pairsOf (l : List Rng) : List UInt32 := l.flatMap fun r => [r.lo, r.hi]
theorem pairs_take_succ {l : List Rng} {k : Nat} (h : k < l.length) : pairsOf (l.take (k + 1)) = pairsOf (l.take k) ++ [(l.getD k default).lo] ++ [(l.getD k default).hi] := by
  rw [take_succ h]; simp only [pairsOf, List.flatMap_append, List.flatMap_cons, List.flatMap_nil, List.append_nil, List.append_assoc]; rfl
theorem pairs_len : ∀ l : List Rng, (pairsOf l).length = 2 * l.length
  | [] => rfl
  | r :: l => by have := pairs_len l; simp only [pairsOf, List.flatMap_cons, List.length_append, List.length_cons, List.length_nil] at *; omega
def lastU (out : List UInt32) : UInt32 := out.getD ((out.length : Int) - 1).toNat default
def scanStep (out : List UInt32) (s : UInt32 × Bool) (x : UInt32) : UInt32 × Bool :=
  if ((out.length : Int) = 0 ∨ lastU out < x) ∧ (s.2 = false ∨ x < s.1) then (x, true) else s
theorem scanStep_neg {out : List UInt32} {s : UInt32 × Bool} {x : UInt32} (h : (¬ (out.length : Int) = 0 ∧ ¬ lastU out < x) ∨ (s.2 = true ∧ ¬ x < s.1)) : scanStep out s x = s := by
  unfold scanStep
  rw [if_neg]
  rintro ⟨h1, h2⟩
  rcases h with h | h
  · exact h1.elim h.1 h.2
  · rcases h2 with h2 | h2
    · rw [h.1] at h2; simp at h2
    · exact h.2 h2
def scan (all out : List UInt32) : UInt32 × Bool := all.foldl (scanStep out) (0, false)
def boundsF (all : List UInt32) : Nat → List UInt32 → List UInt32
  | 0, out => out
  | n + 1, out => if (scan all out).2 = false then out else boundsF all n (out ++ [(scan all out).1])
def boundsP (a b : List Rng) : List UInt32 := boundsF (pairsOf a ++ pairsOf b) (pairsOf a ++ pairsOf b).length []
theorem boundsF_len (all : List UInt32) : ∀ n out, (boundsF all n out).length ≤ out.length + n
  | 0, out => by simp [boundsF]
  | n + 1, out => by
    unfold boundsF; split
    · omega
    · have := boundsF_len all n (out ++ [(scan all out).1]); simp at this; omega

def inC (a b : List Rng) (both without : Bool) (c : UInt32) : Bool :=
  if (without && b.any (inR c)) = true then false else (a.any (inR c) || (both && b.any (inR c)))
def chStep (a b : List Rng) (both without : Bool) (cuts : List UInt32) (out : List Rng) (i : Nat) : List Rng :=
  if inC a b both without (cuts.getD i default) = true then
    (if 0 < (out.length : Int) ∧ (lastR out).hi = cuts.getD i default then out.set ((out.length : Int) - 1).toNat ⟨(lastR out).lo, cuts.getD (i + 1) default⟩ else out ++ [⟨cuts.getD i default, cuts.getD (i + 1) default⟩])
  else out
theorem inC_cut {a b : List Rng} {both without : Bool} {c : UInt32} (h : without = true ∧ b.any (inR c) = true) : inC a b both without c = false := by
  rw [inC, if_pos (by rw [h.1, h.2]; rfl)]
theorem inC_eq {a b : List Rng} {both without : Bool} {c : UInt32} (h : without = false ∨ b.any (inR c) = false) : inC a b both without c = (a.any (inR c) || (both && b.any (inR c))) := by
  rw [inC, if_neg]
  rcases h with h | h <;> rw [h] <;> simp
theorem inC_no {a b : List Rng} {both without : Bool} {c : UInt32} (h : without = false ∨ b.any (inR c) = false) (h2 : a.any (inR c) = false ∧ (both = false ∨ b.any (inR c) = false)) : inC a b both without c = false := by
  rw [inC_eq h, h2.1]
  rcases h2.2 with h2 | h2 <;> rw [h2] <;> simp
theorem inC_yes {a b : List Rng} {both without : Bool} {c : UInt32} (h : without = false ∨ b.any (inR c) = false) (h2 : a.any (inR c) = true ∨ both = true ∧ b.any (inR c) = true) : inC a b both without c = true := by
  rw [inC_eq h]
  rcases h2 with h2 | ⟨h2, h3⟩
  · rw [h2]; rfl
  · rw [h2, h3]; simp
theorem chStep_no {a b : List Rng} {both without : Bool} {cuts : List UInt32} {out : List Rng} {i : Nat} (h : inC a b both without (cuts.getD i default) = false) : chStep a b both without cuts out i = out := by
  rw [chStep, if_neg (by rw [h]; simp)]
theorem chStep_set {a b : List Rng} {both without : Bool} {cuts : List UInt32} {out : List Rng} {i : Nat} (h : inC a b both without (cuts.getD i default) = true) (h2 : 0 < (out.length : Int) ∧ (lastR out).hi = cuts.getD i default) :
    chStep a b both without cuts out i = out.set ((out.length : Int) - 1).toNat ⟨(lastR out).lo, cuts.getD (i + 1) default⟩ := by rw [chStep, if_pos h, if_pos h2]
theorem chStep_app {a b : List Rng} {both without : Bool} {cuts : List UInt32} {out : List Rng} {i : Nat} (h : inC a b both without (cuts.getD i default) = true) (h2 : ¬ 0 < (out.length : Int) ∨ ¬ (lastR out).hi = cuts.getD i default) :
    chStep a b both without cuts out i = out ++ [⟨cuts.getD i default, cuts.getD (i + 1) default⟩] := by rw [chStep, if_pos h, if_neg (fun q => h2.elim (fun z => z q.1) (fun z => z q.2))]
def chF (a b : List Rng) (both without : Bool) (cuts : List UInt32) (k : Nat) : List Rng := (List.range k).foldl (chStep a b both without cuts) []
def chooseP (a b : List Rng) (both without : Bool) : List Rng := chF a b both without (boundsP a b) ((boundsP a b).length - 1)
theorem chF_succ (a b : List Rng) (both without : Bool) (cuts : List UInt32) (k : Nat) : chF a b both without cuts (k + 1) = chStep a b both without cuts (chF a b both without cuts k) k := by
  simp [chF, List.range_succ]
theorem chF_len (a b : List Rng) (both without : Bool) (cuts : List UInt32) : ∀ k, (chF a b both without cuts k).length ≤ k
  | 0 => by simp [chF]
  | k + 1 => by
    have := chF_len a b both without cuts k
    rw [chF_succ]; unfold chStep; split
    · split <;> simp <;> omega
    · omega
theorem boundsP_len (a b : List Rng) : (boundsP a b).length ≤ 2 * a.length + 2 * b.length := by
  have := boundsF_len (pairsOf a ++ pairsOf b) (pairsOf a ++ pairsOf b).length []
  simp only [List.length_append, pairs_len, List.length_nil] at this
  unfold boundsP; simp only [List.length_append, pairs_len]; omega
end Go.HL
