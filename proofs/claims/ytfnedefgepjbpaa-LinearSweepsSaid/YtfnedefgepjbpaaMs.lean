/- Lengths of normal lists; what ImageRanges wants. -/
import Derived.Test.YtfnedefgepjbpaaMr
set_option linter.unusedSimpArgs false
set_option linter.unusedVariables false
namespace Go.HL
open Go Go.Sort

def hasB (l : List Rng) (n : Nat) : Bool := l.any fun r => decide (r.lo.toNat ≤ n) && decide (n < r.hi.toNat)
theorem hasB_iff {l : List Rng} {n : Nat} : hasB l n = true ↔ Has l n := by
  simp only [hasB, List.any_eq_true, Bool.and_eq_true, decide_eq_true_eq, Has]
theorem countP_or {p q : Nat → Bool} (h : ∀ n, ¬ (p n = true ∧ q n = true)) : ∀ l : List Nat, l.countP (fun n => p n || q n) = l.countP p + l.countP q
  | [] => rfl
  | x :: l => by
    have ih := countP_or h l
    have hx := h x
    simp only [List.countP_cons, ih]
    cases hp : p x <;> cases hq : q x <;> simp_all <;> omega
theorem countP_range (lo hi : Nat) : ∀ N, (List.range N).countP (fun n => decide (lo ≤ n) && decide (n < hi)) = min hi N - min lo N
  | 0 => by simp
  | N + 1 => by
    rw [List.range_succ, List.countP_append, countP_range lo hi N, List.countP_singleton]
    by_cases h1 : lo ≤ N <;> by_cases h2 : N < hi <;> simp [h1, h2] <;> omega
def sumN : List Rng → Nat
  | [] => 0
  | r :: l => (r.hi - r.lo).toNat + sumN l
theorem lenFold_sum : ∀ (l : List Rng) (n : Int), l.foldl lenStep n = n + (sumN l : Int)
  | [], n => by simp [sumN]
  | r :: l, n => by
    simp only [List.foldl_cons, lenFold_sum l, sumN, lenStep]; omega
theorem sumN_count : ∀ l : List Rng, Norm l → sumN l = (List.range 4294967296).countP (hasB l)
  | [], _ => by
    have e : hasB [] = fun _ => false := rfl
    rw [e]
    exact (List.countP_eq_zero.2 (by simp)).symm
  | r :: l, h => by
    obtain ⟨⟨h1, h2⟩, h3⟩ := norm_cons.1 h
    have e : hasB (r :: l) = fun n => (decide (r.lo.toNat ≤ n) && decide (n < r.hi.toNat)) || hasB l n := rfl
    rw [e, countP_or (p := fun n => decide (r.lo.toNat ≤ n) && decide (n < r.hi.toNat)), countP_range, sumN, sumN_count l h3]
    · have a1 := r.lo.toNat_lt
      have a2 := r.hi.toNat_lt
      rw [UInt32.toNat_sub_of_le _ _ (by rw [UInt32.le_iff_toNat_le]; omega)]
      have b1 : min r.hi.toNat 4294967296 = r.hi.toNat := by omega
      have b2 : min r.lo.toNat 4294967296 = r.lo.toNat := by omega
      rw [b1, b2]
    · rintro n ⟨q1, q2⟩
      simp only [Bool.and_eq_true, decide_eq_true_eq] at q1
      obtain ⟨x, hx, q3⟩ := hasB_iff.1 q2
      have := h2 x hx; omega
theorem sum_disjoint {u d c : List Rng} (hu : Norm u) (hd : Norm d) (hc : Norm c) (h : ∀ n, Has u n ↔ Has d n ∨ Has c n) (h2 : ∀ n, ¬ (Has d n ∧ Has c n)) : sumN u = sumN d + sumN c := by
  rw [sumN_count u hu, sumN_count d hd, sumN_count c hc, ← countP_or (p := hasB d) (q := hasB c)]
  · have e : hasB u = fun n => hasB d n || hasB c n := by
      funext n
      rw [Bool.eq_iff_iff, Bool.or_eq_true, hasB_iff, hasB_iff, hasB_iff]; exact h n
    rw [e]
  · rintro n ⟨q1, q2⟩
    exact h2 n ⟨hasB_iff.1 q1, hasB_iff.1 q2⟩
theorem lengthP_sets (a b : List Rng) : lengthP (normalP (a ++ b)) = lengthP (subtractP a b) + lengthP b := by
  have hu := normal_ok (a ++ b)
  have hd := subtract_ok a b
  have hc := normal_ok b
  unfold lengthP
  rw [normal_id hu.1, normal_id hd.1, lenFold_sum, lenFold_sum, lenFold_sum, sum_disjoint hu.1 hd.1 hc.1]
  · omega
  · intro n
    rw [hu.2 n, hd.2 n, hc.2 n, has_append]
    constructor
    · rintro (q | q)
      · by_cases z : Has b n
        · exact .inr z
        · exact .inl ⟨q, z⟩
      · exact .inr q
    · rintro (q | q)
      · exact .inl q.1
      · exact .inr q
  · rintro n ⟨q1, q2⟩
    exact ((hd.2 n).1 q1).2 ((hc.2 n).1 q2)

theorem any_bool {l m : List Rng} {x : UInt32} (h : ∀ n, Has l n ↔ Has m n) : l.any (inR x) = m.any (inR x) := by
  rw [Bool.eq_iff_iff, any_inR, any_inR]; exact h _
theorem any_normal (a : List Rng) (x : UInt32) : (normalP a).any (inR x) = a.any (inR x) := any_bool (normal_ok a).2
theorem any_union (a b : List Rng) (x : UInt32) : (normalP (a ++ b)).any (inR x) = (a.any (inR x) || b.any (inR x)) := by rw [any_normal, List.any_append]
theorem any_sub (a b : List Rng) (x : UInt32) : (subtractP a b).any (inR x) = (a.any (inR x) && !b.any (inR x)) := by
  rw [Bool.eq_iff_iff, any_inR, (subtract_ok a b).2, Bool.and_eq_true, Bool.not_eq_true', ← any_inR, ← any_inR, Bool.not_eq_true]
theorem norm_at {l : List Rng} (h : Norm l) {k : Nat} (hk : k < l.length) : (l.getD k default).lo.toNat < (l.getD k default).hi.toNat := h.2 _ (mem_getD hk)
theorem norm_adj {l : List Rng} (h : Norm l) {k : Nat} (h0 : 0 < k) (hk : k < l.length) : (l.getD ((k : Int) - 1).toNat default).hi.toNat < (l.getD k default).lo.toNat := by
  have := List.pairwise_iff_getElem.1 h.1 (k - 1) k (by omega) hk (by omega)
  rw [show ((k : Int) - 1).toNat = k - 1 by omega]
  simpa [List.getD_eq_getElem?_getD, hk, show k - 1 < l.length by omega] using this
theorem no_bad {l : List Rng} (h : Norm l) {k : Nat} (hk : k < l.length) (hb : (l.getD k default).hi ≤ (l.getD k default).lo ∨ (0 < (k : Int) ∧ (l.getD k default).lo ≤ (l.getD ((k : Int) - 1).toNat default).hi)) : False := by
  simp only [UInt32.le_iff_toNat_le] at hb
  rcases hb with q | ⟨q1, q2⟩
  · have := norm_at h hk; omega
  · have := norm_adj h (by omega) hk; omega
theorem subtractP_len (a b : List Rng) (ha : a.length ≤ 900) (hb : b.length ≤ 900) : (subtractP a b).length ≤ 1000000 := by
  have h1 := normalP_len a
  have h2 := normalP_len b
  have h := subOnes_len (normalP b) (normalP a) []
  have : (normalP a).length * ((normalP b).length + 1) ≤ 900 * 901 := Nat.mul_le_mul (by omega) (by omega)
  unfold subtractP; simp only [List.length_nil] at h; omega
end Go.HL
