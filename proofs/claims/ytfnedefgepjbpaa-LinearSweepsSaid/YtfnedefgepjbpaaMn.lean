/- Normal lists of ranges: what they contain, and that there is one for each set. -/
import Derived.Test.YtfnedefgepjbpaaMb
set_option linter.unusedSimpArgs false
set_option linter.unusedVariables false
namespace Go.HL
open Go Go.Sort
open Go.Proofs (ltOf)

def Has (l : List Rng) (n : Nat) : Prop := ∃ r ∈ l, r.lo.toNat ≤ n ∧ n < r.hi.toNat
def Norm (l : List Rng) : Prop := l.Pairwise (fun x y => x.hi.toNat < y.lo.toNat) ∧ ∀ x ∈ l, x.lo.toNat < x.hi.toNat
theorem Has.nil {n : Nat} : ¬ Has [] n := by rintro ⟨r, h, _⟩; simp at h
theorem has_cons {x : Rng} {l : List Rng} {n : Nat} : Has (x :: l) n ↔ (x.lo.toNat ≤ n ∧ n < x.hi.toNat) ∨ Has l n := by
  constructor
  · rintro ⟨r, h, h2⟩
    rcases List.mem_cons.1 h with rfl | h
    · exact .inl h2
    · exact .inr ⟨r, h, h2⟩
  · rintro (h | ⟨r, h, h2⟩)
    · exact ⟨x, .head _, h⟩
    · exact ⟨r, .tail _ h, h2⟩
theorem has_append {a b : List Rng} {n : Nat} : Has (a ++ b) n ↔ Has a n ∨ Has b n := by
  induction a with
  | nil => simp [Has.nil]
  | cons x a ih => simp only [List.cons_append, has_cons, ih, or_assoc]
theorem has_single {x : Rng} {n : Nat} : Has [x] n ↔ x.lo.toNat ≤ n ∧ n < x.hi.toNat := by simp [has_cons, Has.nil]
theorem Has.perm {a b : List Rng} (h : a.Perm b) {n : Nat} : Has a n ↔ Has b n :=
  ⟨fun ⟨r, m, q⟩ => ⟨r, h.mem_iff.1 m, q⟩, fun ⟨r, m, q⟩ => ⟨r, h.mem_iff.2 m, q⟩⟩
theorem u32_ext {a b : UInt32} (h : a.toNat = b.toNat) : a = b := UInt32.toNat_inj.1 h

theorem norm_cons {x : Rng} {l : List Rng} : Norm (x :: l) ↔ (x.lo.toNat < x.hi.toNat ∧ ∀ y ∈ l, x.hi.toNat < y.lo.toNat) ∧ Norm l := by
  simp only [Norm, List.pairwise_cons, List.mem_cons, forall_eq_or_imp]
  constructor
  · rintro ⟨⟨a, b⟩, c, d⟩; exact ⟨⟨c, a⟩, b, d⟩
  · rintro ⟨⟨c, a⟩, b, d⟩; exact ⟨⟨a, b⟩, c, d⟩
theorem Norm.unique : ∀ (a b : List Rng), Norm a → Norm b → (∀ n, Has a n ↔ Has b n) → a = b
  | [], [], _, _, _ => rfl
  | [], y :: b, _, hb, h => absurd ((h y.lo.toNat).2 (has_cons.2 (.inl ⟨Nat.le_refl _, (norm_cons.1 hb).1.1⟩))) Has.nil
  | x :: a, [], ha, _, h => absurd ((h x.lo.toNat).1 (has_cons.2 (.inl ⟨Nat.le_refl _, (norm_cons.1 ha).1.1⟩))) Has.nil
  | x :: a, y :: b, ha, hb, h => by
    obtain ⟨⟨hx, hxa⟩, ha'⟩ := norm_cons.1 ha
    obtain ⟨⟨hy, hyb⟩, hb'⟩ := norm_cons.1 hb
    have ta : ∀ {n}, Has a n → x.hi.toNat < n := fun ⟨r, m, q⟩ => by have := hxa r m; omega
    have tb : ∀ {n}, Has b n → y.hi.toNat < n := fun ⟨r, m, q⟩ => by have := hyb r m; omega
    have e1 : x.lo.toNat = y.lo.toNat := by
      have h1 := (h x.lo.toNat).1 (has_cons.2 (.inl ⟨Nat.le_refl _, hx⟩))
      have h2 := (h y.lo.toNat).2 (has_cons.2 (.inl ⟨Nat.le_refl _, hy⟩))
      rcases has_cons.1 h1 with h1 | h1 <;> rcases has_cons.1 h2 with h2 | h2
      · omega
      · have := ta h2; omega
      · have := tb h1; omega
      · have := ta h2; have := tb h1; omega
    have e2 : x.hi.toNat = y.hi.toNat := by
      rcases Nat.lt_trichotomy x.hi.toNat y.hi.toNat with hl | he | hg
      · have h1 := (h x.hi.toNat).2 (has_cons.2 (.inl ⟨by omega, hl⟩))
        rcases has_cons.1 h1 with h1 | h1
        · omega
        · have := ta h1; omega
      · exact he
      · have h1 := (h y.hi.toNat).1 (has_cons.2 (.inl ⟨by omega, hg⟩))
        rcases has_cons.1 h1 with h1 | h1
        · omega
        · have := tb h1; omega
    have e : x = y := rng_ext (u32_ext e1) (u32_ext e2)
    subst e
    rw [Norm.unique a b ha' hb' fun n => ?_]
    constructor
    · intro q
      rcases has_cons.1 ((h n).1 (has_cons.2 (.inr q))) with q2 | q2
      · have := ta q; omega
      · exact q2
    · intro q
      rcases has_cons.1 ((h n).2 (has_cons.2 (.inr q))) with q2 | q2
      · have := tb q; omega
      · exact q2

theorem norm_append {a b : List Rng} : Norm (a ++ b) ↔ Norm a ∧ Norm b ∧ ∀ x ∈ a, ∀ y ∈ b, x.hi.toNat < y.lo.toNat := by
  simp only [Norm, List.pairwise_append, List.mem_append]
  constructor
  · rintro ⟨⟨p1, p2, p3⟩, q⟩
    exact ⟨⟨p1, fun x h => q x (.inl h)⟩, ⟨p2, fun x h => q x (.inr h)⟩, p3⟩
  · rintro ⟨⟨p1, q1⟩, ⟨p2, q2⟩, p3⟩
    exact ⟨⟨p1, p2, p3⟩, fun x h => h.elim (q1 x) (q2 x)⟩
theorem norm_single {x : Rng} : Norm [x] ↔ x.lo.toNat < x.hi.toNat := by simp [Norm]
theorem norm_nil : Norm [] := ⟨List.Pairwise.nil, by simp⟩

theorem lastR_append (pre : List Rng) (x : Rng) : lastR (pre ++ [x]) = x := by
  unfold lastR
  rw [show (((pre ++ [x]).length : Int) - 1).toNat = pre.length by simp]
  simp [List.getD_eq_getElem?_getD]
theorem set_last (pre : List Rng) (x y : Rng) : (pre ++ [x]).set (((pre ++ [x]).length : Int) - 1).toNat y = pre ++ [y] := by
  rw [show (((pre ++ [x]).length : Int) - 1).toNat = pre.length by simp]
  simp
theorem mergeStep_nil (r : Rng) : mergeStep [] r = [r] := by simp [mergeStep]
theorem mergeStep_append (pre : List Rng) (x r : Rng) : mergeStep (pre ++ [x]) r = if r.lo ≤ x.hi then pre ++ [⟨x.lo, if x.hi < r.hi then r.hi else x.hi⟩] else pre ++ [x] ++ [r] := by
  unfold mergeStep
  rw [lastR_append, set_last]
  by_cases h : r.lo ≤ x.hi
  · rw [if_pos ⟨by simp, h⟩, if_pos h]
  · rw [if_neg (fun q => h q.2), if_neg h]
theorem max_toNat (a b : UInt32) : (if a < b then b else a).toNat = max a.toNat b.toNat := by
  split <;> rename_i h <;> rw [UInt32.lt_iff_toNat_lt] at h <;> omega

/-- One merging: the list stays normal, and contains what it contained and r. -/
theorem mergeStep_ok (pre : List Rng) (x r : Rng) (hn : Norm (pre ++ [x])) (hr : r.lo.toNat < r.hi.toNat) (hle : x.lo.toNat ≤ r.lo.toNat) :
    Norm (mergeStep (pre ++ [x]) r) ∧ (∀ n, Has (mergeStep (pre ++ [x]) r) n ↔ Has (pre ++ [x]) n ∨ Has [r] n) ∧ ∃ pre' x', mergeStep (pre ++ [x]) r = pre' ++ [x'] ∧ x'.lo.toNat ≤ r.lo.toNat := by
  rw [mergeStep_append]
  obtain ⟨n1, n2, n3⟩ := norm_append.1 hn
  have hx := norm_single.1 n2
  by_cases h : r.lo ≤ x.hi
  · rw [if_pos h]
    rw [UInt32.le_iff_toNat_le] at h
    have hm := max_toNat x.hi r.hi
    refine ⟨norm_append.2 ⟨n1, norm_single.2 (by dsimp only; omega), fun a ha b hb => ?_⟩, fun n => ?_, _, _, rfl, by dsimp only; omega⟩
    · simp only [List.mem_singleton] at hb; subst hb; exact n3 a ha x (.head _)
    · simp only [has_append, has_single, hm]
      constructor
      · rintro (q | q)
        · exact .inl (.inl q)
        · by_cases h2 : n < x.hi.toNat
          · exact .inl (.inr ⟨q.1, h2⟩)
          · exact .inr ⟨by omega, by omega⟩
      · rintro ((q | q) | q)
        · exact .inl q
        · exact .inr ⟨q.1, by omega⟩
        · exact .inr ⟨by omega, by omega⟩
  · rw [if_neg h]
    rw [UInt32.le_iff_toNat_le] at h
    refine ⟨norm_append.2 ⟨hn, norm_single.2 hr, fun a ha b hb => ?_⟩, fun n => by rw [has_append], _, _, rfl, Nat.le_refl _⟩
    simp only [List.mem_singleton] at hb; subst hb
    rcases List.mem_append.1 ha with ha | ha
    · have := n3 a ha x (.head _); omega
    · simp only [List.mem_singleton] at ha; subst ha; omega

theorem mergeFold_ok : ∀ (l pre : List Rng) (x : Rng), Norm (pre ++ [x]) → (∀ r ∈ l, r.lo.toNat < r.hi.toNat) → l.Pairwise (fun a b => a.lo.toNat ≤ b.lo.toNat) → (∀ r ∈ l, x.lo.toNat ≤ r.lo.toNat) →
    Norm (l.foldl mergeStep (pre ++ [x])) ∧ ∀ n, Has (l.foldl mergeStep (pre ++ [x])) n ↔ Has (pre ++ [x]) n ∨ Has l n
  | [], pre, x, h, _, _, _ => ⟨h, fun n => by simp [Has.nil]⟩
  | r :: l, pre, x, h, hne, hs, hle => by
    obtain ⟨m1, m2, p', x', e, hx⟩ := mergeStep_ok pre x r h (hne r (.head _)) (hle r (.head _))
    rw [List.pairwise_cons] at hs
    simp only [List.foldl_cons]
    rw [e] at m1 m2 ⊢
    have ih := mergeFold_ok l p' x' m1 (fun q hq => hne q (.tail _ hq)) hs.2 (fun q hq => Nat.le_trans hx (hs.1 q hq))
    refine ⟨ih.1, fun n => ?_⟩
    rw [ih.2 n, m2 n, has_single, or_assoc, ← has_cons]

theorem normal_ok (l : List Rng) : Norm (normalP l) ∧ ∀ n, Has (normalP l) n ↔ Has l n := by
  have hp := sortP_perm swo_cmpR (l.filter neR)
  have hs := sortP_sorted swo_cmpR (l.filter neR)
  have hf : ∀ n, Has (l.filter neR) n ↔ Has l n := fun n =>
    ⟨fun ⟨r, m, q⟩ => ⟨r, (List.mem_filter.1 m).1, q⟩, fun ⟨r, m, q⟩ => ⟨r, List.mem_filter.2 ⟨m, by simp only [neR, decide_eq_true_eq, UInt32.lt_iff_toNat_lt]; omega⟩, q⟩⟩
  have hne : ∀ r ∈ sortP (ltOf cmpR) (l.filter neR), r.lo.toNat < r.hi.toNat := fun r hr => by
    have := (List.mem_filter.1 (hp.mem_iff.1 hr)).2
    simpa only [neR, decide_eq_true_eq, UInt32.lt_iff_toNat_lt] using this
  have hs' : (sortP (ltOf cmpR) (l.filter neR)).Pairwise fun a b => a.lo.toNat ≤ b.lo.toNat := hs.imp fun {a b} h => by
    simp only [ltOf_cmpR, decide_eq_false_iff_not, UInt32.lt_iff_toNat_lt] at h; omega
  unfold normalP
  generalize sortP (ltOf cmpR) (l.filter neR) = s at hp hne hs'
  have e : ∀ n, Has s n ↔ Has l n := fun n => (Has.perm hp).trans (hf n)
  cases s with
  | nil => exact ⟨norm_nil, e⟩
  | cons r s =>
    rw [List.pairwise_cons] at hs'
    simp only [List.foldl_cons, mergeStep_nil]
    have := mergeFold_ok s [] r (norm_single.2 (hne r (.head _))) (fun q hq => hne q (.tail _ hq)) hs'.2 hs'.1
    simp only [List.nil_append] at this
    exact ⟨this.1, fun n => by rw [this.2 n, ← e n, has_single, has_cons]⟩

theorem exPut : putP [] 4660 2 = [52, 18] := by decide
theorem exNormal : normalP [⟨5, 7⟩, ⟨1, 3⟩, ⟨3, 5⟩, ⟨9, 9⟩] = [⟨1, 7⟩] := by
  have h := normal_ok [⟨5, 7⟩, ⟨1, 3⟩, ⟨3, 5⟩, ⟨9, 9⟩]
  refine Norm.unique _ _ h.1 (norm_single.2 (by decide)) fun n => ?_
  rw [h.2 n]
  have e1 : (1 : UInt32).toNat = 1 := rfl
  have e3 : (3 : UInt32).toNat = 3 := rfl
  have e5 : (5 : UInt32).toNat = 5 := rfl
  have e7 : (7 : UInt32).toNat = 7 := rfl
  have e9 : (9 : UInt32).toNat = 9 := rfl
  simp only [has_cons, Has.nil, e1, e3, e5, e7, e9, or_false]
  omega
theorem normal_id {l : List Rng} (h : Norm l) : normalP l = l := Norm.unique _ _ (normal_ok l).1 h (normal_ok l).2
theorem exLength : lengthP [⟨1, 7⟩] = 6 := by
  rw [lengthP, normal_id (norm_single.2 (by decide))]; decide
theorem sl_nil {h : Hp} {α : Type} {E : Enc α} : Sl h E ([] : List α) (.slice none 0 0) := Sl.nil _ _
end Go.HL
