/- Subtract gives the normal list of the difference; lengths. -/
import Derived.Test.YtfnedefgepjbpaaMq
set_option linter.unusedSimpArgs false
set_option linter.unusedVariables false
namespace Go.HL
open Go Go.Sort

theorem min_toNat (a b : UInt32) : (if b < a then b else a).toNat = min a.toNat b.toNat := by
  split <;> rename_i h <;> rw [UInt32.lt_iff_toNat_lt] at h <;> omega
/-- What is cut so far is normal and lies below what is left. -/
def SubInv (lo hi : Nat) (s : List Rng × Rng) : Prop :=
  Norm s.1 ∧ (∀ x ∈ s.1, x.hi.toNat < s.2.lo.toNat) ∧ lo ≤ s.2.lo.toNat ∧ s.2.lo.toNat ≤ hi ∧ s.2.hi.toNat = hi
theorem subStep_inv {lo hi : Nat} {s : List Rng × Rng} {c : Rng} (h : SubInv lo hi s) (hc : c.lo.toNat < c.hi.toNat) : SubInv lo hi (subStep s c) ∧
    ∀ n, (Has (subStep s c).1 n ∨ ((subStep s c).2.lo.toNat ≤ n ∧ n < (subStep s c).2.hi.toNat)) ↔ Has s.1 n ∨ ((s.2.lo.toNat ≤ n ∧ n < s.2.hi.toNat) ∧ ¬ (c.lo.toNat ≤ n ∧ n < c.hi.toNat)) := by
  obtain ⟨h1, h2, h3, h4, h5⟩ := h
  have hm := min_toNat c.hi s.2.hi
  by_cases hk : c.hi ≤ s.2.lo ∨ s.2.hi ≤ c.lo
  · rw [subStep_skip hk]
    simp only [UInt32.le_iff_toNat_le] at hk
    refine ⟨⟨h1, h2, h3, h4, h5⟩, fun n => ?_⟩
    constructor
    · rintro (q | q)
      · exact .inl q
      · exact .inr ⟨q, by omega⟩
    · rintro (q | q)
      · exact .inl q
      · exact .inr q.1
  · have hk' : ¬ c.hi ≤ s.2.lo ∧ ¬ s.2.hi ≤ c.lo := ⟨fun q => hk (.inl q), fun q => hk (.inr q)⟩
    have hk2 := hk'
    simp only [UInt32.le_iff_toNat_le] at hk2
    by_cases hl : s.2.lo < c.lo
    · rw [subStep_app hk' hl]
      rw [UInt32.lt_iff_toNat_lt] at hl
      refine ⟨⟨norm_append.2 ⟨h1, norm_single.2 hl, fun x hx y hy => ?_⟩, fun x hx => ?_, by dsimp only; omega, by dsimp only; omega, h5⟩, fun n => ?_⟩
      · simp only [List.mem_singleton] at hy; subst hy; exact h2 x hx
      · rcases List.mem_append.1 hx with hx | hx
        · have := h2 x hx; dsimp only; omega
        · simp only [List.mem_singleton] at hx; subst hx; dsimp only; omega
      · simp only [has_append, has_single, hm]
        constructor
        · rintro ((q | q) | q)
          · exact .inl q
          · exact .inr ⟨⟨by omega, by omega⟩, by omega⟩
          · exact .inr ⟨⟨by omega, by omega⟩, by omega⟩
        · rintro (q | q)
          · exact .inl (.inl q)
          · by_cases hn : n < c.lo.toNat
            · exact .inl (.inr ⟨q.1.1, hn⟩)
            · exact .inr ⟨by omega, by omega⟩
    · rw [subStep_no hk' hl]
      rw [UInt32.lt_iff_toNat_lt] at hl
      refine ⟨⟨h1, fun x hx => by have := h2 x hx; dsimp only; omega, by dsimp only; omega, by dsimp only; omega, h5⟩, fun n => ?_⟩
      simp only [hm]
      constructor
      · rintro (q | q)
        · exact .inl q
        · exact .inr ⟨⟨by omega, by omega⟩, by omega⟩
      · rintro (q | q)
        · exact .inl q
        · exact .inr ⟨by omega, by omega⟩

theorem subStep_has (s : List Rng × Rng) (c : Rng) (n : Nat) : (Has s.1 n → Has (subStep s c).1 n) ∧ (Has (subStep s c).1 n → Has s.1 n ∨ (s.2.lo.toNat ≤ n ∧ n < c.lo.toNat ∧ c.lo.toNat < s.2.hi.toNat)) := by
  unfold subStep
  split
  · exact ⟨id, .inl⟩
  · rename_i hk
    dsimp only
    split
    · have : ¬ s.2.hi ≤ c.lo := fun q => hk (.inr q)
      rw [UInt32.le_iff_toNat_le] at this
      simp only [has_append, has_single]
      exact ⟨.inl, fun q => q.imp id fun z => ⟨z.1, z.2, by omega⟩⟩
    · exact ⟨id, .inl⟩
theorem subFold_inv {lo hi : Nat} : ∀ (l : List Rng) (s : List Rng × Rng), SubInv lo hi s → Norm l → SubInv lo hi (l.foldl subStep s) ∧
    ∀ n, (Has (l.foldl subStep s).1 n ∨ ((l.foldl subStep s).2.lo.toNat ≤ n ∧ n < (l.foldl subStep s).2.hi.toNat)) ↔ Has s.1 n ∨ ((s.2.lo.toNat ≤ n ∧ n < s.2.hi.toNat) ∧ ¬ Has l n)
  | [], s, h, _ => ⟨h, fun n => by simp [Has.nil]⟩
  | c :: l, s, h, hc => by
    obtain ⟨⟨hc0, hcl⟩, hc'⟩ := norm_cons.1 hc
    obtain ⟨j1, j2⟩ := subStep_inv h hc0
    obtain ⟨i1, i2⟩ := subFold_inv l (subStep s c) j1 hc'
    refine ⟨i1, fun n => ?_⟩
    simp only [List.foldl_cons]
    rw [i2 n, has_cons]
    have j3 := j2 n
    constructor
    · rintro (q | q)
      · refine ((subStep_has s c n).2 q).imp id fun z => ⟨⟨z.1, by omega⟩, fun y => ?_⟩
        rcases y with y | ⟨x, hx, y⟩
        · omega
        · have := hcl x hx; omega
      · exact (j3.1 (.inr q.1)).imp id fun z => ⟨z.1, fun y => y.elim z.2 q.2⟩
    · rintro (q | q)
      · exact .inl ((subStep_has s c n).1 q)
      · exact (j3.2 (.inr ⟨q.1, fun y => q.2 (.inl y)⟩)).imp id fun z => ⟨z, fun y => q.2 (.inr y)⟩

theorem subOne_ok {cut out : List Rng} {r : Rng} (hcut : Norm cut) (ho : Norm out) (hr : r.lo.toNat < r.hi.toNat) (hb : ∀ x ∈ out, x.hi.toNat < r.lo.toNat) :
    Norm (subOne cut out r) ∧ (∀ x ∈ subOne cut out r, x.hi.toNat ≤ r.hi.toNat) ∧ ∀ n, Has (subOne cut out r) n ↔ Has out n ∨ ((r.lo.toNat ≤ n ∧ n < r.hi.toNat) ∧ ¬ Has cut n) := by
  obtain ⟨⟨h1, h2, h3, h4, h5⟩, hn⟩ := subFold_inv (lo := r.lo.toNat) (hi := r.hi.toNat) cut (out, r) ⟨ho, hb, Nat.le_refl _, Nat.le_of_lt hr, rfl⟩ hcut
  unfold subOne
  generalize cut.foldl subStep (out, r) = s at h1 h2 h3 h4 h5 hn
  unfold subEnd
  split <;> rename_i h <;> rw [UInt32.lt_iff_toNat_lt] at h
  · refine ⟨norm_append.2 ⟨h1, norm_single.2 h, fun x hx y hy => ?_⟩, fun x hx => ?_, fun n => ?_⟩
    · simp only [List.mem_singleton] at hy; subst hy; exact h2 x hx
    · rcases List.mem_append.1 hx with hx | hx
      · have := h2 x hx; omega
      · simp only [List.mem_singleton] at hx; subst hx; omega
    · rw [has_append, has_single]; exact hn n
  · refine ⟨h1, fun x hx => by have := h2 x hx; omega, fun n => ?_⟩
    rw [← hn n]
    exact ⟨.inl, fun q => q.elim id fun z => absurd z.2 (by omega)⟩

theorem subOnes_ok {cut : List Rng} (hcut : Norm cut) : ∀ (l out : List Rng), Norm l → Norm out → (∀ x ∈ out, ∀ r ∈ l, x.hi.toNat < r.lo.toNat) →
    Norm (l.foldl (subOne cut) out) ∧ ∀ n, Has (l.foldl (subOne cut) out) n ↔ Has out n ∨ (Has l n ∧ ¬ Has cut n)
  | [], out, _, ho, _ => ⟨ho, fun n => by simp [Has.nil]⟩
  | r :: l, out, hl, ho, hb => by
    obtain ⟨⟨hr, hrl⟩, hl'⟩ := norm_cons.1 hl
    obtain ⟨s1, s2, s3⟩ := subOne_ok hcut ho hr (fun x hx => hb x hx r (.head _))
    obtain ⟨i1, i2⟩ := subOnes_ok hcut l (subOne cut out r) hl' s1 (fun x hx q hq => by have := s2 x hx; have := hrl q hq; omega)
    refine ⟨i1, fun n => ?_⟩
    simp only [List.foldl_cons]
    rw [i2 n, s3 n, has_cons]
    constructor
    · rintro ((q | q) | q)
      · exact .inl q
      · exact .inr ⟨.inl q.1, q.2⟩
      · exact .inr ⟨.inr q.1, q.2⟩
    · rintro (q | ⟨q | q, z⟩)
      · exact .inl (.inl q)
      · exact .inl (.inr ⟨q, z⟩)
      · exact .inr ⟨q, z⟩

theorem subtract_ok (a b : List Rng) : Norm (subtractP a b) ∧ ∀ n, Has (subtractP a b) n ↔ (Has a n ∧ ¬ Has b n) := by
  obtain ⟨h1, h2⟩ := subOnes_ok (normal_ok b).1 (normalP a) [] (normal_ok a).1 norm_nil (by simp)
  refine ⟨h1, fun n => ?_⟩
  unfold subtractP
  rw [h2 n, (normal_ok a).2 n, (normal_ok b).2 n]; simp [Has.nil]
theorem refSubtract_eq (a b : List Rng) : chooseP a b false true = subtractP a b := by
  have h := choose_ok a b false true
  refine Norm.unique _ _ h.1 (subtract_ok a b).1 fun n => ?_
  rw [h.2 n, (subtract_ok a b).2 n]
  constructor
  · rintro ⟨q, z⟩; exact ⟨z.elim id fun y => by simp at y, fun y => q ⟨rfl, y⟩⟩
  · rintro ⟨q, z⟩; exact ⟨fun y => z y.2, .inl q⟩
end Go.HL
