/- Chapter 11: the merged bad bytes are the normal form. -/
import Derived.Test.YtfnedefgepjbpaaTc
set_option linter.unusedSimpArgs false
set_option linter.unusedVariables false
set_option linter.unusedSectionVars false
namespace Go.HL
open Go
theorem stepB_snoc (init : List Rng) (last r : Rng) : stepB (init ++ [last]) r = if last.hi = r.lo then init ++ [⟨last.lo, r.hi⟩] else init ++ [last] ++ [r] := by
  have e1 : (init ++ [last]).length - 1 = init.length := by simp
  have e2 : (init ++ [last]).getD init.length default = last := by simp [List.getD_eq_getElem?_getD]
  have e3 : ∀ x, (init ++ [last]).set init.length x = init ++ [x] := fun x => by simp [List.set_append]
  unfold stepB
  rw [e1, e2, e3]
  by_cases h : last.hi = r.lo
  · rw [if_pos ⟨by simp, h⟩, if_pos h]
  · rw [if_neg (fun q => h q.2), if_neg h]
theorem merge_step {out : List Rng} {r : Rng} (hn : Norm out) (hr : r.hi.toNat = r.lo.toNat + 1) (hl : ∀ x ∈ out, x.hi.toNat ≤ r.lo.toNat) :
    Norm (stepB out r) ∧ (∀ x ∈ stepB out r, x.hi.toNat ≤ r.hi.toNat) ∧ ∀ n, Has (stepB out r) n ↔ Has out n ∨ (r.lo.toNat ≤ n ∧ n < r.hi.toNat) := by
  rcases List.eq_nil_or_concat out with rfl | ⟨init, last, rfl⟩
  · have e : stepB [] r = [r] := by simp [stepB]
    rw [e]
    refine ⟨⟨by simp, fun x hx => by simp at hx; subst hx; omega⟩, fun x hx => by simp at hx; subst hx; exact Nat.le_refl _, fun n => ?_⟩
    simp [Has]
  · rw [List.concat_eq_append] at *
    have h1 := hl last (by simp)
    have hp := List.pairwise_append.1 hn.1
    have hlast := hn.2 last (by simp)
    rw [stepB_snoc]
    split
    · rename_i he
      have he' : last.hi.toNat = r.lo.toNat := congrArg UInt32.toNat he
      refine ⟨⟨List.pairwise_append.2 ⟨hp.1, by simp, fun x hx y hy => ?_⟩, fun x hx => ?_⟩, fun x hx => ?_, fun n => ?_⟩
      · simp at hy; subst hy; exact hp.2.2 x hx last (by simp)
      · rcases List.mem_append.1 hx with hx | hx
        · exact hn.2 x (by simp [hx])
        · simp at hx; subst hx; show last.lo.toNat < r.hi.toNat; omega
      · rcases List.mem_append.1 hx with hx | hx
        · have := hl x (by simp [hx]); omega
        · simp at hx; subst hx; exact Nat.le_refl _
      · simp only [Has, List.mem_append, List.mem_singleton]
        constructor
        · rintro ⟨x, hx | rfl, q1, q2⟩
          · exact .inl ⟨x, .inl hx, q1, q2⟩
          · have q1' : last.lo.toNat ≤ n := q1
            have q2' : n < r.hi.toNat := q2
            by_cases c : n < last.hi.toNat
            · exact .inl ⟨last, .inr rfl, q1', c⟩
            · exact .inr ⟨by omega, q2'⟩
        · rintro (⟨x, hx | rfl, q1, q2⟩ | ⟨q1, q2⟩)
          · exact ⟨x, .inl hx, q1, q2⟩
          · exact ⟨_, .inr rfl, q1, by show n < r.hi.toNat; omega⟩
          · exact ⟨_, .inr rfl, by show last.lo.toNat ≤ n; omega, q2⟩
    · rename_i he
      have he' : last.hi.toNat < r.lo.toNat := by
        have : last.hi.toNat ≠ r.lo.toNat := fun q => he (UInt32.toNat_inj.1 q)
        omega
      refine ⟨⟨List.pairwise_append.2 ⟨hn.1, by simp, fun x hx y hy => ?_⟩, fun x hx => ?_⟩, fun x hx => ?_, fun n => ?_⟩
      · simp at hy; subst hy
        rcases List.mem_append.1 hx with hx | hx
        · have := hp.2.2 x hx last (by simp); omega
        · simp at hx; subst hx; exact he'
      · rcases List.mem_append.1 hx with hx | hx
        · exact hn.2 x hx
        · simp at hx; subst hx; omega
      · rcases List.mem_append.1 hx with hx | hx
        · have := hl x hx; omega
        · simp at hx; subst hx; exact Nat.le_refl _
      · simp only [Has, List.mem_append, List.mem_singleton]
        constructor
        · rintro ⟨x, hx | rfl, q1, q2⟩
          · exact .inl ⟨x, hx, q1, q2⟩
          · exact .inr ⟨q1, q2⟩
        · rintro (⟨x, hx, q1, q2⟩ | ⟨q1, q2⟩)
          · exact ⟨x, .inl hx, q1, q2⟩
          · exact ⟨_, .inr rfl, q1, q2⟩
theorem merge_ok : ∀ (rs out : List Rng), Norm out → (∀ r ∈ rs, r.hi.toNat = r.lo.toNat + 1) → rs.Pairwise (fun x y => x.lo.toNat < y.lo.toNat) → (∀ x ∈ out, ∀ r ∈ rs, x.hi.toNat ≤ r.lo.toNat) →
    Norm (rs.foldl stepB out) ∧ ∀ n, Has (rs.foldl stepB out) n ↔ Has out n ∨ Has rs n
  | [], out, hn, _, _, _ => ⟨hn, fun n => by simp [Has]⟩
  | r :: t, out, hn, h1, h2, h3 => by
    have hp := List.pairwise_cons.1 h2
    have hr := h1 r (.head _)
    obtain ⟨k1, k2, k3⟩ := merge_step hn hr (fun x hx => h3 x hx r (.head _))
    obtain ⟨m1, m2⟩ := merge_ok t (stepB out r) k1 (fun x hx => h1 x (.tail _ hx)) hp.2 (fun x hx q hq => by
      have := k2 x hx
      have := hp.1 q hq
      omega)
    refine ⟨m1, fun n => ?_⟩
    show Has (t.foldl stepB (stepB out r)) n ↔ _
    rw [m2, k3]
    simp only [Has, List.mem_cons]
    constructor
    · rintro ((q | q) | ⟨x, hx, q⟩)
      · exact .inl q
      · exact .inr ⟨r, .inl rfl, q⟩
      · exact .inr ⟨x, .inr hx, q⟩
    · rintro (q | ⟨x, rfl | hx, q⟩)
      · exact .inl (.inl q)
      · exact .inl (.inr q)
      · exact .inr ⟨x, hx, q⟩
theorem merge_normal {rs : List Rng} (h1 : ∀ r ∈ rs, r.hi.toNat = r.lo.toNat + 1) (h2 : rs.Pairwise fun x y => x.lo.toNat < y.lo.toNat) : mergeB rs = normalP rs := by
  obtain ⟨k1, k2⟩ := merge_ok rs [] ⟨by simp, fun x hx => by cases hx⟩ h1 h2 (fun x hx => by cases hx)
  obtain ⟨m1, m2⟩ := normal_ok rs
  refine Norm.unique _ _ k1 m1 fun n => ?_
  rw [m2]
  show Has (rs.foldl stepB []) n ↔ _
  rw [k2]
  simp [Has]
theorem bad_normal (l : List SecV) (from_ to_ : UInt32) : mergeB (badP l to_ (posP l from_ to_)) = normalP (badP l to_ (posP l from_ to_)) := by
  obtain ⟨k1, k2⟩ := posF_spec (l := l) (to_ := to_) (normal_ok (l.map spaceP)).1 4294967296 from_
  have hto := to_.toNat_lt
  refine merge_normal (fun r hr => ?_) ?_
  · obtain ⟨p, hp, rfl⟩ := List.mem_map.1 hr
    have hlt := UInt32.lt_iff_toNat_lt.1 (k2 p (List.mem_filter.1 hp).1).2.2
    show (p + 1).toNat = p.toNat + 1
    rw [UInt32.toNat_add, show (1 : UInt32).toNat = 1 from rfl]; omega
  · unfold badP
    rw [List.pairwise_map]
    have := List.pairwise_map.1 k1
    exact this.filter _
end Go.HL

namespace Go.HL
open Go
def larg11 (l : List SecV) : Bool := decide (20 < l.length) || decide (20000 < totB l)
theorem totB_succ {l : List SecV} {k : Nat} (h : k < l.length) : totB (l.take (k + 1)) = totB (l.take k) + (l.getD k default).data.length := by
  unfold totB
  rw [take_succ h, List.map_append, List.sum_append]; simp
theorem totB_take (l : List SecV) (k : Nat) : totB (l.take k) ≤ totB l := by
  have : totB l = totB (l.take k) + totB (l.drop k) := by
    unfold totB
    rw [← List.sum_append, ← List.map_append, List.take_append_drop]
  omega
theorem totB_mem {l : List SecV} {s : SecV} (h : s ∈ l) : s.data.length ≤ totB l := by
  induction l with
  | nil => cases h
  | cons x t ih =>
    have e : totB (x :: t) = x.data.length + totB t := by simp [totB]
    rcases List.mem_cons.1 h with rfl | h
    · omega
    · have := ih h; omega
theorem larg11_no {l : List SecV} (h : larg11 l = false) : SecB l ∧ totB l ≤ 20000 := by
  simp only [larg11, Bool.or_eq_false_iff, decide_eq_false_iff_not] at h
  exact ⟨⟨by omega, fun s hs => by have := totB_mem hs; omega⟩, by omega⟩
end Go.HL
