/- Chapter 11: the program's next address is the reference's. -/
import Derived.Test.YtfnedefgepjbpaaTb
set_option linter.unusedSimpArgs false
set_option linter.unusedVariables false
set_option linter.unusedSectionVars false
namespace Go.HL
open Go
theorem nxt_spec : ∀ {rs : List Rng} {a : UInt32}, Norm rs →
    (∀ b, nxtP rs a = some b → Has rs b.toNat ∧ a.toNat ≤ b.toNat ∧ ∀ n, a.toNat ≤ n → Has rs n → b.toNat ≤ n) ∧ (nxtP rs a = none → ∀ n, a.toNat ≤ n → ¬ Has rs n)
  | [], a, _ => ⟨fun b h => by simp [nxtP] at h, fun _ n _ ⟨r, hr, _⟩ => by cases hr⟩
  | r :: t, a, hn => by
    have h1 := List.pairwise_cons.1 hn.1
    have hr := hn.2 r (.head _)
    have ht : Norm t := ⟨h1.2, fun x hx => hn.2 x (.tail _ hx)⟩
    obtain ⟨k1, k2⟩ := nxt_spec (a := a) ht
    unfold nxtP
    by_cases c : a < r.hi
    · rw [if_pos c]
      rw [UInt32.lt_iff_toNat_lt] at c
      refine ⟨fun b h => ?_, fun h => by cases h⟩
      cases h
      have hb : (if a < r.lo then r.lo else a).toNat = max a.toNat r.lo.toNat := by
        split
        · rename_i q; rw [UInt32.lt_iff_toNat_lt] at q; omega
        · rename_i q; rw [UInt32.lt_iff_toNat_lt] at q; omega
      rw [hb]
      refine ⟨⟨r, .head _, by omega, by omega⟩, by omega, fun n h2 ⟨x, hx, q1, q2⟩ => ?_⟩
      rcases List.mem_cons.1 hx with rfl | hx
      · omega
      · have := h1.1 x hx; omega
    · rw [if_neg c]
      rw [UInt32.lt_iff_toNat_lt] at c
      refine ⟨fun b h => ?_, fun h n h2 ⟨x, hx, q1, q2⟩ => ?_⟩
      · obtain ⟨⟨x, hx, q1, q2⟩, q3, q4⟩ := k1 b h
        refine ⟨⟨x, .tail _ hx, q1, q2⟩, q3, fun n h2 ⟨y, hy, p1, p2⟩ => ?_⟩
        rcases List.mem_cons.1 hy with rfl | hy
        · omega
        · exact q4 n h2 ⟨y, hy, p1, p2⟩
      · rcases List.mem_cons.1 hx with rfl | hx
        · omega
        · exact k2 h n h2 ⟨x, hx, q1, q2⟩
/-- The reference's next address. -/
theorem next_link (l : List SecV) (a : UInt32) : nextR l a.toNat = match nxtP (normalP (l.map spaceP)) a with | some b => (b.toNat : Int) | none => -1 := by
  obtain ⟨hn, hh⟩ := normal_ok (l.map spaceP)
  obtain ⟨k1, k2⟩ := nxt_spec (a := a) hn
  obtain ⟨q1, q2, _, q4⟩ := nextR_spec (a := (a.toNat : Int)) (by omega) l (-1) (.inl rfl)
  have e : nextR l a.toNat = l.foldl (stepR a.toNat) (-1) := rfl
  rw [e]
  generalize l.foldl (stepR (a.toNat : Int)) (-1) = r at q1 q2 q4 ⊢
  have hr : r ≠ -1 → Has (normalP (l.map spaceP)) r.toNat ∧ (a.toNat : Int) ≤ r := fun hne => by
    rcases q2 with q2 | ⟨s, hs, q2, q3⟩
    · exact absurd q2 hne
    · have h1 : (a.toNat : Int) ≤ lowR a.toNat s ∧ (s.addr.toNat : Int) ≤ lowR a.toNat s := by unfold lowR; split <;> omega
      refine ⟨(hh _).2 (has_space.2 ⟨s, hs, by omega, by omega⟩), by omega⟩
  cases hq : nxtP (normalP (l.map spaceP)) a with
  | none =>
    show r = -1
    refine Decidable.byContradiction fun hne => ?_
    obtain ⟨h1, h2⟩ := hr hne
    exact k2 hq _ (by omega) h1
  | some b =>
    show r = (b.toNat : Int)
    obtain ⟨b1, b2, b3⟩ := k1 b hq
    obtain ⟨s, hs, s1, s2⟩ := has_space.1 ((hh _).1 b1)
    have hl : lowR a.toNat s ≤ b.toNat := by unfold lowR; split <;> omega
    obtain ⟨h0, h1⟩ := q4 s hs (by omega)
    have := b3 r.toNat (by have := (hr (by omega)).2; omega) (hr (by omega)).1
    omega
end Go.HL

/-! ### how many addresses a sweep has -/
namespace Go.HL
open Go
theorem inc_len : ∀ (ps : List Nat) (lo hi : Nat), ps.Pairwise (· < ·) → (∀ p ∈ ps, lo ≤ p ∧ p < hi) → ps.length ≤ hi - lo
  | [], _, _, _, _ => Nat.zero_le _
  | x :: t, lo, hi, h, hb => by
    have h1 := List.pairwise_cons.1 h
    have := inc_len t (x + 1) hi h1.2 (fun p hp => ⟨h1.1 p hp, (hb p (.tail _ hp)).2⟩)
    have := hb x (.head _)
    simp only [List.length_cons]; omega
theorem filter_two (p : Nat → Bool) : ∀ l : List Nat, (l.filter p).length + (l.filter fun x => !p x).length = l.length
  | [] => rfl
  | x :: t => by
    have := filter_two p t
    cases h : p x <;> simp [List.filter_cons, h] <;> omega
def totB (l : List SecV) : Nat := (l.map fun s => s.data.length).sum
theorem cov_len : ∀ (l : List SecV) (ps : List Nat), ps.Pairwise (· < ·) → (∀ p ∈ ps, ∃ s ∈ l, s.addr.toNat ≤ p ∧ (p : Int) < endP s) → ps.length ≤ totB l
  | [], ps, _, h => by
    cases ps with
    | nil => exact Nat.zero_le _
    | cons p t => obtain ⟨s, hs, _⟩ := h p (.head _); cases hs
  | s :: l, ps, hi, h => by
    have h1 := filter_two (fun p => decide (s.addr.toNat ≤ p ∧ (p : Int) < endP s)) ps
    have h2 := inc_len (ps.filter fun p => decide (s.addr.toNat ≤ p ∧ (p : Int) < endP s)) s.addr.toNat (endP s).toNat (hi.filter _) (fun p hp => by
      have := of_decide_eq_true (List.mem_filter.1 hp).2
      omega)
    have h3 := cov_len l (ps.filter fun p => !decide (s.addr.toNat ≤ p ∧ (p : Int) < endP s)) (hi.filter _) (fun p hp => by
      obtain ⟨q1, q2⟩ := List.mem_filter.1 hp
      obtain ⟨x, hx, q3⟩ := h p q1
      rcases List.mem_cons.1 hx with rfl | hx
      · simp [q3] at q2
      · exact ⟨x, hx, q3⟩)
    have he : endP s ≤ (s.addr.toNat : Int) + s.data.length := by unfold endP; omega
    have ht : totB (s :: l) = s.data.length + totB l := by simp [totB]
    rw [ht]; omega
theorem posF_spec {l : List SecV} {rs : List Rng} {to_ : UInt32} (hn : Norm rs) : ∀ (f : Nat) (a : UInt32), ((posF l rs to_ f a).map UInt32.toNat).Pairwise (· < ·) ∧ ∀ p ∈ posF l rs to_ f a, a.toNat ≤ p.toNat ∧ Has rs p.toNat ∧ p < to_
  | 0, a => ⟨by simp [posF], fun p hp => by cases hp⟩
  | f + 1, a => by
    cases hq : nxtP rs a with
    | none => rw [posF_stop hq]; exact ⟨by simp, fun p hp => by cases hp⟩
    | some b =>
      by_cases hb : b < to_
      · rw [posF_go hq hb]
        obtain ⟨k1, k2⟩ := posF_spec hn f (b + szW l to_ b)
        obtain ⟨s1, s2⟩ := step_pos l to_ b hb
        obtain ⟨b1, b2, _⟩ := (nxt_spec (a := a) hn).1 b hq
        refine ⟨?_, fun p hp => ?_⟩
        · rw [List.map_cons, List.pairwise_cons]
          refine ⟨fun n hnm => ?_, k1⟩
          obtain ⟨p, hp, rfl⟩ := List.mem_map.1 hnm
          have := (k2 p hp).1
          omega
        · rcases List.mem_cons.1 hp with rfl | hp
          · exact ⟨b2, b1, hb⟩
          · obtain ⟨q1, q2, q3⟩ := k2 p hp
            exact ⟨by omega, q2, q3⟩
      · rw [posF_stop2 hq hb]; exact ⟨by simp, fun p hp => by cases hp⟩
theorem posP_len (l : List SecV) (from_ to_ : UInt32) : (posP l from_ to_).length ≤ totB l := by
  obtain ⟨hn, hh⟩ := normal_ok (l.map spaceP)
  obtain ⟨k1, k2⟩ := posF_spec (l := l) (to_ := to_) hn 4294967296 from_
  have := cov_len l ((posP l from_ to_).map UInt32.toNat) k1 (fun p hp => by
    obtain ⟨q, hq, rfl⟩ := List.mem_map.1 hp
    exact has_space.1 ((hh _).1 (k2 q hq).2.1))
  simpa using this
end Go.HL

/-! ### the reference's bad bytes -/
namespace Go.HL
open Go
def stepB (out : List Rng) (r : Rng) : List Rng := if 0 < out.length ∧ (out.getD (out.length - 1) default).hi = r.lo then out.set (out.length - 1) ⟨(out.getD (out.length - 1) default).lo, r.hi⟩ else out ++ [r]
def mergeB (rs : List Rng) : List Rng := rs.foldl stepB []
theorem mergeB_snoc (rs : List Rng) (r : Rng) : mergeB (rs ++ [r]) = stepB (mergeB rs) r := by simp [mergeB, List.foldl_append]
theorem stepB_len (out : List Rng) (r : Rng) : (stepB out r).length ≤ out.length + 1 := by unfold stepB; split <;> simp
theorem foldB_len : ∀ (rs out : List Rng), (rs.foldl stepB out).length ≤ out.length + rs.length
  | [], out => by simp
  | r :: t, out => by
    have h1 := foldB_len t (stepB out r)
    have h2 := stepB_len out r
    simp only [List.foldl_cons, List.length_cons]; omega
theorem mergeB_len (rs : List Rng) : (mergeB rs).length ≤ rs.length := by have := foldB_len rs []; simpa [mergeB] using this
theorem has_find {l : List SecV} {b : UInt32} (h : Has (normalP (l.map spaceP)) b.toNat) : 0 ≤ findP l b := by
  have h1 := finds_ok l b
  obtain ⟨r, hr, q1, q2⟩ := h
  have h2 : (normalP (l.map spaceP)).any (inR b) = true := List.any_eq_true.2 ⟨r, hr, by
    simp only [inR, Bool.and_eq_true, decide_eq_true_eq, UInt32.le_iff_toNat_le, UInt32.lt_iff_toNat_lt]; exact ⟨q1, q2⟩⟩
  rw [h2] at h1
  exact of_decide_eq_true h1.symm
theorem u32_succ {b t : UInt32} (h : b < t) : u32 ((b.toNat : Int) + 1) = b + 1 := by
  have ht := t.toNat_lt
  rw [UInt32.lt_iff_toNat_lt] at h
  have e := u32_val (n := (b.toNat : Int) + 1) (by omega)
  apply UInt32.toNat_inj.1
  rw [UInt32.toNat_add, show (1 : UInt32).toNat = 1 from rfl]
  omega
theorem sz_ok {l : List SecV} {to_ b : UInt32} (h : (decP (winP l b to_) b).2 = 0) : ((szW l to_ b).toNat : Int) = (decP (winP l b to_) b).1.size := by
  have hd := dec_size h
  have hw := win_len l b to_
  unfold szW
  rw [if_pos (show okW l to_ b = true from decide_eq_true h)]
  exact u32_val (by unfold decW; omega)
theorem sz_bad {l : List SecV} {to_ b : UInt32} (h : ¬ (decP (winP l b to_) b).2 = 0) : (szW l to_ b).toNat = 1 := by
  unfold szW
  rw [if_neg (show ¬ okW l to_ b = true from fun q => h (of_decide_eq_true q))]; rfl
end Go.HL
