/- The reference of chapter 02 gives the normal lists. -/
import Derived.Test.YtfnedefgepjbpaaMc
set_option linter.unusedSimpArgs false
set_option linter.unusedVariables false
namespace Go.HL
open Go Go.Sort

def SA (l : List UInt32) : Prop := l.Pairwise fun x y => x.toNat < y.toNat
def okU (out : List UInt32) (x : UInt32) : Prop := (out.length : Int) = 0 ∨ lastU out < x
theorem scan_ok (out : List UInt32) : ∀ (l : List UInt32) (s : UInt32 × Bool),
    ((l.foldl (scanStep out) s).2 = false → s.2 = false ∧ ∀ x ∈ l, ¬ okU out x) ∧
    ((l.foldl (scanStep out) s).2 = true → ((s.2 = true ∧ (l.foldl (scanStep out) s).1 = s.1) ∨ ((l.foldl (scanStep out) s).1 ∈ l ∧ okU out (l.foldl (scanStep out) s).1)) ∧
      (∀ x ∈ l, okU out x → (l.foldl (scanStep out) s).1.toNat ≤ x.toNat) ∧ (s.2 = true → (l.foldl (scanStep out) s).1.toNat ≤ s.1.toNat))
  | [], s => by
    refine ⟨fun h => ⟨h, by simp⟩, fun h => ⟨.inl ⟨h, rfl⟩, by simp, fun _ => Nat.le_refl _⟩⟩
  | y :: l, s => by
    have ih := scan_ok out l (scanStep out s y)
    simp only [List.foldl_cons]
    generalize l.foldl (scanStep out) (scanStep out s y) = r at ih ⊢
    by_cases hc : ((out.length : Int) = 0 ∨ lastU out < y) ∧ (s.2 = false ∨ y < s.1)
    · have e : scanStep out s y = (y, true) := by rw [scanStep, if_pos hc]
      rw [e] at ih
      refine ⟨fun h => absurd (ih.1 h).1 (by simp), fun h => ?_⟩
      obtain ⟨i1, i2, i3⟩ := ih.2 h
      have i3' := i3 rfl
      dsimp only at i3'
      refine ⟨.inr ?_, fun x hx ho => ?_, fun hs => ?_⟩
      · rcases i1 with ⟨_, i1⟩ | ⟨i1, i4⟩
        · dsimp only at i1; rw [i1]; exact ⟨.head _, hc.1⟩
        · exact ⟨.tail _ i1, i4⟩
      · rcases List.mem_cons.1 hx with rfl | hx
        · exact i3'
        · exact i2 x hx ho
      · rcases hc.2 with h2 | h2
        · rw [h2] at hs; simp at hs
        · rw [UInt32.lt_iff_toNat_lt] at h2; omega
    · have e : scanStep out s y = s := by rw [scanStep, if_neg hc]
      rw [e] at ih
      refine ⟨fun h => ?_, fun h => ?_⟩
      · obtain ⟨i1, i2⟩ := ih.1 h
        refine ⟨i1, fun x hx ho => ?_⟩
        rcases List.mem_cons.1 hx with rfl | hx
        · exact hc ⟨ho, .inl i1⟩
        · exact i2 x hx ho
      · obtain ⟨i1, i2, i3⟩ := ih.2 h
        refine ⟨i1.imp id fun q => ⟨.tail _ q.1, q.2⟩, fun x hx ho => ?_, i3⟩
        rcases List.mem_cons.1 hx with rfl | hx
        · have h2 : ¬ (s.2 = false ∨ x < s.1) := fun q => hc ⟨ho, q⟩
          cases hs : s.2 with
          | false => exact absurd (.inl hs) h2
          | true =>
            have := i3 hs
            have h3 : ¬ x < s.1 := fun q => h2 (.inr q)
            rw [UInt32.lt_iff_toNat_lt] at h3; omega
        · exact i2 x hx ho

theorem lastU_append (pre : List UInt32) (x : UInt32) : lastU (pre ++ [x]) = x := by
  unfold lastU
  rw [show (((pre ++ [x]).length : Int) - 1).toNat = pre.length by simp]
  simp [List.getD_eq_getElem?_getD]
theorem le_lastU {out : List UInt32} (h : SA out) {x : UInt32} (hx : x ∈ out) : x.toNat ≤ (lastU out).toNat := by
  rcases List.eq_nil_or_concat out with rfl | ⟨pre, y, rfl⟩
  · simp at hx
  · rw [List.concat_eq_append] at *
    rw [lastU_append]
    rcases List.mem_append.1 hx with hx | hx
    · exact Nat.le_of_lt ((List.pairwise_append.1 h).2.2 x hx y (.head _))
    · simp only [List.mem_singleton] at hx; rw [hx]; exact Nat.le_refl _
theorem all_in : ∀ (out all : List UInt32), out.Nodup → (∀ x ∈ out, x ∈ all) → all.length ≤ out.length → ∀ x ∈ all, x ∈ out
  | [], all, _, _, hl, x, hx => by
    have : all = [] := List.length_eq_zero_iff.1 (by simpa using hl)
    rw [this] at hx; exact hx
  | y :: out, all, hn, hs, hl, x, hx => by
    rw [List.nodup_cons] at hn
    have hy := hs y (.head _)
    by_cases h : x = y
    · rw [h]; exact .head _
    · refine .tail _ (all_in out (all.erase y) hn.2 (fun z hz => ?_) ?_ x ((List.mem_erase_of_ne h).2 hx))
      · exact (List.mem_erase_of_ne (fun e => hn.1 (by rw [← e]; exact hz))).2 (hs z (.tail _ hz))
      · rw [List.length_erase_of_mem hy]; simp at hl; omega
theorem SA.nodup {l : List UInt32} (h : SA l) : l.Nodup := h.imp fun {a b} q e => by rw [e] at q; omega

theorem boundsF_ok (all : List UInt32) : ∀ (n : Nat) (out : List UInt32), all.length ≤ out.length + n → SA out → (∀ x ∈ out, x ∈ all) → (∀ x ∈ all, ¬ okU out x → x ∈ out) →
    SA (boundsF all n out) ∧ ∀ x, x ∈ boundsF all n out ↔ x ∈ all
  | 0, out, hl, hs, hi, _ => ⟨hs, fun x => ⟨hi x, all_in out all hs.nodup hi (by omega) x⟩⟩
  | n + 1, out, hl, hs, hi, ho => by
    have hsc := scan_ok out all (0, false)
    unfold boundsF
    split
    · rename_i hf
      exact ⟨hs, fun x => ⟨hi x, fun hx => ho x hx ((hsc.1 hf).2 x hx)⟩⟩
    · rename_i hf
      have ht : (scan all out).2 = true := by cases h : (scan all out).2 <;> simp_all
      obtain ⟨h1, h2, _⟩ := hsc.2 ht
      have h3 : (scan all out).1 ∈ all ∧ okU out (scan all out).1 := h1.elim (fun q => by simp at q) id
      have h2' : ∀ x ∈ all, okU out x → (scan all out).1.toNat ≤ x.toNat := h2
      generalize (scan all out).1 = b at h3 h2'
      refine boundsF_ok all n (out ++ [b]) (by simp; omega) ?_ ?_ ?_
      · refine List.pairwise_append.2 ⟨hs, List.pairwise_singleton _ _, fun x hx y hy => ?_⟩
        simp only [List.mem_singleton] at hy; subst hy
        have := le_lastU hs hx
        rcases h3.2 with h4 | h4
        · have : out = [] := List.length_eq_zero_iff.1 (by omega)
          rw [this] at hx; simp at hx
        · rw [UInt32.lt_iff_toNat_lt] at h4; omega
      · intro x hx
        rcases List.mem_append.1 hx with hx | hx
        · exact hi x hx
        · simp only [List.mem_singleton] at hx; rw [hx]; exact h3.1
      · intro x hx hn
        by_cases hk : okU out x
        · have h4 := h2' x hx hk
          have h5 : ¬ b < x := fun q => hn (.inr (by rw [lastU_append]; exact q))
          rw [UInt32.lt_iff_toNat_lt] at h5
          exact List.mem_append.2 (.inr (by rw [u32_ext (show x.toNat = b.toNat by omega)]; exact .head _))
        · exact List.mem_append.2 (.inl (ho x hx hk))

theorem bounds_ok (a b : List Rng) : SA (boundsP a b) ∧ ∀ x, x ∈ boundsP a b ↔ x ∈ pairsOf a ∨ x ∈ pairsOf b := by
  have := boundsF_ok (pairsOf a ++ pairsOf b) (pairsOf a ++ pairsOf b).length [] (by simp) List.Pairwise.nil (by simp) (fun x _ h => absurd (.inl rfl) h)
  exact ⟨this.1, fun x => (this.2 x).trans List.mem_append⟩
theorem mem_pairs {l : List Rng} {r : Rng} (h : r ∈ l) : r.lo ∈ pairsOf l ∧ r.hi ∈ pairsOf l :=
  ⟨List.mem_flatMap.2 ⟨r, h, .head _⟩, List.mem_flatMap.2 ⟨r, h, .tail _ (.head _)⟩⟩

/-- Each number between two cuts lies in one gap. -/
theorem gap : ∀ (l : List UInt32), SA l → ∀ n x y, x ∈ l → y ∈ l → x.toNat ≤ n → n < y.toNat → ∃ i, i + 1 < l.length ∧ (l.getD i default).toNat ≤ n ∧ n < (l.getD (i + 1) default).toNat
  | [], _, n, x, y, hx, _, _, _ => by simp at hx
  | [c], _, n, x, y, hx, hy, h1, h2 => by simp at hx hy; subst hx; subst hy; omega
  | c :: d :: l, h, n, x, y, hx, hy, h1, h2 => by
    have hcd := (List.pairwise_cons.1 h).1
    have hs := (List.pairwise_cons.1 h).2
    have hd := (List.pairwise_cons.1 hs).1
    by_cases hn : n < d.toNat
    · refine ⟨0, by simp, ?_, by simpa using hn⟩
      rcases List.mem_cons.1 hx with rfl | hx
      · simpa using h1
      · rcases List.mem_cons.1 hx with rfl | hx
        · omega
        · have := hd x hx; omega
    · have hy' : y ∈ d :: l := by
        rcases List.mem_cons.1 hy with rfl | hy
        · have := hcd d (.head _); omega
        · exact hy
      obtain ⟨i, q1, q2, q3⟩ := gap (d :: l) hs n d y (.head _) hy' (by omega) h2
      exact ⟨i + 1, by simpa using q1, by simpa using q2, by simpa using q3⟩
theorem SA.lt {l : List UInt32} (h : SA l) {i j : Nat} (hij : i < j) (hj : j < l.length) : (l.getD i default).toNat < (l.getD j default).toNat := by
  have := List.pairwise_iff_getElem.1 h i j (by omega) hj hij
  simpa [List.getD_eq_getElem?_getD, hj, show i < l.length by omega] using this
/-- No cut lies inside a gap. -/
theorem SA.out {l : List UInt32} (h : SA l) {i : Nat} (hi : i + 1 < l.length) {x : UInt32} (hx : x ∈ l) : x.toNat ≤ (l.getD i default).toNat ∨ (l.getD (i + 1) default).toNat ≤ x.toNat := by
  obtain ⟨j, hj, rfl⟩ := List.mem_iff_getElem.1 hx
  have e : l[j] = l.getD j default := by simp [List.getD_eq_getElem?_getD, hj]
  rw [e]
  rcases Nat.lt_trichotomy j i with h1 | rfl | h1
  · exact .inl (Nat.le_of_lt (h.lt h1 (by omega)))
  · exact .inl (Nat.le_refl _)
  · rcases Nat.lt_or_ge (i + 1) j with h2 | h2
    · exact .inr (Nat.le_of_lt (h.lt h2 hj))
    · rw [show j = i + 1 by omega]; exact .inr (Nat.le_refl _)

theorem any_inR {l : List Rng} {c : UInt32} : l.any (inR c) = true ↔ Has l c.toNat := by
  simp only [List.any_eq_true, inR, Bool.and_eq_true, decide_eq_true_eq, UInt32.le_iff_toNat_le, UInt32.lt_iff_toNat_lt, Has]

theorem chF_ok (a b : List Rng) (both without : Bool) (cuts : List UInt32) (hs : SA cuts) : ∀ k, k + 1 ≤ cuts.length → Norm (chF a b both without cuts k) ∧ (∀ x ∈ chF a b both without cuts k, x.hi.toNat ≤ (cuts.getD k default).toNat) ∧
    ∀ n, Has (chF a b both without cuts k) n ↔ ∃ i, i < k ∧ (cuts.getD i default).toNat ≤ n ∧ n < (cuts.getD (i + 1) default).toNat ∧ inC a b both without (cuts.getD i default) = true
  | 0, _ => ⟨norm_nil, by simp [chF], fun n => ⟨fun h => absurd h Has.nil, fun ⟨i, h, _⟩ => absurd h (by omega)⟩⟩
  | k + 1, hk => by
    obtain ⟨h1, h2, h3⟩ := chF_ok a b both without cuts hs k (by omega)
    have hlt := hs.lt (show k < k + 1 by omega) (by omega)
    rw [chF_succ]
    generalize chF a b both without cuts k = out at h1 h2 h3
    have hsplit : ∀ n, (∃ i, i < k + 1 ∧ (cuts.getD i default).toNat ≤ n ∧ n < (cuts.getD (i + 1) default).toNat ∧ inC a b both without (cuts.getD i default) = true) ↔
        Has out n ∨ ((cuts.getD k default).toNat ≤ n ∧ n < (cuts.getD (k + 1) default).toNat ∧ inC a b both without (cuts.getD k default) = true) := fun n => by
      rw [h3 n]
      constructor
      · rintro ⟨i, q1, q2⟩
        rcases Nat.lt_or_ge i k with h | h
        · exact .inl ⟨i, h, q2⟩
        · obtain rfl : i = k := by omega
          exact .inr q2
      · rintro (⟨i, q1, q2⟩ | q)
        · exact ⟨i, by omega, q2⟩
        · exact ⟨k, by omega, q⟩
    cases hin : inC a b both without (cuts.getD k default) with
    | false =>
      rw [chStep_no hin]
      refine ⟨h1, fun x hx => by have := h2 x hx; omega, fun n => ?_⟩
      rw [hsplit n, hin]; simp
    | true =>
      rcases List.eq_nil_or_concat out with rfl | ⟨pre, x, rfl⟩
      · rw [chStep_app hin (.inl (by simp))]
        refine ⟨norm_single.2 hlt, fun x hx => by simp at hx; subst hx; exact Nat.le_refl _, fun n => ?_⟩
        rw [hsplit n, hin, List.nil_append, has_single]; simp [Has.nil]
      · rw [List.concat_eq_append] at *
        have hx := h2 x (List.mem_append.2 (.inr (.head _)))
        obtain ⟨n1, n2, n3⟩ := norm_append.1 h1
        have n2' := norm_single.1 n2
        by_cases he : x.hi = cuts.getD k default
        · rw [chStep_set hin ⟨by simp, by rw [lastR_append]; exact he⟩, set_last, lastR_append]
          rw [he] at n2'
          refine ⟨norm_append.2 ⟨n1, norm_single.2 (by dsimp only; omega), fun p hp q hq => ?_⟩, fun p hp => ?_, fun n => ?_⟩
          · simp only [List.mem_singleton] at hq; subst hq; exact n3 p hp x (.head _)
          · rcases List.mem_append.1 hp with hp | hp
            · have := h2 p (List.mem_append.2 (.inl hp)); omega
            · simp only [List.mem_singleton] at hp; subst hp; exact Nat.le_refl _
          · rw [hsplit n, hin, has_append, has_append, has_single, has_single, he]
            constructor
            · rintro (q | q)
              · exact .inl (.inl q)
              · dsimp only at q
                by_cases h : n < (cuts.getD k default).toNat
                · exact .inl (.inr ⟨q.1, h⟩)
                · exact .inr ⟨by omega, q.2, rfl⟩
            · rintro ((q | q) | q)
              · exact .inl q
              · exact .inr ⟨q.1, by dsimp only; omega⟩
              · exact .inr ⟨by dsimp only; omega, q.2.1⟩
        · have hne : x.hi.toNat ≠ (cuts.getD k default).toNat := fun e => he (u32_ext e)
          rw [chStep_app hin (.inr (by rw [lastR_append]; exact he))]
          refine ⟨norm_append.2 ⟨h1, norm_single.2 hlt, fun p hp q hq => ?_⟩, fun p hp => ?_, fun n => ?_⟩
          · simp only [List.mem_singleton] at hq; subst hq
            rcases List.mem_append.1 hp with hp | hp
            · have := n3 p hp x (.head _); dsimp only; omega
            · simp only [List.mem_singleton] at hp; subst hp; dsimp only; omega
          · rcases List.mem_append.1 hp with hp | hp
            · have := h2 p hp; omega
            · simp only [List.mem_singleton] at hp; subst hp; exact Nat.le_refl _
          · rw [hsplit n, hin, has_append, has_single]; simp

/-- choose: a normal list of what it says. -/
theorem choose_ok (a b : List Rng) (both without : Bool) : Norm (chooseP a b both without) ∧
    ∀ n, Has (chooseP a b both without) n ↔ (¬ (without = true ∧ Has b n) ∧ (Has a n ∨ both = true ∧ Has b n)) := by
  obtain ⟨hs, hm⟩ := bounds_ok a b
  unfold chooseP
  generalize boundsP a b = cuts at hs hm
  have hin : ∀ i n, i + 1 < cuts.length → (cuts.getD i default).toNat ≤ n → n < (cuts.getD (i + 1) default).toNat → (∀ l, (l = a ∨ l = b) → (Has l (cuts.getD i default).toNat ↔ Has l n)) := by
    intro i n hi h1 h2 l hl
    have hmem : ∀ r ∈ l, r.lo ∈ cuts ∧ r.hi ∈ cuts := fun r hr => by
      have := mem_pairs hr
      rcases hl with rfl | rfl
      · exact ⟨(hm _).2 (.inl this.1), (hm _).2 (.inl this.2)⟩
      · exact ⟨(hm _).2 (.inr this.1), (hm _).2 (.inr this.2)⟩
    constructor
    · rintro ⟨r, hr, q1, q2⟩
      have := hs.out hi (hmem r hr).1; have := hs.out hi (hmem r hr).2
      exact ⟨r, hr, by omega, by omega⟩
    · rintro ⟨r, hr, q1, q2⟩
      have := hs.out hi (hmem r hr).1; have := hs.out hi (hmem r hr).2
      exact ⟨r, hr, by omega, by omega⟩
  have hC : ∀ i n, i + 1 < cuts.length → (cuts.getD i default).toNat ≤ n → n < (cuts.getD (i + 1) default).toNat → (inC a b both without (cuts.getD i default) = true ↔ (¬ (without = true ∧ Has b n) ∧ (Has a n ∨ both = true ∧ Has b n))) := by
    intro i n hi h1 h2
    rw [← hin i n hi h1 h2 a (.inl rfl), ← hin i n hi h1 h2 b (.inr rfl), ← any_inR, ← any_inR]
    unfold inC
    cases without <;> cases both <;> cases a.any (inR (cuts.getD i default)) <;> cases b.any (inR (cuts.getD i default)) <;> simp
  have hgap : ∀ n l, (l = a ∨ l = b) → Has l n → ∃ i, i + 1 < cuts.length ∧ (cuts.getD i default).toNat ≤ n ∧ n < (cuts.getD (i + 1) default).toNat := by
    rintro n l hl ⟨r, hr, q1, q2⟩
    have := mem_pairs hr
    refine gap cuts hs n r.lo r.hi ?_ ?_ q1 q2
    · rcases hl with rfl | rfl
      · exact (hm _).2 (.inl this.1)
      · exact (hm _).2 (.inr this.1)
    · rcases hl with rfl | rfl
      · exact (hm _).2 (.inl this.2)
      · exact (hm _).2 (.inr this.2)
  by_cases h0 : cuts.length = 0
  · have e : cuts.length - 1 = 0 := by omega
    rw [e]
    refine ⟨norm_nil, fun n => ⟨fun h => absurd h Has.nil, fun ⟨_, h⟩ => ?_⟩⟩
    rcases h with h | ⟨_, h⟩
    · obtain ⟨i, hi, _⟩ := hgap n a (.inl rfl) h; omega
    · obtain ⟨i, hi, _⟩ := hgap n b (.inr rfl) h; omega
  · obtain ⟨c1, _, c3⟩ := chF_ok a b both without cuts hs (cuts.length - 1) (by omega)
    refine ⟨c1, fun n => ?_⟩
    rw [c3 n]
    constructor
    · rintro ⟨i, q1, q2, q3, q4⟩
      exact (hC i n (by omega) q2 q3).1 q4
    · intro q
      have hg : ∃ i, i + 1 < cuts.length ∧ (cuts.getD i default).toNat ≤ n ∧ n < (cuts.getD (i + 1) default).toNat :=
        q.2.elim (hgap n a (.inl rfl)) (fun z => hgap n b (.inr rfl) z.2)
      obtain ⟨i, g1, g2, g3⟩ := hg
      exact ⟨i, by omega, g2, g3, (hC i n g1 g2 g3).2 q⟩

theorem refNormal_eq (l : List Rng) : chooseP l [] false false = normalP l := by
  have h := choose_ok l [] false false
  refine Norm.unique _ _ h.1 (normal_ok l).1 fun n => ?_
  rw [h.2 n, (normal_ok l).2 n]; simp
theorem refUnion_eq (a b : List Rng) : chooseP a b true false = normalP (a ++ b) := by
  have h := choose_ok a b true false
  refine Norm.unique _ _ h.1 (normal_ok _).1 fun n => ?_
  rw [h.2 n, (normal_ok _).2 n, has_append]; simp
end Go.HL
