/- A stable sort that merges in place: plain laws over lists and places. -/
import Derived.Test.YtfmhhakhbopfdaaHw
set_option linter.unusedSimpArgs false
set_option linter.unusedVariables false
set_option linter.unusedSectionVars false
namespace Go.HL
section
variable {α : Type} [Inhabited α]

structure WO (lt : α → α → Bool) : Prop where
  irr : ∀ x, lt x x = false
  tr : ∀ x y z, lt x y = true → lt y z = true → lt x z = true
  ntr : ∀ x y z, lt x y = false → lt y z = false → lt x z = false
theorem WO.asym {lt : α → α → Bool} (h : WO lt) {x y : α} (e : lt x y = true) : lt y x = false := by
  cases e2 : lt y x
  · rfl
  · have := h.tr _ _ _ e e2; rw [h.irr] at this; cases this
/-- x < y ≤ z -/
theorem WO.lt_le {lt : α → α → Bool} (h : WO lt) {x y z : α} (e : lt x y = true) (e2 : lt z y = false) : lt x z = true := by
  cases e3 : lt x z
  · rw [h.ntr _ _ _ e3 e2] at e; cases e
  · rfl
/-- x ≤ y < z -/
theorem WO.le_lt {lt : α → α → Bool} (h : WO lt) {x y z : α} (e : lt y x = false) (e2 : lt y z = true) : lt x z = true := by
  cases e3 : lt x z
  · rw [h.ntr _ _ _ e e3] at e2; cases e2
  · rfl

def eqv (lt : α → α → Bool) (z x : α) : Bool := !lt z x && !lt x z
/-- The same elements; those that the order holds equal in their old order. -/
def Stab (lt : α → α → Bool) (l l' : List α) : Prop := l.Perm l' ∧ ∀ z, l.filter (eqv lt z) = l'.filter (eqv lt z)
theorem Stab.refl (lt : α → α → Bool) (l : List α) : Stab lt l l := ⟨.refl _, fun _ => rfl⟩
theorem Stab.trans {lt : α → α → Bool} {a b c : List α} (h : Stab lt a b) (k : Stab lt b c) : Stab lt a c := ⟨h.1.trans k.1, fun z => (h.2 z).trans (k.2 z)⟩
theorem Stab.len {lt : α → α → Bool} {a b : List α} (h : Stab lt a b) : b.length = a.length := h.1.length_eq.symm
theorem Stab.symm {lt : α → α → Bool} {a b : List α} (h : Stab lt a b) : Stab lt b a := ⟨h.1.symm, fun z => (h.2 z).symm⟩

theorem filter_nil_or {lt : α → α → Bool} (h : WO lt) {X Y : List α} (hc : ∀ x ∈ X, ∀ y ∈ Y, lt y x = true) (z : α) : X.filter (eqv lt z) = [] ∨ Y.filter (eqv lt z) = [] := by
  cases hX : X.filter (eqv lt z) with
  | nil => exact .inl rfl
  | cons x t =>
    refine .inr ?_
    rw [List.filter_eq_nil_iff]
    intro y hy he
    have hx : x ∈ X.filter (eqv lt z) := by rw [hX]; exact .head _
    obtain ⟨hx1, hx2⟩ := List.mem_filter.1 hx
    simp only [eqv, Bool.and_eq_true, Bool.not_eq_true'] at he hx2
    have := hc x hx1 y hy
    rw [h.ntr _ _ _ he.2 hx2.1] at this
    cases this
theorem Stab.swap {lt : α → α → Bool} (h : WO lt) (P X Y S : List α) (hc : ∀ x ∈ X, ∀ y ∈ Y, lt y x = true) : Stab lt (P ++ (X ++ (Y ++ S))) (P ++ (Y ++ (X ++ S))) := by
  refine ⟨List.Perm.append_left _ (by rw [← List.append_assoc, ← List.append_assoc]; exact List.perm_append_comm.append_right _), fun z => ?_⟩
  simp only [List.filter_append]
  rcases filter_nil_or h hc z with e | e <;> rw [e] <;> simp

/-- Sorted lists with the same elements, equal ones in the same order, are the same. -/
theorem stab_uniq {lt : α → α → Bool} (h : WO lt) : ∀ (l l' : List α), Stab lt l l' → l.Pairwise (fun x y => lt y x = false) → l'.Pairwise (fun x y => lt y x = false) → l = l'
  | [], l', s, _, _ => by have := s.len; simp at this; exact this.symm
  | x :: t, [], s, _, _ => by have := s.len; simp at this
  | x :: t, y :: t', s, h1, h2 => by
    rw [List.pairwise_cons] at h1 h2
    have hxy : lt x y = false := by
      have : x ∈ y :: t' := s.1.subset (.head _)
      rcases List.mem_cons.1 this with rfl | hm
      · exact h.irr _
      · exact h2.1 _ hm
    have hyx : lt y x = false := by
      have : y ∈ x :: t := s.1.symm.subset (.head _)
      rcases List.mem_cons.1 this with rfl | hm
      · exact h.irr _
      · exact h1.1 _ hm
    have ex : x = y := by
      have := s.2 x
      rw [List.filter_cons_of_pos (by simp [eqv, h.irr]), List.filter_cons_of_pos (by simp [eqv, hxy, hyx])] at this
      exact (List.cons.inj this).1
    subst ex
    have st : Stab lt t t' := ⟨(List.perm_cons x).1 s.1, fun z => by
      have := s.2 z
      simp only [List.filter_cons] at this
      split at this
      · exact (List.cons.inj this).2
      · exact this⟩
    rw [stab_uniq h t t' st h1.2 h2.2]

/-! ### places moved -/
def mp (f : Nat → Nat) (l : List α) : List α := (List.range l.length).map fun k => l.getD (f k) default
theorem mp_len (f : Nat → Nat) (l : List α) : (mp f l).length = l.length := by simp [mp]
theorem mp_at {f : Nat → Nat} {l : List α} {k : Nat} (h : k < l.length) : (mp f l).getD k default = l.getD (f k) default := by
  simp [mp, List.getD_eq_getElem?_getD, h]
theorem ext_at {l l' : List α} (h : l.length = l'.length) (e : ∀ k, k < l.length → l.getD k default = l'.getD k default) : l = l' := by
  refine List.ext_getElem h fun k h1 h2 => ?_
  have := e k h1
  simpa [List.getD_eq_getElem?_getD, h1, h2] using this
theorem mp_id {f : Nat → Nat} {l : List α} (h : ∀ k, k < l.length → f k = k) : mp f l = l :=
  ext_at (mp_len _ _) fun k hk => by rw [mp_len] at hk; rw [mp_at hk, h k hk]
theorem mp_mp {f g k : Nat → Nat} {l : List α} (h : ∀ x, x < l.length → f x < l.length) (e : ∀ x, x < l.length → g (f x) = k x) : mp f (mp g l) = mp k l :=
  ext_at (by simp [mp_len]) fun x hx => by
    rw [mp_len, mp_len] at hx
    rw [mp_at (by rw [mp_len]; exact hx), mp_at (h x hx), mp_at hx, e x hx]
theorem mp_congr {f g : Nat → Nat} {l : List α} (e : ∀ x, x < l.length → f x = g x) : mp f l = mp g l :=
  ext_at (by simp [mp_len]) fun x hx => by rw [mp_len] at hx; rw [mp_at hx, mp_at hx, e x hx]

def swF (p q k : Nat) : Nat := if k = p then q else if k = q then p else k
def swR (a b n k : Nat) : Nat := if a ≤ k ∧ k < a + n then k - a + b else if b ≤ k ∧ k < b + n then k - b + a else k
def rotF (lo m hi k : Nat) : Nat := if lo ≤ k ∧ k < lo + (hi - m) then k + (m - lo) else if lo + (hi - m) ≤ k ∧ k < hi then k - (hi - m) else k

theorem swF_cases (p q k : Nat) : (k = p ∧ swF p q k = q) ∨ (k ≠ p ∧ k = q ∧ swF p q k = p) ∨ (k ≠ p ∧ k ≠ q ∧ swF p q k = k) := by simp only [swF]; grind
theorem swR_cases (a b n k : Nat) : (a ≤ k ∧ k < a + n ∧ swR a b n k = k - a + b) ∨ (¬ (a ≤ k ∧ k < a + n) ∧ b ≤ k ∧ k < b + n ∧ swR a b n k = k - b + a) ∨ (¬ (a ≤ k ∧ k < a + n) ∧ ¬ (b ≤ k ∧ k < b + n) ∧ swR a b n k = k) := by simp only [swR]; grind
theorem rotF_cases (lo m hi k : Nat) : (lo ≤ k ∧ k < lo + (hi - m) ∧ rotF lo m hi k = k + (m - lo)) ∨ (¬ (lo ≤ k ∧ k < lo + (hi - m)) ∧ lo + (hi - m) ≤ k ∧ k < hi ∧ rotF lo m hi k = k - (hi - m)) ∨ (¬ (lo ≤ k ∧ k < lo + (hi - m)) ∧ ¬ (lo + (hi - m) ≤ k ∧ k < hi) ∧ rotF lo m hi k = k) := by simp only [rotF]; grind
theorem mp_sw {l : List α} {p q : Nat} (hp : p < l.length) (hq : q < l.length) : (l.set p (l.getD q default)).set q (l.getD p default) = mp (swF p q) l :=
  ext_at (by simp [mp_len]) fun k hk => by
    have hk' : k < l.length := by simpa using hk
    rw [mp_at hk']
    simp only [List.getD_eq_getElem?_getD, List.getElem?_set, List.length_set, swF]
    grind
theorem swR_0 {a b : Nat} {l : List α} : mp (swR a b 0) l = l := mp_id fun k _ => by simp only [swR]; split <;> (try split) <;> omega
theorem swR_step {a b n i : Nat} {l : List α} (h1 : a + n ≤ b) (h2 : b + n ≤ l.length) (hi : i < n) : mp (swF (a + i) (b + i)) (mp (swR a b i) l) = mp (swR a b (i + 1)) l :=
  mp_mp (fun x hx => by simp only [swF]; split <;> (try split) <;> omega) fun x hx => by
    have h3 := swF_cases (a + i) (b + i) x
    have h4 := swR_cases a b i (swF (a + i) (b + i) x)
    have h5 := swR_cases a b (i + 1) x
    omega
theorem rotF_lt {lo m hi k n : Nat} (h1 : lo ≤ m) (h2 : m ≤ hi) (h3 : hi ≤ n) (h : k < n) : rotF lo m hi k < n := by simp only [rotF]; split <;> (try split) <;> omega
theorem swR_lt {a b n k z : Nat} (h2 : b + n ≤ z) (h1 : a + n ≤ z) (h : k < z) : swR a b n k < z := by simp only [swR]; split <;> (try split) <;> omega
theorem rot_gt {m i j : Nat} {l : List α} (h1 : i ≤ m) (h2 : m + j ≤ l.length) (h : j < i) : mp (rotF (m - (i - j)) m (m + j)) (mp (swR (m - i) m j) l) = mp (rotF (m - i) m (m + j)) l :=
  mp_mp (fun x hx => rotF_lt (by omega) (by omega) h2 hx) fun x hx => by
    have h3 := rotF_cases (m - (i - j)) m (m + j) x
    have h4 := swR_cases (m - i) m j (rotF (m - (i - j)) m (m + j) x)
    have h5 := rotF_cases (m - i) m (m + j) x
    omega
theorem rot_lt {m i j : Nat} {l : List α} (h1 : i ≤ m) (h2 : m + j ≤ l.length) (h : i < j) : mp (rotF (m - i) m (m + (j - i))) (mp (swR (m - i) (m + j - i) i) l) = mp (rotF (m - i) m (m + j)) l :=
  mp_mp (fun x hx => rotF_lt (by omega) (by omega) (by omega) hx) fun x hx => by
    have h3 := rotF_cases (m - i) m (m + (j - i)) x
    have h4 := swR_cases (m - i) (m + j - i) i (rotF (m - i) m (m + (j - i)) x)
    have h5 := rotF_cases (m - i) m (m + j) x
    omega
theorem rot_eq {m i : Nat} {l : List α} (h1 : i ≤ m) : mp (swR (m - i) m i) l = mp (rotF (m - i) m (m + i)) l :=
  mp_congr fun x hx => by
    have h4 := swR_cases (m - i) m i x
    have h5 := rotF_cases (m - i) m (m + i) x
    omega
theorem rot_down {l : List α} {i j : Nat} (h : 0 < j) (hj : j ≤ i) (hi : i < l.length) : mp (swF j (j - 1)) (mp (rotF j i (i + 1)) l) = mp (rotF (j - 1) i (i + 1)) l :=
  mp_mp (fun x hx => by simp only [swF]; split <;> (try split) <;> omega) fun x hx => by
    have h3 := swF_cases j (j - 1) x
    have h4 := rotF_cases j i (i + 1) (swF j (j - 1) x)
    have h5 := rotF_cases (j - 1) i (i + 1) x
    omega
theorem rot_up {l : List α} {a k : Nat} (h : a ≤ k) (hk : k + 1 < l.length) : mp (swF k (k + 1)) (mp (rotF a (a + 1) (k + 1)) l) = mp (rotF a (a + 1) (k + 2)) l :=
  mp_mp (fun x hx => by simp only [swF]; split <;> (try split) <;> omega) fun x hx => by
    have h3 := swF_cases k (k + 1) x
    have h4 := rotF_cases a (a + 1) (k + 1) (swF k (k + 1) x)
    have h5 := rotF_cases a (a + 1) (k + 2) x
    omega
theorem rot_none {l : List α} {a m b : Nat} (h : a = m ∨ m = b) (h1 : a ≤ m) (h2 : m ≤ b) : mp (rotF a m b) l = l := mp_id fun k _ => by have := rotF_cases a m b k; omega

theorem rot_list {l : List α} {a m b : Nat} (h1 : a ≤ m) (h2 : m ≤ b) (h3 : b ≤ l.length) :
    mp (rotF a m b) l = l.take a ++ ((l.take b).drop m ++ ((l.take m).drop a ++ l.drop b)) := by
  refine ext_at (by simp [mp_len]; omega) fun k hk => ?_
  rw [mp_len] at hk
  rw [mp_at hk]
  simp only [List.getD_eq_getElem?_getD, List.getElem?_append, List.length_take, List.length_drop, List.getElem?_take, List.getElem?_drop, rotF]
  congr 1
  grind
theorem list_parts {l : List α} {a m b : Nat} (h1 : a ≤ m) (h2 : m ≤ b) (h3 : b ≤ l.length) :
    l = l.take a ++ ((l.take m).drop a ++ ((l.take b).drop m ++ l.drop b)) := by
  refine ext_at (by simp; omega) fun k hk => ?_
  simp only [List.getD_eq_getElem?_getD, List.getElem?_append, List.length_take, List.length_drop, List.getElem?_take, List.getElem?_drop]
  congr 1
  grind
theorem mem_win {l : List α} {a b : Nat} {x : α} (h : x ∈ (l.take b).drop a) : ∃ k, a ≤ k ∧ k < b ∧ k < l.length ∧ x = l.getD k default := by
  obtain ⟨i, hi⟩ := List.mem_iff_getElem?.1 h
  rw [List.getElem?_drop, List.getElem?_take] at hi
  split at hi
  · refine ⟨a + i, by omega, by omega, (List.getElem?_eq_some_iff.1 hi).1, by simp [List.getD_eq_getElem?_getD, hi]⟩
  · cases hi
theorem win_mem {l : List α} {a b k : Nat} (h1 : a ≤ k) (h2 : k < b) (h3 : k < l.length) : l.getD k default ∈ (l.take b).drop a := by
  refine List.mem_iff_getElem?.2 ⟨k - a, ?_⟩
  rw [List.getElem?_drop, List.getElem?_take, if_pos (by omega), show a + (k - a) = k by omega]
  simp [List.getD_eq_getElem?_getD, h3]
theorem Stab.rot {lt : α → α → Bool} (h : WO lt) {l : List α} {a m b : Nat} (h1 : a ≤ m) (h2 : m ≤ b) (h3 : b ≤ l.length)
    (hc : ∀ x y, a ≤ x → x < m → m ≤ y → y < b → lt (l.getD y default) (l.getD x default) = true) : Stab lt l (mp (rotF a m b) l) := by
  rw [rot_list h1 h2 h3]
  conv => lhs; rw [list_parts h1 h2 h3]
  refine Stab.swap h _ _ _ _ fun x hx y hy => ?_
  obtain ⟨i, a1, a2, a3, rfl⟩ := mem_win hx
  obtain ⟨j, b1, b2, b3, rfl⟩ := mem_win hy
  exact hc i j a1 a2 b1 b2

/-- Nothing outside [a, b) has changed. -/
def Fram (a b : Nat) (l l' : List α) : Prop := l'.length = l.length ∧ ∀ k, k < a ∨ b ≤ k → l'.getD k default = l.getD k default
theorem Fram.refl (a b : Nat) (l : List α) : Fram a b l l := ⟨rfl, fun _ _ => rfl⟩
theorem Fram.trans {a b : Nat} {l m n : List α} (h : Fram a b l m) (k : Fram a b m n) : Fram a b l n := ⟨k.1.trans h.1, fun x hx => (k.2 x hx).trans (h.2 x hx)⟩
theorem Fram.mono {a b c d : Nat} {l m : List α} (h : Fram a b l m) (h1 : c ≤ a) (h2 : b ≤ d) : Fram c d l m := ⟨h.1, fun x hx => h.2 x (by omega)⟩
theorem Fram.rot {a b s m e : Nat} {l : List α} (h1 : a ≤ s) (h2 : e ≤ b) (h3 : s ≤ m) (h4 : m ≤ e) : Fram a b l (mp (rotF s m e) l) :=
  ⟨mp_len _ _, fun k hk => by
    by_cases h : k < l.length
    · rw [mp_at h, show rotF s m e k = k by have := rotF_cases s m e k; omega]
    · have e1 := List.getElem?_eq_none (l := mp (rotF s m e) l) (i := k) (by rw [mp_len]; omega)
      have e2 := List.getElem?_eq_none (l := l) (i := k) (by omega)
      rw [List.getD_eq_getElem?_getD, List.getD_eq_getElem?_getD, e1, e2]⟩
theorem win_of {lt : α → α → Bool} {l l' : List α} {a b k : Nat} (s : Stab lt l l') (f : Fram a b l l') (hb : b ≤ l.length) (h1 : a ≤ k) (h2 : k < b) : ∃ j, a ≤ j ∧ j < b ∧ l'.getD k default = l.getD j default := by
  have hl := f.1
  have e1 : l'.take a = l.take a := ext_at (by simp [hl]) fun x hx => by
    have hx' : x < a := by simp at hx; omega
    have := f.2 x (.inl hx')
    simpa [List.getD_eq_getElem?_getD, List.getElem?_take, hx'] using this
  have e2 : l'.drop b = l.drop b := ext_at (by simp [hl]) fun x hx => by
    have := f.2 (b + x) (.inr (by omega))
    simpa [List.getD_eq_getElem?_getD, List.getElem?_drop] using this
  have p1 := s.1
  rw [list_parts (l := l) (a := a) (m := b) (b := b) (by omega) (Nat.le_refl _) hb, list_parts (l := l') (a := a) (m := b) (b := b) (by omega) (Nat.le_refl _) (by omega), e1, e2] at p1
  have p2 := (List.perm_append_left_iff _).1 p1
  have e3 : ∀ x : List α, (x.take b).drop b = [] := fun x => by simp
  rw [e3, e3, List.nil_append] at p2
  have p3 := (List.perm_append_right_iff _).1 p2
  obtain ⟨j, a1, a2, a3, a4⟩ := mem_win (p3.symm.subset (win_mem (l := l') h1 h2 (by omega)))
  exact ⟨j, a1, a2, a4⟩

/-- Sorted from a up to b. -/
def Srt (lt : α → α → Bool) (l : List α) (a b : Nat) : Prop := ∀ p q, a ≤ p → p < q → q < b → lt (l.getD q default) (l.getD p default) = false
theorem Srt.sub {lt : α → α → Bool} {l : List α} {a b c d : Nat} (h : Srt lt l a b) (h1 : a ≤ c) (h2 : d ≤ b) : Srt lt l c d := fun p q x y z => h p q (by omega) y (by omega)
theorem Srt.one {lt : α → α → Bool} {l : List α} {a b : Nat} (h : b ≤ a + 1) : Srt lt l a b := fun p q x y z => by omega
theorem Srt.fram {lt : α → α → Bool} {l l' : List α} {a b c d : Nat} (h : Srt lt l a b) (f : Fram c d l l') (hd : b ≤ c ∨ d ≤ a) : Srt lt l' a b := fun p q x y z => by
  rw [f.2 p (by omega), f.2 q (by omega)]; exact h p q x y z
theorem Srt.all {lt : α → α → Bool} {l : List α} (h : Srt lt l 0 l.length) : l.Pairwise fun x y => lt y x = false := by
  rw [List.pairwise_iff_getElem]
  intro i j hi hj hij
  have := h i j (Nat.zero_le _) hij hj
  simpa [List.getD_eq_getElem?_getD, hi, hj] using this
theorem Srt.le {lt : α → α → Bool} (h : WO lt) {l : List α} {a b p q : Nat} (s : Srt lt l a b) (h1 : a ≤ p) (h2 : p ≤ q) (h3 : q < b) : lt (l.getD q default) (l.getD p default) = false := by
  rcases Nat.eq_or_lt_of_le h2 with rfl | h2
  · exact h.irr _
  · exact s p q h1 h2 h3
theorem Srt.glue {lt : α → α → Bool} {l : List α} {a m b : Nat} (h1 : Srt lt l a m) (h2 : Srt lt l m b) (hc : ∀ p q, a ≤ p → p < m → m ≤ q → q < b → lt (l.getD q default) (l.getD p default) = false) : Srt lt l a b := fun p q x y z => by
  by_cases hq : q < m
  · exact h1 p q x y hq
  · by_cases hp : p < m
    · exact hc p q x hp (by omega) z
    · exact h2 p q (by omega) y z

/-- An element put in where it belongs, from behind. -/
theorem srt_ins {lt : α → α → Bool} (h : WO lt) {l : List α} {a i j : Nat} (hs : Srt lt l a i) (hi : i < l.length) (h1 : a ≤ j) (h2 : j ≤ i) (hA : ∀ q, j ≤ q → q < i → lt (l.getD i default) (l.getD q default) = true)
    (hB : j = a ∨ lt (l.getD i default) (l.getD (j - 1) default) = false) : Stab lt l (mp (rotF j i (i + 1)) l) ∧ Srt lt (mp (rotF j i (i + 1)) l) a (i + 1) := by
  refine ⟨Stab.rot h h2 (by omega) (by omega) fun x y a1 a2 a3 a4 => by rw [show y = i by omega]; exact hA x a1 a2, fun p q a1 a2 a3 => ?_⟩
  rw [mp_at (by omega), mp_at (by omega)]
  have hlow : ∀ p, a ≤ p → p < j → lt (l.getD i default) (l.getD p default) = false := fun p b1 b2 => by
    rcases hB with rfl | hB
    · omega
    · exact h.ntr _ _ _ hB (hs.le h b1 (by omega) (by omega))
  have fp : ∀ k, k ≤ i → rotF j i (i + 1) k = if k < j then k else if k = j then i else k - 1 := fun k hk => by simp only [rotF]; grind
  rw [fp p (by omega), fp q (by omega)]
  by_cases c1 : q < j
  · rw [if_pos c1, if_pos (by omega)]; exact hs _ _ a1 a2 (by omega)
  · rw [if_neg c1]
    by_cases c2 : q = j
    · rw [if_pos c2, if_pos (by omega)]; exact hlow p a1 (by omega)
    · rw [if_neg c2]
      by_cases c3 : p < j
      · rw [if_pos c3]; exact hs _ _ a1 (by omega) (by omega)
      · rw [if_neg c3]
        by_cases c4 : p = j
        · rw [if_pos c4]; exact h.asym (hA _ (by omega) (by omega))
        · rw [if_neg c4]; exact hs _ _ (by omega) (by omega) (by omega)
/-- The same, from in front. -/
theorem srt_ins' {lt : α → α → Bool} (h : WO lt) {l : List α} {a i b : Nat} (hs : Srt lt l (a + 1) b) (hb : b ≤ l.length) (h1 : a + 1 ≤ i) (h2 : i ≤ b) (hA : ∀ q, a + 1 ≤ q → q < i → lt (l.getD q default) (l.getD a default) = true)
    (hB : ∀ q, i ≤ q → q < b → lt (l.getD q default) (l.getD a default) = false) : Stab lt l (mp (rotF a (a + 1) i) l) ∧ Srt lt (mp (rotF a (a + 1) i) l) a b := by
  refine ⟨Stab.rot h (by omega) h1 (by omega) fun x y a1 a2 a3 a4 => by rw [show x = a by omega]; exact hA y a3 a4, fun p q a1 a2 a3 => ?_⟩
  rw [mp_at (by omega), mp_at (by omega)]
  have fp : ∀ k, a ≤ k → rotF a (a + 1) i k = if k + 1 < i then k + 1 else if k + 1 = i then a else k := fun k hk => by simp only [rotF]; grind
  rw [fp p (by omega), fp q (by omega)]
  by_cases c1 : q + 1 < i
  · rw [if_pos c1, if_pos (by omega)]; exact hs _ _ (by omega) (by omega) (by omega)
  · rw [if_neg c1]
    by_cases c2 : q + 1 = i
    · rw [if_pos c2, if_pos (by omega)]; exact h.asym (hA _ (by omega) (by omega))
    · rw [if_neg c2]
      by_cases c3 : p + 1 < i
      · rw [if_pos c3]; exact hs _ _ (by omega) (by omega) (by omega)
      · rw [if_neg c3]
        by_cases c4 : p + 1 = i
        · rw [if_pos c4]; exact hB _ (by omega) (by omega)
        · rw [if_neg c4]; exact hs _ _ (by omega) (by omega) (by omega)

/-- What the rotation leaves: two halves, each of two sorted parts; none of the right before one of the left. -/
structure Half (lt : α → α → Bool) (l cur : List α) (a s mid e b : Nat) : Prop where
  st : Stab lt l cur
  fr : Fram a b l cur
  cr : ∀ p q, a ≤ p → p < mid → mid ≤ q → q < b → lt (cur.getD q default) (cur.getD p default) = false
  s1 : Srt lt cur a s
  s2 : Srt lt cur s mid
  s3 : Srt lt cur mid e
  s4 : Srt lt cur e b
theorem half_rot {lt : α → α → Bool} (h : WO lt) {l : List α} {a m b s mid e : Nat} (h1 : Srt lt l a m) (h2 : Srt lt l m b) (hb : b ≤ l.length) (ha : a ≤ s) (hs : s ≤ m) (he : m ≤ e) (hbb : e ≤ b) (hm : mid = s + (e - m))
    (hd : s = m ∨ m = e ∨ lt (l.getD (e - 1) default) (l.getD s default) = true) (hg : s = a ∨ e = b ∨ lt (l.getD e default) (l.getD (s - 1) default) = false) : Half lt l (mp (rotF s m e) l) a s mid e b := by
  have c1 : ∀ x y, s ≤ x → x < m → m ≤ y → y < e → lt (l.getD y default) (l.getD x default) = true := fun x y a1 a2 a3 a4 => by
    rcases hd with hd | hd | hd
    · omega
    · omega
    · exact h.le_lt (h2.le h (by omega) (show y ≤ e - 1 by omega) (by omega)) (h.lt_le hd (h1.le h (by omega) a1 (by omega)))
  have c2 : ∀ x y, a ≤ x → x < s → e ≤ y → y < b → lt (l.getD y default) (l.getD x default) = false := fun x y a1 a2 a3 a4 => by
    rcases hg with hg | hg | hg
    · omega
    · omega
    · exact h.ntr _ _ _ (h2.le h (by omega) a3 (by omega)) (h.ntr _ _ _ hg (h1.le h a1 (by omega) (by omega)))
  have fp : ∀ k, rotF s m e k = if s ≤ k ∧ k < mid then k + (m - s) else if mid ≤ k ∧ k < e then k - (e - m) else k := fun k => by subst hm; rfl
  have fl : ∀ k, k < b → k < l.length := fun k hk => by omega
  refine ⟨Stab.rot h hs he (by omega) c1, Fram.rot ha hbb hs he, fun p q a1 a2 a3 a4 => ?_, fun p q a1 a2 a3 => ?_, fun p q a1 a2 a3 => ?_, fun p q a1 a2 a3 => ?_, fun p q a1 a2 a3 => ?_⟩
  · rw [mp_at (by omega), mp_at (by omega), fp, fp, if_neg (c := s ≤ q ∧ q < mid) (by omega)]
    by_cases d1 : q < e
    · rw [if_pos (c := mid ≤ q ∧ q < e) ⟨a3, d1⟩]
      by_cases d2 : p < s
      · rw [if_neg (by omega), if_neg (by omega)]; exact h1 _ _ a1 (by omega) (by omega)
      · rw [if_pos (by omega)]; exact h.asym (c1 _ _ (by omega) (by omega) (by omega) (by omega))
    · rw [if_neg (c := mid ≤ q ∧ q < e) (by omega)]
      by_cases d2 : p < s
      · rw [if_neg (by omega), if_neg (by omega)]; exact c2 _ _ a1 d2 (by omega) a4
      · rw [if_pos (by omega)]; exact h2 _ _ (by omega) (by omega) a4
  · rw [mp_at (by omega), mp_at (by omega), fp, fp, if_neg (by omega), if_neg (by omega), if_neg (by omega), if_neg (by omega)]; exact h1 _ _ a1 a2 (by omega)
  · rw [mp_at (by omega), mp_at (by omega), fp, fp, if_pos (by omega), if_pos (by omega)]; exact h2 _ _ (by omega) (by omega) (by omega)
  · rw [mp_at (by omega), mp_at (by omega), fp, fp, if_neg (by omega), if_pos (by omega), if_neg (by omega), if_pos (by omega)]; exact h1 _ _ (by omega) (by omega) (by omega)
  · rw [mp_at (by omega), mp_at (by omega), fp, fp, if_neg (by omega), if_neg (by omega), if_neg (by omega), if_neg (by omega)]; exact h2 _ _ (by omega) a2 a3
theorem Half.left {lt : α → α → Bool} {l c1 c2 : List α} {a s mid e b : Nat} (h : Half lt l c1 a s mid e b) (hb : b ≤ l.length) (hm : mid ≤ e) (hmb : e ≤ b) (st : Stab lt c1 c2) (fr : Fram a mid c1 c2) (so : Srt lt c2 a mid) : Half lt l c2 a mid mid e b := by
  have hl := h.fr.1
  refine ⟨h.st.trans st, h.fr.trans (fr.mono (Nat.le_refl _) (by omega)), fun p q a1 a2 a3 a4 => ?_, so, .one (by omega), h.s3.fram fr (.inr (Nat.le_refl _)), h.s4.fram fr (.inr hm)⟩
  obtain ⟨j, b1, b2, b3⟩ := win_of st fr (by omega) a1 a2
  rw [b3, fr.2 q (.inr a3)]
  exact h.cr _ _ b1 b2 a3 a4
theorem Half.left0 {lt : α → α → Bool} {l c1 : List α} {a s mid e b : Nat} (h : Half lt l c1 a s mid e b) (hn : ¬ (a < s ∧ s < mid)) (ha : a ≤ s) (hs : s ≤ mid) : Half lt l c1 a mid mid e b := by
  refine ⟨h.st, h.fr, h.cr, ?_, .one (by omega), h.s3, h.s4⟩
  by_cases c : a = s
  · rw [c]; exact h.s2
  · rw [show mid = s by omega]; exact h.s1
theorem Half.right {lt : α → α → Bool} {l c2 c3 : List α} {a mid e b : Nat} (h : Half lt l c2 a mid mid e b) (hb : b ≤ l.length) (ha : a ≤ mid) (hm : mid ≤ b) (st : Stab lt c2 c3) (fr : Fram mid b c2 c3) (so : Srt lt c3 mid b) : Stab lt l c3 ∧ Fram a b l c3 ∧ Srt lt c3 a b := by
  have hl := h.fr.1
  refine ⟨h.st.trans st, h.fr.trans (fr.mono ha (Nat.le_refl _)), (h.s1.fram fr (.inl (Nat.le_refl _))).glue so fun p q a1 a2 a3 a4 => ?_⟩
  obtain ⟨j, b1, b2, b3⟩ := win_of st fr (by omega) a3 a4
  rw [b3, fr.2 p (.inl a2)]
  exact h.cr _ _ a1 a2 b1 b2
theorem Half.right0 {lt : α → α → Bool} {l c2 : List α} {a mid e b : Nat} (h : Half lt l c2 a mid mid e b) (hn : ¬ (mid < e ∧ e < b)) (hm : mid ≤ e) (hb : e ≤ b) : Stab lt l c2 ∧ Fram a b l c2 ∧ Srt lt c2 a b := by
  refine ⟨h.st, h.fr, h.s1.glue ?_ h.cr⟩
  by_cases c : mid = e
  · rw [c]; exact h.s4
  · rw [show b = e by omega]; exact h.s3

/-! ### blocks -/
/-- Each block of bs is sorted, up to n. -/
def Blk (lt : α → α → Bool) (l : List α) (bs n : Nat) : Prop := ∀ t p q, t * bs ≤ p → p < q → q < (t + 1) * bs → q < n → lt (l.getD q default) (l.getD p default) = false
theorem Blk.all {lt : α → α → Bool} {l : List α} {bs n : Nat} (h : Blk lt l bs n) (hn : n ≤ bs) : Srt lt l 0 n := fun p q a1 a2 a3 => h 0 p q (by omega) a2 (by omega) a3
theorem blk_ins {lt : α → α → Bool} {l l' : List α} {bs t0 b : Nat} (h : Blk lt l bs (t0 * bs)) (f : Fram (t0 * bs) b l l') (s : Srt lt l' (t0 * bs) b) (hb : b ≤ (t0 + 1) * bs) : Blk lt l' bs b := fun t p q a1 a2 a3 a4 => by
  by_cases c : q < t0 * bs
  · rw [f.2 p (by omega), f.2 q (by omega)]; exact h t p q a1 a2 a3 c
  · have e1 : t * bs < (t0 + 1) * bs := by omega
    have e2 : t0 * bs < (t + 1) * bs := by omega
    have e3 := Nat.lt_of_mul_lt_mul_right e1
    have e4 := Nat.lt_of_mul_lt_mul_right e2
    obtain rfl : t = t0 := by omega
    exact s p q a1 a2 a4
/-- Blocks of 2bs up to a, of bs from there. -/
def Mix (lt : α → α → Bool) (l : List α) (bs a n : Nat) : Prop := Blk lt l (2 * bs) a ∧ ∀ t p q, t * bs ≤ p → p < q → q < (t + 1) * bs → a ≤ p → q < n → lt (l.getD q default) (l.getD p default) = false
theorem mix_0 {lt : α → α → Bool} {l : List α} {bs n : Nat} (h : Blk lt l bs n) : Mix lt l bs 0 n := ⟨fun t p q a1 a2 a3 a4 => by omega, fun t p q a1 a2 a3 _ a5 => h t p q a1 a2 a3 a5⟩
theorem mix_left {lt : α → α → Bool} {l : List α} {bs n t0 m : Nat} (h : Mix lt l bs (t0 * (2 * bs)) n) (hm : m ≤ t0 * (2 * bs) + bs) (hn : m ≤ n) : Srt lt l (t0 * (2 * bs)) m := fun p q a1 a2 a3 => by
  have e : 2 * t0 * bs = t0 * (2 * bs) := by rw [Nat.mul_comm 2 t0, Nat.mul_assoc]
  refine h.2 (2 * t0) p q (by omega) a2 (by rw [Nat.add_mul]; omega) a1 (by omega)
theorem mix_right {lt : α → α → Bool} {l : List α} {bs n t0 b : Nat} (h : Mix lt l bs (t0 * (2 * bs)) n) (hm : b ≤ t0 * (2 * bs) + 2 * bs) (hn : b ≤ n) : Srt lt l (t0 * (2 * bs) + bs) b := fun p q a1 a2 a3 => by
  have e : 2 * t0 * bs = t0 * (2 * bs) := by rw [Nat.mul_comm 2 t0, Nat.mul_assoc]
  refine h.2 (2 * t0 + 1) p q (by rw [Nat.add_mul]; omega) a2 (by rw [Nat.add_mul, Nat.add_mul]; omega) (by omega) (by omega)
theorem mix_step {lt : α → α → Bool} {l l' : List α} {bs n t0 b : Nat} (h : Mix lt l bs (t0 * (2 * bs)) n) (f : Fram (t0 * (2 * bs)) b l l') (s : Srt lt l' (t0 * (2 * bs)) b) (hb : b ≤ t0 * (2 * bs) + 2 * bs) (hab : t0 * (2 * bs) ≤ b) : Mix lt l' bs b n :=
  ⟨blk_ins h.1 f s (by rw [Nat.add_mul]; omega), fun t p q a1 a2 a3 a4 a5 => by
    rw [f.2 p (by omega), f.2 q (by omega)]; exact h.2 t p q a1 a2 a3 (by omega) a5⟩
theorem mix_end {lt : α → α → Bool} {l : List α} {bs n t0 : Nat} (h : Mix lt l bs (t0 * (2 * bs)) n) (hn : n ≤ t0 * (2 * bs) + bs) : Blk lt l (2 * bs) n := fun t p q a1 a2 a3 a4 => by
  by_cases c : q < t0 * (2 * bs)
  · exact h.1 t p q a1 a2 a3 c
  · have e1 : t * (2 * bs) < (t0 + 1) * (2 * bs) := by rw [Nat.add_mul]; omega
    have e2 : t0 * (2 * bs) < (t + 1) * (2 * bs) := by omega
    have e3 := Nat.lt_of_mul_lt_mul_right e1
    have e4 := Nat.lt_of_mul_lt_mul_right e2
    obtain rfl : t = t0 := by omega
    exact mix_left h hn (Nat.le_refl _) p q a1 a2 a4
end
end Go.HL
