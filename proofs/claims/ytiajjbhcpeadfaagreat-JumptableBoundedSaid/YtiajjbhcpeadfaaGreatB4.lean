/- Own rules and walks, part 4. -/
import Derived.Test.YtiajjbhcpeadfaaGreatB3
set_option linter.unusedSimpArgs false
set_option linter.unusedVariables false
set_option linter.unusedSectionVars false
set_option maxRecDepth 100000
set_option maxHeartbeats 16000000
namespace Go.HL
section
variable {α : Type} [Inhabited α]
structure WO (lt : α → α → Bool) : Prop where
 irr : ∀ x, lt x x = false
 tr : ∀ x y z, lt x y = true → lt y z = true → lt x z = true
 ntr : ∀ x y z, lt x y = false → lt y z = false → lt x z = false
theorem WO.asym {lt : α → α → Bool} (h : WO lt) {x y : α} (e : lt x y = true) : lt y x = false := by
 cases e2 : lt y x
 ·rfl
 ·have := h.tr _ _ _ e e2; rw [h.irr] at this; cases this
theorem WO.lt_le {lt : α → α → Bool} (h : WO lt) {x y z : α} (e : lt x y = true) (e2 : lt z y = false) : lt x z = true := by
 cases e3 : lt x z
 ·rw [h.ntr _ _ _ e3 e2] at e; cases e
 ·rfl
theorem WO.le_lt {lt : α → α → Bool} (h : WO lt) {x y z : α} (e : lt y x = false) (e2 : lt y z = true) : lt x z = true := by
 cases e3 : lt x z
 ·rw [h.ntr _ _ _ e e3] at e2; cases e2
 ·rfl
def eqv (lt : α → α → Bool) (z x : α) : Bool := !lt z x && !lt x z
def Stab (lt : α → α → Bool) (l l' : List α) : Prop := l.Perm l' ∧ ∀ z, l.filter (eqv lt z) = l'.filter (eqv lt z)
theorem Stab.refl (lt : α → α → Bool) (l : List α) : Stab lt l l := ⟨.refl _, fun _ => rfl⟩
theorem Stab.trans {lt : α → α → Bool} {a b c : List α} (h : Stab lt a b) (k : Stab lt b c) : Stab lt a c := ⟨h.1.trans k.1, fun z => (h.2 z).trans (k.2 z)⟩
theorem Stab.len {lt : α → α → Bool} {a b : List α} (h : Stab lt a b) : b.length = a.length := h.1.length_eq.symm
theorem Stab.symm {lt : α → α → Bool} {a b : List α} (h : Stab lt a b) : Stab lt b a := ⟨h.1.symm, fun z => (h.2 z).symm⟩
theorem u3 {lt : α → α → Bool} (h : WO lt) {X Y : List α} (hc : ∀ x ∈ X, ∀ y ∈ Y, lt y x = true) (z : α) : X.filter (eqv lt z) = [] ∨ Y.filter (eqv lt z) = [] := by
 cases hX : X.filter (eqv lt z) with
 | nil => exact .inl rfl
 | cons x t =>
  refine .inr ?_
  rw [List.filter_eq_nil_iff]
  intro y hy he
  have hx : x ∈ X.filter (eqv lt z) := by rw [hX]; exact .head _
  obtain ⟨hx1, hx2⟩ := List.mem_filter.1 hx
  simp only [eqv, Bool.and_eq_true, Bool.not_eq_true'] at he hx2
  have := hc x hx1 y hy
  rw [h.ntr _ _ _ he.2 hx2.1] at this
  cases this
theorem Stab.swap {lt : α → α → Bool} (h : WO lt) (P X Y S : List α) (hc : ∀ x ∈ X, ∀ y ∈ Y, lt y x = true) : Stab lt (P ++ (X ++ (Y ++ S))) (P ++ (Y ++ (X ++ S))) := by
 refine ⟨List.Perm.append_left _ (by rw [← List.append_assoc, ← List.append_assoc]; exact List.perm_append_comm.append_right _), fun z => ?_⟩
 simp only [List.filter_append]
 rcases u3 h hc z with e | e <;> rw [e] <;> simp
theorem rC {lt : α → α → Bool} (h : WO lt) : ∀ (l l' : List α), Stab lt l l' → l.Pairwise (fun x y => lt y x = false) → l'.Pairwise (fun x y => lt y x = false) → l = l'
 | [], l', s, _, _ => by have := s.len; simp at this; exact this.symm
 | x :: t, [], s, _, _ => by have := s.len; simp at this
 | x :: t, y :: t', s, h1, h2 => by
  rw [List.pairwise_cons] at h1 h2
  have hxy : lt x y = false := by
   have : x ∈ y :: t' := s.1.subset (.head _)
   rcases List.mem_cons.1 this with rfl | hm
   ·exact h.irr _
   ·exact h2.1 _ hm
  have hyx : lt y x = false := by
   have : y ∈ x :: t := s.1.symm.subset (.head _)
   rcases List.mem_cons.1 this with rfl | hm
   ·exact h.irr _
   ·exact h1.1 _ hm
  have ex : x = y := by
   have := s.2 x
   rw [List.filter_cons_of_pos (by simp [eqv, h.irr]), List.filter_cons_of_pos (by simp [eqv, hxy, hyx])] at this
   exact (List.cons.inj this).1
  subst ex
  have st : Stab lt t t' := ⟨(List.perm_cons x).1 s.1, fun z => by
   have := s.2 z
   simp only [List.filter_cons] at this
   split at this
   ·exact (List.cons.inj this).2
   ·exact this⟩
  rw [rC h t t' st h1.2 h2.2]
def mp (f : Nat → Nat) (l : List α) : List α := (List.range l.length).map fun k => l.getD (f k) default
theorem g3 (f : Nat → Nat) (l : List α) : (mp f l).length = l.length := by simp [mp]
theorem il {f : Nat → Nat} {l : List α} {k : Nat} (h : k < l.length) : (mp f l).getD k default = l.getD (f k) default := by
 simp [mp, List.getD_eq_getElem?_getD, h]
theorem oO {l l' : List α} (h : l.length = l'.length) (e : ∀ k, k < l.length → l.getD k default = l'.getD k default) : l = l' := by
 refine List.ext_getElem h fun k h1 h2 => ?_
 have := e k h1
 simpa [List.getD_eq_getElem?_getD, h1, h2] using this
theorem Gz {f : Nat → Nat} {l : List α} (h : ∀ k, k < l.length → f k = k) : mp f l = l :=
 oO (g3 _ _) fun k hk => by rw [g3] at hk; rw [il hk, h k hk]
theorem yk {f g k : Nat → Nat} {l : List α} (h : ∀ x, x < l.length → f x < l.length) (e : ∀ x, x < l.length → g (f x) = k x) : mp f (mp g l) = mp k l :=
 oO (by simp [g3]) fun x hx => by
  rw [g3, g3] at hx
  rw [il (by rw [g3]; exact hx), il (h x hx), il hx, e x hx]
theorem DW {f g : Nat → Nat} {l : List α} (e : ∀ x, x < l.length → f x = g x) : mp f l = mp g l :=
 oO (by simp [g3]) fun x hx => by rw [g3] at hx; rw [il hx, il hx, e x hx]
def swF (p q k : Nat) : Nat := if k = p then q else if k = q then p else k
def swR (a b n k : Nat) : Nat := if a ≤ k ∧ k < a + n then k - a + b else if b ≤ k ∧ k < b + n then k - b + a else k
def dx (lo m hi k : Nat) : Nat := if lo ≤ k ∧ k < lo + (hi - m) then k + (m - lo) else if lo + (hi - m) ≤ k ∧ k < hi then k - (hi - m) else k
theorem rB (p q k : Nat) : (k = p ∧ swF p q k = q) ∨ (k ≠ p ∧ k = q ∧ swF p q k = p) ∨ (k ≠ p ∧ k ≠ q ∧ swF p q k = k) := by simp only [swF]; grind
theorem mQ (a b n k : Nat) : (a ≤ k ∧ k < a + n ∧ swR a b n k = k - a + b) ∨ (¬ (a ≤ k ∧ k < a + n) ∧ b ≤ k ∧ k < b + n ∧ swR a b n k = k - b + a) ∨ (¬ (a ≤ k ∧ k < a + n) ∧ ¬ (b ≤ k ∧ k < b + n) ∧ swR a b n k = k) := by simp only [swR]; grind
theorem fB (lo m hi k : Nat) : (lo ≤ k ∧ k < lo + (hi - m) ∧ dx lo m hi k = k + (m - lo)) ∨ (¬ (lo ≤ k ∧ k < lo + (hi - m)) ∧ lo + (hi - m) ≤ k ∧ k < hi ∧ dx lo m hi k = k - (hi - m)) ∨ (¬ (lo ≤ k ∧ k < lo + (hi - m)) ∧ ¬ (lo + (hi - m) ≤ k ∧ k < hi) ∧ dx lo m hi k = k) := by simp only [dx]; grind
theorem A2 {l : List α} {p q : Nat} (hp : p < l.length) (hq : q < l.length) : (l.set p (l.getD q default)).set q (l.getD p default) = mp (swF p q) l :=
 oO (by simp [g3]) fun k hk => by
  have hk' : k < l.length := by simpa using hk
  rw [il hk']
  simp only [List.getD_eq_getElem?_getD, List.getElem?_set, List.length_set, swF]
  grind
theorem HA {a b : Nat} {l : List α} : mp (swR a b 0) l = l := Gz fun k _ => by simp only [swR]; split <;> (try split) <;> omega
theorem Db {a b n i : Nat} {l : List α} (h1 : a + n ≤ b) (h2 : b + n ≤ l.length) (hi : i < n) : mp (swF (a + i) (b + i)) (mp (swR a b i) l) = mp (swR a b (i + 1)) l :=
 yk (fun x hx => by simp only [swF]; split <;> (try split) <;> omega) fun x hx => by
  have h3 := rB (a + i) (b + i) x
  have h4 := mQ a b i (swF (a + i) (b + i) x)
  have h5 := mQ a b (i + 1) x
  omega
theorem AW {lo m hi k n : Nat} (h1 : lo ≤ m) (h2 : m ≤ hi) (h3 : hi ≤ n) (h : k < n) : dx lo m hi k < n := by simp only [dx]; split <;> (try split) <;> omega
theorem GM {m i j : Nat} {l : List α} (h1 : i ≤ m) (h2 : m + j ≤ l.length) (h : j < i) : mp (dx (m - (i - j)) m (m + j)) (mp (swR (m - i) m j) l) = mp (dx (m - i) m (m + j)) l :=
 yk (fun x hx => AW (by omega) (by omega) h2 hx) fun x hx => by
  have h3 := fB (m - (i - j)) m (m + j) x
  have h4 := mQ (m - i) m j (dx (m - (i - j)) m (m + j) x)
  have h5 := fB (m - i) m (m + j) x
  omega
theorem GL {m i j : Nat} {l : List α} (h1 : i ≤ m) (h2 : m + j ≤ l.length) (h : i < j) : mp (dx (m - i) m (m + (j - i))) (mp (swR (m - i) (m + j - i) i) l) = mp (dx (m - i) m (m + j)) l :=
 yk (fun x hx => AW (by omega) (by omega) (by omega) hx) fun x hx => by
  have h3 := fB (m - i) m (m + (j - i)) x
  have h4 := mQ (m - i) (m + j - i) i (dx (m - i) m (m + (j - i)) x)
  have h5 := fB (m - i) m (m + j) x
  omega
theorem GN {m i : Nat} {l : List α} (h1 : i ≤ m) : mp (swR (m - i) m i) l = mp (dx (m - i) m (m + i)) l :=
 DW fun x hx => by
  have h4 := mQ (m - i) m i x
  have h5 := fB (m - i) m (m + i) x
  omega
theorem ya {l : List α} {i j : Nat} (h : 0 < j) (hj : j ≤ i) (hi : i < l.length) : mp (swF j (j - 1)) (mp (dx j i (i + 1)) l) = mp (dx (j - 1) i (i + 1)) l :=
 yk (fun x hx => by simp only [swF]; split <;> (try split) <;> omega) fun x hx => by
  have h3 := rB j (j - 1) x
  have h4 := fB j i (i + 1) (swF j (j - 1) x)
  have h5 := fB (j - 1) i (i + 1) x
  omega
theorem GK {l : List α} {a k : Nat} (h : a ≤ k) (hk : k + 1 < l.length) : mp (swF k (k + 1)) (mp (dx a (a + 1) (k + 1)) l) = mp (dx a (a + 1) (k + 2)) l :=
 yk (fun x hx => by simp only [swF]; split <;> (try split) <;> omega) fun x hx => by
  have h3 := rB k (k + 1) x
  have h4 := fB a (a + 1) (k + 1) (swF k (k + 1) x)
  have h5 := fB a (a + 1) (k + 2) x
  omega
theorem qF {l : List α} {a m b : Nat} (h : a = m ∨ m = b) (h1 : a ≤ m) (h2 : m ≤ b) : mp (dx a m b) l = l := Gz fun k _ => by have := fB a m b k; omega
theorem Dm {l : List α} {a m b : Nat} (h1 : a ≤ m) (h2 : m ≤ b) (h3 : b ≤ l.length) :
  mp (dx a m b) l = l.take a ++ ((l.take b).drop m ++ ((l.take m).drop a ++ l.drop b)) := by
 refine oO (by simp [g3]; omega) fun k hk => ?_
 rw [g3] at hk
 rw [il hk]
 simp only [List.getD_eq_getElem?_getD, List.getElem?_append, List.length_take, List.length_drop, List.getElem?_take, List.getElem?_drop, dx]
 congr 1
 grind
theorem pX {l : List α} {a m b : Nat} (h1 : a ≤ m) (h2 : m ≤ b) (h3 : b ≤ l.length) :
  l = l.take a ++ ((l.take m).drop a ++ ((l.take b).drop m ++ l.drop b)) := by
 refine oO (by simp; omega) fun k hk => ?_
 simp only [List.getD_eq_getElem?_getD, List.getElem?_append, List.length_take, List.length_drop, List.getElem?_take, List.getElem?_drop]
 congr 1
 grind
theorem wG {l : List α} {a b : Nat} {x : α} (h : x ∈ (l.take b).drop a) : ∃ k, a ≤ k ∧ k < b ∧ k < l.length ∧ x = l.getD k default := by
 obtain ⟨i, hi⟩ := List.mem_iff_getElem?.1 h
 rw [List.getElem?_drop, List.getElem?_take] at hi
 split at hi
 ·refine ⟨a + i, by omega, by omega, (List.getElem?_eq_some_iff.1 hi).1, by simp [List.getD_eq_getElem?_getD, hi]⟩
 ·cases hi
theorem Fb {l : List α} {a b k : Nat} (h1 : a ≤ k) (h2 : k < b) (h3 : k < l.length) : l.getD k default ∈ (l.take b).drop a := by
 refine List.mem_iff_getElem?.2 ⟨k - a, ?_⟩
 rw [List.getElem?_drop, List.getElem?_take, if_pos (by omega), show a + (k - a) = k by omega]
 simp [List.getD_eq_getElem?_getD, h3]
theorem Stab.rot {lt : α → α → Bool} (h : WO lt) {l : List α} {a m b : Nat} (h1 : a ≤ m) (h2 : m ≤ b) (h3 : b ≤ l.length)
  (hc : ∀ x y, a ≤ x → x < m → m ≤ y → y < b → lt (l.getD y default) (l.getD x default) = true) : Stab lt l (mp (dx a m b) l) := by
 rw [Dm h1 h2 h3]
 conv => lhs; rw [pX h1 h2 h3]
 refine Stab.swap h _ _ _ _ fun x hx y hy => ?_
 obtain ⟨i, a1, a2, a3, rfl⟩ := wG hx
 obtain ⟨j, b1, b2, b3, rfl⟩ := wG hy
 exact hc i j a1 a2 b1 b2
def Fram (a b : Nat) (l l' : List α) : Prop := l'.length = l.length ∧ ∀ k, k < a ∨ b ≤ k → l'.getD k default = l.getD k default
theorem Fram.refl (a b : Nat) (l : List α) : Fram a b l l := ⟨rfl, fun _ _ => rfl⟩
theorem Fram.trans {a b : Nat} {l m n : List α} (h : Fram a b l m) (k : Fram a b m n) : Fram a b l n := ⟨k.1.trans h.1, fun x hx => (k.2 x hx).trans (h.2 x hx)⟩
theorem Fram.mono {a b c d : Nat} {l m : List α} (h : Fram a b l m) (h1 : c ≤ a) (h2 : b ≤ d) : Fram c d l m := ⟨h.1, fun x hx => h.2 x (by omega)⟩
theorem Fram.rot {a b s m e : Nat} {l : List α} (h1 : a ≤ s) (h2 : e ≤ b) (h3 : s ≤ m) (h4 : m ≤ e) : Fram a b l (mp (dx s m e) l) :=
 ⟨g3 _ _, fun k hk => by
  by_cases h : k < l.length
  ·rw [il h, show dx s m e k = k by have := fB s m e k; omega]
  ·have e1 := List.getElem?_eq_none (l := mp (dx s m e) l) (i := k) (by rw [g3]; omega)
   have e2 := List.getElem?_eq_none (l := l) (i := k) (by omega)
   rw [List.getD_eq_getElem?_getD, List.getD_eq_getElem?_getD, e1, e2]⟩
theorem CY {lt : α → α → Bool} {l l' : List α} {a b k : Nat} (s : Stab lt l l') (f : Fram a b l l') (hb : b ≤ l.length) (h1 : a ≤ k) (h2 : k < b) : ∃ j, a ≤ j ∧ j < b ∧ l'.getD k default = l.getD j default := by
 have hl := f.1
 have e1 : l'.take a = l.take a := oO (by simp [hl]) fun x hx => by
  have hx' : x < a := by simp at hx; omega
  have := f.2 x (.inl hx')
  simpa [List.getD_eq_getElem?_getD, List.getElem?_take, hx'] using this
 have e2 : l'.drop b = l.drop b := oO (by simp [hl]) fun x hx => by
  have := f.2 (b + x) (.inr (by omega))
  simpa [List.getD_eq_getElem?_getD, List.getElem?_drop] using this
 have p1 := s.1
 rw [pX (l := l) (a := a) (m := b) (b := b) (by omega) (Nat.le_refl _) hb, pX (l := l') (a := a) (m := b) (b := b) (by omega) (Nat.le_refl _) (by omega), e1, e2] at p1
 have p2 := (List.perm_append_left_iff _).1 p1
 have e3 : ∀ x : List α, (x.take b).drop b = [] := fun x => by simp
 rw [e3, e3, List.nil_append] at p2
 have p3 := (List.perm_append_right_iff _).1 p2
 obtain ⟨j, a1, a2, a3, a4⟩ := wG (p3.symm.subset (Fb (l := l') h1 h2 (by omega)))
 exact ⟨j, a1, a2, a4⟩
def Srt (lt : α → α → Bool) (l : List α) (a b : Nat) : Prop := ∀ p q, a ≤ p → p < q → q < b → lt (l.getD q default) (l.getD p default) = false
theorem Srt.sub {lt : α → α → Bool} {l : List α} {a b c d : Nat} (h : Srt lt l a b) (h1 : a ≤ c) (h2 : d ≤ b) : Srt lt l c d := fun p q x y z => h p q (by omega) y (by omega)
theorem Srt.one {lt : α → α → Bool} {l : List α} {a b : Nat} (h : b ≤ a + 1) : Srt lt l a b := fun p q x y z => by omega
theorem Srt.fram {lt : α → α → Bool} {l l' : List α} {a b c d : Nat} (h : Srt lt l a b) (f : Fram c d l l') (hd : b ≤ c ∨ d ≤ a) : Srt lt l' a b := fun p q x y z => by
 rw [f.2 p (by omega), f.2 q (by omega)]; exact h p q x y z
theorem Srt.all {lt : α → α → Bool} {l : List α} (h : Srt lt l 0 l.length) : l.Pairwise fun x y => lt y x = false := by
 rw [List.pairwise_iff_getElem]
 intro i j hi hj hij
 have := h i j (Nat.zero_le _) hij hj
 simpa [List.getD_eq_getElem?_getD, hi, hj] using this
theorem Srt.le {lt : α → α → Bool} (h : WO lt) {l : List α} {a b p q : Nat} (s : Srt lt l a b) (h1 : a ≤ p) (h2 : p ≤ q) (h3 : q < b) : lt (l.getD q default) (l.getD p default) = false := by
 rcases Nat.eq_or_lt_of_le h2 with rfl | h2
 ·exact h.irr _
 ·exact s p q h1 h2 h3
theorem Srt.glue {lt : α → α → Bool} {l : List α} {a m b : Nat} (h1 : Srt lt l a m) (h2 : Srt lt l m b) (hc : ∀ p q, a ≤ p → p < m → m ≤ q → q < b → lt (l.getD q default) (l.getD p default) = false) : Srt lt l a b := fun p q x y z => by
 by_cases hq : q < m
 ·exact h1 p q x y hq
 ·by_cases hp : p < m
  ·exact hc p q x hp (by omega) z
  ·exact h2 p q (by omega) y z
theorem AS {lt : α → α → Bool} (h : WO lt) {l : List α} {a i j : Nat} (hs : Srt lt l a i) (hi : i < l.length) (h1 : a ≤ j) (h2 : j ≤ i) (hA : ∀ q, j ≤ q → q < i → lt (l.getD i default) (l.getD q default) = true)
  (hB : j = a ∨ lt (l.getD i default) (l.getD (j - 1) default) = false) : Stab lt l (mp (dx j i (i + 1)) l) ∧ Srt lt (mp (dx j i (i + 1)) l) a (i + 1) := by
 refine ⟨Stab.rot h h2 (by omega) (by omega) fun x y a1 a2 a3 a4 => by rw [show y = i by omega]; exact hA x a1 a2, fun p q a1 a2 a3 => ?_⟩
 rw [il (by omega), il (by omega)]
 have hlow : ∀ p, a ≤ p → p < j → lt (l.getD i default) (l.getD p default) = false := fun p b1 b2 => by
  rcases hB with rfl | hB
  ·omega
  ·exact h.ntr _ _ _ hB (hs.le h b1 (by omega) (by omega))
 have fp : ∀ k, k ≤ i → dx j i (i + 1) k = if k < j then k else if k = j then i else k - 1 := fun k hk => by simp only [dx]; grind
 rw [fp p (by omega), fp q (by omega)]
 by_cases c1 : q < j
 ·rw [if_pos c1, if_pos (by omega)]; exact hs _ _ a1 a2 (by omega)
 ·rw [if_neg c1]
  by_cases c2 : q = j
  ·rw [if_pos c2, if_pos (by omega)]; exact hlow p a1 (by omega)
  ·rw [if_neg c2]
   by_cases c3 : p < j
   ·rw [if_pos c3]; exact hs _ _ a1 (by omega) (by omega)
   ·rw [if_neg c3]
    by_cases c4 : p = j
    ·rw [if_pos c4]; exact h.asym (hA _ (by omega) (by omega))
    ·rw [if_neg c4]; exact hs _ _ (by omega) (by omega) (by omega)
theorem Dd {lt : α → α → Bool} (h : WO lt) {l : List α} {a i b : Nat} (hs : Srt lt l (a + 1) b) (hb : b ≤ l.length) (h1 : a + 1 ≤ i) (h2 : i ≤ b) (hA : ∀ q, a + 1 ≤ q → q < i → lt (l.getD q default) (l.getD a default) = true)
  (hB : ∀ q, i ≤ q → q < b → lt (l.getD q default) (l.getD a default) = false) : Stab lt l (mp (dx a (a + 1) i) l) ∧ Srt lt (mp (dx a (a + 1) i) l) a b := by
 refine ⟨Stab.rot h (by omega) h1 (by omega) fun x y a1 a2 a3 a4 => by rw [show x = a by omega]; exact hA y a3 a4, fun p q a1 a2 a3 => ?_⟩
 rw [il (by omega), il (by omega)]
 have fp : ∀ k, a ≤ k → dx a (a + 1) i k = if k + 1 < i then k + 1 else if k + 1 = i then a else k := fun k hk => by simp only [dx]; grind
 rw [fp p (by omega), fp q (by omega)]
 by_cases c1 : q + 1 < i
 ·rw [if_pos c1, if_pos (by omega)]; exact hs _ _ (by omega) (by omega) (by omega)
 ·rw [if_neg c1]
  by_cases c2 : q + 1 = i
  ·rw [if_pos c2, if_pos (by omega)]; exact h.asym (hA _ (by omega) (by omega))
  ·rw [if_neg c2]
   by_cases c3 : p + 1 < i
   ·rw [if_pos c3]; exact hs _ _ (by omega) (by omega) (by omega)
   ·rw [if_neg c3]
    by_cases c4 : p + 1 = i
    ·rw [if_pos c4]; exact hB _ (by omega) (by omega)
    ·rw [if_neg c4]; exact hs _ _ (by omega) (by omega) (by omega)
structure Half (lt : α → α → Bool) (l cur : List α) (a s mid e b : Nat) : Prop where
 st : Stab lt l cur
 fr : Fram a b l cur
 cr : ∀ p q, a ≤ p → p < mid → mid ≤ q → q < b → lt (cur.getD q default) (cur.getD p default) = false
 s1 : Srt lt cur a s
 s2 : Srt lt cur s mid
 s3 : Srt lt cur mid e
 s4 : Srt lt cur e b
theorem Ea {lt : α → α → Bool} (h : WO lt) {l : List α} {a m b s mid e : Nat} (h1 : Srt lt l a m) (h2 : Srt lt l m b) (hb : b ≤ l.length) (ha : a ≤ s) (hs : s ≤ m) (he : m ≤ e) (hbb : e ≤ b) (hm : mid = s + (e - m))
  (hd : s = m ∨ m = e ∨ lt (l.getD (e - 1) default) (l.getD s default) = true) (hg : s = a ∨ e = b ∨ lt (l.getD e default) (l.getD (s - 1) default) = false) : Half lt l (mp (dx s m e) l) a s mid e b := by
 have c1 : ∀ x y, s ≤ x → x < m → m ≤ y → y < e → lt (l.getD y default) (l.getD x default) = true := fun x y a1 a2 a3 a4 => by
  rcases hd with hd | hd | hd
  ·omega
  ·omega
  ·exact h.le_lt (h2.le h (by omega) (show y ≤ e - 1 by omega) (by omega)) (h.lt_le hd (h1.le h (by omega) a1 (by omega)))
 have c2 : ∀ x y, a ≤ x → x < s → e ≤ y → y < b → lt (l.getD y default) (l.getD x default) = false := fun x y a1 a2 a3 a4 => by
  rcases hg with hg | hg | hg
  ·omega
  ·omega
  ·exact h.ntr _ _ _ (h2.le h (by omega) a3 (by omega)) (h.ntr _ _ _ hg (h1.le h a1 (by omega) (by omega)))
 have fp : ∀ k, dx s m e k = if s ≤ k ∧ k < mid then k + (m - s) else if mid ≤ k ∧ k < e then k - (e - m) else k := fun k => by subst hm; rfl
 have fl : ∀ k, k < b → k < l.length := fun k hk => by omega
 refine ⟨Stab.rot h hs he (by omega) c1, Fram.rot ha hbb hs he, fun p q a1 a2 a3 a4 => ?_, fun p q a1 a2 a3 => ?_, fun p q a1 a2 a3 => ?_, fun p q a1 a2 a3 => ?_, fun p q a1 a2 a3 => ?_⟩
 ·rw [il (by omega), il (by omega), fp, fp, if_neg (c := s ≤ q ∧ q < mid) (by omega)]
  by_cases d1 : q < e
  ·rw [if_pos (c := mid ≤ q ∧ q < e) ⟨a3, d1⟩]
   by_cases d2 : p < s
   ·rw [if_neg (by omega), if_neg (by omega)]; exact h1 _ _ a1 (by omega) (by omega)
   ·rw [if_pos (by omega)]; exact h.asym (c1 _ _ (by omega) (by omega) (by omega) (by omega))
  ·rw [if_neg (c := mid ≤ q ∧ q < e) (by omega)]
   by_cases d2 : p < s
   ·rw [if_neg (by omega), if_neg (by omega)]; exact c2 _ _ a1 d2 (by omega) a4
   ·rw [if_pos (by omega)]; exact h2 _ _ (by omega) (by omega) a4
 ·rw [il (by omega), il (by omega), fp, fp, if_neg (by omega), if_neg (by omega), if_neg (by omega), if_neg (by omega)]; exact h1 _ _ a1 a2 (by omega)
 ·rw [il (by omega), il (by omega), fp, fp, if_pos (by omega), if_pos (by omega)]; exact h2 _ _ (by omega) (by omega) (by omega)
 ·rw [il (by omega), il (by omega), fp, fp, if_neg (by omega), if_pos (by omega), if_neg (by omega), if_pos (by omega)]; exact h1 _ _ (by omega) (by omega) (by omega)
 ·rw [il (by omega), il (by omega), fp, fp, if_neg (by omega), if_neg (by omega), if_neg (by omega), if_neg (by omega)]; exact h2 _ _ (by omega) a2 a3
theorem Half.left {lt : α → α → Bool} {l c1 c2 : List α} {a s mid e b : Nat} (h : Half lt l c1 a s mid e b) (hb : b ≤ l.length) (hm : mid ≤ e) (hmb : e ≤ b) (st : Stab lt c1 c2) (fr : Fram a mid c1 c2) (so : Srt lt c2 a mid) : Half lt l c2 a mid mid e b := by
 have hl := h.fr.1
 refine ⟨h.st.trans st, h.fr.trans (fr.mono (Nat.le_refl _) (by omega)), fun p q a1 a2 a3 a4 => ?_, so, .one (by omega), h.s3.fram fr (.inr (Nat.le_refl _)), h.s4.fram fr (.inr hm)⟩
 obtain ⟨j, b1, b2, b3⟩ := CY st fr (by omega) a1 a2
 rw [b3, fr.2 q (.inr a3)]
 exact h.cr _ _ b1 b2 a3 a4
theorem Half.left0 {lt : α → α → Bool} {l c1 : List α} {a s mid e b : Nat} (h : Half lt l c1 a s mid e b) (hn : ¬ (a < s ∧ s < mid)) (ha : a ≤ s) (hs : s ≤ mid) : Half lt l c1 a mid mid e b := by
 refine ⟨h.st, h.fr, h.cr, ?_, .one (by omega), h.s3, h.s4⟩
 by_cases c : a = s
 ·rw [c]; exact h.s2
 ·rw [show mid = s by omega]; exact h.s1
theorem Half.right {lt : α → α → Bool} {l c2 c3 : List α} {a mid e b : Nat} (h : Half lt l c2 a mid mid e b) (hb : b ≤ l.length) (ha : a ≤ mid) (hm : mid ≤ b) (st : Stab lt c2 c3) (fr : Fram mid b c2 c3) (so : Srt lt c3 mid b) : Stab lt l c3 ∧ Fram a b l c3 ∧ Srt lt c3 a b := by
 have hl := h.fr.1
 refine ⟨h.st.trans st, h.fr.trans (fr.mono ha (Nat.le_refl _)), (h.s1.fram fr (.inl (Nat.le_refl _))).glue so fun p q a1 a2 a3 a4 => ?_⟩
 obtain ⟨j, b1, b2, b3⟩ := CY st fr (by omega) a3 a4
 rw [b3, fr.2 p (.inl a2)]
 exact h.cr _ _ a1 a2 b1 b2
theorem Half.right0 {lt : α → α → Bool} {l c2 : List α} {a mid e b : Nat} (h : Half lt l c2 a mid mid e b) (hn : ¬ (mid < e ∧ e < b)) (hm : mid ≤ e) (hb : e ≤ b) : Stab lt l c2 ∧ Fram a b l c2 ∧ Srt lt c2 a b := by
 refine ⟨h.st, h.fr, h.s1.glue ?_ h.cr⟩
 by_cases c : mid = e
 ·rw [c]; exact h.s4
 ·rw [show b = e by omega]; exact h.s3
def Blk (lt : α → α → Bool) (l : List α) (bs n : Nat) : Prop := ∀ t p q, t * bs ≤ p → p < q → q < (t + 1) * bs → q < n → lt (l.getD q default) (l.getD p default) = false
theorem Blk.all {lt : α → α → Bool} {l : List α} {bs n : Nat} (h : Blk lt l bs n) (hn : n ≤ bs) : Srt lt l 0 n := fun p q a1 a2 a3 => h 0 p q (by omega) a2 (by omega) a3
theorem tp {lt : α → α → Bool} {l l' : List α} {bs t0 b : Nat} (h : Blk lt l bs (t0 * bs)) (f : Fram (t0 * bs) b l l') (s : Srt lt l' (t0 * bs) b) (hb : b ≤ (t0 + 1) * bs) : Blk lt l' bs b := fun t p q a1 a2 a3 a4 => by
 by_cases c : q < t0 * bs
 ·rw [f.2 p (by omega), f.2 q (by omega)]; exact h t p q a1 a2 a3 c
 ·have e1 : t * bs < (t0 + 1) * bs := by omega
  have e2 : t0 * bs < (t + 1) * bs := by omega
  have e3 := Nat.lt_of_mul_lt_mul_right e1
  have e4 := Nat.lt_of_mul_lt_mul_right e2
  obtain rfl : t = t0 := by omega
  exact s p q a1 a2 a4
def Mix (lt : α → α → Bool) (l : List α) (bs a n : Nat) : Prop := Blk lt l (2 * bs) a ∧ ∀ t p q, t * bs ≤ p → p < q → q < (t + 1) * bs → a ≤ p → q < n → lt (l.getD q default) (l.getD p default) = false
theorem HH {lt : α → α → Bool} {l : List α} {bs n : Nat} (h : Blk lt l bs n) : Mix lt l bs 0 n := ⟨fun t p q a1 a2 a3 a4 => by omega, fun t p q a1 a2 a3 _ a5 => h t p q a1 a2 a3 a5⟩
theorem ud {lt : α → α → Bool} {l : List α} {bs n t0 m : Nat} (h : Mix lt l bs (t0 * (2 * bs)) n) (hm : m ≤ t0 * (2 * bs) + bs) (hn : m ≤ n) : Srt lt l (t0 * (2 * bs)) m := fun p q a1 a2 a3 => by
 have e : 2 * t0 * bs = t0 * (2 * bs) := by rw [Nat.mul_comm 2 t0, Nat.mul_assoc]
 refine h.2 (2 * t0) p q (by omega) a2 (by rw [Nat.add_mul]; omega) a1 (by omega)
theorem vw {lt : α → α → Bool} {l : List α} {bs n t0 b : Nat} (h : Mix lt l bs (t0 * (2 * bs)) n) (hm : b ≤ t0 * (2 * bs) + 2 * bs) (hn : b ≤ n) : Srt lt l (t0 * (2 * bs) + bs) b := fun p q a1 a2 a3 => by
 have e : 2 * t0 * bs = t0 * (2 * bs) := by rw [Nat.mul_comm 2 t0, Nat.mul_assoc]
 refine h.2 (2 * t0 + 1) p q (by rw [Nat.add_mul]; omega) a2 (by rw [Nat.add_mul, Nat.add_mul]; omega) (by omega) (by omega)
theorem DY {lt : α → α → Bool} {l l' : List α} {bs n t0 b : Nat} (h : Mix lt l bs (t0 * (2 * bs)) n) (f : Fram (t0 * (2 * bs)) b l l') (s : Srt lt l' (t0 * (2 * bs)) b) (hb : b ≤ t0 * (2 * bs) + 2 * bs) (hab : t0 * (2 * bs) ≤ b) : Mix lt l' bs b n :=
 ⟨tp h.1 f s (by rw [Nat.add_mul]; omega), fun t p q a1 a2 a3 a4 a5 => by
  rw [f.2 p (by omega), f.2 q (by omega)]; exact h.2 t p q a1 a2 a3 (by omega) a5⟩
theorem FB {lt : α → α → Bool} {l : List α} {bs n t0 : Nat} (h : Mix lt l bs (t0 * (2 * bs)) n) (hn : n ≤ t0 * (2 * bs) + bs) : Blk lt l (2 * bs) n := fun t p q a1 a2 a3 a4 => by
 by_cases c : q < t0 * (2 * bs)
 ·exact h.1 t p q a1 a2 a3 c
 ·have e1 : t * (2 * bs) < (t0 + 1) * (2 * bs) := by rw [Nat.add_mul]; omega
  have e2 : t0 * (2 * bs) < (t + 1) * (2 * bs) := by omega
  have e3 := Nat.lt_of_mul_lt_mul_right e1
  have e4 := Nat.lt_of_mul_lt_mul_right e2
  obtain rfl : t = t0 := by omega
  exact ud h hn (Nat.le_refl _) p q a1 a2 a4
end
end Go.HL
namespace Go.HL
open Go
def uA (a b : UInt32) : Int := if a < b then -1 else if b < a then 1 else 0
end Go.HL
namespace Go.HL
open Go
theorem vk {x : Int} (h : 0 ≤ x ∧ x < 4294967296) : ((u32 x).toNat : Int) = x := by
 have := rA x; omega
end Go.HL
namespace Go.HL
open Go Go.Sort
open Go.Proofs (ltOf)
def Ah (a b : Int) : Int := if a < b then -1 else if b < a then 1 else 0
def k7 (x y : Ins) : Int := uA x.addr y.addr
theorem tj (a b : UInt32) : uA a b < 0 ↔ a < b := by
 unfold uA
 split
 ·rename_i h; simp [h]
 ·rename_i h
  split
  ·simp [h]
  ·simp [h]
theorem o5 (x y : Ins) : ltOf k7 x y = decide (x.addr < y.addr) := by
 unfold ltOf k7
 congr 1
 exact propext (tj _ _)
theorem kr : SWO (ltOf k7) where
 irrefl x := by simp [o5]
 trans x y z h1 h2 := by
  simp only [o5, decide_eq_true_eq, UInt32.lt_iff_toNat_lt] at *; omega
 ntrans x y z h1 h2 := by
  simp only [o5, decide_eq_false_iff_not, UInt32.lt_iff_toNat_lt] at *; omega
theorem wH (i : Ins) : 0 ≤ im i ∧ im i ≤ 6 := by
 unfold im eZ
 split
 ·repeat' split
  all_goals omega
 ·omega
def uu (i : Ins) : Int := (i.addr.toNat : Int) + im i
def mxU (a b : UInt32) : UInt32 := if a < b then b else a
theorem FA (a b : UInt32) : (mxU a b).toNat = max a.toNat b.toNat := by
 unfold mxU
 split
 ·rename_i h; rw [UInt32.lt_iff_toNat_lt] at h; omega
 ·rename_i h; rw [UInt32.lt_iff_toNat_lt] at h; omega
def jq (a b : Ins) : Bool := ((decide (a.addr ≠ b.addr) && decide (0 < im a)) && decide (0 < im b)) && decide (((mxU a.addr b.addr).toNat : Int) < min (uu a) (uu b))
def m7 {α : Type} [DecidableEq α] : α → List α → List α
 | _, [] => []
 | x, y :: t => if y = x then m7 x t else y :: m7 y t
def fh {α : Type} [DecidableEq α] : List α → List α
 | [] => []
 | x :: t => x :: m7 x t
theorem qd {α : Type} [DecidableEq α] : ∀ (x : α) (l : List α) (y : α), m7 x (l ++ [y]) = if y = (x :: l).getLast (by simp) then m7 x l else m7 x l ++ [y]
 | x, [], y => by simp only [List.nil_append, m7, List.getLast_singleton]; by_cases h : y = x <;> simp [h]
 | x, z :: t, y => by
  have ih1 := qd z t y
  have ih2 := qd x t y
  have e : (x :: z :: t).getLast (by simp) = (z :: t).getLast (by simp) := by simp
  rw [e]
  by_cases h : z = x
  ·subst h
   simp only [List.cons_append, m7, if_true, ih1]
  ·simp only [List.cons_append, m7, h, if_false, ih1]
   split <;> rfl
theorem k5 {α : Type} [DecidableEq α] [Inhabited α] {l : List α} {k : Nat} (h0 : 0 < k) (h : k < l.length) : fh (l.take (k + 1)) = if l.getD k default = l.getD (k - 1) default then fh (l.take k) else fh (l.take k) ++ [l.getD k default] := by
 rw [dB h]
 cases l with
 | nil => simp at h
 | cons x t =>
  obtain ⟨j, rfl⟩ : ∃ j, k = j + 1 := ⟨k - 1, by omega⟩
  simp only [List.take_succ_cons, List.cons_append, fh]
  rw [qd]
  have e : (x :: t.take j).getLast (by simp) = (x :: t).getD (j + 1 - 1) default := by
   rw [List.getLast_eq_getElem]
   simp only [List.length_cons, List.length_take, Nat.add_sub_cancel]
   have hj : j ≤ t.length := by simp at h; omega
   simp only [Nat.min_eq_left hj]
   cases j with
   | zero => simp
   | succ j => simp [List.getD_eq_getElem?_getD, show j < t.length by omega]
  rw [e]
  split <;> rfl
theorem k6 {α : Type} [DecidableEq α] [Inhabited α] {l : List α} : ∀ {k : Nat}, k ≤ l.length → (∀ j, 0 < j → j < k → l.getD j default ≠ l.getD (j - 1) default) → fh (l.take k) = l.take k
 | 0, _, _ => by simp [fh]
 | k + 1, h, hne => by
  by_cases h0 : k = 0
  ·subst h0
   cases l with
   | nil => simp at h
   | cons x t => simp [fh, m7]
  ·rw [k5 (by omega) (by omega), if_neg (hne k (by omega) (by omega)), k6 (by omega) (fun j a b => hne j a (by omega)), dB (by omega)]
def inK (l : List Ins) (a : UInt32) : Bool := l.any fun x => decide (x.addr = a)
def gX (out : List Ins) (i : Ins) : List Ins := if (!inK out i.addr && decide (iM i = 0)) = true then out ++ [i] else out
def sa (l : List Ins) : List Ins := l.foldl gX []
def wZ (out : List Ins) : List (UInt32 × Bool) := out.map fun i => (i.addr, true)
theorem Ez (out : List Ins) (a : UInt32) : (dI (wZ out) a).getD false = inK out a := by
 induction out with
 | nil => rfl
 | cons x t ih =>
  unfold wZ at ih ⊢
  simp only [List.map_cons, dI, inK, List.any_cons]
  by_cases h : a = x.addr
  ·simp [h]
  ·have h' : ¬ x.addr = a := fun q => h q.symm
   rw [if_neg h, decide_eq_false h', Bool.false_or]; exact ih
theorem Ey {out : List Ins} {i : Ins} (h : inK out i.addr = false) : e8 (wZ out) i.addr true = wZ (out ++ [i]) := by
 have : dI (wZ out) i.addr = none := by
  cases hg : dI (wZ out) i.addr with
  | none => rfl
  | some b =>
   exfalso
   have hm := sx hg
   obtain ⟨x, hx, e⟩ := List.mem_map.1 hm
   have : inK out i.addr = true := List.any_eq_true.2 ⟨x, hx, by simp at e; simp [e.1]⟩
   rw [h] at this; cases this
 rw [qO this]
 simp [wZ]
theorem yU {l : List Ins} {k : Nat} (h : k < l.length) : sa (l.take (k + 1)) = gX (sa (l.take k)) (l.getD k default) := by
 unfold sa; rw [dB h, List.foldl_append]; rfl
theorem Bn : ∀ (l out : List Ins), (l.foldl gX out).length ≤ out.length + l.length
 | [], out => by simp
 | i :: t, out => by
  have h1 := Bn t (gX out i)
  have h2 : (gX out i).length ≤ out.length + 1 := by unfold gX; split <;> simp
  simp only [List.foldl_cons, List.length_cons]; omega
theorem yX (l : List Ins) : (sa l).length ≤ l.length := by have := Bn l []; simpa [sa] using this
def fu (l : List Ins) : List Ins := lT (ltOf k7) (sa l)
theorem uw (l : List Ins) : (fu l).length ≤ l.length := by unfold fu; rw [kW kr]; exact yX l
def s8 (m : List (UInt32 × Bool)) (i : Ins) : List (UInt32 × Bool) := if (c9 i).2 = true then e8 m (c9 i).1 true else m
def qp (l : List Ins) : List (UInt32 × Bool) := l.foldl s8 []
theorem xI {l : List Ins} {k : Nat} (h : k < l.length) : qp (l.take (k + 1)) = s8 (qp (l.take k)) (l.getD k default) := by
 unfold qp; rw [dB h, List.foldl_append]; rfl
def HM (l : List UInt32) (a : UInt32) : Bool := l.any fun x => decide (a = x)
def fN (ents : List UInt32) (tm : List (UInt32 × Bool)) (i : Ins) : Int := if HM ents i.addr = true then 0 else if (dI tm i.addr).getD false = true then 1 else 2
def FY (ents : List UInt32) (tm : List (UInt32 × Bool)) (x y : Ins) : Int := Ah (fN ents tm x) (fN ents tm y)
def gn (kept : List Ins) (i : Ins) : List Ins := if kept.any (jq i) = true then kept else kept ++ [i]
def kT (order : List Ins) : List Ins := order.foldl gn []
theorem vD {l : List Ins} {k : Nat} (h : k < l.length) : kT (l.take (k + 1)) = gn (kT (l.take k)) (l.getD k default) := by
 unfold kT; rw [dB h, List.foldl_append]; rfl
theorem yt : ∀ (l out : List Ins), (l.foldl gn out).length ≤ out.length + l.length
 | [], out => by simp
 | i :: t, out => by
  have h1 := yt t (gn out i)
  have h2 : (gn out i).length ≤ out.length + 1 := by unfold gn; split <;> simp
  simp only [List.foldl_cons, List.length_cons]; omega
theorem rQ (l : List Ins) : (kT l).length ≤ l.length := by have := yt l []; simpa [kT] using this
theorem vE : ∀ (l out : List Ins) (x : Ins), x ∈ l.foldl gn out → x ∈ out ∨ x ∈ l
 | [], out, x, h => .inl h
 | i :: t, out, x, h => by
  rcases vE t (gn out i) x h with h | h
  ·unfold gn at h
   split at h
   ·exact .inl h
   ·rcases List.mem_append.1 h with h | h
    ·exact .inl h
    ·simp at h; subst h; exact .inr (.head _)
  ·exact .inr (.tail _ h)
theorem yr {l : List Ins} {x : Ins} (h : x ∈ kT l) : x ∈ l := by
 rcases vE l [] x h with h | h
 ·cases h
 ·exact h
def mV (l kept : List Ins) : List UInt32 := (l.filter fun i => !inK kept i.addr).map (·.addr)
def dX (g : Ins → Int) (l : List Ins) : List Ins := l.filter (fun i => decide (g i = 0)) ++ (l.filter (fun i => decide (g i = 1)) ++ l.filter (fun i => decide (g i = 2)))
theorem FX (a b : Int) : Ah a b < 0 ↔ a < b := by
 unfold Ah
 split
 ·rename_i h; simp [h]
 ·split <;> simp_all
def ltG (g : Ins → Int) (x y : Ins) : Bool := decide (g x < g y)
theorem CW (g : Ins → Int) : WO (ltG g) where
 irr x := by simp [ltG]
 tr x y z h1 h2 := by simp only [ltG, decide_eq_true_eq] at *; omega
 ntr x y z h1 h2 := by simp only [ltG, decide_eq_false_iff_not] at *; omega
theorem FT (g : Ins → Int) (z x : Ins) : eqv (ltG g) z x = decide (g x = g z) := by
 unfold eqv ltG
 by_cases h : g x = g z
 ·simp [h]
 ·rw [decide_eq_false h]
  by_cases c : g z < g x
  ·simp [c]
  ·have : g x < g z := by omega
   simp [c, this]
theorem lp (ents : List UInt32) (tm : List (UInt32 × Bool)) (i : Ins) : fN ents tm i = 0 ∨ fN ents tm i = 1 ∨ fN ents tm i = 2 := by
 unfold fN
 repeat' split
 all_goals simp
theorem qL {g : Ins → Int} (hg : ∀ i, g i = 0 ∨ g i = 1 ∨ g i = 2) (l : List Ins) : Stab (ltG g) l (dX g l) ∧ (dX g l).Pairwise fun x y => ltG g y x = false := by
 refine ⟨⟨?_, fun z => ?_⟩, ?_⟩
 ·induction l with
  | nil => exact List.Perm.refl _
  | cons x t ih =>
   rcases hg x with h | h | h
   ·have e : dX g (x :: t) = x :: dX g t := by simp [dX, h]
    rw [e]; exact ih.cons x
   ·have e : dX g (x :: t) = t.filter (fun i => decide (g i = 0)) ++ x :: (t.filter (fun i => decide (g i = 1)) ++ t.filter (fun i => decide (g i = 2))) := by simp [dX, h]
    rw [e]; exact (ih.cons x).trans List.perm_middle.symm
   ·have e : dX g (x :: t) = (t.filter (fun i => decide (g i = 0)) ++ t.filter (fun i => decide (g i = 1))) ++ x :: t.filter (fun i => decide (g i = 2)) := by simp [dX, h]
    rw [e]
    refine (ih.cons x).trans ?_
    refine List.Perm.trans ?_ List.perm_middle.symm
    rw [List.append_assoc]; exact List.Perm.refl _
 ·have e : (fun x => eqv (ltG g) z x) = fun x => decide (g x = g z) := by funext x; exact FT g z x
  show l.filter (fun x => eqv (ltG g) z x) = (dX g l).filter (fun x => eqv (ltG g) z x)
  rw [e]
  unfold dX
  rw [List.filter_append, List.filter_append, List.filter_filter, List.filter_filter, List.filter_filter]
  have hn : ∀ c : Int, c ≠ g z → l.filter (fun x => decide (g x = g z) && decide (g x = c)) = [] := fun c hc => by
   rw [List.filter_eq_nil_iff]
   intro x _
   simp only [Bool.and_eq_true, decide_eq_true_eq, not_and]
   intro q1 q2; exact hc (q2.symm.trans q1)
  have hy : ∀ c : Int, c = g z → l.filter (fun x => decide (g x = g z) && decide (g x = c)) = l.filter (fun x => decide (g x = g z)) := fun c hc => by subst hc; simp
  rcases hg z with h | h | h
  ·rw [hy 0 h.symm, hn 1 (by omega), hn 2 (by omega)]; simp
  ·rw [hn 0 (by omega), hy 1 h.symm, hn 2 (by omega)]; simp
  ·rw [hn 0 (by omega), hn 1 (by omega), hy 2 h.symm]; simp
 ·have hc : ∀ c : Int, (l.filter (fun i => decide (g i = c))).Pairwise fun x y => ltG g y x = false := fun c => by
   rw [List.pairwise_iff_forall_sublist]
   intro a b hab
   have ha : a ∈ l.filter (fun i => decide (g i = c)) := hab.subset (by simp)
   have hb : b ∈ l.filter (fun i => decide (g i = c)) := hab.subset (by simp)
   have := of_decide_eq_true (List.mem_filter.1 ha).2
   have := of_decide_eq_true (List.mem_filter.1 hb).2
   simp only [ltG, decide_eq_false_iff_not]; omega
  have hx : ∀ (c d : Int), c ≤ d → ∀ x ∈ l.filter (fun i => decide (g i = c)), ∀ y ∈ l.filter (fun i => decide (g i = d)), ltG g y x = false := fun c d h x hx y hy => by
   have := of_decide_eq_true (List.mem_filter.1 hx).2
   have := of_decide_eq_true (List.mem_filter.1 hy).2
   simp only [ltG, decide_eq_false_iff_not]; omega
  unfold dX
  refine List.pairwise_append.2 ⟨hc 0, List.pairwise_append.2 ⟨hc 1, hc 2, hx 1 2 (by omega)⟩, fun x h1 y h2 => ?_⟩
  rcases List.mem_append.1 h2 with h2 | h2
  ·exact hx 0 1 (by omega) x h1 y h2
  ·exact hx 0 2 (by omega) x h1 y h2
theorem GU {g : Ins → Int} (hg : ∀ i, g i = 0 ∨ g i = 1 ∨ g i = 2) {l c : List Ins} (h1 : Stab (ltG g) l c) (h2 : c.Pairwise fun x y => ltG g y x = false) : c = dX g l := by
 obtain ⟨k1, k2⟩ := qL hg l
 exact rC (CW g) _ _ (h1.symm.trans k1) h2 k2
theorem Bl : ∀ (l out : List Ins) (x : Ins), x ∈ l.foldl gX out → x ∈ out ∨ x ∈ l
 | [], out, x, h => .inl h
 | i :: t, out, x, h => by
  rcases Bl t (gX out i) x h with h | h
  ·unfold gX at h
   split at h
   ·rcases List.mem_append.1 h with h | h
    ·exact .inl h
    ·simp at h; subst h; exact .inr (.head _)
   ·exact .inl h
  ·exact .inr (.tail _ h)
theorem uv {l : List Ins} {x : Ins} (h : x ∈ fu l) : x ∈ l := by
 have h1 := (ny kr (sa l)).subset h
 rcases Bl l [] x h1 with h | h
 ·cases h
 ·exact h
theorem wB {g : Ins → Int} (hg : ∀ i, g i = 0 ∨ g i = 1 ∨ g i = 2) (l : List Ins) : (dX g l).length = l.length := (qL hg l).1.len
theorem A1 {g : Ins → Int} {l : List Ins} {x : Ins} (h : x ∈ dX g l) : x ∈ l := by
 unfold dX at h
 simp only [List.mem_append, List.mem_filter] at h
 rcases h with h | h | h <;> exact h.1
theorem Ft {l kept : List Ins} {k : Nat} (h : k < l.length) (hc : inK kept (l.getD k default).addr = false) : mV (l.take (k + 1)) kept = mV (l.take k) kept ++ [(l.getD k default).addr] := by
 unfold mV
 rw [kO h (by rw [hc]; rfl), List.map_append]; rfl
theorem GQ {l kept : List Ins} {k : Nat} (h : k < l.length) (hc : inK kept (l.getD k default).addr = true) : mV (l.take (k + 1)) kept = mV (l.take k) kept := by
 unfold mV
 rw [kP h (by rw [hc]; rfl)]
theorem Fu (l kept : List Ins) : (mV l kept).length ≤ l.length := by unfold mV; rw [List.length_map]; exact List.length_filter_le _ _
structure ResV where
 kept : List Ins
 ents : List UInt32
 unk : List UInt32
 bad : List UInt32
 rem : List UInt32
def gl (ins : List Ins) (ents unk bad : List UInt32) : ResV :=
 let l := fu ins
 let kept := lT (ltOf k7) (kT (dX (fN ents (qp l)) l))
 ⟨kept, ents.filter (inK kept), unk.filter (inK kept), bad, mV l kept⟩
end Go.HL
namespace Go.HL
open Go Go.Sort
open Go.Proofs (ltOf)
section
variable {α : Type} [DecidableEq α] [Inhabited α]
theorem wu {lt : α → α → Bool} (irr : ∀ x, lt x x = false) (tr : ∀ x y z, lt x y = true → lt y z = true → lt x z = true) : ∀ (l m : List α), l.Pairwise (fun a b => lt a b = true) → m.Pairwise (fun a b => lt a b = true) → (∀ x, x ∈ l ↔ x ∈ m) → l = m
 | [], [], _, _, _ => rfl
 | [], y :: m, _, _, h => absurd ((h y).2 (.head _)) (by simp)
 | x :: l, [], _, _, h => absurd ((h x).1 (.head _)) (by simp)
 | x :: l, y :: m, h1, h2, h => by
  have p1 := List.pairwise_cons.1 h1
  have p2 := List.pairwise_cons.1 h2
  have e : x = y := by
   rcases List.mem_cons.1 ((h x).1 (.head _)) with e | hx
   ·exact e
   ·rcases List.mem_cons.1 ((h y).2 (.head _)) with e | hy
    ·exact e.symm
    ·have := tr _ _ _ (p2.1 x hx) (p1.1 y hy)
     rw [irr] at this; cases this
  subst e
  have : l = m := wu irr tr l m p1.2 p2.2 fun z => by
   constructor
   ·intro hz
    rcases List.mem_cons.1 ((h z).1 (.tail _ hz)) with e | hm
    ·subst e; have := p1.1 z hz; rw [irr] at this; cases this
    ·exact hm
   ·intro hz
    rcases List.mem_cons.1 ((h z).2 (.tail _ hz)) with e | hm
    ·subst e; have := p2.1 z hz; rw [irr] at this; cases this
    ·exact hm
  rw [this]
end
def Dz (a b : Ins) : Bool := (((decide (a.addr ≠ b.addr) && decide (iM a = 0)) && decide (iM b = 0)) && decide ((a.addr.toNat : Int) < uu b)) && decide ((b.addr.toNat : Int) < uu a)
theorem wI {i : Ins} : 0 < im i ↔ iM i = 0 := by
 unfold im
 split
 ·rename_i h
  have := (enc_facts0 i)
  constructor
  ·intro _; exact h
  ·intro _
   unfold eZ
   repeat' split
   all_goals omega
 ·rename_i h; constructor
  ·intro q; omega
  ·intro q; exact absurd q h
where enc_facts0 (i : Ins) : True := trivial
theorem uy {a b : Ins} : jq a b = true ↔ a.addr.toNat ≠ b.addr.toNat ∧ iM a = 0 ∧ iM b = 0 ∧ (a.addr.toNat : Int) < uu b ∧ (b.addr.toNat : Int) < uu a := by
 have e : a.addr ≠ b.addr ↔ a.addr.toNat ≠ b.addr.toNat := by rw [Ne, Ne, UInt32.toNat_inj]
 unfold jq
 simp only [Bool.and_eq_true, decide_eq_true_eq, wI, FA, e]
 have h1 := wH a
 have h2 := wH b
 unfold uu
 constructor
 ·rintro ⟨⟨⟨q1, q2⟩, q3⟩, q4⟩; refine ⟨q1, q2, q3, ?_, ?_⟩ <;> omega
 ·rintro ⟨q1, q2, q3, q4, q5⟩
  have p1 := wI.2 q2
  have p2 := wI.2 q3
  exact ⟨⟨⟨q1, q2⟩, q3⟩, by omega⟩
theorem HE (a b : Ins) : Dz a b = jq a b := by
 rw [Bool.eq_iff_iff, uy]
 have e : a.addr ≠ b.addr ↔ a.addr.toNat ≠ b.addr.toNat := by rw [Ne, Ne, UInt32.toNat_inj]
 unfold Dz
 simp only [Bool.and_eq_true, decide_eq_true_eq, e]
 exact ⟨fun ⟨⟨⟨⟨q1, q2⟩, q3⟩, q4⟩, q5⟩ => ⟨q1, q2, q3, q4, q5⟩, fun ⟨q1, q2, q3, q4, q5⟩ => ⟨⟨⟨⟨q1, q2⟩, q3⟩, q4⟩, q5⟩⟩
theorem Ex (a b : Ins) : jq a b = jq b a := by
 rw [Bool.eq_iff_iff, uy, uy]
 exact ⟨fun ⟨q1, q2, q3, q4, q5⟩ => ⟨Ne.symm q1, q3, q2, q5, q4⟩, fun ⟨q1, q2, q3, q4, q5⟩ => ⟨Ne.symm q1, q3, q2, q5, q4⟩⟩
end Go.HL
namespace Go.Proofs.YtiajjbhcpeadfaaGreat
open Go Go.HL Go.RowKit
theorem yY (a b : UInt32) (w : World) :
  Cr Tryz.prog 84 #[.int .u32 a.toNat, .int .u32 b.toNat] w (.int .i64 (uA a b)) := by
 refine enter Tryz.func84 rfl Tryz.ntmps84 rfl ?_
 refine ah (zz0 (ab rfl) (aI (zz0 (aa rfl) (zz0 (az rfl nO (fun w hw => qN a w)) ?_))))
 refine zz0 (ab rfl) (aI (zz0 (aa rfl) (zz0 (az rfl nO (fun w hw => qN b w)) ?_)))
 refine zz0 (ab rfl) (ad (an (ah (zz0 (aa rfl) (ad ?_)))))
 refine au rfl ?_ ?_ <;> intro h1 <;> try simp only [bs] at h1
 ·first | contradiction | (exfalso; omega) | simp_all
 refine bC (an (ah (zz0 (aa rfl) (ad ?_))))
 refine au rfl ?_ ?_ <;> intro h2 <;> try simp only [bs] at h2
 ·first | contradiction | (exfalso; omega) | simp_all
 refine bC (an (ah (zz0 (aa rfl) (zz0 (aa rfl) (zz0 (iu rfl rfl) ?_)))))
 refine ad ?_
 refine au rfl ?_ ?_ <;> intro h3 <;> try simp only [bs] at h3
 ·refine ah (zz0 (ab rfl) (ad (aC (ay ?_))))
  refine aX Tryz.results84 rfl (fun w' hw => ?_)
  exact ⟨by rw [uA, if_pos (by assumption)], hw.b0⟩
 refine bC (an (ah (zz0 (aa rfl) (zz0 (aa rfl) (zz0 (kD rfl rfl) ?_)))))
 refine ad ?_
 refine au rfl ?_ ?_ <;> intro h4 <;> try simp only [bs] at h4
 ·refine ah (zz0 (ab rfl) (ad (aC (ay ?_))))
  refine aX Tryz.results84 rfl (fun w' hw => ?_)
  exact ⟨by rw [uA, if_neg (by assumption), if_pos (by assumption)], hw.b0⟩
 refine dz (zz0 (ab rfl) (ad (aC ?_)))
 refine aX Tryz.results84 rfl (fun w' hw => ?_)
 exact ⟨by rw [uA, if_neg (by assumption), if_neg (by assumption)], hw.b0⟩
theorem yj (a : Int) (w : World) :
  Cr Tryz.prog 147 #[.int .i64 a] w (.bool false) := by
 refine enter Tryz.func147 rfl Tryz.ntmps147 rfl ?_
 refine ah (zz0 (ab rfl) (aI (zz0 (aa rfl) (zz0 (aa rfl) (zz0 (fH rfl rfl) (zz0 (ab rfl) (ad (aC ?_))))))))
 refine aX Tryz.results147 rfl (fun w' hw => ?_)
 exact ⟨by simp, hw.b0⟩
theorem EA (a b : Int) (w : World) :
  Cr Tryz.prog 80 #[.int .i64 a, .int .i64 b] w (.int .i64 (Ah a b)) := by
 refine enter Tryz.func80 rfl Tryz.ntmps80 rfl ?_
 refine ah (zz0 (ab rfl) (aI (zz0 (aa rfl) (zz0 (az rfl Tryz.call147 (fun w hw => yj a w)) ?_))))
 refine zz0 (ab rfl) (aI (zz0 (aa rfl) (zz0 (az rfl Tryz.call147 (fun w hw => yj b w)) ?_)))
 refine zz0 (ab rfl) (ad (an (ah (zz0 (aa rfl) (ad ?_)))))
 refine au rfl ?_ ?_ <;> intro h1 <;> try simp only [bs] at h1
 ·first | contradiction | (exfalso; omega) | simp_all
 refine bC (an (ah (zz0 (aa rfl) (ad ?_))))
 refine au rfl ?_ ?_ <;> intro h2 <;> try simp only [bs] at h2
 ·first | contradiction | (exfalso; omega) | simp_all
 refine bC (an (ah (zz0 (aa rfl) (zz0 (aa rfl) (zz0 (bT rfl rfl) (ad ?_))))))
 refine au rfl ?_ ?_ <;> intro h3 <;> try simp only [bs] at h3
 ·refine ah (zz0 (ab rfl) (ad (aC (ay ?_))))
  refine aX Tryz.results80 rfl (fun w' hw => ?_)
  exact ⟨by rw [Ah, if_pos (by assumption)], hw.b0⟩
 refine bC (an (ah (zz0 (aa rfl) (zz0 (aa rfl) (zz0 (fg rfl rfl) (ad ?_))))))
 refine au rfl ?_ ?_ <;> intro h4 <;> try simp only [bs] at h4
 ·refine ah (zz0 (ab rfl) (ad (aC (ay ?_))))
  refine aX Tryz.results80 rfl (fun w' hw => ?_)
  exact ⟨by rw [Ah, if_neg (by assumption), if_pos (by assumption)], hw.b0⟩
 refine dz (zz0 (ab rfl) (ad (aC ?_)))
 refine aX Tryz.results80 rfl (fun w' hw => ?_)
 exact ⟨by rw [Ah, if_neg (by assumption), if_neg (by assumption)], hw.b0⟩
theorem vG (l : List UInt32) (V : Value) (a : UInt32) (w : World) (hV : Sl (hp w) al l V) :
  Cr Tryz.prog 145 #[V, .int .u32 a.toNat] w (.int .i64 (dY (fun x => decide (a = x)) 0 l)) := by
 have hV' : Sl (Bg.of w).blk al l V := hV
 have hlen := hV.len_le
 refine enter Tryz.func145 rfl Tryz.ntmps145 rfl ?_
 refine ah (zz0 (ab rfl) (ad (an (ah (zz0 (aa rfl) (zz0 (gj rfl af) ?_))))))
 refine zz0 (aa rfl) (ad (aF ?_))
 refine bL (ι := Nat) (fun k => k ≤ l.length ∧ dY (fun x => decide (a = x)) k (l.drop k) = dY (fun x => decide (a = x)) 0 l) (fun _ => _) (fun k => []) (fun k => [(8, .int .i64 (k : Nat))]) (fun k => l.length - k) 0 ⟨Nat.zero_le _, rfl⟩ (Front.c Front.nil) (by repeat' constructor) rfl (fun k hi m hm => ?_)
 replace hi : k ≤ l.length ∧ dY (fun x => decide (a = x)) k (l.drop k) = dY (fun x => decide (a = x)) 0 l := hi
 replace hm : m = l.length - k := hm
 change Tr _ _ [] ([(8, .int .i64 (k : Nat))] ++ _) _
 obtain ⟨hk1, hk2⟩ := hi
 refine ah (zz0 (bT rfl rfl) (ad (an ?_)))
 refine au rfl ?_ ?_ <;> intro h1 <;> try simp only [bs] at h1
 ·refine bC (an (aF (ah (zz0 (aa rfl) (zz0 (ab rfl) (aI (zz0 (aa rfl) (zz0 (aa rfl) ?_))))))))
  refine zz0 (aa rfl) (zz0 (iH rfl rfl af ae) ?_)
  refine zz0 (jl rfl am) ?_
  refine zz0 (eE rfl rfl) ?_
  refine ad ?_
  refine au rfl ?_ ?_ <;> intro h2 <;> try simp only [bs] at h2
  ·refine ah (zz0 (aa rfl) (zz0 (ab rfl) (ad (aC (bv (ay (ay (bv (ay ?_)))))))))
   refine aX Tryz.results145 rfl (fun w' hw => ?_)
   exact ⟨by rw [← hk2, drop_cons (k := k) (by omega), dY, if_pos (by simp_all)], hw.b0⟩
  refine cd (aY (ac (ar (zz0 (cB rfl rfl) ?_))))
  refine zz0 (aa rfl) (ad ?_)
  refine cK (k + 1) (Front.c Front.nil) (zz8 12 rfl) (o := ⟨by omega, by rw [← hk2, drop_cons (k := k) (by omega), dY, if_neg (by simp_all)]⟩)
 refine bJ (aG (aG (bj (ac (ah (zz0 (ab rfl) (ad (aC ?_))))))))
 refine aX Tryz.results145 rfl (fun w' hw => ?_)
 exact ⟨by rw [← hk2, List.drop_of_length_le (by omega)]; rfl, hw.b0⟩
theorem wW (l : List UInt32) (V : Value) (a : UInt32) (w : World) (hV : Sl (hp w) al l V) :
  Cr Tryz.prog 76 #[V, .int .u32 a.toNat] w (.bool (HM l a)) := by
 have hV' : Sl (Bg.of w).blk al l V := hV
 have hlen := hV.len_le
 refine enter Tryz.func76 rfl Tryz.ntmps76 rfl ?_
 refine ah (zz0 (ab rfl) (aI (zz0 (aa rfl) (zz0 (aa rfl) (zz0 (az rfl Tryz.call145 (fun w hw => vG l V a w (hw.slF hV'))) ?_)))))
 refine zz0 (eM rfl rfl) (zz0 (ab rfl) (ad (aC ?_)))
 refine aX Tryz.results76 rfl (fun w' hw => ?_)
 exact ⟨by rw [qW]; rfl, hw.b0⟩
theorem sb (l : List UInt32) (V : Value) (w : World) (hV : Sl (hp w) al l V) (hb : l.length ≤ 1000000) :
  Calls Tryz.prog 57 #[V] w (fun e w' => ∃ V', e = .returned V' ∧ Ext w w' ∧ js w w' 23 al (l) V') := by
 have hV' : Sl (Bg.of w).blk al l V := hV
 refine enter Tryz.func57 rfl Tryz.ntmps57 rfl ?_
 refine ah (zz0 (ab rfl) (ad (an (ah (zz0 (aa rfl) (zz0 (qk rfl (by assumption) af) ?_))))))
 refine ad ?_
 refine au rfl ?_ ?_ <;> intro h1 <;> try simp only [bs] at h1
 ·refine ah (zz0 (ab rfl) (ad (aC (ay ?_))))
  refine aX Tryz.results57 rfl (fun w' hw => ?_)
  exact ⟨_, rfl, hw.b0, fD (hV.isNil h1)⟩
 refine dz ?_
 refine xo al af ae rfl (fun V2 => ?_)
 refine zz0 (aa rfl) ?_
 refine BE rfl rfl (by repeat constructor) (fun w hw => hw.slF (by assumption)) af eS (fun V3 => ?_)
 refine zz0 (ab rfl) (ad (aC ?_))
 refine aX Tryz.results57 rfl (fun w' hw => ?_)
 exact ⟨_, rfl, hw.b0, hw.new (.head _)⟩
theorem vQ (l : List Ins) (V : Value) (w : World) (hV : Sl (hp w) aM l V) (hb : l.length ≤ 1000000) :
  Calls Tryz.prog 77 #[V] w (fun e w' => ∃ V', e = .returned V' ∧ Ext w w' ∧ js w w' 36 aM (l) V') := by
 have hV' : Sl (Bg.of w).blk aM l V := hV
 refine enter Tryz.func77 rfl Tryz.ntmps77 rfl ?_
 refine ah (zz0 (ab rfl) (ad (an (ah (zz0 (aa rfl) (zz0 (qk rfl (by assumption) aL) ?_))))))
 refine ad ?_
 refine au rfl ?_ ?_ <;> intro h1 <;> try simp only [bs] at h1
 ·refine ah (zz0 (ab rfl) (ad (aC (ay ?_))))
  refine aX Tryz.results77 rfl (fun w' hw => ?_)
  exact ⟨_, rfl, hw.b0, fD (hV.isNil h1)⟩
 refine dz ?_
 refine xo aM aL ax rfl (fun V2 => ?_)
 refine zz0 (aa rfl) ?_
 refine BE rfl rfl (by repeat constructor) (fun w hw => hw.slF (by assumption)) aL j7 (fun V3 => ?_)
 refine zz0 (ab rfl) (ad (aC ?_))
 refine aX Tryz.results77 rfl (fun w' hw => ?_)
 exact ⟨_, rfl, hw.b0, hw.new (.head _)⟩
theorem pL (l : List Ins) (V : Value) (g : FuncId) (cb : List Value) (w : World) (hV : Sl (hp w) aM l V) (eg : ∀ args w, (callFunc g args).run Tryz.prog w = .ok (.enter g args) w) (p : Ins → Bool) (hp : ∀ x, x ∈ l → ∀ w', Ext w w' → Calls Tryz.prog g ([Value.agg (aM.enc x).toArray] ++ cb).toArray w' fun e w'' => e = .returned (.bool (p x)) ∧ Ext w' w'') :
  Cr Tryz.prog 152 #[V, .func (.func g) #[] cb.toArray] w (.int .i64 (dY p 0 l)) := by
 have hV' : Sl (Bg.of w).blk aM l V := hV
 have hlen := hV.len_le
 refine enter Tryz.func152 rfl Tryz.ntmps152 rfl ?_
 refine ah (zz0 (ab rfl) (ad (an (ah (zz0 (aa rfl) (zz0 (gj rfl aL) ?_))))))
 refine zz0 (aa rfl) (ad (aF ?_))
 refine bL (ι := Nat) (fun k => k ≤ l.length ∧ dY p k (l.drop k) = dY p 0 l) (fun _ => _) (fun k => []) (fun k => [(8, .int .i64 (k : Nat))]) (fun k => l.length - k) 0 ⟨Nat.zero_le _, rfl⟩ (Front.c Front.nil) (by repeat' constructor) rfl (fun k hi m hm => ?_)
 replace hi : k ≤ l.length ∧ dY p k (l.drop k) = dY p 0 l := hi
 replace hm : m = l.length - k := hm
 change Tr _ _ [] ([(8, .int .i64 (k : Nat))] ++ _) _
 obtain ⟨hk1, hk2⟩ := hi
 refine ah (zz0 (bT rfl rfl) (ad (an ?_)))
 refine au rfl ?_ ?_ <;> intro h1 <;> try simp only [bs] at h1
 ·refine bC (an (aF (ah (zz0 (aa rfl) (zz0 (ab rfl) (aI (zz0 (aa rfl) (zz0 (aa rfl) ?_))))))))
  refine zz0 (aa rfl) (zz0 (iH rfl rfl aL ax) ?_)
  refine zz0 (pB rfl aQ ax) ?_
  refine zz0 (hZ rfl rfl eg (fun w hw => hp _ (df (by omega)) w (hw.b0))) ?_
  refine ad ?_
  refine au rfl ?_ ?_ <;> intro h2 <;> try simp only [bs] at h2
  ·refine ah (zz0 (aa rfl) (zz0 (ab rfl) (ad (aC (bv (ay (ay (bv (ay ?_)))))))))
   refine aX Tryz.results152 rfl (fun w' hw => ?_)
   exact ⟨by rw [← hk2, drop_cons (k := k) (by omega), dY, if_pos (by assumption)], hw.b0⟩
  refine cd (aY (ac (ar (zz0 (cB rfl rfl) ?_))))
  refine zz0 (aa rfl) (ad ?_)
  refine cK (k + 1) (Front.c Front.nil) (zz8 12 rfl) (o := ⟨by omega, by rw [← hk2, drop_cons (k := k) (by omega), dY, if_neg (by simp_all)]⟩)
 refine bJ (aG (aG (bj (ac (ah (zz0 (ab rfl) (ad (aC ?_))))))))
 refine aX Tryz.results152 rfl (fun w' hw => ?_)
 exact ⟨by rw [← hk2, List.drop_of_length_le (by omega)]; rfl, hw.b0⟩
theorem j2 (l : List Ins) (V : Value) (g : FuncId) (cb : List Value) (w : World) (hV : Sl (hp w) aM l V) (eg : ∀ args w, (callFunc g args).run Tryz.prog w = .ok (.enter g args) w) (p : Ins → Bool) (hp : ∀ x, x ∈ l → ∀ w', Ext w w' → Calls Tryz.prog g ([Value.agg (aM.enc x).toArray] ++ cb).toArray w' fun e w'' => e = .returned (.bool (p x)) ∧ Ext w' w'') :
  Cr Tryz.prog 86 #[V, .func (.func g) #[] cb.toArray] w (.bool (l.any p)) := by
 have hV' : Sl (Bg.of w).blk aM l V := hV
 refine enter Tryz.func86 rfl Tryz.ntmps86 rfl ?_
 refine ah (zz0 (ab rfl) (aI (zz0 (aa rfl) (zz0 (aa rfl) (zz0 (az rfl Tryz.call152 (fun w hw => pL l V g cb w (hw.slF hV') eg p (fun x hx w'' h => hp x hx w'' ((hw.b0).trans h)))) ?_)))))
 refine zz0 (eM rfl rfl) (zz0 (ab rfl) (ad (aC ?_)))
 refine aX Tryz.results86 rfl (fun w' hw => ?_)
 exact ⟨by rw [qW], hw.b0⟩
theorem ll (a b : List UInt32) (V W : Value) (w : World) (hV : Sl (hp w) al a V) (hW : Sl (hp w) al b W) :
  Cr Tryz.prog 22 #[V, W] w (.bool (decide (a = b))) := by
 have hV' : Sl (Bg.of w).blk al a V := hV
 have hW' : Sl (Bg.of w).blk al b W := hW
 have hl1 := hV.len_le
 have hl2 := hW.len_le
 refine enter Tryz.func22 rfl Tryz.ntmps22 rfl ?_
 refine ah (zz0 (ab rfl) (ad (an (ah (zz0 (aa rfl) (zz0 (gj rfl af) ?_))))))
 refine zz0 (aa rfl) (zz0 (gj rfl af) ?_)
 refine zz0 (fH rfl rfl) (ad ?_)
 refine au rfl ?_ ?_ <;> intro h1 <;> try simp only [bs] at h1
 ·refine ah (zz0 (ab rfl) (ad (aC (ay ?_))))
  refine aX Tryz.results22 rfl (fun w' hw => ?_)
  exact ⟨by rw [decide_eq_false (fun e => by subst e; omega)], hw.b0⟩
 refine bC (an (ah (zz0 (ab rfl) (ad (aF ?_)))))
 refine bL (ι := Nat) (fun k => k ≤ a.length ∧ a.take k = b.take k) (fun _ => _) (fun k => []) (fun k => [(5, .int .i64 (k : Nat))]) (fun k => a.length - k) 0 ⟨by omega, rfl⟩ (Front.c Front.nil) (by repeat' constructor) rfl (fun k hi m hm => ?_)
 replace hi : k ≤ a.length ∧ a.take k = b.take k := hi
 replace hm : m = a.length - k := hm
 change Tr _ _ [] ([(5, .int .i64 (k : Nat))] ++ _) _
 obtain ⟨hk1, hk3⟩ := hi
 refine an (ah (zz0 (aa rfl) (zz0 (aa rfl) (zz0 (gj rfl af) ?_))))
 refine zz0 (bT rfl rfl) (ad ?_)
 refine au rfl ?_ ?_ <;> intro h2 <;> try simp only [bs] at h2
 ·refine bC (an (aF (an (gZ aP ?_))))
  refine aw (aa rfl) (aw (aa rfl) (aw (iH rfl rfl af ae) ?_))
  refine aw (jl rfl am) ?_
  refine aw (aa rfl) (aw (aa rfl) (aw (iH rfl rfl af ae) ?_))
  refine aw (jl rfl am) ?_
  refine aw (iU rfl rfl) ?_
  refine bH ?_
  refine ac ?_
  refine au rfl ?_ ?_ <;> intro h3 <;> try simp only [bs] at h3
  ·refine ah (zz0 (ab rfl) (ad (aC (bv (ay (ay (bv (ay ?_))))))))
   refine aX Tryz.results22 rfl (fun w' hw => ?_)
   exact ⟨by rw [decide_eq_false (fun e => by subst e; simp_all)], hw.b0⟩
  refine cd (aY (ac (ar (zz0 (aa rfl) (zz0 (cB rfl rfl) ?_)))))
  refine zz0 (ab rfl) (ad ?_)
  refine cK (k + 1) (Front.c Front.nil) (zz8 17 rfl) (o := ⟨by omega, by rw [dB (by omega), dB (by omega), hk3]; congr 2⟩)
 refine bJ (aG (aG (bj (ac (ah (zz0 (ab rfl) (ad (aC ?_))))))))
 refine aX Tryz.results22 rfl (fun w' hw => ?_)
 exact ⟨by rw [decide_eq_true (show a = b by rw [← List.take_of_length_le (show a.length ≤ k by omega), hk3, List.take_of_length_le (by omega)])], hw.b0⟩
end Go.Proofs.YtiajjbhcpeadfaaGreat
namespace Go.HL
open Go
def eL : Enc (Int × Bool) := ⟨2, fun e => [.int .i64 e.1, .bool e.2], fun _ => rfl, fun x v h => by simp at h; rcases h with h | h <;> subst h <;> rfl⟩
def jJ (l : List Ins) (st : List StV) (gd : List Int) (k : Nat) (e : Int × Bool) : StV :=
 if (l.getD k default).op = 23 ∨ (l.getD k default).op = 24 then xG
 else if (l.getD k default).op = 20 ∧ 0 ≤ gd.getD k default then qJ (l.getD k default).cc (l.getD (gd.getD k default).toNat default) (st.getD k default) e.2
 else iJ (l.getD k default) (st.getD k default)
def iY (l : List Ins) (st : List StV) (a : UInt32) : StV × Bool :=
 if dY (fun i : Ins => decide (i.addr = a)) 0 l < 0 ∨ (st.length : Int) ≤ dY (fun i : Ins => decide (i.addr = a)) 0 l then (gk, false)
 else (st.getD (dY (fun i : Ins => decide (i.addr = a)) 0 l).toNat default, true)
section
variable {P : Program} {N : Nat} {F : Bg} {L L' A : List Ent} {M : Fr} {X : Act → World → Prop}
theorem AY {α : Type} {f : α → Ent} : ∀ (rs : List α) (i : Nat) (h : i < rs.length), (rs.map f).Perm (f rs[i] :: (rs.eraseIdx i).map f)
 | x :: t, 0, _ => .refl _
 | x :: t, i + 1, h => ((AY t i (by simpa using h)).cons (f x)).trans (.swap _ _ _)
theorem yf {α : Type} {f : α → Ent} (y : α) : ∀ (rs : List α) (i : Nat) (h : i < rs.length), (f y :: (rs.eraseIdx i).map f).Perm ((rs.set i y).map f)
 | x :: t, 0, _ => .refl _
 | x :: t, i + 1, h => (List.Perm.swap _ _ _).trans ((yf y t i (by simpa using h)).cons (f x))
theorem B5 {α : Type} {f : α → Ent} {rs : List α} (i : Nat) (h : i < rs.length) : (A ++ (rs.map f ++ L)).Perm (f rs[i] :: (A ++ ((rs.eraseIdx i).map f ++ L))) :=
 (((AY rs i h).append_right L).append_left A).trans List.perm_middle
theorem B2 {α : Type} {f : α → Ent} {rs : List α} (i : Nat) (y : α) (h : i < rs.length) : (f y :: (A ++ ((rs.eraseIdx i).map f ++ L))).Perm (A ++ ((rs.set i y).map f ++ L)) :=
 List.perm_middle.symm.trans (((yf y rs i h).append_right L).append_left A)
theorem Gg {α : Type} {f : α → Ent} {rs : List α} (i : Nat) (h : i < rs.length) (K : Tr N F (f rs[i] :: (A ++ ((rs.eraseIdx i).map f ++ L))) M X) : Tr N F (A ++ (rs.map f ++ L)) M X :=
 fun a w ha hw => K a w ha (hw.perm (B5 i h).symm)
theorem xn {α : Type} {f : α → Ent} {rs : List α} (i : Nat) (y : α) (h : i < rs.length) (K : Tr N F (A ++ ((rs.set i y).map f ++ L)) M X) : Tr N F (f y :: (A ++ ((rs.eraseIdx i).map f ++ L))) M X :=
 fun a w ha hw => K a w ha (hw.perm (B2 i y h).symm)
theorem rl {α : Type} {T : TypeId} {E : Enc α} : ∀ (rs : List (Value × List α)) {F : Bg}, (∀ F', F.le F' → (∀ r ∈ rs, Sl F'.blk E r.2 r.1) → Tr N F' L M X) → Tr N F (rs.map (fun r => rowE r.1 T E r.2) ++ L) M X
  | [], F, K => K F (Bg.le.refl _) (fun r hr => absurd hr (by simp))
  | r :: t, F, K => j6 (V := r.1) (T := T) (E := E) (l := r.2) (.here _) fun F1 h1 hs => rl t fun F2 h2 ht => K F2 (h1.trans h2) (fun x hx => by
      rcases List.mem_cons.1 hx with rfl | hx
      · exact hs.mono h2.blk
      · exact ht x hx)
end
end Go.HL
namespace Go.HL
open Go Go.RowKit
section
variable {P : Program}
inductive FieldsRS (P : Program) (d : Nat) (xs ys : Array Value) : List Field → List Bool → Prop
 | nil : FieldsRS P d xs ys [] []
 | cons {f : Field} {fs : List Field} {u v : Value} {b : Bool} {bs : List Bool} (hn : f.name ≠ "_") (hx : ∀ w, (part f.type xs f.offset).run P w = .ok u w) (hy : ∀ w, (part f.type ys f.offset).run P w = .ok v w)
   (he : ∀ w, (Op.equalIn d f.type u v).run P w = .ok b w) (h : FieldsRS P d xs ys fs bs) : FieldsRS P d xs ys (f :: fs) (b :: bs)
theorem nX {d : Nat} {xs ys : Array Value} (w : World) : ∀ {fs : List Field} {bs : List Bool}, FieldsRS P d xs ys fs bs → (Op.eqFields d xs ys fs).run P w = .ok (bs.all id) w
 | [], _, .nil => by simp [Op.eqFields]
 | f :: fs, _, .cons (b := b) (bs := bs) hn hx hy he h => by
  have ih := nX w h
  simp only [Op.eqFields, hn, ne_eq, not_false_eq_true, if_true, Sem.run_bind, List.all_cons, hx, hy, he, Result.andThen_ok]
  cases b
  ·simp
  ·simpa using ih
theorem tU {t : TypeId} {cs vs : List Value} {o k : Nat} (ha : ∀ w, (isAgg t).run P w = .ok true w) (hz : ∀ w, (sizeOf t).run P w = .ok k w) (hv : (cs.drop o).take k = vs) (w : World) : (part t cs.toArray o).run P w = .ok (.agg vs.toArray) w := by
 simp [part, ha, hz, hv]
theorem BQ {d : Nat} {t : TypeId} {fs : Array Field} (ht : P.underlying t = some (.struct fs)) (hw : WordFields P fs.toList [.bool, .bool, .int .u32, .int .u32, .int .u32]) (ho : fs.toList.map (·.offset) = [0, 1, 2, 3, 4])
  (hh : P.stoodInHeld t = false) (x y : VSet) (w : World) : (Op.equalIn (d + 1 + 1) t (.agg (bO.enc x).toArray) (.agg (bO.enc y).toArray)).run P w = .ok (decide (x = y)) w := by
 have hf : P.fieldsOf t = fs := by simp [Program.fieldsOf, ht]
 rw [run_equalIn_struct w _ t _ _ (by rw [hf]; exact ht) hh, hf]
 obtain ⟨h1, h2⟩ := tL x y
 rw [jF _ _ _ w fs.toList _ hw (fun j f e hj he => h1 j f.offset e (by rw [← ho]; simp [hj]) he), ← h2, ← ho, List.all_map]
 rfl
theorem BR {d k : Nat} {t e : TypeId} {xs ys : Array Value} (u v : Nat → Value) (b : Nat → Bool) (ht : P.underlying t = some (.array 8 e)) (hz : ∀ w, (sizeOf e).run P w = .ok k w)
  (hx : ∀ i, i < 8 → ∀ w, (part e xs (i * k)).run P w = .ok (u i) w) (hy : ∀ i, i < 8 → ∀ w, (part e ys (i * k)).run P w = .ok (v i) w) (he : ∀ i, i < 8 → ∀ w, (Op.equalIn (d + 1) e (u i) (v i)).run P w = .ok (b i) w) (w : World) :
  (Op.equalIn (d + 1 + 1) t (.agg xs) (.agg ys)).run P w = .ok (b 0 && b 1 && b 2 && b 3 && b 4 && b 5 && b 6 && b 7) w := by
 have x0 := hx 0 (by omega); have x1 := hx 1 (by omega); have x2 := hx 2 (by omega); have x3 := hx 3 (by omega); have x4 := hx 4 (by omega); have x5 := hx 5 (by omega); have x6 := hx 6 (by omega); have x7 := hx 7 (by omega)
 have y0 := hy 0 (by omega); have y1 := hy 1 (by omega); have y2 := hy 2 (by omega); have y3 := hy 3 (by omega); have y4 := hy 4 (by omega); have y5 := hy 5 (by omega); have y6 := hy 6 (by omega); have y7 := hy 7 (by omega)
 have e0 := he 0 (by omega); have e1 := he 1 (by omega); have e2 := he 2 (by omega); have e3 := he 3 (by omega); have e4 := he 4 (by omega); have e5 := he 5 (by omega); have e6 := he 6 (by omega); have e7 := he 7 (by omega)
 rw [Nat.zero_mul] at x0 y0; rw [Nat.one_mul] at x1 y1
 rw [Op.equalIn]
 simp only [Sem.run_bind, run_underlying ht, Result.andThen_ok, hz, Std.Legacy.Range.forIn_eq_forIn_range', Std.Legacy.Range.size]
 simp [List.range', x0, x1, x2, x3, x4, x5, x6, x7, y0, y1, y2, y3, y4, y5, y6, y7, e0, e1, e2, e3, e4, e5, e6, e7]
 generalize b 0 = c0; generalize b 1 = c1; generalize b 2 = c2; generalize b 3 = c3; generalize b 4 = c4; generalize b 5 = c5; generalize b 6 = c6; generalize b 7 = c7
 cases c0 <;> simp
 cases c1 <;> simp
 cases c2 <;> simp
 cases c3 <;> simp
 cases c4 <;> simp
 cases c5 <;> simp
 cases c6 <;> simp
 cases c7 <;> simp
theorem BN (x y : StV) : (decide (x.r0 = y.r0) && decide (x.r1 = y.r1) && decide (x.r2 = y.r2) && decide (x.r3 = y.r3) && decide (x.r4 = y.r4) && decide (x.r5 = y.r5) && decide (x.r6 = y.r6) && decide (x.r7 = y.r7)) = decide (x = y) := by
 rw [Bool.eq_iff_iff]
 cases x; cases y
 simp only [Bool.and_eq_true, decide_eq_true_eq, StV.mk.injEq, and_assoc]
structure StTy (P : Program) (t : TypeId) : Prop where
 ex : ∃ (tr ts : TypeId) (f0 : Field) (fs : Array Field), P.underlying t = some (.struct #[f0]) ∧ f0.name ≠ "_" ∧ f0.type = tr ∧ f0.offset = 0 ∧ P.stoodInHeld t = false ∧ P.underlying tr = some (.array 8 ts) ∧ (∀ w, (isAgg tr).run P w = .ok true w) ∧ (∀ w, (sizeOf tr).run P w = .ok 40 w) ∧
  P.underlying ts = some (.struct fs) ∧ WordFields P fs.toList [.bool, .bool, .int .u32, .int .u32, .int .u32] ∧ fs.toList.map (·.offset) = [0, 1, 2, 3, 4] ∧ P.stoodInHeld ts = false ∧ (∀ w, (isAgg ts).run P w = .ok true w) ∧ (∀ w, (sizeOf ts).run P w = .ok 5 w)
theorem xZ {t : TypeId} (h : StTy P t) (x y : StV) (w : World) : (Op.equal t (.agg (cF.enc x).toArray) (.agg (cF.enc y).toArray)).run P w = .ok (decide (x = y)) w := by
 obtain ⟨tr, ts, f0, fs, ht, n0, y0, o0, hh, htr, hatr, hztr, hts, hwf, hof, hhs, hats, hzts⟩ := h.ex
 have hf : P.fieldsOf t = #[f0] := by simp [Program.fieldsOf, ht]
 subst y0
 unfold Op.equal
 show (Op.equalIn (9996 + 1 + 1 + 1 + 1) t _ _).run P w = _
 rw [run_equalIn_struct w _ t _ _ (by rw [hf]; exact ht) hh, hf]
 have hp : ∀ (z : StV) (i : Nat), i < 8 → ∀ w, (part ts (cF.enc z).toArray (i * 5)).run P w = .ok (.agg (bO.enc (z.getN i)).toArray) w := fun z i hi w =>
  tU hats hzts (by
   have := kK (s := z) (k := (i : Int)) ⟨by omega, by omega⟩ (o := i * 5) (by simp)
   rw [this]; rfl) w
 have hr := nX w (FieldsRS.cons (P := P) (d := 9996 + 1 + 1 + 1) (xs := (cF.enc x).toArray) (ys := (cF.enc y).toArray) (f := f0) (fs := []) n0
  (fun w => by rw [o0]; exact tU hatr hztr (vs := cF.enc x) rfl w) (fun w => by rw [o0]; exact tU hatr hztr (vs := cF.enc y) rfl w)
  (fun w => BR (d := 9996 + 1) (fun i => .agg (bO.enc (x.getN i)).toArray) (fun i => .agg (bO.enc (y.getN i)).toArray) (fun i => decide (x.getN i = y.getN i)) htr hzts (hp x) (hp y) (fun i hi w => BQ hts hwf hof hhs _ _ w) w) .nil)
 refine hr.trans ?_
 rw [← BN]
 simp only [List.all_cons, List.all_nil, id, Bool.and_true]
 rfl
end
section
variable {P : Program} {N : Nat} {F : Bg} {L : List Ent} {M : Fr} {dst : Option Tmp} {ty : TypeId} {pos : String} {after : Array Edge} {g : Option (Nat × Bool)}
theorem E5 {x y : Operand} {t u : TypeId} {p q : StV} (hx : opv M x = some (.agg (cF.enc p).toArray)) (hy : opv M y = some (.agg (cF.enc q).toArray)) (h : StTy P t) (hg : P.eqGuardType P.depth t = false) :
  QS P N F L M ⟨dst, .binOp .neq t x y u, ty, pos, after, g⟩ (.bool (decide (p ≠ q))) :=
 cx fun a w ha _ => by
  simp [execOp, ha.eval hx, ha.eval hy, l6 w hg, binOp, xZ h]
end
end Go.HL
namespace Go.Proofs.YtiajjbhcpeadfaaGreat
open Go Go.HL Go.RowKit
theorem xJ (i : Ins) (w : World) (hI : InsOK i) :
  Calls Tryz.prog 224 #[.agg (aM.enc i).toArray] w (fun e w' => ∃ V', e = .returned V' ∧ Ext w w' ∧ js w w' 23 al (dL i) V') := by
 refine enter Tryz.func224 rfl Tryz.ntmps224 rfl ?_
 refine ah ?_
 refine dG rfl rfl (fun b1 => ?_)
 refine zz0 (ab rfl) (ad (an (ah (zz0 (bG rfl aQ ax) ?_))))
 refine zz0 (az rfl j4 (fun w hw => jY i w hI)) ?_
 refine zz0 (cP rfl) (ad ?_)
 refine au rfl ?_ ?_ <;> intro h2 <;> try simp only [bs] at h2
 ·refine an (bZ 23 al ?_)
  refine ar (zz0 (ab rfl) (ad (aC (ay ?_))))
  refine aX Tryz.results224 rfl (fun w' hw => ?_)
  exact ⟨_, rfl, hw.b0, by rw [show dL i = [] by unfold dL; rw [if_neg (by simp_all)]]; exact hw.new (.head _)⟩
 refine bC (an (bZ 23 al ?_))
 refine ar (zz0 (ab rfl) (ad ?_))
 refine cZ (ι := Value) (fun V1 => True) (fun _ => Bg.of w) (fun V1 => [rowE V1 23 al (if (c9 i).2 = true then [(c9 i).1] else []), cellE b1 (aM.enc i) 36]) (fun V1 => [(3, V1)]) ?_ (fun V1 hi => ?_)
 ·skip
  refine ah (zz0 (bG rfl aQ ax) ?_)
  refine zz0 (az rfl Tryz.call144 (fun w hw => pO i w)) ?_
  refine zz0 (aa rfl) (zz0 (aN rfl rfl) (zz0 (aN rfl rfl) (zz0 (ab rfl) (zz0 (ab rfl) (aI (zz0 (aa rfl) (ad ?_)))))))
  refine au rfl ?_ ?_ <;> intro h3 <;> try simp only [bs] at h3
  ·refine ar (zz0 (aa rfl) (zz0 (aa rfl) ?_))
   refine iG (E := al) (c9 i).1 rfl rfl af ae cC (fun V4 => ?_)
   refine zz1 rfl rfl af eS (fun V5 => ?_)
   refine zz0 (ab rfl) (ad (gp (l' := if (c9 i).2 = true then [(c9 i).1] else []) (by rw [if_pos (by assumption)]; rfl) ?_))
   refine co _ (Front.c Front.nil) (zz8 13 rfl) (o := trivial)
  refine bC (gp (l' := if (c9 i).2 = true then [(c9 i).1] else []) (by rw [if_neg (by simp_all)]) ?_)
  refine co _ (Front.c Front.nil) (zz8 8 rfl) (o := trivial)
 skip
 replace hi : True := hi
 change Tr _ _ [rowE V1 23 al (if (c9 i).2 = true then [(c9 i).1] else []), cellE b1 (aM.enc i) 36] ([(3, V1)] ++ _) _
 have htl : (if (c9 i).2 = true then [(c9 i).1] else []).length ≤ 1 := by split <;> simp
 refine cZ (ι := Value) (fun V2 => True) (fun _ => Bg.of w) (fun V2 => [rowE V2 23 al ((if (c9 i).2 = true then [(c9 i).1] else []) ++ (if kU i = true then [] else [nY i])), cellE b1 (aM.enc i) 36]) (fun V2 => [(3, V2)]) ?_ (fun V2 hi => ?_)
 ·skip
  refine ah (zz0 (bG rfl aQ ax) ?_)
  refine zz0 (az rfl Tryz.call195 (fun w hw => yM i w)) ?_
  refine zz0 (cP rfl) (ad ?_)
  refine au rfl ?_ ?_ <;> intro h6 <;> try simp only [bs] at h6
  ·refine ar (zz0 (aa rfl) (zz0 (bG rfl aQ ax) ?_))
   refine zz0 (az rfl Tryz.call60 (fun w hw => yi i w hI)) ?_
   refine iG (E := al) (nY i) rfl rfl af ae cC (fun V7 => ?_)
   refine zz1 rfl rfl af eS (fun V8 => ?_)
   refine zz0 (ab rfl) (ad (gp (l' := (if (c9 i).2 = true then [(c9 i).1] else []) ++ (if kU i = true then [] else [nY i])) (by rw [if_neg (c := kU i = true) (by simp_all)]) ?_))
   refine co _ (Front.c Front.nil) (zz8 9 rfl) (o := trivial)
  refine bC (gp (l' := (if (c9 i).2 = true then [(c9 i).1] else []) ++ (if kU i = true then [] else [nY i])) (by rw [if_pos (c := kU i = true) (by simp_all), List.append_nil]) ?_)
  refine co _ (Front.c Front.nil) (zz8 3 rfl) (o := trivial)
 skip
 replace hi : True := hi
 change Tr _ _ [rowE V2 23 al ((if (c9 i).2 = true then [(c9 i).1] else []) ++ (if kU i = true then [] else [nY i])), cellE b1 (aM.enc i) 36] ([(3, V2)] ++ _) _
 refine ah (zz0 (aa rfl) (zz0 (ab rfl) (ad (aC ?_))))
 refine aX Tryz.results224 rfl (fun w' hw => ?_)
 exact ⟨_, rfl, hw.b0, by rw [show dL i = _ by unfold dL; rw [if_pos (by simp_all)]]; exact hw.new (.head _)⟩
theorem y8 (i : Ins) (a : UInt32) (b : Nat) (w : World) (hc : Cell (hp w) b 0 (.int .u32 a.toNat)) :
  Cr Tryz.prog 165 #[.agg (aM.enc i).toArray, .pointer (some ⟨b, 0, none⟩)] w (.bool (decide (i.addr = a))) := by
 have hc' : Cell (Bg.of w).blk b 0 (.int .u32 a.toNat) := hc
 refine enter Tryz.func165 rfl Tryz.ntmps165 rfl ?_
 refine ah ?_
 refine dG rfl rfl (fun b1 => ?_)
 refine zz0 (ab rfl) (aI (zz0 (zz2 (off := 0) (ft := 23) rfl aj rfl ae) ?_))
 refine zz0 (aH rfl am) ?_
 refine zz0 (lO rfl (by assumption) am) ?_
 refine zz0 (eE rfl rfl) ?_
 refine zz0 (ab rfl) (ad (aC ?_))
 refine aX Tryz.results165 rfl (fun w' hw => ?_)
 exact ⟨rfl, hw.b0⟩
theorem An (l : List Ins) (st : List StV) (a : UInt32) (V VS : Value) (w : World) (hV : Sl (hp w) aM l V) (hS : Sl (hp w) cF st VS) :
  Cr Tryz.prog 109 #[V, VS, .int .u32 a.toNat] w (.tuple #[.agg (cF.enc (iY l st a).1).toArray, .bool (iY l st a).2]) := by
 have hV' : Sl (Bg.of w).blk aM l V := hV
 have hS' : Sl (Bg.of w).blk cF st VS := hS
 have hlS := hS'.len_le
 have hix := jH (fun i : Ins => decide (i.addr = a)) l 0
 refine enter Tryz.func109 rfl Tryz.ntmps109 rfl ?_
 refine ah ?_
 refine dG rfl rfl (fun b1 => ?_)
 refine dC cR rfl (fun b2 => ?_)
 refine zz0 (ab rfl) (aI (zz0 (aa rfl) (zz0 (eU rfl rfl) ?_)))
 refine zz0 (az rfl Tryz.call152 (fun w hw => pL l V _ _ w (hw.slF hV') Tryz.call165 (fun i => decide (i.addr = a)) (fun x hx w'' h => y8 x a _ w'' (cellE.cell (hw.ent _ (by repeat constructor)) h rfl)))) ?_
 refine zz0 (ab rfl) (ad (an (ah (zz0 (aa rfl) (zz0 (bT rfl rfl) (zz0 (aa rfl) ?_))))))
 apply dV
 ·exact (rfl : _ = (5, 14, 19))
 ·exact rfl
 ·intro hF3; have hF3' := hF3
  try simp only [bs] at hF3'
  refine zz6 hF3 (aa rfl) (zz6 hF3 (aa rfl) (zz6 hF3 (gj rfl dO) ?_))
  refine zz6 hF3 (eM rfl rfl) (zz0 (aU rfl hF3 rfl) ?_)
  refine aD (ac ?_)
  exact aK (Sub.cons rfl (bD 5 rfl))
 ·intro hT3
  refine zz9 hT3 (zz9 hT3 (zz9 hT3 (zz9 hT3 (zz0 (aV rfl hT3 rfl) ?_))))
  refine aD (ac ?_)
  exact aK (Sub.cons rfl (bD 5 rfl))
 refine ad ?_
 refine au rfl ?_ ?_ <;> intro h4 <;> try simp only [bs] at h4
 ·refine ah (zz0 (bK (vs := []) rfl rfl (sR)) ?_)
  refine aB cF rfl rfl aR ?_
  refine zz0 (ab rfl) (ad (aC (ay ?_)))
  refine kG Tryz.results109 rfl rfl bQ aR (fun w' hw => ?_)
  refine ⟨?_, hw.b0⟩
  unfold iY
  (repeat' split) <;> first | (exfalso; first | (simp_all; done) | grind) | rfl
 refine dz (zz0 (aa rfl) (zz0 (aa rfl) (zz0 (nZ rfl rfl dO aR) ?_)))
 refine zz0 (pB rfl bQ aR) ?_
 refine aB cF rfl rfl aR ?_
 refine zz0 (ab rfl) (ad (aC ?_))
 refine kG Tryz.results109 rfl rfl bQ aR (fun w' hw => ?_)
 refine ⟨?_, hw.b0⟩
 unfold iY
 (repeat' split) <;> first | (exfalso; first | (simp_all; done) | grind) | rfl
end Go.Proofs.YtiajjbhcpeadfaaGreat
namespace Go.Proofs.YtiajjbhcpeadfaaGreat
open Go Go.HL Go.RowKit
theorem vX (l : List Ins) (st : List StV) (gd : List Int) (bx bm : Nat) (VI VEd VG VB VV VM : Value) (k : Nat) (ee : Int × Bool) (w : World) (hx : CellsIn (hp w) bx [VI, .map (some bm), VEd, VG, VB, VV, VM]) (hI : Sl (hp w) aM l VI) (hG : Sl (hp w) bN gd VG) (hB : Sl (hp w) cF st VB) (hIO : ∀ x ∈ l, InsOK x) (hgl : gd.length = l.length) (hsl : st.length = l.length) (hgd : ∀ j, j < gd.length → gd.getD j default < (l.length : Int)) (hk : k < l.length) :
  Cr Tryz.prog 226 #[.pointer (some ⟨bx, 0, none⟩), .int .i64 (k : Nat), .agg (eL.enc ee).toArray] w (.agg (cF.enc (jJ l st gd k ee)).toArray) := by
 have hx' : CellsIn (Bg.of w).blk bx [VI, .map (some bm), VEd, VG, VB, VV, VM] := hx
 have hI' : Sl (Bg.of w).blk aM l VI := hI
 have hG' : Sl (Bg.of w).blk bN gd VG := hG
 have hB' : Sl (Bg.of w).blk cF st VB := hB
 have hlI := hI'.len_le
 have hgk := hgd k (by omega)
 have hio := hIO _ (df hk)
 refine enter Tryz.func226 rfl Tryz.ntmps226 rfl ?_
 refine ah ?_
 refine dG rfl rfl (fun b1 => ?_)
 refine dC cR rfl (fun b2 => ?_)
 refine ad ?_
 refine cZ (ι := Nat × Nat) (fun ⟨p, q⟩ => True) (fun _ => Bg.of w) (fun ⟨p, q⟩ => [cellE q (cF.enc (st.getD k default)) 37, cellE p (aM.enc (l.getD k default)) 36, cellE b2 (cF.enc gk) 37, cellE b1 (eL.enc ee) 274]) (fun ⟨p, q⟩ => [(8, .pointer (some ⟨q, 0, none⟩)), (7, .pointer (some ⟨p, 0, none⟩))]) ?_ (fun i hi => ?_)
 ·skip
  refine dU ([cellE b2 (cF.enc gk) 37, cellE b1 (eL.enc ee) 274]) 18 rfl aP ?_
  refine zz4 0 rfl (aa rfl) ?_
  refine zz4 1 rfl (bh rfl) ?_
  refine zz4 2 rfl (zz2 (off := 0) (ft := 50) rfl bB rfl cY) ?_
  refine zz4 3 rfl (lu rfl dq) ?_
  refine zz4 4 rfl (aa rfl) ?_
  refine zz4 5 rfl (iH rfl rfl aL ax) ?_
  refine zz4 6 rfl (pB rfl aQ ax) ?_
  refine zz4 7 rfl (aa rfl) ?_
  refine zz4 8 rfl (bh rfl) ?_
  refine zz4 9 rfl (zz2 (off := 4) (ft := 177) rfl bB rfl eI) ?_
  refine zz4 10 rfl (lu rfl gG) ?_
  refine zz4 11 rfl (aa rfl) ?_
  refine zz4 12 rfl (iH rfl rfl dO aR) ?_
  refine zz4 13 rfl (pB rfl bQ aR) ?_
  refine dw [14, 15] (fun iq hq => ?_)
  rcases List.mem_cons.1 hq with rfl | hq
  ·skip
   refine bF rfl ?_
   refine dC bR rfl (fun b3 => ?_)
   refine bV ?_
   refine dw [15] (fun iq hq => ?_)
   obtain rfl := List.mem_singleton.1 hq
   refine bF rfl ?_
   refine dC cR rfl (fun b4 => ?_)
   refine bV ?_
   refine dw [16] (fun iq hq => ?_)
   obtain rfl := List.mem_singleton.1 hq
   refine bF rfl ?_
   refine aB aM rfl rfl ax ?_
   refine bV ?_
   refine dw [17] (fun iq hq => ?_)
   obtain rfl := List.mem_singleton.1 hq
   refine bF rfl ?_
   refine aB cF rfl rfl aR ?_
   refine bV ?_
   refine iz ?_
   refine ac ?_
   refine co (_, _) (Front.c (Front.c Front.nil)) (zz8 16 rfl) (o := trivial)
  obtain rfl := List.mem_singleton.1 hq
  refine bF rfl ?_
  refine dC cR rfl (fun b5 => ?_)
  refine bV ?_
  refine dw [14] (fun iq hq => ?_)
  obtain rfl := List.mem_singleton.1 hq
  refine bF rfl ?_
  refine dC bR rfl (fun b6 => ?_)
  refine bV ?_
  refine dw [16] (fun iq hq => ?_)
  obtain rfl := List.mem_singleton.1 hq
  refine bF rfl ?_
  refine aB aM rfl rfl ax ?_
  refine bV ?_
  refine dw [17] (fun iq hq => ?_)
  obtain rfl := List.mem_singleton.1 hq
  refine bF rfl ?_
  refine aB cF rfl rfl aR ?_
  refine bV ?_
  refine iz ?_
  refine ac ?_
  refine co (_, _) (Front.c (Front.c Front.nil)) (zz8 16 rfl) (o := trivial)
 obtain ⟨p, q⟩ := i
 replace hi : True := hi
 change Tr _ _ [cellE q (cF.enc (st.getD k default)) 37, cellE p (aM.enc (l.getD k default)) 36, cellE b2 (cF.enc gk) 37, cellE b1 (eL.enc ee) 274] ([(8, .pointer (some ⟨q, 0, none⟩)), (7, .pointer (some ⟨p, 0, none⟩))] ++ _) _
 refine an (aF (ah (zz0 (zz2 (off := 2) (ft := 3) rfl aj rfl aA) ?_)))
 refine zz0 (aH rfl aO) ?_
 refine zz0 (bA rfl rfl) (zz0 (aa rfl) ?_)
 apply dV
 ·exact (rfl : _ = (4, 27, 31))
 ·exact rfl
 ·intro hF7; have hF7' := hF7
  try simp only [bs] at hF7'
  refine zz6 hF7 (zz2 (off := 2) (ft := 3) rfl aj rfl aA) ?_
  refine zz6 hF7 (aH rfl aO) ?_
  refine zz6 hF7 (bA rfl rfl) (zz0 (aU rfl hF7 rfl) ?_)
  refine aD (ac ?_)
  exact aK (Sub.cons rfl (bD 4 rfl))
 ·intro hT7
  refine zz9 hT7 (zz9 hT7 (zz9 hT7 (zz0 (aV rfl hT7 rfl) ?_)))
  refine aD (ac ?_)
  exact aK (Sub.cons rfl (bD 4 rfl))
 refine zz0 (ab rfl) (ad ?_)
 refine au rfl ?_ ?_ <;> intro h8 <;> try simp only [bs] at h8
 ·refine ah (zz0 (az rfl Tryz.call162 (fun w hw => om w)) ?_)
  refine aB cF rfl rfl aR ?_
  refine ad (aC (bv (ay ?_)))
  refine eO mC rfl bQ aR (fun w' hw => ?_)
  refine ⟨?_, hw.b0⟩
  unfold jJ
  (repeat' split) <;> first | (exfalso; first | (simp_all; done) | grind) | rfl
 refine ah (zz0 (zz2 (off := 2) (ft := 3) rfl aj rfl aA) ?_)
 refine zz0 (aH rfl aO) ?_
 refine zz0 (bA rfl rfl) (zz0 (aa rfl) ?_)
 apply cH
 ·exact (rfl : _ = (9, 37, 46))
 ·exact rfl
 ·intro hT9; have hT9' := hT9
  try simp only [bs] at hT9'
  refine zz6 hT9 (aa rfl) (zz6 hT9 (bh rfl) ?_)
  refine zz6 hT9 (zz2 (off := 3) (ft := 224) rfl bB rfl eH) ?_
  refine zz6 hT9 (lu rfl f5) ?_
  refine zz6 hT9 (aa rfl) (zz6 hT9 (iH rfl rfl cQ aA) ?_)
  refine zz6 hT9 (jl rfl aO) ?_
  refine zz6 hT9 (eM rfl rfl) (zz0 (aV rfl hT9 rfl) ?_)
  refine aD (ac ?_)
  exact aK (Sub.cons rfl (bD 9 rfl))
 ·intro hF9
  refine zz9 hF9 (zz9 hF9 (zz9 hF9 (zz9 hF9 (zz9 hF9 (zz9 hF9 (zz9 hF9 (zz9 hF9 (zz0 (aU rfl hF9 rfl) ?_))))))))
  refine aD (ac ?_)
  exact aK (Sub.cons rfl (bD 9 rfl))
 refine zz0 (ab rfl) (ad ?_)
 refine au rfl ?_ ?_ <;> intro h10 <;> try simp only [bs] at h10
 ·refine an (fy 0 19 aP ?_)
  refine bE ?_
  refine aw (zz2 (off := 5) (ft := 3) rfl aj rfl aA) ?_
  refine aw (aH rfl aO) ?_
  refine aw (aa rfl) (aw (bh rfl) ?_)
  refine aw (zz2 (off := 0) (ft := 50) rfl bB rfl cY) ?_
  refine aw (lu rfl dq) ?_
  refine aw (aa rfl) (aw (bh rfl) ?_)
  refine aw (zz2 (off := 3) (ft := 224) rfl bB rfl eH) ?_
  refine aw (lu rfl f5) ?_
  refine aw (aa rfl) (aw (iH rfl rfl cQ aA) ?_)
  refine aw (jl rfl aO) ?_
  refine aw (nZ rfl rfl aL ax) ?_
  refine aw (pB rfl aQ ax) ?_
  refine aw (bG rfl bQ aR) ?_
  refine aw (zz2 (off := 1) (ft := 4) rfl g6 rfl bS) ?_
  refine aw (aH rfl cE) ?_
  refine aw (az rfl Tryz.call269 (fun w hw => zJ (l.getD k default).cc (l.getD (gd.getD k default).toNat default) (st.getD k default) ee.2 w (hIO _ (df (by omega))))) ?_
  refine bH ?_
  refine aB cF rfl rfl aR ?_
  refine ad (aC (bv (ay ?_)))
  refine eO mC rfl bQ aR (fun w' hw => ?_)
  refine ⟨?_, hw.b0⟩
  unfold jJ
  (repeat' split) <;> first | (exfalso; first | (simp_all; done) | grind) | rfl
 refine cd (aY (ac (ah (zz0 (bG rfl aQ ax) ?_))))
 refine zz0 (bG rfl bQ aR) ?_
 refine zz0 (az rfl Tryz.call270 (fun w hw => wo (l.getD k default) (st.getD k default) w hio)) ?_
 refine aB cF rfl rfl aR ?_
 refine ad (aC ?_)
 refine eO mC rfl bQ aR (fun w' hw => ?_)
 refine ⟨?_, hw.b0⟩
 unfold jJ
 (repeat' split) <;> first | (exfalso; first | (simp_all; done) | grind) | rfl
end Go.Proofs.YtiajjbhcpeadfaaGreat
namespace Go.HL
open Go
def cw : Enc Bool := ⟨1, fun x => [.bool x], fun _ => rfl, fun x v h => by simp at h; subst h; rfl⟩
structure RV (α : Type) where
 data : List α
 dp : Option Addr
 dc : Nat
instance {α : Type} : Inhabited (RV α) := ⟨⟨[], none, 0⟩⟩
def dh {α : Type} : Enc (RV α) := ⟨1, fun t => [.slice t.dp t.data.length t.dc], fun _ => rfl, fun x v h => by simp at h; subst h; rfl⟩
abbrev rvE {α : Type} (T : TypeId) (E : Enc α) (r : RV α) : Ent := rowE (.slice r.dp r.data.length r.dc) T E r.data
def RvIn {α : Type} (E : Enc α) (h : Hp) (l : List (RV α)) : Prop := ∀ t ∈ l, Sl h E t.data (.slice t.dp t.data.length t.dc)
theorem RvIn.mono {α : Type} {E : Enc α} {h h' : Hp} {l : List (RV α)} (d : RvIn E h l) (hh : Hp.le h h') : RvIn E h' l := fun s hs => (d s hs).mono hh
abbrev EdV := RV (Int × Bool)
abbrev gv : Enc EdV := dh
abbrev H9 (h : Hp) (l : List EdV) : Prop := RvIn eL h l
structure VSt where
 st : List StV
 vs : List Int
 mb : List Bool
def ox (l : List Ins) (gd : List Int) (k : Nat) (s : VSt) (e : Int × Bool) : StV :=
 if 4 ≤ s.vs.getD e.1.toNat default then uR (s.st.getD e.1.toNat default) (iF (s.st.getD e.1.toNat default) (jJ l s.st gd k e) 8) 8
 else iF (s.st.getD e.1.toNat default) (jJ l s.st gd k e) 8
def eX (l : List Ins) (gd : List Int) (k : Nat) (s : VSt) (e : Int × Bool) : VSt :=
 if ox l gd k s e = s.st.getD e.1.toNat default then s else ⟨s.st.set e.1.toNat (ox l gd k s e), s.vs, s.mb.set e.1.toNat true⟩
def g0 (k : Nat) (s : VSt) : VSt := ⟨s.st, s.vs.set k (s.vs.getD k default + 1), s.mb.set k false⟩
def jn (l : List Ins) (gd : List Int) (es : List (Int × Bool)) (k : Nat) (s : VSt) : VSt := es.foldl (eX l gd k) (g0 k s)
theorem zy (l : List Ins) (gd : List Int) (k : Nat) (s : VSt) (e : Int × Bool) : (eX l gd k s e).st.length = s.st.length ∧ (eX l gd k s e).vs = s.vs ∧ (eX l gd k s e).mb.length = s.mb.length := by
 unfold eX
 split
 ·exact ⟨rfl, rfl, rfl⟩
 ·exact ⟨List.length_set, rfl, List.length_set⟩
theorem nr (l : List Ins) (gd : List Int) (k : Nat) : ∀ (es : List (Int × Bool)) (s : VSt), (es.foldl (eX l gd k) s).st.length = s.st.length ∧ (es.foldl (eX l gd k) s).vs = s.vs ∧ (es.foldl (eX l gd k) s).mb.length = s.mb.length
 | [], s => ⟨rfl, rfl, rfl⟩
 | e :: t, s => by
  have h1 := nr l gd k t (eX l gd k s e)
  have h2 := zy l gd k s e
  exact ⟨h1.1.trans h2.1, h1.2.1.trans h2.2.1, h1.2.2.trans h2.2.2⟩
theorem o6 {α β : Type} [Inhabited β] (f : α → β → α) (l : List β) (s : α) {k : Nat} (h : k < l.length) : (l.take (k + 1)).foldl f s = f ((l.take k).foldl f s) (l.getD k default) := by
 rw [dB h, List.foldl_append]; rfl
theorem Eg {l : List Ins} {gd : List Int} {k : Nat} {s : VSt} {es : List (Int × Bool)} {j : Nat} (h : j < es.length) {S : VSt} (hS : S = (es.take j).foldl (eX l gd k) s) (hn : ox l gd k S (es.getD j default) ≠ S.st.getD (es.getD j default).1.toNat default) :
  (es.take (j + 1)).foldl (eX l gd k) s = ⟨S.st.set (es.getD j default).1.toNat (ox l gd k S (es.getD j default)), S.vs, S.mb.set (es.getD j default).1.toNat true⟩ := by
 rw [o6 _ _ _ h, ← hS]; unfold eX; rw [if_neg hn]
theorem FH {l : List Ins} {gd : List Int} {k : Nat} {s : VSt} {es : List (Int × Bool)} {j : Nat} (h : j < es.length) {S : VSt} (hS : S = (es.take j).foldl (eX l gd k) s) (hn : ox l gd k S (es.getD j default) = S.st.getD (es.getD j default).1.toNat default) :
  (es.take (j + 1)).foldl (eX l gd k) s = S := by
 rw [o6 _ _ _ h, ← hS]; unfold eX; rw [if_pos hn]
end Go.HL
namespace Go.Proofs.YtiajjbhcpeadfaaGreat
open Go Go.HL Go.RowKit
theorem H5 : StTy Tryz.prog 37 :=
 ⟨⟨26, 25, _, _, cj, by decide, rfl, rfl, by kernel_rfl, cm, Tryz.isAgg26, di, ao, oZ _ ao, rfl, qn, aJ, ak⟩⟩
theorem HS : Tryz.prog.eqGuardType Tryz.prog.depth 37 = false := by kernel_rfl
theorem BI (l : List Ins) (gd : List Int) (eds : List EdV) (s : VSt) (bx bm k : Nat) (VI VEd VG VB VV VM : Value) (w : World) (ho : OwnAt w [rowE VB 37 cF s.st, rowE VV 3 bN s.vs, rowE VM 4 cw s.mb]) (hx : CellsIn (Bg.lessB w (cT [rowE VB 37 cF s.st, rowE VV 3 bN s.vs, rowE VM 4 cw s.mb]) 0).blk bx [VI, .map (some bm), VEd, VG, VB, VV, VM]) (hI : Sl (Bg.lessB w (cT [rowE VB 37 cF s.st, rowE VV 3 bN s.vs, rowE VM 4 cw s.mb]) 0).blk aM l VI) (hG : Sl (Bg.lessB w (cT [rowE VB 37 cF s.st, rowE VV 3 bN s.vs, rowE VM 4 cw s.mb]) 0).blk bN gd VG) (hE : Sl (Bg.lessB w (cT [rowE VB 37 cF s.st, rowE VV 3 bN s.vs, rowE VM 4 cw s.mb]) 0).blk gv eds VEd) (hEI : H9 (Bg.lessB w (cT [rowE VB 37 cF s.st, rowE VV 3 bN s.vs, rowE VM 4 cw s.mb]) 0).blk eds) (hIO : ∀ x ∈ l, InsOK x) (hgl : gd.length = l.length) (hsl : s.st.length = l.length) (hvl : s.vs.length = l.length) (hml : s.mb.length = l.length) (hel : eds.length = l.length) (hgd : ∀ j, j < gd.length → gd.getD j default < (l.length : Int)) (heb : ∀ e ∈ (eds.getD k default).data, 0 ≤ e.1 ∧ e.1 < (l.length : Int)) (hvb : ∀ v ∈ s.vs, 0 ≤ v ∧ v ≤ 1000000) (hk : k < l.length) :
  Calls Tryz.prog 164 #[.pointer (some ⟨bx, 0, none⟩), .int .i64 (k : Nat)] w (fun e w' => ∃ _ : Unit, e = .returned (.tuple #[]) ∧ Upd 0 w w' (cT [rowE VB 37 cF s.st, rowE VV 3 bN s.vs, rowE VM 4 cw s.mb]) [rowE VB 37 cF (jn l gd (eds.getD k default).data k s).st, rowE VV 3 bN (jn l gd (eds.getD k default).data k s).vs, rowE VM 4 cw (jn l gd (eds.getD k default).data k s).mb] ∧ True) := by
 have hvk := hvb _ (df (k := k) (by omega))
 have hEk := hEI _ (df (k := k) (by omega))
 have hlI := hI.len_le
 have hEl := hEk.len_le
 refine pZ (L := [rowE VB 37 cF s.st, rowE VV 3 bN s.vs, rowE VM 4 cw s.mb]) ho rfl (Nat.zero_le _) Tryz.func164 rfl Tryz.ntmps164 rfl ?_
 refine ah (zz0 (aa rfl) (zz0 (bh rfl) ?_))
 refine zz0 (zz2 (off := 6) (ft := 225) rfl bB rfl lh) ?_
 refine zz0 (lu rfl l9) ?_
 refine zz0 (aa rfl) (zz0 (zz7 rfl rfl eF bS) ?_)
 refine fV (l := s.mb) (i := k) (false) rfl rfl bS ?_
 have hls1 : (List.set s.mb (k) (false)).length = (s.mb).length := List.length_set
 refine aI (zz0 (aa rfl) (zz0 (bh rfl) ?_))
 refine zz0 (zz2 (off := 5) (ft := 224) rfl bB rfl eH) ?_
 refine zz0 (lu rfl f5) ?_
 refine zz0 (aa rfl) (zz0 (zz7 rfl rfl cQ aA) ?_)
 refine zz0 (er rfl aO) ?_
 refine zz0 (cB rfl rfl) ?_
 refine zz0 (zz7 rfl rfl cQ aA) ?_
 refine fV (l := s.vs) (i := k) ((s.vs.getD k default + 1)) rfl rfl aA ?_
 have hls2 : (List.set s.vs (k) ((s.vs.getD k default + 1))).length = (s.vs).length := List.length_set
 refine aI (zz0 (aa rfl) (zz0 (bh rfl) ?_))
 refine zz0 (zz2 (off := 2) (ft := 226) rfl bB rfl jS) ?_
 refine zz0 (lu rfl Tryz.isAgg226) ?_
 refine zz0 (aa rfl) (zz0 (iH rfl rfl g7 ja) ?_)
 refine zz0 (jl rfl Tryz.isAgg272) ?_
 refine zz0 (gj rfl f8) ?_
 refine zz0 (aa rfl) (ad (aF ?_))
 change Tr _ _ [rowE VB 37 cF (((eds.getD k default).data.take 0).foldl (eX l gd k) (g0 k s)).st, rowE VV 3 bN (((eds.getD k default).data.take 0).foldl (eX l gd k) (g0 k s)).vs, rowE VM 4 cw (((eds.getD k default).data.take 0).foldl (eX l gd k) (g0 k s)).mb] _ _
 refine bL (ι := Nat) (fun j => j ≤ (eds.getD k default).data.length) (fun _ => (Bg.lessB w (cT [rowE VB 37 cF s.st, rowE VV 3 bN s.vs, rowE VM 4 cw s.mb]) 0)) (fun j => [rowE VB 37 cF (((eds.getD k default).data.take j).foldl (eX l gd k) (g0 k s)).st, rowE VV 3 bN (((eds.getD k default).data.take j).foldl (eX l gd k) (g0 k s)).vs, rowE VM 4 cw (((eds.getD k default).data.take j).foldl (eX l gd k) (g0 k s)).mb]) (fun j => [(32, .int .i64 (j : Nat))]) (fun j => (eds.getD k default).data.length - j) 0 (Nat.zero_le _) (Front.c Front.nil) (by repeat' constructor) rfl (fun j hi m hm => ?_)
 replace hi : j ≤ (eds.getD k default).data.length := hi
 replace hm : m = (eds.getD k default).data.length - j := hm
 change Tr _ _ [rowE VB 37 cF (((eds.getD k default).data.take j).foldl (eX l gd k) (g0 k s)).st, rowE VV 3 bN (((eds.getD k default).data.take j).foldl (eX l gd k) (g0 k s)).vs, rowE VM 4 cw (((eds.getD k default).data.take j).foldl (eX l gd k) (g0 k s)).mb] ([(32, .int .i64 (j : Nat))] ++ _) _
 obtain ⟨S, hS⟩ : ∃ S, S = (((eds.getD k default).data.take j).foldl (eX l gd k) (g0 k s)) := ⟨_, rfl⟩
 rw [← hS]
 have hvf := nr l gd k ((eds.getD k default).data.take j) (g0 k s)
 rw [← hS] at hvf
 have hSt : S.st.length = l.length := hvf.1.trans hsl
 have hSm : S.mb.length = l.length := hvf.2.2.trans (List.length_set.trans hml)
 have hSv : S.vs.length = l.length := (congrArg List.length hvf.2.1).trans (List.length_set.trans hvl)
 refine ah (zz0 (bT rfl rfl) (ad (an ?_)))
 refine au rfl ?_ ?_ <;> intro h3 <;> try simp only [bs] at h3
 ·refine bC (an (aF (an ?_)))
  have hej := heb _ (df (k := j) (by omega))
  refine ar (zz0 (iH rfl rfl f8 i6) ?_)
  refine zz0 (pB rfl Tryz.isAgg274 i6) ?_
  refine dC kR rfl (fun b4 => ?_)
  refine aB eL rfl rfl i6 ?_
  refine ad ?_
  refine cZ (ι := Nat) (fun bo => True) (fun _ => (Bg.lessB w (cT [rowE VB 37 cF s.st, rowE VV 3 bN s.vs, rowE VM 4 cw s.mb]) 0)) (fun bo => [cellE bo (cF.enc (S.st.getD ((eds.getD k default).data.getD j default).1.toNat default)) 37, cellE b4 (eL.enc ((eds.getD k default).data.getD j default)) 274, rowE VB 37 cF S.st, rowE VV 3 bN S.vs, rowE VM 4 cw S.mb]) (fun bo => [(6, .pointer (some ⟨bo, 0, none⟩))]) ?_ (fun bo hi => ?_)
  ·skip
   refine dU ([cellE b4 (eL.enc ((eds.getD k default).data.getD j default)) 274, rowE VB 37 cF S.st, rowE VV 3 bN S.vs, rowE VM 4 cw S.mb]) 10 rfl aP ?_
   refine zz4 0 rfl (aa rfl) ?_
   refine zz4 1 rfl (bh rfl) ?_
   refine zz4 2 rfl (zz2 (off := 4) (ft := 177) rfl bB rfl eI) ?_
   refine zz4 3 rfl (lu rfl gG) ?_
   refine zz4 4 rfl (zz2 (off := 0) (ft := 3) rfl g6 rfl aA) ?_
   refine zz4 5 rfl (aH rfl aO) ?_
   refine zz4 6 rfl (jm rfl rfl dO aR) ?_
   refine zz4 7 rfl (mg rfl bQ aR) ?_
   refine dw [8] (fun iq hq => ?_)
   obtain rfl := List.mem_singleton.1 hq
   refine bF rfl ?_
   refine dC cR rfl (fun b5 => ?_)
   refine bV ?_
   refine dw [9] (fun iq hq => ?_)
   obtain rfl := List.mem_singleton.1 hq
   refine bF rfl ?_
   refine aB cF rfl rfl aR ?_
   refine bV ?_
   refine iz ?_
   refine ac ?_
   refine co _ (Front.c Front.nil) (zz8 9 rfl) (o := trivial)
  skip
  replace hi : True := hi
  change Tr _ _ [cellE bo (cF.enc (S.st.getD ((eds.getD k default).data.getD j default).1.toNat default)) 37, cellE b4 (eL.enc ((eds.getD k default).data.getD j default)) 274, rowE VB 37 cF S.st, rowE VV 3 bN S.vs, rowE VM 4 cw S.mb] ([(6, .pointer (some ⟨bo, 0, none⟩))] ++ _) _
  refine cZ (ι := Nat) (fun bn => True) (fun _ => (Bg.lessB w (cT [rowE VB 37 cF s.st, rowE VV 3 bN s.vs, rowE VM 4 cw s.mb]) 0)) (fun bn => [cellE bn (cF.enc (iF (S.st.getD ((eds.getD k default).data.getD j default).1.toNat default) (jJ l S.st gd k ((eds.getD k default).data.getD j default)) 8)) 37, cellE bo (cF.enc (S.st.getD ((eds.getD k default).data.getD j default).1.toNat default)) 37, cellE b4 (eL.enc ((eds.getD k default).data.getD j default)) 274, rowE VB 37 cF S.st, rowE VV 3 bN S.vs, rowE VM 4 cw S.mb]) (fun bn => [(7, .pointer (some ⟨bn, 0, none⟩))]) ?_ (fun bn hi => ?_)
  ·skip
   refine dU ([cellE bo (cF.enc (S.st.getD ((eds.getD k default).data.getD j default).1.toNat default)) 37, cellE b4 (eL.enc ((eds.getD k default).data.getD j default)) 274, rowE VB 37 cF S.st, rowE VV 3 bN S.vs, rowE VM 4 cw S.mb]) 8 rfl aP ?_
   refine zz4 0 rfl (bG rfl bQ aR) ?_
   refine zz4 1 rfl (aa rfl) ?_
   refine zz4 2 rfl (aa rfl) ?_
   refine zz4 3 rfl (bG rfl Tryz.isAgg274 i6) ?_
   refine dw [4, 6] (fun iq hq => ?_)
   rcases List.mem_cons.1 hq with rfl | hq
   ·skip
    refine bF rfl ?_
    refine zz0 (az rfl Tryz.call226 (fun w hw => vX l _ gd bx bm VI VEd VG VB VV VM k _ w (hx.mono hw.bg) (hw.slF hI) (hw.slF hG) (hw.row (by repeat constructor)) hIO hgl (by omega) hgd hk)) ?_
    refine bV ?_
    refine dw [5, 6] (fun iq hq => ?_)
    rcases List.mem_cons.1 hq with rfl | hq
    ·skip
     refine bF rfl ?_
     refine zz0 (az rfl nQ (fun w hw => nH _ _ w)) ?_
     refine bV ?_
     refine dw [6] (fun iq hq => ?_)
     obtain rfl := List.mem_singleton.1 hq
     refine bF rfl ?_
     refine dC cR rfl (fun b6 => ?_)
     refine bV ?_
     refine dw [7] (fun iq hq => ?_)
     obtain rfl := List.mem_singleton.1 hq
     refine bF rfl ?_
     refine aB cF rfl rfl aR ?_
     refine bV ?_
     refine iz ?_
     refine ac ?_
     refine co _ (Front.c Front.nil) (zz8 7 rfl) (o := trivial)
    obtain rfl := List.mem_singleton.1 hq
    refine bF rfl ?_
    refine dC cR rfl (fun b7 => ?_)
    refine bV ?_
    refine dw [5] (fun iq hq => ?_)
    obtain rfl := List.mem_singleton.1 hq
    refine bF rfl ?_
    refine zz0 (az rfl nQ (fun w hw => nH _ _ w)) ?_
    refine bV ?_
    refine dw [7] (fun iq hq => ?_)
    obtain rfl := List.mem_singleton.1 hq
    refine bF rfl ?_
    refine aB cF rfl rfl aR ?_
    refine bV ?_
    refine iz ?_
    refine ac ?_
    refine co _ (Front.c Front.nil) (zz8 7 rfl) (o := trivial)
   obtain rfl := List.mem_singleton.1 hq
   refine bF rfl ?_
   refine dC cR rfl (fun b8 => ?_)
   refine bV ?_
   refine dw [4] (fun iq hq => ?_)
   obtain rfl := List.mem_singleton.1 hq
   refine bF rfl ?_
   refine zz0 (az rfl Tryz.call226 (fun w hw => vX l _ gd bx bm VI VEd VG VB VV VM k _ w (hx.mono hw.bg) (hw.slF hI) (hw.slF hG) (hw.row (by repeat constructor)) hIO hgl (by omega) hgd hk)) ?_
   refine bV ?_
   refine dw [5] (fun iq hq => ?_)
   obtain rfl := List.mem_singleton.1 hq
   refine bF rfl ?_
   refine zz0 (az rfl nQ (fun w hw => nH _ _ w)) ?_
   refine bV ?_
   refine dw [7] (fun iq hq => ?_)
   obtain rfl := List.mem_singleton.1 hq
   refine bF rfl ?_
   refine aB cF rfl rfl aR ?_
   refine bV ?_
   refine iz ?_
   refine ac ?_
   refine co _ (Front.c Front.nil) (zz8 7 rfl) (o := trivial)
  skip
  replace hi : True := hi
  change Tr _ _ [cellE bn (cF.enc (iF (S.st.getD ((eds.getD k default).data.getD j default).1.toNat default) (jJ l S.st gd k ((eds.getD k default).data.getD j default)) 8)) 37, cellE bo (cF.enc (S.st.getD ((eds.getD k default).data.getD j default).1.toNat default)) 37, cellE b4 (eL.enc ((eds.getD k default).data.getD j default)) 274, rowE VB 37 cF S.st, rowE VV 3 bN S.vs, rowE VM 4 cw S.mb] ([(7, .pointer (some ⟨bn, 0, none⟩))] ++ _) _
  refine cZ (ι := StV) (fun x1 => x1 = ox l gd k S ((eds.getD k default).data.getD j default)) (fun _ => (Bg.lessB w (cT [rowE VB 37 cF s.st, rowE VV 3 bN s.vs, rowE VM 4 cw s.mb]) 0)) (fun x1 => [cellE bn (cF.enc x1) 37, cellE bo (cF.enc (S.st.getD ((eds.getD k default).data.getD j default).1.toNat default)) 37, cellE b4 (eL.enc ((eds.getD k default).data.getD j default)) 274, rowE VB 37 cF S.st, rowE VV 3 bN S.vs, rowE VM 4 cw S.mb]) (fun x1 => []) ?_ (fun x1 hi => ?_)
  ·skip
   refine an (gZ aP ?_)
   refine aw (aa rfl) (aw (bh rfl) ?_)
   refine aw (zz2 (off := 5) (ft := 224) rfl bB rfl eH) ?_
   refine aw (lu rfl f5) ?_
   refine aw (zz2 (off := 0) (ft := 3) rfl g6 rfl aA) ?_
   refine aw (aH rfl aO) ?_
   refine aw (jm rfl rfl cQ aA) ?_
   refine aw (er rfl aO) ?_
   refine aw (eM rfl rfl) (bH ?_)
   refine ac ?_
   refine au rfl ?_ ?_ <;> intro h9 <;> try simp only [bs] at h9
   ·refine ah (zz0 (aa rfl) (ad (aF ?_)))
    refine bL (ι := Nat) (fun r => r ≤ 8) (fun _ => (Bg.lessB w (cT [rowE VB 37 cF s.st, rowE VV 3 bN s.vs, rowE VM 4 cw s.mb]) 0)) (fun r => [cellE bn (cF.enc (uR (S.st.getD ((eds.getD k default).data.getD j default).1.toNat default) (iF (S.st.getD ((eds.getD k default).data.getD j default).1.toNat default) (jJ l S.st gd k ((eds.getD k default).data.getD j default)) 8) r)) 37, cellE bo (cF.enc (S.st.getD ((eds.getD k default).data.getD j default).1.toNat default)) 37, cellE b4 (eL.enc ((eds.getD k default).data.getD j default)) 274, rowE VB 37 cF S.st, rowE VV 3 bN S.vs, rowE VM 4 cw S.mb]) (fun r => [(59, .int .i64 (r : Nat))]) (fun r => 8 - r) 0 (Nat.zero_le _) (Front.c Front.nil) (by repeat' constructor) rfl (fun r hi m hm => ?_)
    replace hi : r ≤ 8 := hi
    replace hm : m = 8 - r := hm
    change Tr _ _ [cellE bn (cF.enc (uR (S.st.getD ((eds.getD k default).data.getD j default).1.toNat default) (iF (S.st.getD ((eds.getD k default).data.getD j default).1.toNat default) (jJ l S.st gd k ((eds.getD k default).data.getD j default)) 8) r)) 37, cellE bo (cF.enc (S.st.getD ((eds.getD k default).data.getD j default).1.toNat default)) 37, cellE b4 (eL.enc ((eds.getD k default).data.getD j default)) 274, rowE VB 37 cF S.st, rowE VV 3 bN S.vs, rowE VM 4 cw S.mb] ([(59, .int .i64 (r : Nat))] ++ _) _
    have hgr := xF (S.st.getD ((eds.getD k default).data.getD j default).1.toNat default) (iF (S.st.getD ((eds.getD k default).data.getD j default).1.toNat default) (jJ l S.st gd k ((eds.getD k default).data.getD j default)) 8) r hi r (Nat.le_refl _)
    refine ah (zz0 (bT rfl rfl) (ad (an ?_)))
    refine au rfl ?_ ?_ <;> intro h10 <;> try simp only [bs] at h10
    ·refine bC (an (aF (ah (zz0 (aa rfl) (zz0 (ab rfl) (ad (fy 0 12 aP ?_)))))))
     refine bE ?_
     refine aw (aa rfl) (aw (aa rfl) (aw (zz2 (off := 0) (ft := 26) rfl cj rfl di) ?_))
     refine aw (dH rfl rfl cm ak (by omega)) ?_
     refine aw (gi (vs := bO.enc ((S.st.getD ((eds.getD k default).data.getD j default).1.toNat default).get (r : Int))) rfl (by repeat constructor) aJ ak (kK ⟨by omega, by omega⟩ (by simp)) rfl) ?_
     refine aw (aa rfl) (aw (zz2 (off := 0) (ft := 26) rfl cj rfl di) ?_)
     refine aw (dH rfl rfl cm ak (by omega)) ?_
     refine aw (gi (vs := bO.enc ((uR (S.st.getD ((eds.getD k default).data.getD j default).1.toNat default) (iF (S.st.getD ((eds.getD k default).data.getD j default).1.toNat default) (jJ l S.st gd k ((eds.getD k default).data.getD j default)) 8) r).get (r : Int))) rfl (by repeat constructor) aJ ak (kK ⟨by omega, by omega⟩ (by simp)) rfl) ?_
     refine aw (az rfl Tryz.call227 (fun w hw => CZ _ _ w)) ?_
     refine aw (zz2 (off := 0) (ft := 26) rfl cj rfl di) ?_
     refine aw (dH rfl rfl cm ak (by omega)) ?_
     refine bH ?_
     refine fP rfl rfl ak (by repeat constructor) ((kJ (s := uR (S.st.getD ((eds.getD k default).data.getD j default).1.toNat default) (iF (S.st.getD ((eds.getD k default).data.getD j default).1.toNat default) (jJ l S.st gd k ((eds.getD k default).data.getD j default)) 8) r) (k := (r : Int)) ⟨by omega, by omega⟩ (by simp) (lw ((S.st.getD ((eds.getD k default).data.getD j default).1.toNat default).get (r : Int)) ((uR (S.st.getD ((eds.getD k default).data.getD j default).1.toNat default) (iF (S.st.getD ((eds.getD k default).data.getD j default).1.toNat default) (jJ l S.st gd k ((eds.getD k default).data.getD j default)) 8) r).get (r : Int)))).trans (congrArg cF.enc (show _ = uR (S.st.getD ((eds.getD k default).data.getD j default).1.toNat default) (iF (S.st.getD ((eds.getD k default).data.getD j default).1.toNat default) (jJ l S.st gd k ((eds.getD k default).data.getD j default)) 8) (r + 1) by rw [hgr (by omega)]; rfl))) (by rfl) (kL (k := (r : Int)) ⟨by omega, by omega⟩ (by simp)) (by first | exact Enc.one bO _ | exact List.all_eq_true.1 rfl) rfl ?_
     refine aD (aY (ac (ar (zz0 (cB rfl rfl) ?_))))
     refine zz0 (aa rfl) (ad ?_)
     refine cK (r + 1) (Front.c Front.nil) (zz8 18 rfl) (o := (by show r + 1 ≤ _; omega))
    refine bJ (aG (aG (bj (ac ?_))))
    refine co _ Front.nil (zz8 12 rfl) (o := (by show _ = _; unfold ox; rw [if_pos (by assumption), show r = 8 by omega]))
   refine bC ?_
   refine co _ Front.nil (zz8 9 rfl) (o := (by show _ = _; unfold ox; rw [if_neg (by assumption)]))
  skip
  replace hi : x1 = ox l gd k S ((eds.getD k default).data.getD j default) := hi
  change Tr _ _ [cellE bn (cF.enc x1) 37, cellE bo (cF.enc (S.st.getD ((eds.getD k default).data.getD j default).1.toNat default)) 37, cellE b4 (eL.enc ((eds.getD k default).data.getD j default)) 274, rowE VB 37 cF S.st, rowE VV 3 bN S.vs, rowE VM 4 cw S.mb] ([] ++ _) _
  have hx1 := hi
  refine ah (zz0 (bG rfl bQ aR) ?_)
  refine zz0 (bG rfl bQ aR) ?_
  refine zz0 (E5 rfl rfl H5 HS) ?_
  refine ad ?_
  refine au rfl ?_ ?_ <;> intro h11 <;> try simp only [bs] at h11
  ·refine an (fy 0 8 aP ?_)
   refine bE ?_
   refine aw (aa rfl) (aw (bh rfl) ?_)
   refine aw (zz2 (off := 4) (ft := 177) rfl bB rfl eI) ?_
   refine aw (lu rfl gG) ?_
   refine aw (zz2 (off := 0) (ft := 3) rfl g6 rfl aA) ?_
   refine aw (aH rfl aO) ?_
   refine aw (bG rfl bQ aR) ?_
   refine aw (jm rfl rfl dO aR) ?_
   refine bH ?_
   refine fV (l := S.st) (i := ((eds.getD k default).data.getD j default).1.toNat) (x1) rfl rfl aR ?_
   have hls12 : (List.set S.st (((eds.getD k default).data.getD j default).1.toNat) (x1)).length = (S.st).length := List.length_set
   refine ad (fy 0 7 aP ?_)
   refine bE ?_
   refine aw (aa rfl) (aw (bh rfl) ?_)
   refine aw (zz2 (off := 6) (ft := 225) rfl bB rfl lh) ?_
   refine aw (lu rfl l9) ?_
   refine aw (zz2 (off := 0) (ft := 3) rfl g6 rfl aA) ?_
   refine aw (aH rfl aO) ?_
   refine aw (jm rfl rfl eF bS) ?_
   refine bH ?_
   refine fV (l := S.mb) (i := ((eds.getD k default).data.getD j default).1.toNat) (true) rfl rfl bS ?_
   have hls13 : (List.set S.mb (((eds.getD k default).data.getD j default).1.toNat) (true)).length = (S.mb).length := List.length_set
   refine aD (aY (ac (ar (zz0 (cB rfl rfl) ?_))))
   refine zz0 (aa rfl) (ad ?_)
   have hne : ox l gd k S ((eds.getD k default).data.getD j default) ≠ (S.st.getD ((eds.getD k default).data.getD j default).1.toNat default) := by rw [← hx1]; assumption
   have hfy := Eg (by omega) hS hne
   rw [← hx1] at hfy
   apply g9 (j + 1)
   ·exact rfl
   ·exact (Front.c Front.nil)
   ·exact zz8 27 rfl
   ·exact (by show Pick _ [rowE VB 37 cF (((eds.getD k default).data.take (j + 1)).foldl (eX l gd k) (g0 k s)).st, rowE VV 3 bN (((eds.getD k default).data.take (j + 1)).foldl (eX l gd k) (g0 k s)).vs, rowE VM 4 cw (((eds.getD k default).data.take (j + 1)).foldl (eX l gd k) (g0 k s)).mb]; rw [hfy]; repeat' (first | exact Pick.nil _ | exact Del.here _ | apply Pick.cons | apply Del.there))
   ·exact (by show j + 1 ≤ _; omega)
   exact (by (try dsimp only); omega)
  refine cd (aY (ac (ar (zz0 (cB rfl rfl) ?_))))
  refine zz0 (aa rfl) (ad ?_)
  have hne : ox l gd k S ((eds.getD k default).data.getD j default) = (S.st.getD ((eds.getD k default).data.getD j default).1.toNat default) := by rw [← hx1]; assumption
  have hfn := FH (by omega) hS hne
  apply g9 (j + 1)
  ·exact rfl
  ·exact (Front.c Front.nil)
  ·exact zz8 12 rfl
  ·exact (by show Pick _ [rowE VB 37 cF (((eds.getD k default).data.take (j + 1)).foldl (eX l gd k) (g0 k s)).st, rowE VV 3 bN (((eds.getD k default).data.take (j + 1)).foldl (eX l gd k) (g0 k s)).vs, rowE VM 4 cw (((eds.getD k default).data.take (j + 1)).foldl (eX l gd k) (g0 k s)).mb]; rw [hfn]; repeat' (first | exact Pick.nil _ | exact Del.here _ | apply Pick.cons | apply Del.there))
  ·exact (by show j + 1 ≤ _; omega)
  exact (by (try dsimp only); omega)
 refine bJ (aG (aG (bj ?_)))
 refine fc Tryz.results164 (fun w' hw => ?_)
 have hSS : jn l gd (eds.getD k default).data k s = S := by rw [hS, show j = (eds.getD k default).data.length by omega, List.take_length]; rfl
 rw [hSS]
 exact ⟨(), rfl, hw.upd (Bg.le.refl _) (by repeat' constructor), trivial⟩
end Go.Proofs.YtiajjbhcpeadfaaGreat
namespace Go.HL
open Go
theorem oK {α : Type} {l : List α} {k j : Nat} {x d : α} : (l.set k x).getD j d = if k = j ∧ k < l.length then x else l.getD j d := by
 simp only [List.getD_eq_getElem?_getD, List.getElem?_set]
 by_cases h : k = j
 ·subst h
  by_cases h2 : k < l.length
  ·simp [h2]
  ·simp [h2]
 ·simp [h]
def dR (l : List Ins) (a : UInt32) : Int := dY (fun i : Ins => decide (i.addr = a)) 0 l
theorem A7 {α : Type} [Inhabited α] (p : α → Bool) : ∀ (l : List α) (k j : Nat), j < l.length → p (l.getD j default) = true → 0 ≤ dY p k l ∧ dY p k l ≤ (k + j : Nat)
 | [], k, j, h, _ => by simp at h
 | x :: l, k, j, h, hp => by
  unfold dY
  by_cases hx : p x = true
  ·rw [if_pos hx]; omega
  ·rw [if_neg hx]
   cases j with
   | zero => exact absurd hp hx
   | succ j =>
    have := A7 p l (k + 1) j (by simpa using h) hp
    omega
theorem yF {l : List Ins} {k : Nat} (h : k < l.length) : 0 ≤ dR l (l.getD k default).addr ∧ dR l (l.getD k default).addr ≤ k := by
 have := A7 (fun i : Ins => decide (i.addr = (l.getD k default).addr)) l 0 k h (by simp)
 unfold dR; omega
theorem yG {l : List Ins} {a : UInt32} (h : 0 ≤ dR l a) : (l.getD (dR l a).toNat default).addr = a := by
 have := (wO (fun i : Ins => decide (i.addr = a)) l 0 h).2
 rw [Int.natCast_zero, Int.sub_zero] at this
 exact of_decide_eq_true this
theorem q9 (l : List Ins) (a : UInt32) : -1 ≤ dR l a ∧ dR l a < l.length := by
 have := jH (fun i : Ins => decide (i.addr = a)) l 0
 unfold dR; omega
def atK (l : List Ins) : Nat → List (UInt32 × Int)
 | 0 => []
 | k + 1 => if (dI (atK l k) (l.getD k default).addr).isSome = true then atK l k else e8 (atK l k) (l.getD k default).addr (k : Int)
theorem xd (l : List Ins) (a : UInt32) : ∀ (k : Nat), k ≤ l.length → dI (atK l k) a = if 0 ≤ dR l a ∧ dR l a < k then some (dR l a) else none
 | 0, _ => by simp only [atK, dI]; rw [if_neg (by omega)]
 | k + 1, h => by
  have ih := xd l a k (by omega)
  have ihb := xd l (l.getD k default).addr k (by omega)
  have hf := yF (l := l) (k := k) (by omega)
  unfold atK
  by_cases hs : (dI (atK l k) (l.getD k default).addr).isSome = true
  ·rw [if_pos hs, ih]
   have hk : dR l (l.getD k default).addr < k := by
    rw [ihb] at hs; split at hs
    ·omega
    ·simp at hs
   have hne : dR l a ≠ (k : Int) := by
    intro e
    have h1 := yG (l := l) (a := a) (by omega)
    rw [e, Int.toNat_natCast] at h1
    rw [h1] at hk; omega
   by_cases hc : 0 ≤ dR l a ∧ dR l a < k
   ·rw [if_pos hc, if_pos (by omega)]
   ·rw [if_neg hc, if_neg (by omega)]
  ·rw [if_neg hs, ue, ih]
   have hk : dR l (l.getD k default).addr = k := by
    rw [ihb] at hs
    by_cases hc : 0 ≤ dR l (l.getD k default).addr ∧ dR l (l.getD k default).addr < k
    ·rw [if_pos hc] at hs; simp at hs
    ·omega
   by_cases ha : a = (l.getD k default).addr
   ·subst ha
    rw [if_pos rfl, hk, if_pos (by omega)]
   ·rw [if_neg ha]
    have hne : dR l a ≠ (k : Int) := by
     intro e
     have h1 := yG (l := l) (a := a) (by omega)
     rw [e, Int.toNat_natCast] at h1
     exact ha h1.symm
    by_cases hc : 0 ≤ dR l a ∧ dR l a < k
    ·rw [if_pos hc, if_pos (by omega)]
    ·rw [if_neg hc, if_neg (by omega)]
theorem Ao (l : List Ins) (a : UInt32) : dI (atK l l.length) a = if dR l a < 0 then none else some (dR l a) := by
 have h := q9 l a
 rw [xd l a l.length (Nat.le_refl _)]
 by_cases hc : dR l a < 0
 ·rw [if_pos hc, if_neg (by omega)]
 ·rw [if_neg hc, if_pos (by omega)]
structure CSt where
 es : List (List (Int × Bool))
 into : List (List Int)
def stepJ (l : List Ins) (k : Nat) (s : CSt) (n : Nat) : CSt :=
 if dR l ((dL (l.getD k default)).getD n default) < 0 then s
 else ⟨s.es.set k (s.es.getD k [] ++ [(dR l ((dL (l.getD k default)).getD n default), decide ((n : Int) = 0))]),
  s.into.set (dR l ((dL (l.getD k default)).getD n default)).toNat (s.into.getD (dR l ((dL (l.getD k default)).getD n default)).toNat [] ++ [(k : Int)])⟩
def ji (l : List Ins) (k : Nat) (s : CSt) : Nat → CSt
 | 0 => s
 | n + 1 => stepJ l k (ji l k s n) n
def jw (l : List Ins) : Nat → CSt
 | 0 => ⟨List.replicate l.length [], List.replicate l.length []⟩
 | k + 1 => if dR l (l.getD k default).addr = k then ji l k (jw l k) (dL (l.getD k default)).length else jw l k
def mo (l : List Ins) (e : Nat) (into : List (List Int)) (k : Nat) : Int :=
 if (l.getD k default).op = 20 ∧ iM (l.getD k default) = 0 ∧ (l.getD k default).addr ≠ (l.getD e default).addr ∧ (into.getD k []).length = 1 ∧ Ag (l.getD ((into.getD k []).getD 0 default).toNat default) = true
 then (into.getD k []).getD 0 default else -1
def kQ (l : List Ins) : List (List (Int × Bool)) := (jw l l.length).es
def eT (l : List Ins) (e : Nat) : List Int := (List.range l.length).map (mo l e (jw l l.length).into)
structure COk (l : List Ins) (s : CSt) (k : Nat) : Prop where
 le : s.es.length = l.length
 li : s.into.length = l.length
 e : ∀ t ∈ s.es, ∀ x ∈ t, 0 ≤ x.1 ∧ x.1 < (l.length : Int)
 i : ∀ t ∈ s.into, ∀ x ∈ t, 0 ≤ x ∧ x < (l.length : Int)
 eb : ∀ j, (s.es.getD j []).length ≤ 2
 ib : ∀ j, (s.into.getD j []).length ≤ 2 * k
theorem uf {α : Type} {l : List α} {k : Nat} {x y : α} (h : y ∈ l.set k x) : y = x ∨ y ∈ l := by
 rcases List.mem_or_eq_of_mem_set h with h | h
 ·exact .inr h
 ·exact .inl h
theorem getD_mem {α : Type} {l : List (List α)} {k : Nat} {x : α} (h : x ∈ l.getD k []) : l.getD k [] ∈ l := by
 by_cases hk : k < l.length
 ·have := df (l := l) hk
  have e : (default : List α) = [] := rfl
  rwa [e] at this
 ·rw [List.getD_eq_getElem?_getD, List.getElem?_eq_none (by omega)] at h; simp at h
theorem oP {l : List Ins} {k : Nat} {s : CSt} (hk : k < l.length) (h : COk l s k) (h0 : (s.es.getD k []).length = 0) : ∀ n, n ≤ 2 → 
    (ji l k s n).es.length = l.length ∧ (ji l k s n).into.length = l.length ∧ (∀ t ∈ (ji l k s n).es, ∀ x ∈ t, 0 ≤ x.1 ∧ x.1 < (l.length : Int)) ∧ (∀ t ∈ (ji l k s n).into, ∀ x ∈ t, 0 ≤ x ∧ x < (l.length : Int)) ∧
    (∀ j, ((ji l k s n).es.getD j []).length ≤ if j = k then n else 2) ∧ (∀ j, ((ji l k s n).into.getD j []).length ≤ 2 * k + n) ∧ (∀ j, j ≠ k → (ji l k s n).es.getD j [] = s.es.getD j [])
  | 0, _ => ⟨h.le, h.li, h.e, h.i, fun j => by
      by_cases hj : j = k
      · rw [if_pos hj, hj]; exact Nat.le_of_eq h0
      · rw [if_neg hj]; exact h.eb j, h.ib, fun _ _ => rfl⟩
  | n + 1, hn => by
    obtain ⟨h1, h2, h3, h4, h5, h6, h7⟩ := oP hk h h0 n (by omega)
    simp only [ji]
    have hf := q9 l ((dL (l.getD k default)).getD n default)
    unfold stepJ
    by_cases hc : dR l ((dL (l.getD k default)).getD n default) < 0
    · rw [if_pos hc]
      refine ⟨h1, h2, h3, h4, fun j => ?_, fun j => Nat.le_trans (h6 j) (by omega), h7⟩
      have := h5 j
      split at this <;> rename_i q
      · rw [if_pos q]; omega
      · rw [if_neg q]; omega
    · rw [if_neg hc]
      refine ⟨by rw [List.length_set]; exact h1, by rw [List.length_set]; exact h2, fun t ht x hx => ?_, fun t ht x hx => ?_, fun j => ?_, fun j => ?_, fun j hj => ?_⟩
      · rcases uf ht with rfl | ht
        · rcases List.mem_append.1 hx with hx | hx
          · exact h3 _ (getD_mem hx) x hx
          · rw [List.mem_singleton.1 hx]; exact ⟨by omega, hf.2⟩
        · exact h3 t ht x hx
      · rcases uf ht with rfl | ht
        · rcases List.mem_append.1 hx with hx | hx
          · exact h4 _ (getD_mem hx) x hx
          · rw [List.mem_singleton.1 hx]; omega
        · exact h4 t ht x hx
      · rw [oK]
        have hkk := h5 k
        rw [if_pos rfl] at hkk
        by_cases hj : j = k
        · subst hj
          rw [if_pos ⟨rfl, by omega⟩, if_pos rfl, List.length_append]
          simp only [List.length_cons, List.length_nil]; omega
        · rw [if_neg (by omega), if_neg hj]
          have := h5 j; rw [if_neg hj] at this; exact this
      · rw [oK]
        split
        · rename_i q
          rw [List.length_append]
          have := h6 (dR l ((dL (l.getD k default)).getD n default)).toNat
          simp only [List.length_cons, List.length_nil]; omega
        · exact Nat.le_trans (h6 j) (by omega)
      · rw [oK, if_neg (by omega)]; exact h7 j hj
theorem ux (l : List Ins) : ∀ k, k ≤ l.length → COk l (jw l k) k ∧ ∀ j, k ≤ j → (jw l k).es.getD j [] = []
 | 0, _ => by
  refine ⟨⟨by simp [jw], by simp [jw], fun t ht x hx => ?_, fun t ht x hx => ?_, fun j => ?_, fun j => ?_⟩, fun j _ => ?_⟩
  ·rw [(List.mem_replicate.1 ht).2] at hx; simp at hx
  ·rw [(List.mem_replicate.1 ht).2] at hx; simp at hx
  all_goals
   simp only [jw, List.getD_eq_getElem?_getD, List.getElem?_replicate]
   split <;> simp
 | k + 1, h => by
  obtain ⟨ih, ihe⟩ := ux l k (by omega)
  unfold jw
  split
  ·have hsl : (dL (l.getD k default)).length ≤ 2 := jQ _
   obtain ⟨h1, h2, h3, h4, h5, h6, h7⟩ := oP (l := l) (k := k) (by omega) ih (by rw [ihe k (Nat.le_refl _)]; rfl) _ hsl
   exact ⟨⟨h1, h2, h3, h4, fun j => Nat.le_trans (h5 j) (by split <;> omega), fun j => Nat.le_trans (h6 j) (by omega)⟩, fun j hj => by rw [h7 j (by omega)]; exact ihe j (by omega)⟩
  ·exact ⟨⟨ih.le, ih.li, ih.e, ih.i, ih.eb, fun j => Nat.le_trans (ih.ib j) (by omega)⟩, fun j hj => ihe j (by omega)⟩
theorem re (l : List Ins) {k : Nat} (h : k ≤ l.length) : COk l (jw l k) k := (ux l k h).1
theorem Cn (l : List Ins) (e k : Nat) : mo l e (jw l l.length).into k < (l.length : Int) := by
 unfold mo
 split
 ·rename_i h
  have hm : ((jw l l.length).into.getD k []).getD 0 default ∈ (jw l l.length).into.getD k [] := df (by omega)
  exact ((re l (Nat.le_refl _)).i _ (getD_mem hm) _ hm).2
 ·omega
def mq (mb : List Bool) : Int := dY (fun x : Bool => decide (true = x)) 0 mb
def io (l : List Ins) (gd : List Int) (es : List (List (Int × Bool))) : Nat → VSt → List StV × Int
 | 0, s => if mq s.mb < 0 then (s.st, 0) else ([], 15)
 | n + 1, s => if mq s.mb < 0 then (s.st, 0) else io l gd es n (jn l gd (es.getD (mq s.mb).toNat []) (mq s.mb).toNat s)
def pP (l : List Ins) (e : Nat) : VSt := ⟨(List.replicate l.length (iE 8)).set e (wn 8), List.replicate l.length 0, (List.replicate l.length false).set e true⟩
def eC (l : List Ins) (entry : UInt32) (rounds : Nat) : List StV × Int :=
 if 4096 < l.length then ([], 6) else if dR l entry < 0 then ([], 9)
 else io l (eT l (dR l entry).toNat) (kQ l) rounds (pP l (dR l entry).toNat)
end Go.HL
namespace Go.HL
open Go
section
variable {P : Program} {N : Nat} {F : Bg} {L A B : List Ent} {M : Fr} {X : Act → World → Prop}
theorem getD_at {α : Type} [Inhabited α] {l : List α} {i : Nat} (h : i < l.length) : l[i] = l.getD i default := by simp [List.getD_eq_getElem?_getD, h]
theorem zg {α : Type} [Inhabited α] {f : α → Ent} {rs : List α} (i : Nat) (h : i < rs.length) (K : Tr N F (f (rs.getD i default) :: (A ++ ((rs.eraseIdx i).map f ++ L))) M X) : Tr N F (A ++ (rs.map f ++ L)) M X :=
 Gg i h (by rw [getD_at h]; exact K)
theorem ER {α : Type} [Inhabited α] {f : α → Ent} {rs : List α} (i : Nat) (h : i < rs.length) (K : Tr N F (f (rs.getD i default) :: (A ++ (B ++ ((rs.eraseIdx i).map f ++ L)))) M X) : Tr N F (A ++ (B ++ (rs.map f ++ L))) M X := by
 rw [← List.append_assoc] at K ⊢
 exact zg i h K
theorem EQ {α : Type} {f : α → Ent} {rs : List α} (i : Nat) (y : α) (h : i < rs.length) (K : Tr N F (A ++ (B ++ ((rs.set i y).map f ++ L))) M X) : Tr N F (f y :: (A ++ (B ++ ((rs.eraseIdx i).map f ++ L)))) M X := by
 rw [← List.append_assoc] at K ⊢
 exact xn i y h K
theorem tV {α : Type} {w : World} (T : TypeId) (E : Enc α) (h : HpOK F L w) : ∀ n, HpOK F ((List.replicate n (default : RV α)).map (rvE T E) ++ L) w
 | 0 => h
 | n + 1 => A0 T E (tV T E h n)
theorem ES {α β : Type} (T T' : TypeId) (E : Enc α) (E' : Enc β) (n : Nat) (K : Tr N F (L ++ ((List.replicate n (default : RV α)).map (rvE T E) ++ ((List.replicate n (default : RV β)).map (rvE T' E') ++ []))) M X) : Tr N F L M X :=
 fun a w ha hw => K a w ha ((tV T E (tV T' E' hw n) n).perm (by
  rw [List.append_nil]
  refine List.perm_append_comm.trans ?_
  rw [List.append_assoc]))
theorem nS {α : Type} {T : TypeId} {E : Enc α} (rs : List (RV α)) {F : Bg} (K : ∀ F', F.le F' → RvIn E F'.blk rs → Tr N F' A M X) : Tr N F (A ++ (rs.map (rvE T E) ++ [])) M X := by
 refine pm (L' := (rs.map (fun r : RV α => (Value.slice r.dp r.data.length r.dc, r.data))).map (fun r : Value × List α => rowE r.1 T E r.2) ++ A) ?_ (rl (rs.map (fun r : RV α => (Value.slice r.dp r.data.length r.dc, r.data))) fun F' h1 h2 => K F' h1 fun t ht => ?_)
 ·rw [List.append_nil, List.map_map]
  exact List.perm_append_comm
 ·exact h2 _ (List.mem_map.2 ⟨t, ht, rfl⟩)
theorem ve {α : Type} {T : TypeId} {E : Enc α} (rs : List (RV α)) {F : Bg} (K : ∀ F', F.le F' → RvIn E F'.blk rs → Tr N F' (A ++ (B ++ [])) M X) : Tr N F (A ++ (B ++ (rs.map (rvE T E) ++ []))) M X := by
 rw [← List.append_assoc]
 refine nS rs fun F' h1 h2 => ?_
 have := K F' h1 h2
 rwa [List.append_nil] at this
end
def ig (x : Int) : Value := .int .i64 x
theorem t7 (o : Option Int) : ua ig (.int .i64 0) o = .int .i64 (o.getD 0) := by cases o <;> rfl
section
variable {P : Program} {N : Nat} {F : Bg} {L : List Ent} {M : Fr} {dst : Option Tmp} {ty : TypeId} {pos : String} {after : Array Edge} {g : Option (Nat × Bool)} {l : List (UInt32 × Int)} {x y : Operand} {t K e : TypeId} {b : Nat} {k : UInt32}
theorem xx {x y : Operand} {V : Value} {bb n c kz i : Nat} {kk : IntKind} (hx : opv M x = some V) (hy : opv M y = some (.int kk i)) (hV : V = .slice (some ⟨bb, 0, none⟩) n c) (ht : P.underlying t = some (.slice e)) (hz : ∀ w, (sizeOf e).run P w = .ok kz w) (hi : i < n) :
  QS P N F L M ⟨dst, .indexAddr t x y, ty, pos, after, g⟩ (.pointer (some ⟨bk V, ofs V + i * kz, none⟩)) :=
 cx fun A w ha hw => by
  have := lZ (V := .nilFunc) (c := c) (kk := kk) (n := n) (i := (i : Int)) ht hz w ⟨Int.natCast_nonneg _, Int.ofNat_lt.2 hi⟩ bb 0 rfl
  subst hV
  simp [execOp, ha.eval hx, ha.eval hy, this, bk, ofs]
theorem uI (hx : opv M x = some (.map (some b))) (hy : opv M y = some (.int .u32 k.toNat)) (hm : mapE b ig l ∈ L) (ht : P.underlying t = some (.map K e)) (hK : P.underlying K = some (.int .u32)) (hz : ∀ w, (zeroValue e).run P w = .ok (.int .i64 0) w) :
  QS P N F L M ⟨dst, .lookup t x y true, ty, pos, after, g⟩ (.tuple #[.int .i64 ((dI l k).getD 0), .bool (dI l k).isSome]) := by
 have h := wa (P := P) (N := N) (F := F) (L := L) (M := M) (dst := dst) (ty := ty) (pos := pos) (after := after) (g := g) hx hy hm ht hK hz
 rw [t7] at h; exact h
theorem CG (hx : opv M x = some (.map (some b))) (hy : opv M y = some (.int .u32 k.toNat)) (hm : MapIn F.blk b ig l) (ht : P.underlying t = some (.map K e)) (hK : P.underlying K = some (.int .u32)) (hz : ∀ w, (zeroValue e).run P w = .ok (.int .i64 0) w) :
  QS P N F L M ⟨dst, .lookup t x y false, ty, pos, after, g⟩ (.int .i64 ((dI l k).getD 0)) := by
 have h := uK (P := P) (N := N) (F := F) (L := L) (M := M) (dst := dst) (ty := ty) (pos := pos) (after := after) (g := g) hx hy hm ht hK hz
 rw [t7] at h; exact h
theorem zn (hx : opv M x = some (.map (some b))) (hy : opv M y = some (.int .u32 k.toNat)) (hm : MapIn F.blk b ig l) (ht : P.underlying t = some (.map K e)) (hK : P.underlying K = some (.int .u32)) (hz : ∀ w, (zeroValue e).run P w = .ok (.int .i64 0) w) :
  QS P N F L M ⟨dst, .lookup t x y true, ty, pos, after, g⟩ (.tuple #[.int .i64 ((dI l k).getD 0), .bool (dI l k).isSome]) := by
 have h := uJ (P := P) (N := N) (F := F) (L := L) (M := M) (dst := dst) (ty := ty) (pos := pos) (after := after) (g := g) hx hy hm ht hK hz
 rw [t7] at h; exact h
end
section
variable {P : Program} {ops : Array Oper} {Q : Exit → Act → World → Prop} {N : Nat} {F : Bg} {L : List Ent} {M : Fr} {ty : TypeId} {pos : String} {after : Array Edge} {d : Nat} {L0 : List Ent} {fuel : Nat} {listed : Array Bool}
theorem Bs {x : Operand} {t e : TypeId} {a : Option Addr} {n c : Nat} (i : Nat) (hi : ops[i]? = some ⟨some d, .call { callee := .builtin .len, args := #[x], argTypes := #[t] }, ty, pos, after, none⟩) (hB : takeB ops listed i = true) (hQ : ∀ c a d v w, Q (.panic c) (a.put d v) w → Q (.panic c) a w)
  (hx : opv M x = some (.slice a n c)) (ht : P.underlying t = some (.slice e)) (k : Tr N F L ((d, .int .i64 (n : Nat)) :: M) (wpAnyH P .any ops Q (HpOK F L0) fuel (listed.setIfInBounds i true)))
  (hd : Nat.ble (d + 1) N = true := by rfl) (hL : Pick L L0 := by repeat' (first | exact Pick.nil _ | exact Del.here _ | apply Pick.cons | apply Del.there)) :
  Tr N F L M (wpAnyH P .any ops Q (HpOK F L0) (fuel + 1) listed) := by
 simp only [takeB, Bool.and_eq_true] at hB
 intro A w ha hw
 exact wpAnyH_take hi hB.1.1 hB.1.2 hB.2 (fun c a w => hQ c a _ _ w) (.inl ⟨by simp [Region.wanted], fun w' hw' => by simp [execOp, resolve, invoke, builtin, Builtin.len_, ha.eval hx, run_underlying ht, goInt]⟩) (hL.heap hw) (k _ _ (ha.put (Nat.le_of_ble_eq_true hd)) hw)
end
theorem Bj {l : List Ins} {k : Nat} (h : dR l (l.getD k default).addr ≠ (k : Int)) : jw l (k + 1) = jw l k := if_neg h
theorem yQ {l : List Ins} {k : Nat} (h : dR l (l.getD k default).addr = (k : Int)) : jw l (k + 1) = ji l k (jw l k) (dL (l.getD k default)).length := if_pos h
theorem yR {l : List Ins} {k j : Nat} {s : CSt} (h : dR l ((dL (l.getD k default)).getD j default) < 0) : ji l k s (j + 1) = ji l k s j := if_pos h
theorem vO {l : List Ins} {k j : Nat} {s : CSt} (h : ¬ dR l ((dL (l.getD k default)).getD j default) < 0) : ji l k s (j + 1) =
  ⟨(ji l k s j).es.set k ((ji l k s j).es.getD k [] ++ [(dR l ((dL (l.getD k default)).getD j default), decide ((j : Int) = 0))]),
  (ji l k s j).into.set (dR l ((dL (l.getD k default)).getD j default)).toNat ((ji l k s j).into.getD (dR l ((dL (l.getD k default)).getD j default)).toNat [] ++ [(k : Int)])⟩ := if_neg h
theorem lX {α : Type} {rs : List (RV α)} {L : List (List α)} (h : rs.map (·.data) = L) (j : Nat) : (rs.getD j default).data = L.getD j [] := by
 subst h
 simp only [List.getD_eq_getElem?_getD, List.getElem?_map]
 cases rs[j]? <;> rfl
theorem Dj {α : Type} {rs : List (RV α)} {L : List (List α)} (h : rs.map (·.data) = L) (k : Nat) (x : α) (p : Option Addr) (c : Nat) : (rs.set k ⟨(rs.getD k default).data ++ [x], p, c⟩).map (·.data) = L.set k (L.getD k [] ++ [x]) := by
 rw [List.map_set, h, lX h]
theorem G4 {gd : List Int} {n k : Nat} {f : Nat → Int} (hl : gd.length = n) (h : ∀ j, j < k → gd.getD j default = f j) (hk : k < n) : ∀ j, j < k + 1 → (gd.set k (f k)).getD j default = f j := by
 intro j hj
 rw [oK]
 by_cases e : k = j
 ·subst e; rw [if_pos ⟨rfl, by omega⟩]
 ·rw [if_neg (by omega)]; exact h j (by omega)
theorem HO {gd : List Int} {n k : Nat} {f : Nat → Int} (hl : gd.length = n) (h : ∀ j, j < k → gd.getD j default = f j) (h2 : gd.getD k default = f k) : ∀ j, j < k + 1 → gd.getD j default = f j := by
 intro j hj
 by_cases e : j = k
 ·subst e; exact h2
 ·exact h j (by omega)
theorem HN {gd : List Int} {n k : Nat} {x c : Int} (h : ∀ j, k ≤ j → j < n → gd.getD j default = c) : ∀ j, k + 1 ≤ j → j < n → (gd.set k x).getD j default = c := by
 intro j h1 h2
 rw [oK, if_neg (by omega)]; exact h j (by omega) h2
theorem Co {gd : List Int} {l : List Ins} {e : Nat} (hl : gd.length = l.length) (h : ∀ j, j < l.length → gd.getD j default = mo l e (jw l l.length).into j) : gd = eT l e := by
 unfold eT
 apply List.ext_getElem
 ·simp [hl]
 ·intro i h1 h2
  have := h i (by omega)
  rw [← getD_at h1] at this
  rw [this]; simp
section
variable {N : Nat} {F : Bg} {L A : List Ent} {M : Fr} {X : Act → World → Prop}
theorem xq {α : Type} {T : TypeId} {E : Enc α} (rs : List (RV α)) (K : ∀ F', F.le F' → RvIn E F'.blk rs → Tr N F' (A ++ L) M X) : Tr N F (A ++ (rs.map (rvE T E) ++ L)) M X := by
 refine pm (L' := (A ++ L) ++ (rs.map (rvE T E) ++ [])) ?_ (nS rs fun F' h1 h2 => K F' h1 h2)
 rw [List.append_nil, List.append_assoc]
 exact (List.perm_append_comm (l₁ := L)).append_left _
end
theorem um (l : List Ins) (e : Nat) : (eT l e).length = l.length := by unfold eT; simp
theorem Cm (l : List Ins) (e : Nat) : ∀ j, j < (eT l e).length → (eT l e).getD j default < (l.length : Int) := by
 intro j h
 rw [um] at h
 unfold eT
 rw [← getD_at (by simpa using h)]
 simp only [List.getElem_map]
 exact Cn l e _
theorem Ct {l : List Ins} {rs : List EdV} (h : rs.map (·.data) = kQ l) : rs.length = l.length := by
 have := congrArg List.length h
 rw [List.length_map] at this
 exact this.trans (re l (Nat.le_refl _)).le
theorem FU {l : List Ins} {rs : List EdV} (h : rs.map (·.data) = kQ l) (k : Nat) : ∀ e ∈ (rs.getD k default).data, 0 ≤ e.1 ∧ e.1 < (l.length : Int) := by
 intro e he
 rw [lX h] at he
 exact (re l (Nat.le_refl _)).e _ (getD_mem he) e he
theorem vc {l : List Ins} {gd : List Int} {es : List (List (Int × Bool))} {n : Nat} {s : VSt} (h : mq s.mb < 0) : io l gd es n s = (s.st, 0) := by
 cases n <;> exact if_pos h
theorem vb {l : List Ins} {gd : List Int} {es : List (List (Int × Bool))} {n : Nat} {s : VSt} (h : ¬ mq s.mb < 0) : io l gd es (n + 1) s = io l gd es n (jn l gd (es.getD (mq s.mb).toNat []) (mq s.mb).toNat s) := if_neg h
theorem xg {l : List Ins} {gd : List Int} {es : List (List (Int × Bool))} {s : VSt} (h : ¬ mq s.mb < 0) : io l gd es 0 s = ([], 15) := if_neg h
theorem zx (l : List Ins) (gd : List Int) (es : List (Int × Bool)) (k : Nat) (s : VSt) : (jn l gd es k s).st.length = s.st.length ∧ (jn l gd es k s).vs.length = s.vs.length ∧ (jn l gd es k s).mb.length = s.mb.length := by
 have h := nr l gd k es (g0 k s)
 exact ⟨h.1, (congrArg List.length h.2.1).trans List.length_set, h.2.2.trans List.length_set⟩
theorem C2 {l : List Ins} {gd : List Int} {es : List (Int × Bool)} {k n : Nat} {s : VSt} (hk : k < s.vs.length) (h : ∀ v ∈ s.vs, 0 ≤ v ∧ v ≤ (n : Int)) : ∀ v ∈ (jn l gd es k s).vs, 0 ≤ v ∧ v ≤ ((n + 1 : Nat) : Int) := by
 intro v hv
 have e : (jn l gd es k s).vs = s.vs.set k (s.vs.getD k default + 1) := (nr l gd k es (g0 k s)).2.1
 rw [e] at hv
 rcases uf hv with rfl | hv
 ·have := h _ (df hk); omega
 ·have := h v hv; omega
end Go.HL
namespace Go.Proofs.YtiajjbhcpeadfaaGreat
open Go Go.HL Go.RowKit
theorem yP (l : List Ins) (e bx bm : Nat) (VI VB VV VM : Value) (w : World) (ho : OwnAt w [cellE bx [VI, .map (some bm), .slice none 0 0, .slice none 0 0, VB, VV, VM] 228]) (hI : Sl (Bg.lessB w [bx] 0).blk aM l VI) (hA : MapIn (Bg.lessB w [bx] 0).blk bm ig (atK l l.length)) (hIO : ∀ x ∈ l, InsOK x) (he : e < l.length) (hll : l.length ≤ 4096) :
  Calls Tryz.prog 161 #[.pointer (some ⟨bx, 0, none⟩), .int .i64 (e : Nat)] w (fun e' w' => ∃ i : Value × Value × List EdV, e' = .returned (.tuple #[]) ∧ Upd 0 w w' (cT [cellE bx [VI, .map (some bm), .slice none 0 0, .slice none 0 0, VB, VV, VM] 228]) (cellE bx [VI, .map (some bm), i.1, i.2.1, VB, VV, VM] 228 :: rowE i.2.1 3 bN (eT l e) :: rowE i.1 272 gv i.2.2 :: i.2.2.map (rvE 274 eL)) ∧ i.2.2.map (·.data) = kQ l) := by
 refine pZ (L := [cellE bx [VI, .map (some bm), .slice none 0 0, .slice none 0 0, VB, VV, VM] 228]) ho rfl (Nat.zero_le _) Tryz.func161 rfl Tryz.ntmps161 rfl ?_
 refine ah (zz0 (aa rfl) (zz0 (bh rfl) ?_))
 refine zz0 (zz2 (off := 0) (ft := 50) rfl bB rfl cY) ?_
 refine zz0 (jW rfl dq) ?_
 refine zz0 (gj rfl aL) ?_
 refine jg (E := (dh (α := Int))) default rfl rfl ga zt rfl rfl rfl (by constructor <;> omega) rfl (fun b1 => ?_)
 obtain ⟨VQ, hVQ⟩ : ∃ V, V = Value.slice (some ⟨b1, 0, none⟩) (List.replicate l.length (default : RV Int)).length l.length := ⟨_, rfl⟩
 rw [← hVQ]
 refine zz0 (ab rfl) (aI (zz0 (aa rfl) (zz0 (aa rfl) (zz0 (bh rfl) ?_))))
 refine zz0 (zz2 (off := 0) (ft := 50) rfl bB rfl cY) ?_
 refine zz0 (jW rfl dq) ?_
 refine zz0 (gj rfl aL) ?_
 refine jg (E := gv) default rfl rfl g7 zr rfl rfl rfl (by constructor <;> omega) rfl (fun b2 => ?_)
 refine zz0 (bh rfl) ?_
 refine zz0 (zz2 (off := 2) (ft := 226) rfl bB rfl jS) ?_
 refine zz3 rfl rfl jS rfl ?_
 refine aI (zz0 (aa rfl) (zz0 (aa rfl) (zz0 (bh rfl) ?_)))
 refine zz0 (zz2 (off := 0) (ft := 50) rfl bB rfl cY) ?_
 refine zz0 (jW rfl dq) ?_
 refine zz0 (gj rfl aL) ?_
 refine jg (E := bN) 0 rfl rfl cQ j8 rfl rfl rfl (by constructor <;> omega) rfl (fun b3 => ?_)
 refine zz0 (bh rfl) ?_
 refine zz0 (zz2 (off := 3) (ft := 224) rfl bB rfl eH) ?_
 refine zz3 rfl rfl eH rfl ?_
 change Tr _ _ [rowE (Value.slice (some ⟨b3, 0, none⟩) (List.replicate l.length (0 : Int)).length l.length) 3 bN (List.replicate l.length 0), rowE (Value.slice (some ⟨b2, 0, none⟩) (List.replicate l.length (default : EdV)).length l.length) 272 gv (List.replicate l.length default), rowE VQ 224 dh (List.replicate l.length default), cellE bx [VI, .map (some bm), Value.slice (some ⟨b2, 0, none⟩) (List.replicate l.length (default : EdV)).length l.length, Value.slice (some ⟨b3, 0, none⟩) (List.replicate l.length (0 : Int)).length l.length, VB, VV, VM] 228] _ _
 obtain ⟨VE, hVE⟩ : ∃ V, V = Value.slice (some ⟨b2, 0, none⟩) (List.replicate l.length (default : EdV)).length l.length := ⟨_, rfl⟩
 rw [← hVE]
 obtain ⟨VG, hVG⟩ : ∃ V, V = Value.slice (some ⟨b3, 0, none⟩) (List.replicate l.length (0 : Int)).length l.length := ⟨_, rfl⟩
 rw [← hVG]
 refine ad (an (ah (zz0 (aa rfl) (zz0 (bh rfl) ?_))))
 refine zz0 (zz2 (off := 0) (ft := 50) rfl bB rfl cY) ?_
 refine zz0 (jW rfl dq) ?_
 refine zz0 (gj rfl aL) ?_
 refine zz0 (aa rfl) (ad (aF (ES 274 3 eL bN l.length ?_)))
 refine bL (ι := Nat × List EdV × List (RV Int) × List Int) (fun ⟨k, rs, qs, gd⟩ => k ≤ l.length ∧ (rs.map (·.data) = (jw l k).es ∧ qs.map (·.data) = (jw l k).into) ∧ gd.length = l.length ∧ ∀ j, j < k → gd.getD j default = -1) (fun _ => (Bg.lessB w [bx] 0)) (fun ⟨k, rs, qs, gd⟩ => (cellE bx [VI, .map (some bm), VE, VG, VB, VV, VM] 228 :: rowE VG 3 bN gd :: rowE VE 272 gv rs :: rowE VQ 224 dh qs :: (rs.map (rvE 274 eL) ++ (qs.map (rvE 3 bN) ++ [])))) (fun ⟨k, rs, qs, gd⟩ => [(42, .int .i64 (k : Nat))]) (fun ⟨k, rs, qs, gd⟩ => l.length - k) (0, List.replicate l.length default, List.replicate l.length default, List.replicate l.length 0) ⟨Nat.zero_le _, ⟨List.map_replicate, List.map_replicate⟩, List.length_replicate, fun j hj => absurd hj (Nat.not_lt_zero _)⟩ (Front.c Front.nil) (by repeat' (first | exact Pick.refl _ | exact Del.here _ | apply Pick.cons | apply Del.there | apply Pick.skip | exact Pick.nil _)) rfl (fun i hi m hm => ?_)
 obtain ⟨k, rs, qs, gd⟩ := i
 replace hi : k ≤ l.length ∧ (rs.map (·.data) = (jw l k).es ∧ qs.map (·.data) = (jw l k).into) ∧ gd.length = l.length ∧ ∀ j, j < k → gd.getD j default = -1 := hi
 replace hm : m = l.length - k := hm
 change Tr _ _ (cellE bx [VI, .map (some bm), VE, VG, VB, VV, VM] 228 :: rowE VG 3 bN gd :: rowE VE 272 gv rs :: rowE VQ 224 dh qs :: (rs.map (rvE 274 eL) ++ (qs.map (rvE 3 bN) ++ []))) ([(42, .int .i64 (k : Nat))] ++ _) _
 obtain ⟨hk, ⟨hrs, hqs⟩, hgl, hgm⟩ := hi
 have hco := re l hk
 have hrl : rs.length = l.length := by have := congrArg List.length hrs; rw [List.length_map, hco.le] at this; exact this
 have hql : qs.length = l.length := by have := congrArg List.length hqs; rw [List.length_map, hco.li] at this; exact this
 refine ah (zz0 (bT rfl rfl) (ad (an ?_)))
 refine au rfl ?_ ?_ <;> intro h4 <;> try simp only [bs] at h4
 ·refine bC (an (aF (ah (zz0 (aa rfl) (zz0 (iH rfl rfl aL ax) ?_)))))
  refine zz0 (pB rfl aQ ax) ?_
  refine dC bR rfl (fun b5 => ?_)
  refine zz0 (ab rfl) (aB aM rfl rfl ax ?_)
  refine aI (zz0 (aa rfl) (zz0 (bh rfl) ?_))
  refine zz0 (zz2 (off := 3) (ft := 224) rfl bB rfl eH) ?_
  refine zz0 (jW rfl f5) ?_
  refine zz0 (aa rfl) (zz0 (zz7 rfl rfl cQ aA) ?_)
  refine fV (l := gd) (i := k) ((-1)) rfl rfl aA ?_
  have hls6 : (List.set gd (k) ((-1))).length = (gd).length := List.length_set
  refine ad (an (an (gZ aP ?_)))
  refine aw (aa rfl) (aw (bh rfl) ?_)
  refine aw (zz2 (off := 1) (ft := 223) rfl bB rfl jT) ?_
  refine aw (jW rfl kC) ?_
  refine aw (zz2 (off := 0) (ft := 23) rfl aj rfl ae) ?_
  refine aw (aH rfl am) ?_
  refine aw (CG rfl rfl hA g8 aS iw) ?_
  rw [Ao, if_neg (by have := yF (l := l) (k := k) (by omega); omega), Option.getD_some]
  refine aw (aa rfl) (aw (fH rfl rfl) (bH ?_))
  refine ac ?_
  refine au rfl ?_ ?_ <;> intro h7 <;> try simp only [bs] at h7
  ·refine bJ (aG (bj (ac (ar (zz0 (cB rfl rfl) ?_)))))
   refine zz0 (aa rfl) (ad ?_)
   refine nU (k + 1, rs, qs, gd.set k (-1)) (Front.c Front.nil) (zz8 24 rfl) (o := ⟨by omega, ⟨by rw [Bj (by assumption)]; exact hrs, by rw [Bj (by assumption)]; exact hqs⟩, List.length_set.trans hgl, G4 (f := fun _ => -1) hgl hgm (by omega)⟩)
  refine bC (an ?_)
  have hne0 : ((jw l k).es.getD k []).length = 0 := by rw [(ux l k hk).2 k (Nat.le_refl _)]; rfl
  refine ar (zz0 (bG rfl aQ ax) ?_)
  refine gR rfl Tryz.call224 (fun w hw => xJ (l.getD k default) w (hIO _ (df (by omega)))) rfl (fun V8 => ?_)
  refine zz0 (lQ rfl af) ?_
  refine zz0 (aa rfl) (ad (aF ?_))
  refine bL (ι := Nat × List EdV × List (RV Int)) (fun ⟨j, rs', qs'⟩ => j ≤ (dL (l.getD k default)).length ∧ rs'.map (·.data) = (ji l k (jw l k) j).es ∧ qs'.map (·.data) = (ji l k (jw l k) j).into) (fun _ => (Bg.lessB w [bx] 0)) (fun ⟨j, rs', qs'⟩ => (rowE V8 23 al (dL (l.getD k default)) :: cellE b5 (aM.enc (l.getD k default)) 36 :: cellE bx [VI, .map (some bm), VE, VG, VB, VV, VM] 228 :: rowE VG 3 bN (gd.set k (-1)) :: rowE VE 272 gv rs' :: rowE VQ 224 dh qs' :: (rs'.map (rvE 274 eL) ++ (qs'.map (rvE 3 bN) ++ [])))) (fun ⟨j, rs', qs'⟩ => [(65, .int .i64 (j : Nat))]) (fun ⟨j, rs', qs'⟩ => (dL (l.getD k default)).length - j) (0, rs, qs) ⟨Nat.zero_le _, hrs, hqs⟩ (Front.c Front.nil) (by repeat' (first | exact Pick.refl _ | exact Del.here _ | apply Pick.cons | apply Del.there | apply Pick.skip | exact Pick.nil _)) rfl (fun i hi m hm => ?_)
  obtain ⟨j, rs', qs'⟩ := i
  replace hi : j ≤ (dL (l.getD k default)).length ∧ rs'.map (·.data) = (ji l k (jw l k) j).es ∧ qs'.map (·.data) = (ji l k (jw l k) j).into := hi
  replace hm : m = (dL (l.getD k default)).length - j := hm
  change Tr _ _ (rowE V8 23 al (dL (l.getD k default)) :: cellE b5 (aM.enc (l.getD k default)) 36 :: cellE bx [VI, .map (some bm), VE, VG, VB, VV, VM] 228 :: rowE VG 3 bN (gd.set k (-1)) :: rowE VE 272 gv rs' :: rowE VQ 224 dh qs' :: (rs'.map (rvE 274 eL) ++ (qs'.map (rvE 3 bN) ++ []))) ([(65, .int .i64 (j : Nat))] ++ _) _
  obtain ⟨hj, hrs', hqs'⟩ := hi
  have hjs0 := jQ (l.getD k default)
  have hrl' : rs'.length = l.length := by have := congrArg List.length hrs'; rw [List.length_map, (oP (by omega) hco hne0 j (Nat.le_trans hj (jQ _))).1] at this; exact this
  have hql' : qs'.length = l.length := by have := congrArg List.length hqs'; rw [List.length_map, (oP (by omega) hco hne0 j (Nat.le_trans hj (jQ _))).2.1] at this; exact this
  refine ah (zz0 (bT rfl rfl) (ad (an ?_)))
  refine au rfl ?_ ?_ <;> intro h9 <;> try simp only [bs] at h9
  ·refine bC (an (aF (ah (zz0 (aa rfl) (zz0 (zz7 rfl rfl af ae) ?_)))))
   refine zz0 (er rfl am) ?_
   refine zz0 (ab rfl) (zz0 (ab rfl) (aI (zz0 (aa rfl) (zz0 (bh rfl) ?_))))
   refine zz0 (zz2 (off := 1) (ft := 223) rfl bB rfl jT) ?_
   refine zz0 (jW rfl kC) ?_
   refine zz0 (aa rfl) (zz0 (zn rfl rfl hA g8 aS iw) ?_)
   rw [Ao]
   obtain ⟨to, hto⟩ : ∃ to, to = (dR l ((dL (l.getD k default)).getD j default)) := ⟨_, rfl⟩
   rw [← hto]
   refine zz0 (aa rfl) (zz0 (aN rfl rfl) (zz0 (aN rfl rfl) (zz0 (ab rfl) (zz0 (ab rfl) (aI (zz0 (aa rfl) (ad ?_)))))))
   refine au rfl ?_ ?_ <;> intro h10 <;> try simp only [bs] at h10
   ·have hok := oP (by omega) hco hne0 j (Nat.le_trans hj (jQ _))
    have hdl : (rs'.getD k default).data.length ≤ 2 := by rw [lX hrs' k]; exact Nat.le_trans (hok.2.2.2.2.1 k) (by split <;> (have := jQ (l.getD k default); omega))
    have hdq : (qs'.getD to.toNat default).data.length ≤ 2 * k + j := by rw [lX hqs']; exact hok.2.2.2.2.2.1 _
    have hjs := jQ (l.getD k default)
    have ht1 : (if to < 0 then none else some to).isSome = true := by assumption
    have ht0 : ¬ to < 0 := fun q => by rw [if_pos q] at ht1; simp at ht1
    have htl := (q9 l ((dL (l.getD k default)).getD j default)).2
    rw [← hto] at htl
    rw [if_neg ht0, Option.getD_some]
    refine cZ (ι := Option Addr × Nat) (fun ⟨pe, ce⟩ => True) (fun _ => (Bg.lessB w [bx] 0)) (fun ⟨pe, ce⟩ => (rowE V8 23 al (dL (l.getD k default)) :: cellE b5 (aM.enc (l.getD k default)) 36 :: cellE bx [VI, .map (some bm), VE, VG, VB, VV, VM] 228 :: rowE VG 3 bN (gd.set k (-1)) :: rowE VE 272 gv (rs'.set k ⟨(rs'.getD k default).data ++ [(to, decide ((j : Int) = 0))], pe, ce⟩) :: rowE VQ 224 dh qs' :: ((rs'.set k ⟨(rs'.getD k default).data ++ [(to, decide ((j : Int) = 0))], pe, ce⟩).map (rvE 274 eL) ++ (qs'.map (rvE 3 bN) ++ [])))) (fun ⟨pe, ce⟩ => []) ?_ (fun i hi => ?_)
    ·skip
     refine zg (A := [rowE V8 23 al (dL (l.getD k default)), cellE b5 (aM.enc (l.getD k default)) 36, cellE bx [VI, .map (some bm), VE, VG, VB, VV, VM] 228, rowE VG 3 bN (gd.set k (-1)), rowE VE 272 gv rs', rowE VQ 224 dh qs']) (f := (rvE 274 eL)) (rs := rs') k (by omega) ?_
     change Tr _ _ ((rvE 274 eL) (rs'.getD k default) :: rowE V8 23 al (dL (l.getD k default)) :: cellE b5 (aM.enc (l.getD k default)) 36 :: cellE bx [VI, .map (some bm), VE, VG, VB, VV, VM] 228 :: rowE VG 3 bN (gd.set k (-1)) :: rowE VE 272 gv rs' :: rowE VQ 224 dh qs' :: ((rs'.eraseIdx k).map (rvE 274 eL) ++ (qs'.map (rvE 3 bN) ++ []))) _ _
     refine dU ([cellE bx [VI, .map (some bm), VE, VG, VB, VV, VM] 228]) 20 rfl aP ?_
     refine zz4 0 rfl (aa rfl) ?_
     refine zz4 1 rfl (bh rfl) ?_
     refine zz4 2 rfl (zz2 (off := 2) (ft := 226) rfl bB rfl jS) ?_
     refine zz4 3 rfl (jW rfl Tryz.isAgg226) ?_
     refine zz4 4 rfl (aa rfl) ?_
     refine zz4 5 rfl (aa rfl) ?_
     refine zz4 6 rfl (bh rfl) ?_
     refine zz4 7 rfl (zz2 (off := 2) (ft := 226) rfl bB rfl jS) ?_
     refine zz4 8 rfl (jW rfl Tryz.isAgg226) ?_
     refine zz4 9 rfl (aa rfl) ?_
     refine jk 10 rfl (by kernel_rfl) (aT (cN (aT (aT (cN (cN (aT (aT (cN (aT cL)))))))))) (xx rfl rfl hVE g7 ja (by rw [List.length_replicate]; omega)) ?_
     refine zz4 12 rfl (aa rfl) ?_
     refine zz4 13 rfl (aa rfl) ?_
     refine zz4 14 rfl (bA rfl rfl) ?_
     refine zz4 15 rfl (bK (vs := [(0, _), (1, _)]) rfl rfl (sk _ _)) ?_
     refine dw [11, 16] (fun iq hq => ?_)
     rcases List.mem_cons.1 hq with rfl | hq
     ·skip
      refine bF rfl ?_
      refine zz0 (er (V := VE) (E := gv) (l := rs') (i := k) rfl Tryz.isAgg272) ?_
      refine bV ?_
      refine dw [16] (fun iq hq => ?_)
      obtain rfl := List.mem_singleton.1 hq
      refine bF rfl ?_
      refine iG (E := eL) (to, decide ((j : Int) = 0)) rfl rfl f8 i6 kR (fun V11 => ?_)
      refine bV ?_
      refine dw [17] (fun iq hq => ?_)
      obtain rfl := List.mem_singleton.1 hq
      refine bF rfl ?_
      refine zz1 rfl rfl f8 sQ (fun V12 => ?_)
      refine du (.head _) (fun pe ce hpv => ?_)
      subst hpv
      refine bV ?_
      refine jk 18 rfl (by kernel_rfl) (aT (cN (aT (aT (cN (cN (aT (aT (cN (aT cL)))))))))) (xx rfl rfl hVE g7 ja (by rw [List.length_replicate]; omega)) ?_
      refine dw [19] (fun iq hq => ?_)
      obtain rfl := List.mem_singleton.1 hq
      refine bF rfl ?_
      refine fV (l := rs') (i := k) (⟨(rs'.getD k default).data ++ [(to, decide ((j : Int) = 0))], pe, ce⟩) rfl rfl ja ?_
      have hls13 : (List.set rs' (k) (⟨(rs'.getD k default).data ++ [(to, decide ((j : Int) = 0))], pe, ce⟩)).length = (rs').length := List.length_set
      refine xn (A := [rowE V8 23 al (dL (l.getD k default)), cellE b5 (aM.enc (l.getD k default)) 36, cellE bx [VI, .map (some bm), VE, VG, VB, VV, VM] 228, rowE VG 3 bN (gd.set k (-1)), rowE VE 272 gv (rs'.set k ⟨(rs'.getD k default).data ++ [(to, decide ((j : Int) = 0))], pe, ce⟩), rowE VQ 224 dh qs']) (f := (rvE 274 eL)) (rs := rs') k ⟨(rs'.getD k default).data ++ [(to, decide ((j : Int) = 0))], pe, ce⟩ (by omega) ?_
      change Tr _ _ (rowE V8 23 al (dL (l.getD k default)) :: cellE b5 (aM.enc (l.getD k default)) 36 :: cellE bx [VI, .map (some bm), VE, VG, VB, VV, VM] 228 :: rowE VG 3 bN (gd.set k (-1)) :: rowE VE 272 gv (rs'.set k ⟨(rs'.getD k default).data ++ [(to, decide ((j : Int) = 0))], pe, ce⟩) :: rowE VQ 224 dh qs' :: ((rs'.set k ⟨(rs'.getD k default).data ++ [(to, decide ((j : Int) = 0))], pe, ce⟩).map (rvE 274 eL) ++ (qs'.map (rvE 3 bN) ++ []))) _ _
      refine bV ?_
      refine iz ?_
      refine ac ?_
      apply ed (pe, ce)
      ·exact rfl
      ·exact Front.nil
      ·exact zz8 19 rfl
      ·exact (Pick.refl _)
      exact trivial
     obtain rfl := List.mem_singleton.1 hq
     refine bF rfl ?_
     refine iG (E := eL) (to, decide ((j : Int) = 0)) rfl rfl f8 i6 kR (fun V14 => ?_)
     refine bV ?_
     refine dw [11] (fun iq hq => ?_)
     obtain rfl := List.mem_singleton.1 hq
     refine bF rfl ?_
     refine zz0 (er (V := VE) (E := gv) (l := rs') (i := k) rfl Tryz.isAgg272) ?_
     refine bV ?_
     refine dw [17] (fun iq hq => ?_)
     obtain rfl := List.mem_singleton.1 hq
     refine bF rfl ?_
     refine zz1 rfl rfl f8 sQ (fun V15 => ?_)
     refine du (.head _) (fun pe ce hpv => ?_)
     subst hpv
     refine bV ?_
     refine jk 18 rfl (by kernel_rfl) (aT (cN (aT (aT (cN (cN (aT (aT (cN (aT cL)))))))))) (xx rfl rfl hVE g7 ja (by rw [List.length_replicate]; omega)) ?_
     refine dw [19] (fun iq hq => ?_)
     obtain rfl := List.mem_singleton.1 hq
     refine bF rfl ?_
     refine fV (l := rs') (i := k) (⟨(rs'.getD k default).data ++ [(to, decide ((j : Int) = 0))], pe, ce⟩) rfl rfl ja ?_
     have hls16 : (List.set rs' (k) (⟨(rs'.getD k default).data ++ [(to, decide ((j : Int) = 0))], pe, ce⟩)).length = (rs').length := List.length_set
     refine xn (A := [rowE V8 23 al (dL (l.getD k default)), cellE b5 (aM.enc (l.getD k default)) 36, cellE bx [VI, .map (some bm), VE, VG, VB, VV, VM] 228, rowE VG 3 bN (gd.set k (-1)), rowE VE 272 gv (rs'.set k ⟨(rs'.getD k default).data ++ [(to, decide ((j : Int) = 0))], pe, ce⟩), rowE VQ 224 dh qs']) (f := (rvE 274 eL)) (rs := rs') k ⟨(rs'.getD k default).data ++ [(to, decide ((j : Int) = 0))], pe, ce⟩ (by omega) ?_
     change Tr _ _ (rowE V8 23 al (dL (l.getD k default)) :: cellE b5 (aM.enc (l.getD k default)) 36 :: cellE bx [VI, .map (some bm), VE, VG, VB, VV, VM] 228 :: rowE VG 3 bN (gd.set k (-1)) :: rowE VE 272 gv (rs'.set k ⟨(rs'.getD k default).data ++ [(to, decide ((j : Int) = 0))], pe, ce⟩) :: rowE VQ 224 dh qs' :: ((rs'.set k ⟨(rs'.getD k default).data ++ [(to, decide ((j : Int) = 0))], pe, ce⟩).map (rvE 274 eL) ++ (qs'.map (rvE 3 bN) ++ []))) _ _
     refine bV ?_
     refine iz ?_
     refine ac ?_
     apply ed (pe, ce)
     ·exact rfl
     ·exact Front.nil
     ·exact zz8 19 rfl
     ·exact (Pick.refl _)
     exact trivial
    obtain ⟨pe, ce⟩ := i
    replace hi : True := hi
    change Tr _ _ (rowE V8 23 al (dL (l.getD k default)) :: cellE b5 (aM.enc (l.getD k default)) 36 :: cellE bx [VI, .map (some bm), VE, VG, VB, VV, VM] 228 :: rowE VG 3 bN (gd.set k (-1)) :: rowE VE 272 gv (rs'.set k ⟨(rs'.getD k default).data ++ [(to, decide ((j : Int) = 0))], pe, ce⟩) :: rowE VQ 224 dh qs' :: ((rs'.set k ⟨(rs'.getD k default).data ++ [(to, decide ((j : Int) = 0))], pe, ce⟩).map (rvE 274 eL) ++ (qs'.map (rvE 3 bN) ++ []))) ([] ++ _) _
    refine ER (A := [rowE V8 23 al (dL (l.getD k default)), cellE b5 (aM.enc (l.getD k default)) 36, cellE bx [VI, .map (some bm), VE, VG, VB, VV, VM] 228, rowE VG 3 bN (gd.set k (-1)), rowE VE 272 gv (rs'.set k ⟨(rs'.getD k default).data ++ [(to, decide ((j : Int) = 0))], pe, ce⟩), rowE VQ 224 dh qs']) (B := (rs'.set k ⟨(rs'.getD k default).data ++ [(to, decide ((j : Int) = 0))], pe, ce⟩).map (rvE 274 eL)) (f := (rvE 3 bN)) (rs := qs') to.toNat (by omega) ?_
    change Tr _ _ ((rvE 3 bN) (qs'.getD to.toNat default) :: rowE V8 23 al (dL (l.getD k default)) :: cellE b5 (aM.enc (l.getD k default)) 36 :: cellE bx [VI, .map (some bm), VE, VG, VB, VV, VM] 228 :: rowE VG 3 bN (gd.set k (-1)) :: rowE VE 272 gv (rs'.set k ⟨(rs'.getD k default).data ++ [(to, decide ((j : Int) = 0))], pe, ce⟩) :: rowE VQ 224 dh qs' :: ((rs'.set k ⟨(rs'.getD k default).data ++ [(to, decide ((j : Int) = 0))], pe, ce⟩).map (rvE 274 eL) ++ ((qs'.eraseIdx to.toNat).map (rvE 3 bN) ++ []))) _ _
    refine ar (zz0 (aa rfl) (zz0 (aa rfl) (zz0 (aa rfl) (zz0 (aa rfl) (zz0 (jm rfl rfl ga eH) ?_)))))
    refine zz0 (er rfl f5) ?_
    refine zz0 (aa rfl) ?_
    refine iG (E := bN) (k : Int) rfl rfl cQ aA iw (fun V17 => ?_)
    refine zz1 rfl rfl cQ j8 (fun V18 => ?_)
    refine du (.head _) (fun pq cq hpv => ?_)
    subst hpv
    refine zz0 (jm rfl rfl ga eH) ?_
    refine fV (l := qs') (i := to.toNat) (⟨(qs'.getD to.toNat default).data ++ [(k : Int)], pq, cq⟩) rfl rfl eH ?_
    have hls19 : (List.set qs' (to.toNat) (⟨(qs'.getD to.toNat default).data ++ [(k : Int)], pq, cq⟩)).length = (qs').length := List.length_set
    refine EQ (A := [rowE V8 23 al (dL (l.getD k default)), cellE b5 (aM.enc (l.getD k default)) 36, cellE bx [VI, .map (some bm), VE, VG, VB, VV, VM] 228, rowE VG 3 bN (gd.set k (-1)), rowE VE 272 gv (rs'.set k ⟨(rs'.getD k default).data ++ [(to, decide ((j : Int) = 0))], pe, ce⟩), rowE VQ 224 dh (qs'.set to.toNat ⟨(qs'.getD to.toNat default).data ++ [(k : Int)], pq, cq⟩)]) (B := (rs'.set k ⟨(rs'.getD k default).data ++ [(to, decide ((j : Int) = 0))], pe, ce⟩).map (rvE 274 eL)) (f := (rvE 3 bN)) (rs := qs') to.toNat ⟨(qs'.getD to.toNat default).data ++ [(k : Int)], pq, cq⟩ (by omega) ?_
    change Tr _ _ (rowE V8 23 al (dL (l.getD k default)) :: cellE b5 (aM.enc (l.getD k default)) 36 :: cellE bx [VI, .map (some bm), VE, VG, VB, VV, VM] 228 :: rowE VG 3 bN (gd.set k (-1)) :: rowE VE 272 gv (rs'.set k ⟨(rs'.getD k default).data ++ [(to, decide ((j : Int) = 0))], pe, ce⟩) :: rowE VQ 224 dh (qs'.set to.toNat ⟨(qs'.getD to.toNat default).data ++ [(k : Int)], pq, cq⟩) :: ((rs'.set k ⟨(rs'.getD k default).data ++ [(to, decide ((j : Int) = 0))], pe, ce⟩).map (rvE 274 eL) ++ ((qs'.set to.toNat ⟨(qs'.getD to.toNat default).data ++ [(k : Int)], pq, cq⟩).map (rvE 3 bN) ++ []))) _ _
    refine aD (aY (ac (ar (zz0 (cB rfl rfl) ?_))))
    refine zz0 (aa rfl) (ad ?_)
    refine nU (j + 1, (rs'.set k ⟨(rs'.getD k default).data ++ [(to, decide ((j : Int) = 0))], pe, ce⟩), (qs'.set to.toNat ⟨(qs'.getD to.toNat default).data ++ [(k : Int)], pq, cq⟩)) (Front.c Front.nil) (zz8 31 rfl) (o := ⟨by omega, by rw [vO (by rw [← hto]; exact ht0), ← hto]; exact Dj hrs' k _ _ _, by rw [vO (by rw [← hto]; exact ht0), ← hto]; exact Dj hqs' _ _ _ _⟩)
   refine cd (aY (ac (ar (zz0 (cB rfl rfl) ?_))))
   refine zz0 (aa rfl) (ad ?_)
   have hlt0 : (dR l ((dL (l.getD k default)).getD j default)) < 0 := by
    rw [← hto]
    by_cases q : to < 0
    ·exact q
    ·have ht1 : (if to < 0 then none else some to).isSome = false := by first | assumption | simp_all
     rw [if_neg q] at ht1; simp at ht1
   refine nU (j + 1, rs', qs') (Front.c Front.nil) (zz8 21 rfl) (o := ⟨by omega, by rw [yR hlt0]; exact hrs', by rw [yR hlt0]; exact hqs'⟩)
  refine bJ (aG (aG (bj (aY (ac (ar (zz0 (cB rfl rfl) ?_)))))))
  refine zz0 (aa rfl) (ad ?_)
  have hje : j = (dL (l.getD k default)).length := by omega
  refine nU (k + 1, rs', qs', gd.set k (-1)) (Front.c Front.nil) (zz8 30 rfl) (o := ⟨by omega, ⟨by rw [yQ (by assumption), ← hje]; exact hrs', by rw [yQ (by assumption), ← hje]; exact hqs'⟩, List.length_set.trans hgl, G4 (f := fun _ => -1) hgl hgm (by omega)⟩)
 refine bJ (aG (aG (bj (ac (an ?_)))))
 obtain rfl : k = l.length := by omega
 refine ve (A := [cellE bx [VI, .map (some bm), VE, VG, VB, VV, VM] 228, rowE VG 3 bN gd, rowE VE 272 gv rs, rowE VQ 224 dh qs]) (B := rs.map (rvE 274 eL)) qs (fun F8 hF8 hQ8 => ?_)
 change Tr _ _ (cellE bx [VI, .map (some bm), VE, VG, VB, VV, VM] 228 :: rowE VG 3 bN gd :: rowE VE 272 gv rs :: rowE VQ 224 dh qs :: (rs.map (rvE 274 eL) ++ [])) _ _
 refine j6 (V := VQ) (T := 224) (E := dh) (l := qs) (.there _ (.there _ (.there _ (.here _)))) (fun F9 hF89 hSQ => ?_)
 have hF9 := hF8.trans hF89
 have hQ9 := hQ8.mono hF89.blk
 have hI9 := hI.mono hF9.blk
 refine ar (zz0 (aa rfl) (zz0 (bh rfl) ?_))
 refine zz0 (zz2 (off := 0) (ft := 50) rfl bB rfl cY) ?_
 refine zz0 (jW rfl dq) ?_
 refine zz0 (gj rfl aL) ?_
 refine zz0 (aa rfl) (ad (aF ?_))
 refine bL (ι := Nat × List Int) (fun ⟨k, gd⟩ => k ≤ l.length ∧ gd.length = l.length ∧ (∀ j, j < k → gd.getD j default = mo l e (jw l l.length).into j) ∧ ∀ j, k ≤ j → j < l.length → gd.getD j default = -1) (fun _ => F9) (fun ⟨k, gd⟩ => (cellE bx [VI, .map (some bm), VE, VG, VB, VV, VM] 228 :: rowE VG 3 bN gd :: rowE VE 272 gv rs :: (rs.map (rvE 274 eL) ++ []))) (fun ⟨k, gd⟩ => [(116, .int .i64 (k : Nat))]) (fun ⟨k, gd⟩ => l.length - k) (0, gd) ⟨Nat.zero_le _, hgl, fun j hj => absurd hj (Nat.not_lt_zero _), fun j _ hj => hgm j hj⟩ (Front.c Front.nil) (by repeat' (first | exact Pick.refl _ | exact Del.here _ | apply Pick.cons | apply Del.there | apply Pick.skip | exact Pick.nil _)) rfl (fun i hi m hm => ?_)
 obtain ⟨k, gd⟩ := i
 replace hi : k ≤ l.length ∧ gd.length = l.length ∧ (∀ j, j < k → gd.getD j default = mo l e (jw l l.length).into j) ∧ ∀ j, k ≤ j → j < l.length → gd.getD j default = -1 := hi
 replace hm : m = l.length - k := hm
 change Tr _ _ (cellE bx [VI, .map (some bm), VE, VG, VB, VV, VM] 228 :: rowE VG 3 bN gd :: rowE VE 272 gv rs :: (rs.map (rvE 274 eL) ++ [])) ([(116, .int .i64 (k : Nat))] ++ _) _
 obtain ⟨hk2, hgl2, hgm2, hgm3⟩ := hi
 refine ah (zz0 (bT rfl rfl) (ad (an ?_)))
 refine au rfl ?_ ?_ <;> intro h20 <;> try simp only [bs] at h20
 ·refine bC (an (aF (ah (zz0 (aa rfl) (zz0 (iH rfl rfl aL ax) ?_)))))
  refine zz0 (pB rfl aQ ax) ?_
  refine dC bR rfl (fun b21 => ?_)
  refine zz0 (ab rfl) (aB aM rfl rfl ax ?_)
  refine ad (an ?_)
  have hqk : Sl F9.blk bN (qs.getD k default).data (.slice (qs.getD k default).dp (qs.getD k default).data.length (qs.getD k default).dc) := hQ9 _ (df (by omega))
  have hib : ∀ x ∈ (qs.getD k default).data, 0 ≤ x ∧ x < (l.length : Int) := fun x hx => by
   rw [lX hqs k] at hx
   exact (re l (Nat.le_refl _)).i _ (getD_mem hx) x hx
  refine gZ aP ?_
  refine aw (zz2 (off := 2) (ft := 3) rfl aj rfl aA) ?_
  refine aw (aH rfl aO) ?_
  refine aw (bA rfl rfl) (aw (aa rfl) ?_)
  apply fx
  ·exact (rfl : _ = (3, 124, 127))
  ·exact rfl
  ·intro hT22; have hT22' := hT22
   try simp only [bs] at hT22'
   refine bX hT22 (bG rfl aQ ax) ?_
   refine bX hT22 (az rfl j4 (fun w hw => jY _ w (hIO _ (df (by omega))))) ?_
   refine aw (aV rfl hT22 rfl) ?_
   exact dj (Sub.cons rfl (bD 3 rfl))
  ·intro hF22
   refine bW hF22 (bW hF22 (aw (aU rfl hF22 rfl) ?_))
   exact dj (Sub.cons rfl (bD 3 rfl))
  refine aw (aa rfl) ?_
  apply fx
  ·exact (rfl : _ = (12, 128, 140))
  ·exact rfl
  ·intro hT23; have hT23' := hT23
   try simp only [bs] at hT23'
   refine bX hT23 (zz2 (off := 0) (ft := 23) rfl aj rfl ae) ?_
   refine bX hT23 (aH rfl am) ?_
   refine bX hT23 (aa rfl) (bX hT23 (bh rfl) ?_)
   refine bX hT23 (zz2 (off := 0) (ft := 50) rfl bB rfl cY) ?_
   refine bX hT23 (jW rfl dq) ?_
   refine bX hT23 (aa rfl) (bX hT23 (iH rfl rfl aL ax) ?_)
   refine bX hT23 (zz2 (off := 0) (ft := 23) rfl aj rfl ae) ?_
   refine bX hT23 (ql rfl (by assumption) am (by omega) (by rfl)) ?_
   refine bX hT23 (iU rfl rfl) ?_
   refine aw (aV rfl hT23 rfl) ?_
   exact dj (Sub.cons rfl (bD 12 rfl))
  ·intro hF23
   refine bW hF23 (bW hF23 (bW hF23 (bW hF23 (bW hF23 (bW hF23 (bW hF23 (bW hF23 (bW hF23 (bW hF23 (bW hF23 (aw (aU rfl hF23 rfl) ?_)))))))))))
   exact dj (Sub.cons rfl (bD 12 rfl))
  refine aw (aa rfl) ?_
  apply fx
  ·exact (rfl : _ = (7, 141, 148))
  ·exact rfl
  ·intro hT24; have hT24' := hT24
   try simp only [bs] at hT24'
   refine bX hT24 (aa rfl) (bX hT24 (aa rfl) (bX hT24 (iH rfl rfl ga eH) ?_))
   refine bX hT24 (jl rfl f5) ?_
   refine bX hT24 (gj rfl cQ) ?_
   refine bX hT24 (bA rfl rfl) (aw (aV rfl hT24 rfl) ?_)
   exact dj (Sub.cons rfl (bD 7 rfl))
  ·intro hF24
   refine bW hF24 (bW hF24 (bW hF24 (bW hF24 (bW hF24 (bW hF24 (aw (aU rfl hF24 rfl) ?_))))))
   exact dj (Sub.cons rfl (bD 7 rfl))
  refine aw (aa rfl) ?_
  apply fx
  ·exact (rfl : _ = (14, 149, 163))
  ·exact rfl
  ·intro hT25; have hT25' := hT25
   try simp only [bs] at hT25'
   have hx0 := hib _ (df (k := 0) (by omega))
   refine bX hT25 (aa rfl) (bX hT25 (bh rfl) ?_)
   refine bX hT25 (zz2 (off := 0) (ft := 50) rfl bB rfl cY) ?_
   refine bX hT25 (jW rfl dq) ?_
   refine bX hT25 (aa rfl) (bX hT25 (aa rfl) (bX hT25 (iH rfl rfl ga eH) ?_))
   refine bX hT25 (jl rfl f5) ?_
   refine bX hT25 (po (i := 0) rfl rfl hqk cQ aA (by rfl) (by omega)) ?_
   refine bX hT25 (jl rfl aO) ?_
   refine bX hT25 (nZ rfl rfl aL ax) ?_
   refine bX hT25 (pB rfl aQ ax) ?_
   refine bX hT25 (az rfl Tryz.call225 (fun w hw => sG _ w (hIO _ (df (by omega))))) ?_
   refine aw (aV rfl hT25 rfl) ?_
   exact dj (Sub.cons rfl (bD 14 rfl))
  ·intro hF25
   refine bW hF25 (bW hF25 (bW hF25 (bW hF25 (bW hF25 (bW hF25 (bW hF25 (bW hF25 (bW hF25 (bW hF25 (bW hF25 (bW hF25 (bW hF25 (aw (aU rfl hF25 rfl) ?_)))))))))))))
   exact dj (Sub.cons rfl (bD 14 rfl))
  refine bH ?_
  refine ac ?_
  refine au rfl ?_ ?_ <;> intro h26 <;> try simp only [bs] at h26
  ·have hgq := h26
   refine fy 0 12 aP ?_
   refine bE ?_
   refine aw (aa rfl) (aw (bh rfl) ?_)
   refine aw (zz2 (off := 3) (ft := 224) rfl bB rfl eH) ?_
   refine aw (jW rfl f5) ?_
   refine aw (aa rfl) (aw (aa rfl) (aw (aa rfl) (aw (iH rfl rfl ga eH) ?_)))
   refine aw (jl rfl f5) ?_
   refine aw (po (i := 0) rfl rfl hqk cQ aA (by rfl) (by omega)) ?_
   refine aw (jl rfl aO) ?_
   refine aw (zz7 rfl rfl cQ aA) ?_
   refine bH ?_
   refine fV (l := gd) (i := k) (((qs.getD k default).data.getD 0 default)) rfl rfl aA ?_
   have hls27 : (List.set gd (k) (((qs.getD k default).data.getD 0 default))).length = (gd).length := List.length_set
   refine aD (aY (ac (ar (zz0 (cB rfl rfl) ?_))))
   refine zz0 (aa rfl) (ad ?_)
   have hgv : mo l e (jw l l.length).into k = ((qs.getD k default).data.getD 0 default) := by
    unfold mo
    rw [← lX hqs k]
    exact if_pos ⟨hgq.1.1.1.1, hgq.1.1.1.2, hgq.1.1.2, by omega, hgq.2⟩
   have hgy := G4 (n := l.length) hgl2 hgm2 (by omega)
   rw [hgv] at hgy
   refine nU (k + 1, gd.set k ((qs.getD k default).data.getD 0 default)) (Front.c Front.nil) (zz8 32 rfl) (o := ⟨by omega, List.length_set.trans hgl2, hgy, HN hgm3⟩)
  have hgq := h26
  refine cd (aY (ac (ar (zz0 (cB rfl rfl) ?_))))
  refine zz0 (aa rfl) (ad ?_)
  have hgv : mo l e (jw l l.length).into k = -1 := by
   unfold mo
   rw [← lX hqs k]
   refine if_neg (fun hq => ?_)
   rcases hgq with (((q | q) | q) | q) | q
   ·exact q hq.1
   ·exact q hq.2.1
   ·exact hq.2.2.1 q
   ·exact q (by omega)
   ·rw [hq.2.2.2.2] at q; cases q
  refine nU (k + 1, gd) (Front.c Front.nil) (zz8 20 rfl) (o := ⟨by omega, hgl2, HO hgl2 hgm2 ((hgm3 k (Nat.le_refl _) (by omega)).trans hgv.symm), fun j h1 h2 => hgm3 j (by omega) h2⟩)
 refine bJ (aG (aG (bj ?_)))
 refine fc Tryz.results161 (fun w' hw => ?_)
 have hgg := Co hgl2 (fun j hj => hgm2 j (by omega))
 rw [hgg, List.append_nil] at hw
 exact ⟨(VE, VG, rs), rfl, hw.upd hF9 (by repeat' (first | exact Pick.refl _ | exact Del.here _ | apply Pick.cons | apply Del.there | apply Pick.skip | exact Pick.nil _)), hrs⟩
end Go.Proofs.YtiajjbhcpeadfaaGreat
namespace Go.Proofs.YtiajjbhcpeadfaaGreat
open Go Go.HL Go.RowKit
theorem zV (l : List Bool) (V : Value) (a : Bool) (w : World) (hV : Sl (hp w) cw l V) :
  Cr Tryz.prog 163 #[V, .bool a] w (.int .i64 (dY (fun x => decide (a = x)) 0 l)) := by
 have hV' : Sl (Bg.of w).blk cw l V := hV
 have hlV := hV'.len_le
 refine enter Tryz.func163 rfl Tryz.ntmps163 rfl ?_
 refine ah (zz0 (ab rfl) (ad (an (ah (zz0 (aa rfl) (zz0 (gj rfl eF) ?_))))))
 refine zz0 (aa rfl) (ad (aF ?_))
 refine bL (ι := Nat) (fun k => k ≤ l.length ∧ dY (fun x => decide (a = x)) k (l.drop k) = dY (fun x => decide (a = x)) 0 l) (fun _ => _) (fun k => []) (fun k => [(8, .int .i64 (k : Nat))]) (fun k => l.length - k) 0 ⟨Nat.zero_le _, rfl⟩ (Front.c Front.nil) (by repeat' constructor) rfl (fun k hi m hm => ?_)
 replace hi : k ≤ l.length ∧ dY (fun x => decide (a = x)) k (l.drop k) = dY (fun x => decide (a = x)) 0 l := hi
 replace hm : m = l.length - k := hm
 change Tr _ _ [] ([(8, .int .i64 (k : Nat))] ++ _) _
 obtain ⟨hk1, hk2⟩ := hi
 refine ah (zz0 (bT rfl rfl) (ad (an ?_)))
 refine au rfl ?_ ?_ <;> intro h1 <;> try simp only [bs] at h1
 ·refine bC (an (aF (ah (zz0 (aa rfl) (zz0 (ab rfl) (aI (zz0 (aa rfl) (zz0 (aa rfl) ?_))))))))
  refine zz0 (aa rfl) (zz0 (iH rfl rfl eF bS) ?_)
  refine zz0 (jl rfl cE) ?_
  refine zz0 (zp rfl rfl Tryz.underlying4) ?_
  refine ad ?_
  refine au rfl ?_ ?_ <;> intro h2 <;> try simp only [bs] at h2
  ·refine ah (zz0 (aa rfl) (zz0 (ab rfl) (ad (aC (bv (ay (ay (bv (ay ?_)))))))))
   refine aX Tryz.results163 rfl (fun w' hw => ?_)
   exact ⟨by rw [← hk2, drop_cons (k := k) (by omega), dY, if_pos (by simp_all)], hw.b0⟩
  refine cd (aY (ac (ar (zz0 (cB rfl rfl) ?_))))
  refine zz0 (aa rfl) (ad ?_)
  refine cK (k + 1) (Front.c Front.nil) (zz8 12 rfl) (o := ⟨by omega, by rw [← hk2, drop_cons (k := k) (by omega), dY, if_neg (by simp_all)]⟩)
 refine bJ (aG (aG (bj (ac (ah (zz0 (ab rfl) (ad (aC ?_))))))))
 refine aX Tryz.results163 rfl (fun w' hw => ?_)
 exact ⟨by rw [← hk2, List.drop_of_length_le (by omega)]; rfl, hw.b0⟩
theorem zb (l : List Ins) (entry : UInt32) (rounds : Nat) (V : Value) (w : World) (hI : Sl (hp w) aM l V) (hIO : ∀ x ∈ l, InsOK x) (hrd : rounds ≤ 100000) :
  Calls Tryz.prog 107 #[V, .int .u32 entry.toNat, .int .i64 (rounds : Nat)] w (fun e w' => ∃ V : Value, e = .returned (.tuple #[V, .int .i64 (eC l entry rounds).2]) ∧ Below w.heap.size w w' ∧ NewEnts w w' [rowE V 37 cF (eC l entry rounds).1]) := by
 obtain ⟨pV, cV, hvp, _⟩ := hI.shape
 subst hvp
 have hI0 : Sl (Bg.of0 w).blk aM l (.slice pV l.length cV) := hI
 have hlI := hI0.len_le
 refine lE Tryz.func107 rfl Tryz.ntmps107 rfl ?_
 refine ah (zz0 (ab rfl) (zz0 (ab rfl) (ad (an (ah (zz0 (aa rfl) (zz0 (gj rfl aL) ?_)))))))
 refine zz0 (fg rfl rfl) (ad ?_)
 refine au rfl ?_ ?_ <;> intro h1 <;> try simp only [bs] at h1
 ·refine an (bZ 37 cF ?_)
  refine ar (zz0 (ab rfl) (zz0 (ab rfl) (ad (aC (ay ?_)))))
  refine dE kj rfl rfl (fun w' hw => ?_)
  have e : eC l entry rounds = ([], 6) := if_pos (by omega)
  refine ⟨.slice none 0 0, by rw [e], hw.below0 (Bg.le.refl _), by rw [e]; exact hw.ents0 rfl (by repeat' constructor)⟩
 refine bC ?_
 refine cZ (ι := Nat × Nat × Nat × Nat) (fun ⟨bm, bvv, bww, bq⟩ => True) (fun _ => (Bg.of0 w)) (fun ⟨bm, bvv, bww, bq⟩ => [cellE bq [(.slice pV l.length cV), .map (some bm), .slice none 0 0, .slice none 0 0, .slice none 0 0, .slice (some ⟨bvv, 0, none⟩) (List.replicate l.length (0 : Int)).length l.length, .slice (some ⟨bww, 0, none⟩) (List.replicate l.length false).length l.length] 228, mapE bm ig [], rowE (.slice (some ⟨bvv, 0, none⟩) (List.replicate l.length (0 : Int)).length l.length) 3 bN (List.replicate l.length 0), rowE (.slice (some ⟨bww, 0, none⟩) (List.replicate l.length false).length l.length) 4 cw (List.replicate l.length false)]) (fun ⟨bm, bvv, bww, bq⟩ => [(8, .pointer (some ⟨bq, 0, none⟩))]) ?_ (fun i hi => ?_)
 ·skip
  refine dU ([]) 11 rfl aP ?_
  refine zz4 0 rfl (aa rfl) ?_
  refine zz4 2 rfl (aa rfl) ?_
  refine Bs 3 rfl (by kernel_rfl) (aT cL) rfl aL ?_
  refine zz4 5 rfl (aa rfl) ?_
  refine Bs 6 rfl (by kernel_rfl) (aT cL) rfl aL ?_
  refine dw [1, 4, 7] (fun iq hq => ?_)
  rcases List.mem_cons.1 hq with rfl | hq
  ·skip
   refine bF rfl ?_
   refine gr ig rfl (fun bm => ?_)
   refine bV ?_
   refine dw [4, 7] (fun iq hq => ?_)
   rcases List.mem_cons.1 hq with rfl | hq
   ·skip
    refine bF rfl ?_
    refine jg (E := bN) 0 rfl rfl cQ j8 rfl rfl rfl (by constructor <;> omega) rfl (fun bvv => ?_)
    refine bV ?_
    refine dw [7] (fun iq hq => ?_)
    obtain rfl := List.mem_singleton.1 hq
    refine bF rfl ?_
    refine jg (E := cw) false rfl rfl eF nl rfl rfl rfl (by constructor <;> omega) rfl (fun bww => ?_)
    refine bV ?_
    refine jk 8 rfl (by kernel_rfl) (aT cL) (bK (vs := [(0, _), (1, _), (5, _), (6, _)]) (cs := #[(.slice pV l.length cV), .map (some bm), .slice none 0 0, .slice none 0 0, .slice none 0 0, .slice (some ⟨bvv, 0, none⟩) (List.replicate l.length (0 : Int)).length l.length, .slice (some ⟨bww, 0, none⟩) (List.replicate l.length false).length l.length]) rfl rfl (by kernel_rfl)) ?_
    refine dw [9] (fun iq hq => ?_)
    obtain rfl := List.mem_singleton.1 hq
    refine bF rfl ?_
    refine dG (cs := [(.slice pV l.length cV), .map (some bm), .slice none 0 0, .slice none 0 0, .slice none 0 0, .slice (some ⟨bvv, 0, none⟩) (List.replicate l.length (0 : Int)).length l.length, .slice (some ⟨bww, 0, none⟩) (List.replicate l.length false).length l.length]) rfl rfl (fun bq => ?_)
    refine bV ?_
    refine zz4 10 rfl (ab rfl) ?_
    refine iz ?_
    refine ac ?_
    refine co (_, _, _, _) (Front.c Front.nil) (zz8 11 rfl) (o := trivial)
   obtain rfl := List.mem_singleton.1 hq
   refine bF rfl ?_
   refine jg (E := cw) false rfl rfl eF nl rfl rfl rfl (by constructor <;> omega) rfl (fun bww => ?_)
   refine bV ?_
   refine dw [4] (fun iq hq => ?_)
   obtain rfl := List.mem_singleton.1 hq
   refine bF rfl ?_
   refine jg (E := bN) 0 rfl rfl cQ j8 rfl rfl rfl (by constructor <;> omega) rfl (fun bvv => ?_)
   refine bV ?_
   refine jk 8 rfl (by kernel_rfl) (aT cL) (bK (vs := [(0, _), (1, _), (5, _), (6, _)]) (cs := #[(.slice pV l.length cV), .map (some bm), .slice none 0 0, .slice none 0 0, .slice none 0 0, .slice (some ⟨bvv, 0, none⟩) (List.replicate l.length (0 : Int)).length l.length, .slice (some ⟨bww, 0, none⟩) (List.replicate l.length false).length l.length]) rfl rfl (by kernel_rfl)) ?_
   refine dw [9] (fun iq hq => ?_)
   obtain rfl := List.mem_singleton.1 hq
   refine bF rfl ?_
   refine dG (cs := [(.slice pV l.length cV), .map (some bm), .slice none 0 0, .slice none 0 0, .slice none 0 0, .slice (some ⟨bvv, 0, none⟩) (List.replicate l.length (0 : Int)).length l.length, .slice (some ⟨bww, 0, none⟩) (List.replicate l.length false).length l.length]) rfl rfl (fun bq => ?_)
   refine bV ?_
   refine zz4 10 rfl (ab rfl) ?_
   refine iz ?_
   refine ac ?_
   refine co (_, _, _, _) (Front.c Front.nil) (zz8 11 rfl) (o := trivial)
  rcases List.mem_cons.1 hq with rfl | hq
  ·skip
   refine bF rfl ?_
   refine jg (E := bN) 0 rfl rfl cQ j8 rfl rfl rfl (by constructor <;> omega) rfl (fun bvv => ?_)
   refine bV ?_
   refine dw [1, 7] (fun iq hq => ?_)
   rcases List.mem_cons.1 hq with rfl | hq
   ·skip
    refine bF rfl ?_
    refine gr ig rfl (fun bm => ?_)
    refine bV ?_
    refine dw [7] (fun iq hq => ?_)
    obtain rfl := List.mem_singleton.1 hq
    refine bF rfl ?_
    refine jg (E := cw) false rfl rfl eF nl rfl rfl rfl (by constructor <;> omega) rfl (fun bww => ?_)
    refine bV ?_
    refine jk 8 rfl (by kernel_rfl) (aT cL) (bK (vs := [(0, _), (1, _), (5, _), (6, _)]) (cs := #[(.slice pV l.length cV), .map (some bm), .slice none 0 0, .slice none 0 0, .slice none 0 0, .slice (some ⟨bvv, 0, none⟩) (List.replicate l.length (0 : Int)).length l.length, .slice (some ⟨bww, 0, none⟩) (List.replicate l.length false).length l.length]) rfl rfl (by kernel_rfl)) ?_
    refine dw [9] (fun iq hq => ?_)
    obtain rfl := List.mem_singleton.1 hq
    refine bF rfl ?_
    refine dG (cs := [(.slice pV l.length cV), .map (some bm), .slice none 0 0, .slice none 0 0, .slice none 0 0, .slice (some ⟨bvv, 0, none⟩) (List.replicate l.length (0 : Int)).length l.length, .slice (some ⟨bww, 0, none⟩) (List.replicate l.length false).length l.length]) rfl rfl (fun bq => ?_)
    refine bV ?_
    refine zz4 10 rfl (ab rfl) ?_
    refine iz ?_
    refine ac ?_
    refine co (_, _, _, _) (Front.c Front.nil) (zz8 11 rfl) (o := trivial)
   obtain rfl := List.mem_singleton.1 hq
   refine bF rfl ?_
   refine jg (E := cw) false rfl rfl eF nl rfl rfl rfl (by constructor <;> omega) rfl (fun bww => ?_)
   refine bV ?_
   refine dw [1] (fun iq hq => ?_)
   obtain rfl := List.mem_singleton.1 hq
   refine bF rfl ?_
   refine gr ig rfl (fun bm => ?_)
   refine bV ?_
   refine jk 8 rfl (by kernel_rfl) (aT cL) (bK (vs := [(0, _), (1, _), (5, _), (6, _)]) (cs := #[(.slice pV l.length cV), .map (some bm), .slice none 0 0, .slice none 0 0, .slice none 0 0, .slice (some ⟨bvv, 0, none⟩) (List.replicate l.length (0 : Int)).length l.length, .slice (some ⟨bww, 0, none⟩) (List.replicate l.length false).length l.length]) rfl rfl (by kernel_rfl)) ?_
   refine dw [9] (fun iq hq => ?_)
   obtain rfl := List.mem_singleton.1 hq
   refine bF rfl ?_
   refine dG (cs := [(.slice pV l.length cV), .map (some bm), .slice none 0 0, .slice none 0 0, .slice none 0 0, .slice (some ⟨bvv, 0, none⟩) (List.replicate l.length (0 : Int)).length l.length, .slice (some ⟨bww, 0, none⟩) (List.replicate l.length false).length l.length]) rfl rfl (fun bq => ?_)
   refine bV ?_
   refine zz4 10 rfl (ab rfl) ?_
   refine iz ?_
   refine ac ?_
   refine co (_, _, _, _) (Front.c Front.nil) (zz8 11 rfl) (o := trivial)
  obtain rfl := List.mem_singleton.1 hq
  refine bF rfl ?_
  refine jg (E := cw) false rfl rfl eF nl rfl rfl rfl (by constructor <;> omega) rfl (fun bww => ?_)
  refine bV ?_
  refine dw [1, 4] (fun iq hq => ?_)
  rcases List.mem_cons.1 hq with rfl | hq
  ·skip
   refine bF rfl ?_
   refine gr ig rfl (fun bm => ?_)
   refine bV ?_
   refine dw [4] (fun iq hq => ?_)
   obtain rfl := List.mem_singleton.1 hq
   refine bF rfl ?_
   refine jg (E := bN) 0 rfl rfl cQ j8 rfl rfl rfl (by constructor <;> omega) rfl (fun bvv => ?_)
   refine bV ?_
   refine jk 8 rfl (by kernel_rfl) (aT cL) (bK (vs := [(0, _), (1, _), (5, _), (6, _)]) (cs := #[(.slice pV l.length cV), .map (some bm), .slice none 0 0, .slice none 0 0, .slice none 0 0, .slice (some ⟨bvv, 0, none⟩) (List.replicate l.length (0 : Int)).length l.length, .slice (some ⟨bww, 0, none⟩) (List.replicate l.length false).length l.length]) rfl rfl (by kernel_rfl)) ?_
   refine dw [9] (fun iq hq => ?_)
   obtain rfl := List.mem_singleton.1 hq
   refine bF rfl ?_
   refine dG (cs := [(.slice pV l.length cV), .map (some bm), .slice none 0 0, .slice none 0 0, .slice none 0 0, .slice (some ⟨bvv, 0, none⟩) (List.replicate l.length (0 : Int)).length l.length, .slice (some ⟨bww, 0, none⟩) (List.replicate l.length false).length l.length]) rfl rfl (fun bq => ?_)
   refine bV ?_
   refine zz4 10 rfl (ab rfl) ?_
   refine iz ?_
   refine ac ?_
   refine co (_, _, _, _) (Front.c Front.nil) (zz8 11 rfl) (o := trivial)
  obtain rfl := List.mem_singleton.1 hq
  refine bF rfl ?_
  refine jg (E := bN) 0 rfl rfl cQ j8 rfl rfl rfl (by constructor <;> omega) rfl (fun bvv => ?_)
  refine bV ?_
  refine dw [1] (fun iq hq => ?_)
  obtain rfl := List.mem_singleton.1 hq
  refine bF rfl ?_
  refine gr ig rfl (fun bm => ?_)
  refine bV ?_
  refine jk 8 rfl (by kernel_rfl) (aT cL) (bK (vs := [(0, _), (1, _), (5, _), (6, _)]) (cs := #[(.slice pV l.length cV), .map (some bm), .slice none 0 0, .slice none 0 0, .slice none 0 0, .slice (some ⟨bvv, 0, none⟩) (List.replicate l.length (0 : Int)).length l.length, .slice (some ⟨bww, 0, none⟩) (List.replicate l.length false).length l.length]) rfl rfl (by kernel_rfl)) ?_
  refine dw [9] (fun iq hq => ?_)
  obtain rfl := List.mem_singleton.1 hq
  refine bF rfl ?_
  refine dG (cs := [(.slice pV l.length cV), .map (some bm), .slice none 0 0, .slice none 0 0, .slice none 0 0, .slice (some ⟨bvv, 0, none⟩) (List.replicate l.length (0 : Int)).length l.length, .slice (some ⟨bww, 0, none⟩) (List.replicate l.length false).length l.length]) rfl rfl (fun bq => ?_)
  refine bV ?_
  refine zz4 10 rfl (ab rfl) ?_
  refine iz ?_
  refine ac ?_
  refine co (_, _, _, _) (Front.c Front.nil) (zz8 11 rfl) (o := trivial)
 obtain ⟨bm, bvv, bww, bq⟩ := i
 replace hi : True := hi
 change Tr _ _ [cellE bq [(.slice pV l.length cV), .map (some bm), .slice none 0 0, .slice none 0 0, .slice none 0 0, .slice (some ⟨bvv, 0, none⟩) (List.replicate l.length (0 : Int)).length l.length, .slice (some ⟨bww, 0, none⟩) (List.replicate l.length false).length l.length] 228, mapE bm ig [], rowE (.slice (some ⟨bvv, 0, none⟩) (List.replicate l.length (0 : Int)).length l.length) 3 bN (List.replicate l.length 0), rowE (.slice (some ⟨bww, 0, none⟩) (List.replicate l.length false).length l.length) 4 cw (List.replicate l.length false)] ([(8, .pointer (some ⟨bq, 0, none⟩))] ++ _) _
 obtain ⟨VV, hVV⟩ : ∃ V, V = Value.slice (some ⟨bvv, 0, none⟩) (List.replicate l.length (0 : Int)).length l.length := ⟨_, rfl⟩
 obtain ⟨VM, hVM⟩ : ∃ V, V = Value.slice (some ⟨bww, 0, none⟩) (List.replicate l.length false).length l.length := ⟨_, rfl⟩
 rw [← hVV, ← hVM]
 refine an (ah (zz0 (aa rfl) (zz0 (gj rfl aL) ?_)))
 refine zz0 (aa rfl) (ad (aF (bZ 37 cF ?_)))
 refine bL (ι := Nat × Value) (fun ⟨k, Vb⟩ => k ≤ l.length) (fun _ => _) (fun ⟨k, Vb⟩ => [cellE bq [(.slice pV l.length cV), .map (some bm), .slice none 0 0, .slice none 0 0, Vb, VV, VM] 228, rowE Vb 37 cF (List.replicate k (iE 8)), mapE bm ig (atK l k), rowE VV 3 bN (List.replicate l.length 0), rowE VM 4 cw (List.replicate l.length false)]) (fun ⟨k, Vb⟩ => [(32, .int .i64 (k : Nat))]) (fun ⟨k, Vb⟩ => l.length - k) (0, _) (Nat.zero_le _) (Front.c Front.nil) (by repeat' constructor) rfl (fun i hi m hm => ?_)
 obtain ⟨k, Vb⟩ := i
 replace hi : k ≤ l.length := hi
 replace hm : m = l.length - k := hm
 change Tr _ _ [cellE bq [(.slice pV l.length cV), .map (some bm), .slice none 0 0, .slice none 0 0, Vb, VV, VM] 228, rowE Vb 37 cF (List.replicate k (iE 8)), mapE bm ig (atK l k), rowE VV 3 bN (List.replicate l.length 0), rowE VM 4 cw (List.replicate l.length false)] ([(32, .int .i64 (k : Nat))] ++ _) _
 have hrk : (List.replicate k (iE 8)).length = k := List.length_replicate
 refine ah (zz0 (bT rfl rfl) (ad (an ?_)))
 refine au rfl ?_ ?_ <;> intro h2 <;> try simp only [bs] at h2
 ·refine bC (an (aF (ah (zz0 (aa rfl) (zz0 (iH rfl rfl aL ax) ?_)))))
  refine zz0 (pB rfl aQ ax) ?_
  refine dC bR rfl (fun b3 => ?_)
  refine zz0 (ab rfl) (aB aM rfl rfl ax ?_)
  refine ad ?_
  refine cZ (ι := List (UInt32 × Int)) (fun m1 => m1 = atK l (k + 1)) (fun _ => (Bg.of0 w)) (fun m1 => [cellE b3 (aM.enc (l.getD k default)) 36, cellE bq [(.slice pV l.length cV), .map (some bm), .slice none 0 0, .slice none 0 0, Vb, VV, VM] 228, rowE Vb 37 cF (List.replicate k (iE 8)), mapE bm ig m1, rowE VV 3 bN (List.replicate l.length 0), rowE VM 4 cw (List.replicate l.length false)]) (fun m1 => []) ?_ (fun m1 hi => ?_)
  ·skip
   refine an (gZ aP ?_)
   refine aw (aa rfl) (aw (bh rfl) ?_)
   refine aw (zz2 (off := 1) (ft := 223) rfl bB rfl jT) ?_
   refine aw (jW rfl kC) ?_
   refine aw (zz2 (off := 0) (ft := 23) rfl aj rfl ae) ?_
   refine aw (aH rfl am) ?_
   refine aw (uI rfl rfl (by repeat constructor) g8 aS iw) ?_
   refine aw (aa rfl) (aw (aN rfl rfl) (aw (aN rfl rfl) (aw (ab rfl) (aw (ab rfl) (bH ?_)))))
   refine ac (ah (zz0 (aa rfl) (zz0 (cP rfl) (ad ?_))))
   refine au rfl ?_ ?_ <;> intro h4 <;> try simp only [bs] at h4
   ·refine fy 0 7 aP ?_
    refine bE ?_
    refine aw (aa rfl) (aw (bh rfl) ?_)
    refine aw (zz2 (off := 1) (ft := 223) rfl bB rfl jT) ?_
    refine aw (jW rfl kC) ?_
    refine aw (zz2 (off := 0) (ft := 23) rfl aj rfl ae) ?_
    refine aw (aH rfl am) ?_
    refine aw (aa rfl) (bH ?_)
    refine fW (k : Int) rfl rfl rfl (by repeat constructor) g8 aS rfl ?_
    refine ad ?_
    refine co _ Front.nil (zz8 21 rfl) (o := (show _ = atK l (k + 1) from (if_neg (by simp_all)).symm))
   refine bC ?_
   refine co _ Front.nil (zz8 14 rfl) (o := (show _ = atK l (k + 1) from (if_pos (by simp_all)).symm))
  skip
  replace hi : m1 = atK l (k + 1) := hi
  change Tr _ _ [cellE b3 (aM.enc (l.getD k default)) 36, cellE bq [(.slice pV l.length cV), .map (some bm), .slice none 0 0, .slice none 0 0, Vb, VV, VM] 228, rowE Vb 37 cF (List.replicate k (iE 8)), mapE bm ig m1, rowE VV 3 bN (List.replicate l.length 0), rowE VM 4 cw (List.replicate l.length false)] ([] ++ _) _
  subst hi
  refine dU ([]) 11 rfl aP ?_
  refine zz4 0 rfl (aa rfl) ?_
  refine zz4 1 rfl (aa rfl) ?_
  refine zz4 2 rfl (bh rfl) ?_
  refine zz4 3 rfl (zz2 (off := 4) (ft := 177) rfl bB rfl eI) ?_
  refine dw [4, 5] (fun iq hq => ?_)
  rcases List.mem_cons.1 hq with rfl | hq
  ·skip
   refine bF rfl ?_
   refine zz0 (jW rfl gG) ?_
   refine bV ?_
   refine dw [5] (fun iq hq => ?_)
   obtain rfl := List.mem_singleton.1 hq
   refine bF rfl ?_
   refine zz0 (az rfl Tryz.call160 (fun w hw => vL w)) ?_
   refine bV ?_
   refine dw [6] (fun iq hq => ?_)
   obtain rfl := List.mem_singleton.1 hq
   refine bF rfl ?_
   refine iG (E := cF) (iE 8) rfl rfl dO aR cR (fun V5 => ?_)
   refine bV ?_
   refine dw [7] (fun iq hq => ?_)
   obtain rfl := List.mem_singleton.1 hq
   refine bF rfl ?_
   refine zz1 rfl rfl dO qm (fun V6 => ?_)
   refine du (.head _) (fun pb cb hpb => ?_)
   subst hpb
   refine bV ?_
   refine zz4 8 rfl (bh rfl) ?_
   refine zz4 9 rfl (zz2 (off := 4) (ft := 177) rfl bB rfl eI) ?_
   refine dw [10] (fun iq hq => ?_)
   obtain rfl := List.mem_singleton.1 hq
   refine bF rfl ?_
   refine zz3 rfl rfl eI rfl ?_
   change Tr _ _ [rowE (.slice pb ((List.replicate k (iE 8)) ++ [iE 8]).length cb) 37 cF ((List.replicate k (iE 8)) ++ [iE 8]), cellE b3 (aM.enc (l.getD k default)) 36, cellE bq [(.slice pV l.length cV), .map (some bm), .slice none 0 0, .slice none 0 0, (.slice pb ((List.replicate k (iE 8)) ++ [iE 8]).length cb), VV, VM] 228, mapE bm ig (atK l (k + 1)), rowE VV 3 bN (List.replicate l.length 0), rowE VM 4 cw (List.replicate l.length false)] _ _
   refine bV ?_
   refine iz ?_
   refine aY (ac (ar (zz0 (cB rfl rfl) ?_)))
   refine zz0 (aa rfl) (ad ?_)
   rw [← List.replicate_succ']
   refine cK (k + 1, _) (Front.c Front.nil) (zz8 19 rfl) (o := (by show k + 1 ≤ _; omega))
  obtain rfl := List.mem_singleton.1 hq
  refine bF rfl ?_
  refine zz0 (az rfl Tryz.call160 (fun w hw => vL w)) ?_
  refine bV ?_
  refine dw [4, 6] (fun iq hq => ?_)
  rcases List.mem_cons.1 hq with rfl | hq
  ·skip
   refine bF rfl ?_
   refine zz0 (jW rfl gG) ?_
   refine bV ?_
   refine dw [6] (fun iq hq => ?_)
   obtain rfl := List.mem_singleton.1 hq
   refine bF rfl ?_
   refine iG (E := cF) (iE 8) rfl rfl dO aR cR (fun V7 => ?_)
   refine bV ?_
   refine dw [7] (fun iq hq => ?_)
   obtain rfl := List.mem_singleton.1 hq
   refine bF rfl ?_
   refine zz1 rfl rfl dO qm (fun V8 => ?_)
   refine du (.head _) (fun pb cb hpb => ?_)
   subst hpb
   refine bV ?_
   refine zz4 8 rfl (bh rfl) ?_
   refine zz4 9 rfl (zz2 (off := 4) (ft := 177) rfl bB rfl eI) ?_
   refine dw [10] (fun iq hq => ?_)
   obtain rfl := List.mem_singleton.1 hq
   refine bF rfl ?_
   refine zz3 rfl rfl eI rfl ?_
   change Tr _ _ [rowE (.slice pb ((List.replicate k (iE 8)) ++ [iE 8]).length cb) 37 cF ((List.replicate k (iE 8)) ++ [iE 8]), cellE b3 (aM.enc (l.getD k default)) 36, cellE bq [(.slice pV l.length cV), .map (some bm), .slice none 0 0, .slice none 0 0, (.slice pb ((List.replicate k (iE 8)) ++ [iE 8]).length cb), VV, VM] 228, mapE bm ig (atK l (k + 1)), rowE VV 3 bN (List.replicate l.length 0), rowE VM 4 cw (List.replicate l.length false)] _ _
   refine bV ?_
   refine iz ?_
   refine aY (ac (ar (zz0 (cB rfl rfl) ?_)))
   refine zz0 (aa rfl) (ad ?_)
   rw [← List.replicate_succ']
   refine cK (k + 1, _) (Front.c Front.nil) (zz8 19 rfl) (o := (by show k + 1 ≤ _; omega))
  obtain rfl := List.mem_singleton.1 hq
  refine bF rfl ?_
  refine iG (E := cF) (iE 8) rfl rfl dO aR cR (fun V9 => ?_)
  refine bV ?_
  refine dw [4] (fun iq hq => ?_)
  obtain rfl := List.mem_singleton.1 hq
  refine bF rfl ?_
  refine zz0 (jW rfl gG) ?_
  refine bV ?_
  refine dw [7] (fun iq hq => ?_)
  obtain rfl := List.mem_singleton.1 hq
  refine bF rfl ?_
  refine zz1 rfl rfl dO qm (fun V10 => ?_)
  refine du (.head _) (fun pb cb hpb => ?_)
  subst hpb
  refine bV ?_
  refine zz4 8 rfl (bh rfl) ?_
  refine zz4 9 rfl (zz2 (off := 4) (ft := 177) rfl bB rfl eI) ?_
  refine dw [10] (fun iq hq => ?_)
  obtain rfl := List.mem_singleton.1 hq
  refine bF rfl ?_
  refine zz3 rfl rfl eI rfl ?_
  change Tr _ _ [rowE (.slice pb ((List.replicate k (iE 8)) ++ [iE 8]).length cb) 37 cF ((List.replicate k (iE 8)) ++ [iE 8]), cellE b3 (aM.enc (l.getD k default)) 36, cellE bq [(.slice pV l.length cV), .map (some bm), .slice none 0 0, .slice none 0 0, (.slice pb ((List.replicate k (iE 8)) ++ [iE 8]).length cb), VV, VM] 228, mapE bm ig (atK l (k + 1)), rowE VV 3 bN (List.replicate l.length 0), rowE VM 4 cw (List.replicate l.length false)] _ _
  refine bV ?_
  refine iz ?_
  refine aY (ac (ar (zz0 (cB rfl rfl) ?_)))
  refine zz0 (aa rfl) (ad ?_)
  rw [← List.replicate_succ']
  refine cK (k + 1, _) (Front.c Front.nil) (zz8 19 rfl) (o := (by show k + 1 ≤ _; omega))
 refine bJ (aG (aG (bj (ac (an ?_)))))
 obtain rfl : k = l.length := by omega
 refine ar (zz0 (aa rfl) (zz0 (bh rfl) ?_))
 refine zz0 (zz2 (off := 1) (ft := 223) rfl bB rfl jT) ?_
 refine zz0 (jW rfl kC) ?_
 refine zz0 (aa rfl) (zz0 (uI rfl rfl (by repeat constructor) g8 aS iw) ?_)
 rw [Ao]
 obtain ⟨fe, hfe⟩ : ∃ fe, fe = dR l entry := ⟨_, rfl⟩
 rw [← hfe]
 refine zz0 (aa rfl) (zz0 (aN rfl rfl) (zz0 (aN rfl rfl) (zz0 (ab rfl) (zz0 (ab rfl) (ad (an (ah (zz0 (aa rfl) (zz0 (cP rfl) (ad ?_))))))))))
 refine au rfl ?_ ?_ <;> intro h11 <;> try simp only [bs] at h11
 ·refine an (bZ 37 cF ?_)
  refine ar (zz0 (ab rfl) (zz0 (ab rfl) (ad (aC (ay ?_)))))
  refine dE kj rfl rfl (fun w' hw => ?_)
  have ht1 : (if fe < 0 then none else some fe).isSome = false := by first | assumption | simp_all
  have ht0 : fe < 0 := by
   by_cases q : fe < 0
   ·exact q
   ·rw [if_neg q] at ht1; simp at ht1
  have e : eC l entry rounds = ([], 9) := by unfold eC; rw [if_neg (by omega), if_pos (by rw [← hfe]; exact ht0)]
  refine ⟨.slice none 0 0, by rw [e], hw.below0 (Bg.le.refl _), by rw [e]; exact hw.ents0 rfl (by repeat' constructor)⟩
 refine bC (an ?_)
 have ht1 : (if fe < 0 then none else some fe).isSome = true := by first | assumption | simp_all
 have ht0 : ¬ fe < 0 := fun q => by rw [if_pos q] at ht1; simp at ht1
 have htl := (q9 l entry).2
 rw [← hfe] at htl
 rw [if_neg ht0, Option.getD_some]
 obtain ⟨fn, hfn⟩ : ∃ fn : Nat, fe = (fn : Int) := ⟨fe.toNat, by omega⟩
 subst hfn
 refine lN (b := bm) (by repeat constructor) (fun F1 hF1 hA1 => ?_)
 refine ar (zz0 (aa rfl) (zz0 (aa rfl) ?_))
 refine ir (fun _ : Value × Value × List EdV => .tuple #[]) [cellE bq [(.slice pV l.length cV), .map (some bm), .slice none 0 0, .slice none 0 0, Vb, VV, VM] 228] (fun i : Value × Value × List EdV => cellE bq [(.slice pV l.length cV), .map (some bm), i.1, i.2.1, Vb, VV, VM] 228 :: rowE i.2.1 3 bN (eT l fn) :: rowE i.1 272 gv i.2.2 :: i.2.2.map (rvE 274 eL)) (ok := fun i => i.2.2.map (·.data) = kQ l) (dd := fun _ => 0) rfl Tryz.call161 (by repeat' constructor) (fun w hw => Nat.le_of_eq hF1.dr) (fun w hw => yP l fn bq bm (.slice pV l.length cV) Vb VV VM w (hw.own (by repeat' constructor)) ((hI0.mono hF1.blk).mono (show Hp.le F1.blk (Bg.lessB w [bq] 0).blk from hw.lessB (Lo := [cellE bq [(.slice pV l.length cV), .map (some bm), .slice none 0 0, .slice none 0 0, Vb, VV, VM] 228]) (by repeat' constructor))) (hA1.mono (show Hp.le F1.blk (Bg.lessB w [bq] 0).blk from hw.lessB (Lo := [cellE bq [(.slice pV l.length cV), .map (some bm), .slice none 0 0, .slice none 0 0, Vb, VV, VM] 228]) (by repeat' constructor))) hIO (by omega) (by omega)) rfl (fun i15 hrs => ?_)
 obtain ⟨VE, VG, rs⟩ := i15
 replace hrs : rs.map (·.data) = kQ l := hrs
 refine xq (A := [cellE bq [(.slice pV l.length cV), .map (some bm), VE, VG, Vb, VV, VM] 228, rowE VG 3 bN (eT l fn), rowE VE 272 gv rs]) rs (fun F2 hF2 hEI2 => ?_)
 change Tr _ _ [cellE bq [(.slice pV l.length cV), .map (some bm), VE, VG, Vb, VV, VM] 228, rowE VG 3 bN (eT l fn), rowE VE 272 gv rs, rowE Vb 37 cF (List.replicate l.length (iE 8)), rowE VV 3 bN (List.replicate l.length 0), rowE VM 4 cw (List.replicate l.length false)] _ _
 refine uE (b := bq) (.here _) (fun F3 hF3 hcx3 => ?_)
 refine j6 (V := VG) (T := 3) (E := bN) (.here _) (fun F4 hF4 hG4 => ?_)
 refine j6 (V := VE) (T := 272) (E := gv) (.here _) (fun F5 hF5 hE5 => ?_)
 have hF15 := hF2.trans (hF3.trans (hF4.trans hF5))
 have hF05 := hF1.trans hF15
 have hEI5 := hEI2.mono (hF3.trans (hF4.trans hF5)).blk
 have hcx5 := hcx3.mono (hF4.trans hF5).blk
 have hG5 := hG4.mono hF5.blk
 have hI5 := hI0.mono hF05.blk
 have hdr5 : F5.dr = 0 := hF05.dr
 refine ad (an ?_)
 have hr1 : (List.replicate l.length (iE 8)).length = l.length := List.length_replicate
 have hr2 : (List.replicate l.length false).length = l.length := List.length_replicate
 refine fy 0 7 aP ?_
 refine bE ?_
 refine aw (aa rfl) (aw (bh rfl) ?_)
 refine aw (zz2 (off := 4) (ft := 177) rfl bB rfl eI) ?_
 refine aw (eQ rfl hcx5 gG (by rfl)) ?_
 refine aw (aa rfl) (aw (az rfl Tryz.call162 (fun w hw => om w)) ?_)
 refine aw (zz7 rfl rfl dO aR) ?_
 refine bH ?_
 refine fV (l := (List.replicate l.length (iE 8))) (i := fn) ((wn 8)) rfl rfl aR ?_
 have hls12 : (List.set (List.replicate l.length (iE 8)) (fn) ((wn 8))).length = ((List.replicate l.length (iE 8))).length := List.length_set
 refine aI (zz0 (aa rfl) (zz0 (bh rfl) ?_))
 refine zz0 (zz2 (off := 6) (ft := 225) rfl bB rfl lh) ?_
 refine zz0 (eQ rfl hcx5 l9 (by rfl)) ?_
 refine zz0 (aa rfl) (zz0 (zz7 rfl rfl eF bS) ?_)
 refine fV (l := (List.replicate l.length false)) (i := fn) (true) rfl rfl bS ?_
 have hls13 : (List.set (List.replicate l.length false) (fn) (true)).length = ((List.replicate l.length false)).length := List.length_set
 refine aI (zz0 (ab rfl) (ad (aF ?_)))
 refine bL (ι := Nat × VSt) (fun ⟨n, s⟩ => (n ≤ rounds ∧ io l (eT l fn) (kQ l) (rounds - n) s = io l (eT l fn) (kQ l) rounds (pP l fn)) ∧ (s.st.length = l.length ∧ s.vs.length = l.length ∧ s.mb.length = l.length) ∧ ∀ v ∈ s.vs, 0 ≤ v ∧ v ≤ (n : Int)) (fun _ => F5) (fun ⟨n, s⟩ => [rowE Vb 37 cF s.st, rowE VV 3 bN s.vs, rowE VM 4 cw s.mb]) (fun ⟨n, s⟩ => [(15, .int .i64 (n : Nat))]) (fun ⟨n, s⟩ => rounds - n) (0, (pP l fn)) ⟨⟨Nat.zero_le _, by rw [Nat.sub_zero]⟩, ⟨by simp [pP], by simp [pP], by simp [pP]⟩, fun v hv => by rw [(List.mem_replicate.1 hv).2]; omega⟩ (Front.c Front.nil) (by repeat' constructor) rfl (fun i hi m hm => ?_)
 obtain ⟨n, s⟩ := i
 replace hi : (n ≤ rounds ∧ io l (eT l fn) (kQ l) (rounds - n) s = io l (eT l fn) (kQ l) rounds (pP l fn)) ∧ (s.st.length = l.length ∧ s.vs.length = l.length ∧ s.mb.length = l.length) ∧ ∀ v ∈ s.vs, 0 ≤ v ∧ v ≤ (n : Int) := hi
 replace hm : m = rounds - n := hm
 change Tr _ _ [rowE Vb 37 cF s.st, rowE VV 3 bN s.vs, rowE VM 4 cw s.mb] ([(15, .int .i64 (n : Nat))] ++ _) _
 obtain ⟨⟨hnr, han⟩, ⟨hst, hvt, hmt⟩, hvn⟩ := hi
 refine an (aF (ah (zz0 (aa rfl) (zz0 (bh rfl) ?_))))
 refine zz0 (zz2 (off := 6) (ft := 225) rfl bB rfl lh) ?_
 refine zz0 (eQ rfl hcx5 l9 (by rfl)) ?_
 refine zz0 (az rfl Tryz.call163 (fun w hw => zV s.mb VM true w (hw.row (by repeat constructor)))) ?_
 refine zz0 (ab rfl) (ad (an (ah (zz0 (aa rfl) (zz0 (bT rfl rfl) (ad ?_))))))
 refine au rfl ?_ ?_ <;> intro h14 <;> try simp only [bs] at h14
 ·refine ah (zz0 (aa rfl) (zz0 (bh rfl) ?_))
  refine zz0 (zz2 (off := 4) (ft := 177) rfl bB rfl eI) ?_
  refine zz0 (eQ rfl hcx5 gG (by rfl)) ?_
  refine zz0 (ab rfl) (zz0 (ab rfl) (ad (aC (ay (bv (ay (ay (bv ?_))))))))
  refine dE kj rfl rfl (fun w' hw => ?_)
  have e : eC l entry rounds = (s.st, 0) := by
   unfold eC
   rw [if_neg (by omega), if_neg (by rw [← hfe]; exact ht0), ← hfe, Int.toNat_natCast, ← han]
   exact vc (by show dY _ _ _ < 0; assumption)
  refine ⟨Vb, by rw [e], hw.below0 hF05, by rw [e]; exact hw.ents0 hF05.lo (by repeat' constructor)⟩
 refine bC (an (ah (zz0 (aa rfl) (zz0 (aa rfl) (zz0 (eM rfl rfl) (ad ?_))))))
 refine au rfl ?_ ?_ <;> intro h15 <;> try simp only [bs] at h15
 ·refine an (bZ 37 cF ?_)
  refine ar (zz0 (ab rfl) (zz0 (ab rfl) (ad (aC (ay (bv (ay (ay (bv ?_)))))))))
  refine dE kj rfl rfl (fun w' hw => ?_)
  have e : eC l entry rounds = ([], 15) := by
   unfold eC
   rw [if_neg (by omega), if_neg (by rw [← hfe]; exact ht0), ← hfe, Int.toNat_natCast, ← han, show rounds - n = 0 by omega]
   exact xg (by show ¬ dY _ _ _ < 0; omega)
  refine ⟨.slice none 0 0, by rw [e], hw.below0 hF05, by rw [e]; exact hw.ents0 hF05.lo (by repeat' constructor)⟩
 refine bC ?_
 obtain ⟨km, hkm⟩ : ∃ km : Nat, dY (fun x => decide (true = x)) 0 s.mb = (km : Int) := ⟨_, (Int.toNat_of_nonneg (by omega)).symm⟩
 rw [hkm]
 have hkl := jH (fun x => decide (true = x)) s.mb 0
 refine ar (zz0 (aa rfl) (zz0 (aa rfl) ?_))
 refine ir (fun _ : Unit => .tuple #[]) [rowE Vb 37 cF s.st, rowE VV 3 bN s.vs, rowE VM 4 cw s.mb] (fun _ => [rowE Vb 37 cF (jn l (eT l fn) (rs.getD km default).data km s).st, rowE VV 3 bN (jn l (eT l fn) (rs.getD km default).data km s).vs, rowE VM 4 cw (jn l (eT l fn) (rs.getD km default).data km s).mb]) (ok := fun _ => True) (dd := fun _ => 0) rfl Tryz.call164 (by repeat' constructor) (fun w hw => Nat.le_of_eq hdr5) (fun w hw => BI l (eT l fn) rs s bq bm km (.slice pV l.length cV) VE VG Vb VV VM w (hw.own (by repeat' constructor)) (hcx5.mono (show Hp.le F5.blk (Bg.lessB w (cT [rowE Vb 37 cF s.st, rowE VV 3 bN s.vs, rowE VM 4 cw s.mb]) 0).blk from hw.lessB (Lo := [rowE Vb 37 cF s.st, rowE VV 3 bN s.vs, rowE VM 4 cw s.mb]) (by repeat' constructor))) (hI5.mono (show Hp.le F5.blk (Bg.lessB w (cT [rowE Vb 37 cF s.st, rowE VV 3 bN s.vs, rowE VM 4 cw s.mb]) 0).blk from hw.lessB (Lo := [rowE Vb 37 cF s.st, rowE VV 3 bN s.vs, rowE VM 4 cw s.mb]) (by repeat' constructor))) (hG5.mono (show Hp.le F5.blk (Bg.lessB w (cT [rowE Vb 37 cF s.st, rowE VV 3 bN s.vs, rowE VM 4 cw s.mb]) 0).blk from hw.lessB (Lo := [rowE Vb 37 cF s.st, rowE VV 3 bN s.vs, rowE VM 4 cw s.mb]) (by repeat' constructor))) (hE5.mono (show Hp.le F5.blk (Bg.lessB w (cT [rowE Vb 37 cF s.st, rowE VV 3 bN s.vs, rowE VM 4 cw s.mb]) 0).blk from hw.lessB (Lo := [rowE Vb 37 cF s.st, rowE VV 3 bN s.vs, rowE VM 4 cw s.mb]) (by repeat' constructor))) (hEI5.mono (show Hp.le F5.blk (Bg.lessB w (cT [rowE Vb 37 cF s.st, rowE VV 3 bN s.vs, rowE VM 4 cw s.mb]) 0).blk from hw.lessB (Lo := [rowE Vb 37 cF s.st, rowE VV 3 bN s.vs, rowE VM 4 cw s.mb]) (by repeat' constructor))) hIO (um _ _) hst hvt hmt (Ct hrs) (Cm _ _) (FU hrs km) (fun v hv => by have := hvn v hv; omega) (by omega)) rfl (fun _ _ => ?_)
 refine aD (aY (ac (ar (zz0 (aa rfl) (zz0 (cB rfl rfl) ?_)))))
 refine zz0 (ab rfl) (ad ?_)
 have hfm : mq s.mb = (km : Int) := hkm
 have hstep : io l (eT l fn) (kQ l) (rounds - n) s = io l (eT l fn) (kQ l) (rounds - (n + 1)) (jn l (eT l fn) (rs.getD km default).data km s) := by
  rw [show rounds - n = rounds - (n + 1) + 1 by omega, vb (by rw [hfm]; omega), hfm, Int.toNat_natCast, lX hrs km]
 have hvl := zx l (eT l fn) (rs.getD km default).data km s
 have hvv := C2 (l := l) (gd := (eT l fn)) (es := (rs.getD km default).data) (k := km) (by omega) hvn
 refine cK (n + 1, jn l (eT l fn) (rs.getD km default).data km s) (Front.c Front.nil) (zz8 18 rfl) (o := ⟨⟨by omega, hstep.symm.trans han⟩, ⟨hvl.1.trans hst, hvl.2.1.trans hvt, hvl.2.2.trans hmt⟩, hvv⟩)
end Go.Proofs.YtiajjbhcpeadfaaGreat
namespace Go.HL
open Go
section
variable {P : Program} {N : Nat} {F : Bg} {L : List Ent} {M : Fr} {dst : Option Tmp} {ty : TypeId} {pos : String} {after : Array Edge} {g : Option (Nat × Bool)}
theorem CS {fo : Operand} {f : FuncId} {us : List Value} {xs : List Operand} {vs : List Value} {ts : Array TypeId} {v : Value} (hf : opv M fo = some (.func (.func f) us.toArray #[])) (hx : kM M xs = some vs)
  (he : ∀ (args : Array Value) (w : World), (callFunc f args).run P w = .ok (.enter f args) w)
  (hc : ∀ w, HpOK F L w → Calls P f (us ++ vs).toArray w fun e w' => e = .returned v ∧ Ext w w') :
  QS P N F L M ⟨dst, .call { callee := .value fo, args := xs.toArray, argTypes := ts }, ty, pos, after, g⟩ v := by
 intro a w ha hw
 unfold Oper.quietAt
 have h1 := ha.evals hx
 have h2 := ha.eval hf
 have hr : (execOp a.eval ⟨dst, .call { callee := .value fo, args := xs.toArray, argTypes := ts }, ty, pos, after, g⟩).run P w = .ok (.enter f (us ++ vs).toArray) w := by
  simp [execOp, resolve, Deferred.ofValue, invoke, he, h1, h2]
 rw [hr]
 exact ⟨rfl, (hc w hw).mono fun e w' ⟨h1, h2⟩ => ⟨h1, hw.grow h2⟩⟩
end
def qo (l : List SecV) (a : UInt32) : UInt32 × Bool :=
 if (jV l a 4).2 ≠ 0 ∨ (jV l a 4).1.length ≠ 4 then (0, false)
 else if dS l a < 0 ∨ (l.getD (dS l a).toNat default).wr = true then (0, false) else (leP (jV l a 4).1, true)
def C6 (l : List SecV) (a : UInt32) : Bool := decide (0 ≤ dS l a) && (l.getD (dS l a).toNat default).ex
def nI (i : Ins) : Bool := decide (iM i = 0) && ul i.op
def jp (l : List SecV) (t j : UInt32) : UInt32 × Bool := ((qo l (t + 4 * j)).1, (qo l (t + 4 * j)).2 && C6 l (qo l (t + 4 * j)).1)
theorem G1 {l : List UInt8} (h : l.length = 4) :
  (((l.getD 0 default).toUInt32 ||| mT (l.getD 1 default).toUInt32 8) ||| mT (l.getD 2 default).toUInt32 16) ||| mT (l.getD 3 default).toUInt32 24 = leP l := by
 have h0 : leP (l.take 1) = (l.getD 0 default).toUInt32 := by
  rw [← tf (l := l) (k := 0) (by omega) (by omega) (c := 0) rfl]
  rw [← UInt32.toNat_inj, UInt32.toNat_or, lU]
  simp [leP]
 have h1 := tf (l := l) (k := 1) (by omega) (by omega) (c := 8) rfl
 have h2 := tf (l := l) (k := 2) (by omega) (by omega) (c := 16) rfl
 have h3 := tf (l := l) (k := 3) (by omega) (by omega) (c := 24) rfl
 rw [List.take_of_length_le (l := l) (i := 3 + 1) (by omega)] at h3
 rw [← h3, ← h2, ← h1, ← h0]; rfl
def sS (s : VSet) (j : UInt32) : UInt32 := if q7 s j = true then j else s.lo
def mh (l : List SecV) (t : UInt32) (s : VSet) : Nat → Option (List UInt32)
 | 0 => some []
 | n + 1 => match mh l t s n with
  | none => none
  | some out => if (jp l t (sS s (u32 (n : Int)))).2 = true then some (out ++ [(jp l t (sS s (u32 (n : Int)))).1]) else none
theorem qq {l : List SecV} {t : UInt32} {s : VSet} : ∀ {n : Nat} {out : List UInt32}, mh l t s n = some out → out.length = n
 | 0, out, h => by simp only [mh, Option.some.injEq] at h; subst h; rfl
 | n + 1, out, h => by
  simp only [mh] at h
  cases hk : mh l t s n with
  | none => rw [hk] at h; cases h
  | some o =>
   rw [hk] at h
   simp only at h
   split at h
   ·cases h; rw [List.length_append, qq hk]; rfl
   ·cases h
theorem Da {l : List SecV} {t : UInt32} {s : VSet} {n : Nat} {out : List UInt32} (h : mh l t s n = some out) (h2 : (jp l t (sS s (u32 (n : Int)))).2 = true) : mh l t s (n + 1) = some (out ++ [(jp l t (sS s (u32 (n : Int)))).1]) := by
 simp only [mh, h]; rw [if_pos h2]
theorem Fh {l : List SecV} {t : UInt32} {s : VSet} {n : Nat} {out : List UInt32} (h : mh l t s n = some out) (h2 : (jp l t (sS s (u32 (n : Int)))).2 = false) : mh l t s (n + 1) = none := by
 simp only [mh, h]; rw [if_neg (by rw [h2]; simp)]
theorem BK {l : List SecV} {t : UInt32} {s : VSet} {n : Nat} (h : mh l t s n = none) : ∀ m, n ≤ m → mh l t s m = none := by
  intro m hm
  induction m with
  | zero => obtain rfl : n = 0 := by omega
            exact h
  | succ m ih =>
    rcases Nat.lt_or_ge n (m + 1) with q | q
    · simp only [mh, ih (by omega)]
    · obtain rfl : n = m + 1 := by omega
      exact h
def cO (l : List SecV) (i : Ins) (x : VSet) : List UInt32 × Int :=
 if nI i = false then ([], 2) else if fS l ≠ 0 then ([], fS l)
 else if (iI x = false ∨ x.em = true) ∨ x.top = true then ([], 19)
 else if i.op ≠ 22 then (if (eY x).2 ≠ 0 ∨ ((eY x).1.any fun a => !C6 l a) = true then ([], 19) else ((eY x).1, 0))
 else if 64 ≤ x.hi then ([], 19)
 else match mh l i.imm x (x.hi.toNat + 1) with
  | none => ([], 19)
  | some out => (out, 0)
def kN (l : List SecV) (a : UInt32) : Nat → Bool
 | 0 => true
 | n + 1 => kN l a n && (jp l a (u32 (n : Int))).2
theorem yw {l : List SecV} {a : UInt32} {n : Nat} (h : kN l a n = false) : ∀ m, n ≤ m → kN l a m = false := by
  intro m hm
  induction m with
  | zero => obtain rfl : n = 0 := by omega
            exact h
  | succ m ih =>
    rcases Nat.lt_or_ge n (m + 1) with q | q
    · simp only [kN, ih (by omega), Bool.false_and]
    · obtain rfl : n = m + 1 := by omega
      exact h
def oI (l : List SecV) (a : UInt32) (n : Int) : Bool := if (n < 1 ∨ 64 < n) ∨ fS l ≠ 0 then false else kN l a n.toNat
theorem C5 {j : Nat} (h : j < 4294967295) : u32 (j : Int) + 1 = u32 ((j + 1 : Nat) : Int) := by
 have h1 := rA (j : Int)
 have h2 := rA ((j + 1 : Nat) : Int)
 rw [← UInt32.toNat_inj, UInt32.toNat_add]
 have e : (1 : UInt32).toNat = 1 := rfl
 rw [e]; omega
theorem A8 {x : UInt32} (h : x < 64) : (x + 1).toNat = x.toNat + 1 := by
 rw [UInt32.lt_iff_toNat_lt] at h
 have e : (64 : UInt32).toNat = 64 := rfl
 have e1 : (1 : UInt32).toNat = 1 := rfl
 rw [UInt32.toNat_add, e1]; omega
end Go.HL
namespace Go.Proofs.YtiajjbhcpeadfaaGreat
open Go Go.HL Go.RowKit
theorem Fa (l : List SecV) (pV : Option Addr) (cV : Nat) (a : UInt32) (w : World) (hV : Sl (hp w) dJ l (.slice pV l.length cV)) (hB : SecB l) (hD : DataIn (hp w) l) :
  Cr Tryz.prog 104 #[.agg #[(.slice pV l.length cV)], .int .u32 a.toNat] w (.tuple #[.int .u32 (qo l a).1.toNat, .bool (qo l a).2]) := by
 have hV' : Sl (Bg.of w).blk dJ l (.slice pV l.length cV) := hV
 have hff := m3 (l := l) (a := a)
 have hD' : DataIn (Bg.of w).blk l := hD
 refine enter Tryz.func104 rfl Tryz.ntmps104 rfl ?_
 refine ah ?_
 refine dG rfl rfl (fun b1 => ?_)
 refine zz0 (ab rfl) (zz0 (ab rfl) (aI (zz0 (zz2 (off := 0) (ft := 22) rfl ip rfl kB) ?_)))
 refine zz0 (aH rfl lK) ?_
 refine zz0 (aa rfl) ?_
 refine ic (fun V => .tuple #[V, .int .i64 (jV l a 4).2]) rfl Tryz.call157 (fun w hw => Dx l (.slice pV l.length cV) a 4 w (hw.slF hV') hB (hD'.mono hw.bg) (by omega)) rfl (fun V2 => ?_)
 refine zz0 (aa rfl) (zz0 (aN rfl rfl) (zz0 (aN rfl rfl) (zz0 (ab rfl) (zz0 (ab rfl) (ad (an (ah (zz0 (aa rfl) (zz0 (fH rfl rfl) (zz0 (aa rfl) ?_))))))))))
 apply dV
 ·exact (rfl : _ = (4, 18, 22))
 ·exact rfl
 ·intro hF3; have hF3' := hF3
  try simp only [bs] at hF3'
  refine zz6 hF3 (aa rfl) (zz6 hF3 (lQ rfl bI) ?_)
  refine zz6 hF3 (fH rfl rfl) (zz0 (aU rfl hF3 rfl) ?_)
  refine aD (ac ?_)
  exact aK (Sub.cons rfl (bD 4 rfl))
 ·intro hT3
  refine zz9 hT3 (zz9 hT3 (zz9 hT3 (zz0 (aV rfl hT3 rfl) ?_)))
  refine aD (ac ?_)
  exact aK (Sub.cons rfl (bD 4 rfl))
 refine ad ?_
 refine au rfl ?_ ?_ <;> intro h4 <;> try simp only [bs] at h4
 ·have hq1 := h4
  refine ah (zz0 (ab rfl) (zz0 (ab rfl) (ad (aC (ay ?_)))))
  refine dE mM rfl rfl (fun w' hw => ?_)
  exact ⟨by unfold qo; rw [if_pos (by omega)]; rfl, hw.b0⟩
 have hq1 := h4
 refine dz (zz0 (zz2 (off := 0) (ft := 22) rfl ip rfl kB) ?_)
 refine zz0 (aH rfl lK) ?_
 refine zz0 (aa rfl) (zz0 (az rfl nR (fun w hw => ra l (.slice pV l.length cV) a w (hw.slF hV') hB)) ?_)
 refine zz0 (ab rfl) (ad (an (ah (zz0 (aa rfl) (zz0 (bT rfl rfl) (zz0 (aa rfl) ?_))))))
 apply dV
 ·exact (rfl : _ = (7, 29, 36))
 ·exact rfl
 ·intro hF5; have hF5' := hF5
  try simp only [bs] at hF5'
  refine zz6 hF5 (zz2 (off := 0) (ft := 22) rfl ip rfl kB) ?_
  refine zz6 hF5 (aH rfl lK) ?_
  refine zz6 hF5 (aa rfl) (zz6 hF5 (nZ rfl rfl de dn) ?_)
  refine zz6 hF5 (zz2 (off := 3) (ft := 4) rfl dy rfl bS) ?_
  refine zz6 hF5 (ql rfl (by assumption) cE (by omega) (by rfl)) ?_
  refine zz0 (aU rfl hF5 rfl) ?_
  refine aD (ac ?_)
  exact aK (Sub.cons rfl (bD 7 rfl))
 ·intro hT5
  refine zz9 hT5 (zz9 hT5 (zz9 hT5 (zz9 hT5 (zz9 hT5 (zz9 hT5 (zz0 (aV rfl hT5 rfl) ?_))))))
  refine aD (ac ?_)
  exact aK (Sub.cons rfl (bD 7 rfl))
 refine ad ?_
 refine au rfl ?_ ?_ <;> intro h6 <;> try simp only [bs] at h6
 ·have hq2 := h6
  refine ah (zz0 (ab rfl) (zz0 (ab rfl) (ad (aC (ay ?_)))))
  refine dE mM rfl rfl (fun w' hw => ?_)
  exact ⟨by unfold qo; rw [if_neg (by omega), if_pos hq2]; rfl, hw.b0⟩
 have hq2 := h6
 refine bC (an (gZ aP ?_))
 refine aw (aa rfl) (aw (zz7 (E := dZ) (l := (jV l a 4).1) (i := 0) rfl rfl bI dT) ?_)
 refine aw (er rfl gy) ?_
 refine aw (iV rfl bU aS) (aw (aa rfl) (aw (zz7 (E := dZ) (l := (jV l a 4).1) (i := 1) rfl rfl bI dT) ?_))
 refine aw (er rfl gy) ?_
 refine aw (iV rfl bU aS) (aw (nc rfl rfl (by omega)) ?_)
 refine aw (rn rfl rfl) ?_
 refine aw (aa rfl) (aw (zz7 (E := dZ) (l := (jV l a 4).1) (i := 2) rfl rfl bI dT) ?_)
 refine aw (er rfl gy) ?_
 refine aw (iV rfl bU aS) (aw (nc rfl rfl (by omega)) ?_)
 refine aw (rn rfl rfl) ?_
 refine aw (aa rfl) (aw (zz7 (E := dZ) (l := (jV l a 4).1) (i := 3) rfl rfl bI dT) ?_)
 refine aw (er rfl gy) ?_
 refine aw (iV rfl bU aS) (aw (nc rfl rfl (by omega)) ?_)
 refine aw (rn rfl rfl) ?_
 refine aw (ab rfl) (aw (ab rfl) (bH ?_))
 refine ac (aC ?_)
 refine dE mM rfl rfl (fun w' hw => ?_)
 refine ⟨?_, hw.b0⟩
 unfold qo
 rw [if_neg (by omega), if_neg (fun q => q.elim (fun q => hq2.1 q) (fun q => by rw [hq2.2] at q; cases q))]
 exact congrArg (fun x : UInt32 => Ending.returned (.tuple #[.int .u32 x.toNat, .bool true])) (G1 (by omega))
theorem vl (l : List SecV) (pV : Option Addr) (cV : Nat) (a : UInt32) (w : World) (hV : Sl (hp w) dJ l (.slice pV l.length cV)) (hB : SecB l) :
  Cr Tryz.prog 44 #[.agg #[(.slice pV l.length cV)], .int .u32 a.toNat] w (.bool (C6 l a)) := by
 have hV' : Sl (Bg.of w).blk dJ l (.slice pV l.length cV) := hV
 have hff := m3 (l := l) (a := a)
 refine enter Tryz.func44 rfl Tryz.ntmps44 rfl ?_
 refine ah ?_
 refine dG rfl rfl (fun b1 => ?_)
 refine zz0 (ab rfl) (aI (zz0 (zz2 (off := 0) (ft := 22) rfl ip rfl kB) ?_))
 refine zz0 (aH rfl lK) ?_
 refine zz0 (aa rfl) (zz0 (az rfl nR (fun w hw => ra l (.slice pV l.length cV) a w (hw.slF hV') hB)) ?_)
 refine zz0 (ab rfl) (aI (zz0 (aa rfl) (zz0 (eM rfl rfl) (zz0 (aa rfl) ?_))))
 apply cH
 ·exact (rfl : _ = (7, 12, 19))
 ·exact rfl
 ·intro hT2; have hT2' := hT2
  try simp only [bs] at hT2'
  refine zz6 hT2 (zz2 (off := 0) (ft := 22) rfl ip rfl kB) ?_
  refine zz6 hT2 (aH rfl lK) ?_
  refine zz6 hT2 (aa rfl) (zz6 hT2 (nZ rfl rfl de dn) ?_)
  refine zz6 hT2 (zz2 (off := 4) (ft := 4) rfl dy rfl bS) ?_
  refine zz6 hT2 (ql rfl (by assumption) cE (by omega) (by rfl)) ?_
  refine zz0 (aV rfl hT2 rfl) ?_
  refine aD (ac ?_)
  exact aK (Sub.cons rfl (bD 7 rfl))
 ·intro hF2
  refine zz9 hF2 (zz9 hF2 (zz9 hF2 (zz9 hF2 (zz9 hF2 (zz9 hF2 (zz0 (aU rfl hF2 rfl) ?_))))))
  refine aD (ac ?_)
  exact aK (Sub.cons rfl (bD 7 rfl))
 refine zz0 (ab rfl) (ad (aC ?_))
 refine aX Tryz.results44 rfl (fun w' hw => ?_)
 exact ⟨rfl, hw.b0⟩
theorem yL (l : List SecV) (pV : Option Addr) (cV : Nat) (t j : UInt32) (w : World) (hV : Sl (hp w) dJ l (.slice pV l.length cV)) (hB : SecB l) (hD : DataIn (hp w) l) :
  Cr Tryz.prog 45 #[.agg #[(.slice pV l.length cV)], .int .u32 t.toNat, .int .u32 j.toNat] w (.tuple #[.int .u32 (jp l t j).1.toNat, .bool (jp l t j).2]) := by
 have hV' : Sl (Bg.of w).blk dJ l (.slice pV l.length cV) := hV
 have hD' : DataIn (Bg.of w).blk l := hD
 refine enter Tryz.func45 rfl Tryz.ntmps45 rfl ?_
 refine ah ?_
 refine dG rfl rfl (fun b1 => ?_)
 refine zz0 (ab rfl) (zz0 (ab rfl) (aI (zz0 (bG rfl lI iO) ?_)))
 refine zz0 (aa rfl) (zz0 (aa rfl) (zz0 (ng (m := 4) rfl rfl) ?_))
 refine zz0 (gJ rfl rfl) ?_
 refine zz0 (az rfl Tryz.call104 (fun w hw => Fa l pV cV (t + 4 * j) w (hw.slF hV') hB (hD'.mono hw.bg))) ?_
 refine zz0 (aa rfl) (zz0 (aN rfl rfl) (zz0 (aN rfl rfl) (zz0 (ab rfl) (zz0 (ab rfl) (aI (zz0 (aa rfl) (zz0 (aa rfl) (zz0 (aa rfl) ?_))))))))
 apply cH
 ·exact (rfl : _ = (4, 21, 25))
 ·exact rfl
 ·intro hT2; have hT2' := hT2
  try simp only [bs] at hT2'
  refine zz6 hT2 (bG rfl lI iO) ?_
  refine zz6 hT2 (aa rfl) (zz6 hT2 (az rfl Tryz.call44 (fun w hw => vl l pV cV (qo l (t + 4 * j)).1 w (hw.slF hV') hB)) ?_)
  refine zz0 (aV rfl hT2 rfl) ?_
  refine aD (ac ?_)
  exact aK (Sub.cons rfl (bD 4 rfl))
 ·intro hF2
  refine zz9 hF2 (zz9 hF2 (zz9 hF2 (zz0 (aU rfl hF2 rfl) ?_)))
  refine aD (ac ?_)
  exact aK (Sub.cons rfl (bD 4 rfl))
 refine zz0 (ab rfl) (zz0 (ab rfl) (ad (aC ?_)))
 refine dE Tryz.results45 rfl rfl (fun w' hw => ?_)
 exact ⟨rfl, hw.b0⟩
theorem sB (i : Ins) (w : World) (hI : InsOK i) :
  Cr Tryz.prog 38 #[.agg (aM.enc i).toArray] w (.bool (nI i)) := by
 refine enter Tryz.func38 rfl Tryz.ntmps38 rfl ?_
 refine ah ?_
 refine dG rfl rfl (fun b1 => ?_)
 refine zz0 (ab rfl) (aI (zz0 (bG rfl aQ ax) ?_))
 refine zz0 (az rfl j4 (fun w hw => jY i w hI)) ?_
 refine zz0 (aa rfl) ?_
 apply cH
 ·exact (rfl : _ = (14, 5, 19))
 ·exact rfl
 ·intro hT2; have hT2' := hT2
  try simp only [bs] at hT2'
  refine zz6 hT2 (zz2 (off := 2) (ft := 3) rfl aj rfl aA) ?_
  refine zz6 hT2 (aH rfl aO) ?_
  refine zz6 hT2 (bA rfl rfl) (zz6 hT2 (aa rfl) ?_)
  apply dV
  ·exact (rfl : _ = (4, 9, 13))
  ·exact rfl
  ·intro hF3; have hF3' := hF3
   try simp only [bs] at hF3'
   refine zz6 hF3 (zz2 (off := 2) (ft := 3) rfl aj rfl aA) ?_
   refine zz6 hF3 (aH rfl aO) ?_
   refine zz6 hF3 (bA rfl rfl) (zz6 hT2 (aU rfl hF3 rfl) ?_)
   refine aD (ac ?_)
   exact aK (Sub.cons rfl (bD 4 rfl))
  ·intro hT3
   refine zz9 hT3 (zz9 hT3 (zz9 hT3 (zz6 hT2 (aV rfl hT3 rfl) ?_)))
   refine aD (ac ?_)
   exact aK (Sub.cons rfl (bD 4 rfl))
  refine zz6 hT2 (aa rfl) ?_
  apply dV
  ·exact (rfl : _ = (4, 14, 18))
  ·exact rfl
  ·intro hF4; have hF4' := hF4
   try simp only [bs] at hF4'
   refine zz6 hF4 (zz2 (off := 2) (ft := 3) rfl aj rfl aA) ?_
   refine zz6 hF4 (aH rfl aO) ?_
   refine zz6 hF4 (bA rfl rfl) (zz6 hT2 (aU rfl hF4 rfl) ?_)
   refine aD (ac ?_)
   exact aK (Sub.cons rfl (bD 4 rfl))
  ·intro hT4
   refine zz9 hT4 (zz9 hT4 (zz9 hT4 (zz6 hT2 (aV rfl hT4 rfl) ?_)))
   refine aD (ac ?_)
   exact aK (Sub.cons rfl (bD 4 rfl))
  refine zz0 (aV rfl hT2 rfl) ?_
  refine aD (ac ?_)
  exact aK (Sub.cons rfl (bD 8 rfl))
 ·intro hF2
  refine zz9 hF2 (zz9 hF2 (zz9 hF2 (zz9 hF2 (gw ?_))))
  refine gw ?_
  refine gw ?_
  refine zz9 hF2 (zz9 hF2 (gw ?_))
  refine gw ?_
  refine gw ?_
  refine zz9 hF2 (zz0 (aU rfl hF2 rfl) ?_)
  refine aD (ac ?_)
  exact aK (Sub.cons rfl (bD 14 rfl))
 refine zz0 (ab rfl) (ad (aC ?_))
 refine aX Tryz.results38 rfl (fun w' hw => ?_)
 exact ⟨by unfold nI ul; congr 2; rw [Bool.eq_iff_iff]; simp only [Bool.and_eq_true, Bool.or_eq_true, decide_eq_true_eq]; omega, hw.b0⟩
theorem u0 (l : List UInt32) (V : Value) (g : FuncId) (cb : List Value) (w : World) (hV : Sl (hp w) al l V) (eg : ∀ (args : Array Value) (w : World), (callFunc g args).run Tryz.prog w = .ok (.enter g args) w) (p : UInt32 → Bool) (hp : ∀ x ∈ l, ∀ w', Ext w w' → Calls Tryz.prog g ([Value.int .u32 x.toNat] ++ cb).toArray w' fun e w'' => e = .returned (.bool (p x)) ∧ Ext w' w'') :
  Cr Tryz.prog 101 #[V, .func (.func g) #[] cb.toArray] w (.int .i64 (dY p 0 l)) := by
 have hV' : Sl (Bg.of w).blk al l V := hV
 have hlen := hV.len_le
 refine enter Tryz.func101 rfl Tryz.ntmps101 rfl ?_
 refine ah (zz0 (ab rfl) (ad (an (ah (zz0 (aa rfl) (zz0 (gj rfl af) ?_))))))
 refine zz0 (aa rfl) (ad (aF ?_))
 refine bL (ι := Nat) (fun k => k ≤ l.length ∧ dY p k (l.drop k) = dY p 0 l) (fun _ => _) (fun k => []) (fun k => [(8, .int .i64 (k : Nat))]) (fun k => l.length - k) 0 ⟨Nat.zero_le _, rfl⟩ (Front.c Front.nil) (by repeat' constructor) rfl (fun k hi m hm => ?_)
 replace hi : k ≤ l.length ∧ dY p k (l.drop k) = dY p 0 l := hi
 replace hm : m = l.length - k := hm
 change Tr _ _ [] ([(8, .int .i64 (k : Nat))] ++ _) _
 obtain ⟨hk1, hk2⟩ := hi
 refine ah (zz0 (bT rfl rfl) (ad (an ?_)))
 refine au rfl ?_ ?_ <;> intro h1 <;> try simp only [bs] at h1
 ·refine bC (an (aF (ah (zz0 (aa rfl) (zz0 (ab rfl) (aI (zz0 (aa rfl) (zz0 (aa rfl) ?_))))))))
  refine zz0 (aa rfl) (zz0 (iH rfl rfl af ae) ?_)
  refine zz0 (jl rfl am) ?_
  refine zz0 (hZ rfl rfl eg (fun w hw => hp _ (df (by omega)) w (hw.b0))) ?_
  refine ad ?_
  refine au rfl ?_ ?_ <;> intro h2 <;> try simp only [bs] at h2
  ·refine ah (zz0 (aa rfl) (zz0 (ab rfl) (ad (aC (bv (ay (ay (bv (ay ?_)))))))))
   refine aX Tryz.results101 rfl (fun w' hw => ?_)
   exact ⟨by rw [← hk2, drop_cons (k := k) (by omega), dY, if_pos (by assumption)], hw.b0⟩
  refine cd (aY (ac (ar (zz0 (cB rfl rfl) ?_))))
  refine zz0 (aa rfl) (ad ?_)
  refine cK (k + 1) (Front.c Front.nil) (zz8 12 rfl) (o := ⟨by omega, by rw [← hk2, drop_cons (k := k) (by omega), dY, if_neg (by simp_all)]⟩)
 refine bJ (aG (aG (bj (ac (ah (zz0 (ab rfl) (ad (aC ?_))))))))
 refine aX Tryz.results101 rfl (fun w' hw => ?_)
 exact ⟨by rw [← hk2, List.drop_of_length_le (by omega)]; rfl, hw.b0⟩
theorem rZ (l : List UInt32) (V : Value) (g : FuncId) (cb : List Value) (w : World) (hV : Sl (hp w) al l V) (eg : ∀ (args : Array Value) (w : World), (callFunc g args).run Tryz.prog w = .ok (.enter g args) w) (p : UInt32 → Bool) (hp : ∀ x ∈ l, ∀ w', Ext w w' → Calls Tryz.prog g ([Value.int .u32 x.toNat] ++ cb).toArray w' fun e w'' => e = .returned (.bool (p x)) ∧ Ext w' w'') :
  Cr Tryz.prog 42 #[V, .func (.func g) #[] cb.toArray] w (.bool (l.any p)) := by
 have hV' : Sl (Bg.of w).blk al l V := hV
 refine enter Tryz.func42 rfl Tryz.ntmps42 rfl ?_
 refine ah (zz0 (ab rfl) (aI (zz0 (aa rfl) (zz0 (aa rfl) (zz0 (az rfl Tryz.call101 (fun w hw => u0 l V g cb w (hw.slF hV') eg p (fun x hx w'' h => hp x hx w'' ((hw.b0).trans h)))) ?_)))))
 refine zz0 (eM rfl rfl) (zz0 (ab rfl) (ad (aC ?_)))
 refine aX Tryz.results42 rfl (fun w' hw => ?_)
 exact ⟨by rw [qW], hw.b0⟩
theorem GW (l : List SecV) (pV : Option Addr) (cV : Nat) (w : World) :
  Calls Tryz.prog 43 #[.func (.func 44) #[.agg #[(.slice pV l.length cV)]] #[]] w (fun e w' => ∃ b : Nat, e = .returned (.func (.func 102) #[] #[.pointer (some ⟨b, 0, none⟩)]) ∧ Ext w w' ∧ NewEnts w w' [cellE b [.func (.func 44) #[.agg #[(.slice pV l.length cV)]] #[]] 95] ∧ True) := by
 refine enter Tryz.func43 rfl Tryz.ntmps43 rfl ?_
 refine ah ?_
 refine dG rfl rfl (fun b1 => ?_)
 refine zz0 (ab rfl) (aI (zz0 (eU rfl rfl) ?_))
 refine zz0 (ab rfl) (ad (aC ?_))
 refine aX Tryz.results43 rfl (fun w' hw => ?_)
 exact ⟨_, rfl, hw.b0, hw.ents (Bg.le.refl _) (Pick.refl _), trivial⟩
theorem Fz (l : List SecV) (pV : Option Addr) (cV : Nat) (a : UInt32) (b : Nat) (w : World) (hV : Sl (hp w) dJ l (.slice pV l.length cV)) (hB : SecB l) (hc : Cell (hp w) b 0 (.func (.func 44) #[.agg #[(.slice pV l.length cV)]] #[])) :
  Cr Tryz.prog 102 #[.int .u32 a.toNat, .pointer (some ⟨b, 0, none⟩)] w (.bool (!C6 l a)) := by
 have hV' : Sl (Bg.of w).blk dJ l (.slice pV l.length cV) := hV
 have hc' : Cell (Bg.of w).blk b 0 (.func (.func 44) #[.agg #[(.slice pV l.length cV)]] #[]) := hc
 refine enter Tryz.func102 rfl Tryz.ntmps102 rfl ?_
 refine ah (zz0 (ab rfl) (aI (zz0 (lO rfl (by assumption) Tryz.isAgg95) ?_)))
 refine zz0 (aa rfl) (zz0 (CS (us := [.agg #[(.slice pV l.length cV)]]) rfl rfl Tryz.call44 (fun w hw => vl l pV cV a w (hw.slF hV') hB)) ?_)
 refine zz0 (cP rfl) (zz0 (ab rfl) (ad (aC ?_)))
 refine aX Tryz.results102 rfl (fun w' hw => ?_)
 exact ⟨rfl, hw.b0⟩
end Go.Proofs.YtiajjbhcpeadfaaGreat
namespace Go.Proofs.YtiajjbhcpeadfaaGreat
open Go Go.HL Go.RowKit
theorem lx (l : List SecV) (pV : Option Addr) (cV : Nat) (i : Ins) (s : StV) (w : World) (hV : Sl (hp w) dJ l (.slice pV l.length cV)) (hB : SecB l) (hD : DataIn (hp w) l) (hN : ∀ s ∈ l, s.name.size ≤ 140737488351232) (hI : InsOK i) :
  Calls Tryz.prog 12 #[(.slice pV l.length cV), .agg (aM.enc i).toArray, .agg (cF.enc s).toArray] w (fun e w' => ∃ V' : Value, e = .returned (.tuple #[V', .int .i64 (cO l i (s.get i.a)).2]) ∧ Ext w w' ∧ js w w' 23 al (cO l i (s.get i.a)).1 V') := by
 have hV' : Sl (Bg.of w).blk dJ l (.slice pV l.length cV) := hV
 have hD' : DataIn (Bg.of w).blk l := hD
 refine enter Tryz.func12 rfl Tryz.ntmps12 rfl ?_
 refine ah ?_
 refine dG rfl rfl (fun b1 => ?_)
 refine dG rfl rfl (fun b2 => ?_)
 refine zz0 (ab rfl) (zz0 (ab rfl) (ad (an (ah (zz0 (bG rfl aQ ax) ?_)))))
 refine zz0 (az rfl Tryz.call38 (fun w hw => sB i w hI)) ?_
 refine zz0 (cP rfl) (ad ?_)
 refine au rfl ?_ ?_ <;> intro h3 <;> try simp only [bs] at h3
 ·have hq1 : nI i = false := h3
  refine ah (zz0 (ab rfl) (zz0 (ab rfl) (ad (aC (ay ?_)))))
  refine dE gC rfl rfl (fun w' hw => ?_)
  have e : cO l i (s.get i.a) = ([], 2) := by
   unfold cO
   rw [if_pos hq1]
  exact ⟨.slice none 0 0, by rw [e], hw.b0, by rw [e]; exact fD rfl⟩
 have hq1 : nI i = true := by simpa using h3
 refine bC (an (ah (zz0 (aa rfl) (zz0 (az rfl Tryz.call39 (fun w hw => sc l (.slice pV l.length cV) w (hw.slF hV') hB (fun s hs => by have := hN s hs; omega))) ?_))))
 refine zz0 (ab rfl) (aI (zz0 (aa rfl) (zz0 (fH rfl rfl) (ad ?_))))
 refine au rfl ?_ ?_ <;> intro h4 <;> try simp only [bs] at h4
 ·have hq2 : fS l ≠ 0 := h4
  refine ah (zz0 (aa rfl) (zz0 (ab rfl) (zz0 (ab rfl) (ad (aC (ay ?_))))))
  refine dE gC rfl rfl (fun w' hw => ?_)
  have e : cO l i (s.get i.a) = ([], fS l) := by
   unfold cO
   rw [if_neg (by rw [hq1]; simp)]
   rw [if_pos hq2]
  exact ⟨.slice none 0 0, by rw [e], hw.b0, by rw [e]; exact fD rfl⟩
 have hq2 : fS l = 0 := by simpa using h4
 refine bC (an ?_)
 have hA := pd (show iM i = 0 by unfold nI at hq1; simp at hq1; exact hq1.1)
 refine ar (zz0 (zz2 (off := 6) (ft := 3) rfl aj rfl aA) ?_)
 refine zz0 (aH rfl aO) ?_
 refine zz0 (zz2 (off := 0) (ft := 26) rfl cj rfl di) ?_
 refine zz0 (dH rfl rfl cm ak (by omega)) ?_
 refine zz0 (gi (vs := bO.enc (s.get i.a)) rfl (by repeat constructor) aJ ak (kK ⟨by omega, by omega⟩ (by simp)) rfl) ?_
 obtain ⟨x, hx⟩ : ∃ x, x = s.get i.a := ⟨_, rfl⟩
 rw [← hx]
 refine dC cG rfl (fun b5 => ?_)
 refine aB bO rfl rfl ak ?_
 refine ad (an (ah (zz0 (bG rfl aJ ak) ?_)))
 refine zz0 (az rfl Tryz.call40 (fun w hw => tC _ w)) ?_
 refine zz0 (cP rfl) (zz0 (aa rfl) ?_)
 apply dV
 ·exact (rfl : _ = (3, 34, 37))
 ·exact rfl
 ·intro hF6; have hF6' := hF6
  try simp only [bs] at hF6'
  refine zz6 hF6 (zz2 (off := 0) (ft := 4) rfl ao rfl bS) ?_
  refine zz6 hF6 (aH rfl cE) ?_
  refine zz0 (aU rfl hF6 rfl) ?_
  refine aD (ac ?_)
  exact aK (Sub.cons rfl (bD 3 rfl))
 ·intro hT6
  refine zz9 hT6 (zz9 hT6 (zz0 (aV rfl hT6 rfl) ?_))
  refine aD (ac ?_)
  exact aK (Sub.cons rfl (bD 3 rfl))
 refine zz0 (aa rfl) ?_
 apply dV
 ·exact (rfl : _ = (3, 38, 41))
 ·exact rfl
 ·intro hF7; have hF7' := hF7
  try simp only [bs] at hF7'
  refine zz6 hF7 (zz2 (off := 1) (ft := 4) rfl ao rfl bS) ?_
  refine zz6 hF7 (aH rfl cE) ?_
  refine zz0 (aU rfl hF7 rfl) ?_
  refine aD (ac ?_)
  exact aK (Sub.cons rfl (bD 3 rfl))
 ·intro hT7
  refine zz9 hT7 (zz9 hT7 (zz0 (aV rfl hT7 rfl) ?_))
  refine aD (ac ?_)
  exact aK (Sub.cons rfl (bD 3 rfl))
 refine ad ?_
 refine au rfl ?_ ?_ <;> intro h8 <;> try simp only [bs] at h8
 ·have hq3 := h8
  refine ah (zz0 (ab rfl) (zz0 (ab rfl) (ad (aC (ay ?_)))))
  refine dE gC rfl rfl (fun w' hw => ?_)
  have e : cO l i x = ([], 19) := by
   unfold cO
   rw [if_neg (by rw [hq1]; simp)]
   rw [if_neg (fun q => q hq2)]
   rw [if_pos (by rcases hq3 with (q | q) | q <;> simp_all)]
  exact ⟨.slice none 0 0, by rw [e], hw.b0, by rw [e]; exact fD rfl⟩
 have hq3 := h8
 refine dz (zz0 (aa rfl) (zz0 (bK (vs := [(0, _)]) rfl rfl rfl) ?_))
 refine dC Tryz.zeroValue92 rfl (fun b9 => ?_)
 refine zz5 rfl rfl iO ?_
 refine ad (an (ah (zz0 (zz2 (off := 2) (ft := 3) rfl aj rfl aA) ?_)))
 refine zz0 (aH rfl aO) ?_
 refine zz0 (fH rfl rfl) (ad ?_)
 refine au rfl ?_ ?_ <;> intro h10 <;> try simp only [bs] at h10
 ·have hqo : i.op ≠ 22 := h10
  refine ah (zz0 (bG rfl aJ ak) ?_)
  refine ic (fun V => .tuple #[V, .int .i64 (eY x).2]) rfl Tryz.call41 (fun w hw => sF x w) rfl (fun VE => ?_)
  refine zz0 (aa rfl) (zz0 (aN rfl rfl) (zz0 (aN rfl rfl) (zz0 (ab rfl) (zz0 (ab rfl) (ad (an (ah (zz0 (aa rfl) (zz0 (fH rfl rfl) (zz0 (aa rfl) ?_))))))))))
  apply dV
  ·exact (rfl : _ = (6, 54, 60))
  ·exact rfl
  ·intro hF11; have hF11' := hF11
   try simp only [bs] at hF11'
   refine zz6 hF11 (aa rfl) (zz6 hF11 (bG rfl lI iO) ?_)
   refine zz6 hF11 (eU rfl rfl) ?_
   refine qh rfl rfl hF11 ?_
   refine iT (fun b : Nat => .func (.func 102) #[] #[.pointer (some ⟨b, 0, none⟩)]) (fun b => [cellE b [.func (.func 44) #[.agg #[(.slice pV l.length cV)]] #[]] 95]) (ok := fun _ => True) rfl Tryz.call43 (fun w hw => GW l pV cV w) rfl (fun bf _ => ?_)
   refine zz6 hF11 (az rfl Tryz.call42 (fun w hw => rZ (eY x).1 VE _ [.pointer (some ⟨bf, 0, none⟩)] w (hw.row (by repeat constructor)) Tryz.call102 (fun a => !C6 l a) (fun y hy w'' h => Fz l pV cV y bf w'' ((hw.slF hV').mono h.hp) hB (cellE.cell (hw.ent _ (by repeat constructor)) h rfl)))) ?_
   refine zz0 (aU rfl hF11 rfl) ?_
   refine aD (ac ?_)
   exact aK (Sub.cons rfl (bD 6 rfl))
  ·intro hT11
   refine zz9 hT11 (zz9 hT11 (zz9 hT11 (zz9 hT11 (zz9 hT11 (zz0 (aV rfl hT11 rfl) ?_)))))
   refine aD (ac ?_)
   exact aK (Sub.cons rfl (bD 6 rfl))
  refine ad ?_
  refine au rfl ?_ ?_ <;> intro h12 <;> try simp only [bs] at h12
  ·have hq6 := h12
   refine ah (zz0 (ab rfl) (zz0 (ab rfl) (ad (aC (ay (ay ?_))))))
   refine dE gC rfl rfl (fun w' hw => ?_)
   have e : cO l i x = ([], 19) := by
    unfold cO
    rw [if_neg (by rw [hq1]; simp)]
    rw [if_neg (fun q => q hq2)]
    rw [if_neg (show ¬((iI x = false ∨ x.em = true) ∨ x.top = true) from fun q => by rcases q with (q | q) | q <;> simp_all)]
    rw [if_pos hqo, if_pos (by rcases hq6 with q | q <;> simp_all)]
   exact ⟨.slice none 0 0, by rw [e], hw.b0, by rw [e]; exact fD rfl⟩
  have hq6 := h12
  refine dz (zz0 (aa rfl) (zz0 (ab rfl) (zz0 (ab rfl) (ad (aC (ay ?_))))))
  refine dE gC rfl rfl (fun w' hw => ?_)
  have e : cO l i x = ((eY x).1, 0) := by
   unfold cO
   rw [if_neg (by rw [hq1]; simp)]
   rw [if_neg (fun q => q hq2)]
   rw [if_neg (show ¬((iI x = false ∨ x.em = true) ∨ x.top = true) from fun q => by rcases q with (q | q) | q <;> simp_all)]
   rw [if_pos hqo, if_neg (by simp_all)]
  exact ⟨VE, by rw [e]; rfl, hw.b0, by rw [e]; exact hw.new (by repeat constructor)⟩
 have hqo : i.op = 22 := by simpa using h10
 refine bC (an (ah (zz0 (zz2 (off := 3) (ft := 23) rfl ao rfl ae) ?_)))
 refine zz0 (aH rfl am) ?_
 refine zz0 (nj (n := 64) rfl rfl) ?_
 refine ad ?_
 refine au rfl ?_ ?_ <;> intro h13 <;> try simp only [bs] at h13
 ·have hq4 : 64 ≤ x.hi := h13
  refine ah (zz0 (ab rfl) (zz0 (ab rfl) (ad (aC (ay ?_)))))
  refine dE gC rfl rfl (fun w' hw => ?_)
  have e : cO l i x = ([], 19) := by
   unfold cO
   rw [if_neg (by rw [hq1]; simp)]
   rw [if_neg (fun q => q hq2)]
   rw [if_neg (show ¬((iI x = false ∨ x.em = true) ∨ x.top = true) from fun q => by rcases q with (q | q) | q <;> simp_all)]
   rw [if_neg (fun q => q hqo), if_pos hq4]
  exact ⟨.slice none 0 0, by rw [e], hw.b0, by rw [e]; exact fD rfl⟩
 have hq4 : x.hi < 64 := by have := h13; rw [UInt32.not_le] at this; exact this
 refine dz (zz0 (ab rfl) (ad (an (ah (zz0 (zz2 (off := 3) (ft := 23) rfl ao rfl ae) ?_)))))
 refine zz0 (aH rfl am) ?_
 refine zz0 (gJ (n := 1) rfl rfl) ?_
 refine zz0 (aa rfl) (ad (aF (bZ 23 al ?_)))
 refine bL (ι := Nat × List UInt32 × Value) (fun ⟨j, out, Vo⟩ => j ≤ x.hi.toNat + 1 ∧ mh l i.imm x j = some out) (fun _ => _) (fun ⟨j, out, Vo⟩ => [rowE Vo 23 al out, cellE b9 [(.slice pV l.length cV)] 92, cellE b5 (bO.enc x) 25, cellE b2 (cF.enc s) 37, cellE b1 (aM.enc i) 36]) (fun ⟨j, out, Vo⟩ => [(68, .int .u32 (u32 (j : Int)).toNat), (13, Vo)]) (fun ⟨j, out, Vo⟩ => 65 - j) (0, [], _) ⟨Nat.zero_le _, rfl⟩ (Front.c (Front.c Front.nil)) (by repeat' constructor) rfl (fun i hi m hm => ?_)
 obtain ⟨j, out, Vo⟩ := i
 replace hi : j ≤ x.hi.toNat + 1 ∧ mh l i.imm x j = some out := hi
 replace hm : m = 65 - j := hm
 change Tr _ _ [rowE Vo 23 al out, cellE b9 [(.slice pV l.length cV)] 92, cellE b5 (bO.enc x) 25, cellE b2 (cF.enc s) 37, cellE b1 (aM.enc i) 36] ([(68, .int .u32 (u32 (j : Int)).toNat), (13, Vo)] ++ _) _
 obtain ⟨hj, hto⟩ := hi
 have hol := qq hto
 have h64 : x.hi.toNat < 64 := by rw [UInt32.lt_iff_toNat_lt] at hq4; exact hq4
 refine ah (zz0 (iu rfl rfl) ?_)
 refine ad (an ?_)
 refine au rfl ?_ ?_ <;> intro h14 <;> try simp only [bs] at h14
 ·have hq5 := h14
  refine bC (an (aF (an ?_)))
  have hhs := A8 hq4
  have hju := vk (x := (j : Int)) (by omega)
  rw [UInt32.lt_iff_toNat_lt] at hq5
  refine ar (zz0 (aa rfl) (zz0 (ab rfl) (aI (zz0 (aa rfl) (zz0 (ab rfl) (ad ?_))))))
  refine cZ (ι := UInt32) (fun k1 => k1 = sS x (u32 (j : Int))) (fun _ => Bg.of w) (fun k1 => [rowE Vo 23 al out, cellE b9 [(.slice pV l.length cV)] 92, cellE b5 (bO.enc x) 25, cellE b2 (cF.enc s) 37, cellE b1 (aM.enc i) 36]) (fun k1 => [(15, .int .u32 k1.toNat)]) ?_ (fun k1 hi => ?_)
  ·skip
   refine ah (zz0 (bG rfl aJ ak) ?_)
   refine zz0 (aa rfl) (zz0 (az rfl pj (fun w hw => l8 x _ w)) ?_)
   refine zz0 (cP rfl) (ad ?_)
   refine au rfl ?_ ?_ <;> intro h15 <;> try simp only [bs] at h15
   ·refine ar (zz0 (zz2 (off := 2) (ft := 23) rfl ao rfl ae) ?_)
    refine zz0 (aH rfl am) ?_
    refine zz0 (ab rfl) (ad ?_)
    refine co _ (Front.c Front.nil) (zz8 7 rfl) (o := (by show _ = _; unfold sS; rw [if_neg (by simp_all)]))
   refine bC ?_
   refine co _ (Front.c Front.nil) (zz8 4 rfl) (o := (by show _ = _; unfold sS; rw [if_pos (by simp_all)]))
  skip
  replace hi : k1 = sS x (u32 (j : Int)) := hi
  change Tr _ _ [rowE Vo 23 al out, cellE b9 [(.slice pV l.length cV)] 92, cellE b5 (bO.enc x) 25, cellE b2 (cF.enc s) 37, cellE b1 (aM.enc i) 36] ([(15, .int .u32 k1.toNat)] ++ _) _
  refine ah (zz0 (bG rfl lI iO) ?_)
  refine zz0 (zz2 (off := 1) (ft := 23) rfl aj rfl ae) ?_
  refine zz0 (aH rfl am) ?_
  refine zz0 (aa rfl) (zz0 (az rfl Tryz.call45 (fun w hw => yL l pV cV i.imm k1 w (hw.slF hV') hB (hD'.mono hw.bg))) ?_)
  refine zz0 (aa rfl) (zz0 (aN rfl rfl) (zz0 (aN rfl rfl) (zz0 (ab rfl) (zz0 (ab rfl) (ad (an (ah (zz0 (aa rfl) (zz0 (cP rfl) (ad ?_))))))))))
  refine au rfl ?_ ?_ <;> intro h16 <;> try simp only [bs] at h16
  ·have hq7 : (jp l i.imm k1).2 = false := h16
   refine ah (zz0 (ab rfl) (zz0 (ab rfl) (ad (aC (ay (bv (ay (ay (bv (ay ?_))))))))))
   refine dE gC rfl rfl (fun w' hw => ?_)
   have htn := BK (Fh hto (by rw [← hi]; exact hq7)) (x.hi.toNat + 1) (by omega)
   have e : cO l i x = ([], 19) := by
    unfold cO
    rw [if_neg (by rw [hq1]; simp)]
    rw [if_neg (fun q => q hq2)]
    rw [if_neg (show ¬((iI x = false ∨ x.em = true) ∨ x.top = true) from fun q => by rcases q with (q | q) | q <;> simp_all)]
    rw [if_neg (fun q => q hqo), if_neg (by rw [UInt32.not_le]; exact hq4), htn]
   exact ⟨.slice none 0 0, by rw [e], hw.b0, by rw [e]; exact fD rfl⟩
  have hq7 : (jp l i.imm k1).2 = true := by simpa using h16
  refine bC (ar (zz0 (aa rfl) (zz0 (aa rfl) ?_)))
  refine iG (E := al) (jp l i.imm k1).1 rfl rfl af ae cC (fun V17 => ?_)
  refine zz1 rfl rfl af eS (fun V18 => ?_)
  refine zz0 (ab rfl) (aD (aY (ac (ar (zz0 (gJ (n := 1) rfl rfl) ?_)))))
  refine zz0 (aa rfl) (ad ?_)
  rw [C5 (by omega)]
  refine cK (j + 1, out ++ [(jp l i.imm k1).1], _) (Front.c (Front.c Front.nil)) (zz8 27 rfl) (o := ⟨by omega, by rw [hi]; exact Da hto (by rw [← hi]; exact hq7)⟩)
 have hq5 := h14
 refine bJ (aG (aG (bj (ac (an ?_)))))
 have hhs := A8 hq4
 have hju := vk (x := (j : Int)) (by omega)
 rw [UInt32.lt_iff_toNat_lt] at hq5
 obtain rfl : j = x.hi.toNat + 1 := by omega
 refine ar (zz0 (aa rfl) (zz0 (ab rfl) (zz0 (ab rfl) (ad (aC ?_)))))
 refine dE gC rfl rfl (fun w' hw => ?_)
 have e : cO l i x = (out, 0) := by
  unfold cO
  rw [if_neg (by rw [hq1]; simp)]
  rw [if_neg (fun q => q hq2)]
  rw [if_neg (show ¬((iI x = false ∨ x.em = true) ∨ x.top = true) from fun q => by rcases q with (q | q) | q <;> simp_all)]
  rw [if_neg (fun q => q hqo), if_neg (by rw [UInt32.not_le]; exact hq4), hto]
 exact ⟨Vo, by rw [e], hw.b0, by rw [e]; exact hw.new (by repeat constructor)⟩
theorem pY (l : List SecV) (pV : Option Addr) (cV : Nat) (a : UInt32) (n : Int) (w : World) (hV : Sl (hp w) dJ l (.slice pV l.length cV)) (hB : SecB l) (hD : DataIn (hp w) l) (hN : ∀ s ∈ l, s.name.size ≤ 140737488351232) :
  Cr Tryz.prog 23 #[(.slice pV l.length cV), .int .u32 a.toNat, .int .i64 n] w (.bool (oI l a n)) := by
 have hV' : Sl (Bg.of w).blk dJ l (.slice pV l.length cV) := hV
 have hD' : DataIn (Bg.of w).blk l := hD
 refine enter Tryz.func23 rfl Tryz.ntmps23 rfl ?_
 refine ah (zz0 (ab rfl) (ad (an (ah (zz0 (aa rfl) (zz0 (bT rfl rfl) (zz0 (aa rfl) ?_)))))))
 apply dV
 ·exact (rfl : _ = (3, 13, 16))
 ·exact rfl
 ·intro hF1; have hF1' := hF1
  try simp only [bs] at hF1'
  refine zz6 hF1 (aa rfl) (zz6 hF1 (fg rfl rfl) (zz0 (aU rfl hF1 rfl) ?_))
  refine aD (ac ?_)
  exact aK (Sub.cons rfl (bD 3 rfl))
 ·intro hT1
  refine zz9 hT1 (zz9 hT1 (zz0 (aV rfl hT1 rfl) ?_))
  refine aD (ac ?_)
  exact aK (Sub.cons rfl (bD 3 rfl))
 refine zz0 (aa rfl) ?_
 apply dV
 ·exact (rfl : _ = (4, 17, 21))
 ·exact rfl
 ·intro hF2; have hF2' := hF2
  try simp only [bs] at hF2'
  refine zz6 hF2 (aa rfl) (zz6 hF2 (az rfl Tryz.call39 (fun w hw => sc l (.slice pV l.length cV) w (hw.slF hV') hB (fun s hs => by have := hN s hs; omega))) ?_)
  refine zz6 hF2 (fH rfl rfl) (zz0 (aU rfl hF2 rfl) ?_)
  refine aD (ac ?_)
  exact aK (Sub.cons rfl (bD 4 rfl))
 ·intro hT2
  refine zz9 hT2 (zz9 hT2 (zz9 hT2 (zz0 (aV rfl hT2 rfl) ?_)))
  refine aD (ac ?_)
  exact aK (Sub.cons rfl (bD 4 rfl))
 refine ad ?_
 refine au rfl ?_ ?_ <;> intro h3 <;> try simp only [bs] at h3
 ·have hq1 := h3
  refine ah (zz0 (ab rfl) (ad (aC (ay ?_))))
  refine aX Tryz.results23 rfl (fun w' hw => ?_)
  exact ⟨by unfold oI; rw [if_pos (by omega)], hw.b0⟩
 have hq1 := h3
 refine dz (zz0 (aa rfl) (zz0 (bK (vs := [(0, _)]) rfl rfl rfl) ?_))
 refine dC Tryz.zeroValue92 rfl (fun b4 => ?_)
 refine zz5 rfl rfl iO ?_
 refine ad (an (ah (zz0 (aa rfl) (zz0 (aa rfl) (ad (aF ?_))))))
 refine bL (ι := Nat) (fun j => (j : Int) ≤ n ∧ kN l a j = true) (fun _ => _) (fun j => [cellE b4 [(.slice pV l.length cV)] 92]) (fun j => [(25, .int .i64 (j : Nat))]) (fun j => n.toNat - j) 0 ⟨by omega, rfl⟩ (Front.c Front.nil) (by repeat' constructor) rfl (fun j hi m hm => ?_)
 replace hi : (j : Int) ≤ n ∧ kN l a j = true := hi
 replace hm : m = n.toNat - j := hm
 change Tr _ _ [cellE b4 [(.slice pV l.length cV)] 92] ([(25, .int .i64 (j : Nat))] ++ _) _
 obtain ⟨hj, hto⟩ := hi
 refine ah (zz0 (bT rfl rfl) (ad (an ?_)))
 refine au rfl ?_ ?_ <;> intro h5 <;> try simp only [bs] at h5
 ·refine bC (an (aF (ah (zz0 (aa rfl) (zz0 (ab rfl) (aI (zz0 (bG rfl lI iO) ?_)))))))
  refine zz0 (aa rfl) (zz0 (aa rfl) (zz0 (gU rfl ba aS) (zz0 (az rfl Tryz.call45 (fun w hw => yL l pV cV a _ w (hw.slF hV') hB (hD'.mono hw.bg))) ?_)))
  refine zz0 (aa rfl) (zz0 (aN rfl rfl) (zz0 (aN rfl rfl) (zz0 (ab rfl) (zz0 (ab rfl) (aI (zz0 (aa rfl) (zz0 (cP rfl) (ad ?_))))))))
  refine au rfl ?_ ?_ <;> intro h6 <;> try simp only [bs] at h6
  ·have hq2 : (jp l a (u32 (j : Int))).2 = false := h6
   refine ah (zz0 (ab rfl) (ad (aC (bv (ay (ay (bv (ay ?_))))))))
   refine aX Tryz.results23 rfl (fun w' hw => ?_)
   have hf := yw (show kN l a (j + 1) = false by simp only [kN, hq2, Bool.and_false]) n.toNat (by omega)
   exact ⟨by unfold oI; rw [if_neg (by omega), hf], hw.b0⟩
  have hq2 : (jp l a (u32 (j : Int))).2 = true := by simpa using h6
  refine cd (aY (ac (ar (zz0 (cB rfl rfl) ?_))))
  refine zz0 (aa rfl) (ad ?_)
  refine cK (j + 1) (Front.c Front.nil) (zz8 18 rfl) (o := ⟨by omega, by simp only [kN, hto, hq2, Bool.and_self]⟩)
 refine bJ (aG (aG (bj (ac (ah (zz0 (ab rfl) (ad (aC ?_))))))))
 refine aX Tryz.results23 rfl (fun w' hw => ?_)
 exact ⟨by unfold oI; rw [if_neg (by omega), show n.toNat = j by omega, hto], hw.b0⟩
end Go.Proofs.YtiajjbhcpeadfaaGreat
namespace Go.Proofs.YtiajjbhcpeadfaaGreat
open Go Go.HL Go.RowKit
def dF (cmp : Ins → Ins → Int) (x y : Ins) : Bool := decide (cmp x y < 0)
def xP (cmp : Ins → Ins → Int) (V : Value) (l : List Ins) (a b : Nat) (w : World) : Ending → World → Prop := fun e w' => e = .returned (.tuple #[]) ∧ ∃ l', (Stab (dF cmp) l l' ∧ Fram a b l l' ∧ Srt (dF cmp) l' a b) ∧ Mut w w' V ∧ (rowE V 36 aM l').holds w'
def Bt (g : FuncId) (cb : List Value) (cmp : Ins → Ins → Int) (I : World → Prop) (V : Value) (n : Nat) : Prop := ∀ (l : List Ins) (a md b : Nat) (ai mdi bi : Int) (w : World), ai = ((a : Nat) : Int) → mdi = ((md : Nat) : Int) → bi = ((b : Nat) : Int) → b - a ≤ n → a < md → md < b → b ≤ l.length → l.length ≤ 1000000 → Srt (dF cmp) l a md → Srt (dF cmp) l md b → I w → (rowE V 36 aM l).holds w → Calls Tryz.prog 200 #[V, .int .i64 ai, .int .i64 mdi, .int .i64 bi, .func (.func g) #[] cb.toArray] w (xP cmp V l a b w)
theorem pH (l : List Ins) (V : Value) (a : Nat) (b : Nat) (ai : Int) (bi : Int) (ea : ai = ((a : Nat) : Int)) (eb : bi = ((b : Nat) : Int)) (g : FuncId) (cb : List Value) (cmp : Ins → Ins → Int) (I : World → Prop) (hI : ∀ w w' l', I w → Mut w w' V → (rowE V 36 aM l').holds w' → I w') (eg : ∀ args w, (callFunc g args).run Tryz.prog w = .ok (.enter g args) w) (hc : ∀ x y w', I w' → Calls Tryz.prog g ([Value.agg (aM.enc x).toArray, Value.agg (aM.enc y).toArray] ++ cb).toArray w' fun e w'' => e = .returned (.int .i64 (cmp x y)) ∧ Ext w' w'') (hO : WO (dF cmp)) (w : World) (hIw : I w) (hr : (rowE V 36 aM l).holds w) (hl : l.length ≤ 1000000) (hab : a ≤ b) (hb : b ≤ l.length) :
  Calls Tryz.prog 199 #[V, .int .i64 ai, .int .i64 bi, .func (.func g) #[] cb.toArray] w (xP cmp V l a b w) := by
 subst ea eb
 refine fw (l := l) (E := aM) (T := 36) hr Tryz.func199 rfl Tryz.ntmps199 rfl ?_
 refine ah (zz0 (aa rfl) (zz0 (cB rfl rfl) ?_))
 refine zz0 (ab rfl) (ad (aF ?_))
 refine bL (ι := Nat × List Ins) (fun ⟨i, cur⟩ => a + 1 ≤ i ∧ (i ≤ b ∨ i = a + 1) ∧ Stab (dF cmp) l cur ∧ Fram a b l cur ∧ Srt (dF cmp) cur a i) (fun _ => _) (fun ⟨i, cur⟩ => [rowE V 36 aM cur]) (fun ⟨i, cur⟩ => [(8, .int .i64 (i : Nat))]) (fun ⟨i, cur⟩ => b - i) (a + 1, l) ⟨Nat.le_refl _, .inr rfl, .refl _ _, .refl _ _ _, .one (Nat.le_refl _)⟩ (Front.c Front.nil) (by repeat' constructor) rfl (fun i hi m hm => ?_)
 obtain ⟨i, cur⟩ := i
 replace hi : a + 1 ≤ i ∧ (i ≤ b ∨ i = a + 1) ∧ Stab (dF cmp) l cur ∧ Fram a b l cur ∧ Srt (dF cmp) cur a i := hi
 replace hm : m = b - i := hm
 change Tr _ _ [rowE V 36 aM cur] ([(8, .int .i64 (i : Nat))] ++ _) _
 obtain ⟨hi1, hi2, hi3, hi4, hi5⟩ := hi
 have hcl : cur.length = l.length := hi4.1
 refine an (ah (zz0 (aa rfl) (zz0 (aa rfl) (zz0 (bT rfl rfl) (ad ?_)))))
 refine au rfl ?_ ?_ <;> intro h1 <;> try simp only [bs] at h1
 ·refine bC (an (aF (ah (zz0 (aa rfl) (zz0 (ab rfl) (ad (aF ?_)))))))
  have e0 : mp (dx i i (i + 1)) cur = cur := qF (.inl rfl) (Nat.le_refl _) (by omega)
  refine gp e0.symm ?_
  refine bL (ι := Nat) (fun j => a ≤ j ∧ j ≤ i ∧ ∀ q, j ≤ q → q < i → dF cmp (cur.getD i default) (cur.getD q default) = true) (fun _ => _) (fun j => [rowE V 36 aM (mp (dx j i (i + 1)) cur)]) (fun j => [(9, .int .i64 (j : Nat))]) (fun j => j) i ⟨by omega, Nat.le_refl _, fun q x y => by omega⟩ (Front.c Front.nil) (by repeat' constructor) rfl (fun j hi m hm => ?_)
  replace hi : a ≤ j ∧ j ≤ i ∧ ∀ q, j ≤ q → q < i → dF cmp (cur.getD i default) (cur.getD q default) = true := hi
  replace hm : m = j := hm
  change Tr _ _ [rowE V 36 aM (mp (dx j i (i + 1)) cur)] ([(9, .int .i64 (j : Nat))] ++ _) _
  obtain ⟨hj1, hj2, hj3⟩ := hi
  have hml : (mp (dx j i (i + 1)) cur).length = l.length := by rw [g3]; exact hcl
  have ej : ((j : Int) - 1).toNat = j - 1 := by omega
  have ev : (mp (dx j i (i + 1)) cur).getD j default = cur.getD i default := by rw [il (by omega)]; congr 1; have := fB j i (i + 1) j; omega
  have ew : 0 < j → (mp (dx j i (i + 1)) cur).getD (j - 1) default = cur.getD (j - 1) default := fun q => by rw [il (by omega)]; congr 1; have := fB j i (i + 1) (j - 1); omega
  refine an (an (gZ aP ?_))
  refine aw (aa rfl) (aw (aa rfl) (aw (fg rfl rfl) (aw (aa rfl) ?_)))
  apply fx
  ·exact (rfl : _ = (13, 21, 34))
  ·exact rfl
  ·intro hT2; have hT2' := hT2
   try simp only [bs] at hT2'
   refine bX hT2 (aa rfl) (bX hT2 (aa rfl) (bX hT2 (aa rfl) (bX hT2 (zz7 rfl rfl aL ax) ?_)))
   refine bX hT2 (mg rfl aQ ax) ?_
   refine bX hT2 (aa rfl) (bX hT2 (aa rfl) (bX hT2 (ei rfl rfl) ?_))
   refine bX hT2 (jm rfl rfl aL ax) ?_
   refine bX hT2 (mg rfl aQ ax) ?_
   refine bX hT2 (hZ rfl rfl eg (fun w hw => hc _ _ w (hI _ _ _ hIw (HpOK.mutOwn hw (.head _) rfl).1 (HpOK.mutOwn hw (.head _) rfl).2))) ?_
   refine bX hT2 (bT rfl rfl) (aw (aV rfl hT2 rfl) ?_)
   exact dj (Sub.cons rfl (bD 13 rfl))
  ·intro hF2
   refine bW hF2 (bW hF2 (bW hF2 (bW hF2 (bW hF2 (bW hF2 (bW hF2 (bW hF2 (bW hF2 (bW hF2 (bW hF2 (bW hF2 (aw (aU rfl hF2 rfl) ?_))))))))))))
   exact dj (Sub.cons rfl (bD 13 rfl))
  refine bH ?_
  refine ac ?_
  refine au rfl ?_ ?_ <;> intro h3 <;> try simp only [bs] at h3
  ·refine bC (an (aF (fy 5 15 aP ?_)))
   refine eh rfl ?_
   refine eh rfl ?_
   refine eh rfl ?_
   refine eh rfl ?_
   refine gh (fun _ => ei rfl rfl) (by rfl) rfl ?_
   refine bE ?_
   refine aw (aa rfl) (aw (aa rfl) (aw (ei rfl rfl) ?_))
   refine aw (jm rfl rfl aL ax) ?_
   refine aw (mg rfl aQ ax) ?_
   refine aw (aa rfl) (aw (aa rfl) (aw (zz7 rfl rfl aL ax) ?_))
   refine aw (mg rfl aQ ax) ?_
   refine aw (zz7 rfl rfl aL ax) ?_
   refine bH ?_
   refine fV (l := (mp (dx j i (i + 1)) cur)) (i := j) ((mp (dx j i (i + 1)) cur).getD (((j : Int) - 1).toNat) default) rfl rfl ax ?_
   have hls4 : (List.set (mp (dx j i (i + 1)) cur) (j) ((mp (dx j i (i + 1)) cur).getD (((j : Int) - 1).toNat) default)).length = ((mp (dx j i (i + 1)) cur)).length := List.length_set
   refine zz0 (jm rfl rfl aL ax) ?_
   refine fV (l := ((mp (dx j i (i + 1)) cur).set (j) ((mp (dx j i (i + 1)) cur).getD (((j : Int) - 1).toNat) default))) (i := ((j : Int) - 1).toNat) ((mp (dx j i (i + 1)) cur).getD (j) default) rfl rfl ax ?_
   have hls5 : (List.set ((mp (dx j i (i + 1)) cur).set (j) ((mp (dx j i (i + 1)) cur).getD (((j : Int) - 1).toNat) default)) (((j : Int) - 1).toNat) ((mp (dx j i (i + 1)) cur).getD (j) default)).length = (((mp (dx j i (i + 1)) cur).set (j) ((mp (dx j i (i + 1)) cur).getD (((j : Int) - 1).toNat) default))).length := List.length_set
   refine aD (aY (ac (ar (zz0 (aa rfl) (zz0 (ei rfl rfl) ?_)))))
   refine zz0 (ab rfl) (ad ?_)
   have hsw := A2 (l := (mp (dx j i (i + 1)) cur)) (p := j) (q := j - 1) (by omega) (by omega)
   rw [ya (by omega) hj2 (by omega)] at hsw
   have hlt : dF cmp (cur.getD i default) (cur.getD (j - 1) default) = true := by
    rw [← ev, ← ew (by omega), ← ej]
    simpa [dF] using h3.2
   have hj3' : ∀ q, j - 1 ≤ q → q < i → dF cmp (cur.getD i default) (cur.getD q default) = true := fun q x y => by
    by_cases c : q = j - 1
    ·rw [c]; exact hlt
    ·exact hj3 q (by omega) y
   rw [ej, hsw]
   refine cK (j - 1) (Front.c Front.nil) (zz8 25 rfl) (o := ⟨by omega, by omega, hj3'⟩)
  refine bJ (aG (aG (bj (aY (ac (ar (zz0 (aa rfl) (zz0 (cB rfl rfl) ?_))))))))
  refine zz0 (ab rfl) (ad ?_)
  have hB : j = a ∨ dF cmp (cur.getD i default) (cur.getD (j - 1) default) = false := by
   rcases h3 with h3 | h3
   ·exact .inl (by omega)
   ·by_cases q : j = a
    ·exact .inl q
    ·refine .inr ?_
     rw [← ev, ← ew (by omega), ← ej]
     simpa [dF] using h3
  have hin := AS hO hi5 (by omega) hj1 hj2 hj3 hB
  have hfr : Fram a b l (mp (dx j i (i + 1)) cur) := hi4.trans (Fram.rot hj1 (by omega) hj2 (by omega))
  refine cK (i + 1, _) (Front.c Front.nil) (zz8 15 rfl) (o := ⟨by omega, by omega, hi3.trans hin.1, hfr, hin.2⟩)
 refine bJ (aG (aG (bj ?_)))
 refine fc Tryz.results199 (fun w' hw => ?_)
 exact ⟨rfl, _, ⟨hi3, hi4, hi5.sub (Nat.le_refl _) (by omega)⟩, HpOK.mutOwn hw (.head _) rfl⟩
theorem mi (l : List Ins) (V : Value) (a : Nat) (b : Nat) (n : Nat) (ai : Int) (bi : Int) (ni : Int) (ea : ai = ((a : Nat) : Int)) (eb : bi = ((b : Nat) : Int)) (en : ni = ((n : Nat) : Int)) (cv : Value) (w : World) (hr : (rowE V 36 aM l).holds w) (hl : l.length ≤ 1000000) (hab : a + n ≤ b) (hb : b + n ≤ l.length) :
  Calls Tryz.prog 296 #[V, .int .i64 ai, .int .i64 bi, .int .i64 ni, cv] w (fun e w' => e = .returned (.tuple #[]) ∧ Mut w w' V ∧ (rowE V 36 aM (mp (swR a b n) l)).holds w') := by
 subst ea eb en
 refine fw (l := l) (E := aM) (T := 36) hr Tryz.func296 rfl Tryz.ntmps296 rfl ?_
 refine ah (zz0 (ab rfl) (ad (aF ?_)))
 have e0 : mp (swR a b 0) l = l := HA
 refine gp e0.symm ?_
 refine bL (ι := Nat) (fun i => i ≤ n) (fun _ => _) (fun i => [rowE V 36 aM (mp (swR a b i) l)]) (fun i => [(10, .int .i64 (i : Nat))]) (fun i => n - i) 0 (Nat.zero_le _) (Front.c Front.nil) (by repeat' constructor) rfl (fun i hi m hm => ?_)
 replace hi : i ≤ n := hi
 replace hm : m = n - i := hm
 change Tr _ _ [rowE V 36 aM (mp (swR a b i) l)] ([(10, .int .i64 (i : Nat))] ++ _) _
 have hml : (mp (swR a b i) l).length = l.length := g3 _ _
 refine an (ah (zz0 (aa rfl) (zz0 (aa rfl) (zz0 (bT rfl rfl) (ad ?_)))))
 refine au rfl ?_ ?_ <;> intro h1 <;> try simp only [bs] at h1
 ·refine bC (an (aF (fy 8 21 aP ?_)))
  refine eh rfl ?_
  refine eh rfl ?_
  refine eh rfl ?_
  refine gh (fun _ => cB rfl rfl) (by rfl) rfl ?_
  refine eh rfl ?_
  refine eh rfl ?_
  refine eh rfl ?_
  refine gh (fun _ => cB rfl rfl) (by rfl) rfl ?_
  refine bE ?_
  refine aw (aa rfl) (aw (aa rfl) (aw (aa rfl) (aw (cB rfl rfl) ?_)))
  refine aw (zz7 rfl rfl aL ax) ?_
  refine aw (mg rfl aQ ax) ?_
  refine aw (aa rfl) (aw (aa rfl) (aw (aa rfl) (aw (cB rfl rfl) ?_)))
  refine aw (zz7 rfl rfl aL ax) ?_
  refine aw (mg rfl aQ ax) ?_
  refine aw (zz7 rfl rfl aL ax) ?_
  refine bH ?_
  refine fV (l := (mp (swR a b i) l)) (i := a + i) ((mp (swR a b i) l).getD (b + i) default) rfl rfl ax ?_
  have hls2 : (List.set (mp (swR a b i) l) (a + i) ((mp (swR a b i) l).getD (b + i) default)).length = ((mp (swR a b i) l)).length := List.length_set
  refine zz0 (zz7 rfl rfl aL ax) ?_
  refine fV (l := ((mp (swR a b i) l).set (a + i) ((mp (swR a b i) l).getD (b + i) default))) (i := b + i) ((mp (swR a b i) l).getD (a + i) default) rfl rfl ax ?_
  have hls3 : (List.set ((mp (swR a b i) l).set (a + i) ((mp (swR a b i) l).getD (b + i) default)) (b + i) ((mp (swR a b i) l).getD (a + i) default)).length = (((mp (swR a b i) l).set (a + i) ((mp (swR a b i) l).getD (b + i) default))).length := List.length_set
  refine aD (aY (ac (ar (zz0 (aa rfl) (zz0 (cB rfl rfl) ?_)))))
  refine zz0 (ab rfl) (ad ?_)
  have hsw := A2 (l := (mp (swR a b i) l)) (p := a + i) (q := b + i) (by omega) (by omega)
  rw [Db hab hb (by omega)] at hsw
  rw [hsw]
  refine cK (i + 1) (Front.c Front.nil) (zz8 29 rfl) (o := (by show i + 1 ≤ n; omega))
 refine bJ (aG (aG (bj ?_)))
 refine fc Tryz.results296 (fun w' hw => ?_)
 obtain rfl : i = n := by omega
 exact ⟨rfl, HpOK.mutOwn hw (.head _) rfl⟩
theorem zG (l : List Ins) (V : Value) (a : Nat) (md : Nat) (b : Nat) (ai : Int) (mdi : Int) (bi : Int) (ea : ai = ((a : Nat) : Int)) (emd : mdi = ((md : Nat) : Int)) (eb : bi = ((b : Nat) : Int)) (cv : Value) (w : World) (hr : (rowE V 36 aM l).holds w) (hl : l.length ≤ 1000000) (ham : a < md) (hmb : md < b) (hb : b ≤ l.length) :
  Calls Tryz.prog 263 #[V, .int .i64 ai, .int .i64 mdi, .int .i64 bi, cv] w (fun e w' => e = .returned (.tuple #[]) ∧ Mut w w' V ∧ (rowE V 36 aM (mp (dx a md b) l)).holds w') := by
 subst ea emd eb
 refine fw (l := l) (E := aM) (T := 36) hr Tryz.func263 rfl Tryz.ntmps263 rfl ?_
 refine ah (zz0 (aa rfl) (zz0 (aa rfl) (zz0 (ei rfl rfl) ?_)))
 refine zz0 (ab rfl) (aI (zz0 (aa rfl) (zz0 (aa rfl) (zz0 (ei rfl rfl) ?_))))
 refine zz0 (ab rfl) (ad (an (aF ?_)))
 refine bL (ι := Nat × Nat × List Ins) (fun ⟨i, j, cur⟩ => 0 < i ∧ 0 < j ∧ i ≤ md ∧ md + j ≤ l.length ∧ cur.length = l.length ∧ mp (dx (md - i) md (md + j)) cur = mp (dx a md b) l) (fun _ => _) (fun ⟨i, j, cur⟩ => [rowE V 36 aM cur]) (fun ⟨i, j, cur⟩ => [(10, .int .i64 (i : Nat)), (11, .int .i64 (j : Nat))]) (fun ⟨i, j, cur⟩ => i + j) (md - a, b - md, l) ⟨by omega, by omega, by omega, by omega, rfl, by rw [show md - (md - a) = a by omega, show md + (b - md) = b by omega]⟩ (Front.c (Front.c Front.nil)) (by repeat' constructor) rfl (fun i hi m hm => ?_)
 obtain ⟨i, j, cur⟩ := i
 replace hi : 0 < i ∧ 0 < j ∧ i ≤ md ∧ md + j ≤ l.length ∧ cur.length = l.length ∧ mp (dx (md - i) md (md + j)) cur = mp (dx a md b) l := hi
 replace hm : m = i + j := hm
 change Tr _ _ [rowE V 36 aM cur] ([(10, .int .i64 (i : Nat)), (11, .int .i64 (j : Nat))] ++ _) _
 obtain ⟨hi1, hi2, hi3, hi4, hi5, hi6⟩ := hi
 refine an (ah (zz0 (aa rfl) (zz0 (aa rfl) (zz0 (fH rfl rfl) (ad ?_)))))
 refine au rfl ?_ ?_ <;> intro h1 <;> try simp only [bs] at h1
 ·refine bC (aF (ah (zz0 (aa rfl) (zz0 (aa rfl) (zz0 (fg rfl rfl) (ad ?_))))))
  refine au rfl ?_ ?_ <;> intro h2 <;> try simp only [bs] at h2
  ·refine ah (zz0 (aa rfl) (zz0 (aa rfl) (zz0 (aa rfl) (zz0 (ei rfl rfl) ?_))))
   refine zz0 (aa rfl) (zz0 (aa rfl) (zz0 (aa rfl) (dW rfl Tryz.call296 (by repeat constructor) (fun w hw => mi cur V (md - i) md j _ _ _ (by omega) (by omega) (by omega) cv w (hw.ent _ (.head _)) (by omega) (by omega) (by omega)) rfl ?_)))
   refine ad (ar (zz0 (aa rfl) (zz0 (aa rfl) (zz0 (ei rfl rfl) ?_))))
   refine zz0 (ab rfl) (aD (aY (ac ?_)))
   have hn := (GM (l := cur) (m := md) (i := i) (j := j) hi3 (by omega) (by omega)).trans hi6
   refine cK (i - j, j, _) (Front.c (Front.c Front.nil)) (zz8 20 rfl) (o := ⟨by omega, hi2, by omega, hi4, by rw [g3]; exact hi5, hn⟩)
  refine ah (zz0 (aa rfl) (zz0 (aa rfl) (zz0 (aa rfl) (zz0 (ei rfl rfl) ?_))))
  refine zz0 (aa rfl) (zz0 (aa rfl) (zz0 (cB rfl rfl) ?_))
  refine zz0 (aa rfl) (zz0 (ei rfl rfl) ?_)
  refine zz0 (aa rfl) (zz0 (aa rfl) (dW rfl Tryz.call296 (by repeat constructor) (fun w hw => mi cur V (md - i) (md + j - i) i _ _ _ (by omega) (by omega) (by omega) cv w (hw.ent _ (.head _)) (by omega) (by omega) (by omega)) rfl ?_))
  refine ad (ar (zz0 (aa rfl) (zz0 (aa rfl) (zz0 (ei rfl rfl) ?_))))
  refine zz0 (ab rfl) (aD (aY (ac ?_)))
  have hn := (GL (l := cur) (m := md) (i := i) (j := j) hi3 (by omega) (by omega)).trans hi6
  refine cK (i, j - i, _) (Front.c (Front.c Front.nil)) (zz8 24 rfl) (o := ⟨hi1, by omega, hi3, by omega, by rw [g3]; exact hi5, hn⟩)
 refine bJ (aG (aG (bj (ac (ar (zz0 (aa rfl) (zz0 (aa rfl) (zz0 (aa rfl) (zz0 (ei rfl rfl) ?_)))))))))
 refine zz0 (aa rfl) (zz0 (aa rfl) (zz0 (aa rfl) (dW rfl Tryz.call296 (by repeat constructor) (fun w hw => mi cur V (md - i) md i _ _ _ (by omega) (by omega) (by omega) cv w (hw.ent _ (.head _)) (by omega) (by omega) (by omega)) rfl ?_)))
 refine aD ?_
 refine fc Tryz.results263 (fun w' hw => ?_)
 obtain rfl : j = i := by omega
 rw [GN hi3, hi6] at hw
 exact ⟨rfl, HpOK.mutOwn hw (.head _) rfl⟩
theorem BL (l : List Ins) (V : Value) (a : Nat) (md : Nat) (b : Nat) (ai : Int) (mdi : Int) (bi : Int) (ea : ai = ((a : Nat) : Int)) (emd : mdi = ((md : Nat) : Int)) (eb : bi = ((b : Nat) : Int)) (g : FuncId) (cb : List Value) (cmp : Ins → Ins → Int) (I : World → Prop) (hI : ∀ w w' l', I w → Mut w w' V → (rowE V 36 aM l').holds w' → I w') (eg : ∀ args w, (callFunc g args).run Tryz.prog w = .ok (.enter g args) w) (hc : ∀ x y w', I w' → Calls Tryz.prog g ([Value.agg (aM.enc x).toArray, Value.agg (aM.enc y).toArray] ++ cb).toArray w' fun e w'' => e = .returned (.int .i64 (cmp x y)) ∧ Ext w' w'') (hO : WO (dF cmp)) (w : World) (hIw : I w) (hr : (rowE V 36 aM l).holds w) (hl : l.length ≤ 1000000) (ih : ∀ n, n < b - a → Bt g cb cmp I V n) (ham : a < md) (hmb : md < b) (hb : b ≤ l.length) (h1s : Srt (dF cmp) l a md) (h2s : Srt (dF cmp) l md b) :
  Calls Tryz.prog 200 #[V, .int .i64 ai, .int .i64 mdi, .int .i64 bi, .func (.func g) #[] cb.toArray] w (xP cmp V l a b w) := by
 subst ea emd eb
 refine fw (l := l) (E := aM) (T := 36) hr Tryz.func200 rfl Tryz.ntmps200 rfl ?_
 refine an (ah (zz0 (aa rfl) (zz0 (aa rfl) (zz0 (ei rfl rfl) ?_))))
 refine zz0 (bA rfl rfl) (ad ?_)
 refine au rfl ?_ ?_ <;> intro h1 <;> try simp only [bs] at h1
 ·refine ah (zz0 (aa rfl) (zz0 (ab rfl) (aI (zz0 (aa rfl) (zz0 (ab rfl) (ad (an (aF ?_))))))))
  refine bL (ι := Nat × Nat) (fun ⟨i, j⟩ => md ≤ i ∧ i ≤ j ∧ j ≤ b ∧ (∀ q, md ≤ q → q < i → dF cmp (l.getD q default) (l.getD a default) = true) ∧ (∀ q, j ≤ q → q < b → dF cmp (l.getD q default) (l.getD a default) = false)) (fun _ => _) (fun ⟨i, j⟩ => [rowE V 36 aM l]) (fun ⟨i, j⟩ => [(10, .int .i64 (i : Nat)), (11, .int .i64 (j : Nat))]) (fun ⟨i, j⟩ => j - i) (md, b) ⟨Nat.le_refl _, by omega, Nat.le_refl _, fun q x y => by omega, fun q x y => by omega⟩ (Front.c (Front.c Front.nil)) (by repeat' constructor) rfl (fun i hi m hm => ?_)
  obtain ⟨i, j⟩ := i
  replace hi : md ≤ i ∧ i ≤ j ∧ j ≤ b ∧ (∀ q, md ≤ q → q < i → dF cmp (l.getD q default) (l.getD a default) = true) ∧ (∀ q, j ≤ q → q < b → dF cmp (l.getD q default) (l.getD a default) = false) := hi
  replace hm : m = j - i := hm
  change Tr _ _ [rowE V 36 aM l] ([(10, .int .i64 (i : Nat)), (11, .int .i64 (j : Nat))] ++ _) _
  obtain ⟨hi1, hi2, hi3, hi4, hi5⟩ := hi
  refine an (ah (zz0 (aa rfl) (zz0 (aa rfl) (zz0 (bT rfl rfl) (ad ?_)))))
  refine au rfl ?_ ?_ <;> intro h2 <;> try simp only [bs] at h2
  ·refine bC (aF (ah (zz0 (aa rfl) (zz0 (aa rfl) (zz0 (cB rfl rfl) ?_)))))
   refine zz0 (eW rfl ba dN (IntWalk.u64_in _ (by omega))) ?_
   refine zz0 (tt rfl rfl (by omega)) ?_
   refine zz0 (eW rfl dN ba (IntWalk.i64_in _ (by omega))) ?_
   refine zz0 (ab rfl) (ad (an ?_))
   obtain ⟨h, hhh⟩ : ∃ h, h = (i + j) / 2 := ⟨_, rfl⟩
   rw [show (((i : Nat) : Int) + ((j : Nat) : Int)) / 2 = ((h : Nat) : Int) by omega]
   refine gZ aP ?_
   refine aw (aa rfl) (aw (aa rfl) (aw (aa rfl) (aw (zz7 rfl rfl aL ax) ?_)))
   refine aw (mg rfl aQ ax) ?_
   refine aw (aa rfl) (aw (aa rfl) (aw (zz7 rfl rfl aL ax) ?_))
   refine aw (mg rfl aQ ax) ?_
   refine aw (hZ rfl rfl eg (fun w hw => hc _ _ w (hI _ _ _ hIw (HpOK.mutOwn hw (.head _) rfl).1 (HpOK.mutOwn hw (.head _) rfl).2))) ?_
   refine aw (bT rfl rfl) (bH ?_)
   refine ac ?_
   refine au rfl ?_ ?_ <;> intro h3 <;> try simp only [bs] at h3
   ·refine ar (zz0 (aa rfl) (zz0 (cB rfl rfl) ?_))
    refine zz0 (ab rfl) (aD (aY (ac ?_)))
    have hx : dF cmp (l.getD h default) (l.getD a default) = true := by simp only [dF, decide_eq_true_eq]; assumption
    have hn : ∀ q, md ≤ q → q < h + 1 → dF cmp (l.getD q default) (l.getD a default) = true := fun q x y => hO.le_lt (h2s.le hO x (by omega) (by omega)) hx
    refine cK (h + 1, j) (Front.c (Front.c Front.nil)) (zz8 26 rfl) (o := ⟨by omega, by omega, hi3, hn, hi5⟩)
   refine ar (zz0 (aa rfl) (zz0 (ab rfl) (aD (aY (ac ?_)))))
   have hx : dF cmp (l.getD h default) (l.getD a default) = false := by simp only [dF, decide_eq_false_iff_not]; assumption
   have hn : ∀ q, h ≤ q → q < b → dF cmp (l.getD q default) (l.getD a default) = false := fun q x y => hO.ntr _ _ _ (h2s.le hO (by omega) x y) hx
   refine cK (i, h) (Front.c (Front.c Front.nil)) (zz8 25 rfl) (o := ⟨hi1, by omega, by omega, hi4, hn⟩)
  refine bJ (aG (aG (bj (ac (an (ah (zz0 (aa rfl) (zz0 (ab rfl) (ad (aF ?_))))))))))
  have e0 : mp (dx a (a + 1) (a + 1)) l = l := qF (.inr rfl) (by omega) (Nat.le_refl _)
  refine gp e0.symm ?_
  refine bL (ι := Nat) (fun k => a ≤ k ∧ k + 1 ≤ i) (fun _ => _) (fun k => [rowE V 36 aM (mp (dx a (a + 1) (k + 1)) l)]) (fun k => [(13, .int .i64 (k : Nat))]) (fun k => i - k) a ⟨Nat.le_refl _, by omega⟩ (Front.c Front.nil) (by repeat' constructor) rfl (fun k hi m hm => ?_)
  replace hi : a ≤ k ∧ k + 1 ≤ i := hi
  replace hm : m = i - k := hm
  change Tr _ _ [rowE V 36 aM (mp (dx a (a + 1) (k + 1)) l)] ([(13, .int .i64 (k : Nat))] ++ _) _
  obtain ⟨hk1, hk2⟩ := hi
  have hml : (mp (dx a (a + 1) (k + 1)) l).length = l.length := g3 _ _
  refine an (ah (zz0 (aa rfl) (zz0 (aa rfl) (zz0 (ei rfl rfl) ?_))))
  refine zz0 (bT rfl rfl) (ad ?_)
  refine au rfl ?_ ?_ <;> intro h4 <;> try simp only [bs] at h4
  ·refine bC (an (aF (fy 5 15 aP ?_)))
   refine eh rfl ?_
   refine eh rfl ?_
   refine eh rfl ?_
   refine eh rfl ?_
   refine gh (fun _ => cB rfl rfl) (by rfl) rfl ?_
   refine bE ?_
   refine aw (aa rfl) (aw (aa rfl) (aw (cB rfl rfl) ?_))
   refine aw (jm rfl rfl aL ax) ?_
   refine aw (mg rfl aQ ax) ?_
   refine aw (aa rfl) (aw (aa rfl) (aw (zz7 rfl rfl aL ax) ?_))
   refine aw (mg rfl aQ ax) ?_
   refine aw (zz7 rfl rfl aL ax) ?_
   refine bH ?_
   refine fV (l := (mp (dx a (a + 1) (k + 1)) l)) (i := k) ((mp (dx a (a + 1) (k + 1)) l).getD (k + 1) default) rfl rfl ax ?_
   have hls5 : (List.set (mp (dx a (a + 1) (k + 1)) l) (k) ((mp (dx a (a + 1) (k + 1)) l).getD (k + 1) default)).length = ((mp (dx a (a + 1) (k + 1)) l)).length := List.length_set
   refine zz0 (jm rfl rfl aL ax) ?_
   refine fV (l := ((mp (dx a (a + 1) (k + 1)) l).set (k) ((mp (dx a (a + 1) (k + 1)) l).getD (k + 1) default))) (i := k + 1) ((mp (dx a (a + 1) (k + 1)) l).getD (k) default) rfl rfl ax ?_
   have hls6 : (List.set ((mp (dx a (a + 1) (k + 1)) l).set (k) ((mp (dx a (a + 1) (k + 1)) l).getD (k + 1) default)) (k + 1) ((mp (dx a (a + 1) (k + 1)) l).getD (k) default)).length = (((mp (dx a (a + 1) (k + 1)) l).set (k) ((mp (dx a (a + 1) (k + 1)) l).getD (k + 1) default))).length := List.length_set
   refine aD (aY (ac (ar (zz0 (aa rfl) (zz0 (cB rfl rfl) ?_)))))
   refine zz0 (ab rfl) (ad ?_)
   have hsw := A2 (l := (mp (dx a (a + 1) (k + 1)) l)) (p := k) (q := k + 1) (by omega) (by omega)
   rw [GK hk1 (by omega)] at hsw
   rw [hsw]
   refine cK (k + 1) (Front.c Front.nil) (zz8 24 rfl) (o := ⟨by omega, by omega⟩)
  refine bJ (aG (aG (bj (ac (aC (ay ?_))))))
  refine lk kg (fun w' hw => ?_)
  have hin := Dd hO (l := l) (a := a) (i := i) (b := b) (by rw [show a + 1 = md by omega]; exact h2s) hb (by omega) (by omega) (fun q x y => hi4 q (by omega) y) (fun q x y => hi5 q (by omega) y)
  obtain rfl : i = k + 1 := by omega
  exact ⟨rfl, _, ⟨hin.1, Fram.rot (Nat.le_refl _) (by omega) (by omega) (by omega), hin.2⟩, HpOK.mutOwn hw (.head _) rfl⟩
 refine bC (an (ah (zz0 (aa rfl) (zz0 (aa rfl) (zz0 (ei rfl rfl) ?_)))))
 refine zz0 (bA rfl rfl) (ad ?_)
 refine au rfl ?_ ?_ <;> intro h7 <;> try simp only [bs] at h7
 ·refine ah (zz0 (aa rfl) (zz0 (ab rfl) (aI (zz0 (aa rfl) (zz0 (ab rfl) (ad (an (aF ?_))))))))
  refine bL (ι := Nat × Nat) (fun ⟨i, j⟩ => a ≤ i ∧ i ≤ j ∧ j ≤ md ∧ (∀ q, a ≤ q → q < i → dF cmp (l.getD md default) (l.getD q default) = false) ∧ (∀ q, j ≤ q → q < md → dF cmp (l.getD md default) (l.getD q default) = true)) (fun _ => _) (fun ⟨i, j⟩ => [rowE V 36 aM l]) (fun ⟨i, j⟩ => [(14, .int .i64 (i : Nat)), (15, .int .i64 (j : Nat))]) (fun ⟨i, j⟩ => j - i) (a, md) ⟨Nat.le_refl _, by omega, Nat.le_refl _, fun q x y => by omega, fun q x y => by omega⟩ (Front.c (Front.c Front.nil)) (by repeat' constructor) rfl (fun i hi m hm => ?_)
  obtain ⟨i, j⟩ := i
  replace hi : a ≤ i ∧ i ≤ j ∧ j ≤ md ∧ (∀ q, a ≤ q → q < i → dF cmp (l.getD md default) (l.getD q default) = false) ∧ (∀ q, j ≤ q → q < md → dF cmp (l.getD md default) (l.getD q default) = true) := hi
  replace hm : m = j - i := hm
  change Tr _ _ [rowE V 36 aM l] ([(14, .int .i64 (i : Nat)), (15, .int .i64 (j : Nat))] ++ _) _
  obtain ⟨hi1, hi2, hi3, hi4, hi5⟩ := hi
  refine an (ah (zz0 (aa rfl) (zz0 (aa rfl) (zz0 (bT rfl rfl) (ad ?_)))))
  refine au rfl ?_ ?_ <;> intro h8 <;> try simp only [bs] at h8
  ·refine bC (aF (ah (zz0 (aa rfl) (zz0 (aa rfl) (zz0 (cB rfl rfl) ?_)))))
   refine zz0 (eW rfl ba dN (IntWalk.u64_in _ (by omega))) ?_
   refine zz0 (tt rfl rfl (by omega)) ?_
   refine zz0 (eW rfl dN ba (IntWalk.i64_in _ (by omega))) ?_
   refine zz0 (ab rfl) (ad (an ?_))
   obtain ⟨h, hhh⟩ : ∃ h, h = (i + j) / 2 := ⟨_, rfl⟩
   rw [show (((i : Nat) : Int) + ((j : Nat) : Int)) / 2 = ((h : Nat) : Int) by omega]
   refine gZ aP ?_
   refine aw (aa rfl) (aw (aa rfl) (aw (aa rfl) (aw (zz7 rfl rfl aL ax) ?_)))
   refine aw (mg rfl aQ ax) ?_
   refine aw (aa rfl) (aw (aa rfl) (aw (zz7 rfl rfl aL ax) ?_))
   refine aw (mg rfl aQ ax) ?_
   refine aw (hZ rfl rfl eg (fun w hw => hc _ _ w (hI _ _ _ hIw (HpOK.mutOwn hw (.head _) rfl).1 (HpOK.mutOwn hw (.head _) rfl).2))) ?_
   refine aw (bT rfl rfl) (aw (cP rfl) (bH ?_))
   refine ac ?_
   refine au rfl ?_ ?_ <;> intro h9 <;> try simp only [bs] at h9
   ·refine ar (zz0 (aa rfl) (zz0 (cB rfl rfl) ?_))
    refine zz0 (ab rfl) (aD (aY (ac ?_)))
    have hx : dF cmp (l.getD md default) (l.getD h default) = false := by simp only [dF, decide_eq_false_iff_not]; assumption
    have hn : ∀ q, a ≤ q → q < h + 1 → dF cmp (l.getD md default) (l.getD q default) = false := fun q x y => hO.ntr _ _ _ hx (h1s.le hO x (by omega) (by omega))
    refine cK (h + 1, j) (Front.c (Front.c Front.nil)) (zz8 27 rfl) (o := ⟨by omega, by omega, hi3, hn, hi5⟩)
   refine ar (zz0 (aa rfl) (zz0 (ab rfl) (aD (aY (ac ?_)))))
   have hx : dF cmp (l.getD md default) (l.getD h default) = true := by simp only [dF, decide_eq_true_eq]; assumption
   have hn : ∀ q, h ≤ q → q < md → dF cmp (l.getD md default) (l.getD q default) = true := fun q x y => hO.lt_le hx (h1s.le hO (by omega) x y)
   refine cK (i, h) (Front.c (Front.c Front.nil)) (zz8 26 rfl) (o := ⟨hi1, by omega, by omega, hi4, hn⟩)
  refine bJ (aG (aG (bj (ac (an (ah (zz0 (aa rfl) (zz0 (ab rfl) (ad (aF ?_))))))))))
  have e0 : mp (dx md md (md + 1)) l = l := qF (.inl rfl) (Nat.le_refl _) (by omega)
  refine gp e0.symm ?_
  refine bL (ι := Nat) (fun k => i ≤ k ∧ k ≤ md) (fun _ => _) (fun k => [rowE V 36 aM (mp (dx k md (md + 1)) l)]) (fun k => [(17, .int .i64 (k : Nat))]) (fun k => k) md ⟨by omega, Nat.le_refl _⟩ (Front.c Front.nil) (by repeat' constructor) rfl (fun k hi m hm => ?_)
  replace hi : i ≤ k ∧ k ≤ md := hi
  replace hm : m = k := hm
  change Tr _ _ [rowE V 36 aM (mp (dx k md (md + 1)) l)] ([(17, .int .i64 (k : Nat))] ++ _) _
  obtain ⟨hk1, hk2⟩ := hi
  have hml : (mp (dx k md (md + 1)) l).length = l.length := g3 _ _
  have ej : ((k : Int) - 1).toNat = k - 1 := by omega
  refine an (ah (zz0 (aa rfl) (zz0 (aa rfl) (zz0 (fg rfl rfl) (ad ?_)))))
  refine au rfl ?_ ?_ <;> intro h10 <;> try simp only [bs] at h10
  ·refine bC (an (aF (fy 5 15 aP ?_)))
   refine eh rfl ?_
   refine eh rfl ?_
   refine eh rfl ?_
   refine eh rfl ?_
   refine gh (fun _ => ei rfl rfl) (by rfl) rfl ?_
   refine bE ?_
   refine aw (aa rfl) (aw (aa rfl) (aw (ei rfl rfl) ?_))
   refine aw (jm rfl rfl aL ax) ?_
   refine aw (mg rfl aQ ax) ?_
   refine aw (aa rfl) (aw (aa rfl) (aw (zz7 rfl rfl aL ax) ?_))
   refine aw (mg rfl aQ ax) ?_
   refine aw (zz7 rfl rfl aL ax) ?_
   refine bH ?_
   refine fV (l := (mp (dx k md (md + 1)) l)) (i := k) ((mp (dx k md (md + 1)) l).getD (((k : Int) - 1).toNat) default) rfl rfl ax ?_
   have hls11 : (List.set (mp (dx k md (md + 1)) l) (k) ((mp (dx k md (md + 1)) l).getD (((k : Int) - 1).toNat) default)).length = ((mp (dx k md (md + 1)) l)).length := List.length_set
   refine zz0 (jm rfl rfl aL ax) ?_
   refine fV (l := ((mp (dx k md (md + 1)) l).set (k) ((mp (dx k md (md + 1)) l).getD (((k : Int) - 1).toNat) default))) (i := ((k : Int) - 1).toNat) ((mp (dx k md (md + 1)) l).getD (k) default) rfl rfl ax ?_
   have hls12 : (List.set ((mp (dx k md (md + 1)) l).set (k) ((mp (dx k md (md + 1)) l).getD (((k : Int) - 1).toNat) default)) (((k : Int) - 1).toNat) ((mp (dx k md (md + 1)) l).getD (k) default)).length = (((mp (dx k md (md + 1)) l).set (k) ((mp (dx k md (md + 1)) l).getD (((k : Int) - 1).toNat) default))).length := List.length_set
   refine aD (aY (ac (ar (zz0 (aa rfl) (zz0 (ei rfl rfl) ?_)))))
   refine zz0 (ab rfl) (ad ?_)
   have hsw := A2 (l := (mp (dx k md (md + 1)) l)) (p := k) (q := k - 1) (by omega) (by omega)
   rw [ya (by omega) hk2 (by omega)] at hsw
   rw [ej, hsw]
   refine cK (k - 1) (Front.c Front.nil) (zz8 23 rfl) (o := ⟨by omega, by omega⟩)
  refine bJ (aG (aG (bj (ac (aC (ay ?_))))))
  refine lk kg (fun w' hw => ?_)
  obtain rfl : i = k := by omega
  have hin := AS hO (l := l) (a := a) (i := md) (j := i) h1s (by omega) (by omega) (by omega) (fun q x y => hi5 q (by omega) y) (if q : i = a then .inl q else .inr (hi4 _ (by omega) (by omega)))
  obtain rfl : b = md + 1 := by omega
  exact ⟨rfl, _, ⟨hin.1, Fram.rot (by omega) (Nat.le_refl _) (by omega) (by omega), hin.2⟩, HpOK.mutOwn hw (.head _) rfl⟩
 refine dz (zz0 (aa rfl) (zz0 (aa rfl) (zz0 (cB rfl rfl) ?_)))
 refine zz0 (eW rfl ba dN (IntWalk.u64_in _ (by omega))) ?_
 refine zz0 (tt rfl rfl (by omega)) ?_
 refine zz0 (eW rfl dN ba (IntWalk.i64_in _ (by omega))) ?_
 refine zz0 (ab rfl) (ad (an ?_))
 obtain ⟨mid, hhmid⟩ : ∃ mid, mid = (a + b) / 2 := ⟨_, rfl⟩
 rw [show (((a : Nat) : Int) + ((b : Nat) : Int)) / 2 = ((mid : Nat) : Int) by omega]
 refine ar (zz0 (aa rfl) (zz0 (aa rfl) (zz0 (cB rfl rfl) ?_)))
 refine zz0 (ab rfl) (aI (zz0 (ab rfl) (zz0 (ab rfl) (ad ?_))))
 refine cZ (ι := Nat × Nat) (fun ⟨s0, r0⟩ => (mid < md ∧ s0 + b = mid + md ∧ r0 = mid) ∨ (md ≤ mid ∧ s0 = a ∧ r0 = md)) (fun _ => Bg.less w V) (fun ⟨s0, r0⟩ => [rowE V 36 aM l]) (fun ⟨s0, r0⟩ => [(20, .int .i64 (s0 : Nat)), (21, .int .i64 (r0 : Nat))]) ?_ (fun i hi => ?_)
 ·skip
  refine ah (zz0 (aa rfl) (zz0 (aa rfl) (zz0 (fg rfl rfl) (ad ?_))))
  refine au rfl ?_ ?_ <;> intro h13 <;> try simp only [bs] at h13
  ·refine ah (zz0 (aa rfl) (zz0 (aa rfl) (zz0 (ei rfl rfl) ?_)))
   refine zz0 (ab rfl) (ad (ar (zz0 (aa rfl) (zz0 (ab rfl) (ad ?_)))))
   refine co (mid + md - b, mid) (Front.c (Front.c Front.nil)) (zz8 9 rfl) (o := .inl ⟨by omega, by omega, rfl⟩)
  refine ah (zz0 (aa rfl) (zz0 (ab rfl) (ad (ar (zz0 (aa rfl) (zz0 (ab rfl) (ad ?_)))))))
  refine co (a, md) (Front.c (Front.c Front.nil)) (zz8 7 rfl) (o := .inr ⟨by omega, rfl, rfl⟩)
 obtain ⟨s0, r0⟩ := i
 replace hi : (mid < md ∧ s0 + b = mid + md ∧ r0 = mid) ∨ (md ≤ mid ∧ s0 = a ∧ r0 = md) := hi
 change Tr _ _ [rowE V 36 aM l] ([(20, .int .i64 (s0 : Nat)), (21, .int .i64 (r0 : Nat))] ++ _) _
 have hs0 : a ≤ s0 ∧ s0 ≤ r0 ∧ r0 ≤ md := by omega
 refine ah (zz0 (aa rfl) (zz0 (ei rfl rfl) ?_))
 refine zz0 (ab rfl) (ad (an (aF ?_)))
 refine bL (ι := Nat × Nat) (fun ⟨st, r⟩ => s0 ≤ st ∧ st ≤ r ∧ r ≤ r0 ∧ (st = s0 ∨ dF cmp (l.getD (mid + md - st) default) (l.getD (st - 1) default) = false) ∧ (r = r0 ∨ dF cmp (l.getD (mid + md - 1 - r) default) (l.getD r default) = true)) (fun _ => _) (fun ⟨st, r⟩ => [rowE V 36 aM l]) (fun ⟨st, r⟩ => [(20, .int .i64 (st : Nat)), (21, .int .i64 (r : Nat))]) (fun ⟨st, r⟩ => r - st) (s0, r0) ⟨Nat.le_refl _, by omega, Nat.le_refl _, .inl rfl, .inl rfl⟩ (Front.c (Front.c Front.nil)) (by repeat' constructor) rfl (fun i hi m hm => ?_)
 obtain ⟨st, r⟩ := i
 replace hi : s0 ≤ st ∧ st ≤ r ∧ r ≤ r0 ∧ (st = s0 ∨ dF cmp (l.getD (mid + md - st) default) (l.getD (st - 1) default) = false) ∧ (r = r0 ∨ dF cmp (l.getD (mid + md - 1 - r) default) (l.getD r default) = true) := hi
 replace hm : m = r - st := hm
 change Tr _ _ [rowE V 36 aM l] ([(20, .int .i64 (st : Nat)), (21, .int .i64 (r : Nat))] ++ _) _
 obtain ⟨hi1, hi2, hi3, hi4, hi5⟩ := hi
 refine an (ah (zz0 (aa rfl) (zz0 (aa rfl) (zz0 (bT rfl rfl) (ad ?_)))))
 refine au rfl ?_ ?_ <;> intro h14 <;> try simp only [bs] at h14
 ·refine bC (aF (ah (zz0 (aa rfl) (zz0 (aa rfl) (zz0 (cB rfl rfl) ?_)))))
  refine zz0 (eW rfl ba dN (IntWalk.u64_in _ (by omega))) ?_
  refine zz0 (tt rfl rfl (by omega)) ?_
  refine zz0 (eW rfl dN ba (IntWalk.i64_in _ (by omega))) ?_
  refine zz0 (ab rfl) (ad (an ?_))
  obtain ⟨c, hhc⟩ : ∃ c, c = (st + r) / 2 := ⟨_, rfl⟩
  rw [show (((st : Nat) : Int) + ((r : Nat) : Int)) / 2 = ((c : Nat) : Int) by omega]
  refine gZ aP ?_
  refine aw (aa rfl) (aw (aa rfl) (aw (aa rfl) (aw (aa rfl) (aw (ei rfl rfl) ?_))))
  refine aw (jm rfl rfl aL ax) ?_
  refine aw (mg rfl aQ ax) ?_
  refine aw (aa rfl) (aw (aa rfl) (aw (zz7 rfl rfl aL ax) ?_))
  refine aw (mg rfl aQ ax) ?_
  refine aw (hZ rfl rfl eg (fun w hw => hc _ _ w (hI _ _ _ hIw (HpOK.mutOwn hw (.head _) rfl).1 (HpOK.mutOwn hw (.head _) rfl).2))) ?_
  refine aw (bT rfl rfl) (aw (cP rfl) (bH ?_))
  refine ac ?_
  refine au rfl ?_ ?_ <;> intro h15 <;> try simp only [bs] at h15
  ·refine ar (zz0 (aa rfl) (zz0 (cB rfl rfl) ?_))
   refine zz0 (ab rfl) (aD (aY (ac ?_)))
   have ec : ((((mid : Nat) : Int) + ((md : Nat) : Int)) - 1 - ((c : Nat) : Int)).toNat = mid + md - 1 - c := by omega
   have hx : dF cmp (l.getD (mid + md - 1 - c) default) (l.getD c default) = false := by rw [← ec]; simp only [dF, decide_eq_false_iff_not]; assumption
   refine cK (c + 1, r) (Front.c (Front.c Front.nil)) (zz8 29 rfl) (o := ⟨by omega, by omega, hi3, .inr (by rw [show mid + md - (c + 1) = mid + md - 1 - c by omega]; exact hx), hi5⟩)
  refine ar (zz0 (aa rfl) (zz0 (ab rfl) (aD (aY (ac ?_)))))
  have ec : ((((mid : Nat) : Int) + ((md : Nat) : Int)) - 1 - ((c : Nat) : Int)).toNat = mid + md - 1 - c := by omega
  have hx : dF cmp (l.getD (mid + md - 1 - c) default) (l.getD c default) = true := by rw [← ec]; simp only [dF, decide_eq_true_eq]; assumption
  refine cK (st, c) (Front.c (Front.c Front.nil)) (zz8 28 rfl) (o := ⟨hi1, by omega, by omega, hi4, .inr hx⟩)
 refine bJ (aG (aG (bj (ac (ah (zz0 (aa rfl) (zz0 (aa rfl) (zz0 (ei rfl rfl) ?_))))))))
 refine zz0 (ab rfl) (ad ?_)
 obtain rfl : r = st := by omega
 obtain ⟨e, he⟩ : ∃ e, e = mid + md - r := ⟨_, rfl⟩
 rw [show (((mid : Nat) : Int) + ((md : Nat) : Int)) - ((r : Nat) : Int) = ((e : Nat) : Int) by omega]
 have hme : md ≤ e := by omega
 have heb : e ≤ b := by omega
 have hmm : mid = r + (e - md) := by omega
 have hd : r = md ∨ md = e ∨ dF cmp (l.getD (e - 1) default) (l.getD r default) = true := by
  rcases hi5 with q | q
  ·omega
  ·exact .inr (.inr (by rw [show e - 1 = mid + md - 1 - r by omega]; exact q))
 have hg : r = a ∨ e = b ∨ dF cmp (l.getD e default) (l.getD (r - 1) default) = false := by
  rcases hi4 with q | q
  ·omega
  ·exact .inr (.inr (by rw [he]; exact q))
 have hf := Ea hO h1s h2s hb (by omega) (by omega) hme heb hmm hd hg
 have hml : (mp (dx r md e) l).length = l.length := g3 _ _
 refine cZ (ι := Unit) (fun _u => True) (fun _ => Bg.less w V) (fun _u => [rowE V 36 aM (mp (dx r md e) l)]) (fun _u => []) ?_ (fun _u hi => ?_)
 ·skip
  refine ah (zz0 (aa rfl) (zz0 (aa rfl) (zz0 (bT rfl rfl) (zz0 (aa rfl) ?_))))
  apply cH
  ·exact (rfl : _ = (4, 181, 185))
  ·exact rfl
  ·intro hT16; have hT16' := hT16
   try simp only [bs] at hT16'
   refine zz6 hT16 (aa rfl) (zz6 hT16 (aa rfl) (zz6 hT16 (bT rfl rfl) (zz0 (aV rfl hT16 rfl) ?_)))
   refine aD (ac ?_)
   exact aK (Sub.cons rfl (bD 4 rfl))
  ·intro hF16
   refine zz9 hF16 (zz9 hF16 (zz9 hF16 (zz0 (aU rfl hF16 rfl) ?_)))
   refine aD (ac ?_)
   exact aK (Sub.cons rfl (bD 4 rfl))
  refine ad ?_
  refine au rfl ?_ ?_ <;> intro h17 <;> try simp only [bs] at h17
  ·refine ar (zz0 (aa rfl) (zz0 (aa rfl) (zz0 (aa rfl) (zz0 (aa rfl) (zz0 (aa rfl) (dW rfl Tryz.call263 (by repeat constructor) (fun w hw => zG l V r md e _ _ _ (by omega) (by omega) (by omega) _ w (hw.ent _ (.head _)) hl (by omega) (by omega) (by omega)) rfl ?_))))))
   refine ad ?_
   refine co () Front.nil (zz8 11 rfl) (o := trivial)
  refine bC (gp (l' := mp (dx r md e) l) (qF (by omega) (by omega) (by omega)).symm ?_)
  refine co () Front.nil (zz8 5 rfl) (o := trivial)
 skip
 replace hi : True := hi
 change Tr _ _ [rowE V 36 aM (mp (dx r md e) l)] ([] ++ _) _
 refine cZ (ι := List Ins) (fun c2 => Half (dF cmp) l c2 a mid mid e b) (fun _ => Bg.less w V) (fun c2 => [rowE V 36 aM c2]) (fun c2 => []) ?_ (fun c2 hi => ?_)
 ·skip
  refine ah (zz0 (aa rfl) (zz0 (aa rfl) (zz0 (bT rfl rfl) (zz0 (aa rfl) ?_))))
  apply cH
  ·exact (rfl : _ = (4, 195, 199))
  ·exact rfl
  ·intro hT18; have hT18' := hT18
   try simp only [bs] at hT18'
   refine zz6 hT18 (aa rfl) (zz6 hT18 (aa rfl) (zz6 hT18 (bT rfl rfl) (zz0 (aV rfl hT18 rfl) ?_)))
   refine aD (ac ?_)
   exact aK (Sub.cons rfl (bD 4 rfl))
  ·intro hF18
   refine zz9 hF18 (zz9 hF18 (zz9 hF18 (zz0 (aU rfl hF18 rfl) ?_)))
   refine aD (ac ?_)
   exact aK (Sub.cons rfl (bD 4 rfl))
  refine ad ?_
  refine au rfl ?_ ?_ <;> intro h19 <;> try simp only [bs] at h19
  ·refine ar (zz0 (aa rfl) (zz0 (aa rfl) (zz0 (aa rfl) (zz0 (aa rfl) (zz0 (aa rfl) ?_)))))
   refine gI (fun c => Stab (dF cmp) (mp (dx r md e) l) c ∧ Fram a mid (mp (dx r md e) l) c ∧ Srt (dF cmp) c a mid) rfl nM (fun w hw => ih (mid - a) (by omega) (mp (dx r md e) l) a r mid _ _ _ w (by omega) (by omega) (by omega) (Nat.le_refl _) (by omega) (by omega) (by omega) (by omega) hf.s1 hf.s2 (hI _ _ _ hIw (HpOK.mutOwn hw (.head _) rfl).1 (HpOK.mutOwn hw (.head _) rfl).2) (hw.ent _ (.head _))) rfl (fun c2 hc2 => ?_)
   refine ad ?_
   refine co c2 Front.nil (zz8 11 rfl) (o := hf.left hb (by omega) (by omega) hc2.1 hc2.2.1 hc2.2.2)
  refine bC ?_
  refine co _ Front.nil (zz8 5 rfl) (o := hf.left0 (by omega) (by omega) (by omega))
 skip
 replace hi : Half (dF cmp) l c2 a mid mid e b := hi
 change Tr _ _ [rowE V 36 aM c2] ([] ++ _) _
 have hl2 := hi.fr.1
 refine ah (zz0 (aa rfl) (zz0 (aa rfl) (zz0 (bT rfl rfl) (zz0 (aa rfl) ?_))))
 apply cH
 ·exact (rfl : _ = (4, 209, 213))
 ·exact rfl
 ·intro hT20; have hT20' := hT20
  try simp only [bs] at hT20'
  refine zz6 hT20 (aa rfl) (zz6 hT20 (aa rfl) (zz6 hT20 (bT rfl rfl) (zz0 (aV rfl hT20 rfl) ?_)))
  refine aD (ac ?_)
  exact aK (Sub.cons rfl (bD 4 rfl))
 ·intro hF20
  refine zz9 hF20 (zz9 hF20 (zz9 hF20 (zz0 (aU rfl hF20 rfl) ?_)))
  refine aD (ac ?_)
  exact aK (Sub.cons rfl (bD 4 rfl))
 refine ad ?_
 refine au rfl ?_ ?_ <;> intro h21 <;> try simp only [bs] at h21
 ·refine ar (zz0 (aa rfl) (zz0 (aa rfl) (zz0 (aa rfl) (zz0 (aa rfl) (zz0 (aa rfl) ?_)))))
  refine gI (fun c => Stab (dF cmp) c2 c ∧ Fram mid b c2 c ∧ Srt (dF cmp) c mid b) rfl nM (fun w hw => ih (b - mid) (by omega) c2 mid e b _ _ _ w (by omega) (by omega) (by omega) (Nat.le_refl _) (by omega) (by omega) (by omega) (by omega) hi.s3 hi.s4 (hI _ _ _ hIw (HpOK.mutOwn hw (.head _) rfl).1 (HpOK.mutOwn hw (.head _) rfl).2) (hw.ent _ (.head _))) rfl (fun c3 hc3 => ?_)
  refine aD ?_
  refine fc kg (fun w' hw => ?_)
  exact ⟨rfl, c3, hi.right hb (by omega) (by omega) hc3.1 hc3.2.1 hc3.2.2, HpOK.mutOwn hw (.head _) rfl⟩
 refine cd ?_
 refine fc kg (fun w' hw => ?_)
 exact ⟨rfl, c2, hi.right0 (by omega) (by omega) (by omega), HpOK.mutOwn hw (.head _) rfl⟩
theorem qu (V : Value) (g : FuncId) (cb : List Value) (cmp : Ins → Ins → Int) (I : World → Prop) (hI : ∀ w w' l', I w → Mut w w' V → (rowE V 36 aM l').holds w' → I w') (eg : ∀ args w, (callFunc g args).run Tryz.prog w = .ok (.enter g args) w) (hc : ∀ x y w', I w' → Calls Tryz.prog g ([Value.agg (aM.enc x).toArray, Value.agg (aM.enc y).toArray] ++ cb).toArray w' fun e w'' => e = .returned (.int .i64 (cmp x y)) ∧ Ext w' w'') (hO : WO (dF cmp)) : ∀ n, Bt g cb cmp I V n := by
 intro n
 induction n using Nat.strongRecOn with
 | ind n ih =>
  intro l a md b ai mdi bi w ea emd eb hn ham hmb hb hl h1s h2s hIw hr
  exact BL l V a md b ai mdi bi ea emd eb g cb cmp I hI eg hc hO w hIw hr hl (fun k hk => ih k (by omega)) ham hmb hb h1s h2s
theorem yD {l : List Ins} {k : Nat} (h : l.length ≤ k) : l.getD k default = default := by simp [List.getD_eq_getElem?_getD, List.getElem?_eq_none h]
theorem zC (l : List Ins) (V : Value) (n : Nat) (ni : Int) (en : ni = ((n : Nat) : Int)) (g : FuncId) (cb : List Value) (cmp : Ins → Ins → Int) (I : World → Prop) (hI : ∀ w w' l', I w → Mut w w' V → (rowE V 36 aM l').holds w' → I w') (eg : ∀ args w, (callFunc g args).run Tryz.prog w = .ok (.enter g args) w) (hc : ∀ x y w', I w' → Calls Tryz.prog g ([Value.agg (aM.enc x).toArray, Value.agg (aM.enc y).toArray] ++ cb).toArray w' fun e w'' => e = .returned (.int .i64 (cmp x y)) ∧ Ext w' w'') (hO : WO (dF cmp)) (w : World) (hIw : I w) (hr : (rowE V 36 aM l).holds w) (hl : l.length ≤ 1000000) (hn : n = l.length) :
  Calls Tryz.prog 146 #[V, .int .i64 ni, .func (.func g) #[] cb.toArray] w (xP cmp V l 0 n w) := by
 subst en
 refine fw (l := l) (E := aM) (T := 36) hr Tryz.func146 rfl Tryz.ntmps146 rfl ?_
 refine ah (zz0 (ab rfl) (aI (zz0 (aa rfl) (zz0 (ab rfl) (zz0 (ab rfl) (ad (an (aF ?_))))))))
 refine bL (ι := Nat × List Ins) (fun ⟨t, cur⟩ => t * 20 ≤ n ∧ Stab (dF cmp) l cur ∧ Blk (dF cmp) cur 20 (t * 20)) (fun _ => _) (fun ⟨t, cur⟩ => [rowE V 36 aM cur]) (fun ⟨t, cur⟩ => [(7, .int .i64 ((t * 20 : Nat) : Int)), (8, .int .i64 ((t * 20 + 20 : Nat) : Int))]) (fun ⟨t, cur⟩ => n - t * 20) (0, l) ⟨by omega, .refl _ _, fun t p q a1 a2 a3 a4 => by omega⟩ (Front.c (Front.c Front.nil)) (by repeat' constructor) rfl (fun i hi m hm => ?_)
 obtain ⟨t, cur⟩ := i
 replace hi : t * 20 ≤ n ∧ Stab (dF cmp) l cur ∧ Blk (dF cmp) cur 20 (t * 20) := hi
 replace hm : m = n - t * 20 := hm
 change Tr _ _ [rowE V 36 aM cur] ([(7, .int .i64 ((t * 20 : Nat) : Int)), (8, .int .i64 ((t * 20 + 20 : Nat) : Int))] ++ _) _
 obtain ⟨ht1, ht2, ht3⟩ := hi
 have hcl := ht2.len
 refine an (ah (zz0 (aa rfl) (zz0 (aa rfl) (zz0 (fX rfl rfl) (ad ?_)))))
 refine au rfl ?_ ?_ <;> intro h1 <;> try simp only [bs] at h1
 ·refine bC (aF (ah (zz0 (aa rfl) (zz0 (aa rfl) (zz0 (aa rfl) (zz0 (aa rfl) ?_))))))
  refine gI (fun c => Stab (dF cmp) cur c ∧ Fram (t * 20) (t * 20 + 20) cur c ∧ Srt (dF cmp) c (t * 20) (t * 20 + 20)) rfl Tryz.call199 (fun w hw => pH cur V (t * 20) (t * 20 + 20) _ _ (by omega) (by omega) g cb cmp I hI eg hc hO w (hI _ _ _ hIw (HpOK.mutOwn hw (.head _) rfl).1 (HpOK.mutOwn hw (.head _) rfl).2) (hw.ent _ (.head _)) (by omega) (by omega) (by omega)) rfl (fun c2 hc2 => ?_)
  refine aI (zz0 (aa rfl) (zz0 (ab rfl) (ad (ar (zz0 (aa rfl) (zz0 (aa rfl) (zz0 (cB rfl rfl) ?_)))))))
  refine zz0 (ab rfl) (aD (aY (ac ?_)))
  have hcl2 := hc2.1.len
  have hb2 : Blk (dF cmp) c2 20 ((t + 1) * 20) := by rw [show (t + 1) * 20 = t * 20 + 20 by omega]; exact tp ht3 hc2.2.1 hc2.2.2 (by omega)
  refine cK (t + 1, c2) (Front.c (Front.c Front.nil)) (zz8 16 rfl) (o := ⟨by omega, ht2.trans hc2.1, hb2⟩)
 refine bJ (aG (aG (bj (ac (ah (zz0 (aa rfl) (zz0 (aa rfl) (zz0 (aa rfl) (zz0 (aa rfl) ?_)))))))))
 refine gI (fun c => Stab (dF cmp) cur c ∧ Fram (t * 20) n cur c ∧ Srt (dF cmp) c (t * 20) n) rfl Tryz.call199 (fun w hw => pH cur V (t * 20) n _ _ (by omega) (by omega) g cb cmp I hI eg hc hO w (hI _ _ _ hIw (HpOK.mutOwn hw (.head _) rfl).1 (HpOK.mutOwn hw (.head _) rfl).2) (hw.ent _ (.head _)) (by omega) (by omega) (by omega)) rfl (fun c3 hc3 => ?_)
 refine ad (aF ?_)
 have hcl3 := hc3.1.len
 have hb3 : Blk (dF cmp) c3 20 n := tp ht3 hc3.2.1 hc3.2.2 (by omega)
 have hst3 := ht2.trans hc3.1
 clear hc3 ht3 ht2
 refine bL (ι := Nat × Int × Int × List Ins) (fun ⟨bz, xa, xb, cur⟩ => 1 ≤ bz ∧ bz ≤ 2 * n + 20 ∧ Stab (dF cmp) l cur ∧ Blk (dF cmp) cur bz n) (fun _ => _) (fun ⟨bz, xa, xb, cur⟩ => [rowE V 36 aM cur]) (fun ⟨bz, xa, xb, cur⟩ => [(6, .int .i64 (bz : Nat)), (7, .int .i64 xa), (8, .int .i64 xb)]) (fun ⟨bz, xa, xb, cur⟩ => n - bz) (20, _, _, c3) ⟨by omega, by omega, hst3, hb3⟩ (Front.c (Front.c (Front.c Front.nil))) (by repeat' constructor) rfl (fun i hi m hm => ?_)
 obtain ⟨bz, xa, xb, cur⟩ := i
 replace hi : 1 ≤ bz ∧ bz ≤ 2 * n + 20 ∧ Stab (dF cmp) l cur ∧ Blk (dF cmp) cur bz n := hi
 replace hm : m = n - bz := hm
 change Tr _ _ [rowE V 36 aM cur] ([(6, .int .i64 (bz : Nat)), (7, .int .i64 xa), (8, .int .i64 xb)] ++ _) _
 obtain ⟨hb1, hb2, hb4, hb5⟩ := hi
 have hcl4 := hb4.len
 refine an (ah (zz0 (aa rfl) (zz0 (aa rfl) (zz0 (bT rfl rfl) (ad ?_)))))
 refine au rfl ?_ ?_ <;> intro h2 <;> try simp only [bs] at h2
 ·refine bC (aF (ah (zz0 (aa rfl) (zz0 (ko rfl rfl (by omega)) ?_))))
  refine zz0 (ab rfl) (zz0 (ab rfl) (ad (an (aF ?_))))
  refine bL (ι := Nat × Nat × List Ins) (fun ⟨t, x, c4⟩ => x = t * (2 * bz) ∧ x ≤ n ∧ Stab (dF cmp) l c4 ∧ Mix (dF cmp) c4 bz x n) (fun _ => _) (fun ⟨t, x, c4⟩ => [rowE V 36 aM c4]) (fun ⟨t, x, c4⟩ => [(7, .int .i64 (x : Nat)), (8, .int .i64 ((x + 2 * bz : Nat) : Int))]) (fun ⟨t, x, c4⟩ => n - x) (0, 0, cur) ⟨by omega, by omega, hb4, HH hb5⟩ (Front.c (Front.c Front.nil)) (by repeat' constructor) rfl (fun i hi m hm => ?_)
  obtain ⟨t, x, c4⟩ := i
  replace hi : x = t * (2 * bz) ∧ x ≤ n ∧ Stab (dF cmp) l c4 ∧ Mix (dF cmp) c4 bz x n := hi
  replace hm : m = n - x := hm
  change Tr _ _ [rowE V 36 aM c4] ([(7, .int .i64 (x : Nat)), (8, .int .i64 ((x + 2 * bz : Nat) : Int))] ++ _) _
  obtain ⟨ht1, ht2, ht3, ht4⟩ := hi
  have hcl5 := ht3.len
  refine an (ah (zz0 (aa rfl) (zz0 (aa rfl) (zz0 (fX rfl rfl) (ad ?_)))))
  refine au rfl ?_ ?_ <;> intro h3 <;> try simp only [bs] at h3
  ·refine bC (aF (an ?_))
   have hs1 : Srt (dF cmp) c4 x (x + bz) := by subst ht1; exact ud ht4 (Nat.le_refl _) (by omega)
   have hs2 : Srt (dF cmp) c4 (x + bz) (x + 2 * bz) := by subst ht1; exact vw ht4 (Nat.le_refl _) (by omega)
   refine ar (zz0 (aa rfl) (zz0 (aa rfl) (zz0 (aa rfl) (zz0 (aa rfl) (zz0 (cB rfl rfl) ?_)))))
   refine zz0 (aa rfl) (zz0 (aa rfl) ?_)
   refine gI (fun c => Stab (dF cmp) c4 c ∧ Fram x (x + 2 * bz) c4 c ∧ Srt (dF cmp) c x (x + 2 * bz)) rfl nM (fun w hw => qu V g cb cmp I hI eg hc hO _ c4 x (x + bz) (x + 2 * bz) _ _ _ w (by omega) (by omega) (by omega) (Nat.le_refl _) (by omega) (by omega) (by omega) (by omega) hs1 hs2 (hI _ _ _ hIw (HpOK.mutOwn hw (.head _) rfl).1 (HpOK.mutOwn hw (.head _) rfl).2) (hw.ent _ (.head _))) rfl (fun c5 hc5 => ?_)
   refine aI (zz0 (aa rfl) (zz0 (ab rfl) (ad (ar (zz0 (aa rfl) (zz0 (aa rfl) (zz0 (ko rfl rfl (by omega)) ?_)))))))
   refine zz0 (cB rfl rfl) ?_
   refine zz0 (ab rfl) (aD (aY (ac ?_)))
   have hm2 : Mix (dF cmp) c5 bz (x + 2 * bz) n := by
    have f := hc5.2.1
    have so := hc5.2.2
    subst ht1
    exact DY ht4 f so (Nat.le_refl _) (by omega)
   refine cK (t + 1, x + 2 * bz, c5) (Front.c (Front.c Front.nil)) (zz8 20 rfl) (o := ⟨by rw [Nat.add_mul, ht1]; omega, by omega, ht3.trans hc5.1, hm2⟩)
  refine bJ (aG (aG (bj (ac ?_))))
  refine cZ (ι := List Ins) (fun c6 => Stab (dF cmp) l c6 ∧ Blk (dF cmp) c6 (2 * bz) n) (fun _ => Bg.less w V) (fun c6 => [rowE V 36 aM c6]) (fun c6 => []) ?_ (fun c6 hi => ?_)
  ·skip
   refine ah (zz0 (aa rfl) (zz0 (aa rfl) (zz0 (cB rfl rfl) ?_)))
   refine zz0 (ab rfl) (aI (zz0 (aa rfl) (zz0 (aa rfl) (zz0 (bT rfl rfl) (ad ?_)))))
   refine au rfl ?_ ?_ <;> intro h4 <;> try simp only [bs] at h4
   ·have hs1 : Srt (dF cmp) c4 x (x + bz) := by subst ht1; exact ud ht4 (Nat.le_refl _) (by omega)
    have hs2 : Srt (dF cmp) c4 (x + bz) n := by subst ht1; exact vw ht4 (by omega) (Nat.le_refl _)
    refine ar (zz0 (aa rfl) (zz0 (aa rfl) (zz0 (aa rfl) (zz0 (aa rfl) (zz0 (aa rfl) ?_)))))
    refine gI (fun c => Stab (dF cmp) c4 c ∧ Fram x n c4 c ∧ Srt (dF cmp) c x n) rfl nM (fun w hw => qu V g cb cmp I hI eg hc hO _ c4 x (x + bz) n _ _ _ w (by omega) (by omega) (by omega) (Nat.le_refl _) (by omega) (by omega) (by omega) (by omega) hs1 hs2 (hI _ _ _ hIw (HpOK.mutOwn hw (.head _) rfl).1 (HpOK.mutOwn hw (.head _) rfl).2) (hw.ent _ (.head _))) rfl (fun c5 hc5 => ?_)
    refine ad ?_
    have hm2 : Blk (dF cmp) c5 (2 * bz) n := by
     have f := hc5.2.1
     have so := hc5.2.2
     subst ht1
     exact tp ht4.1 f so (by rw [Nat.add_mul]; omega)
    refine co c5 Front.nil (zz8 13 rfl) (o := ⟨ht3.trans hc5.1, hm2⟩)
   refine bC ?_
   have hm2 : Blk (dF cmp) c4 (2 * bz) n := by
    subst ht1
    exact FB ht4 (by omega)
   refine co c4 Front.nil (zz8 7 rfl) (o := ⟨ht3, hm2⟩)
  skip
  replace hi : Stab (dF cmp) l c6 ∧ Blk (dF cmp) c6 (2 * bz) n := hi
  change Tr _ _ [rowE V 36 aM c6] ([] ++ _) _
  refine ar (zz0 (aa rfl) (zz0 (ko rfl rfl (by omega)) ?_))
  refine zz0 (ab rfl) (aD (aY (ac ?_)))
  refine cK (2 * bz, _, _, c6) (Front.c (Front.c (Front.c Front.nil))) (zz8 18 rfl) (o := ⟨by omega, by omega, hi.1, hi.2⟩)
 refine bJ (aG (aG (bj ?_)))
 refine fc Tryz.results146 (fun w' hw => ?_)
 exact ⟨rfl, cur, ⟨hb4, ⟨hb4.len, fun k hk => by rw [yD (by omega), yD (by omega)]⟩, hb5.all (by omega)⟩, HpOK.mutOwn hw (.head _) rfl⟩
theorem ou (l : List Ins) (V : Value) (g : FuncId) (cb : List Value) (cmp : Ins → Ins → Int) (I : World → Prop) (hI : ∀ w w' l', I w → Mut w w' V → (rowE V 36 aM l').holds w' → I w') (eg : ∀ args w, (callFunc g args).run Tryz.prog w = .ok (.enter g args) w) (hc : ∀ x y w', I w' → Calls Tryz.prog g ([Value.agg (aM.enc x).toArray, Value.agg (aM.enc y).toArray] ++ cb).toArray w' fun e w'' => e = .returned (.int .i64 (cmp x y)) ∧ Ext w' w'') (hO : WO (dF cmp)) (w : World) (hIw : I w) (hr : (rowE V 36 aM l).holds w) (hl : l.length ≤ 1000000) :
  Calls Tryz.prog 78 #[V, .func (.func g) #[] cb.toArray] w (xP cmp V l 0 l.length w) := by
 refine fw (l := l) (E := aM) (T := 36) hr Tryz.func78 rfl Tryz.ntmps78 rfl ?_
 refine ar (zz0 (aa rfl) (zz0 (aa rfl) (zz0 (lQ rfl aL) ?_)))
 refine zz0 (aa rfl) ?_
 refine gI (fun c => Stab (dF cmp) l c ∧ Fram 0 l.length l c ∧ Srt (dF cmp) c 0 l.length) rfl Tryz.call146 (fun w hw => zC l V l.length _ rfl g cb cmp I hI eg hc hO w (hI _ _ _ hIw (HpOK.mutOwn hw (.head _) rfl).1 (HpOK.mutOwn hw (.head _) rfl).2) (hw.ent _ (.head _)) hl rfl) rfl (fun c2 hc2 => ?_)
 refine aD ?_
 refine fc Tryz.results78 (fun w' hw => ?_)
 exact ⟨rfl, c2, hc2, HpOK.mutOwn hw (.head _) rfl⟩
end Go.Proofs.YtiajjbhcpeadfaaGreat
namespace Go.Proofs
open Go.Shelf
def Tryz.sortIns_ren : Go.Shelf.Ren := ⟨fun | 6 => 82 | 15 => 150 | 14 => 149 | 28 => 208 | 29 => 209 | 20 => 199 | 21 => 201 | 22 => 202 | 23 => 203 | 24 => 204 | 25 => 205 | 26 => 206 | 27 => 207 | 46 => 264 | 47 => 265 | 48 => 266 | 49 => 267 | 50 => 268 | 57 => 297 | n => n, fun | 22 => 50 | 24 => 36 | 25 => 156 | 3 => 3 | 39 => 191 | 0 => 0 | 53 => 23 | 55 => 43 | 4 => 4 | 46 => 261 | 45 => 260 | 50 => 229 | 5 => 5 | 9 => 9 | 66 => 292 | 70 => 296 | 76 => 316 | 77 => 317 | n => n, fun | n => n⟩
theorem Tryz.sortIns : Go.Proofs.SlLaysF0.n6 Tryz.prog Tryz.sortIns_ren := {
 mixed := by kernel_rfl
 f6 := ⟨Tryz.f82.name, by decide, Tryz.func82.trans (congrArg some (by kernel_rfl))⟩
 f14 := ⟨Tryz.f149.name, by decide, Tryz.func149.trans (congrArg some (by kernel_rfl))⟩
 f15 := Tryz.func150.trans (congrArg some (by kernel_rfl))
 f20 := ⟨Tryz.f199.name, by decide, Tryz.func199.trans (congrArg some (by kernel_rfl))⟩
 f21 := ⟨Tryz.f201.name, by decide, Tryz.func201.trans (congrArg some (by kernel_rfl))⟩
 f22 := ⟨Tryz.f202.name, by decide, Tryz.func202.trans (congrArg some (by kernel_rfl))⟩
 f23 := ⟨Tryz.f203.name, by decide, Tryz.func203.trans (congrArg some (by kernel_rfl))⟩
 f24 := ⟨Tryz.f204.name, by decide, Tryz.func204.trans (congrArg some (by kernel_rfl))⟩
 f25 := ⟨Tryz.f205.name, by decide, Tryz.func205.trans (congrArg some (by kernel_rfl))⟩
 f26 := ⟨Tryz.f206.name, by decide, Tryz.func206.trans (congrArg some (by kernel_rfl))⟩
 f27 := ⟨Tryz.f207.name, by decide, Tryz.func207.trans (congrArg some (by kernel_rfl))⟩
 f28 := Tryz.func208.trans (congrArg some (by kernel_rfl))
 f29 := Tryz.func209.trans (congrArg some (by kernel_rfl))
 f46 := ⟨Tryz.f264.name, by decide, Tryz.func264.trans (congrArg some (by kernel_rfl))⟩
 f47 := Tryz.func265.trans (congrArg some (by kernel_rfl))
 f48 := Tryz.func266.trans (congrArg some (by kernel_rfl))
 f49 := ⟨Tryz.f267.name, by decide, Tryz.func267.trans (congrArg some (by kernel_rfl))⟩
 f50 := ⟨Tryz.f268.name, by decide, Tryz.func268.trans (congrArg some (by kernel_rfl))⟩
 f57 := ⟨Tryz.f297.name, by decide, Tryz.func297.trans (congrArg some (by kernel_rfl))⟩
 t0 := Tryz.underlying0
 a0 := Tryz.isAgg0
 z0 := Tryz.sizeOf0
 v0 := Tryz.zeroValue0
 t3 := Tryz.underlying3
 a3 := Tryz.isAgg3
 z3 := Tryz.sizeOf3
 v3 := Tryz.zeroValue3
 t4 := Tryz.underlying4
 a4 := Tryz.isAgg4
 z4 := Tryz.sizeOf4
 v4 := Tryz.zeroValue4
 t5 := Tryz.underlying5
 a5 := Tryz.isAgg5
 z5 := Tryz.sizeOf5
 v5 := Tryz.zeroValue5
 t9 := Tryz.underlying9
 a9 := Tryz.isAgg9
 z9 := Tryz.sizeOf9
 v9 := Tryz.zeroValue9
 t22 := Tryz.underlying50
 a22 := Tryz.isAgg50
 z22 := Tryz.sizeOf50
 v22 := Tryz.zeroValue50
 t25 := Tryz.underlying156
 a25 := Tryz.isAgg156
 z25 := Tryz.sizeOf156
 v25 := Tryz.zeroValue156
 t39 := Tryz.underlying191
 a39 := Tryz.isAgg191
 z39 := Tryz.sizeOf191
 v39 := Tryz.zeroValue191
 t45 := Tryz.underlying260
 a45 := Tryz.isAgg260
 z45 := Tryz.sizeOf260
 v45 := Tryz.zeroValue260
 t46 := Tryz.underlying261
 a46 := Tryz.isAgg261
 z46 := Tryz.sizeOf261
 v46 := Tryz.zeroValue261
 t50 := Tryz.underlying229
 a50 := Tryz.isAgg229
 z50 := Tryz.sizeOf229
 v50 := Tryz.zeroValue229
 t53 := Tryz.underlying23
 a53 := Tryz.isAgg23
 z53 := Tryz.sizeOf23
 v53 := Tryz.zeroValue23
 t55 := Tryz.underlying43
 a55 := Tryz.isAgg43
 z55 := Tryz.sizeOf43
 v55 := Tryz.zeroValue43
 t66 := Tryz.underlying292
 a66 := Tryz.isAgg292
 z66 := Tryz.sizeOf292
 v66 := Tryz.zeroValue292
 t70 := Tryz.underlying296
 a70 := Tryz.isAgg296
 z70 := Tryz.sizeOf296
 v70 := Tryz.zeroValue296
 t76 := Tryz.underlying316
 a76 := Tryz.isAgg316
 z76 := Tryz.sizeOf316
 v76 := Tryz.zeroValue316
 t77 := Tryz.underlying317
 a77 := Tryz.isAgg317
 z77 := Tryz.sizeOf317
 v77 := Tryz.zeroValue317 }
end Go.Proofs
