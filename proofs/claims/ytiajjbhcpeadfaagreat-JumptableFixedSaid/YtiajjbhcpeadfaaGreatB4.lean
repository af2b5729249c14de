/- Own rules and walks, part 4. -/
import Derived.Test.YtiajjbhcpeadfaaGreatB3
set_option linter.unusedSimpArgs false
set_option linter.unusedVariables false
set_option linter.unusedSectionVars false
set_option maxRecDepth 100000
set_option maxHeartbeats 16000000
namespace Go.HL
section
variable {α : Type} [Inhabited α]
structure WO (lt : α → α → Bool) : Prop where
 irr : ∀ x, lt x x = false
 tr : ∀ x y z, lt x y = true → lt y z = true → lt x z = true
 ntr : ∀ x y z, lt x y = false → lt y z = false → lt x z = false
theorem WO.asym {lt : α → α → Bool} (h : WO lt) {x y : α} (e : lt x y = true) : lt y x = false := by
 cases e2 : lt y x
 ·rfl
 ·have := h.tr _ _ _ e e2; rw [h.irr] at this; cases this
theorem WO.lt_le {lt : α → α → Bool} (h : WO lt) {x y z : α} (e : lt x y = true) (e2 : lt z y = false) : lt x z = true := by
 cases e3 : lt x z
 ·rw [h.ntr _ _ _ e3 e2] at e; cases e
 ·rfl
theorem WO.le_lt {lt : α → α → Bool} (h : WO lt) {x y z : α} (e : lt y x = false) (e2 : lt y z = true) : lt x z = true := by
 cases e3 : lt x z
 ·rw [h.ntr _ _ _ e e3] at e2; cases e2
 ·rfl
def eqv (lt : α → α → Bool) (z x : α) : Bool := !lt z x && !lt x z
def Stab (lt : α → α → Bool) (l l' : List α) : Prop := l.Perm l' ∧ ∀ z, l.filter (eqv lt z) = l'.filter (eqv lt z)
theorem Stab.refl (lt : α → α → Bool) (l : List α) : Stab lt l l := ⟨.refl _, fun _ => rfl⟩
theorem Stab.trans {lt : α → α → Bool} {a b c : List α} (h : Stab lt a b) (k : Stab lt b c) : Stab lt a c := ⟨h.1.trans k.1, fun z => (h.2 z).trans (k.2 z)⟩
theorem Stab.len {lt : α → α → Bool} {a b : List α} (h : Stab lt a b) : b.length = a.length := h.1.length_eq.symm
theorem Stab.symm {lt : α → α → Bool} {a b : List α} (h : Stab lt a b) : Stab lt b a := ⟨h.1.symm, fun z => (h.2 z).symm⟩
theorem vM {lt : α → α → Bool} (h : WO lt) {X Y : List α} (hc : ∀ x ∈ X, ∀ y ∈ Y, lt y x = true) (z : α) : X.filter (eqv lt z) = [] ∨ Y.filter (eqv lt z) = [] := by
 cases hX : X.filter (eqv lt z) with
 | nil => exact .inl rfl
 | cons x t =>
  refine .inr ?_
  rw [List.filter_eq_nil_iff]
  intro y hy he
  have hx : x ∈ X.filter (eqv lt z) := by rw [hX]; exact .head _
  obtain ⟨hx1, hx2⟩ := List.mem_filter.1 hx
  simp only [eqv, Bool.and_eq_true, Bool.not_eq_true'] at he hx2
  have := hc x hx1 y hy
  rw [h.ntr _ _ _ he.2 hx2.1] at this
  cases this
theorem Stab.swap {lt : α → α → Bool} (h : WO lt) (P X Y S : List α) (hc : ∀ x ∈ X, ∀ y ∈ Y, lt y x = true) : Stab lt (P ++ (X ++ (Y ++ S))) (P ++ (Y ++ (X ++ S))) := by
 refine ⟨List.Perm.append_left _ (by rw [← List.append_assoc, ← List.append_assoc]; exact List.perm_append_comm.append_right _), fun z => ?_⟩
 simp only [List.filter_append]
 rcases vM h hc z with e | e <;> rw [e] <;> simp
theorem rU {lt : α → α → Bool} (h : WO lt) : ∀ (l l' : List α), Stab lt l l' → l.Pairwise (fun x y => lt y x = false) → l'.Pairwise (fun x y => lt y x = false) → l = l'
 | [], l', s, _, _ => by have := s.len; simp at this; exact this.symm
 | x :: t, [], s, _, _ => by have := s.len; simp at this
 | x :: t, y :: t', s, h1, h2 => by
  rw [List.pairwise_cons] at h1 h2
  have hxy : lt x y = false := by
   have : x ∈ y :: t' := s.1.subset (.head _)
   rcases List.mem_cons.1 this with rfl | hm
   ·exact h.irr _
   ·exact h2.1 _ hm
  have hyx : lt y x = false := by
   have : y ∈ x :: t := s.1.symm.subset (.head _)
   rcases List.mem_cons.1 this with rfl | hm
   ·exact h.irr _
   ·exact h1.1 _ hm
  have ex : x = y := by
   have := s.2 x
   rw [List.filter_cons_of_pos (by simp [eqv, h.irr]), List.filter_cons_of_pos (by simp [eqv, hxy, hyx])] at this
   exact (List.cons.inj this).1
  subst ex
  have st : Stab lt t t' := ⟨(List.perm_cons x).1 s.1, fun z => by
   have := s.2 z
   simp only [List.filter_cons] at this
   split at this
   ·exact (List.cons.inj this).2
   ·exact this⟩
  rw [rU h t t' st h1.2 h2.2]
def mp (f : Nat → Nat) (l : List α) : List α := (List.range l.length).map fun k => l.getD (f k) default
theorem g7 (f : Nat → Nat) (l : List α) : (mp f l).length = l.length := by simp [mp]
theorem iy {f : Nat → Nat} {l : List α} {k : Nat} (h : k < l.length) : (mp f l).getD k default = l.getD (f k) default := by
 simp [mp, List.getD_eq_getElem?_getD, h]
theorem pD {l l' : List α} (h : l.length = l'.length) (e : ∀ k, k < l.length → l.getD k default = l'.getD k default) : l = l' := by
 refine List.ext_getElem h fun k h1 h2 => ?_
 have := e k h1
 simpa [List.getD_eq_getElem?_getD, h1, h2] using this
theorem HM {f : Nat → Nat} {l : List α} (h : ∀ k, k < l.length → f k = k) : mp f l = l :=
 pD (g7 _ _) fun k hk => by rw [g7] at hk; rw [iy hk, h k hk]
theorem zm {f g k : Nat → Nat} {l : List α} (h : ∀ x, x < l.length → f x < l.length) (e : ∀ x, x < l.length → g (f x) = k x) : mp f (mp g l) = mp k l :=
 pD (by simp [g7]) fun x hx => by
  rw [g7, g7] at hx
  rw [iy (by rw [g7]; exact hx), iy (h x hx), iy hx, e x hx]
theorem EV {f g : Nat → Nat} {l : List α} (e : ∀ x, x < l.length → f x = g x) : mp f l = mp g l :=
 pD (by simp [g7]) fun x hx => by rw [g7] at hx; rw [iy hx, iy hx, e x hx]
def swF (p q k : Nat) : Nat := if k = p then q else if k = q then p else k
def swR (a b n k : Nat) : Nat := if a ≤ k ∧ k < a + n then k - a + b else if b ≤ k ∧ k < b + n then k - b + a else k
def dB (lo m hi k : Nat) : Nat := if lo ≤ k ∧ k < lo + (hi - m) then k + (m - lo) else if lo + (hi - m) ≤ k ∧ k < hi then k - (hi - m) else k
theorem rT (p q k : Nat) : (k = p ∧ swF p q k = q) ∨ (k ≠ p ∧ k = q ∧ swF p q k = p) ∨ (k ≠ p ∧ k ≠ q ∧ swF p q k = k) := by simp only [swF]; grind
theorem nf (a b n k : Nat) : (a ≤ k ∧ k < a + n ∧ swR a b n k = k - a + b) ∨ (¬ (a ≤ k ∧ k < a + n) ∧ b ≤ k ∧ k < b + n ∧ swR a b n k = k - b + a) ∨ (¬ (a ≤ k ∧ k < a + n) ∧ ¬ (b ≤ k ∧ k < b + n) ∧ swR a b n k = k) := by simp only [swR]; grind
theorem fL (lo m hi k : Nat) : (lo ≤ k ∧ k < lo + (hi - m) ∧ dB lo m hi k = k + (m - lo)) ∨ (¬ (lo ≤ k ∧ k < lo + (hi - m)) ∧ lo + (hi - m) ≤ k ∧ k < hi ∧ dB lo m hi k = k - (hi - m)) ∨ (¬ (lo ≤ k ∧ k < lo + (hi - m)) ∧ ¬ (lo + (hi - m) ≤ k ∧ k < hi) ∧ dB lo m hi k = k) := by simp only [dB]; grind
theorem Cb {l : List α} {p q : Nat} (hp : p < l.length) (hq : q < l.length) : (l.set p (l.getD q default)).set q (l.getD p default) = mp (swF p q) l :=
 pD (by simp [g7]) fun k hk => by
  have hk' : k < l.length := by simpa using hk
  rw [iy hk']
  simp only [List.getD_eq_getElem?_getD, List.getElem?_set, List.length_set, swF]
  grind
theorem IN {a b : Nat} {l : List α} : mp (swR a b 0) l = l := HM fun k _ => by simp only [swR]; split <;> (try split) <;> omega
theorem El {a b n i : Nat} {l : List α} (h1 : a + n ≤ b) (h2 : b + n ≤ l.length) (hi : i < n) : mp (swF (a + i) (b + i)) (mp (swR a b i) l) = mp (swR a b (i + 1)) l :=
 zm (fun x hx => by simp only [swF]; split <;> (try split) <;> omega) fun x hx => by
  have h3 := rT (a + i) (b + i) x
  have h4 := nf a b i (swF (a + i) (b + i) x)
  have h5 := nf a b (i + 1) x
  omega
theorem B5 {lo m hi k n : Nat} (h1 : lo ≤ m) (h2 : m ≤ hi) (h3 : hi ≤ n) (h : k < n) : dB lo m hi k < n := by simp only [dB]; split <;> (try split) <;> omega
theorem H3 {m i j : Nat} {l : List α} (h1 : i ≤ m) (h2 : m + j ≤ l.length) (h : j < i) : mp (dB (m - (i - j)) m (m + j)) (mp (swR (m - i) m j) l) = mp (dB (m - i) m (m + j)) l :=
 zm (fun x hx => B5 (by omega) (by omega) h2 hx) fun x hx => by
  have h3 := fL (m - (i - j)) m (m + j) x
  have h4 := nf (m - i) m j (dB (m - (i - j)) m (m + j) x)
  have h5 := fL (m - i) m (m + j) x
  omega
theorem H2 {m i j : Nat} {l : List α} (h1 : i ≤ m) (h2 : m + j ≤ l.length) (h : i < j) : mp (dB (m - i) m (m + (j - i))) (mp (swR (m - i) (m + j - i) i) l) = mp (dB (m - i) m (m + j)) l :=
 zm (fun x hx => B5 (by omega) (by omega) (by omega) hx) fun x hx => by
  have h3 := fL (m - i) m (m + (j - i)) x
  have h4 := nf (m - i) (m + j - i) i (dB (m - i) m (m + (j - i)) x)
  have h5 := fL (m - i) m (m + j) x
  omega
theorem H4 {m i : Nat} {l : List α} (h1 : i ≤ m) : mp (swR (m - i) m i) l = mp (dB (m - i) m (m + i)) l :=
 EV fun x hx => by
  have h4 := nf (m - i) m i x
  have h5 := fL (m - i) m (m + i) x
  omega
theorem zc {l : List α} {i j : Nat} (h : 0 < j) (hj : j ≤ i) (hi : i < l.length) : mp (swF j (j - 1)) (mp (dB j i (i + 1)) l) = mp (dB (j - 1) i (i + 1)) l :=
 zm (fun x hx => by simp only [swF]; split <;> (try split) <;> omega) fun x hx => by
  have h3 := rT j (j - 1) x
  have h4 := fL j i (i + 1) (swF j (j - 1) x)
  have h5 := fL (j - 1) i (i + 1) x
  omega
theorem HZ {l : List α} {a k : Nat} (h : a ≤ k) (hk : k + 1 < l.length) : mp (swF k (k + 1)) (mp (dB a (a + 1) (k + 1)) l) = mp (dB a (a + 1) (k + 2)) l :=
 zm (fun x hx => by simp only [swF]; split <;> (try split) <;> omega) fun x hx => by
  have h3 := rT k (k + 1) x
  have h4 := fL a (a + 1) (k + 1) (swF k (k + 1) x)
  have h5 := fL a (a + 1) (k + 2) x
  omega
theorem q7 {l : List α} {a m b : Nat} (h : a = m ∨ m = b) (h1 : a ≤ m) (h2 : m ≤ b) : mp (dB a m b) l = l := HM fun k _ => by have := fL a m b k; omega
theorem Ey {l : List α} {a m b : Nat} (h1 : a ≤ m) (h2 : m ≤ b) (h3 : b ≤ l.length) :
  mp (dB a m b) l = l.take a ++ ((l.take b).drop m ++ ((l.take m).drop a ++ l.drop b)) := by
 refine pD (by simp [g7]; omega) fun k hk => ?_
 rw [g7] at hk
 rw [iy hk]
 simp only [List.getD_eq_getElem?_getD, List.getElem?_append, List.length_take, List.length_drop, List.getElem?_take, List.getElem?_drop, dB]
 congr 1
 grind
theorem qy {l : List α} {a m b : Nat} (h1 : a ≤ m) (h2 : m ≤ b) (h3 : b ≤ l.length) :
  l = l.take a ++ ((l.take m).drop a ++ ((l.take b).drop m ++ l.drop b)) := by
 refine pD (by simp; omega) fun k hk => ?_
 simp only [List.getD_eq_getElem?_getD, List.getElem?_append, List.length_take, List.length_drop, List.getElem?_take, List.getElem?_drop]
 congr 1
 grind
theorem xN {l : List α} {a b : Nat} {x : α} (h : x ∈ (l.take b).drop a) : ∃ k, a ≤ k ∧ k < b ∧ k < l.length ∧ x = l.getD k default := by
 obtain ⟨i, hi⟩ := List.mem_iff_getElem?.1 h
 rw [List.getElem?_drop, List.getElem?_take] at hi
 split at hi
 ·refine ⟨a + i, by omega, by omega, (List.getElem?_eq_some_iff.1 hi).1, by simp [List.getD_eq_getElem?_getD, hi]⟩
 ·cases hi
theorem Gx {l : List α} {a b k : Nat} (h1 : a ≤ k) (h2 : k < b) (h3 : k < l.length) : l.getD k default ∈ (l.take b).drop a := by
 refine List.mem_iff_getElem?.2 ⟨k - a, ?_⟩
 rw [List.getElem?_drop, List.getElem?_take, if_pos (by omega), show a + (k - a) = k by omega]
 simp [List.getD_eq_getElem?_getD, h3]
theorem Stab.rot {lt : α → α → Bool} (h : WO lt) {l : List α} {a m b : Nat} (h1 : a ≤ m) (h2 : m ≤ b) (h3 : b ≤ l.length)
  (hc : ∀ x y, a ≤ x → x < m → m ≤ y → y < b → lt (l.getD y default) (l.getD x default) = true) : Stab lt l (mp (dB a m b) l) := by
 rw [Ey h1 h2 h3]
 conv => lhs; rw [qy h1 h2 h3]
 refine Stab.swap h _ _ _ _ fun x hx y hy => ?_
 obtain ⟨i, a1, a2, a3, rfl⟩ := xN hx
 obtain ⟨j, b1, b2, b3, rfl⟩ := xN hy
 exact hc i j a1 a2 b1 b2
def Fram (a b : Nat) (l l' : List α) : Prop := l'.length = l.length ∧ ∀ k, k < a ∨ b ≤ k → l'.getD k default = l.getD k default
theorem Fram.refl (a b : Nat) (l : List α) : Fram a b l l := ⟨rfl, fun _ _ => rfl⟩
theorem Fram.trans {a b : Nat} {l m n : List α} (h : Fram a b l m) (k : Fram a b m n) : Fram a b l n := ⟨k.1.trans h.1, fun x hx => (k.2 x hx).trans (h.2 x hx)⟩
theorem Fram.mono {a b c d : Nat} {l m : List α} (h : Fram a b l m) (h1 : c ≤ a) (h2 : b ≤ d) : Fram c d l m := ⟨h.1, fun x hx => h.2 x (by omega)⟩
theorem Fram.rot {a b s m e : Nat} {l : List α} (h1 : a ≤ s) (h2 : e ≤ b) (h3 : s ≤ m) (h4 : m ≤ e) : Fram a b l (mp (dB s m e) l) :=
 ⟨g7 _ _, fun k hk => by
  by_cases h : k < l.length
  ·rw [iy h, show dB s m e k = k by have := fL s m e k; omega]
  ·have e1 := List.getElem?_eq_none (l := mp (dB s m e) l) (i := k) (by rw [g7]; omega)
   have e2 := List.getElem?_eq_none (l := l) (i := k) (by omega)
   rw [List.getD_eq_getElem?_getD, List.getD_eq_getElem?_getD, e1, e2]⟩
theorem Ea {lt : α → α → Bool} {l l' : List α} {a b k : Nat} (s : Stab lt l l') (f : Fram a b l l') (hb : b ≤ l.length) (h1 : a ≤ k) (h2 : k < b) : ∃ j, a ≤ j ∧ j < b ∧ l'.getD k default = l.getD j default := by
 have hl := f.1
 have e1 : l'.take a = l.take a := pD (by simp [hl]) fun x hx => by
  have hx' : x < a := by simp at hx; omega
  have := f.2 x (.inl hx')
  simpa [List.getD_eq_getElem?_getD, List.getElem?_take, hx'] using this
 have e2 : l'.drop b = l.drop b := pD (by simp [hl]) fun x hx => by
  have := f.2 (b + x) (.inr (by omega))
  simpa [List.getD_eq_getElem?_getD, List.getElem?_drop] using this
 have p1 := s.1
 rw [qy (l := l) (a := a) (m := b) (b := b) (by omega) (Nat.le_refl _) hb, qy (l := l') (a := a) (m := b) (b := b) (by omega) (Nat.le_refl _) (by omega), e1, e2] at p1
 have p2 := (List.perm_append_left_iff _).1 p1
 have e3 : ∀ x : List α, (x.take b).drop b = [] := fun x => by simp
 rw [e3, e3, List.nil_append] at p2
 have p3 := (List.perm_append_right_iff _).1 p2
 obtain ⟨j, a1, a2, a3, a4⟩ := xN (p3.symm.subset (Gx (l := l') h1 h2 (by omega)))
 exact ⟨j, a1, a2, a4⟩
def Srt (lt : α → α → Bool) (l : List α) (a b : Nat) : Prop := ∀ p q, a ≤ p → p < q → q < b → lt (l.getD q default) (l.getD p default) = false
theorem Srt.sub {lt : α → α → Bool} {l : List α} {a b c d : Nat} (h : Srt lt l a b) (h1 : a ≤ c) (h2 : d ≤ b) : Srt lt l c d := fun p q x y z => h p q (by omega) y (by omega)
theorem Srt.one {lt : α → α → Bool} {l : List α} {a b : Nat} (h : b ≤ a + 1) : Srt lt l a b := fun p q x y z => by omega
theorem Srt.fram {lt : α → α → Bool} {l l' : List α} {a b c d : Nat} (h : Srt lt l a b) (f : Fram c d l l') (hd : b ≤ c ∨ d ≤ a) : Srt lt l' a b := fun p q x y z => by
 rw [f.2 p (by omega), f.2 q (by omega)]; exact h p q x y z
theorem Srt.all {lt : α → α → Bool} {l : List α} (h : Srt lt l 0 l.length) : l.Pairwise fun x y => lt y x = false := by
 rw [List.pairwise_iff_getElem]
 intro i j hi hj hij
 have := h i j (Nat.zero_le _) hij hj
 simpa [List.getD_eq_getElem?_getD, hi, hj] using this
theorem Srt.le {lt : α → α → Bool} (h : WO lt) {l : List α} {a b p q : Nat} (s : Srt lt l a b) (h1 : a ≤ p) (h2 : p ≤ q) (h3 : q < b) : lt (l.getD q default) (l.getD p default) = false := by
 rcases Nat.eq_or_lt_of_le h2 with rfl | h2
 ·exact h.irr _
 ·exact s p q h1 h2 h3
theorem Srt.glue {lt : α → α → Bool} {l : List α} {a m b : Nat} (h1 : Srt lt l a m) (h2 : Srt lt l m b) (hc : ∀ p q, a ≤ p → p < m → m ≤ q → q < b → lt (l.getD q default) (l.getD p default) = false) : Srt lt l a b := fun p q x y z => by
 by_cases hq : q < m
 ·exact h1 p q x y hq
 ·by_cases hp : p < m
  ·exact hc p q x hp (by omega) z
  ·exact h2 p q (by omega) y z
theorem BZ {lt : α → α → Bool} (h : WO lt) {l : List α} {a i j : Nat} (hs : Srt lt l a i) (hi : i < l.length) (h1 : a ≤ j) (h2 : j ≤ i) (hA : ∀ q, j ≤ q → q < i → lt (l.getD i default) (l.getD q default) = true)
  (hB : j = a ∨ lt (l.getD i default) (l.getD (j - 1) default) = false) : Stab lt l (mp (dB j i (i + 1)) l) ∧ Srt lt (mp (dB j i (i + 1)) l) a (i + 1) := by
 refine ⟨Stab.rot h h2 (by omega) (by omega) fun x y a1 a2 a3 a4 => by rw [show y = i by omega]; exact hA x a1 a2, fun p q a1 a2 a3 => ?_⟩
 rw [iy (by omega), iy (by omega)]
 have hlow : ∀ p, a ≤ p → p < j → lt (l.getD i default) (l.getD p default) = false := fun p b1 b2 => by
  rcases hB with rfl | hB
  ·omega
  ·exact h.ntr _ _ _ hB (hs.le h b1 (by omega) (by omega))
 have fp : ∀ k, k ≤ i → dB j i (i + 1) k = if k < j then k else if k = j then i else k - 1 := fun k hk => by simp only [dB]; grind
 rw [fp p (by omega), fp q (by omega)]
 by_cases c1 : q < j
 ·rw [if_pos c1, if_pos (by omega)]; exact hs _ _ a1 a2 (by omega)
 ·rw [if_neg c1]
  by_cases c2 : q = j
  ·rw [if_pos c2, if_pos (by omega)]; exact hlow p a1 (by omega)
  ·rw [if_neg c2]
   by_cases c3 : p < j
   ·rw [if_pos c3]; exact hs _ _ a1 (by omega) (by omega)
   ·rw [if_neg c3]
    by_cases c4 : p = j
    ·rw [if_pos c4]; exact h.asym (hA _ (by omega) (by omega))
    ·rw [if_neg c4]; exact hs _ _ (by omega) (by omega) (by omega)
theorem En {lt : α → α → Bool} (h : WO lt) {l : List α} {a i b : Nat} (hs : Srt lt l (a + 1) b) (hb : b ≤ l.length) (h1 : a + 1 ≤ i) (h2 : i ≤ b) (hA : ∀ q, a + 1 ≤ q → q < i → lt (l.getD q default) (l.getD a default) = true)
  (hB : ∀ q, i ≤ q → q < b → lt (l.getD q default) (l.getD a default) = false) : Stab lt l (mp (dB a (a + 1) i) l) ∧ Srt lt (mp (dB a (a + 1) i) l) a b := by
 refine ⟨Stab.rot h (by omega) h1 (by omega) fun x y a1 a2 a3 a4 => by rw [show x = a by omega]; exact hA y a3 a4, fun p q a1 a2 a3 => ?_⟩
 rw [iy (by omega), iy (by omega)]
 have fp : ∀ k, a ≤ k → dB a (a + 1) i k = if k + 1 < i then k + 1 else if k + 1 = i then a else k := fun k hk => by simp only [dB]; grind
 rw [fp p (by omega), fp q (by omega)]
 by_cases c1 : q + 1 < i
 ·rw [if_pos c1, if_pos (by omega)]; exact hs _ _ (by omega) (by omega) (by omega)
 ·rw [if_neg c1]
  by_cases c2 : q + 1 = i
  ·rw [if_pos c2, if_pos (by omega)]; exact h.asym (hA _ (by omega) (by omega))
  ·rw [if_neg c2]
   by_cases c3 : p + 1 < i
   ·rw [if_pos c3]; exact hs _ _ (by omega) (by omega) (by omega)
   ·rw [if_neg c3]
    by_cases c4 : p + 1 = i
    ·rw [if_pos c4]; exact hB _ (by omega) (by omega)
    ·rw [if_neg c4]; exact hs _ _ (by omega) (by omega) (by omega)
structure Half (lt : α → α → Bool) (l cur : List α) (a s mid e b : Nat) : Prop where
 st : Stab lt l cur
 fr : Fram a b l cur
 cr : ∀ p q, a ≤ p → p < mid → mid ≤ q → q < b → lt (cur.getD q default) (cur.getD p default) = false
 s1 : Srt lt cur a s
 s2 : Srt lt cur s mid
 s3 : Srt lt cur mid e
 s4 : Srt lt cur e b
theorem E8 {lt : α → α → Bool} (h : WO lt) {l : List α} {a m b s mid e : Nat} (h1 : Srt lt l a m) (h2 : Srt lt l m b) (hb : b ≤ l.length) (ha : a ≤ s) (hs : s ≤ m) (he : m ≤ e) (hbb : e ≤ b) (hm : mid = s + (e - m))
  (hd : s = m ∨ m = e ∨ lt (l.getD (e - 1) default) (l.getD s default) = true) (hg : s = a ∨ e = b ∨ lt (l.getD e default) (l.getD (s - 1) default) = false) : Half lt l (mp (dB s m e) l) a s mid e b := by
 have c1 : ∀ x y, s ≤ x → x < m → m ≤ y → y < e → lt (l.getD y default) (l.getD x default) = true := fun x y a1 a2 a3 a4 => by
  rcases hd with hd | hd | hd
  ·omega
  ·omega
  ·exact h.le_lt (h2.le h (by omega) (show y ≤ e - 1 by omega) (by omega)) (h.lt_le hd (h1.le h (by omega) a1 (by omega)))
 have c2 : ∀ x y, a ≤ x → x < s → e ≤ y → y < b → lt (l.getD y default) (l.getD x default) = false := fun x y a1 a2 a3 a4 => by
  rcases hg with hg | hg | hg
  ·omega
  ·omega
  ·exact h.ntr _ _ _ (h2.le h (by omega) a3 (by omega)) (h.ntr _ _ _ hg (h1.le h a1 (by omega) (by omega)))
 have fp : ∀ k, dB s m e k = if s ≤ k ∧ k < mid then k + (m - s) else if mid ≤ k ∧ k < e then k - (e - m) else k := fun k => by subst hm; rfl
 have fl : ∀ k, k < b → k < l.length := fun k hk => by omega
 refine ⟨Stab.rot h hs he (by omega) c1, Fram.rot ha hbb hs he, fun p q a1 a2 a3 a4 => ?_, fun p q a1 a2 a3 => ?_, fun p q a1 a2 a3 => ?_, fun p q a1 a2 a3 => ?_, fun p q a1 a2 a3 => ?_⟩
 ·rw [iy (by omega), iy (by omega), fp, fp, if_neg (c := s ≤ q ∧ q < mid) (by omega)]
  by_cases d1 : q < e
  ·rw [if_pos (c := mid ≤ q ∧ q < e) ⟨a3, d1⟩]
   by_cases d2 : p < s
   ·rw [if_neg (by omega), if_neg (by omega)]; exact h1 _ _ a1 (by omega) (by omega)
   ·rw [if_pos (by omega)]; exact h.asym (c1 _ _ (by omega) (by omega) (by omega) (by omega))
  ·rw [if_neg (c := mid ≤ q ∧ q < e) (by omega)]
   by_cases d2 : p < s
   ·rw [if_neg (by omega), if_neg (by omega)]; exact c2 _ _ a1 d2 (by omega) a4
   ·rw [if_pos (by omega)]; exact h2 _ _ (by omega) (by omega) a4
 ·rw [iy (by omega), iy (by omega), fp, fp, if_neg (by omega), if_neg (by omega), if_neg (by omega), if_neg (by omega)]; exact h1 _ _ a1 a2 (by omega)
 ·rw [iy (by omega), iy (by omega), fp, fp, if_pos (by omega), if_pos (by omega)]; exact h2 _ _ (by omega) (by omega) (by omega)
 ·rw [iy (by omega), iy (by omega), fp, fp, if_neg (by omega), if_pos (by omega), if_neg (by omega), if_pos (by omega)]; exact h1 _ _ (by omega) (by omega) (by omega)
 ·rw [iy (by omega), iy (by omega), fp, fp, if_neg (by omega), if_neg (by omega), if_neg (by omega), if_neg (by omega)]; exact h2 _ _ (by omega) a2 a3
theorem Half.left {lt : α → α → Bool} {l c1 c2 : List α} {a s mid e b : Nat} (h : Half lt l c1 a s mid e b) (hb : b ≤ l.length) (hm : mid ≤ e) (hmb : e ≤ b) (st : Stab lt c1 c2) (fr : Fram a mid c1 c2) (so : Srt lt c2 a mid) : Half lt l c2 a mid mid e b := by
 have hl := h.fr.1
 refine ⟨h.st.trans st, h.fr.trans (fr.mono (Nat.le_refl _) (by omega)), fun p q a1 a2 a3 a4 => ?_, so, .one (by omega), h.s3.fram fr (.inr (Nat.le_refl _)), h.s4.fram fr (.inr hm)⟩
 obtain ⟨j, b1, b2, b3⟩ := Ea st fr (by omega) a1 a2
 rw [b3, fr.2 q (.inr a3)]
 exact h.cr _ _ b1 b2 a3 a4
theorem Half.left0 {lt : α → α → Bool} {l c1 : List α} {a s mid e b : Nat} (h : Half lt l c1 a s mid e b) (hn : ¬ (a < s ∧ s < mid)) (ha : a ≤ s) (hs : s ≤ mid) : Half lt l c1 a mid mid e b := by
 refine ⟨h.st, h.fr, h.cr, ?_, .one (by omega), h.s3, h.s4⟩
 by_cases c : a = s
 ·rw [c]; exact h.s2
 ·rw [show mid = s by omega]; exact h.s1
theorem Half.right {lt : α → α → Bool} {l c2 c3 : List α} {a mid e b : Nat} (h : Half lt l c2 a mid mid e b) (hb : b ≤ l.length) (ha : a ≤ mid) (hm : mid ≤ b) (st : Stab lt c2 c3) (fr : Fram mid b c2 c3) (so : Srt lt c3 mid b) : Stab lt l c3 ∧ Fram a b l c3 ∧ Srt lt c3 a b := by
 have hl := h.fr.1
 refine ⟨h.st.trans st, h.fr.trans (fr.mono ha (Nat.le_refl _)), (h.s1.fram fr (.inl (Nat.le_refl _))).glue so fun p q a1 a2 a3 a4 => ?_⟩
 obtain ⟨j, b1, b2, b3⟩ := Ea st fr (by omega) a3 a4
 rw [b3, fr.2 p (.inl a2)]
 exact h.cr _ _ a1 a2 b1 b2
theorem Half.right0 {lt : α → α → Bool} {l c2 : List α} {a mid e b : Nat} (h : Half lt l c2 a mid mid e b) (hn : ¬ (mid < e ∧ e < b)) (hm : mid ≤ e) (hb : e ≤ b) : Stab lt l c2 ∧ Fram a b l c2 ∧ Srt lt c2 a b := by
 refine ⟨h.st, h.fr, h.s1.glue ?_ h.cr⟩
 by_cases c : mid = e
 ·rw [c]; exact h.s4
 ·rw [show b = e by omega]; exact h.s3
def Blk (lt : α → α → Bool) (l : List α) (bs n : Nat) : Prop := ∀ t p q, t * bs ≤ p → p < q → q < (t + 1) * bs → q < n → lt (l.getD q default) (l.getD p default) = false
theorem Blk.all {lt : α → α → Bool} {l : List α} {bs n : Nat} (h : Blk lt l bs n) (hn : n ≤ bs) : Srt lt l 0 n := fun p q a1 a2 a3 => h 0 p q (by omega) a2 (by omega) a3
theorem t6 {lt : α → α → Bool} {l l' : List α} {bs t0 b : Nat} (h : Blk lt l bs (t0 * bs)) (f : Fram (t0 * bs) b l l') (s : Srt lt l' (t0 * bs) b) (hb : b ≤ (t0 + 1) * bs) : Blk lt l' bs b := fun t p q a1 a2 a3 a4 => by
 by_cases c : q < t0 * bs
 ·rw [f.2 p (by omega), f.2 q (by omega)]; exact h t p q a1 a2 a3 c
 ·have e1 : t * bs < (t0 + 1) * bs := by omega
  have e2 : t0 * bs < (t + 1) * bs := by omega
  have e3 := Nat.lt_of_mul_lt_mul_right e1
  have e4 := Nat.lt_of_mul_lt_mul_right e2
  obtain rfl : t = t0 := by omega
  exact s p q a1 a2 a4
def Mix (lt : α → α → Bool) (l : List α) (bs a n : Nat) : Prop := Blk lt l (2 * bs) a ∧ ∀ t p q, t * bs ≤ p → p < q → q < (t + 1) * bs → a ≤ p → q < n → lt (l.getD q default) (l.getD p default) = false
theorem IV {lt : α → α → Bool} {l : List α} {bs n : Nat} (h : Blk lt l bs n) : Mix lt l bs 0 n := ⟨fun t p q a1 a2 a3 a4 => by omega, fun t p q a1 a2 a3 _ a5 => h t p q a1 a2 a3 a5⟩
theorem uO {lt : α → α → Bool} {l : List α} {bs n t0 m : Nat} (h : Mix lt l bs (t0 * (2 * bs)) n) (hm : m ≤ t0 * (2 * bs) + bs) (hn : m ≤ n) : Srt lt l (t0 * (2 * bs)) m := fun p q a1 a2 a3 => by
 have e : 2 * t0 * bs = t0 * (2 * bs) := by rw [Nat.mul_comm 2 t0, Nat.mul_assoc]
 refine h.2 (2 * t0) p q (by omega) a2 (by rw [Nat.add_mul]; omega) a1 (by omega)
theorem wt {lt : α → α → Bool} {l : List α} {bs n t0 b : Nat} (h : Mix lt l bs (t0 * (2 * bs)) n) (hm : b ≤ t0 * (2 * bs) + 2 * bs) (hn : b ≤ n) : Srt lt l (t0 * (2 * bs) + bs) b := fun p q a1 a2 a3 => by
 have e : 2 * t0 * bs = t0 * (2 * bs) := by rw [Nat.mul_comm 2 t0, Nat.mul_assoc]
 refine h.2 (2 * t0 + 1) p q (by rw [Nat.add_mul]; omega) a2 (by rw [Nat.add_mul, Nat.add_mul]; omega) (by omega) (by omega)
theorem EX {lt : α → α → Bool} {l l' : List α} {bs n t0 b : Nat} (h : Mix lt l bs (t0 * (2 * bs)) n) (f : Fram (t0 * (2 * bs)) b l l') (s : Srt lt l' (t0 * (2 * bs)) b) (hb : b ≤ t0 * (2 * bs) + 2 * bs) (hab : t0 * (2 * bs) ≤ b) : Mix lt l' bs b n :=
 ⟨t6 h.1 f s (by rw [Nat.add_mul]; omega), fun t p q a1 a2 a3 a4 a5 => by
  rw [f.2 p (by omega), f.2 q (by omega)]; exact h.2 t p q a1 a2 a3 (by omega) a5⟩
theorem GU {lt : α → α → Bool} {l : List α} {bs n t0 : Nat} (h : Mix lt l bs (t0 * (2 * bs)) n) (hn : n ≤ t0 * (2 * bs) + bs) : Blk lt l (2 * bs) n := fun t p q a1 a2 a3 a4 => by
 by_cases c : q < t0 * (2 * bs)
 ·exact h.1 t p q a1 a2 a3 c
 ·have e1 : t * (2 * bs) < (t0 + 1) * (2 * bs) := by rw [Nat.add_mul]; omega
  have e2 : t0 * (2 * bs) < (t + 1) * (2 * bs) := by omega
  have e3 := Nat.lt_of_mul_lt_mul_right e1
  have e4 := Nat.lt_of_mul_lt_mul_right e2
  obtain rfl : t = t0 := by omega
  exact uO h hn (Nat.le_refl _) p q a1 a2 a4
end
end Go.HL
namespace Go.HL
open Go
def vg (a b : UInt32) : Int := if a < b then -1 else if b < a then 1 else 0
end Go.HL
namespace Go.HL
open Go
theorem E4 (i : Ins) (s : Int) : mn i s = i ↔ ((s = 4 ∨ s = 5 ∨ s = 6 ∨ s = 7 ∨ s = 8) ∨ i.imm = 0) ∧ ((5 ≤ i.op ∧ i.op ≤ 15 ∨ i.op = 20) ∨ i.form = 0) ∧ ((i.op = 16 ∨ i.op = 17 ∨ i.op = 18) ∨ i.width = 0) ∧
  ((i.op = 20 ∨ i.op = 25) ∨ i.cc = 0) ∧ ((s = 1 ∨ s = 2 ∨ s = 3 ∨ s = 4 ∨ s = 5 ∨ s = 6) ∨ i.a = 0) ∧ ((s = 3 ∨ s = 5) ∨ i.b = 0) := by
 obtain ⟨addr, imm, op, form, width, cc, a, b, size⟩ := i
 have key : ∀ (p : Prop) [Decidable p] (x : Int), ((if p then x else 0) = x) ↔ (p ∨ x = 0) := fun p _ x => by
  by_cases h : p
  ·simp [h]
  ·simp [h]; exact eq_comm
 have key2 : ∀ (p : Prop) [Decidable p] (x : UInt32), ((if p then x else 0) = x) ↔ (p ∨ x = 0) := fun p _ x => by
  by_cases h : p
  ·simp [h]
  ·simp [h]; exact eq_comm
 simp only [mn, Ins.mk.injEq, key, key2, true_and, and_true]
theorem Iq {i : Ins} {c : UInt8} {s : Int} (h : bO i = (c, s, true)) : ij i = if ¬ (lp i.a = true ∧ lp i.b = true ∧ mn i s = i) then 2 else if (s = 4 ∨ s = 5) ∧ ji i.imm = false ∨ s = 7 ∧ ji (i.imm - i.addr - 2) = false then 7 else 0 := by
 unfold ij
 simp only [h]
 by_cases h1 : lp i.a = true <;> by_cases h2 : lp i.b = true <;> by_cases h3 : mn i s = i <;> simp [h1, h2, h3]
theorem He {i : Ins} {c : UInt8} {s : Int} (h : bO i = (c, s, false)) : ij i = 2 := by
 unfold ij
 simp only [h]
 rw [if_pos (.inl trivial)]
inductive okOp (i : Ins) : Int → Prop
 | c0 (h : i.op = 0 ∨ i.op = 1 ∨ i.op = 2) : okOp i 0
 | c1 (h : i.op = 3 ∨ i.op = 4) : okOp i 1
 | c2 (h : (5 ≤ i.op ∧ i.op ≤ 15) ∧ i.form = 0) : okOp i 3
 | c3 (h : (5 ≤ i.op ∧ i.op ≤ 15) ∧ i.form = 1) : okOp i 4
 | c4 (h : (5 ≤ i.op ∧ i.op ≤ 15) ∧ i.form = 2) : okOp i 6
 | c5 (h : (i.op = 16 ∨ i.op = 18) ∧ (i.width = 1 ∨ i.width = 2 ∨ i.width = 4)) : okOp i 5
 | c6 (h : i.op = 17 ∧ (i.width = 1 ∨ i.width = 2)) : okOp i 5
 | c7 (h : i.op = 19) : okOp i 5
 | c8 (h : i.op = 25 ∧ (0 ≤ i.cc ∧ i.cc ≤ 14)) : okOp i 2
 | c9 (h : i.op = 20 ∧ (0 ≤ i.cc ∧ i.cc ≤ 14) ∧ i.form = 1) : okOp i 7
 | c10 (h : i.op = 20 ∧ (0 ≤ i.cc ∧ i.cc ≤ 14) ∧ i.form = 2) : okOp i 8
 | c11 (h : i.op = 23) : okOp i 8
 | c12 (h : i.op = 24) : okOp i 2
 | c13 (h : i.op = 21) : okOp i 2
 | c14 (h : i.op = 22) : okOp i 6
 | c15 (h : i.op = 26) : okOp i 2
 | c16 (h : i.op = 27) : okOp i 2
def Good (i : Ins) (x : UInt8 × Int × Bool) : Prop := (x.2.2 = true ∧ okOp i x.2.1) ∨ (x.2.2 = false ∧ ∀ s, ¬ okOp i s)
theorem fj {i : Ins} {p : Prop} [Decidable p] {x y : UInt8 × Int × Bool} (hx : p → Good i x) (hy : ¬ p → Good i y) : Good i (if p then x else y) := by
 by_cases h : p
 ·rw [if_pos h]; exact hx h
 ·rw [if_neg h]; exact hy h
def CM (i : Ins) (c : UInt8) : Prop := Good i (c, 5, decide (c ≠ 0))
theorem jX {i : Ins} {p : Prop} [Decidable p] {x y : UInt8} (hx : p → CM i x) (hy : ¬ p → CM i y) : CM i (if p then x else y) := by
 by_cases h : p
 ·rw [if_pos h]; exact hx h
 ·rw [if_neg h]; exact hy h
theorem Aq (i : Ins) (h : i.op = 16 ∨ i.op = 17 ∨ i.op = 18) : CM i (gA i) := by
 unfold gA
 refine jX (fun p => .inl ⟨rfl, .c5 ⟨.inl p.1, .inr (.inr p.2)⟩⟩) fun n1 => ?_
 refine jX (fun p => .inl ⟨rfl, .c5 ⟨.inl p.1, .inl p.2⟩⟩) fun n2 => ?_
 refine jX (fun p => .inl ⟨rfl, .c6 ⟨p.1, .inl p.2⟩⟩) fun n3 => ?_
 refine jX (fun p => .inl ⟨rfl, .c5 ⟨.inl p.1, .inr (.inl p.2)⟩⟩) fun n4 => ?_
 refine jX (fun p => .inl ⟨rfl, .c6 ⟨p.1, .inr p.2⟩⟩) fun n5 => ?_
 refine jX (fun p => .inl ⟨rfl, .c5 ⟨.inr p.1, .inr (.inr p.2)⟩⟩) fun n6 => ?_
 refine jX (fun p => .inl ⟨rfl, .c5 ⟨.inr p.1, .inl p.2⟩⟩) fun n7 => ?_
 refine jX (fun p => .inl ⟨rfl, .c5 ⟨.inr p.1, .inr (.inl p.2)⟩⟩) fun n8 => ?_
 refine .inr ⟨rfl, fun s hs => ?_⟩
 cases hs
 case c5 k =>
  obtain ⟨k1 | k1, k2 | k2 | k2⟩ := k
  ·exact n2 ⟨k1, k2⟩
  ·exact n4 ⟨k1, k2⟩
  ·exact n1 ⟨k1, k2⟩
  ·exact n7 ⟨k1, k2⟩
  ·exact n8 ⟨k1, k2⟩
  ·exact n6 ⟨k1, k2⟩
 case c6 k =>
  obtain ⟨k1, k2 | k2⟩ := k
  ·exact n3 ⟨k1, k2⟩
  ·exact n5 ⟨k1, k2⟩
 all_goals (clear n1 n2 n3 n4 n5 n6 n7 n8; omega)
theorem DK (i : Ins) (h : i.op = 20 ∨ i.op = 25) : Good i (oL i) := by
 unfold oL
 refine fj (fun _ => .inr ⟨rfl, fun s h => by cases h <;> omega⟩) fun _ => ?_
 refine fj (fun _ => .inl ⟨rfl, .c8 (by omega)⟩) fun _ => ?_
 refine fj (fun _ => .inl ⟨rfl, .c9 (by omega)⟩) fun _ => ?_
 refine fj (fun _ => .inl ⟨rfl, .c10 (by omega)⟩) fun _ => ?_
 exact .inr ⟨rfl, fun s h => by cases h <;> omega⟩
theorem zj (i : Ins) : Good i (bO i) := by
 unfold bO
 refine fj (fun _ => .inl ⟨rfl, .c0 (by omega)⟩) fun _ => ?_
 refine fj (fun _ => .inl ⟨rfl, .c1 (by omega)⟩) fun _ => ?_
 refine fj (fun _ => .inl ⟨rfl, .c1 (by omega)⟩) fun _ => ?_
 refine fj (fun _ => ?_) fun _ => ?_
 ·refine fj (fun _ => .inl ⟨rfl, .c2 (by omega)⟩) fun _ => ?_
  refine fj (fun _ => .inl ⟨rfl, .c3 (by omega)⟩) fun _ => ?_
  refine fj (fun _ => .inl ⟨rfl, .c4 (by omega)⟩) fun _ => ?_
  exact .inr ⟨rfl, fun s h => by cases h <;> omega⟩
 refine fj (fun h => Aq i h) fun _ => ?_
 refine fj (fun _ => .inl ⟨rfl, .c7 (by omega)⟩) fun _ => ?_
 refine fj (fun h => DK i h) fun _ => ?_
 refine fj (fun _ => .inl ⟨rfl, .c11 (by omega)⟩) fun _ => ?_
 refine fj (fun _ => .inl ⟨rfl, .c12 (by omega)⟩) fun _ => ?_
 refine fj (fun _ => .inl ⟨rfl, .c13 (by omega)⟩) fun _ => ?_
 refine fj (fun _ => .inl ⟨rfl, .c14 (by omega)⟩) fun _ => ?_
 refine fj (fun _ => .inl ⟨rfl, .c15 (by omega)⟩) fun _ => ?_
 refine fj (fun _ => .inl ⟨rfl, .c16 (by omega)⟩) fun _ => ?_
 exact .inr ⟨rfl, fun s h => by cases h <;> omega⟩
theorem Di (i : Ins) : (∃ c s, bO i = (c, s, true) ∧ okOp i s) ∨ ((∃ c s, bO i = (c, s, false)) ∧ ∀ s, ¬ okOp i s) := by
 have h := zj i
 generalize bO i = x at *
 obtain ⟨c, s, ok⟩ := x
 rcases h with ⟨rfl, h⟩ | ⟨rfl, h⟩
 ·exact .inl ⟨c, s, rfl, h⟩
 ·exact .inr ⟨⟨c, s, rfl⟩, h⟩
theorem uW {op : Int} : lT op = true ↔ 5 ≤ op ∧ op ≤ 15 := by simp [lT]
theorem uZ {op : Int} : lU op = true ↔ op = 16 ∨ op = 17 ∨ op = 18 := by simp [lU, or_assoc]
theorem Dx {op : Int} : zN op = true ↔ 3 ≤ op ∧ op ≤ 27 ∧ op ≠ 20 ∧ op ≠ 23 := by simp [zN, and_assoc]
theorem Dw {i : Ins} : zL i = true ↔ (5 ≤ i.op ∧ i.op ≤ 15) ∧ i.form = 0 ∨ (i.op = 16 ∨ i.op = 17 ∨ i.op = 18) ∨ i.op = 19 := by simp [zL, lT, lU, or_assoc, and_assoc]
theorem zJ {i : Ins} : tU i = true ↔ (5 ≤ i.op ∧ i.op ≤ 15) ∧ i.form ≠ 0 ∨ (i.op = 16 ∨ i.op = 17 ∨ i.op = 18) ∨ i.op = 19 ∨ i.op = 20 ∨ i.op = 22 ∨ i.op = 23 := by simp [tU, lT, lU, or_assoc, and_assoc]
theorem u2 {op : Int} : u3 op = true ↔ op = 20 ∨ op = 25 := by simp [u3]
theorem wF {n : Int} : Cg n = true ↔ 0 ≤ n ∧ n ≤ 14 := by simp [Cg]
theorem pp {i : Ins} : jR i = true ↔ (5 ≤ i.op ∧ i.op ≤ 15) ∧ (0 ≤ i.form ∧ i.form ≤ 2) ∨ i.op = 20 ∧ (i.form = 1 ∨ i.form = 2) ∨ (¬ (5 ≤ i.op ∧ i.op ≤ 15) ∧ i.op ≠ 20 ∧ i.form = 0) := by
 unfold jR
 simp only [uW]
 split
 ·simp; omega
 split
 ·simp; omega
 ·simp; omega
theorem oI {i : Ins} : iQ i = true ↔ i.op = 17 ∧ (i.width = 1 ∨ i.width = 2) ∨ (i.op = 16 ∨ i.op = 18) ∧ (i.width = 1 ∨ i.width = 2 ∨ i.width = 4) ∨ (¬ (i.op = 16 ∨ i.op = 17 ∨ i.op = 18) ∧ i.width = 0) := by
 unfold iQ
 simp only [uZ]
 split
 ·simp; omega
 split
 ·simp; omega
 ·simp; omega
theorem FV {b : Bool} : b = false ↔ ¬ b = true := by cases b <;> simp
theorem Eh {x : UInt32} : x = 0 ↔ x.toNat = 0 := by rw [← UInt32.toNat_inj]; rfl
theorem zC {n : UInt32} : lr n = true ↔ n.toNat ≤ 127 ∨ 4294967168 ≤ n.toNat := by
 simp only [lr, Bool.or_eq_true, decide_eq_true_eq, UInt32.le_iff_toNat_le]
 exact Iff.rfl
theorem IT {op : Int} (h : 5 ≤ op ∧ op ≤ 15) : op = 5 ∨ op = 6 ∨ op = 7 ∨ op = 8 ∨ op = 9 ∨ op = 10 ∨ op = 11 ∨ op = 12 ∨ op = 13 ∨ op = 14 ∨ op = 15 := by omega
theorem Ip {i : Ins} {s : Int} (h2 : okOp i s) : jh i = if ¬ (lp i.a = true ∧ lp i.b = true ∧ mn i s = i) then 2 else if (s = 4 ∨ s = 5) ∧ ji i.imm = false ∨ s = 7 ∧ ji (i.imm - i.addr - 2) = false then 7 else 0 := by
 have e7 : ji i.imm = lr i.imm := rfl
 have e8 : ji (i.imm - i.addr - 2) = lr (i.imm - i.addr - 2) := rfl
 unfold jh
 simp only [FV, pp, oI, Dx, Dw, zJ, u2, wF, uW, uZ, o7, E4, e7, e8, zC, Eh, ne_eq]
 clear e7 e8
 have big : ∀ p : Prop, (5 ≤ i.op ∧ i.op ≤ 15) ∧ p → (i.op = 5 ∨ i.op = 6 ∨ i.op = 7 ∨ i.op = 8 ∨ i.op = 9 ∨ i.op = 10 ∨ i.op = 11 ∨ i.op = 12 ∨ i.op = 13 ∨ i.op = 14 ∨ i.op = 15) ∧ p := fun p h => ⟨IT h.1, h.2⟩
 cases h2
 case c2 h => replace h := big _ h; clear big; generalize (i.imm - i.addr - 2).toNat = m; generalize i.imm.toNat = n; generalize i.op = op at *; generalize i.form = form at *; obtain ⟨rfl | rfl | rfl | rfl | rfl | rfl | rfl | rfl | rfl | rfl | rfl, rfl⟩ := h <;> simp <;> (repeat' split) <;> omega
 case c3 h => replace h := big _ h; clear big; generalize (i.imm - i.addr - 2).toNat = m; generalize i.imm.toNat = n; generalize i.op = op at *; generalize i.form = form at *; obtain ⟨rfl | rfl | rfl | rfl | rfl | rfl | rfl | rfl | rfl | rfl | rfl, rfl⟩ := h <;> simp <;> (repeat' split) <;> omega
 case c4 h => replace h := big _ h; clear big; generalize (i.imm - i.addr - 2).toNat = m; generalize i.imm.toNat = n; generalize i.op = op at *; generalize i.form = form at *; obtain ⟨rfl | rfl | rfl | rfl | rfl | rfl | rfl | rfl | rfl | rfl | rfl, rfl⟩ := h <;> simp <;> (repeat' split) <;> omega
 all_goals clear big
 all_goals generalize (i.imm - i.addr - 2).toNat = m
 all_goals generalize i.imm.toNat = n
 all_goals rename_i h
 all_goals generalize i.op = op at *
 all_goals generalize i.form = form at *
 case c0 => rcases h with rfl | rfl | rfl <;> simp <;> (repeat' split) <;> omega
 case c1 => rcases h with rfl | rfl <;> simp <;> (repeat' split) <;> omega
 case c5 => rcases h with ⟨rfl | rfl, h⟩ <;> simp <;> (repeat' split) <;> omega
 case c9 => obtain ⟨rfl, h, rfl⟩ := h; simp; (repeat' split) <;> omega
 case c10 => obtain ⟨rfl, h, rfl⟩ := h; simp; (repeat' split) <;> omega
 case c6 => obtain ⟨rfl, h⟩ := h; simp; (repeat' split) <;> omega
 case c8 => obtain ⟨rfl, h⟩ := h; simp; (repeat' split) <;> omega
 all_goals (subst h; simp; (repeat' split) <;> omega)
theorem Hd {i : Ins} (h : ∀ s, ¬ okOp i s) : jh i = 2 := by
 have h0 : ¬ (i.op = 0 ∨ i.op = 1 ∨ i.op = 2) := fun k => h _ (.c0 k)
 have h1 : ¬ (i.op = 3 ∨ i.op = 4) := fun k => h _ (.c1 k)
 have h2 : ¬ ((5 ≤ i.op ∧ i.op ≤ 15) ∧ (i.form = 0 ∨ i.form = 1 ∨ i.form = 2)) := fun k => by
  rcases k with ⟨k, k1 | k1 | k1⟩
  ·exact h _ (.c2 ⟨k, k1⟩)
  ·exact h _ (.c3 ⟨k, k1⟩)
  ·exact h _ (.c4 ⟨k, k1⟩)
 have h5 : ¬ ((i.op = 16 ∨ i.op = 18) ∧ (i.width = 1 ∨ i.width = 2 ∨ i.width = 4)) := fun k => h _ (.c5 k)
 have h6 : ¬ (i.op = 17 ∧ (i.width = 1 ∨ i.width = 2)) := fun k => h _ (.c6 k)
 have h7 : ¬ i.op = 19 := fun k => h _ (.c7 k)
 have h8 : ¬ (i.op = 25 ∧ (0 ≤ i.cc ∧ i.cc ≤ 14)) := fun k => h _ (.c8 k)
 have h9 : ¬ (i.op = 20 ∧ (0 ≤ i.cc ∧ i.cc ≤ 14) ∧ i.form = 1) := fun k => h _ (.c9 k)
 have h10 : ¬ (i.op = 20 ∧ (0 ≤ i.cc ∧ i.cc ≤ 14) ∧ i.form = 2) := fun k => h _ (.c10 k)
 have h11 : ¬ (i.op = 23) := fun k => h _ (.c11 k)
 have h12 : ¬ (i.op = 24) := fun k => h _ (.c12 k)
 have h13 : ¬ (i.op = 21) := fun k => h _ (.c13 k)
 have h14 : ¬ (i.op = 22) := fun k => h _ (.c14 k)
 have h15 : ¬ (i.op = 26) := fun k => h _ (.c15 k)
 have h16 : ¬ (i.op = 27) := fun k => h _ (.c16 k)
 clear h
 unfold jh
 simp only [FV, pp, oI, u2, wF, ne_eq]
 by_cases k1 : i.op < 0 ∨ 27 < i.op ∨ ¬((5 ≤ i.op ∧ i.op ≤ 15) ∧ 0 ≤ i.form ∧ i.form ≤ 2 ∨ i.op = 20 ∧ (i.form = 1 ∨ i.form = 2) ∨ ¬(5 ≤ i.op ∧ i.op ≤ 15) ∧ ¬ i.op = 20 ∧ i.form = 0) ∨
   ¬(i.op = 17 ∧ (i.width = 1 ∨ i.width = 2) ∨ (i.op = 16 ∨ i.op = 18) ∧ (i.width = 1 ∨ i.width = 2 ∨ i.width = 4) ∨ ¬(i.op = 16 ∨ i.op = 17 ∨ i.op = 18) ∧ i.width = 0)
 ·rw [if_pos k1]
 rw [if_neg k1]
 split
 ·rfl
 rw [if_pos]
 have hop : i.op = 20 ∨ i.op = 25 := by omega
 refine .inl ⟨hop, fun hc => ?_⟩
 omega
theorem Hb (i : Ins) : jh i = ij i := by
 rcases Di i with ⟨c, s, h1, h2⟩ | ⟨⟨c, s, h1⟩, h2⟩
 ·rw [Iq h1, Ip h2]
 ·rw [He h1, Hd h2]
end Go.HL
namespace Go.HL
open Go
theorem v7 {x : Int} (h : 0 ≤ x ∧ x < 4294967296) : ((u32 x).toNat : Int) = x := by
 have := rS x; omega
end Go.HL
namespace Go.HL
open Go Go.Sort
open Go.Proofs (ltOf)
def Br (a b : Int) : Int := if a < b then -1 else if b < a then 1 else 0
def lz (x y : Ins) : Int := vg x.addr y.addr
theorem tX (a b : UInt32) : vg a b < 0 ↔ a < b := by
 unfold vg
 split
 ·rename_i h; simp [h]
 ·rename_i h
  split
  ·simp [h]
  ·simp [h]
theorem pR (x y : Ins) : ltOf lz x y = decide (x.addr < y.addr) := by
 unfold ltOf lz
 congr 1
 exact propext (tX _ _)
theorem kN : SWO (ltOf lz) where
 irrefl x := by simp [pR]
 trans x y z h1 h2 := by
  simp only [pR, decide_eq_true_eq, UInt32.lt_iff_toNat_lt] at *; omega
 ntrans x y z h1 h2 := by
  simp only [pR, decide_eq_false_iff_not, UInt32.lt_iff_toNat_lt] at *; omega
theorem xO (i : Ins) : 0 ≤ iz i ∧ iz i ≤ 6 := by
 unfold iz fg
 split
 ·repeat' split
  all_goals omega
 ·omega
def vb (i : Ins) : Int := (i.addr.toNat : Int) + iz i
def mxU (a b : UInt32) : UInt32 := if a < b then b else a
theorem GT (a b : UInt32) : (mxU a b).toNat = max a.toNat b.toNat := by
 unfold mxU
 split
 ·rename_i h; rw [UInt32.lt_iff_toNat_lt] at h; omega
 ·rename_i h; rw [UInt32.lt_iff_toNat_lt] at h; omega
def jy (a b : Ins) : Bool := ((decide (a.addr ≠ b.addr) && decide (0 < iz a)) && decide (0 < iz b)) && decide (((mxU a.addr b.addr).toNat : Int) < min (vb a) (vb b))
def ny {α : Type} [DecidableEq α] : α → List α → List α
 | _, [] => []
 | x, y :: t => if y = x then ny x t else y :: ny y t
def fG {α : Type} [DecidableEq α] : List α → List α
 | [] => []
 | x :: t => x :: ny x t
theorem qE {α : Type} [DecidableEq α] : ∀ (x : α) (l : List α) (y : α), ny x (l ++ [y]) = if y = (x :: l).getLast (by simp) then ny x l else ny x l ++ [y]
 | x, [], y => by simp only [List.nil_append, ny, List.getLast_singleton]; by_cases h : y = x <;> simp [h]
 | x, z :: t, y => by
  have ih1 := qE z t y
  have ih2 := qE x t y
  have e : (x :: z :: t).getLast (by simp) = (z :: t).getLast (by simp) := by simp
  rw [e]
  by_cases h : z = x
  ·subst h
   simp only [List.cons_append, ny, if_true, ih1]
  ·simp only [List.cons_append, ny, h, if_false, ih1]
   split <;> rfl
theorem lx {α : Type} [DecidableEq α] [Inhabited α] {l : List α} {k : Nat} (h0 : 0 < k) (h : k < l.length) : fG (l.take (k + 1)) = if l.getD k default = l.getD (k - 1) default then fG (l.take k) else fG (l.take k) ++ [l.getD k default] := by
 rw [dn h]
 cases l with
 | nil => simp at h
 | cons x t =>
  obtain ⟨j, rfl⟩ : ∃ j, k = j + 1 := ⟨k - 1, by omega⟩
  simp only [List.take_succ_cons, List.cons_append, fG]
  rw [qE]
  have e : (x :: t.take j).getLast (by simp) = (x :: t).getD (j + 1 - 1) default := by
   rw [List.getLast_eq_getElem]
   simp only [List.length_cons, List.length_take, Nat.add_sub_cancel]
   have hj : j ≤ t.length := by simp at h; omega
   simp only [Nat.min_eq_left hj]
   cases j with
   | zero => simp
   | succ j => simp [List.getD_eq_getElem?_getD, show j < t.length by omega]
  rw [e]
  split <;> rfl
theorem ly {α : Type} [DecidableEq α] [Inhabited α] {l : List α} : ∀ {k : Nat}, k ≤ l.length → (∀ j, 0 < j → j < k → l.getD j default ≠ l.getD (j - 1) default) → fG (l.take k) = l.take k
 | 0, _, _ => by simp [fG]
 | k + 1, h, hne => by
  by_cases h0 : k = 0
  ·subst h0
   cases l with
   | nil => simp at h
   | cons x t => simp [fG, ny]
  ·rw [lx (by omega) (by omega), if_neg (hne k (by omega) (by omega)), ly (by omega) (fun j a b => hne j a (by omega)), dn (by omega)]
def inK (l : List Ins) (a : UInt32) : Bool := l.any fun x => decide (x.addr = a)
def g5 (out : List Ins) (i : Ins) : List Ins := if (!inK out i.addr && decide (ij i = 0)) = true then out ++ [i] else out
def sF (l : List Ins) : List Ins := l.foldl g5 []
def yk (out : List Ins) : List (UInt32 × Bool) := out.map fun i => (i.addr, true)
theorem FM (out : List Ins) (a : UInt32) : (dN (yk out) a).getD false = inK out a := by
 induction out with
 | nil => rfl
 | cons x t ih =>
  unfold yk at ih ⊢
  simp only [List.map_cons, dN, inK, List.any_cons]
  by_cases h : a = x.addr
  ·simp [h]
  ·have h' : ¬ x.addr = a := fun q => h q.symm
   rw [if_neg h, decide_eq_false h', Bool.false_or]; exact ih
theorem FK {out : List Ins} {i : Ins} (h : inK out i.addr = false) : fh (yk out) i.addr true = yk (out ++ [i]) := by
 have : dN (yk out) i.addr = none := by
  cases hg : dN (yk out) i.addr with
  | none => rfl
  | some b =>
   exfalso
   have hm := sX hg
   obtain ⟨x, hx, e⟩ := List.mem_map.1 hm
   have : inK out i.addr = true := List.any_eq_true.2 ⟨x, hx, by simp at e; simp [e.1]⟩
   rw [h] at this; cases this
 rw [rh this]
 simp [yk]
theorem Ah {l : List Ins} {k : Nat} (h : k < l.length) : sF (l.take (k + 1)) = g5 (sF (l.take k)) (l.getD k default) := by
 unfold sF; rw [dn h, List.foldl_append]; rfl
theorem Cu : ∀ (l out : List Ins), (l.foldl g5 out).length ≤ out.length + l.length
 | [], out => by simp
 | i :: t, out => by
  have h1 := Cu t (g5 out i)
  have h2 : (g5 out i).length ≤ out.length + 1 := by unfold g5; split <;> simp
  simp only [List.foldl_cons, List.length_cons]; omega
theorem Ak (l : List Ins) : (sF l).length ≤ l.length := by have := Cu l []; simpa [sF] using this
def fD (l : List Ins) : List Ins := mi (ltOf lz) (sF l)
theorem vd (l : List Ins) : (fD l).length ≤ l.length := by unfold fD; rw [lm kN]; exact Ak l
def tN (m : List (UInt32 × Bool)) (i : Ins) : List (UInt32 × Bool) := if (de i).2 = true then fh m (de i).1 true else m
def qQ (l : List Ins) : List (UInt32 × Bool) := l.foldl tN []
theorem yQ {l : List Ins} {k : Nat} (h : k < l.length) : qQ (l.take (k + 1)) = tN (qQ (l.take k)) (l.getD k default) := by
 unfold qQ; rw [dn h, List.foldl_append]; rfl
def sw (l : List UInt32) (a : UInt32) : Bool := l.any fun x => decide (a = x)
def fW (ents : List UInt32) (tm : List (UInt32 × Bool)) (i : Ins) : Int := if sw ents i.addr = true then 0 else if (dN tm i.addr).getD false = true then 1 else 2
def Hk (ents : List UInt32) (tm : List (UInt32 × Bool)) (x y : Ins) : Int := Br (fW ents tm x) (fW ents tm y)
def gw (kept : List Ins) (i : Ins) : List Ins := if kept.any (jy i) = true then kept else kept ++ [i]
def lj (order : List Ins) : List Ins := order.foldl gw []
theorem wA {l : List Ins} {k : Nat} (h : k < l.length) : lj (l.take (k + 1)) = gw (lj (l.take k)) (l.getD k default) := by
 unfold lj; rw [dn h, List.foldl_append]; rfl
theorem zx : ∀ (l out : List Ins), (l.foldl gw out).length ≤ out.length + l.length
 | [], out => by simp
 | i :: t, out => by
  have h1 := zx t (gw out i)
  have h2 : (gw out i).length ≤ out.length + 1 := by unfold gw; split <;> simp
  simp only [List.foldl_cons, List.length_cons]; omega
theorem sj (l : List Ins) : (lj l).length ≤ l.length := by have := zx l []; simpa [lj] using this
theorem wB : ∀ (l out : List Ins) (x : Ins), x ∈ l.foldl gw out → x ∈ out ∨ x ∈ l
 | [], out, x, h => .inl h
 | i :: t, out, x, h => by
  rcases wB t (gw out i) x h with h | h
  ·unfold gw at h
   split at h
   ·exact .inl h
   ·rcases List.mem_append.1 h with h | h
    ·exact .inl h
    ·simp at h; subst h; exact .inr (.head _)
  ·exact .inr (.tail _ h)
theorem zw {l : List Ins} {x : Ins} (h : x ∈ lj l) : x ∈ l := by
 rcases wB l [] x h with h | h
 ·cases h
 ·exact h
def nl (l kept : List Ins) : List UInt32 := (l.filter fun i => !inK kept i.addr).map (·.addr)
def dZ (g : Ins → Int) (l : List Ins) : List Ins := l.filter (fun i => decide (g i = 0)) ++ (l.filter (fun i => decide (g i = 1)) ++ l.filter (fun i => decide (g i = 2)))
theorem Hj (a b : Int) : Br a b < 0 ↔ a < b := by
 unfold Br
 split
 ·rename_i h; simp [h]
 ·split <;> simp_all
def ltG (g : Ins → Int) (x y : Ins) : Bool := decide (g x < g y)
theorem D8 (g : Ins → Int) : WO (ltG g) where
 irr x := by simp [ltG]
 tr x y z h1 h2 := by simp only [ltG, decide_eq_true_eq] at *; omega
 ntr x y z h1 h2 := by simp only [ltG, decide_eq_false_iff_not] at *; omega
theorem Hf (g : Ins → Int) (z x : Ins) : eqv (ltG g) z x = decide (g x = g z) := by
 unfold eqv ltG
 by_cases h : g x = g z
 ·simp [h]
 ·rw [decide_eq_false h]
  by_cases c : g z < g x
  ·simp [c]
  ·have : g x < g z := by omega
   simp [c, this]
theorem lH (ents : List UInt32) (tm : List (UInt32 × Bool)) (i : Ins) : fW ents tm i = 0 ∨ fW ents tm i = 1 ∨ fW ents tm i = 2 := by
 unfold fW
 repeat' split
 all_goals simp
theorem rc {g : Ins → Int} (hg : ∀ i, g i = 0 ∨ g i = 1 ∨ g i = 2) (l : List Ins) : Stab (ltG g) l (dZ g l) ∧ (dZ g l).Pairwise fun x y => ltG g y x = false := by
 refine ⟨⟨?_, fun z => ?_⟩, ?_⟩
 ·induction l with
  | nil => exact List.Perm.refl _
  | cons x t ih =>
   rcases hg x with h | h | h
   ·have e : dZ g (x :: t) = x :: dZ g t := by simp [dZ, h]
    rw [e]; exact ih.cons x
   ·have e : dZ g (x :: t) = t.filter (fun i => decide (g i = 0)) ++ x :: (t.filter (fun i => decide (g i = 1)) ++ t.filter (fun i => decide (g i = 2))) := by simp [dZ, h]
    rw [e]; exact (ih.cons x).trans List.perm_middle.symm
   ·have e : dZ g (x :: t) = (t.filter (fun i => decide (g i = 0)) ++ t.filter (fun i => decide (g i = 1))) ++ x :: t.filter (fun i => decide (g i = 2)) := by simp [dZ, h]
    rw [e]
    refine (ih.cons x).trans ?_
    refine List.Perm.trans ?_ List.perm_middle.symm
    rw [List.append_assoc]; exact List.Perm.refl _
 ·have e : (fun x => eqv (ltG g) z x) = fun x => decide (g x = g z) := by funext x; exact Hf g z x
  show l.filter (fun x => eqv (ltG g) z x) = (dZ g l).filter (fun x => eqv (ltG g) z x)
  rw [e]
  unfold dZ
  rw [List.filter_append, List.filter_append, List.filter_filter, List.filter_filter, List.filter_filter]
  have hn : ∀ c : Int, c ≠ g z → l.filter (fun x => decide (g x = g z) && decide (g x = c)) = [] := fun c hc => by
   rw [List.filter_eq_nil_iff]
   intro x _
   simp only [Bool.and_eq_true, decide_eq_true_eq, not_and]
   intro q1 q2; exact hc (q2.symm.trans q1)
  have hy : ∀ c : Int, c = g z → l.filter (fun x => decide (g x = g z) && decide (g x = c)) = l.filter (fun x => decide (g x = g z)) := fun c hc => by subst hc; simp
  rcases hg z with h | h | h
  ·rw [hy 0 h.symm, hn 1 (by omega), hn 2 (by omega)]; simp
  ·rw [hn 0 (by omega), hy 1 h.symm, hn 2 (by omega)]; simp
  ·rw [hn 0 (by omega), hn 1 (by omega), hy 2 h.symm]; simp
 ·have hc : ∀ c : Int, (l.filter (fun i => decide (g i = c))).Pairwise fun x y => ltG g y x = false := fun c => by
   rw [List.pairwise_iff_forall_sublist]
   intro a b hab
   have ha : a ∈ l.filter (fun i => decide (g i = c)) := hab.subset (by simp)
   have hb : b ∈ l.filter (fun i => decide (g i = c)) := hab.subset (by simp)
   have := of_decide_eq_true (List.mem_filter.1 ha).2
   have := of_decide_eq_true (List.mem_filter.1 hb).2
   simp only [ltG, decide_eq_false_iff_not]; omega
  have hx : ∀ (c d : Int), c ≤ d → ∀ x ∈ l.filter (fun i => decide (g i = c)), ∀ y ∈ l.filter (fun i => decide (g i = d)), ltG g y x = false := fun c d h x hx y hy => by
   have := of_decide_eq_true (List.mem_filter.1 hx).2
   have := of_decide_eq_true (List.mem_filter.1 hy).2
   simp only [ltG, decide_eq_false_iff_not]; omega
  unfold dZ
  refine List.pairwise_append.2 ⟨hc 0, List.pairwise_append.2 ⟨hc 1, hc 2, hx 1 2 (by omega)⟩, fun x h1 y h2 => ?_⟩
  rcases List.mem_append.1 h2 with h2 | h2
  ·exact hx 0 1 (by omega) x h1 y h2
  ·exact hx 0 2 (by omega) x h1 y h2
theorem Ia {g : Ins → Int} (hg : ∀ i, g i = 0 ∨ g i = 1 ∨ g i = 2) {l c : List Ins} (h1 : Stab (ltG g) l c) (h2 : c.Pairwise fun x y => ltG g y x = false) : c = dZ g l := by
 obtain ⟨k1, k2⟩ := rc hg l
 exact rU (D8 g) _ _ (h1.symm.trans k1) h2 k2
theorem Ct : ∀ (l out : List Ins) (x : Ins), x ∈ l.foldl g5 out → x ∈ out ∨ x ∈ l
 | [], out, x, h => .inl h
 | i :: t, out, x, h => by
  rcases Ct t (g5 out i) x h with h | h
  ·unfold g5 at h
   split at h
   ·rcases List.mem_append.1 h with h | h
    ·exact .inl h
    ·simp at h; subst h; exact .inr (.head _)
   ·exact .inl h
  ·exact .inr (.tail _ h)
theorem vc {l : List Ins} {x : Ins} (h : x ∈ fD l) : x ∈ l := by
 have h1 := (nS kN (sF l)).subset h
 rcases Ct l [] x h1 with h | h
 ·cases h
 ·exact h
theorem xI {g : Ins → Int} (hg : ∀ i, g i = 0 ∨ g i = 1 ∨ g i = 2) (l : List Ins) : (dZ g l).length = l.length := (rc hg l).1.len
theorem Ca {g : Ins → Int} {l : List Ins} {x : Ins} (h : x ∈ dZ g l) : x ∈ l := by
 unfold dZ at h
 simp only [List.mem_append, List.mem_filter] at h
 rcases h with h | h | h <;> exact h.1
theorem GL {l kept : List Ins} {k : Nat} (h : k < l.length) (hc : inK kept (l.getD k default).addr = false) : nl (l.take (k + 1)) kept = nl (l.take k) kept ++ [(l.getD k default).addr] := by
 unfold nl
 rw [k6 h (by rw [hc]; rfl), List.map_append]; rfl
theorem H7 {l kept : List Ins} {k : Nat} (h : k < l.length) (hc : inK kept (l.getD k default).addr = true) : nl (l.take (k + 1)) kept = nl (l.take k) kept := by
 unfold nl
 rw [k7 h (by rw [hc]; rfl)]
theorem GM (l kept : List Ins) : (nl l kept).length ≤ l.length := by unfold nl; rw [List.length_map]; exact List.length_filter_le _ _
structure ResV where
 kept : List Ins
 ents : List UInt32
 unk : List UInt32
 bad : List UInt32
 rem : List UInt32
def fV (ins : List Ins) (ents unk bad : List UInt32) : ResV :=
 let l := fD ins
 let kept := mi (ltOf lz) (lj (dZ (fW ents (qQ l)) l))
 ⟨kept, ents.filter (inK kept), unk.filter (inK kept), bad, nl l kept⟩
end Go.HL
namespace Go.HL
open Go Go.Sort
open Go.Proofs (ltOf)
section
variable {α : Type} [DecidableEq α] [Inhabited α]
theorem xy {lt : α → α → Bool} (irr : ∀ x, lt x x = false) (tr : ∀ x y z, lt x y = true → lt y z = true → lt x z = true) : ∀ (l m : List α), l.Pairwise (fun a b => lt a b = true) → m.Pairwise (fun a b => lt a b = true) → (∀ x, x ∈ l ↔ x ∈ m) → l = m
 | [], [], _, _, _ => rfl
 | [], y :: m, _, _, h => absurd ((h y).2 (.head _)) (by simp)
 | x :: l, [], _, _, h => absurd ((h x).1 (.head _)) (by simp)
 | x :: l, y :: m, h1, h2, h => by
  have p1 := List.pairwise_cons.1 h1
  have p2 := List.pairwise_cons.1 h2
  have e : x = y := by
   rcases List.mem_cons.1 ((h x).1 (.head _)) with e | hx
   ·exact e
   ·rcases List.mem_cons.1 ((h y).2 (.head _)) with e | hy
    ·exact e.symm
    ·have := tr _ _ _ (p2.1 x hx) (p1.1 y hy)
     rw [irr] at this; cases this
  subst e
  have : l = m := xy irr tr l m p1.2 p2.2 fun z => by
   constructor
   ·intro hz
    rcases List.mem_cons.1 ((h z).1 (.tail _ hz)) with e | hm
    ·subst e; have := p1.1 z hz; rw [irr] at this; cases this
    ·exact hm
   ·intro hz
    rcases List.mem_cons.1 ((h z).2 (.tail _ hz)) with e | hm
    ·subst e; have := p2.1 z hz; rw [irr] at this; cases this
    ·exact hm
  rw [this]
end
def EH (a b : Ins) : Bool := (((decide (a.addr ≠ b.addr) && decide (ij a = 0)) && decide (ij b = 0)) && decide ((a.addr.toNat : Int) < vb b)) && decide ((b.addr.toNat : Int) < vb a)
theorem xP {i : Ins} : 0 < iz i ↔ ij i = 0 := by
 unfold iz
 split
 ·rename_i h
  have := (enc_facts0 i)
  constructor
  ·intro _; exact h
  ·intro _
   unfold fg
   repeat' split
   all_goals omega
 ·rename_i h; constructor
  ·intro q; omega
  ·intro q; exact absurd q h
where enc_facts0 (i : Ins) : True := trivial
theorem vf {a b : Ins} : jy a b = true ↔ a.addr.toNat ≠ b.addr.toNat ∧ ij a = 0 ∧ ij b = 0 ∧ (a.addr.toNat : Int) < vb b ∧ (b.addr.toNat : Int) < vb a := by
 have e : a.addr ≠ b.addr ↔ a.addr.toNat ≠ b.addr.toNat := by rw [Ne, Ne, UInt32.toNat_inj]
 unfold jy
 simp only [Bool.and_eq_true, decide_eq_true_eq, xP, GT, e]
 have h1 := xO a
 have h2 := xO b
 unfold vb
 constructor
 ·rintro ⟨⟨⟨q1, q2⟩, q3⟩, q4⟩; refine ⟨q1, q2, q3, ?_, ?_⟩ <;> omega
 ·rintro ⟨q1, q2, q3, q4, q5⟩
  have p1 := xP.2 q2
  have p2 := xP.2 q3
  exact ⟨⟨⟨q1, q2⟩, q3⟩, by omega⟩
theorem IR (a b : Ins) : EH a b = jy a b := by
 rw [Bool.eq_iff_iff, vf]
 have e : a.addr ≠ b.addr ↔ a.addr.toNat ≠ b.addr.toNat := by rw [Ne, Ne, UInt32.toNat_inj]
 unfold EH
 simp only [Bool.and_eq_true, decide_eq_true_eq, e]
 exact ⟨fun ⟨⟨⟨⟨q1, q2⟩, q3⟩, q4⟩, q5⟩ => ⟨q1, q2, q3, q4, q5⟩, fun ⟨q1, q2, q3, q4, q5⟩ => ⟨⟨⟨⟨q1, q2⟩, q3⟩, q4⟩, q5⟩⟩
theorem FH (a b : Ins) : jy a b = jy b a := by
 rw [Bool.eq_iff_iff, vf, vf]
 exact ⟨fun ⟨q1, q2, q3, q4, q5⟩ => ⟨Ne.symm q1, q3, q2, q5, q4⟩, fun ⟨q1, q2, q3, q4, q5⟩ => ⟨Ne.symm q1, q3, q2, q5, q4⟩⟩
end Go.HL
namespace Go.Proofs.YtiajjbhcpeadfaaGreat
open Go Go.HL Go.RowKit
theorem Al (a b : UInt32) (w : World) :
  Cr Tryz.prog 84 #[.int .u32 a.toNat, .int .u32 b.toNat] w (.int .i64 (vg a b)) := by
 refine enter Tryz.func84 rfl Tryz.ntmps84 rfl ?_
 refine ah (zz0 (ab rfl) (aL (zz0 (aa rfl) (zz0 (aC rfl ov (fun w hw => rf a w)) ?_))))
 refine zz0 (ab rfl) (aL (zz0 (aa rfl) (zz0 (aC rfl ov (fun w hw => rf b w)) ?_)))
 refine zz0 (ab rfl) (ad (al (ah (zz0 (aa rfl) (ad ?_)))))
 refine ao rfl ?_ ?_ <;> intro h1 <;> try simp only [bs] at h1
 ·first | contradiction | (exfalso; omega) | simp_all
 refine bB (al (ah (zz0 (aa rfl) (ad ?_))))
 refine ao rfl ?_ ?_ <;> intro h2 <;> try simp only [bs] at h2
 ·first | contradiction | (exfalso; omega) | simp_all
 refine bB (al (ah (zz0 (aa rfl) (zz0 (aa rfl) (zz0 (iF rfl rfl) ?_)))))
 refine ad ?_
 refine ao rfl ?_ ?_ <;> intro h3 <;> try simp only [bs] at h3
 ·refine ah (zz0 (ab rfl) (ad (aD (aB ?_))))
  refine aS Tryz.results84 rfl (fun w' hw => ?_)
  exact ⟨by rw [vg, if_pos (by assumption)], hw.b0⟩
 refine bB (al (ah (zz0 (aa rfl) (zz0 (aa rfl) (zz0 (kU rfl rfl) ?_)))))
 refine ad ?_
 refine ao rfl ?_ ?_ <;> intro h4 <;> try simp only [bs] at h4
 ·refine ah (zz0 (ab rfl) (ad (aD (aB ?_))))
  refine aS Tryz.results84 rfl (fun w' hw => ?_)
  exact ⟨by rw [vg, if_neg (by assumption), if_pos (by assumption)], hw.b0⟩
 refine df (zz0 (ab rfl) (ad (aD ?_)))
 refine aS Tryz.results84 rfl (fun w' hw => ?_)
 exact ⟨by rw [vg, if_neg (by assumption), if_neg (by assumption)], hw.b0⟩
theorem zl (a : Int) (w : World) :
  Cr Tryz.prog 147 #[.int .i64 a] w (.bool false) := by
 refine enter Tryz.func147 rfl Tryz.ntmps147 rfl ?_
 refine ah (zz0 (ab rfl) (aL (zz0 (aa rfl) (zz0 (aa rfl) (zz0 (fa rfl rfl) (zz0 (ab rfl) (ad (aD ?_))))))))
 refine aS Tryz.results147 rfl (fun w' hw => ?_)
 exact ⟨by simp, hw.b0⟩
theorem FN (a b : Int) (w : World) :
  Cr Tryz.prog 80 #[.int .i64 a, .int .i64 b] w (.int .i64 (Br a b)) := by
 refine enter Tryz.func80 rfl Tryz.ntmps80 rfl ?_
 refine ah (zz0 (ab rfl) (aL (zz0 (aa rfl) (zz0 (aC rfl Tryz.call147 (fun w hw => zl a w)) ?_))))
 refine zz0 (ab rfl) (aL (zz0 (aa rfl) (zz0 (aC rfl Tryz.call147 (fun w hw => zl b w)) ?_)))
 refine zz0 (ab rfl) (ad (al (ah (zz0 (aa rfl) (ad ?_)))))
 refine ao rfl ?_ ?_ <;> intro h1 <;> try simp only [bs] at h1
 ·first | contradiction | (exfalso; omega) | simp_all
 refine bB (al (ah (zz0 (aa rfl) (ad ?_))))
 refine ao rfl ?_ ?_ <;> intro h2 <;> try simp only [bs] at h2
 ·first | contradiction | (exfalso; omega) | simp_all
 refine bB (al (ah (zz0 (aa rfl) (zz0 (aa rfl) (zz0 (bS rfl rfl) (ad ?_))))))
 refine ao rfl ?_ ?_ <;> intro h3 <;> try simp only [bs] at h3
 ·refine ah (zz0 (ab rfl) (ad (aD (aB ?_))))
  refine aS Tryz.results80 rfl (fun w' hw => ?_)
  exact ⟨by rw [Br, if_pos (by assumption)], hw.b0⟩
 refine bB (al (ah (zz0 (aa rfl) (zz0 (aa rfl) (zz0 (eU rfl rfl) (ad ?_))))))
 refine ao rfl ?_ ?_ <;> intro h4 <;> try simp only [bs] at h4
 ·refine ah (zz0 (ab rfl) (ad (aD (aB ?_))))
  refine aS Tryz.results80 rfl (fun w' hw => ?_)
  exact ⟨by rw [Br, if_neg (by assumption), if_pos (by assumption)], hw.b0⟩
 refine df (zz0 (ab rfl) (ad (aD ?_)))
 refine aS Tryz.results80 rfl (fun w' hw => ?_)
 exact ⟨by rw [Br, if_neg (by assumption), if_neg (by assumption)], hw.b0⟩
theorem wG (l : List UInt32) (V : Value) (a : UInt32) (w : World) (hV : Sl (hp w) an l V) :
  Cr Tryz.prog 145 #[V, .int .u32 a.toNat] w (.int .i64 (dF (fun x => decide (a = x)) 0 l)) := by
 have hV' : Sl (Bg.of w).blk an l V := hV
 have hlen := hV.len_le
 refine enter Tryz.func145 rfl Tryz.ntmps145 rfl ?_
 refine ah (zz0 (ab rfl) (ad (al (ah (zz0 (aa rfl) (zz0 (fJ rfl aj) ?_))))))
 refine zz0 (aa rfl) (ad (aG ?_))
 refine bN (ι := Nat) (fun k => k ≤ l.length ∧ dF (fun x => decide (a = x)) k (l.drop k) = dF (fun x => decide (a = x)) 0 l) (fun _ => _) (fun k => []) (fun k => [(8, .int .i64 (k : Nat))]) (fun k => l.length - k) 0 ⟨Nat.zero_le _, rfl⟩ (Front.c Front.nil) (by repeat' constructor) rfl (fun k hi m hm => ?_)
 replace hi : k ≤ l.length ∧ dF (fun x => decide (a = x)) k (l.drop k) = dF (fun x => decide (a = x)) 0 l := hi
 replace hm : m = l.length - k := hm
 change Tr _ _ [] ([(8, .int .i64 (k : Nat))] ++ _) _
 obtain ⟨hk1, hk2⟩ := hi
 refine ah (zz0 (bS rfl rfl) (ad (al ?_)))
 refine ao rfl ?_ ?_ <;> intro h1 <;> try simp only [bs] at h1
 ·refine bB (al (aG (ah (zz0 (aa rfl) (zz0 (ab rfl) (aL (zz0 (aa rfl) (zz0 (aa rfl) ?_))))))))
  refine zz0 (aa rfl) (zz0 (gB rfl rfl aj ae) ?_)
  refine zz0 (iM rfl am) ?_
  refine zz0 (eC rfl rfl) ?_
  refine ad ?_
  refine ao rfl ?_ ?_ <;> intro h2 <;> try simp only [bs] at h2
  ·refine ah (zz0 (aa rfl) (zz0 (ab rfl) (ad (aD (bv (aB (aB (bv (aB ?_)))))))))
   refine aS Tryz.results145 rfl (fun w' hw => ?_)
   exact ⟨by rw [← hk2, drop_cons (k := k) (by omega), dF, if_pos (by simp_all)], hw.b0⟩
  refine bW (aX (ac (ar (zz0 (cx rfl rfl) ?_))))
  refine zz0 (aa rfl) (ad ?_)
  refine cC (k + 1) (Front.c Front.nil) (bA 12 rfl) (o := ⟨by omega, by rw [← hk2, drop_cons (k := k) (by omega), dF, if_neg (by simp_all)]⟩)
 refine bG (aJ (aJ (bj (ac (ah (zz0 (ab rfl) (ad (aD ?_))))))))
 refine aS Tryz.results145 rfl (fun w' hw => ?_)
 exact ⟨by rw [← hk2, List.drop_of_length_le (by omega)]; rfl, hw.b0⟩
theorem yh (l : List UInt32) (V : Value) (a : UInt32) (w : World) (hV : Sl (hp w) an l V) :
  Cr Tryz.prog 76 #[V, .int .u32 a.toNat] w (.bool (sw l a)) := by
 have hV' : Sl (Bg.of w).blk an l V := hV
 have hlen := hV.len_le
 refine enter Tryz.func76 rfl Tryz.ntmps76 rfl ?_
 refine ah (zz0 (ab rfl) (aL (zz0 (aa rfl) (zz0 (aa rfl) (zz0 (aC rfl Tryz.call145 (fun w hw => wG l V a w (hw.slF hV'))) ?_)))))
 refine zz0 (d5 rfl rfl) (zz0 (ab rfl) (ad (aD ?_)))
 refine aS Tryz.results76 rfl (fun w' hw => ?_)
 exact ⟨by rw [rq]; rfl, hw.b0⟩
theorem sG (l : List UInt32) (V : Value) (w : World) (hV : Sl (hp w) an l V) (hb : l.length ≤ 1000000) :
  Calls Tryz.prog 57 #[V] w (fun e w' => ∃ V', e = .returned V' ∧ Ext w w' ∧ jA w w' 23 an (l) V') := by
 have hV' : Sl (Bg.of w).blk an l V := hV
 refine enter Tryz.func57 rfl Tryz.ntmps57 rfl ?_
 refine ah (zz0 (ab rfl) (ad (al (ah (zz0 (aa rfl) (zz0 (qM rfl (by assumption) aj) ?_))))))
 refine ad ?_
 refine ao rfl ?_ ?_ <;> intro h1 <;> try simp only [bs] at h1
 ·refine ah (zz0 (ab rfl) (ad (aD (aB ?_))))
  refine aS Tryz.results57 rfl (fun w' hw => ?_)
  exact ⟨_, rfl, hw.b0, fN (hV.isNil h1)⟩
 refine df ?_
 refine yz an aj ae rfl (fun V2 => ?_)
 refine zz0 (aa rfl) ?_
 refine CN rfl rfl (by repeat constructor) (fun w hw => hw.slF (by assumption)) aj eW (fun V3 => ?_)
 refine zz0 (ab rfl) (ad (aD ?_))
 refine aS Tryz.results57 rfl (fun w' hw => ?_)
 exact ⟨_, rfl, hw.b0, hw.new (.head _)⟩
theorem wR (l : List Ins) (V : Value) (w : World) (hV : Sl (hp w) aP l V) (hb : l.length ≤ 1000000) :
  Calls Tryz.prog 77 #[V] w (fun e w' => ∃ V', e = .returned V' ∧ Ext w w' ∧ jA w w' 36 aP (l) V') := by
 have hV' : Sl (Bg.of w).blk aP l V := hV
 refine enter Tryz.func77 rfl Tryz.ntmps77 rfl ?_
 refine ah (zz0 (ab rfl) (ad (al (ah (zz0 (aa rfl) (zz0 (qM rfl (by assumption) aM) ?_))))))
 refine ad ?_
 refine ao rfl ?_ ?_ <;> intro h1 <;> try simp only [bs] at h1
 ·refine ah (zz0 (ab rfl) (ad (aD (aB ?_))))
  refine aS Tryz.results77 rfl (fun w' hw => ?_)
  exact ⟨_, rfl, hw.b0, fN (hV.isNil h1)⟩
 refine df ?_
 refine yz aP aM au rfl (fun V2 => ?_)
 refine zz0 (aa rfl) ?_
 refine CN rfl rfl (by repeat constructor) (fun w hw => hw.slF (by assumption)) aM ky (fun V3 => ?_)
 refine zz0 (ab rfl) (ad (aD ?_))
 refine aS Tryz.results77 rfl (fun w' hw => ?_)
 exact ⟨_, rfl, hw.b0, hw.new (.head _)⟩
theorem qm (l : List Ins) (V : Value) (g : FuncId) (cb : List Value) (w : World) (hV : Sl (hp w) aP l V) (eg : ∀ args w, (callFunc g args).run Tryz.prog w = .ok (.enter g args) w) (p : Ins → Bool) (hp : ∀ x, x ∈ l → ∀ w', Ext w w' → Calls Tryz.prog g ([Value.agg (aP.enc x).toArray] ++ cb).toArray w' fun e w'' => e = .returned (.bool (p x)) ∧ Ext w' w'') :
  Cr Tryz.prog 152 #[V, .func (.func g) #[] cb.toArray] w (.int .i64 (dF p 0 l)) := by
 have hV' : Sl (Bg.of w).blk aP l V := hV
 have hlen := hV.len_le
 refine enter Tryz.func152 rfl Tryz.ntmps152 rfl ?_
 refine ah (zz0 (ab rfl) (ad (al (ah (zz0 (aa rfl) (zz0 (fJ rfl aM) ?_))))))
 refine zz0 (aa rfl) (ad (aG ?_))
 refine bN (ι := Nat) (fun k => k ≤ l.length ∧ dF p k (l.drop k) = dF p 0 l) (fun _ => _) (fun k => []) (fun k => [(8, .int .i64 (k : Nat))]) (fun k => l.length - k) 0 ⟨Nat.zero_le _, rfl⟩ (Front.c Front.nil) (by repeat' constructor) rfl (fun k hi m hm => ?_)
 replace hi : k ≤ l.length ∧ dF p k (l.drop k) = dF p 0 l := hi
 replace hm : m = l.length - k := hm
 change Tr _ _ [] ([(8, .int .i64 (k : Nat))] ++ _) _
 obtain ⟨hk1, hk2⟩ := hi
 refine ah (zz0 (bS rfl rfl) (ad (al ?_)))
 refine ao rfl ?_ ?_ <;> intro h1 <;> try simp only [bs] at h1
 ·refine bB (al (aG (ah (zz0 (aa rfl) (zz0 (ab rfl) (aL (zz0 (aa rfl) (zz0 (aa rfl) ?_))))))))
  refine zz0 (aa rfl) (zz0 (gB rfl rfl aM au) ?_)
  refine zz0 (m8 rfl aQ au) ?_
  refine zz0 (ig rfl rfl eg (fun w hw => hp _ (cS (by omega)) w (hw.b0))) ?_
  refine ad ?_
  refine ao rfl ?_ ?_ <;> intro h2 <;> try simp only [bs] at h2
  ·refine ah (zz0 (aa rfl) (zz0 (ab rfl) (ad (aD (bv (aB (aB (bv (aB ?_)))))))))
   refine aS Tryz.results152 rfl (fun w' hw => ?_)
   exact ⟨by rw [← hk2, drop_cons (k := k) (by omega), dF, if_pos (by assumption)], hw.b0⟩
  refine bW (aX (ac (ar (zz0 (cx rfl rfl) ?_))))
  refine zz0 (aa rfl) (ad ?_)
  refine cC (k + 1) (Front.c Front.nil) (bA 12 rfl) (o := ⟨by omega, by rw [← hk2, drop_cons (k := k) (by omega), dF, if_neg (by simp_all)]⟩)
 refine bG (aJ (aJ (bj (ac (ah (zz0 (ab rfl) (ad (aD ?_))))))))
 refine aS Tryz.results152 rfl (fun w' hw => ?_)
 exact ⟨by rw [← hk2, List.drop_of_length_le (by omega)]; rfl, hw.b0⟩
theorem nw (l : List Ins) (V : Value) (g : FuncId) (cb : List Value) (w : World) (hV : Sl (hp w) aP l V) (eg : ∀ args w, (callFunc g args).run Tryz.prog w = .ok (.enter g args) w) (p : Ins → Bool) (hp : ∀ x, x ∈ l → ∀ w', Ext w w' → Calls Tryz.prog g ([Value.agg (aP.enc x).toArray] ++ cb).toArray w' fun e w'' => e = .returned (.bool (p x)) ∧ Ext w' w'') :
  Cr Tryz.prog 86 #[V, .func (.func g) #[] cb.toArray] w (.bool (l.any p)) := by
 have hV' : Sl (Bg.of w).blk aP l V := hV
 refine enter Tryz.func86 rfl Tryz.ntmps86 rfl ?_
 refine ah (zz0 (ab rfl) (aL (zz0 (aa rfl) (zz0 (aa rfl) (zz0 (aC rfl Tryz.call152 (fun w hw => qm l V g cb w (hw.slF hV') eg p (fun x hx w'' h => hp x hx w'' ((hw.b0).trans h)))) ?_)))))
 refine zz0 (d5 rfl rfl) (zz0 (ab rfl) (ad (aD ?_)))
 refine aS Tryz.results86 rfl (fun w' hw => ?_)
 exact ⟨by rw [rq], hw.b0⟩
theorem lE (a b : List UInt32) (V W : Value) (w : World) (hV : Sl (hp w) an a V) (hW : Sl (hp w) an b W) :
  Cr Tryz.prog 22 #[V, W] w (.bool (decide (a = b))) := by
 have hV' : Sl (Bg.of w).blk an a V := hV
 have hW' : Sl (Bg.of w).blk an b W := hW
 have hl1 := hV.len_le
 have hl2 := hW.len_le
 refine enter Tryz.func22 rfl Tryz.ntmps22 rfl ?_
 refine ah (zz0 (ab rfl) (ad (al (ah (zz0 (aa rfl) (zz0 (fJ rfl aj) ?_))))))
 refine zz0 (aa rfl) (zz0 (fJ rfl aj) ?_)
 refine zz0 (fa rfl rfl) (ad ?_)
 refine ao rfl ?_ ?_ <;> intro h1 <;> try simp only [bs] at h1
 ·refine ah (zz0 (ab rfl) (ad (aD (aB ?_))))
  refine aS Tryz.results22 rfl (fun w' hw => ?_)
  exact ⟨by rw [decide_eq_false (fun e => by subst e; omega)], hw.b0⟩
 refine bB (al (ah (zz0 (ab rfl) (ad (aG ?_)))))
 refine bN (ι := Nat) (fun k => k ≤ a.length ∧ a.take k = b.take k) (fun _ => _) (fun k => []) (fun k => [(5, .int .i64 (k : Nat))]) (fun k => a.length - k) 0 ⟨by omega, rfl⟩ (Front.c Front.nil) (by repeat' constructor) rfl (fun k hi m hm => ?_)
 replace hi : k ≤ a.length ∧ a.take k = b.take k := hi
 replace hm : m = a.length - k := hm
 change Tr _ _ [] ([(5, .int .i64 (k : Nat))] ++ _) _
 obtain ⟨hk1, hk3⟩ := hi
 refine al (ah (zz0 (aa rfl) (zz0 (aa rfl) (zz0 (fJ rfl aj) ?_))))
 refine zz0 (bS rfl rfl) (ad ?_)
 refine ao rfl ?_ ?_ <;> intro h2 <;> try simp only [bs] at h2
 ·refine bB (al (aG (al (gZ aT ?_))))
  refine ax (aa rfl) (ax (aa rfl) (ax (gB rfl rfl aj ae) ?_))
  refine ax (iM rfl am) ?_
  refine ax (aa rfl) (ax (aa rfl) (ax (gB rfl rfl aj ae) ?_))
  refine ax (iM rfl am) ?_
  refine ax (jc rfl rfl) ?_
  refine bK ?_
  refine ac ?_
  refine ao rfl ?_ ?_ <;> intro h3 <;> try simp only [bs] at h3
  ·refine ah (zz0 (ab rfl) (ad (aD (bv (aB (aB (bv (aB ?_))))))))
   refine aS Tryz.results22 rfl (fun w' hw => ?_)
   exact ⟨by rw [decide_eq_false (fun e => by subst e; simp_all)], hw.b0⟩
  refine bW (aX (ac (ar (zz0 (aa rfl) (zz0 (cx rfl rfl) ?_)))))
  refine zz0 (ab rfl) (ad ?_)
  refine cC (k + 1) (Front.c Front.nil) (bA 17 rfl) (o := ⟨by omega, by rw [dn (by omega), dn (by omega), hk3]; congr 2⟩)
 refine bG (aJ (aJ (bj (ac (ah (zz0 (ab rfl) (ad (aD ?_))))))))
 refine aS Tryz.results22 rfl (fun w' hw => ?_)
 exact ⟨by rw [decide_eq_true (show a = b by rw [← List.take_of_length_le (show a.length ≤ k by omega), hk3, List.take_of_length_le (by omega)])], hw.b0⟩
theorem wI (l : List UInt32) (V : Value) (a : UInt32) (w : World) (hV : Sl (hp w) an l V) :
  Cr Tryz.prog 32 #[V, .int .u32 a.toNat] w (.bool (sw l a)) := by
 have hV' : Sl (Bg.of w).blk an l V := hV
 have hlen := hV.len_le
 refine enter Tryz.func32 rfl Tryz.ntmps32 rfl ?_
 refine ah (zz0 (ab rfl) (ad (al (ah (zz0 (ab rfl) (ad (aG ?_)))))))
 refine bN (ι := Nat) (fun k => k ≤ l.length ∧ (l.take k).any (fun x => decide (a = x)) = false) (fun _ => _) (fun k => []) (fun k => [(5, .int .i64 (k : Nat))]) (fun k => l.length - k) 0 ⟨Nat.zero_le _, rfl⟩ (Front.c Front.nil) (by repeat' constructor) rfl (fun k hi m hm => ?_)
 replace hi : k ≤ l.length ∧ (l.take k).any (fun x => decide (a = x)) = false := hi
 replace hm : m = l.length - k := hm
 change Tr _ _ [] ([(5, .int .i64 (k : Nat))] ++ _) _
 obtain ⟨hk1, hk2⟩ := hi
 refine al (ah (zz0 (aa rfl) (zz0 (aa rfl) (zz0 (fJ rfl aj) ?_))))
 refine zz0 (bS rfl rfl) (ad ?_)
 refine ao rfl ?_ ?_ <;> intro h1 <;> try simp only [bs] at h1
 ·refine bB (al (aG (ah (zz0 (aa rfl) (zz0 (aa rfl) (zz0 (gB rfl rfl aj ae) ?_))))))
  refine zz0 (iM rfl am) ?_
  refine zz0 (aa rfl) (zz0 (eC rfl rfl) ?_)
  refine ad ?_
  refine ao rfl ?_ ?_ <;> intro h2 <;> try simp only [bs] at h2
  ·refine ah (zz0 (ab rfl) (ad (aD (bv (aB (aB (bv (aB ?_))))))))
   refine aS Tryz.results32 rfl (fun w' hw => ?_)
   exact ⟨by rw [sw, List.any_eq_true.2 ⟨_, cS (k := k) (by omega), by simp_all⟩], hw.b0⟩
  refine bW (aX (ac (ar (zz0 (aa rfl) (zz0 (cx rfl rfl) ?_)))))
  refine zz0 (ab rfl) (ad ?_)
  refine cC (k + 1) (Front.c Front.nil) (bA 14 rfl) (o := ⟨by omega, by rw [any_take_succ (by omega), hk2, Bool.false_or]; exact decide_eq_false (fun e => by simp_all)⟩)
 refine bG (aJ (aJ (bj (ac (ah (zz0 (ab rfl) (ad (aD ?_))))))))
 refine aS Tryz.results32 rfl (fun w' hw => ?_)
 exact ⟨by rw [sw, ← hk2, List.take_of_length_le (by omega)], hw.b0⟩
end Go.Proofs.YtiajjbhcpeadfaaGreat
namespace Go.HL
open Go
def eP : Enc (Int × Bool) := ⟨2, fun e => [.int .i64 e.1, .bool e.2], fun _ => rfl, fun x v h => by simp at h; rcases h with h | h <;> subst h <;> rfl⟩
def jU (l : List Ins) (st : List StV) (gd : List Int) (k : Nat) (e : Int × Bool) : StV :=
 if (l.getD k default).op = 23 ∨ (l.getD k default).op = 24 then yO
 else if (l.getD k default).op = 20 ∧ 0 ≤ gd.getD k default then ra (l.getD k default).cc (l.getD (gd.getD k default).toNat default) (st.getD k default) e.2
 else iT (l.getD k default) (st.getD k default)
def jj (l : List Ins) (st : List StV) (a : UInt32) : StV × Bool :=
 if dF (fun i : Ins => decide (i.addr = a)) 0 l < 0 ∨ (st.length : Int) ≤ dF (fun i : Ins => decide (i.addr = a)) 0 l then (gu, false)
 else (st.getD (dF (fun i : Ins => decide (i.addr = a)) 0 l).toNat default, true)
section
variable {P : Program} {N : Nat} {F : Bg} {L L' A : List Ent} {M : Fr} {X : Act → World → Prop}
theorem B7 {α : Type} {f : α → Ent} : ∀ (rs : List α) (i : Nat) (h : i < rs.length), (rs.map f).Perm (f rs[i] :: (rs.eraseIdx i).map f)
 | x :: t, 0, _ => .refl _
 | x :: t, i + 1, h => ((B7 t i (by simpa using h)).cons (f x)).trans (.swap _ _ _)
theorem zg {α : Type} {f : α → Ent} (y : α) : ∀ (rs : List α) (i : Nat) (h : i < rs.length), (f y :: (rs.eraseIdx i).map f).Perm ((rs.set i y).map f)
 | x :: t, 0, _ => .refl _
 | x :: t, i + 1, h => (List.Perm.swap _ _ _).trans ((zg y t i (by simpa using h)).cons (f x))
theorem De {α : Type} {f : α → Ent} {rs : List α} (i : Nat) (h : i < rs.length) : (A ++ (rs.map f ++ L)).Perm (f rs[i] :: (A ++ ((rs.eraseIdx i).map f ++ L))) :=
 (((B7 rs i h).append_right L).append_left A).trans List.perm_middle
theorem Dd {α : Type} {f : α → Ent} {rs : List α} (i : Nat) (y : α) (h : i < rs.length) : (f y :: (A ++ ((rs.eraseIdx i).map f ++ L))).Perm (A ++ ((rs.set i y).map f ++ L)) :=
 List.perm_middle.symm.trans (((zg y rs i h).append_right L).append_left A)
theorem Hu {α : Type} {f : α → Ent} {rs : List α} (i : Nat) (h : i < rs.length) (K : Tr N F (f rs[i] :: (A ++ ((rs.eraseIdx i).map f ++ L))) M X) : Tr N F (A ++ (rs.map f ++ L)) M X :=
 fun a w ha hw => K a w ha (hw.perm (De i h).symm)
theorem yy {α : Type} {f : α → Ent} {rs : List α} (i : Nat) (y : α) (h : i < rs.length) (K : Tr N F (A ++ ((rs.set i y).map f ++ L)) M X) : Tr N F (f y :: (A ++ ((rs.eraseIdx i).map f ++ L))) M X :=
 fun a w ha hw => K a w ha (hw.perm (Dd i y h).symm)
theorem rI {α : Type} {T : TypeId} {E : Enc α} : ∀ (rs : List (Value × List α)) {F : Bg}, (∀ F', F.le F' → (∀ r ∈ rs, Sl F'.blk E r.2 r.1) → Tr N F' L M X) → Tr N F (rs.map (fun r => rowE r.1 T E r.2) ++ L) M X
  | [], F, K => K F (Bg.le.refl _) (fun r hr => absurd hr (by simp))
  | r :: t, F, K => kx (V := r.1) (T := T) (E := E) (l := r.2) (.here _) fun F1 h1 hs => rI t fun F2 h2 ht => K F2 (h1.trans h2) (fun x hx => by
      rcases List.mem_cons.1 hx with rfl | hx
      · exact hs.mono h2.blk
      · exact ht x hx)
end
end Go.HL
namespace Go.HL
open Go Go.RowKit
section
variable {P : Program}
inductive FieldsRS (P : Program) (d : Nat) (xs ys : Array Value) : List Field → List Bool → Prop
 | nil : FieldsRS P d xs ys [] []
 | cons {f : Field} {fs : List Field} {u v : Value} {b : Bool} {bs : List Bool} (hn : f.name ≠ "_") (hx : ∀ w, (part f.type xs f.offset).run P w = .ok u w) (hy : ∀ w, (part f.type ys f.offset).run P w = .ok v w)
   (he : ∀ w, (Op.equalIn d f.type u v).run P w = .ok b w) (h : FieldsRS P d xs ys fs bs) : FieldsRS P d xs ys (f :: fs) (b :: bs)
theorem oJ {d : Nat} {xs ys : Array Value} (w : World) : ∀ {fs : List Field} {bs : List Bool}, FieldsRS P d xs ys fs bs → (Op.eqFields d xs ys fs).run P w = .ok (bs.all id) w
 | [], _, .nil => by simp [Op.eqFields]
 | f :: fs, _, .cons (b := b) (bs := bs) hn hx hy he h => by
  have ih := oJ w h
  simp only [Op.eqFields, hn, ne_eq, not_false_eq_true, if_true, Sem.run_bind, List.all_cons, hx, hy, he, Result.andThen_ok]
  cases b
  ·simp
  ·simpa using ih
theorem uC {t : TypeId} {cs vs : List Value} {o k : Nat} (ha : ∀ w, (isAgg t).run P w = .ok true w) (hz : ∀ w, (sizeOf t).run P w = .ok k w) (hv : (cs.drop o).take k = vs) (w : World) : (part t cs.toArray o).run P w = .ok (.agg vs.toArray) w := by
 simp [part, ha, hz, hv]
theorem C2 {d : Nat} {t : TypeId} {fs : Array Field} (ht : P.underlying t = some (.struct fs)) (hw : WordFields P fs.toList [.bool, .bool, .int .u32, .int .u32, .int .u32]) (ho : fs.toList.map (·.offset) = [0, 1, 2, 3, 4])
  (hh : P.stoodInHeld t = false) (x y : VSet) (w : World) : (Op.equalIn (d + 1 + 1) t (.agg (bR.enc x).toArray) (.agg (bR.enc y).toArray)).run P w = .ok (decide (x = y)) w := by
 have hf : P.fieldsOf t = fs := by simp [Program.fieldsOf, ht]
 rw [run_equalIn_struct w _ t _ _ (by rw [hf]; exact ht) hh, hf]
 obtain ⟨h1, h2⟩ := uq x y
 rw [jO _ _ _ w fs.toList _ hw (fun j f e hj he => h1 j f.offset e (by rw [← ho]; simp [hj]) he), ← h2, ← ho, List.all_map]
 rfl
theorem C3 {d k : Nat} {t e : TypeId} {xs ys : Array Value} (u v : Nat → Value) (b : Nat → Bool) (ht : P.underlying t = some (.array 8 e)) (hz : ∀ w, (sizeOf e).run P w = .ok k w)
  (hx : ∀ i, i < 8 → ∀ w, (part e xs (i * k)).run P w = .ok (u i) w) (hy : ∀ i, i < 8 → ∀ w, (part e ys (i * k)).run P w = .ok (v i) w) (he : ∀ i, i < 8 → ∀ w, (Op.equalIn (d + 1) e (u i) (v i)).run P w = .ok (b i) w) (w : World) :
  (Op.equalIn (d + 1 + 1) t (.agg xs) (.agg ys)).run P w = .ok (b 0 && b 1 && b 2 && b 3 && b 4 && b 5 && b 6 && b 7) w := by
 have x0 := hx 0 (by omega); have x1 := hx 1 (by omega); have x2 := hx 2 (by omega); have x3 := hx 3 (by omega); have x4 := hx 4 (by omega); have x5 := hx 5 (by omega); have x6 := hx 6 (by omega); have x7 := hx 7 (by omega)
 have y0 := hy 0 (by omega); have y1 := hy 1 (by omega); have y2 := hy 2 (by omega); have y3 := hy 3 (by omega); have y4 := hy 4 (by omega); have y5 := hy 5 (by omega); have y6 := hy 6 (by omega); have y7 := hy 7 (by omega)
 have e0 := he 0 (by omega); have e1 := he 1 (by omega); have e2 := he 2 (by omega); have e3 := he 3 (by omega); have e4 := he 4 (by omega); have e5 := he 5 (by omega); have e6 := he 6 (by omega); have e7 := he 7 (by omega)
 rw [Nat.zero_mul] at x0 y0; rw [Nat.one_mul] at x1 y1
 rw [Op.equalIn]
 simp only [Sem.run_bind, run_underlying ht, Result.andThen_ok, hz, Std.Legacy.Range.forIn_eq_forIn_range', Std.Legacy.Range.size]
 simp [List.range', x0, x1, x2, x3, x4, x5, x6, x7, y0, y1, y2, y3, y4, y5, y6, y7, e0, e1, e2, e3, e4, e5, e6, e7]
 generalize b 0 = c0; generalize b 1 = c1; generalize b 2 = c2; generalize b 3 = c3; generalize b 4 = c4; generalize b 5 = c5; generalize b 6 = c6; generalize b 7 = c7
 cases c0 <;> simp
 cases c1 <;> simp
 cases c2 <;> simp
 cases c3 <;> simp
 cases c4 <;> simp
 cases c5 <;> simp
 cases c6 <;> simp
 cases c7 <;> simp
theorem CY (x y : StV) : (decide (x.r0 = y.r0) && decide (x.r1 = y.r1) && decide (x.r2 = y.r2) && decide (x.r3 = y.r3) && decide (x.r4 = y.r4) && decide (x.r5 = y.r5) && decide (x.r6 = y.r6) && decide (x.r7 = y.r7)) = decide (x = y) := by
 rw [Bool.eq_iff_iff]
 cases x; cases y
 simp only [Bool.and_eq_true, decide_eq_true_eq, StV.mk.injEq, and_assoc]
structure StTy (P : Program) (t : TypeId) : Prop where
 ex : ∃ (tr ts : TypeId) (f0 : Field) (fs : Array Field), P.underlying t = some (.struct #[f0]) ∧ f0.name ≠ "_" ∧ f0.type = tr ∧ f0.offset = 0 ∧ P.stoodInHeld t = false ∧ P.underlying tr = some (.array 8 ts) ∧ (∀ w, (isAgg tr).run P w = .ok true w) ∧ (∀ w, (sizeOf tr).run P w = .ok 40 w) ∧
  P.underlying ts = some (.struct fs) ∧ WordFields P fs.toList [.bool, .bool, .int .u32, .int .u32, .int .u32] ∧ fs.toList.map (·.offset) = [0, 1, 2, 3, 4] ∧ P.stoodInHeld ts = false ∧ (∀ w, (isAgg ts).run P w = .ok true w) ∧ (∀ w, (sizeOf ts).run P w = .ok 5 w)
theorem zb {t : TypeId} (h : StTy P t) (x y : StV) (w : World) : (Op.equal t (.agg (cL.enc x).toArray) (.agg (cL.enc y).toArray)).run P w = .ok (decide (x = y)) w := by
 obtain ⟨tr, ts, f0, fs, ht, n0, y0, o0, hh, htr, hatr, hztr, hts, hwf, hof, hhs, hats, hzts⟩ := h.ex
 have hf : P.fieldsOf t = #[f0] := by simp [Program.fieldsOf, ht]
 subst y0
 unfold Op.equal
 show (Op.equalIn (9996 + 1 + 1 + 1 + 1) t _ _).run P w = _
 rw [run_equalIn_struct w _ t _ _ (by rw [hf]; exact ht) hh, hf]
 have hp : ∀ (z : StV) (i : Nat), i < 8 → ∀ w, (part ts (cL.enc z).toArray (i * 5)).run P w = .ok (.agg (bR.enc (z.getN i)).toArray) w := fun z i hi w =>
  uC hats hzts (by
   have := kY (s := z) (k := (i : Int)) ⟨by omega, by omega⟩ (o := i * 5) (by simp)
   rw [this]; rfl) w
 have hr := oJ w (FieldsRS.cons (P := P) (d := 9996 + 1 + 1 + 1) (xs := (cL.enc x).toArray) (ys := (cL.enc y).toArray) (f := f0) (fs := []) n0
  (fun w => by rw [o0]; exact uC hatr hztr (vs := cL.enc x) rfl w) (fun w => by rw [o0]; exact uC hatr hztr (vs := cL.enc y) rfl w)
  (fun w => C3 (d := 9996 + 1) (fun i => .agg (bR.enc (x.getN i)).toArray) (fun i => .agg (bR.enc (y.getN i)).toArray) (fun i => decide (x.getN i = y.getN i)) htr hzts (hp x) (hp y) (fun i hi w => C2 hts hwf hof hhs _ _ w) w) .nil)
 refine hr.trans ?_
 rw [← CY]
 simp only [List.all_cons, List.all_nil, id, Bool.and_true]
 rfl
end
section
variable {P : Program} {N : Nat} {F : Bg} {L : List Ent} {M : Fr} {dst : Option Tmp} {ty : TypeId} {pos : String} {after : Array Edge} {g : Option (Nat × Bool)}
theorem Gs {x y : Operand} {t u : TypeId} {p q : StV} (hx : opv M x = some (.agg (cL.enc p).toArray)) (hy : opv M y = some (.agg (cL.enc q).toArray)) (h : StTy P t) (hg : P.eqGuardType P.depth t = false) :
  QS P N F L M ⟨dst, .binOp .neq t x y u, ty, pos, after, g⟩ (.bool (decide (p ≠ q))) :=
 cG fun a w ha _ => by
  simp [execOp, ha.eval hx, ha.eval hy, mw w hg, binOp, zb h]
end
end Go.HL
namespace Go.Proofs.YtiajjbhcpeadfaaGreat
open Go Go.HL Go.RowKit
theorem yR (i : Ins) (w : World) (hI : InsOK i) :
  Calls Tryz.prog 224 #[.agg (aP.enc i).toArray] w (fun e w' => ∃ V', e = .returned V' ∧ Ext w w' ∧ jA w w' 23 an (dP i) V') := by
 refine enter Tryz.func224 rfl Tryz.ntmps224 rfl ?_
 refine ah ?_
 refine dE rfl rfl (fun b1 => ?_)
 refine zz0 (ab rfl) (ad (al (ah (zz0 (bE rfl aQ au) ?_))))
 refine zz0 (aC rfl kt (fun w hw => kl i w hI)) ?_
 refine zz0 (cj rfl) (ad ?_)
 refine ao rfl ?_ ?_ <;> intro h2 <;> try simp only [bs] at h2
 ·refine al (cd 23 an ?_)
  refine ar (zz0 (ab rfl) (ad (aD (aB ?_))))
  refine aS Tryz.results224 rfl (fun w' hw => ?_)
  exact ⟨_, rfl, hw.b0, by rw [show dP i = [] by unfold dP; rw [if_neg (by simp_all)]]; exact hw.new (.head _)⟩
 refine bB (al (cd 23 an ?_))
 refine ar (zz0 (ab rfl) (ad ?_))
 refine db (ι := Value) (fun V1 => True) (fun _ => Bg.of w) (fun V1 => [rowE V1 23 an (if (de i).2 = true then [(de i).1] else []), cellE b1 (aP.enc i) 36]) (fun V1 => [(3, V1)]) ?_ (fun V1 hi => ?_)
 ·skip
  refine ah (zz0 (bE rfl aQ au) ?_)
  refine zz0 (aC rfl Tryz.call144 (fun w hw => qo i w)) ?_
  refine zz0 (aa rfl) (zz0 (aR rfl rfl) (zz0 (aR rfl rfl) (zz0 (ab rfl) (zz0 (ab rfl) (aL (zz0 (aa rfl) (ad ?_)))))))
  refine ao rfl ?_ ?_ <;> intro h3 <;> try simp only [bs] at h3
  ·refine ar (zz0 (aa rfl) (zz0 (aa rfl) ?_))
   refine jB (E := an) (de i).1 rfl rfl aj ae cU (fun V4 => ?_)
   refine zz2 rfl rfl aj eW (fun V5 => ?_)
   refine zz0 (ab rfl) (ad (gx (l' := if (de i).2 = true then [(de i).1] else []) (by rw [if_pos (by assumption)]; rfl) ?_))
   refine cw _ (Front.c Front.nil) (bA 13 rfl) (o := trivial)
  refine bB (gx (l' := if (de i).2 = true then [(de i).1] else []) (by rw [if_neg (by simp_all)]) ?_)
  refine cw _ (Front.c Front.nil) (bA 8 rfl) (o := trivial)
 skip
 replace hi : True := hi
 change Tr _ _ [rowE V1 23 an (if (de i).2 = true then [(de i).1] else []), cellE b1 (aP.enc i) 36] ([(3, V1)] ++ _) _
 have htl : (if (de i).2 = true then [(de i).1] else []).length ≤ 1 := by split <;> simp
 refine db (ι := Value) (fun V2 => True) (fun _ => Bg.of w) (fun V2 => [rowE V2 23 an ((if (de i).2 = true then [(de i).1] else []) ++ (if lk i = true then [] else [oK i])), cellE b1 (aP.enc i) 36]) (fun V2 => [(3, V2)]) ?_ (fun V2 hi => ?_)
 ·skip
  refine ah (zz0 (bE rfl aQ au) ?_)
  refine zz0 (aC rfl Tryz.call195 (fun w hw => zZ i w)) ?_
  refine zz0 (cj rfl) (ad ?_)
  refine ao rfl ?_ ?_ <;> intro h6 <;> try simp only [bs] at h6
  ·refine ar (zz0 (aa rfl) (zz0 (bE rfl aQ au) ?_))
   refine zz0 (aC rfl Tryz.call60 (fun w hw => zk i w hI)) ?_
   refine jB (E := an) (oK i) rfl rfl aj ae cU (fun V7 => ?_)
   refine zz2 rfl rfl aj eW (fun V8 => ?_)
   refine zz0 (ab rfl) (ad (gx (l' := (if (de i).2 = true then [(de i).1] else []) ++ (if lk i = true then [] else [oK i])) (by rw [if_neg (c := lk i = true) (by simp_all)]) ?_))
   refine cw _ (Front.c Front.nil) (bA 9 rfl) (o := trivial)
  refine bB (gx (l' := (if (de i).2 = true then [(de i).1] else []) ++ (if lk i = true then [] else [oK i])) (by rw [if_pos (c := lk i = true) (by simp_all), List.append_nil]) ?_)
  refine cw _ (Front.c Front.nil) (bA 3 rfl) (o := trivial)
 skip
 replace hi : True := hi
 change Tr _ _ [rowE V2 23 an ((if (de i).2 = true then [(de i).1] else []) ++ (if lk i = true then [] else [oK i])), cellE b1 (aP.enc i) 36] ([(3, V2)] ++ _) _
 refine ah (zz0 (aa rfl) (zz0 (ab rfl) (ad (aD ?_))))
 refine aS Tryz.results224 rfl (fun w' hw => ?_)
 exact ⟨_, rfl, hw.b0, by rw [show dP i = _ by unfold dP; rw [if_pos (by simp_all)]]; exact hw.new (.head _)⟩
theorem Am (i : Ins) (a : UInt32) (b : Nat) (w : World) (hc : Cell (hp w) b 0 (.int .u32 a.toNat)) :
  Cr Tryz.prog 165 #[.agg (aP.enc i).toArray, .pointer (some ⟨b, 0, none⟩)] w (.bool (decide (i.addr = a))) := by
 have hc' : Cell (Bg.of w).blk b 0 (.int .u32 a.toNat) := hc
 refine enter Tryz.func165 rfl Tryz.ntmps165 rfl ?_
 refine ah ?_
 refine dE rfl rfl (fun b1 => ?_)
 refine zz0 (ab rfl) (aL (zz0 (zz1 (off := 0) (ft := 23) rfl af rfl ae) ?_))
 refine zz0 (aH rfl am) ?_
 refine zz0 (nE rfl (by assumption) am) ?_
 refine zz0 (eC rfl rfl) ?_
 refine zz0 (ab rfl) (ad (aD ?_))
 refine aS Tryz.results165 rfl (fun w' hw => ?_)
 exact ⟨rfl, hw.b0⟩
theorem Bw (l : List Ins) (st : List StV) (a : UInt32) (V VS : Value) (w : World) (hV : Sl (hp w) aP l V) (hS : Sl (hp w) cL st VS) :
  Cr Tryz.prog 109 #[V, VS, .int .u32 a.toNat] w (.tuple #[.agg (cL.enc (jj l st a).1).toArray, .bool (jj l st a).2]) := by
 have hV' : Sl (Bg.of w).blk aP l V := hV
 have hS' : Sl (Bg.of w).blk cL st VS := hS
 have hlS := hS'.len_le
 have hix := jQ (fun i : Ins => decide (i.addr = a)) l 0
 refine enter Tryz.func109 rfl Tryz.ntmps109 rfl ?_
 refine ah ?_
 refine dE rfl rfl (fun b1 => ?_)
 refine dA cR rfl (fun b2 => ?_)
 refine zz0 (ab rfl) (aL (zz0 (aa rfl) (zz0 (fu rfl rfl) ?_)))
 refine zz0 (aC rfl Tryz.call152 (fun w hw => qm l V _ _ w (hw.slF hV') Tryz.call165 (fun i => decide (i.addr = a)) (fun x hx w'' h => Am x a _ w'' (cellE.cell (hw.ent _ (by repeat constructor)) h rfl)))) ?_
 refine zz0 (ab rfl) (ad (al (ah (zz0 (aa rfl) (zz0 (bS rfl rfl) (zz0 (aa rfl) ?_))))))
 apply cF
 ·exact (rfl : _ = (5, 14, 19))
 ·exact rfl
 ·intro hF3; have hF3' := hF3
  try simp only [bs] at hF3'
  refine zz5 hF3 (aa rfl) (zz5 hF3 (aa rfl) (zz5 hF3 (fJ rfl dS) ?_))
  refine zz5 hF3 (d5 rfl rfl) (zz0 (aK rfl hF3 rfl) ?_)
  refine az (ac ?_)
  exact aA (Sub.cons rfl (zz7 5 rfl))
 ·intro hT3
  refine zz6 hT3 (zz6 hT3 (zz6 hT3 (zz6 hT3 (zz0 (aN rfl hT3 rfl) ?_))))
  refine az (ac ?_)
  exact aA (Sub.cons rfl (zz7 5 rfl))
 refine ad ?_
 refine ao rfl ?_ ?_ <;> intro h4 <;> try simp only [bs] at h4
 ·refine ah (zz0 (bL (vs := []) rfl rfl (tw)) ?_)
  refine aF cL rfl rfl aU ?_
  refine zz0 (ab rfl) (ad (aD (aB ?_)))
  refine kj Tryz.results109 rfl rfl bT aU (fun w' hw => ?_)
  refine ⟨?_, hw.b0⟩
  unfold jj
  (repeat' split) <;> first | (exfalso; first | (simp_all; done) | grind) | rfl
 refine df (zz0 (aa rfl) (zz0 (aa rfl) (zz0 (m9 rfl rfl dS aU) ?_)))
 refine zz0 (m8 rfl bT aU) ?_
 refine aF cL rfl rfl aU ?_
 refine zz0 (ab rfl) (ad (aD ?_))
 refine kj Tryz.results109 rfl rfl bT aU (fun w' hw => ?_)
 refine ⟨?_, hw.b0⟩
 unfold jj
 (repeat' split) <;> first | (exfalso; first | (simp_all; done) | grind) | rfl
end Go.Proofs.YtiajjbhcpeadfaaGreat
namespace Go.Proofs.YtiajjbhcpeadfaaGreat
open Go Go.HL Go.RowKit
theorem wZ (l : List Ins) (st : List StV) (gd : List Int) (bx bm : Nat) (VI VEd VG VB VV VM : Value) (k : Nat) (ee : Int × Bool) (w : World) (hx : CellsIn (hp w) bx [VI, .map (some bm), VEd, VG, VB, VV, VM]) (hI : Sl (hp w) aP l VI) (hG : Sl (hp w) bQ gd VG) (hB : Sl (hp w) cL st VB) (hIO : ∀ x ∈ l, InsOK x) (hgl : gd.length = l.length) (hsl : st.length = l.length) (hgd : ∀ j, j < gd.length → gd.getD j default < (l.length : Int)) (hk : k < l.length) :
  Cr Tryz.prog 226 #[.pointer (some ⟨bx, 0, none⟩), .int .i64 (k : Nat), .agg (eP.enc ee).toArray] w (.agg (cL.enc (jU l st gd k ee)).toArray) := by
 have hx' : CellsIn (Bg.of w).blk bx [VI, .map (some bm), VEd, VG, VB, VV, VM] := hx
 have hI' : Sl (Bg.of w).blk aP l VI := hI
 have hG' : Sl (Bg.of w).blk bQ gd VG := hG
 have hB' : Sl (Bg.of w).blk cL st VB := hB
 have hlI := hI'.len_le
 have hgk := hgd k (by omega)
 have hio := hIO _ (cS hk)
 refine enter Tryz.func226 rfl Tryz.ntmps226 rfl ?_
 refine ah ?_
 refine dE rfl rfl (fun b1 => ?_)
 refine dA cR rfl (fun b2 => ?_)
 refine ad ?_
 refine db (ι := Nat × Nat) (fun ⟨p, q⟩ => True) (fun _ => Bg.of w) (fun ⟨p, q⟩ => [cellE q (cL.enc (st.getD k default)) 37, cellE p (aP.enc (l.getD k default)) 36, cellE b2 (cL.enc gu) 37, cellE b1 (eP.enc ee) 274]) (fun ⟨p, q⟩ => [(8, .pointer (some ⟨q, 0, none⟩)), (7, .pointer (some ⟨p, 0, none⟩))]) ?_ (fun i hi => ?_)
 ·skip
  refine dG ([cellE b2 (cL.enc gu) 37, cellE b1 (eP.enc ee) 274]) 18 rfl aT ?_
  refine zz3 0 rfl (aa rfl) ?_
  refine zz3 1 rfl (bh rfl) ?_
  refine zz3 2 rfl (zz1 (off := 0) (ft := 50) rfl bC rfl cD) ?_
  refine zz3 3 rfl (lK rfl cP) ?_
  refine zz3 4 rfl (aa rfl) ?_
  refine zz3 5 rfl (gB rfl rfl aM au) ?_
  refine zz3 6 rfl (m8 rfl aQ au) ?_
  refine zz3 7 rfl (aa rfl) ?_
  refine zz3 8 rfl (bh rfl) ?_
  refine zz3 9 rfl (zz1 (off := 4) (ft := 177) rfl bC rfl eM) ?_
  refine zz3 10 rfl (lK rfl gQ) ?_
  refine zz3 11 rfl (aa rfl) ?_
  refine zz3 12 rfl (gB rfl rfl dS aU) ?_
  refine zz3 13 rfl (m8 rfl bT aU) ?_
  refine dh [14, 15] (fun iq hq => ?_)
  rcases List.mem_cons.1 hq with rfl | hq
  ·skip
   refine bD rfl ?_
   refine dA bP rfl (fun b3 => ?_)
   refine bU ?_
   refine dh [15] (fun iq hq => ?_)
   obtain rfl := List.mem_singleton.1 hq
   refine bD rfl ?_
   refine dA cR rfl (fun b4 => ?_)
   refine bU ?_
   refine dh [16] (fun iq hq => ?_)
   obtain rfl := List.mem_singleton.1 hq
   refine bD rfl ?_
   refine aF aP rfl rfl au ?_
   refine bU ?_
   refine dh [17] (fun iq hq => ?_)
   obtain rfl := List.mem_singleton.1 hq
   refine bD rfl ?_
   refine aF cL rfl rfl aU ?_
   refine bU ?_
   refine gI ?_
   refine ac ?_
   refine cw (_, _) (Front.c (Front.c Front.nil)) (bA 16 rfl) (o := trivial)
  obtain rfl := List.mem_singleton.1 hq
  refine bD rfl ?_
  refine dA cR rfl (fun b5 => ?_)
  refine bU ?_
  refine dh [14] (fun iq hq => ?_)
  obtain rfl := List.mem_singleton.1 hq
  refine bD rfl ?_
  refine dA bP rfl (fun b6 => ?_)
  refine bU ?_
  refine dh [16] (fun iq hq => ?_)
  obtain rfl := List.mem_singleton.1 hq
  refine bD rfl ?_
  refine aF aP rfl rfl au ?_
  refine bU ?_
  refine dh [17] (fun iq hq => ?_)
  obtain rfl := List.mem_singleton.1 hq
  refine bD rfl ?_
  refine aF cL rfl rfl aU ?_
  refine bU ?_
  refine gI ?_
  refine ac ?_
  refine cw (_, _) (Front.c (Front.c Front.nil)) (bA 16 rfl) (o := trivial)
 obtain ⟨p, q⟩ := i
 replace hi : True := hi
 change Tr _ _ [cellE q (cL.enc (st.getD k default)) 37, cellE p (aP.enc (l.getD k default)) 36, cellE b2 (cL.enc gu) 37, cellE b1 (eP.enc ee) 274] ([(8, .pointer (some ⟨q, 0, none⟩)), (7, .pointer (some ⟨p, 0, none⟩))] ++ _) _
 refine al (aG (ah (zz0 (zz1 (off := 2) (ft := 3) rfl af rfl ay) ?_)))
 refine zz0 (aH rfl aI) ?_
 refine zz0 (aY rfl rfl) (zz0 (aa rfl) ?_)
 apply cF
 ·exact (rfl : _ = (4, 27, 31))
 ·exact rfl
 ·intro hF7; have hF7' := hF7
  try simp only [bs] at hF7'
  refine zz5 hF7 (zz1 (off := 2) (ft := 3) rfl af rfl ay) ?_
  refine zz5 hF7 (aH rfl aI) ?_
  refine zz5 hF7 (aY rfl rfl) (zz0 (aK rfl hF7 rfl) ?_)
  refine az (ac ?_)
  exact aA (Sub.cons rfl (zz7 4 rfl))
 ·intro hT7
  refine zz6 hT7 (zz6 hT7 (zz6 hT7 (zz0 (aN rfl hT7 rfl) ?_)))
  refine az (ac ?_)
  exact aA (Sub.cons rfl (zz7 4 rfl))
 refine zz0 (ab rfl) (ad ?_)
 refine ao rfl ?_ ?_ <;> intro h8 <;> try simp only [bs] at h8
 ·refine ah (zz0 (aC rfl Tryz.call162 (fun w hw => oU w)) ?_)
  refine aF cL rfl rfl aU ?_
  refine ad (aD (bv (aB ?_)))
  refine eR mS rfl bT aU (fun w' hw => ?_)
  refine ⟨?_, hw.b0⟩
  unfold jU
  (repeat' split) <;> first | (exfalso; first | (simp_all; done) | grind) | rfl
 refine ah (zz0 (zz1 (off := 2) (ft := 3) rfl af rfl ay) ?_)
 refine zz0 (aH rfl aI) ?_
 refine zz0 (aY rfl rfl) (zz0 (aa rfl) ?_)
 apply bV
 ·exact (rfl : _ = (9, 37, 46))
 ·exact rfl
 ·intro hT9; have hT9' := hT9
  try simp only [bs] at hT9'
  refine zz5 hT9 (aa rfl) (zz5 hT9 (bh rfl) ?_)
  refine zz5 hT9 (zz1 (off := 3) (ft := 224) rfl bC rfl eL) ?_
  refine zz5 hT9 (lK rfl gi) ?_
  refine zz5 hT9 (aa rfl) (zz5 hT9 (gB rfl rfl cQ ay) ?_)
  refine zz5 hT9 (iM rfl aI) ?_
  refine zz5 hT9 (d5 rfl rfl) (zz0 (aN rfl hT9 rfl) ?_)
  refine az (ac ?_)
  exact aA (Sub.cons rfl (zz7 9 rfl))
 ·intro hF9
  refine zz6 hF9 (zz6 hF9 (zz6 hF9 (zz6 hF9 (zz6 hF9 (zz6 hF9 (zz6 hF9 (zz6 hF9 (zz0 (aK rfl hF9 rfl) ?_))))))))
  refine az (ac ?_)
  exact aA (Sub.cons rfl (zz7 9 rfl))
 refine zz0 (ab rfl) (ad ?_)
 refine ao rfl ?_ ?_ <;> intro h10 <;> try simp only [bs] at h10
 ·refine al (fK 0 19 aT ?_)
  refine bH ?_
  refine ax (zz1 (off := 5) (ft := 3) rfl af rfl ay) ?_
  refine ax (aH rfl aI) ?_
  refine ax (aa rfl) (ax (bh rfl) ?_)
  refine ax (zz1 (off := 0) (ft := 50) rfl bC rfl cD) ?_
  refine ax (lK rfl cP) ?_
  refine ax (aa rfl) (ax (bh rfl) ?_)
  refine ax (zz1 (off := 3) (ft := 224) rfl bC rfl eL) ?_
  refine ax (lK rfl gi) ?_
  refine ax (aa rfl) (ax (gB rfl rfl cQ ay) ?_)
  refine ax (iM rfl aI) ?_
  refine ax (m9 rfl rfl aM au) ?_
  refine ax (m8 rfl aQ au) ?_
  refine ax (bE rfl bT aU) ?_
  refine ax (zz1 (off := 1) (ft := 4) rfl hZ rfl bX) ?_
  refine ax (aH rfl cK) ?_
  refine ax (aC rfl Tryz.call269 (fun w hw => AZ (l.getD k default).cc (l.getD (gd.getD k default).toNat default) (st.getD k default) ee.2 w (hIO _ (cS (by omega))))) ?_
  refine bK ?_
  refine aF cL rfl rfl aU ?_
  refine ad (aD (bv (aB ?_)))
  refine eR mS rfl bT aU (fun w' hw => ?_)
  refine ⟨?_, hw.b0⟩
  unfold jU
  (repeat' split) <;> first | (exfalso; first | (simp_all; done) | grind) | rfl
 refine bW (aX (ac (ah (zz0 (bE rfl aQ au) ?_))))
 refine zz0 (bE rfl bT aU) ?_
 refine zz0 (aC rfl Tryz.call270 (fun w hw => xp (l.getD k default) (st.getD k default) w hio)) ?_
 refine aF cL rfl rfl aU ?_
 refine ad (aD ?_)
 refine eR mS rfl bT aU (fun w' hw => ?_)
 refine ⟨?_, hw.b0⟩
 unfold jU
 (repeat' split) <;> first | (exfalso; first | (simp_all; done) | grind) | rfl
end Go.Proofs.YtiajjbhcpeadfaaGreat
namespace Go.HL
open Go
def cE : Enc Bool := ⟨1, fun x => [.bool x], fun _ => rfl, fun x v h => by simp at h; subst h; rfl⟩
structure RV (α : Type) where
 data : List α
 dp : Option Addr
 dc : Nat
instance {α : Type} : Inhabited (RV α) := ⟨⟨[], none, 0⟩⟩
def dD {α : Type} : Enc (RV α) := ⟨1, fun t => [.slice t.dp t.data.length t.dc], fun _ => rfl, fun x v h => by simp at h; subst h; rfl⟩
abbrev rvE {α : Type} (T : TypeId) (E : Enc α) (r : RV α) : Ent := rowE (.slice r.dp r.data.length r.dc) T E r.data
def RvIn {α : Type} (E : Enc α) (h : Hp) (l : List (RV α)) : Prop := ∀ t ∈ l, Sl h E t.data (.slice t.dp t.data.length t.dc)
theorem RvIn.mono {α : Type} {E : Enc α} {h h' : Hp} {l : List (RV α)} (d : RvIn E h l) (hh : Hp.le h h') : RvIn E h' l := fun s hs => (d s hs).mono hh
abbrev EdV := RV (Int × Bool)
abbrev gC : Enc EdV := dD
abbrev Jc (h : Hp) (l : List EdV) : Prop := RvIn eP h l
structure VSt where
 st : List StV
 vs : List Int
 mb : List Bool
def o8 (l : List Ins) (gd : List Int) (k : Nat) (s : VSt) (e : Int × Bool) : StV :=
 if 4 ≤ s.vs.getD e.1.toNat default then vB (s.st.getD e.1.toNat default) (iP (s.st.getD e.1.toNat default) (jU l s.st gd k e) 8) 8
 else iP (s.st.getD e.1.toNat default) (jU l s.st gd k e) 8
def fc (l : List Ins) (gd : List Int) (k : Nat) (s : VSt) (e : Int × Bool) : VSt :=
 if o8 l gd k s e = s.st.getD e.1.toNat default then s else ⟨s.st.set e.1.toNat (o8 l gd k s e), s.vs, s.mb.set e.1.toNat true⟩
def g6 (k : Nat) (s : VSt) : VSt := ⟨s.st, s.vs.set k (s.vs.getD k default + 1), s.mb.set k false⟩
def jw (l : List Ins) (gd : List Int) (es : List (Int × Bool)) (k : Nat) (s : VSt) : VSt := es.foldl (fc l gd k) (g6 k s)
theorem AN (l : List Ins) (gd : List Int) (k : Nat) (s : VSt) (e : Int × Bool) : (fc l gd k s e).st.length = s.st.length ∧ (fc l gd k s e).vs = s.vs ∧ (fc l gd k s e).mb.length = s.mb.length := by
 unfold fc
 split
 ·exact ⟨rfl, rfl, rfl⟩
 ·exact ⟨List.length_set, rfl, List.length_set⟩
theorem nP (l : List Ins) (gd : List Int) (k : Nat) : ∀ (es : List (Int × Bool)) (s : VSt), (es.foldl (fc l gd k) s).st.length = s.st.length ∧ (es.foldl (fc l gd k) s).vs = s.vs ∧ (es.foldl (fc l gd k) s).mb.length = s.mb.length
 | [], s => ⟨rfl, rfl, rfl⟩
 | e :: t, s => by
  have h1 := nP l gd k t (fc l gd k s e)
  have h2 := AN l gd k s e
  exact ⟨h1.1.trans h2.1, h1.2.1.trans h2.2.1, h1.2.2.trans h2.2.2⟩
theorem pT {α β : Type} [Inhabited β] (f : α → β → α) (l : List β) (s : α) {k : Nat} (h : k < l.length) : (l.take (k + 1)).foldl f s = f ((l.take k).foldl f s) (l.getD k default) := by
 rw [dn h, List.foldl_append]; rfl
theorem Fg {l : List Ins} {gd : List Int} {k : Nat} {s : VSt} {es : List (Int × Bool)} {j : Nat} (h : j < es.length) {S : VSt} (hS : S = (es.take j).foldl (fc l gd k) s) (hn : o8 l gd k S (es.getD j default) ≠ S.st.getD (es.getD j default).1.toNat default) :
  (es.take (j + 1)).foldl (fc l gd k) s = ⟨S.st.set (es.getD j default).1.toNat (o8 l gd k S (es.getD j default)), S.vs, S.mb.set (es.getD j default).1.toNat true⟩ := by
 rw [pT _ _ _ h, ← hS]; unfold fc; rw [if_neg hn]
theorem GZ {l : List Ins} {gd : List Int} {k : Nat} {s : VSt} {es : List (Int × Bool)} {j : Nat} (h : j < es.length) {S : VSt} (hS : S = (es.take j).foldl (fc l gd k) s) (hn : o8 l gd k S (es.getD j default) = S.st.getD (es.getD j default).1.toNat default) :
  (es.take (j + 1)).foldl (fc l gd k) s = S := by
 rw [pT _ _ _ h, ← hS]; unfold fc; rw [if_pos hn]
end Go.HL
namespace Go.Proofs.YtiajjbhcpeadfaaGreat
open Go Go.HL Go.RowKit
theorem I8 : StTy Tryz.prog 37 :=
 ⟨⟨26, 25, _, _, co, by decide, rfl, rfl, by kernel_rfl, cp, Tryz.isAgg26, dj, aw, pO _ aw, rfl, qO, aO, ak⟩⟩
theorem I2 : Tryz.prog.eqGuardType Tryz.prog.depth 37 = false := by kernel_rfl
theorem CS (l : List Ins) (gd : List Int) (eds : List EdV) (s : VSt) (bx bm k : Nat) (VI VEd VG VB VV VM : Value) (w : World) (ho : OwnAt w [rowE VB 37 cL s.st, rowE VV 3 bQ s.vs, rowE VM 4 cE s.mb]) (hx : CellsIn (Bg.lessB w (cT [rowE VB 37 cL s.st, rowE VV 3 bQ s.vs, rowE VM 4 cE s.mb]) 0).blk bx [VI, .map (some bm), VEd, VG, VB, VV, VM]) (hI : Sl (Bg.lessB w (cT [rowE VB 37 cL s.st, rowE VV 3 bQ s.vs, rowE VM 4 cE s.mb]) 0).blk aP l VI) (hG : Sl (Bg.lessB w (cT [rowE VB 37 cL s.st, rowE VV 3 bQ s.vs, rowE VM 4 cE s.mb]) 0).blk bQ gd VG) (hE : Sl (Bg.lessB w (cT [rowE VB 37 cL s.st, rowE VV 3 bQ s.vs, rowE VM 4 cE s.mb]) 0).blk gC eds VEd) (hEI : Jc (Bg.lessB w (cT [rowE VB 37 cL s.st, rowE VV 3 bQ s.vs, rowE VM 4 cE s.mb]) 0).blk eds) (hIO : ∀ x ∈ l, InsOK x) (hgl : gd.length = l.length) (hsl : s.st.length = l.length) (hvl : s.vs.length = l.length) (hml : s.mb.length = l.length) (hel : eds.length = l.length) (hgd : ∀ j, j < gd.length → gd.getD j default < (l.length : Int)) (heb : ∀ e ∈ (eds.getD k default).data, 0 ≤ e.1 ∧ e.1 < (l.length : Int)) (hvb : ∀ v ∈ s.vs, 0 ≤ v ∧ v ≤ 1000000) (hk : k < l.length) :
  Calls Tryz.prog 164 #[.pointer (some ⟨bx, 0, none⟩), .int .i64 (k : Nat)] w (fun e w' => ∃ _ : Unit, e = .returned (.tuple #[]) ∧ Upd 0 w w' (cT [rowE VB 37 cL s.st, rowE VV 3 bQ s.vs, rowE VM 4 cE s.mb]) [rowE VB 37 cL (jw l gd (eds.getD k default).data k s).st, rowE VV 3 bQ (jw l gd (eds.getD k default).data k s).vs, rowE VM 4 cE (jw l gd (eds.getD k default).data k s).mb] ∧ True) := by
 have hvk := hvb _ (cS (k := k) (by omega))
 have hEk := hEI _ (cS (k := k) (by omega))
 have hlI := hI.len_le
 have hEl := hEk.len_le
 refine qB (L := [rowE VB 37 cL s.st, rowE VV 3 bQ s.vs, rowE VM 4 cE s.mb]) ho rfl (Nat.zero_le _) Tryz.func164 rfl Tryz.ntmps164 rfl ?_
 refine ah (zz0 (aa rfl) (zz0 (bh rfl) ?_))
 refine zz0 (zz1 (off := 6) (ft := 225) rfl bC rfl lB) ?_
 refine zz0 (lK rfl mA) ?_
 refine zz0 (aa rfl) (zz0 (dm rfl rfl eH bX) ?_)
 refine f9 (l := s.mb) (i := k) (false) rfl rfl bX ?_
 have hls1 : (List.set s.mb (k) (false)).length = (s.mb).length := List.length_set
 refine aL (zz0 (aa rfl) (zz0 (bh rfl) ?_))
 refine zz0 (zz1 (off := 5) (ft := 224) rfl bC rfl eL) ?_
 refine zz0 (lK rfl gi) ?_
 refine zz0 (aa rfl) (zz0 (dm rfl rfl cQ ay) ?_)
 refine zz0 (er rfl aI) ?_
 refine zz0 (cx rfl rfl) ?_
 refine zz0 (dm rfl rfl cQ ay) ?_
 refine f9 (l := s.vs) (i := k) ((s.vs.getD k default + 1)) rfl rfl ay ?_
 have hls2 : (List.set s.vs (k) ((s.vs.getD k default + 1))).length = (s.vs).length := List.length_set
 refine aL (zz0 (aa rfl) (zz0 (bh rfl) ?_))
 refine zz0 (zz1 (off := 2) (ft := 226) rfl bC rfl kc) ?_
 refine zz0 (lK rfl Tryz.isAgg226) ?_
 refine zz0 (aa rfl) (zz0 (gB rfl rfl ia jm) ?_)
 refine zz0 (iM rfl Tryz.isAgg272) ?_
 refine zz0 (fJ rfl gl) ?_
 refine zz0 (aa rfl) (ad (aG ?_))
 change Tr _ _ [rowE VB 37 cL (((eds.getD k default).data.take 0).foldl (fc l gd k) (g6 k s)).st, rowE VV 3 bQ (((eds.getD k default).data.take 0).foldl (fc l gd k) (g6 k s)).vs, rowE VM 4 cE (((eds.getD k default).data.take 0).foldl (fc l gd k) (g6 k s)).mb] _ _
 refine bN (ι := Nat) (fun j => j ≤ (eds.getD k default).data.length) (fun _ => (Bg.lessB w (cT [rowE VB 37 cL s.st, rowE VV 3 bQ s.vs, rowE VM 4 cE s.mb]) 0)) (fun j => [rowE VB 37 cL (((eds.getD k default).data.take j).foldl (fc l gd k) (g6 k s)).st, rowE VV 3 bQ (((eds.getD k default).data.take j).foldl (fc l gd k) (g6 k s)).vs, rowE VM 4 cE (((eds.getD k default).data.take j).foldl (fc l gd k) (g6 k s)).mb]) (fun j => [(32, .int .i64 (j : Nat))]) (fun j => (eds.getD k default).data.length - j) 0 (Nat.zero_le _) (Front.c Front.nil) (by repeat' constructor) rfl (fun j hi m hm => ?_)
 replace hi : j ≤ (eds.getD k default).data.length := hi
 replace hm : m = (eds.getD k default).data.length - j := hm
 change Tr _ _ [rowE VB 37 cL (((eds.getD k default).data.take j).foldl (fc l gd k) (g6 k s)).st, rowE VV 3 bQ (((eds.getD k default).data.take j).foldl (fc l gd k) (g6 k s)).vs, rowE VM 4 cE (((eds.getD k default).data.take j).foldl (fc l gd k) (g6 k s)).mb] ([(32, .int .i64 (j : Nat))] ++ _) _
 obtain ⟨S, hS⟩ : ∃ S, S = (((eds.getD k default).data.take j).foldl (fc l gd k) (g6 k s)) := ⟨_, rfl⟩
 rw [← hS]
 have hvf := nP l gd k ((eds.getD k default).data.take j) (g6 k s)
 rw [← hS] at hvf
 have hSt : S.st.length = l.length := hvf.1.trans hsl
 have hSm : S.mb.length = l.length := hvf.2.2.trans (List.length_set.trans hml)
 have hSv : S.vs.length = l.length := (congrArg List.length hvf.2.1).trans (List.length_set.trans hvl)
 refine ah (zz0 (bS rfl rfl) (ad (al ?_)))
 refine ao rfl ?_ ?_ <;> intro h3 <;> try simp only [bs] at h3
 ·refine bB (al (aG (al ?_)))
  have hej := heb _ (cS (k := j) (by omega))
  refine ar (zz0 (gB rfl rfl gl jl) ?_)
  refine zz0 (m8 rfl Tryz.isAgg274 jl) ?_
  refine dA lh rfl (fun b4 => ?_)
  refine aF eP rfl rfl jl ?_
  refine ad ?_
  refine db (ι := Nat) (fun bo => True) (fun _ => (Bg.lessB w (cT [rowE VB 37 cL s.st, rowE VV 3 bQ s.vs, rowE VM 4 cE s.mb]) 0)) (fun bo => [cellE bo (cL.enc (S.st.getD ((eds.getD k default).data.getD j default).1.toNat default)) 37, cellE b4 (eP.enc ((eds.getD k default).data.getD j default)) 274, rowE VB 37 cL S.st, rowE VV 3 bQ S.vs, rowE VM 4 cE S.mb]) (fun bo => [(6, .pointer (some ⟨bo, 0, none⟩))]) ?_ (fun bo hi => ?_)
  ·skip
   refine dG ([cellE b4 (eP.enc ((eds.getD k default).data.getD j default)) 274, rowE VB 37 cL S.st, rowE VV 3 bQ S.vs, rowE VM 4 cE S.mb]) 10 rfl aT ?_
   refine zz3 0 rfl (aa rfl) ?_
   refine zz3 1 rfl (bh rfl) ?_
   refine zz3 2 rfl (zz1 (off := 4) (ft := 177) rfl bC rfl eM) ?_
   refine zz3 3 rfl (lK rfl gQ) ?_
   refine zz3 4 rfl (zz1 (off := 0) (ft := 3) rfl hZ rfl ay) ?_
   refine zz3 5 rfl (aH rfl aI) ?_
   refine zz3 6 rfl (jv rfl rfl dS aU) ?_
   refine zz3 7 rfl (mF rfl bT aU) ?_
   refine dh [8] (fun iq hq => ?_)
   obtain rfl := List.mem_singleton.1 hq
   refine bD rfl ?_
   refine dA cR rfl (fun b5 => ?_)
   refine bU ?_
   refine dh [9] (fun iq hq => ?_)
   obtain rfl := List.mem_singleton.1 hq
   refine bD rfl ?_
   refine aF cL rfl rfl aU ?_
   refine bU ?_
   refine gI ?_
   refine ac ?_
   refine cw _ (Front.c Front.nil) (bA 9 rfl) (o := trivial)
  skip
  replace hi : True := hi
  change Tr _ _ [cellE bo (cL.enc (S.st.getD ((eds.getD k default).data.getD j default).1.toNat default)) 37, cellE b4 (eP.enc ((eds.getD k default).data.getD j default)) 274, rowE VB 37 cL S.st, rowE VV 3 bQ S.vs, rowE VM 4 cE S.mb] ([(6, .pointer (some ⟨bo, 0, none⟩))] ++ _) _
  refine db (ι := Nat) (fun bn => True) (fun _ => (Bg.lessB w (cT [rowE VB 37 cL s.st, rowE VV 3 bQ s.vs, rowE VM 4 cE s.mb]) 0)) (fun bn => [cellE bn (cL.enc (iP (S.st.getD ((eds.getD k default).data.getD j default).1.toNat default) (jU l S.st gd k ((eds.getD k default).data.getD j default)) 8)) 37, cellE bo (cL.enc (S.st.getD ((eds.getD k default).data.getD j default).1.toNat default)) 37, cellE b4 (eP.enc ((eds.getD k default).data.getD j default)) 274, rowE VB 37 cL S.st, rowE VV 3 bQ S.vs, rowE VM 4 cE S.mb]) (fun bn => [(7, .pointer (some ⟨bn, 0, none⟩))]) ?_ (fun bn hi => ?_)
  ·skip
   refine dG ([cellE bo (cL.enc (S.st.getD ((eds.getD k default).data.getD j default).1.toNat default)) 37, cellE b4 (eP.enc ((eds.getD k default).data.getD j default)) 274, rowE VB 37 cL S.st, rowE VV 3 bQ S.vs, rowE VM 4 cE S.mb]) 8 rfl aT ?_
   refine zz3 0 rfl (bE rfl bT aU) ?_
   refine zz3 1 rfl (aa rfl) ?_
   refine zz3 2 rfl (aa rfl) ?_
   refine zz3 3 rfl (bE rfl Tryz.isAgg274 jl) ?_
   refine dh [4, 6] (fun iq hq => ?_)
   rcases List.mem_cons.1 hq with rfl | hq
   ·skip
    refine bD rfl ?_
    refine zz0 (aC rfl Tryz.call226 (fun w hw => wZ l _ gd bx bm VI VEd VG VB VV VM k _ w (hx.mono hw.bg) (hw.slF hI) (hw.slF hG) (hw.row (by repeat constructor)) hIO hgl (by omega) hgd hk)) ?_
    refine bU ?_
    refine dh [5, 6] (fun iq hq => ?_)
    rcases List.mem_cons.1 hq with rfl | hq
    ·skip
     refine bD rfl ?_
     refine zz0 (aC rfl ox (fun w hw => ob _ _ w)) ?_
     refine bU ?_
     refine dh [6] (fun iq hq => ?_)
     obtain rfl := List.mem_singleton.1 hq
     refine bD rfl ?_
     refine dA cR rfl (fun b6 => ?_)
     refine bU ?_
     refine dh [7] (fun iq hq => ?_)
     obtain rfl := List.mem_singleton.1 hq
     refine bD rfl ?_
     refine aF cL rfl rfl aU ?_
     refine bU ?_
     refine gI ?_
     refine ac ?_
     refine cw _ (Front.c Front.nil) (bA 7 rfl) (o := trivial)
    obtain rfl := List.mem_singleton.1 hq
    refine bD rfl ?_
    refine dA cR rfl (fun b7 => ?_)
    refine bU ?_
    refine dh [5] (fun iq hq => ?_)
    obtain rfl := List.mem_singleton.1 hq
    refine bD rfl ?_
    refine zz0 (aC rfl ox (fun w hw => ob _ _ w)) ?_
    refine bU ?_
    refine dh [7] (fun iq hq => ?_)
    obtain rfl := List.mem_singleton.1 hq
    refine bD rfl ?_
    refine aF cL rfl rfl aU ?_
    refine bU ?_
    refine gI ?_
    refine ac ?_
    refine cw _ (Front.c Front.nil) (bA 7 rfl) (o := trivial)
   obtain rfl := List.mem_singleton.1 hq
   refine bD rfl ?_
   refine dA cR rfl (fun b8 => ?_)
   refine bU ?_
   refine dh [4] (fun iq hq => ?_)
   obtain rfl := List.mem_singleton.1 hq
   refine bD rfl ?_
   refine zz0 (aC rfl Tryz.call226 (fun w hw => wZ l _ gd bx bm VI VEd VG VB VV VM k _ w (hx.mono hw.bg) (hw.slF hI) (hw.slF hG) (hw.row (by repeat constructor)) hIO hgl (by omega) hgd hk)) ?_
   refine bU ?_
   refine dh [5] (fun iq hq => ?_)
   obtain rfl := List.mem_singleton.1 hq
   refine bD rfl ?_
   refine zz0 (aC rfl ox (fun w hw => ob _ _ w)) ?_
   refine bU ?_
   refine dh [7] (fun iq hq => ?_)
   obtain rfl := List.mem_singleton.1 hq
   refine bD rfl ?_
   refine aF cL rfl rfl aU ?_
   refine bU ?_
   refine gI ?_
   refine ac ?_
   refine cw _ (Front.c Front.nil) (bA 7 rfl) (o := trivial)
  skip
  replace hi : True := hi
  change Tr _ _ [cellE bn (cL.enc (iP (S.st.getD ((eds.getD k default).data.getD j default).1.toNat default) (jU l S.st gd k ((eds.getD k default).data.getD j default)) 8)) 37, cellE bo (cL.enc (S.st.getD ((eds.getD k default).data.getD j default).1.toNat default)) 37, cellE b4 (eP.enc ((eds.getD k default).data.getD j default)) 274, rowE VB 37 cL S.st, rowE VV 3 bQ S.vs, rowE VM 4 cE S.mb] ([(7, .pointer (some ⟨bn, 0, none⟩))] ++ _) _
  refine db (ι := StV) (fun x1 => x1 = o8 l gd k S ((eds.getD k default).data.getD j default)) (fun _ => (Bg.lessB w (cT [rowE VB 37 cL s.st, rowE VV 3 bQ s.vs, rowE VM 4 cE s.mb]) 0)) (fun x1 => [cellE bn (cL.enc x1) 37, cellE bo (cL.enc (S.st.getD ((eds.getD k default).data.getD j default).1.toNat default)) 37, cellE b4 (eP.enc ((eds.getD k default).data.getD j default)) 274, rowE VB 37 cL S.st, rowE VV 3 bQ S.vs, rowE VM 4 cE S.mb]) (fun x1 => []) ?_ (fun x1 hi => ?_)
  ·skip
   refine al (gZ aT ?_)
   refine ax (aa rfl) (ax (bh rfl) ?_)
   refine ax (zz1 (off := 5) (ft := 224) rfl bC rfl eL) ?_
   refine ax (lK rfl gi) ?_
   refine ax (zz1 (off := 0) (ft := 3) rfl hZ rfl ay) ?_
   refine ax (aH rfl aI) ?_
   refine ax (jv rfl rfl cQ ay) ?_
   refine ax (er rfl aI) ?_
   refine ax (d5 rfl rfl) (bK ?_)
   refine ac ?_
   refine ao rfl ?_ ?_ <;> intro h9 <;> try simp only [bs] at h9
   ·refine ah (zz0 (aa rfl) (ad (aG ?_)))
    refine bN (ι := Nat) (fun r => r ≤ 8) (fun _ => (Bg.lessB w (cT [rowE VB 37 cL s.st, rowE VV 3 bQ s.vs, rowE VM 4 cE s.mb]) 0)) (fun r => [cellE bn (cL.enc (vB (S.st.getD ((eds.getD k default).data.getD j default).1.toNat default) (iP (S.st.getD ((eds.getD k default).data.getD j default).1.toNat default) (jU l S.st gd k ((eds.getD k default).data.getD j default)) 8) r)) 37, cellE bo (cL.enc (S.st.getD ((eds.getD k default).data.getD j default).1.toNat default)) 37, cellE b4 (eP.enc ((eds.getD k default).data.getD j default)) 274, rowE VB 37 cL S.st, rowE VV 3 bQ S.vs, rowE VM 4 cE S.mb]) (fun r => [(59, .int .i64 (r : Nat))]) (fun r => 8 - r) 0 (Nat.zero_le _) (Front.c Front.nil) (by repeat' constructor) rfl (fun r hi m hm => ?_)
    replace hi : r ≤ 8 := hi
    replace hm : m = 8 - r := hm
    change Tr _ _ [cellE bn (cL.enc (vB (S.st.getD ((eds.getD k default).data.getD j default).1.toNat default) (iP (S.st.getD ((eds.getD k default).data.getD j default).1.toNat default) (jU l S.st gd k ((eds.getD k default).data.getD j default)) 8) r)) 37, cellE bo (cL.enc (S.st.getD ((eds.getD k default).data.getD j default).1.toNat default)) 37, cellE b4 (eP.enc ((eds.getD k default).data.getD j default)) 274, rowE VB 37 cL S.st, rowE VV 3 bQ S.vs, rowE VM 4 cE S.mb] ([(59, .int .i64 (r : Nat))] ++ _) _
    have hgr := yN (S.st.getD ((eds.getD k default).data.getD j default).1.toNat default) (iP (S.st.getD ((eds.getD k default).data.getD j default).1.toNat default) (jU l S.st gd k ((eds.getD k default).data.getD j default)) 8) r hi r (Nat.le_refl _)
    refine ah (zz0 (bS rfl rfl) (ad (al ?_)))
    refine ao rfl ?_ ?_ <;> intro h10 <;> try simp only [bs] at h10
    ·refine bB (al (aG (ah (zz0 (aa rfl) (zz0 (ab rfl) (ad (fK 0 12 aT ?_)))))))
     refine bH ?_
     refine ax (aa rfl) (ax (aa rfl) (ax (zz1 (off := 0) (ft := 26) rfl co rfl dj) ?_))
     refine ax (dL rfl rfl cp ak (by omega)) ?_
     refine ax (gr (vs := bR.enc ((S.st.getD ((eds.getD k default).data.getD j default).1.toNat default).get (r : Int))) rfl (by repeat constructor) aO ak (kY ⟨by omega, by omega⟩ (by simp)) rfl) ?_
     refine ax (aa rfl) (ax (zz1 (off := 0) (ft := 26) rfl co rfl dj) ?_)
     refine ax (dL rfl rfl cp ak (by omega)) ?_
     refine ax (gr (vs := bR.enc ((vB (S.st.getD ((eds.getD k default).data.getD j default).1.toNat default) (iP (S.st.getD ((eds.getD k default).data.getD j default).1.toNat default) (jU l S.st gd k ((eds.getD k default).data.getD j default)) 8) r).get (r : Int))) rfl (by repeat constructor) aO ak (kY ⟨by omega, by omega⟩ (by simp)) rfl) ?_
     refine ax (aC rfl Tryz.call227 (fun w hw => Eb _ _ w)) ?_
     refine ax (zz1 (off := 0) (ft := 26) rfl co rfl dj) ?_
     refine ax (dL rfl rfl cp ak (by omega)) ?_
     refine bK ?_
     refine fY rfl rfl ak (by repeat constructor) ((kX (s := vB (S.st.getD ((eds.getD k default).data.getD j default).1.toNat default) (iP (S.st.getD ((eds.getD k default).data.getD j default).1.toNat default) (jU l S.st gd k ((eds.getD k default).data.getD j default)) 8) r) (k := (r : Int)) ⟨by omega, by omega⟩ (by simp) (lL ((S.st.getD ((eds.getD k default).data.getD j default).1.toNat default).get (r : Int)) ((vB (S.st.getD ((eds.getD k default).data.getD j default).1.toNat default) (iP (S.st.getD ((eds.getD k default).data.getD j default).1.toNat default) (jU l S.st gd k ((eds.getD k default).data.getD j default)) 8) r).get (r : Int)))).trans (congrArg cL.enc (show _ = vB (S.st.getD ((eds.getD k default).data.getD j default).1.toNat default) (iP (S.st.getD ((eds.getD k default).data.getD j default).1.toNat default) (jU l S.st gd k ((eds.getD k default).data.getD j default)) 8) (r + 1) by rw [hgr (by omega)]; rfl))) (by rfl) (kZ (k := (r : Int)) ⟨by omega, by omega⟩ (by simp)) (by first | exact Enc.one bR _ | exact List.all_eq_true.1 rfl) rfl ?_
     refine az (aX (ac (ar (zz0 (cx rfl rfl) ?_))))
     refine zz0 (aa rfl) (ad ?_)
     refine cC (r + 1) (Front.c Front.nil) (bA 18 rfl) (o := (by show r + 1 ≤ _; omega))
    refine bG (aJ (aJ (bj (ac ?_))))
    refine cw _ Front.nil (bA 12 rfl) (o := (by show _ = _; unfold o8; rw [if_pos (by assumption), show r = 8 by omega]))
   refine bB ?_
   refine cw _ Front.nil (bA 9 rfl) (o := (by show _ = _; unfold o8; rw [if_neg (by assumption)]))
  skip
  replace hi : x1 = o8 l gd k S ((eds.getD k default).data.getD j default) := hi
  change Tr _ _ [cellE bn (cL.enc x1) 37, cellE bo (cL.enc (S.st.getD ((eds.getD k default).data.getD j default).1.toNat default)) 37, cellE b4 (eP.enc ((eds.getD k default).data.getD j default)) 274, rowE VB 37 cL S.st, rowE VV 3 bQ S.vs, rowE VM 4 cE S.mb] ([] ++ _) _
  have hx1 := hi
  refine ah (zz0 (bE rfl bT aU) ?_)
  refine zz0 (bE rfl bT aU) ?_
  refine zz0 (Gs rfl rfl I8 I2) ?_
  refine ad ?_
  refine ao rfl ?_ ?_ <;> intro h11 <;> try simp only [bs] at h11
  ·refine al (fK 0 8 aT ?_)
   refine bH ?_
   refine ax (aa rfl) (ax (bh rfl) ?_)
   refine ax (zz1 (off := 4) (ft := 177) rfl bC rfl eM) ?_
   refine ax (lK rfl gQ) ?_
   refine ax (zz1 (off := 0) (ft := 3) rfl hZ rfl ay) ?_
   refine ax (aH rfl aI) ?_
   refine ax (bE rfl bT aU) ?_
   refine ax (jv rfl rfl dS aU) ?_
   refine bK ?_
   refine f9 (l := S.st) (i := ((eds.getD k default).data.getD j default).1.toNat) (x1) rfl rfl aU ?_
   have hls12 : (List.set S.st (((eds.getD k default).data.getD j default).1.toNat) (x1)).length = (S.st).length := List.length_set
   refine ad (fK 0 7 aT ?_)
   refine bH ?_
   refine ax (aa rfl) (ax (bh rfl) ?_)
   refine ax (zz1 (off := 6) (ft := 225) rfl bC rfl lB) ?_
   refine ax (lK rfl mA) ?_
   refine ax (zz1 (off := 0) (ft := 3) rfl hZ rfl ay) ?_
   refine ax (aH rfl aI) ?_
   refine ax (jv rfl rfl eH bX) ?_
   refine bK ?_
   refine f9 (l := S.mb) (i := ((eds.getD k default).data.getD j default).1.toNat) (true) rfl rfl bX ?_
   have hls13 : (List.set S.mb (((eds.getD k default).data.getD j default).1.toNat) (true)).length = (S.mb).length := List.length_set
   refine az (aX (ac (ar (zz0 (cx rfl rfl) ?_))))
   refine zz0 (aa rfl) (ad ?_)
   have hne : o8 l gd k S ((eds.getD k default).data.getD j default) ≠ (S.st.getD ((eds.getD k default).data.getD j default).1.toNat default) := by rw [← hx1]; assumption
   have hfy := Fg (by omega) hS hne
   rw [← hx1] at hfy
   apply ie (j + 1)
   ·exact rfl
   ·exact (Front.c Front.nil)
   ·exact bA 27 rfl
   ·exact (by show Pick _ [rowE VB 37 cL (((eds.getD k default).data.take (j + 1)).foldl (fc l gd k) (g6 k s)).st, rowE VV 3 bQ (((eds.getD k default).data.take (j + 1)).foldl (fc l gd k) (g6 k s)).vs, rowE VM 4 cE (((eds.getD k default).data.take (j + 1)).foldl (fc l gd k) (g6 k s)).mb]; rw [hfy]; repeat' (first | exact Pick.nil _ | exact Del.here _ | apply Pick.cons | apply Del.there))
   ·exact (by show j + 1 ≤ _; omega)
   exact (by (try dsimp only); omega)
  refine bW (aX (ac (ar (zz0 (cx rfl rfl) ?_))))
  refine zz0 (aa rfl) (ad ?_)
  have hne : o8 l gd k S ((eds.getD k default).data.getD j default) = (S.st.getD ((eds.getD k default).data.getD j default).1.toNat default) := by rw [← hx1]; assumption
  have hfn := GZ (by omega) hS hne
  apply ie (j + 1)
  ·exact rfl
  ·exact (Front.c Front.nil)
  ·exact bA 12 rfl
  ·exact (by show Pick _ [rowE VB 37 cL (((eds.getD k default).data.take (j + 1)).foldl (fc l gd k) (g6 k s)).st, rowE VV 3 bQ (((eds.getD k default).data.take (j + 1)).foldl (fc l gd k) (g6 k s)).vs, rowE VM 4 cE (((eds.getD k default).data.take (j + 1)).foldl (fc l gd k) (g6 k s)).mb]; rw [hfn]; repeat' (first | exact Pick.nil _ | exact Del.here _ | apply Pick.cons | apply Del.there))
  ·exact (by show j + 1 ≤ _; omega)
  exact (by (try dsimp only); omega)
 refine bG (aJ (aJ (bj ?_)))
 refine fq Tryz.results164 (fun w' hw => ?_)
 have hSS : jw l gd (eds.getD k default).data k s = S := by rw [hS, show j = (eds.getD k default).data.length by omega, List.take_length]; rfl
 rw [hSS]
 exact ⟨(), rfl, hw.upd (Bg.le.refl _) (by repeat' constructor), trivial⟩
end Go.Proofs.YtiajjbhcpeadfaaGreat
namespace Go.HL
open Go
theorem po {α : Type} {l : List α} {k j : Nat} {x d : α} : (l.set k x).getD j d = if k = j ∧ k < l.length then x else l.getD j d := by
 simp only [List.getD_eq_getElem?_getD, List.getElem?_set]
 by_cases h : k = j
 ·subst h
  by_cases h2 : k < l.length
  ·simp [h2]
  ·simp [h2]
 ·simp [h]
def dU (l : List Ins) (a : UInt32) : Int := dF (fun i : Ins => decide (i.addr = a)) 0 l
theorem Ch {α : Type} [Inhabited α] (p : α → Bool) : ∀ (l : List α) (k j : Nat), j < l.length → p (l.getD j default) = true → 0 ≤ dF p k l ∧ dF p k l ≤ (k + j : Nat)
 | [], k, j, h, _ => by simp at h
 | x :: l, k, j, h, hp => by
  unfold dF
  by_cases hx : p x = true
  ·rw [if_pos hx]; omega
  ·rw [if_neg hx]
   cases j with
   | zero => exact absurd hp hx
   | succ j =>
    have := Ch p l (k + 1) j (by simpa using h) hp
    omega
theorem zU {l : List Ins} {k : Nat} (h : k < l.length) : 0 ≤ dU l (l.getD k default).addr ∧ dU l (l.getD k default).addr ≤ k := by
 have := Ch (fun i : Ins => decide (i.addr = (l.getD k default).addr)) l 0 k h (by simp)
 unfold dU; omega
theorem zV {l : List Ins} {a : UInt32} (h : 0 ≤ dU l a) : (l.getD (dU l a).toNat default).addr = a := by
 have := (xY (fun i : Ins => decide (i.addr = a)) l 0 h).2
 rw [Int.natCast_zero, Int.sub_zero] at this
 exact of_decide_eq_true this
theorem rz (l : List Ins) (a : UInt32) : -1 ≤ dU l a ∧ dU l a < l.length := by
 have := jQ (fun i : Ins => decide (i.addr = a)) l 0
 unfold dU; omega
def atK (l : List Ins) : Nat → List (UInt32 × Int)
 | 0 => []
 | k + 1 => if (dN (atK l k) (l.getD k default).addr).isSome = true then atK l k else fh (atK l k) (l.getD k default).addr (k : Int)
theorem yp (l : List Ins) (a : UInt32) : ∀ (k : Nat), k ≤ l.length → dN (atK l k) a = if 0 ≤ dU l a ∧ dU l a < k then some (dU l a) else none
 | 0, _ => by simp only [atK, dN]; rw [if_neg (by omega)]
 | k + 1, h => by
  have ih := yp l a k (by omega)
  have ihb := yp l (l.getD k default).addr k (by omega)
  have hf := zU (l := l) (k := k) (by omega)
  unfold atK
  by_cases hs : (dN (atK l k) (l.getD k default).addr).isSome = true
  ·rw [if_pos hs, ih]
   have hk : dU l (l.getD k default).addr < k := by
    rw [ihb] at hs; split at hs
    ·omega
    ·simp at hs
   have hne : dU l a ≠ (k : Int) := by
    intro e
    have h1 := zV (l := l) (a := a) (by omega)
    rw [e, Int.toNat_natCast] at h1
    rw [h1] at hk; omega
   by_cases hc : 0 ≤ dU l a ∧ dU l a < k
   ·rw [if_pos hc, if_pos (by omega)]
   ·rw [if_neg hc, if_neg (by omega)]
  ·rw [if_neg hs, uP, ih]
   have hk : dU l (l.getD k default).addr = k := by
    rw [ihb] at hs
    by_cases hc : 0 ≤ dU l (l.getD k default).addr ∧ dU l (l.getD k default).addr < k
    ·rw [if_pos hc] at hs; simp at hs
    ·omega
   by_cases ha : a = (l.getD k default).addr
   ·subst ha
    rw [if_pos rfl, hk, if_pos (by omega)]
   ·rw [if_neg ha]
    have hne : dU l a ≠ (k : Int) := by
     intro e
     have h1 := zV (l := l) (a := a) (by omega)
     rw [e, Int.toNat_natCast] at h1
     exact ha h1.symm
    by_cases hc : 0 ≤ dU l a ∧ dU l a < k
    ·rw [if_pos hc, if_pos (by omega)]
    ·rw [if_neg hc, if_neg (by omega)]
theorem By (l : List Ins) (a : UInt32) : dN (atK l l.length) a = if dU l a < 0 then none else some (dU l a) := by
 have h := rz l a
 rw [yp l a l.length (Nat.le_refl _)]
 by_cases hc : dU l a < 0
 ·rw [if_pos hc, if_neg (by omega)]
 ·rw [if_neg hc, if_pos (by omega)]
structure CSt where
 es : List (List (Int × Bool))
 into : List (List Int)
def stepJ (l : List Ins) (k : Nat) (s : CSt) (n : Nat) : CSt :=
 if dU l ((dP (l.getD k default)).getD n default) < 0 then s
 else ⟨s.es.set k (s.es.getD k [] ++ [(dU l ((dP (l.getD k default)).getD n default), decide ((n : Int) = 0))]),
  s.into.set (dU l ((dP (l.getD k default)).getD n default)).toNat (s.into.getD (dU l ((dP (l.getD k default)).getD n default)).toNat [] ++ [(k : Int)])⟩
def ju (l : List Ins) (k : Nat) (s : CSt) : Nat → CSt
 | 0 => s
 | n + 1 => stepJ l k (ju l k s n) n
def jD (l : List Ins) : Nat → CSt
 | 0 => ⟨List.replicate l.length [], List.replicate l.length []⟩
 | k + 1 => if dU l (l.getD k default).addr = k then ju l k (jD l k) (dP (l.getD k default)).length else jD l k
def mL (l : List Ins) (e : Nat) (into : List (List Int)) (k : Nat) : Int :=
 if (l.getD k default).op = 20 ∧ ij (l.getD k default) = 0 ∧ (l.getD k default).addr ≠ (l.getD e default).addr ∧ (into.getD k []).length = 1 ∧ Bq (l.getD ((into.getD k []).getD 0 default).toNat default) = true
 then (into.getD k []).getD 0 default else -1
def k9 (l : List Ins) : List (List (Int × Bool)) := (jD l l.length).es
def eX (l : List Ins) (e : Nat) : List Int := (List.range l.length).map (mL l e (jD l l.length).into)
structure COk (l : List Ins) (s : CSt) (k : Nat) : Prop where
 le : s.es.length = l.length
 li : s.into.length = l.length
 e : ∀ t ∈ s.es, ∀ x ∈ t, 0 ≤ x.1 ∧ x.1 < (l.length : Int)
 i : ∀ t ∈ s.into, ∀ x ∈ t, 0 ≤ x ∧ x < (l.length : Int)
 eb : ∀ j, (s.es.getD j []).length ≤ 2
 ib : ∀ j, (s.into.getD j []).length ≤ 2 * k
theorem uQ {α : Type} {l : List α} {k : Nat} {x y : α} (h : y ∈ l.set k x) : y = x ∨ y ∈ l := by
 rcases List.mem_or_eq_of_mem_set h with h | h
 ·exact .inr h
 ·exact .inl h
theorem getD_mem {α : Type} {l : List (List α)} {k : Nat} {x : α} (h : x ∈ l.getD k []) : l.getD k [] ∈ l := by
 by_cases hk : k < l.length
 ·have := cS (l := l) hk
  have e : (default : List α) = [] := rfl
  rwa [e] at this
 ·rw [List.getD_eq_getElem?_getD, List.getElem?_eq_none (by omega)] at h; simp at h
theorem pE {l : List Ins} {k : Nat} {s : CSt} (hk : k < l.length) (h : COk l s k) (h0 : (s.es.getD k []).length = 0) : ∀ n, n ≤ 2 → 
    (ju l k s n).es.length = l.length ∧ (ju l k s n).into.length = l.length ∧ (∀ t ∈ (ju l k s n).es, ∀ x ∈ t, 0 ≤ x.1 ∧ x.1 < (l.length : Int)) ∧ (∀ t ∈ (ju l k s n).into, ∀ x ∈ t, 0 ≤ x ∧ x < (l.length : Int)) ∧
    (∀ j, ((ju l k s n).es.getD j []).length ≤ if j = k then n else 2) ∧ (∀ j, ((ju l k s n).into.getD j []).length ≤ 2 * k + n) ∧ (∀ j, j ≠ k → (ju l k s n).es.getD j [] = s.es.getD j [])
  | 0, _ => ⟨h.le, h.li, h.e, h.i, fun j => by
      by_cases hj : j = k
      · rw [if_pos hj, hj]; exact Nat.le_of_eq h0
      · rw [if_neg hj]; exact h.eb j, h.ib, fun _ _ => rfl⟩
  | n + 1, hn => by
    obtain ⟨h1, h2, h3, h4, h5, h6, h7⟩ := pE hk h h0 n (by omega)
    simp only [ju]
    have hf := rz l ((dP (l.getD k default)).getD n default)
    unfold stepJ
    by_cases hc : dU l ((dP (l.getD k default)).getD n default) < 0
    · rw [if_pos hc]
      refine ⟨h1, h2, h3, h4, fun j => ?_, fun j => Nat.le_trans (h6 j) (by omega), h7⟩
      have := h5 j
      split at this <;> rename_i q
      · rw [if_pos q]; omega
      · rw [if_neg q]; omega
    · rw [if_neg hc]
      refine ⟨by rw [List.length_set]; exact h1, by rw [List.length_set]; exact h2, fun t ht x hx => ?_, fun t ht x hx => ?_, fun j => ?_, fun j => ?_, fun j hj => ?_⟩
      · rcases uQ ht with rfl | ht
        · rcases List.mem_append.1 hx with hx | hx
          · exact h3 _ (getD_mem hx) x hx
          · rw [List.mem_singleton.1 hx]; exact ⟨by omega, hf.2⟩
        · exact h3 t ht x hx
      · rcases uQ ht with rfl | ht
        · rcases List.mem_append.1 hx with hx | hx
          · exact h4 _ (getD_mem hx) x hx
          · rw [List.mem_singleton.1 hx]; omega
        · exact h4 t ht x hx
      · rw [po]
        have hkk := h5 k
        rw [if_pos rfl] at hkk
        by_cases hj : j = k
        · subst hj
          rw [if_pos ⟨rfl, by omega⟩, if_pos rfl, List.length_append]
          simp only [List.length_cons, List.length_nil]; omega
        · rw [if_neg (by omega), if_neg hj]
          have := h5 j; rw [if_neg hj] at this; exact this
      · rw [po]
        split
        · rename_i q
          rw [List.length_append]
          have := h6 (dU l ((dP (l.getD k default)).getD n default)).toNat
          simp only [List.length_cons, List.length_nil]; omega
        · exact Nat.le_trans (h6 j) (by omega)
      · rw [po, if_neg (by omega)]; exact h7 j hj
theorem ve (l : List Ins) : ∀ k, k ≤ l.length → COk l (jD l k) k ∧ ∀ j, k ≤ j → (jD l k).es.getD j [] = []
 | 0, _ => by
  refine ⟨⟨by simp [jD], by simp [jD], fun t ht x hx => ?_, fun t ht x hx => ?_, fun j => ?_, fun j => ?_⟩, fun j _ => ?_⟩
  ·rw [(List.mem_replicate.1 ht).2] at hx; simp at hx
  ·rw [(List.mem_replicate.1 ht).2] at hx; simp at hx
  all_goals
   simp only [jD, List.getD_eq_getElem?_getD, List.getElem?_replicate]
   split <;> simp
 | k + 1, h => by
  obtain ⟨ih, ihe⟩ := ve l k (by omega)
  unfold jD
  split
  ·have hsl : (dP (l.getD k default)).length ≤ 2 := j7 _
   obtain ⟨h1, h2, h3, h4, h5, h6, h7⟩ := pE (l := l) (k := k) (by omega) ih (by rw [ihe k (Nat.le_refl _)]; rfl) _ hsl
   exact ⟨⟨h1, h2, h3, h4, fun j => Nat.le_trans (h5 j) (by split <;> omega), fun j => Nat.le_trans (h6 j) (by omega)⟩, fun j hj => by rw [h7 j (by omega)]; exact ihe j (by omega)⟩
  ·exact ⟨⟨ih.le, ih.li, ih.e, ih.i, ih.eb, fun j => Nat.le_trans (ih.ib j) (by omega)⟩, fun j hj => ihe j (by omega)⟩
theorem rD (l : List Ins) {k : Nat} (h : k ≤ l.length) : COk l (jD l k) k := (ve l k h).1
theorem Dz (l : List Ins) (e k : Nat) : mL l e (jD l l.length).into k < (l.length : Int) := by
 unfold mL
 split
 ·rename_i h
  have hm : ((jD l l.length).into.getD k []).getD 0 default ∈ (jD l l.length).into.getD k [] := cS (by omega)
  exact ((rD l (Nat.le_refl _)).i _ (getD_mem hm) _ hm).2
 ·omega
def mM (mb : List Bool) : Int := dF (fun x : Bool => decide (true = x)) 0 mb
def iC (l : List Ins) (gd : List Int) (es : List (List (Int × Bool))) : Nat → VSt → List StV × Int
 | 0, s => if mM s.mb < 0 then (s.st, 0) else ([], 15)
 | n + 1, s => if mM s.mb < 0 then (s.st, 0) else iC l gd es n (jw l gd (es.getD (mM s.mb).toNat []) (mM s.mb).toNat s)
def qp (l : List Ins) (e : Nat) : VSt := ⟨(List.replicate l.length (iO 8)).set e (xo 8), List.replicate l.length 0, (List.replicate l.length false).set e true⟩
def eK (l : List Ins) (entry : UInt32) (rounds : Nat) : List StV × Int :=
 if 4096 < l.length then ([], 6) else if dU l entry < 0 then ([], 9)
 else iC l (eX l (dU l entry).toNat) (k9 l) rounds (qp l (dU l entry).toNat)
end Go.HL
namespace Go.HL
open Go
section
variable {P : Program} {N : Nat} {F : Bg} {L A B : List Ent} {M : Fr} {X : Act → World → Prop}
theorem getD_at {α : Type} [Inhabited α] {l : List α} {i : Nat} (h : i < l.length) : l[i] = l.getD i default := by simp [List.getD_eq_getElem?_getD, h]
theorem Aw {α : Type} [Inhabited α] {f : α → Ent} {rs : List α} (i : Nat) (h : i < rs.length) (K : Tr N F (f (rs.getD i default) :: (A ++ ((rs.eraseIdx i).map f ++ L))) M X) : Tr N F (A ++ (rs.map f ++ L)) M X :=
 Hu i h (by rw [getD_at h]; exact K)
theorem Gc {α : Type} [Inhabited α] {f : α → Ent} {rs : List α} (i : Nat) (h : i < rs.length) (K : Tr N F (f (rs.getD i default) :: (A ++ (B ++ ((rs.eraseIdx i).map f ++ L)))) M X) : Tr N F (A ++ (B ++ (rs.map f ++ L))) M X := by
 rw [← List.append_assoc] at K ⊢
 exact Aw i h K
theorem Gb {α : Type} {f : α → Ent} {rs : List α} (i : Nat) (y : α) (h : i < rs.length) (K : Tr N F (A ++ (B ++ ((rs.set i y).map f ++ L))) M X) : Tr N F (f y :: (A ++ (B ++ ((rs.eraseIdx i).map f ++ L)))) M X := by
 rw [← List.append_assoc] at K ⊢
 exact yy i y h K
theorem uD {α : Type} {w : World} (T : TypeId) (E : Enc α) (h : HpOK F L w) : ∀ n, HpOK F ((List.replicate n (default : RV α)).map (rvE T E) ++ L) w
 | 0 => h
 | n + 1 => B9 T E (uD T E h n)
theorem Gd {α β : Type} (T T' : TypeId) (E : Enc α) (E' : Enc β) (n : Nat) (K : Tr N F (L ++ ((List.replicate n (default : RV α)).map (rvE T E) ++ ((List.replicate n (default : RV β)).map (rvE T' E') ++ []))) M X) : Tr N F L M X :=
 fun a w ha hw => K a w ha ((uD T E (uD T' E' hw n) n).perm (by
  rw [List.append_nil]
  refine List.perm_append_comm.trans ?_
  rw [List.append_assoc]))
theorem oz {α : Type} {T : TypeId} {E : Enc α} (rs : List (RV α)) {F : Bg} (K : ∀ F', F.le F' → RvIn E F'.blk rs → Tr N F' A M X) : Tr N F (A ++ (rs.map (rvE T E) ++ [])) M X := by
 refine qd (L' := (rs.map (fun r : RV α => (Value.slice r.dp r.data.length r.dc, r.data))).map (fun r : Value × List α => rowE r.1 T E r.2) ++ A) ?_ (rI (rs.map (fun r : RV α => (Value.slice r.dp r.data.length r.dc, r.data))) fun F' h1 h2 => K F' h1 fun t ht => ?_)
 ·rw [List.append_nil, List.map_map]
  exact List.perm_append_comm
 ·exact h2 _ (List.mem_map.2 ⟨t, ht, rfl⟩)
theorem vW {α : Type} {T : TypeId} {E : Enc α} (rs : List (RV α)) {F : Bg} (K : ∀ F', F.le F' → RvIn E F'.blk rs → Tr N F' (A ++ (B ++ [])) M X) : Tr N F (A ++ (B ++ (rs.map (rvE T E) ++ []))) M X := by
 rw [← List.append_assoc]
 refine oz rs fun F' h1 h2 => ?_
 have := K F' h1 h2
 rwa [List.append_nil] at this
end
def ip (x : Int) : Value := .int .i64 x
theorem uJ (o : Option Int) : uL ip (.int .i64 0) o = .int .i64 (o.getD 0) := by cases o <;> rfl
section
variable {P : Program} {N : Nat} {F : Bg} {L : List Ent} {M : Fr} {dst : Option Tmp} {ty : TypeId} {pos : String} {after : Array Edge} {g : Option (Nat × Bool)} {l : List (UInt32 × Int)} {x y : Operand} {t K e : TypeId} {b : Nat} {k : UInt32}
theorem yG {x y : Operand} {V : Value} {bb n c kz i : Nat} {kk : IntKind} (hx : opv M x = some V) (hy : opv M y = some (.int kk i)) (hV : V = .slice (some ⟨bb, 0, none⟩) n c) (ht : P.underlying t = some (.slice e)) (hz : ∀ w, (sizeOf e).run P w = .ok kz w) (hi : i < n) :
  QS P N F L M ⟨dst, .indexAddr t x y, ty, pos, after, g⟩ (.pointer (some ⟨bk V, ofs V + i * kz, none⟩)) :=
 cG fun A w ha hw => by
  have := mo (V := .nilFunc) (c := c) (kk := kk) (n := n) (i := (i : Int)) ht hz w ⟨Int.natCast_nonneg _, Int.ofNat_lt.2 hi⟩ bb 0 rfl
  subst hV
  simp [execOp, ha.eval hx, ha.eval hy, this, bk, ofs]
theorem vq (hx : opv M x = some (.map (some b))) (hy : opv M y = some (.int .u32 k.toNat)) (hm : mapE b ip l ∈ L) (ht : P.underlying t = some (.map K e)) (hK : P.underlying K = some (.int .u32)) (hz : ∀ w, (zeroValue e).run P w = .ok (.int .i64 0) w) :
  QS P N F L M ⟨dst, .lookup t x y true, ty, pos, after, g⟩ (.tuple #[.int .i64 ((dN l k).getD 0), .bool (dN l k).isSome]) := by
 have h := xe (P := P) (N := N) (F := F) (L := L) (M := M) (dst := dst) (ty := ty) (pos := pos) (after := after) (g := g) hx hy hm ht hK hz
 rw [uJ] at h; exact h
theorem DW (hx : opv M x = some (.map (some b))) (hy : opv M y = some (.int .u32 k.toNat)) (hm : MapIn F.blk b ip l) (ht : P.underlying t = some (.map K e)) (hK : P.underlying K = some (.int .u32)) (hz : ∀ w, (zeroValue e).run P w = .ok (.int .i64 0) w) :
  QS P N F L M ⟨dst, .lookup t x y false, ty, pos, after, g⟩ (.int .i64 ((dN l k).getD 0)) := by
 have h := vt (P := P) (N := N) (F := F) (L := L) (M := M) (dst := dst) (ty := ty) (pos := pos) (after := after) (g := g) hx hy hm ht hK hz
 rw [uJ] at h; exact h
theorem AD (hx : opv M x = some (.map (some b))) (hy : opv M y = some (.int .u32 k.toNat)) (hm : MapIn F.blk b ip l) (ht : P.underlying t = some (.map K e)) (hK : P.underlying K = some (.int .u32)) (hz : ∀ w, (zeroValue e).run P w = .ok (.int .i64 0) w) :
  QS P N F L M ⟨dst, .lookup t x y true, ty, pos, after, g⟩ (.tuple #[.int .i64 ((dN l k).getD 0), .bool (dN l k).isSome]) := by
 have h := vr (P := P) (N := N) (F := F) (L := L) (M := M) (dst := dst) (ty := ty) (pos := pos) (after := after) (g := g) hx hy hm ht hK hz
 rw [uJ] at h; exact h
end
section
variable {P : Program} {ops : Array Oper} {Q : Exit → Act → World → Prop} {N : Nat} {F : Bg} {L : List Ent} {M : Fr} {ty : TypeId} {pos : String} {after : Array Edge} {d : Nat} {L0 : List Ent} {fuel : Nat} {listed : Array Bool}
theorem Cw {x : Operand} {t e : TypeId} {a : Option Addr} {n c : Nat} (i : Nat) (hi : ops[i]? = some ⟨some d, .call { callee := .builtin .len, args := #[x], argTypes := #[t] }, ty, pos, after, none⟩) (hB : takeB ops listed i = true) (hQ : ∀ c a d v w, Q (.panic c) (a.put d v) w → Q (.panic c) a w)
  (hx : opv M x = some (.slice a n c)) (ht : P.underlying t = some (.slice e)) (k : Tr N F L ((d, .int .i64 (n : Nat)) :: M) (wpAnyH P .any ops Q (HpOK F L0) fuel (listed.setIfInBounds i true)))
  (hd : Nat.ble (d + 1) N = true := by rfl) (hL : Pick L L0 := by repeat' (first | exact Pick.nil _ | exact Del.here _ | apply Pick.cons | apply Del.there)) :
  Tr N F L M (wpAnyH P .any ops Q (HpOK F L0) (fuel + 1) listed) := by
 simp only [takeB, Bool.and_eq_true] at hB
 intro A w ha hw
 exact wpAnyH_take hi hB.1.1 hB.1.2 hB.2 (fun c a w => hQ c a _ _ w) (.inl ⟨by simp [Region.wanted], fun w' hw' => by simp [execOp, resolve, invoke, builtin, Builtin.len_, ha.eval hx, run_underlying ht, goInt]⟩) (hL.heap hw) (k _ _ (ha.put (Nat.le_of_ble_eq_true hd)) hw)
end
theorem Cs {l : List Ins} {k : Nat} (h : dU l (l.getD k default).addr ≠ (k : Int)) : jD l (k + 1) = jD l k := if_neg h
theorem Ad {l : List Ins} {k : Nat} (h : dU l (l.getD k default).addr = (k : Int)) : jD l (k + 1) = ju l k (jD l k) (dP (l.getD k default)).length := if_pos h
theorem Ae {l : List Ins} {k j : Nat} {s : CSt} (h : dU l ((dP (l.getD k default)).getD j default) < 0) : ju l k s (j + 1) = ju l k s j := if_pos h
theorem wQ {l : List Ins} {k j : Nat} {s : CSt} (h : ¬ dU l ((dP (l.getD k default)).getD j default) < 0) : ju l k s (j + 1) =
  ⟨(ju l k s j).es.set k ((ju l k s j).es.getD k [] ++ [(dU l ((dP (l.getD k default)).getD j default), decide ((j : Int) = 0))]),
  (ju l k s j).into.set (dU l ((dP (l.getD k default)).getD j default)).toNat ((ju l k s j).into.getD (dU l ((dP (l.getD k default)).getD j default)).toNat [] ++ [(k : Int)])⟩ := if_neg h
theorem ml {α : Type} {rs : List (RV α)} {L : List (List α)} (h : rs.map (·.data) = L) (j : Nat) : (rs.getD j default).data = L.getD j [] := by
 subst h
 simp only [List.getD_eq_getElem?_getD, List.getElem?_map]
 cases rs[j]? <;> rfl
theorem Ev {α : Type} {rs : List (RV α)} {L : List (List α)} (h : rs.map (·.data) = L) (k : Nat) (x : α) (p : Option Addr) (c : Nat) : (rs.set k ⟨(rs.getD k default).data ++ [x], p, c⟩).map (·.data) = L.set k (L.getD k [] ++ [x]) := by
 rw [List.map_set, h, ml h]
theorem Il {gd : List Int} {n k : Nat} {f : Nat → Int} (hl : gd.length = n) (h : ∀ j, j < k → gd.getD j default = f j) (hk : k < n) : ∀ j, j < k + 1 → (gd.set k (f k)).getD j default = f j := by
 intro j hj
 rw [po]
 by_cases e : k = j
 ·subst e; rw [if_pos ⟨rfl, by omega⟩]
 ·rw [if_neg (by omega)]; exact h j (by omega)
theorem I0 {gd : List Int} {n k : Nat} {f : Nat → Int} (hl : gd.length = n) (h : ∀ j, j < k → gd.getD j default = f j) (h2 : gd.getD k default = f k) : ∀ j, j < k + 1 → gd.getD j default = f j := by
 intro j hj
 by_cases e : j = k
 ·subst e; exact h2
 ·exact h j (by omega)
theorem IZ {gd : List Int} {n k : Nat} {x c : Int} (h : ∀ j, k ≤ j → j < n → gd.getD j default = c) : ∀ j, k + 1 ≤ j → j < n → (gd.set k x).getD j default = c := by
 intro j h1 h2
 rw [po, if_neg (by omega)]; exact h j (by omega) h2
theorem DC {gd : List Int} {l : List Ins} {e : Nat} (hl : gd.length = l.length) (h : ∀ j, j < l.length → gd.getD j default = mL l e (jD l l.length).into j) : gd = eX l e := by
 unfold eX
 apply List.ext_getElem
 ·simp [hl]
 ·intro i h1 h2
  have := h i (by omega)
  rw [← getD_at h1] at this
  rw [this]; simp
section
variable {N : Nat} {F : Bg} {L A : List Ent} {M : Fr} {X : Act → World → Prop}
theorem yB {α : Type} {T : TypeId} {E : Enc α} (rs : List (RV α)) (K : ∀ F', F.le F' → RvIn E F'.blk rs → Tr N F' (A ++ L) M X) : Tr N F (A ++ (rs.map (rvE T E) ++ L)) M X := by
 refine qd (L' := (A ++ L) ++ (rs.map (rvE T E) ++ [])) ?_ (oz rs fun F' h1 h2 => K F' h1 h2)
 rw [List.append_nil, List.append_assoc]
 exact (List.perm_append_comm (l₁ := L)).append_left _
end
theorem u4 (l : List Ins) (e : Nat) : (eX l e).length = l.length := by unfold eX; simp
theorem Dy (l : List Ins) (e : Nat) : ∀ j, j < (eX l e).length → (eX l e).getD j default < (l.length : Int) := by
 intro j h
 rw [u4] at h
 unfold eX
 rw [← getD_at (by simpa using h)]
 simp only [List.getElem_map]
 exact Dz l e _
theorem DJ {l : List Ins} {rs : List EdV} (h : rs.map (·.data) = k9 l) : rs.length = l.length := by
 have := congrArg List.length h
 rw [List.length_map] at this
 exact this.trans (rD l (Nat.le_refl _)).le
theorem Hg {l : List Ins} {rs : List EdV} (h : rs.map (·.data) = k9 l) (k : Nat) : ∀ e ∈ (rs.getD k default).data, 0 ≤ e.1 ∧ e.1 < (l.length : Int) := by
 intro e he
 rw [ml h] at he
 exact (rD l (Nat.le_refl _)).e _ (getD_mem he) e he
theorem vU {l : List Ins} {gd : List Int} {es : List (List (Int × Bool))} {n : Nat} {s : VSt} (h : mM s.mb < 0) : iC l gd es n s = (s.st, 0) := by
 cases n <;> exact if_pos h
theorem vT {l : List Ins} {gd : List Int} {es : List (List (Int × Bool))} {n : Nat} {s : VSt} (h : ¬ mM s.mb < 0) : iC l gd es (n + 1) s = iC l gd es n (jw l gd (es.getD (mM s.mb).toNat []) (mM s.mb).toNat s) := if_neg h
theorem yt {l : List Ins} {gd : List Int} {es : List (List (Int × Bool))} {s : VSt} (h : ¬ mM s.mb < 0) : iC l gd es 0 s = ([], 15) := if_neg h
theorem AM (l : List Ins) (gd : List Int) (es : List (Int × Bool)) (k : Nat) (s : VSt) : (jw l gd es k s).st.length = s.st.length ∧ (jw l gd es k s).vs.length = s.vs.length ∧ (jw l gd es k s).mb.length = s.mb.length := by
 have h := nP l gd k es (g6 k s)
 exact ⟨h.1, (congrArg List.length h.2.1).trans List.length_set, h.2.2.trans List.length_set⟩
theorem Ed {l : List Ins} {gd : List Int} {es : List (Int × Bool)} {k n : Nat} {s : VSt} (hk : k < s.vs.length) (h : ∀ v ∈ s.vs, 0 ≤ v ∧ v ≤ (n : Int)) : ∀ v ∈ (jw l gd es k s).vs, 0 ≤ v ∧ v ≤ ((n + 1 : Nat) : Int) := by
 intro v hv
 have e : (jw l gd es k s).vs = s.vs.set k (s.vs.getD k default + 1) := (nP l gd k es (g6 k s)).2.1
 rw [e] at hv
 rcases uQ hv with rfl | hv
 ·have := h _ (cS hk); omega
 ·have := h v hv; omega
end Go.HL
namespace Go.Proofs.YtiajjbhcpeadfaaGreat
open Go Go.HL Go.RowKit
theorem Ac (l : List Ins) (e bx bm : Nat) (VI VB VV VM : Value) (w : World) (ho : OwnAt w [cellE bx [VI, .map (some bm), .slice none 0 0, .slice none 0 0, VB, VV, VM] 228]) (hI : Sl (Bg.lessB w [bx] 0).blk aP l VI) (hA : MapIn (Bg.lessB w [bx] 0).blk bm ip (atK l l.length)) (hIO : ∀ x ∈ l, InsOK x) (he : e < l.length) (hll : l.length ≤ 4096) :
  Calls Tryz.prog 161 #[.pointer (some ⟨bx, 0, none⟩), .int .i64 (e : Nat)] w (fun e' w' => ∃ i : Value × Value × List EdV, e' = .returned (.tuple #[]) ∧ Upd 0 w w' (cT [cellE bx [VI, .map (some bm), .slice none 0 0, .slice none 0 0, VB, VV, VM] 228]) (cellE bx [VI, .map (some bm), i.1, i.2.1, VB, VV, VM] 228 :: rowE i.2.1 3 bQ (eX l e) :: rowE i.1 272 gC i.2.2 :: i.2.2.map (rvE 274 eP)) ∧ i.2.2.map (·.data) = k9 l) := by
 refine qB (L := [cellE bx [VI, .map (some bm), .slice none 0 0, .slice none 0 0, VB, VV, VM] 228]) ho rfl (Nat.zero_le _) Tryz.func161 rfl Tryz.ntmps161 rfl ?_
 refine ah (zz0 (aa rfl) (zz0 (bh rfl) ?_))
 refine zz0 (zz1 (off := 0) (ft := 50) rfl bC rfl cD) ?_
 refine zz0 (ki rfl cP) ?_
 refine zz0 (fJ rfl aM) ?_
 refine jr (E := (dD (α := Int))) default rfl rfl gm AI rfl rfl rfl (by constructor <;> omega) rfl (fun b1 => ?_)
 obtain ⟨VQ, hVQ⟩ : ∃ V, V = Value.slice (some ⟨b1, 0, none⟩) (List.replicate l.length (default : RV Int)).length l.length := ⟨_, rfl⟩
 rw [← hVQ]
 refine zz0 (ab rfl) (aL (zz0 (aa rfl) (zz0 (aa rfl) (zz0 (bh rfl) ?_))))
 refine zz0 (zz1 (off := 0) (ft := 50) rfl bC rfl cD) ?_
 refine zz0 (ki rfl cP) ?_
 refine zz0 (fJ rfl aM) ?_
 refine jr (E := gC) default rfl rfl ia AH rfl rfl rfl (by constructor <;> omega) rfl (fun b2 => ?_)
 refine zz0 (bh rfl) ?_
 refine zz0 (zz1 (off := 2) (ft := 226) rfl bC rfl kc) ?_
 refine zz4 rfl rfl kc rfl ?_
 refine aL (zz0 (aa rfl) (zz0 (aa rfl) (zz0 (bh rfl) ?_)))
 refine zz0 (zz1 (off := 0) (ft := 50) rfl bC rfl cD) ?_
 refine zz0 (ki rfl cP) ?_
 refine zz0 (fJ rfl aM) ?_
 refine jr (E := bQ) 0 rfl rfl cQ kA rfl rfl rfl (by constructor <;> omega) rfl (fun b3 => ?_)
 refine zz0 (bh rfl) ?_
 refine zz0 (zz1 (off := 3) (ft := 224) rfl bC rfl eL) ?_
 refine zz4 rfl rfl eL rfl ?_
 change Tr _ _ [rowE (Value.slice (some ⟨b3, 0, none⟩) (List.replicate l.length (0 : Int)).length l.length) 3 bQ (List.replicate l.length 0), rowE (Value.slice (some ⟨b2, 0, none⟩) (List.replicate l.length (default : EdV)).length l.length) 272 gC (List.replicate l.length default), rowE VQ 224 dD (List.replicate l.length default), cellE bx [VI, .map (some bm), Value.slice (some ⟨b2, 0, none⟩) (List.replicate l.length (default : EdV)).length l.length, Value.slice (some ⟨b3, 0, none⟩) (List.replicate l.length (0 : Int)).length l.length, VB, VV, VM] 228] _ _
 obtain ⟨VE, hVE⟩ : ∃ V, V = Value.slice (some ⟨b2, 0, none⟩) (List.replicate l.length (default : EdV)).length l.length := ⟨_, rfl⟩
 rw [← hVE]
 obtain ⟨VG, hVG⟩ : ∃ V, V = Value.slice (some ⟨b3, 0, none⟩) (List.replicate l.length (0 : Int)).length l.length := ⟨_, rfl⟩
 rw [← hVG]
 refine ad (al (ah (zz0 (aa rfl) (zz0 (bh rfl) ?_))))
 refine zz0 (zz1 (off := 0) (ft := 50) rfl bC rfl cD) ?_
 refine zz0 (ki rfl cP) ?_
 refine zz0 (fJ rfl aM) ?_
 refine zz0 (aa rfl) (ad (aG (Gd 274 3 eP bQ l.length ?_)))
 refine bN (ι := Nat × List EdV × List (RV Int) × List Int) (fun ⟨k, rs, qs, gd⟩ => k ≤ l.length ∧ (rs.map (·.data) = (jD l k).es ∧ qs.map (·.data) = (jD l k).into) ∧ gd.length = l.length ∧ ∀ j, j < k → gd.getD j default = -1) (fun _ => (Bg.lessB w [bx] 0)) (fun ⟨k, rs, qs, gd⟩ => (cellE bx [VI, .map (some bm), VE, VG, VB, VV, VM] 228 :: rowE VG 3 bQ gd :: rowE VE 272 gC rs :: rowE VQ 224 dD qs :: (rs.map (rvE 274 eP) ++ (qs.map (rvE 3 bQ) ++ [])))) (fun ⟨k, rs, qs, gd⟩ => [(42, .int .i64 (k : Nat))]) (fun ⟨k, rs, qs, gd⟩ => l.length - k) (0, List.replicate l.length default, List.replicate l.length default, List.replicate l.length 0) ⟨Nat.zero_le _, ⟨List.map_replicate, List.map_replicate⟩, List.length_replicate, fun j hj => absurd hj (Nat.not_lt_zero _)⟩ (Front.c Front.nil) (by repeat' (first | exact Pick.refl _ | exact Del.here _ | apply Pick.cons | apply Del.there | apply Pick.skip | exact Pick.nil _)) rfl (fun i hi m hm => ?_)
 obtain ⟨k, rs, qs, gd⟩ := i
 replace hi : k ≤ l.length ∧ (rs.map (·.data) = (jD l k).es ∧ qs.map (·.data) = (jD l k).into) ∧ gd.length = l.length ∧ ∀ j, j < k → gd.getD j default = -1 := hi
 replace hm : m = l.length - k := hm
 change Tr _ _ (cellE bx [VI, .map (some bm), VE, VG, VB, VV, VM] 228 :: rowE VG 3 bQ gd :: rowE VE 272 gC rs :: rowE VQ 224 dD qs :: (rs.map (rvE 274 eP) ++ (qs.map (rvE 3 bQ) ++ []))) ([(42, .int .i64 (k : Nat))] ++ _) _
 obtain ⟨hk, ⟨hrs, hqs⟩, hgl, hgm⟩ := hi
 have hco := rD l hk
 have hrl : rs.length = l.length := by have := congrArg List.length hrs; rw [List.length_map, hco.le] at this; exact this
 have hql : qs.length = l.length := by have := congrArg List.length hqs; rw [List.length_map, hco.li] at this; exact this
 refine ah (zz0 (bS rfl rfl) (ad (al ?_)))
 refine ao rfl ?_ ?_ <;> intro h4 <;> try simp only [bs] at h4
 ·refine bB (al (aG (ah (zz0 (aa rfl) (zz0 (gB rfl rfl aM au) ?_)))))
  refine zz0 (m8 rfl aQ au) ?_
  refine dA bP rfl (fun b5 => ?_)
  refine zz0 (ab rfl) (aF aP rfl rfl au ?_)
  refine aL (zz0 (aa rfl) (zz0 (bh rfl) ?_))
  refine zz0 (zz1 (off := 3) (ft := 224) rfl bC rfl eL) ?_
  refine zz0 (ki rfl gi) ?_
  refine zz0 (aa rfl) (zz0 (dm rfl rfl cQ ay) ?_)
  refine f9 (l := gd) (i := k) ((-1)) rfl rfl ay ?_
  have hls6 : (List.set gd (k) ((-1))).length = (gd).length := List.length_set
  refine ad (al (al (gZ aT ?_)))
  refine ax (aa rfl) (ax (bh rfl) ?_)
  refine ax (zz1 (off := 1) (ft := 223) rfl bC rfl kd) ?_
  refine ax (ki rfl kT) ?_
  refine ax (zz1 (off := 0) (ft := 23) rfl af rfl ae) ?_
  refine ax (aH rfl am) ?_
  refine ax (DW rfl rfl hA ic aV iH) ?_
  rw [By, if_neg (by have := zU (l := l) (k := k) (by omega); omega), Option.getD_some]
  refine ax (aa rfl) (ax (fa rfl rfl) (bK ?_))
  refine ac ?_
  refine ao rfl ?_ ?_ <;> intro h7 <;> try simp only [bs] at h7
  ·refine bG (aJ (bj (ac (ar (zz0 (cx rfl rfl) ?_)))))
   refine zz0 (aa rfl) (ad ?_)
   refine oD (k + 1, rs, qs, gd.set k (-1)) (Front.c Front.nil) (bA 24 rfl) (o := ⟨by omega, ⟨by rw [Cs (by assumption)]; exact hrs, by rw [Cs (by assumption)]; exact hqs⟩, List.length_set.trans hgl, Il (f := fun _ => -1) hgl hgm (by omega)⟩)
  refine bB (al ?_)
  have hne0 : ((jD l k).es.getD k []).length = 0 := by rw [(ve l k hk).2 k (Nat.le_refl _)]; rfl
  refine ar (zz0 (bE rfl aQ au) ?_)
  refine gY rfl Tryz.call224 (fun w hw => yR (l.getD k default) w (hIO _ (cS (by omega)))) rfl (fun V8 => ?_)
  refine zz0 (mg rfl aj) ?_
  refine zz0 (aa rfl) (ad (aG ?_))
  refine bN (ι := Nat × List EdV × List (RV Int)) (fun ⟨j, rs', qs'⟩ => j ≤ (dP (l.getD k default)).length ∧ rs'.map (·.data) = (ju l k (jD l k) j).es ∧ qs'.map (·.data) = (ju l k (jD l k) j).into) (fun _ => (Bg.lessB w [bx] 0)) (fun ⟨j, rs', qs'⟩ => (rowE V8 23 an (dP (l.getD k default)) :: cellE b5 (aP.enc (l.getD k default)) 36 :: cellE bx [VI, .map (some bm), VE, VG, VB, VV, VM] 228 :: rowE VG 3 bQ (gd.set k (-1)) :: rowE VE 272 gC rs' :: rowE VQ 224 dD qs' :: (rs'.map (rvE 274 eP) ++ (qs'.map (rvE 3 bQ) ++ [])))) (fun ⟨j, rs', qs'⟩ => [(65, .int .i64 (j : Nat))]) (fun ⟨j, rs', qs'⟩ => (dP (l.getD k default)).length - j) (0, rs, qs) ⟨Nat.zero_le _, hrs, hqs⟩ (Front.c Front.nil) (by repeat' (first | exact Pick.refl _ | exact Del.here _ | apply Pick.cons | apply Del.there | apply Pick.skip | exact Pick.nil _)) rfl (fun i hi m hm => ?_)
  obtain ⟨j, rs', qs'⟩ := i
  replace hi : j ≤ (dP (l.getD k default)).length ∧ rs'.map (·.data) = (ju l k (jD l k) j).es ∧ qs'.map (·.data) = (ju l k (jD l k) j).into := hi
  replace hm : m = (dP (l.getD k default)).length - j := hm
  change Tr _ _ (rowE V8 23 an (dP (l.getD k default)) :: cellE b5 (aP.enc (l.getD k default)) 36 :: cellE bx [VI, .map (some bm), VE, VG, VB, VV, VM] 228 :: rowE VG 3 bQ (gd.set k (-1)) :: rowE VE 272 gC rs' :: rowE VQ 224 dD qs' :: (rs'.map (rvE 274 eP) ++ (qs'.map (rvE 3 bQ) ++ []))) ([(65, .int .i64 (j : Nat))] ++ _) _
  obtain ⟨hj, hrs', hqs'⟩ := hi
  have hjs0 := j7 (l.getD k default)
  have hrl' : rs'.length = l.length := by have := congrArg List.length hrs'; rw [List.length_map, (pE (by omega) hco hne0 j (Nat.le_trans hj (j7 _))).1] at this; exact this
  have hql' : qs'.length = l.length := by have := congrArg List.length hqs'; rw [List.length_map, (pE (by omega) hco hne0 j (Nat.le_trans hj (j7 _))).2.1] at this; exact this
  refine ah (zz0 (bS rfl rfl) (ad (al ?_)))
  refine ao rfl ?_ ?_ <;> intro h9 <;> try simp only [bs] at h9
  ·refine bB (al (aG (ah (zz0 (aa rfl) (zz0 (dm rfl rfl aj ae) ?_)))))
   refine zz0 (er rfl am) ?_
   refine zz0 (ab rfl) (zz0 (ab rfl) (aL (zz0 (aa rfl) (zz0 (bh rfl) ?_))))
   refine zz0 (zz1 (off := 1) (ft := 223) rfl bC rfl kd) ?_
   refine zz0 (ki rfl kT) ?_
   refine zz0 (aa rfl) (zz0 (AD rfl rfl hA ic aV iH) ?_)
   rw [By]
   obtain ⟨to, hto⟩ : ∃ to, to = (dU l ((dP (l.getD k default)).getD j default)) := ⟨_, rfl⟩
   rw [← hto]
   refine zz0 (aa rfl) (zz0 (aR rfl rfl) (zz0 (aR rfl rfl) (zz0 (ab rfl) (zz0 (ab rfl) (aL (zz0 (aa rfl) (ad ?_)))))))
   refine ao rfl ?_ ?_ <;> intro h10 <;> try simp only [bs] at h10
   ·have hok := pE (by omega) hco hne0 j (Nat.le_trans hj (j7 _))
    have hdl : (rs'.getD k default).data.length ≤ 2 := by rw [ml hrs' k]; exact Nat.le_trans (hok.2.2.2.2.1 k) (by split <;> (have := j7 (l.getD k default); omega))
    have hdq : (qs'.getD to.toNat default).data.length ≤ 2 * k + j := by rw [ml hqs']; exact hok.2.2.2.2.2.1 _
    have hjs := j7 (l.getD k default)
    have ht1 : (if to < 0 then none else some to).isSome = true := by assumption
    have ht0 : ¬ to < 0 := fun q => by rw [if_pos q] at ht1; simp at ht1
    have htl := (rz l ((dP (l.getD k default)).getD j default)).2
    rw [← hto] at htl
    rw [if_neg ht0, Option.getD_some]
    refine db (ι := Option Addr × Nat) (fun ⟨pe, ce⟩ => True) (fun _ => (Bg.lessB w [bx] 0)) (fun ⟨pe, ce⟩ => (rowE V8 23 an (dP (l.getD k default)) :: cellE b5 (aP.enc (l.getD k default)) 36 :: cellE bx [VI, .map (some bm), VE, VG, VB, VV, VM] 228 :: rowE VG 3 bQ (gd.set k (-1)) :: rowE VE 272 gC (rs'.set k ⟨(rs'.getD k default).data ++ [(to, decide ((j : Int) = 0))], pe, ce⟩) :: rowE VQ 224 dD qs' :: ((rs'.set k ⟨(rs'.getD k default).data ++ [(to, decide ((j : Int) = 0))], pe, ce⟩).map (rvE 274 eP) ++ (qs'.map (rvE 3 bQ) ++ [])))) (fun ⟨pe, ce⟩ => []) ?_ (fun i hi => ?_)
    ·skip
     refine Aw (A := [rowE V8 23 an (dP (l.getD k default)), cellE b5 (aP.enc (l.getD k default)) 36, cellE bx [VI, .map (some bm), VE, VG, VB, VV, VM] 228, rowE VG 3 bQ (gd.set k (-1)), rowE VE 272 gC rs', rowE VQ 224 dD qs']) (f := (rvE 274 eP)) (rs := rs') k (by omega) ?_
     change Tr _ _ ((rvE 274 eP) (rs'.getD k default) :: rowE V8 23 an (dP (l.getD k default)) :: cellE b5 (aP.enc (l.getD k default)) 36 :: cellE bx [VI, .map (some bm), VE, VG, VB, VV, VM] 228 :: rowE VG 3 bQ (gd.set k (-1)) :: rowE VE 272 gC rs' :: rowE VQ 224 dD qs' :: ((rs'.eraseIdx k).map (rvE 274 eP) ++ (qs'.map (rvE 3 bQ) ++ []))) _ _
     refine dG ([cellE bx [VI, .map (some bm), VE, VG, VB, VV, VM] 228]) 20 rfl aT ?_
     refine zz3 0 rfl (aa rfl) ?_
     refine zz3 1 rfl (bh rfl) ?_
     refine zz3 2 rfl (zz1 (off := 2) (ft := 226) rfl bC rfl kc) ?_
     refine zz3 3 rfl (ki rfl Tryz.isAgg226) ?_
     refine zz3 4 rfl (aa rfl) ?_
     refine zz3 5 rfl (aa rfl) ?_
     refine zz3 6 rfl (bh rfl) ?_
     refine zz3 7 rfl (zz1 (off := 2) (ft := 226) rfl bC rfl kc) ?_
     refine zz3 8 rfl (ki rfl Tryz.isAgg226) ?_
     refine zz3 9 rfl (aa rfl) ?_
     refine ke 10 rfl (by kernel_rfl) (bF (dM (bF (bF (dM (dM (bF (bF (dM (bF dx)))))))))) (yG rfl rfl hVE ia jm (by rw [List.length_replicate]; omega)) ?_
     refine zz3 12 rfl (aa rfl) ?_
     refine zz3 13 rfl (aa rfl) ?_
     refine zz3 14 rfl (aY rfl rfl) ?_
     refine zz3 15 rfl (bL (vs := [(0, _), (1, _)]) rfl rfl (sP _ _)) ?_
     refine dh [11, 16] (fun iq hq => ?_)
     rcases List.mem_cons.1 hq with rfl | hq
     ·skip
      refine bD rfl ?_
      refine zz0 (er (V := VE) (E := gC) (l := rs') (i := k) rfl Tryz.isAgg272) ?_
      refine bU ?_
      refine dh [16] (fun iq hq => ?_)
      obtain rfl := List.mem_singleton.1 hq
      refine bD rfl ?_
      refine jB (E := eP) (to, decide ((j : Int) = 0)) rfl rfl gl jl lh (fun V11 => ?_)
      refine bU ?_
      refine dh [17] (fun iq hq => ?_)
      obtain rfl := List.mem_singleton.1 hq
      refine bD rfl ?_
      refine zz2 rfl rfl gl tt (fun V12 => ?_)
      refine dz (.head _) (fun pe ce hpv => ?_)
      subst hpv
      refine bU ?_
      refine ke 18 rfl (by kernel_rfl) (bF (dM (bF (bF (dM (dM (bF (bF (dM (bF dx)))))))))) (yG rfl rfl hVE ia jm (by rw [List.length_replicate]; omega)) ?_
      refine dh [19] (fun iq hq => ?_)
      obtain rfl := List.mem_singleton.1 hq
      refine bD rfl ?_
      refine f9 (l := rs') (i := k) (⟨(rs'.getD k default).data ++ [(to, decide ((j : Int) = 0))], pe, ce⟩) rfl rfl jm ?_
      have hls13 : (List.set rs' (k) (⟨(rs'.getD k default).data ++ [(to, decide ((j : Int) = 0))], pe, ce⟩)).length = (rs').length := List.length_set
      refine yy (A := [rowE V8 23 an (dP (l.getD k default)), cellE b5 (aP.enc (l.getD k default)) 36, cellE bx [VI, .map (some bm), VE, VG, VB, VV, VM] 228, rowE VG 3 bQ (gd.set k (-1)), rowE VE 272 gC (rs'.set k ⟨(rs'.getD k default).data ++ [(to, decide ((j : Int) = 0))], pe, ce⟩), rowE VQ 224 dD qs']) (f := (rvE 274 eP)) (rs := rs') k ⟨(rs'.getD k default).data ++ [(to, decide ((j : Int) = 0))], pe, ce⟩ (by omega) ?_
      change Tr _ _ (rowE V8 23 an (dP (l.getD k default)) :: cellE b5 (aP.enc (l.getD k default)) 36 :: cellE bx [VI, .map (some bm), VE, VG, VB, VV, VM] 228 :: rowE VG 3 bQ (gd.set k (-1)) :: rowE VE 272 gC (rs'.set k ⟨(rs'.getD k default).data ++ [(to, decide ((j : Int) = 0))], pe, ce⟩) :: rowE VQ 224 dD qs' :: ((rs'.set k ⟨(rs'.getD k default).data ++ [(to, decide ((j : Int) = 0))], pe, ce⟩).map (rvE 274 eP) ++ (qs'.map (rvE 3 bQ) ++ []))) _ _
      refine bU ?_
      refine gI ?_
      refine ac ?_
      apply eh (pe, ce)
      ·exact rfl
      ·exact Front.nil
      ·exact bA 19 rfl
      ·exact (Pick.refl _)
      exact trivial
     obtain rfl := List.mem_singleton.1 hq
     refine bD rfl ?_
     refine jB (E := eP) (to, decide ((j : Int) = 0)) rfl rfl gl jl lh (fun V14 => ?_)
     refine bU ?_
     refine dh [11] (fun iq hq => ?_)
     obtain rfl := List.mem_singleton.1 hq
     refine bD rfl ?_
     refine zz0 (er (V := VE) (E := gC) (l := rs') (i := k) rfl Tryz.isAgg272) ?_
     refine bU ?_
     refine dh [17] (fun iq hq => ?_)
     obtain rfl := List.mem_singleton.1 hq
     refine bD rfl ?_
     refine zz2 rfl rfl gl tt (fun V15 => ?_)
     refine dz (.head _) (fun pe ce hpv => ?_)
     subst hpv
     refine bU ?_
     refine ke 18 rfl (by kernel_rfl) (bF (dM (bF (bF (dM (dM (bF (bF (dM (bF dx)))))))))) (yG rfl rfl hVE ia jm (by rw [List.length_replicate]; omega)) ?_
     refine dh [19] (fun iq hq => ?_)
     obtain rfl := List.mem_singleton.1 hq
     refine bD rfl ?_
     refine f9 (l := rs') (i := k) (⟨(rs'.getD k default).data ++ [(to, decide ((j : Int) = 0))], pe, ce⟩) rfl rfl jm ?_
     have hls16 : (List.set rs' (k) (⟨(rs'.getD k default).data ++ [(to, decide ((j : Int) = 0))], pe, ce⟩)).length = (rs').length := List.length_set
     refine yy (A := [rowE V8 23 an (dP (l.getD k default)), cellE b5 (aP.enc (l.getD k default)) 36, cellE bx [VI, .map (some bm), VE, VG, VB, VV, VM] 228, rowE VG 3 bQ (gd.set k (-1)), rowE VE 272 gC (rs'.set k ⟨(rs'.getD k default).data ++ [(to, decide ((j : Int) = 0))], pe, ce⟩), rowE VQ 224 dD qs']) (f := (rvE 274 eP)) (rs := rs') k ⟨(rs'.getD k default).data ++ [(to, decide ((j : Int) = 0))], pe, ce⟩ (by omega) ?_
     change Tr _ _ (rowE V8 23 an (dP (l.getD k default)) :: cellE b5 (aP.enc (l.getD k default)) 36 :: cellE bx [VI, .map (some bm), VE, VG, VB, VV, VM] 228 :: rowE VG 3 bQ (gd.set k (-1)) :: rowE VE 272 gC (rs'.set k ⟨(rs'.getD k default).data ++ [(to, decide ((j : Int) = 0))], pe, ce⟩) :: rowE VQ 224 dD qs' :: ((rs'.set k ⟨(rs'.getD k default).data ++ [(to, decide ((j : Int) = 0))], pe, ce⟩).map (rvE 274 eP) ++ (qs'.map (rvE 3 bQ) ++ []))) _ _
     refine bU ?_
     refine gI ?_
     refine ac ?_
     apply eh (pe, ce)
     ·exact rfl
     ·exact Front.nil
     ·exact bA 19 rfl
     ·exact (Pick.refl _)
     exact trivial
    obtain ⟨pe, ce⟩ := i
    replace hi : True := hi
    change Tr _ _ (rowE V8 23 an (dP (l.getD k default)) :: cellE b5 (aP.enc (l.getD k default)) 36 :: cellE bx [VI, .map (some bm), VE, VG, VB, VV, VM] 228 :: rowE VG 3 bQ (gd.set k (-1)) :: rowE VE 272 gC (rs'.set k ⟨(rs'.getD k default).data ++ [(to, decide ((j : Int) = 0))], pe, ce⟩) :: rowE VQ 224 dD qs' :: ((rs'.set k ⟨(rs'.getD k default).data ++ [(to, decide ((j : Int) = 0))], pe, ce⟩).map (rvE 274 eP) ++ (qs'.map (rvE 3 bQ) ++ []))) ([] ++ _) _
    refine Gc (A := [rowE V8 23 an (dP (l.getD k default)), cellE b5 (aP.enc (l.getD k default)) 36, cellE bx [VI, .map (some bm), VE, VG, VB, VV, VM] 228, rowE VG 3 bQ (gd.set k (-1)), rowE VE 272 gC (rs'.set k ⟨(rs'.getD k default).data ++ [(to, decide ((j : Int) = 0))], pe, ce⟩), rowE VQ 224 dD qs']) (B := (rs'.set k ⟨(rs'.getD k default).data ++ [(to, decide ((j : Int) = 0))], pe, ce⟩).map (rvE 274 eP)) (f := (rvE 3 bQ)) (rs := qs') to.toNat (by omega) ?_
    change Tr _ _ ((rvE 3 bQ) (qs'.getD to.toNat default) :: rowE V8 23 an (dP (l.getD k default)) :: cellE b5 (aP.enc (l.getD k default)) 36 :: cellE bx [VI, .map (some bm), VE, VG, VB, VV, VM] 228 :: rowE VG 3 bQ (gd.set k (-1)) :: rowE VE 272 gC (rs'.set k ⟨(rs'.getD k default).data ++ [(to, decide ((j : Int) = 0))], pe, ce⟩) :: rowE VQ 224 dD qs' :: ((rs'.set k ⟨(rs'.getD k default).data ++ [(to, decide ((j : Int) = 0))], pe, ce⟩).map (rvE 274 eP) ++ ((qs'.eraseIdx to.toNat).map (rvE 3 bQ) ++ []))) _ _
    refine ar (zz0 (aa rfl) (zz0 (aa rfl) (zz0 (aa rfl) (zz0 (aa rfl) (zz0 (jv rfl rfl gm eL) ?_)))))
    refine zz0 (er rfl gi) ?_
    refine zz0 (aa rfl) ?_
    refine jB (E := bQ) (k : Int) rfl rfl cQ ay iH (fun V17 => ?_)
    refine zz2 rfl rfl cQ kA (fun V18 => ?_)
    refine dz (.head _) (fun pq cq hpv => ?_)
    subst hpv
    refine zz0 (jv rfl rfl gm eL) ?_
    refine f9 (l := qs') (i := to.toNat) (⟨(qs'.getD to.toNat default).data ++ [(k : Int)], pq, cq⟩) rfl rfl eL ?_
    have hls19 : (List.set qs' (to.toNat) (⟨(qs'.getD to.toNat default).data ++ [(k : Int)], pq, cq⟩)).length = (qs').length := List.length_set
    refine Gb (A := [rowE V8 23 an (dP (l.getD k default)), cellE b5 (aP.enc (l.getD k default)) 36, cellE bx [VI, .map (some bm), VE, VG, VB, VV, VM] 228, rowE VG 3 bQ (gd.set k (-1)), rowE VE 272 gC (rs'.set k ⟨(rs'.getD k default).data ++ [(to, decide ((j : Int) = 0))], pe, ce⟩), rowE VQ 224 dD (qs'.set to.toNat ⟨(qs'.getD to.toNat default).data ++ [(k : Int)], pq, cq⟩)]) (B := (rs'.set k ⟨(rs'.getD k default).data ++ [(to, decide ((j : Int) = 0))], pe, ce⟩).map (rvE 274 eP)) (f := (rvE 3 bQ)) (rs := qs') to.toNat ⟨(qs'.getD to.toNat default).data ++ [(k : Int)], pq, cq⟩ (by omega) ?_
    change Tr _ _ (rowE V8 23 an (dP (l.getD k default)) :: cellE b5 (aP.enc (l.getD k default)) 36 :: cellE bx [VI, .map (some bm), VE, VG, VB, VV, VM] 228 :: rowE VG 3 bQ (gd.set k (-1)) :: rowE VE 272 gC (rs'.set k ⟨(rs'.getD k default).data ++ [(to, decide ((j : Int) = 0))], pe, ce⟩) :: rowE VQ 224 dD (qs'.set to.toNat ⟨(qs'.getD to.toNat default).data ++ [(k : Int)], pq, cq⟩) :: ((rs'.set k ⟨(rs'.getD k default).data ++ [(to, decide ((j : Int) = 0))], pe, ce⟩).map (rvE 274 eP) ++ ((qs'.set to.toNat ⟨(qs'.getD to.toNat default).data ++ [(k : Int)], pq, cq⟩).map (rvE 3 bQ) ++ []))) _ _
    refine az (aX (ac (ar (zz0 (cx rfl rfl) ?_))))
    refine zz0 (aa rfl) (ad ?_)
    refine oD (j + 1, (rs'.set k ⟨(rs'.getD k default).data ++ [(to, decide ((j : Int) = 0))], pe, ce⟩), (qs'.set to.toNat ⟨(qs'.getD to.toNat default).data ++ [(k : Int)], pq, cq⟩)) (Front.c Front.nil) (bA 31 rfl) (o := ⟨by omega, by rw [wQ (by rw [← hto]; exact ht0), ← hto]; exact Ev hrs' k _ _ _, by rw [wQ (by rw [← hto]; exact ht0), ← hto]; exact Ev hqs' _ _ _ _⟩)
   refine bW (aX (ac (ar (zz0 (cx rfl rfl) ?_))))
   refine zz0 (aa rfl) (ad ?_)
   have hlt0 : (dU l ((dP (l.getD k default)).getD j default)) < 0 := by
    rw [← hto]
    by_cases q : to < 0
    ·exact q
    ·have ht1 : (if to < 0 then none else some to).isSome = false := by first | assumption | simp_all
     rw [if_neg q] at ht1; simp at ht1
   refine oD (j + 1, rs', qs') (Front.c Front.nil) (bA 21 rfl) (o := ⟨by omega, by rw [Ae hlt0]; exact hrs', by rw [Ae hlt0]; exact hqs'⟩)
  refine bG (aJ (aJ (bj (aX (ac (ar (zz0 (cx rfl rfl) ?_)))))))
  refine zz0 (aa rfl) (ad ?_)
  have hje : j = (dP (l.getD k default)).length := by omega
  refine oD (k + 1, rs', qs', gd.set k (-1)) (Front.c Front.nil) (bA 30 rfl) (o := ⟨by omega, ⟨by rw [Ad (by assumption), ← hje]; exact hrs', by rw [Ad (by assumption), ← hje]; exact hqs'⟩, List.length_set.trans hgl, Il (f := fun _ => -1) hgl hgm (by omega)⟩)
 refine bG (aJ (aJ (bj (ac (al ?_)))))
 obtain rfl : k = l.length := by omega
 refine vW (A := [cellE bx [VI, .map (some bm), VE, VG, VB, VV, VM] 228, rowE VG 3 bQ gd, rowE VE 272 gC rs, rowE VQ 224 dD qs]) (B := rs.map (rvE 274 eP)) qs (fun F8 hF8 hQ8 => ?_)
 change Tr _ _ (cellE bx [VI, .map (some bm), VE, VG, VB, VV, VM] 228 :: rowE VG 3 bQ gd :: rowE VE 272 gC rs :: rowE VQ 224 dD qs :: (rs.map (rvE 274 eP) ++ [])) _ _
 refine kx (V := VQ) (T := 224) (E := dD) (l := qs) (.there _ (.there _ (.there _ (.here _)))) (fun F9 hF89 hSQ => ?_)
 have hF9 := hF8.trans hF89
 have hQ9 := hQ8.mono hF89.blk
 have hI9 := hI.mono hF9.blk
 refine ar (zz0 (aa rfl) (zz0 (bh rfl) ?_))
 refine zz0 (zz1 (off := 0) (ft := 50) rfl bC rfl cD) ?_
 refine zz0 (ki rfl cP) ?_
 refine zz0 (fJ rfl aM) ?_
 refine zz0 (aa rfl) (ad (aG ?_))
 refine bN (ι := Nat × List Int) (fun ⟨k, gd⟩ => k ≤ l.length ∧ gd.length = l.length ∧ (∀ j, j < k → gd.getD j default = mL l e (jD l l.length).into j) ∧ ∀ j, k ≤ j → j < l.length → gd.getD j default = -1) (fun _ => F9) (fun ⟨k, gd⟩ => (cellE bx [VI, .map (some bm), VE, VG, VB, VV, VM] 228 :: rowE VG 3 bQ gd :: rowE VE 272 gC rs :: (rs.map (rvE 274 eP) ++ []))) (fun ⟨k, gd⟩ => [(116, .int .i64 (k : Nat))]) (fun ⟨k, gd⟩ => l.length - k) (0, gd) ⟨Nat.zero_le _, hgl, fun j hj => absurd hj (Nat.not_lt_zero _), fun j _ hj => hgm j hj⟩ (Front.c Front.nil) (by repeat' (first | exact Pick.refl _ | exact Del.here _ | apply Pick.cons | apply Del.there | apply Pick.skip | exact Pick.nil _)) rfl (fun i hi m hm => ?_)
 obtain ⟨k, gd⟩ := i
 replace hi : k ≤ l.length ∧ gd.length = l.length ∧ (∀ j, j < k → gd.getD j default = mL l e (jD l l.length).into j) ∧ ∀ j, k ≤ j → j < l.length → gd.getD j default = -1 := hi
 replace hm : m = l.length - k := hm
 change Tr _ _ (cellE bx [VI, .map (some bm), VE, VG, VB, VV, VM] 228 :: rowE VG 3 bQ gd :: rowE VE 272 gC rs :: (rs.map (rvE 274 eP) ++ [])) ([(116, .int .i64 (k : Nat))] ++ _) _
 obtain ⟨hk2, hgl2, hgm2, hgm3⟩ := hi
 refine ah (zz0 (bS rfl rfl) (ad (al ?_)))
 refine ao rfl ?_ ?_ <;> intro h20 <;> try simp only [bs] at h20
 ·refine bB (al (aG (ah (zz0 (aa rfl) (zz0 (gB rfl rfl aM au) ?_)))))
  refine zz0 (m8 rfl aQ au) ?_
  refine dA bP rfl (fun b21 => ?_)
  refine zz0 (ab rfl) (aF aP rfl rfl au ?_)
  refine ad (al ?_)
  have hqk : Sl F9.blk bQ (qs.getD k default).data (.slice (qs.getD k default).dp (qs.getD k default).data.length (qs.getD k default).dc) := hQ9 _ (cS (by omega))
  have hib : ∀ x ∈ (qs.getD k default).data, 0 ≤ x ∧ x < (l.length : Int) := fun x hx => by
   rw [ml hqs k] at hx
   exact (rD l (Nat.le_refl _)).i _ (getD_mem hx) x hx
  refine gZ aT ?_
  refine ax (zz1 (off := 2) (ft := 3) rfl af rfl ay) ?_
  refine ax (aH rfl aI) ?_
  refine ax (aY rfl rfl) (ax (aa rfl) ?_)
  apply fH
  ·exact (rfl : _ = (3, 124, 127))
  ·exact rfl
  ·intro hT22; have hT22' := hT22
   try simp only [bs] at hT22'
   refine bZ hT22 (bE rfl aQ au) ?_
   refine bZ hT22 (aC rfl kt (fun w hw => kl _ w (hIO _ (cS (by omega))))) ?_
   refine ax (aN rfl hT22 rfl) ?_
   exact dl (Sub.cons rfl (zz7 3 rfl))
  ·intro hF22
   refine bY hF22 (bY hF22 (ax (aK rfl hF22 rfl) ?_))
   exact dl (Sub.cons rfl (zz7 3 rfl))
  refine ax (aa rfl) ?_
  apply fH
  ·exact (rfl : _ = (12, 128, 140))
  ·exact rfl
  ·intro hT23; have hT23' := hT23
   try simp only [bs] at hT23'
   refine bZ hT23 (zz1 (off := 0) (ft := 23) rfl af rfl ae) ?_
   refine bZ hT23 (aH rfl am) ?_
   refine bZ hT23 (aa rfl) (bZ hT23 (bh rfl) ?_)
   refine bZ hT23 (zz1 (off := 0) (ft := 50) rfl bC rfl cD) ?_
   refine bZ hT23 (ki rfl cP) ?_
   refine bZ hT23 (aa rfl) (bZ hT23 (gB rfl rfl aM au) ?_)
   refine bZ hT23 (zz1 (off := 0) (ft := 23) rfl af rfl ae) ?_
   refine bZ hT23 (me rfl (by assumption) am (by omega) (by rfl)) ?_
   refine bZ hT23 (jc rfl rfl) ?_
   refine ax (aN rfl hT23 rfl) ?_
   exact dl (Sub.cons rfl (zz7 12 rfl))
  ·intro hF23
   refine bY hF23 (bY hF23 (bY hF23 (bY hF23 (bY hF23 (bY hF23 (bY hF23 (bY hF23 (bY hF23 (bY hF23 (bY hF23 (ax (aK rfl hF23 rfl) ?_)))))))))))
   exact dl (Sub.cons rfl (zz7 12 rfl))
  refine ax (aa rfl) ?_
  apply fH
  ·exact (rfl : _ = (7, 141, 148))
  ·exact rfl
  ·intro hT24; have hT24' := hT24
   try simp only [bs] at hT24'
   refine bZ hT24 (aa rfl) (bZ hT24 (aa rfl) (bZ hT24 (gB rfl rfl gm eL) ?_))
   refine bZ hT24 (iM rfl gi) ?_
   refine bZ hT24 (fJ rfl cQ) ?_
   refine bZ hT24 (aY rfl rfl) (ax (aN rfl hT24 rfl) ?_)
   exact dl (Sub.cons rfl (zz7 7 rfl))
  ·intro hF24
   refine bY hF24 (bY hF24 (bY hF24 (bY hF24 (bY hF24 (bY hF24 (ax (aK rfl hF24 rfl) ?_))))))
   exact dl (Sub.cons rfl (zz7 7 rfl))
  refine ax (aa rfl) ?_
  apply fH
  ·exact (rfl : _ = (14, 149, 163))
  ·exact rfl
  ·intro hT25; have hT25' := hT25
   try simp only [bs] at hT25'
   have hx0 := hib _ (cS (k := 0) (by omega))
   refine bZ hT25 (aa rfl) (bZ hT25 (bh rfl) ?_)
   refine bZ hT25 (zz1 (off := 0) (ft := 50) rfl bC rfl cD) ?_
   refine bZ hT25 (ki rfl cP) ?_
   refine bZ hT25 (aa rfl) (bZ hT25 (aa rfl) (bZ hT25 (gB rfl rfl gm eL) ?_))
   refine bZ hT25 (iM rfl gi) ?_
   refine bZ hT25 (yH (i := 0) rfl rfl hqk cQ ay (by rfl) (by omega)) ?_
   refine bZ hT25 (iM rfl aI) ?_
   refine bZ hT25 (m9 rfl rfl aM au) ?_
   refine bZ hT25 (m8 rfl aQ au) ?_
   refine bZ hT25 (aC rfl Tryz.call225 (fun w hw => s9 _ w (hIO _ (cS (by omega))))) ?_
   refine ax (aN rfl hT25 rfl) ?_
   exact dl (Sub.cons rfl (zz7 14 rfl))
  ·intro hF25
   refine bY hF25 (bY hF25 (bY hF25 (bY hF25 (bY hF25 (bY hF25 (bY hF25 (bY hF25 (bY hF25 (bY hF25 (bY hF25 (bY hF25 (bY hF25 (ax (aK rfl hF25 rfl) ?_)))))))))))))
   exact dl (Sub.cons rfl (zz7 14 rfl))
  refine bK ?_
  refine ac ?_
  refine ao rfl ?_ ?_ <;> intro h26 <;> try simp only [bs] at h26
  ·have hgq := h26
   refine fK 0 12 aT ?_
   refine bH ?_
   refine ax (aa rfl) (ax (bh rfl) ?_)
   refine ax (zz1 (off := 3) (ft := 224) rfl bC rfl eL) ?_
   refine ax (ki rfl gi) ?_
   refine ax (aa rfl) (ax (aa rfl) (ax (aa rfl) (ax (gB rfl rfl gm eL) ?_)))
   refine ax (iM rfl gi) ?_
   refine ax (yH (i := 0) rfl rfl hqk cQ ay (by rfl) (by omega)) ?_
   refine ax (iM rfl aI) ?_
   refine ax (dm rfl rfl cQ ay) ?_
   refine bK ?_
   refine f9 (l := gd) (i := k) (((qs.getD k default).data.getD 0 default)) rfl rfl ay ?_
   have hls27 : (List.set gd (k) (((qs.getD k default).data.getD 0 default))).length = (gd).length := List.length_set
   refine az (aX (ac (ar (zz0 (cx rfl rfl) ?_))))
   refine zz0 (aa rfl) (ad ?_)
   have hgv : mL l e (jD l l.length).into k = ((qs.getD k default).data.getD 0 default) := by
    unfold mL
    rw [← ml hqs k]
    exact if_pos ⟨hgq.1.1.1.1, hgq.1.1.1.2, hgq.1.1.2, by omega, hgq.2⟩
   have hgy := Il (n := l.length) hgl2 hgm2 (by omega)
   rw [hgv] at hgy
   refine oD (k + 1, gd.set k ((qs.getD k default).data.getD 0 default)) (Front.c Front.nil) (bA 32 rfl) (o := ⟨by omega, List.length_set.trans hgl2, hgy, IZ hgm3⟩)
  have hgq := h26
  refine bW (aX (ac (ar (zz0 (cx rfl rfl) ?_))))
  refine zz0 (aa rfl) (ad ?_)
  have hgv : mL l e (jD l l.length).into k = -1 := by
   unfold mL
   rw [← ml hqs k]
   refine if_neg (fun hq => ?_)
   rcases hgq with (((q | q) | q) | q) | q
   ·exact q hq.1
   ·exact q hq.2.1
   ·exact hq.2.2.1 q
   ·exact q (by omega)
   ·rw [hq.2.2.2.2] at q; cases q
  refine oD (k + 1, gd) (Front.c Front.nil) (bA 20 rfl) (o := ⟨by omega, hgl2, I0 hgl2 hgm2 ((hgm3 k (Nat.le_refl _) (by omega)).trans hgv.symm), fun j h1 h2 => hgm3 j (by omega) h2⟩)
 refine bG (aJ (aJ (bj ?_)))
 refine fq Tryz.results161 (fun w' hw => ?_)
 have hgg := DC hgl2 (fun j hj => hgm2 j (by omega))
 rw [hgg, List.append_nil] at hw
 exact ⟨(VE, VG, rs), rfl, hw.upd hF9 (by repeat' (first | exact Pick.refl _ | exact Del.here _ | apply Pick.cons | apply Del.there | apply Pick.skip | exact Pick.nil _)), hrs⟩
end Go.Proofs.YtiajjbhcpeadfaaGreat
namespace Go.Proofs.YtiajjbhcpeadfaaGreat
open Go Go.HL Go.RowKit
theorem Bc (l : List Bool) (V : Value) (a : Bool) (w : World) (hV : Sl (hp w) cE l V) :
  Cr Tryz.prog 163 #[V, .bool a] w (.int .i64 (dF (fun x => decide (a = x)) 0 l)) := by
 have hV' : Sl (Bg.of w).blk cE l V := hV
 have hlV := hV'.len_le
 refine enter Tryz.func163 rfl Tryz.ntmps163 rfl ?_
 refine ah (zz0 (ab rfl) (ad (al (ah (zz0 (aa rfl) (zz0 (fJ rfl eH) ?_))))))
 refine zz0 (aa rfl) (ad (aG ?_))
 refine bN (ι := Nat) (fun k => k ≤ l.length ∧ dF (fun x => decide (a = x)) k (l.drop k) = dF (fun x => decide (a = x)) 0 l) (fun _ => _) (fun k => []) (fun k => [(8, .int .i64 (k : Nat))]) (fun k => l.length - k) 0 ⟨Nat.zero_le _, rfl⟩ (Front.c Front.nil) (by repeat' constructor) rfl (fun k hi m hm => ?_)
 replace hi : k ≤ l.length ∧ dF (fun x => decide (a = x)) k (l.drop k) = dF (fun x => decide (a = x)) 0 l := hi
 replace hm : m = l.length - k := hm
 change Tr _ _ [] ([(8, .int .i64 (k : Nat))] ++ _) _
 obtain ⟨hk1, hk2⟩ := hi
 refine ah (zz0 (bS rfl rfl) (ad (al ?_)))
 refine ao rfl ?_ ?_ <;> intro h1 <;> try simp only [bs] at h1
 ·refine bB (al (aG (ah (zz0 (aa rfl) (zz0 (ab rfl) (aL (zz0 (aa rfl) (zz0 (aa rfl) ?_))))))))
  refine zz0 (aa rfl) (zz0 (gB rfl rfl eH bX) ?_)
  refine zz0 (iM rfl cK) ?_
  refine zz0 (tp rfl rfl Tryz.underlying4) ?_
  refine ad ?_
  refine ao rfl ?_ ?_ <;> intro h2 <;> try simp only [bs] at h2
  ·refine ah (zz0 (aa rfl) (zz0 (ab rfl) (ad (aD (bv (aB (aB (bv (aB ?_)))))))))
   refine aS Tryz.results163 rfl (fun w' hw => ?_)
   exact ⟨by rw [← hk2, drop_cons (k := k) (by omega), dF, if_pos (by simp_all)], hw.b0⟩
  refine bW (aX (ac (ar (zz0 (cx rfl rfl) ?_))))
  refine zz0 (aa rfl) (ad ?_)
  refine cC (k + 1) (Front.c Front.nil) (bA 12 rfl) (o := ⟨by omega, by rw [← hk2, drop_cons (k := k) (by omega), dF, if_neg (by simp_all)]⟩)
 refine bG (aJ (aJ (bj (ac (ah (zz0 (ab rfl) (ad (aD ?_))))))))
 refine aS Tryz.results163 rfl (fun w' hw => ?_)
 exact ⟨by rw [← hk2, List.drop_of_length_le (by omega)]; rfl, hw.b0⟩
theorem Ap (l : List Ins) (entry : UInt32) (rounds : Nat) (V : Value) (w : World) (hI : Sl (hp w) aP l V) (hIO : ∀ x ∈ l, InsOK x) (hrd : rounds ≤ 100000) :
  Calls Tryz.prog 107 #[V, .int .u32 entry.toNat, .int .i64 (rounds : Nat)] w (fun e w' => ∃ V : Value, e = .returned (.tuple #[V, .int .i64 (eK l entry rounds).2]) ∧ Below w.heap.size w w' ∧ NewEnts w w' [rowE V 37 cL (eK l entry rounds).1]) := by
 obtain ⟨pV, cV, hvp, _⟩ := hI.shape
 subst hvp
 have hI0 : Sl (Bg.of0 w).blk aP l (.slice pV l.length cV) := hI
 have hlI := hI0.len_le
 refine l3 Tryz.func107 rfl Tryz.ntmps107 rfl ?_
 refine ah (zz0 (ab rfl) (zz0 (ab rfl) (ad (al (ah (zz0 (aa rfl) (zz0 (fJ rfl aM) ?_)))))))
 refine zz0 (eU rfl rfl) (ad ?_)
 refine ao rfl ?_ ?_ <;> intro h1 <;> try simp only [bs] at h1
 ·refine al (cd 37 cL ?_)
  refine ar (zz0 (ab rfl) (zz0 (ab rfl) (ad (aD (aB ?_)))))
  refine dI kK rfl rfl (fun w' hw => ?_)
  have e : eK l entry rounds = ([], 6) := if_pos (by omega)
  refine ⟨.slice none 0 0, by rw [e], hw.below0 (Bg.le.refl _), by rw [e]; exact hw.ents0 rfl (by repeat' constructor)⟩
 refine bB ?_
 refine db (ι := Nat × Nat × Nat × Nat) (fun ⟨bm, bvv, bww, bq⟩ => True) (fun _ => (Bg.of0 w)) (fun ⟨bm, bvv, bww, bq⟩ => [cellE bq [(.slice pV l.length cV), .map (some bm), .slice none 0 0, .slice none 0 0, .slice none 0 0, .slice (some ⟨bvv, 0, none⟩) (List.replicate l.length (0 : Int)).length l.length, .slice (some ⟨bww, 0, none⟩) (List.replicate l.length false).length l.length] 228, mapE bm ip [], rowE (.slice (some ⟨bvv, 0, none⟩) (List.replicate l.length (0 : Int)).length l.length) 3 bQ (List.replicate l.length 0), rowE (.slice (some ⟨bww, 0, none⟩) (List.replicate l.length false).length l.length) 4 cE (List.replicate l.length false)]) (fun ⟨bm, bvv, bww, bq⟩ => [(8, .pointer (some ⟨bq, 0, none⟩))]) ?_ (fun i hi => ?_)
 ·skip
  refine dG ([]) 11 rfl aT ?_
  refine zz3 0 rfl (aa rfl) ?_
  refine zz3 2 rfl (aa rfl) ?_
  refine Cw 3 rfl (by kernel_rfl) (bF dx) rfl aM ?_
  refine zz3 5 rfl (aa rfl) ?_
  refine Cw 6 rfl (by kernel_rfl) (bF dx) rfl aM ?_
  refine dh [1, 4, 7] (fun iq hq => ?_)
  rcases List.mem_cons.1 hq with rfl | hq
  ·skip
   refine bD rfl ?_
   refine gy ip rfl (fun bm => ?_)
   refine bU ?_
   refine dh [4, 7] (fun iq hq => ?_)
   rcases List.mem_cons.1 hq with rfl | hq
   ·skip
    refine bD rfl ?_
    refine jr (E := bQ) 0 rfl rfl cQ kA rfl rfl rfl (by constructor <;> omega) rfl (fun bvv => ?_)
    refine bU ?_
    refine dh [7] (fun iq hq => ?_)
    obtain rfl := List.mem_singleton.1 hq
    refine bD rfl ?_
    refine jr (E := cE) false rfl rfl eH nJ rfl rfl rfl (by constructor <;> omega) rfl (fun bww => ?_)
    refine bU ?_
    refine ke 8 rfl (by kernel_rfl) (bF dx) (bL (vs := [(0, _), (1, _), (5, _), (6, _)]) (cs := #[(.slice pV l.length cV), .map (some bm), .slice none 0 0, .slice none 0 0, .slice none 0 0, .slice (some ⟨bvv, 0, none⟩) (List.replicate l.length (0 : Int)).length l.length, .slice (some ⟨bww, 0, none⟩) (List.replicate l.length false).length l.length]) rfl rfl (by kernel_rfl)) ?_
    refine dh [9] (fun iq hq => ?_)
    obtain rfl := List.mem_singleton.1 hq
    refine bD rfl ?_
    refine dE (cs := [(.slice pV l.length cV), .map (some bm), .slice none 0 0, .slice none 0 0, .slice none 0 0, .slice (some ⟨bvv, 0, none⟩) (List.replicate l.length (0 : Int)).length l.length, .slice (some ⟨bww, 0, none⟩) (List.replicate l.length false).length l.length]) rfl rfl (fun bq => ?_)
    refine bU ?_
    refine zz3 10 rfl (ab rfl) ?_
    refine gI ?_
    refine ac ?_
    refine cw (_, _, _, _) (Front.c Front.nil) (bA 11 rfl) (o := trivial)
   obtain rfl := List.mem_singleton.1 hq
   refine bD rfl ?_
   refine jr (E := cE) false rfl rfl eH nJ rfl rfl rfl (by constructor <;> omega) rfl (fun bww => ?_)
   refine bU ?_
   refine dh [4] (fun iq hq => ?_)
   obtain rfl := List.mem_singleton.1 hq
   refine bD rfl ?_
   refine jr (E := bQ) 0 rfl rfl cQ kA rfl rfl rfl (by constructor <;> omega) rfl (fun bvv => ?_)
   refine bU ?_
   refine ke 8 rfl (by kernel_rfl) (bF dx) (bL (vs := [(0, _), (1, _), (5, _), (6, _)]) (cs := #[(.slice pV l.length cV), .map (some bm), .slice none 0 0, .slice none 0 0, .slice none 0 0, .slice (some ⟨bvv, 0, none⟩) (List.replicate l.length (0 : Int)).length l.length, .slice (some ⟨bww, 0, none⟩) (List.replicate l.length false).length l.length]) rfl rfl (by kernel_rfl)) ?_
   refine dh [9] (fun iq hq => ?_)
   obtain rfl := List.mem_singleton.1 hq
   refine bD rfl ?_
   refine dE (cs := [(.slice pV l.length cV), .map (some bm), .slice none 0 0, .slice none 0 0, .slice none 0 0, .slice (some ⟨bvv, 0, none⟩) (List.replicate l.length (0 : Int)).length l.length, .slice (some ⟨bww, 0, none⟩) (List.replicate l.length false).length l.length]) rfl rfl (fun bq => ?_)
   refine bU ?_
   refine zz3 10 rfl (ab rfl) ?_
   refine gI ?_
   refine ac ?_
   refine cw (_, _, _, _) (Front.c Front.nil) (bA 11 rfl) (o := trivial)
  rcases List.mem_cons.1 hq with rfl | hq
  ·skip
   refine bD rfl ?_
   refine jr (E := bQ) 0 rfl rfl cQ kA rfl rfl rfl (by constructor <;> omega) rfl (fun bvv => ?_)
   refine bU ?_
   refine dh [1, 7] (fun iq hq => ?_)
   rcases List.mem_cons.1 hq with rfl | hq
   ·skip
    refine bD rfl ?_
    refine gy ip rfl (fun bm => ?_)
    refine bU ?_
    refine dh [7] (fun iq hq => ?_)
    obtain rfl := List.mem_singleton.1 hq
    refine bD rfl ?_
    refine jr (E := cE) false rfl rfl eH nJ rfl rfl rfl (by constructor <;> omega) rfl (fun bww => ?_)
    refine bU ?_
    refine ke 8 rfl (by kernel_rfl) (bF dx) (bL (vs := [(0, _), (1, _), (5, _), (6, _)]) (cs := #[(.slice pV l.length cV), .map (some bm), .slice none 0 0, .slice none 0 0, .slice none 0 0, .slice (some ⟨bvv, 0, none⟩) (List.replicate l.length (0 : Int)).length l.length, .slice (some ⟨bww, 0, none⟩) (List.replicate l.length false).length l.length]) rfl rfl (by kernel_rfl)) ?_
    refine dh [9] (fun iq hq => ?_)
    obtain rfl := List.mem_singleton.1 hq
    refine bD rfl ?_
    refine dE (cs := [(.slice pV l.length cV), .map (some bm), .slice none 0 0, .slice none 0 0, .slice none 0 0, .slice (some ⟨bvv, 0, none⟩) (List.replicate l.length (0 : Int)).length l.length, .slice (some ⟨bww, 0, none⟩) (List.replicate l.length false).length l.length]) rfl rfl (fun bq => ?_)
    refine bU ?_
    refine zz3 10 rfl (ab rfl) ?_
    refine gI ?_
    refine ac ?_
    refine cw (_, _, _, _) (Front.c Front.nil) (bA 11 rfl) (o := trivial)
   obtain rfl := List.mem_singleton.1 hq
   refine bD rfl ?_
   refine jr (E := cE) false rfl rfl eH nJ rfl rfl rfl (by constructor <;> omega) rfl (fun bww => ?_)
   refine bU ?_
   refine dh [1] (fun iq hq => ?_)
   obtain rfl := List.mem_singleton.1 hq
   refine bD rfl ?_
   refine gy ip rfl (fun bm => ?_)
   refine bU ?_
   refine ke 8 rfl (by kernel_rfl) (bF dx) (bL (vs := [(0, _), (1, _), (5, _), (6, _)]) (cs := #[(.slice pV l.length cV), .map (some bm), .slice none 0 0, .slice none 0 0, .slice none 0 0, .slice (some ⟨bvv, 0, none⟩) (List.replicate l.length (0 : Int)).length l.length, .slice (some ⟨bww, 0, none⟩) (List.replicate l.length false).length l.length]) rfl rfl (by kernel_rfl)) ?_
   refine dh [9] (fun iq hq => ?_)
   obtain rfl := List.mem_singleton.1 hq
   refine bD rfl ?_
   refine dE (cs := [(.slice pV l.length cV), .map (some bm), .slice none 0 0, .slice none 0 0, .slice none 0 0, .slice (some ⟨bvv, 0, none⟩) (List.replicate l.length (0 : Int)).length l.length, .slice (some ⟨bww, 0, none⟩) (List.replicate l.length false).length l.length]) rfl rfl (fun bq => ?_)
   refine bU ?_
   refine zz3 10 rfl (ab rfl) ?_
   refine gI ?_
   refine ac ?_
   refine cw (_, _, _, _) (Front.c Front.nil) (bA 11 rfl) (o := trivial)
  obtain rfl := List.mem_singleton.1 hq
  refine bD rfl ?_
  refine jr (E := cE) false rfl rfl eH nJ rfl rfl rfl (by constructor <;> omega) rfl (fun bww => ?_)
  refine bU ?_
  refine dh [1, 4] (fun iq hq => ?_)
  rcases List.mem_cons.1 hq with rfl | hq
  ·skip
   refine bD rfl ?_
   refine gy ip rfl (fun bm => ?_)
   refine bU ?_
   refine dh [4] (fun iq hq => ?_)
   obtain rfl := List.mem_singleton.1 hq
   refine bD rfl ?_
   refine jr (E := bQ) 0 rfl rfl cQ kA rfl rfl rfl (by constructor <;> omega) rfl (fun bvv => ?_)
   refine bU ?_
   refine ke 8 rfl (by kernel_rfl) (bF dx) (bL (vs := [(0, _), (1, _), (5, _), (6, _)]) (cs := #[(.slice pV l.length cV), .map (some bm), .slice none 0 0, .slice none 0 0, .slice none 0 0, .slice (some ⟨bvv, 0, none⟩) (List.replicate l.length (0 : Int)).length l.length, .slice (some ⟨bww, 0, none⟩) (List.replicate l.length false).length l.length]) rfl rfl (by kernel_rfl)) ?_
   refine dh [9] (fun iq hq => ?_)
   obtain rfl := List.mem_singleton.1 hq
   refine bD rfl ?_
   refine dE (cs := [(.slice pV l.length cV), .map (some bm), .slice none 0 0, .slice none 0 0, .slice none 0 0, .slice (some ⟨bvv, 0, none⟩) (List.replicate l.length (0 : Int)).length l.length, .slice (some ⟨bww, 0, none⟩) (List.replicate l.length false).length l.length]) rfl rfl (fun bq => ?_)
   refine bU ?_
   refine zz3 10 rfl (ab rfl) ?_
   refine gI ?_
   refine ac ?_
   refine cw (_, _, _, _) (Front.c Front.nil) (bA 11 rfl) (o := trivial)
  obtain rfl := List.mem_singleton.1 hq
  refine bD rfl ?_
  refine jr (E := bQ) 0 rfl rfl cQ kA rfl rfl rfl (by constructor <;> omega) rfl (fun bvv => ?_)
  refine bU ?_
  refine dh [1] (fun iq hq => ?_)
  obtain rfl := List.mem_singleton.1 hq
  refine bD rfl ?_
  refine gy ip rfl (fun bm => ?_)
  refine bU ?_
  refine ke 8 rfl (by kernel_rfl) (bF dx) (bL (vs := [(0, _), (1, _), (5, _), (6, _)]) (cs := #[(.slice pV l.length cV), .map (some bm), .slice none 0 0, .slice none 0 0, .slice none 0 0, .slice (some ⟨bvv, 0, none⟩) (List.replicate l.length (0 : Int)).length l.length, .slice (some ⟨bww, 0, none⟩) (List.replicate l.length false).length l.length]) rfl rfl (by kernel_rfl)) ?_
  refine dh [9] (fun iq hq => ?_)
  obtain rfl := List.mem_singleton.1 hq
  refine bD rfl ?_
  refine dE (cs := [(.slice pV l.length cV), .map (some bm), .slice none 0 0, .slice none 0 0, .slice none 0 0, .slice (some ⟨bvv, 0, none⟩) (List.replicate l.length (0 : Int)).length l.length, .slice (some ⟨bww, 0, none⟩) (List.replicate l.length false).length l.length]) rfl rfl (fun bq => ?_)
  refine bU ?_
  refine zz3 10 rfl (ab rfl) ?_
  refine gI ?_
  refine ac ?_
  refine cw (_, _, _, _) (Front.c Front.nil) (bA 11 rfl) (o := trivial)
 obtain ⟨bm, bvv, bww, bq⟩ := i
 replace hi : True := hi
 change Tr _ _ [cellE bq [(.slice pV l.length cV), .map (some bm), .slice none 0 0, .slice none 0 0, .slice none 0 0, .slice (some ⟨bvv, 0, none⟩) (List.replicate l.length (0 : Int)).length l.length, .slice (some ⟨bww, 0, none⟩) (List.replicate l.length false).length l.length] 228, mapE bm ip [], rowE (.slice (some ⟨bvv, 0, none⟩) (List.replicate l.length (0 : Int)).length l.length) 3 bQ (List.replicate l.length 0), rowE (.slice (some ⟨bww, 0, none⟩) (List.replicate l.length false).length l.length) 4 cE (List.replicate l.length false)] ([(8, .pointer (some ⟨bq, 0, none⟩))] ++ _) _
 obtain ⟨VV, hVV⟩ : ∃ V, V = Value.slice (some ⟨bvv, 0, none⟩) (List.replicate l.length (0 : Int)).length l.length := ⟨_, rfl⟩
 obtain ⟨VM, hVM⟩ : ∃ V, V = Value.slice (some ⟨bww, 0, none⟩) (List.replicate l.length false).length l.length := ⟨_, rfl⟩
 rw [← hVV, ← hVM]
 refine al (ah (zz0 (aa rfl) (zz0 (fJ rfl aM) ?_)))
 refine zz0 (aa rfl) (ad (aG (cd 37 cL ?_)))
 refine bN (ι := Nat × Value) (fun ⟨k, Vb⟩ => k ≤ l.length) (fun _ => _) (fun ⟨k, Vb⟩ => [cellE bq [(.slice pV l.length cV), .map (some bm), .slice none 0 0, .slice none 0 0, Vb, VV, VM] 228, rowE Vb 37 cL (List.replicate k (iO 8)), mapE bm ip (atK l k), rowE VV 3 bQ (List.replicate l.length 0), rowE VM 4 cE (List.replicate l.length false)]) (fun ⟨k, Vb⟩ => [(32, .int .i64 (k : Nat))]) (fun ⟨k, Vb⟩ => l.length - k) (0, _) (Nat.zero_le _) (Front.c Front.nil) (by repeat' constructor) rfl (fun i hi m hm => ?_)
 obtain ⟨k, Vb⟩ := i
 replace hi : k ≤ l.length := hi
 replace hm : m = l.length - k := hm
 change Tr _ _ [cellE bq [(.slice pV l.length cV), .map (some bm), .slice none 0 0, .slice none 0 0, Vb, VV, VM] 228, rowE Vb 37 cL (List.replicate k (iO 8)), mapE bm ip (atK l k), rowE VV 3 bQ (List.replicate l.length 0), rowE VM 4 cE (List.replicate l.length false)] ([(32, .int .i64 (k : Nat))] ++ _) _
 have hrk : (List.replicate k (iO 8)).length = k := List.length_replicate
 refine ah (zz0 (bS rfl rfl) (ad (al ?_)))
 refine ao rfl ?_ ?_ <;> intro h2 <;> try simp only [bs] at h2
 ·refine bB (al (aG (ah (zz0 (aa rfl) (zz0 (gB rfl rfl aM au) ?_)))))
  refine zz0 (m8 rfl aQ au) ?_
  refine dA bP rfl (fun b3 => ?_)
  refine zz0 (ab rfl) (aF aP rfl rfl au ?_)
  refine ad ?_
  refine db (ι := List (UInt32 × Int)) (fun m1 => m1 = atK l (k + 1)) (fun _ => (Bg.of0 w)) (fun m1 => [cellE b3 (aP.enc (l.getD k default)) 36, cellE bq [(.slice pV l.length cV), .map (some bm), .slice none 0 0, .slice none 0 0, Vb, VV, VM] 228, rowE Vb 37 cL (List.replicate k (iO 8)), mapE bm ip m1, rowE VV 3 bQ (List.replicate l.length 0), rowE VM 4 cE (List.replicate l.length false)]) (fun m1 => []) ?_ (fun m1 hi => ?_)
  ·skip
   refine al (gZ aT ?_)
   refine ax (aa rfl) (ax (bh rfl) ?_)
   refine ax (zz1 (off := 1) (ft := 223) rfl bC rfl kd) ?_
   refine ax (ki rfl kT) ?_
   refine ax (zz1 (off := 0) (ft := 23) rfl af rfl ae) ?_
   refine ax (aH rfl am) ?_
   refine ax (vq rfl rfl (by repeat constructor) ic aV iH) ?_
   refine ax (aa rfl) (ax (aR rfl rfl) (ax (aR rfl rfl) (ax (ab rfl) (ax (ab rfl) (bK ?_)))))
   refine ac (ah (zz0 (aa rfl) (zz0 (cj rfl) (ad ?_))))
   refine ao rfl ?_ ?_ <;> intro h4 <;> try simp only [bs] at h4
   ·refine fK 0 7 aT ?_
    refine bH ?_
    refine ax (aa rfl) (ax (bh rfl) ?_)
    refine ax (zz1 (off := 1) (ft := 223) rfl bC rfl kd) ?_
    refine ax (ki rfl kT) ?_
    refine ax (zz1 (off := 0) (ft := 23) rfl af rfl ae) ?_
    refine ax (aH rfl am) ?_
    refine ax (aa rfl) (bK ?_)
    refine ga (k : Int) rfl rfl rfl (by repeat constructor) ic aV rfl ?_
    refine ad ?_
    refine cw _ Front.nil (bA 21 rfl) (o := (show _ = atK l (k + 1) from (if_neg (by simp_all)).symm))
   refine bB ?_
   refine cw _ Front.nil (bA 14 rfl) (o := (show _ = atK l (k + 1) from (if_pos (by simp_all)).symm))
  skip
  replace hi : m1 = atK l (k + 1) := hi
  change Tr _ _ [cellE b3 (aP.enc (l.getD k default)) 36, cellE bq [(.slice pV l.length cV), .map (some bm), .slice none 0 0, .slice none 0 0, Vb, VV, VM] 228, rowE Vb 37 cL (List.replicate k (iO 8)), mapE bm ip m1, rowE VV 3 bQ (List.replicate l.length 0), rowE VM 4 cE (List.replicate l.length false)] ([] ++ _) _
  subst hi
  refine dG ([]) 11 rfl aT ?_
  refine zz3 0 rfl (aa rfl) ?_
  refine zz3 1 rfl (aa rfl) ?_
  refine zz3 2 rfl (bh rfl) ?_
  refine zz3 3 rfl (zz1 (off := 4) (ft := 177) rfl bC rfl eM) ?_
  refine dh [4, 5] (fun iq hq => ?_)
  rcases List.mem_cons.1 hq with rfl | hq
  ·skip
   refine bD rfl ?_
   refine zz0 (ki rfl gQ) ?_
   refine bU ?_
   refine dh [5] (fun iq hq => ?_)
   obtain rfl := List.mem_singleton.1 hq
   refine bD rfl ?_
   refine zz0 (aC rfl Tryz.call160 (fun w hw => wN w)) ?_
   refine bU ?_
   refine dh [6] (fun iq hq => ?_)
   obtain rfl := List.mem_singleton.1 hq
   refine bD rfl ?_
   refine jB (E := cL) (iO 8) rfl rfl dS aU cR (fun V5 => ?_)
   refine bU ?_
   refine dh [7] (fun iq hq => ?_)
   obtain rfl := List.mem_singleton.1 hq
   refine bD rfl ?_
   refine zz2 rfl rfl dS qN (fun V6 => ?_)
   refine dz (.head _) (fun pb cb hpb => ?_)
   subst hpb
   refine bU ?_
   refine zz3 8 rfl (bh rfl) ?_
   refine zz3 9 rfl (zz1 (off := 4) (ft := 177) rfl bC rfl eM) ?_
   refine dh [10] (fun iq hq => ?_)
   obtain rfl := List.mem_singleton.1 hq
   refine bD rfl ?_
   refine zz4 rfl rfl eM rfl ?_
   change Tr _ _ [rowE (.slice pb ((List.replicate k (iO 8)) ++ [iO 8]).length cb) 37 cL ((List.replicate k (iO 8)) ++ [iO 8]), cellE b3 (aP.enc (l.getD k default)) 36, cellE bq [(.slice pV l.length cV), .map (some bm), .slice none 0 0, .slice none 0 0, (.slice pb ((List.replicate k (iO 8)) ++ [iO 8]).length cb), VV, VM] 228, mapE bm ip (atK l (k + 1)), rowE VV 3 bQ (List.replicate l.length 0), rowE VM 4 cE (List.replicate l.length false)] _ _
   refine bU ?_
   refine gI ?_
   refine aX (ac (ar (zz0 (cx rfl rfl) ?_)))
   refine zz0 (aa rfl) (ad ?_)
   rw [← List.replicate_succ']
   refine cC (k + 1, _) (Front.c Front.nil) (bA 19 rfl) (o := (by show k + 1 ≤ _; omega))
  obtain rfl := List.mem_singleton.1 hq
  refine bD rfl ?_
  refine zz0 (aC rfl Tryz.call160 (fun w hw => wN w)) ?_
  refine bU ?_
  refine dh [4, 6] (fun iq hq => ?_)
  rcases List.mem_cons.1 hq with rfl | hq
  ·skip
   refine bD rfl ?_
   refine zz0 (ki rfl gQ) ?_
   refine bU ?_
   refine dh [6] (fun iq hq => ?_)
   obtain rfl := List.mem_singleton.1 hq
   refine bD rfl ?_
   refine jB (E := cL) (iO 8) rfl rfl dS aU cR (fun V7 => ?_)
   refine bU ?_
   refine dh [7] (fun iq hq => ?_)
   obtain rfl := List.mem_singleton.1 hq
   refine bD rfl ?_
   refine zz2 rfl rfl dS qN (fun V8 => ?_)
   refine dz (.head _) (fun pb cb hpb => ?_)
   subst hpb
   refine bU ?_
   refine zz3 8 rfl (bh rfl) ?_
   refine zz3 9 rfl (zz1 (off := 4) (ft := 177) rfl bC rfl eM) ?_
   refine dh [10] (fun iq hq => ?_)
   obtain rfl := List.mem_singleton.1 hq
   refine bD rfl ?_
   refine zz4 rfl rfl eM rfl ?_
   change Tr _ _ [rowE (.slice pb ((List.replicate k (iO 8)) ++ [iO 8]).length cb) 37 cL ((List.replicate k (iO 8)) ++ [iO 8]), cellE b3 (aP.enc (l.getD k default)) 36, cellE bq [(.slice pV l.length cV), .map (some bm), .slice none 0 0, .slice none 0 0, (.slice pb ((List.replicate k (iO 8)) ++ [iO 8]).length cb), VV, VM] 228, mapE bm ip (atK l (k + 1)), rowE VV 3 bQ (List.replicate l.length 0), rowE VM 4 cE (List.replicate l.length false)] _ _
   refine bU ?_
   refine gI ?_
   refine aX (ac (ar (zz0 (cx rfl rfl) ?_)))
   refine zz0 (aa rfl) (ad ?_)
   rw [← List.replicate_succ']
   refine cC (k + 1, _) (Front.c Front.nil) (bA 19 rfl) (o := (by show k + 1 ≤ _; omega))
  obtain rfl := List.mem_singleton.1 hq
  refine bD rfl ?_
  refine jB (E := cL) (iO 8) rfl rfl dS aU cR (fun V9 => ?_)
  refine bU ?_
  refine dh [4] (fun iq hq => ?_)
  obtain rfl := List.mem_singleton.1 hq
  refine bD rfl ?_
  refine zz0 (ki rfl gQ) ?_
  refine bU ?_
  refine dh [7] (fun iq hq => ?_)
  obtain rfl := List.mem_singleton.1 hq
  refine bD rfl ?_
  refine zz2 rfl rfl dS qN (fun V10 => ?_)
  refine dz (.head _) (fun pb cb hpb => ?_)
  subst hpb
  refine bU ?_
  refine zz3 8 rfl (bh rfl) ?_
  refine zz3 9 rfl (zz1 (off := 4) (ft := 177) rfl bC rfl eM) ?_
  refine dh [10] (fun iq hq => ?_)
  obtain rfl := List.mem_singleton.1 hq
  refine bD rfl ?_
  refine zz4 rfl rfl eM rfl ?_
  change Tr _ _ [rowE (.slice pb ((List.replicate k (iO 8)) ++ [iO 8]).length cb) 37 cL ((List.replicate k (iO 8)) ++ [iO 8]), cellE b3 (aP.enc (l.getD k default)) 36, cellE bq [(.slice pV l.length cV), .map (some bm), .slice none 0 0, .slice none 0 0, (.slice pb ((List.replicate k (iO 8)) ++ [iO 8]).length cb), VV, VM] 228, mapE bm ip (atK l (k + 1)), rowE VV 3 bQ (List.replicate l.length 0), rowE VM 4 cE (List.replicate l.length false)] _ _
  refine bU ?_
  refine gI ?_
  refine aX (ac (ar (zz0 (cx rfl rfl) ?_)))
  refine zz0 (aa rfl) (ad ?_)
  rw [← List.replicate_succ']
  refine cC (k + 1, _) (Front.c Front.nil) (bA 19 rfl) (o := (by show k + 1 ≤ _; omega))
 refine bG (aJ (aJ (bj (ac (al ?_)))))
 obtain rfl : k = l.length := by omega
 refine ar (zz0 (aa rfl) (zz0 (bh rfl) ?_))
 refine zz0 (zz1 (off := 1) (ft := 223) rfl bC rfl kd) ?_
 refine zz0 (ki rfl kT) ?_
 refine zz0 (aa rfl) (zz0 (vq rfl rfl (by repeat constructor) ic aV iH) ?_)
 rw [By]
 obtain ⟨fe, hfe⟩ : ∃ fe, fe = dU l entry := ⟨_, rfl⟩
 rw [← hfe]
 refine zz0 (aa rfl) (zz0 (aR rfl rfl) (zz0 (aR rfl rfl) (zz0 (ab rfl) (zz0 (ab rfl) (ad (al (ah (zz0 (aa rfl) (zz0 (cj rfl) (ad ?_))))))))))
 refine ao rfl ?_ ?_ <;> intro h11 <;> try simp only [bs] at h11
 ·refine al (cd 37 cL ?_)
  refine ar (zz0 (ab rfl) (zz0 (ab rfl) (ad (aD (aB ?_)))))
  refine dI kK rfl rfl (fun w' hw => ?_)
  have ht1 : (if fe < 0 then none else some fe).isSome = false := by first | assumption | simp_all
  have ht0 : fe < 0 := by
   by_cases q : fe < 0
   ·exact q
   ·rw [if_neg q] at ht1; simp at ht1
  have e : eK l entry rounds = ([], 9) := by unfold eK; rw [if_neg (by omega), if_pos (by rw [← hfe]; exact ht0)]
  refine ⟨.slice none 0 0, by rw [e], hw.below0 (Bg.le.refl _), by rw [e]; exact hw.ents0 rfl (by repeat' constructor)⟩
 refine bB (al ?_)
 have ht1 : (if fe < 0 then none else some fe).isSome = true := by first | assumption | simp_all
 have ht0 : ¬ fe < 0 := fun q => by rw [if_pos q] at ht1; simp at ht1
 have htl := (rz l entry).2
 rw [← hfe] at htl
 rw [if_neg ht0, Option.getD_some]
 obtain ⟨fn, hfn⟩ : ∃ fn : Nat, fe = (fn : Int) := ⟨fe.toNat, by omega⟩
 subst hfn
 refine ma (b := bm) (by repeat constructor) (fun F1 hF1 hA1 => ?_)
 refine ar (zz0 (aa rfl) (zz0 (aa rfl) ?_))
 refine iE (fun _ : Value × Value × List EdV => .tuple #[]) [cellE bq [(.slice pV l.length cV), .map (some bm), .slice none 0 0, .slice none 0 0, Vb, VV, VM] 228] (fun i : Value × Value × List EdV => cellE bq [(.slice pV l.length cV), .map (some bm), i.1, i.2.1, Vb, VV, VM] 228 :: rowE i.2.1 3 bQ (eX l fn) :: rowE i.1 272 gC i.2.2 :: i.2.2.map (rvE 274 eP)) (ok := fun i => i.2.2.map (·.data) = k9 l) (dd := fun _ => 0) rfl Tryz.call161 (by repeat' constructor) (fun w hw => Nat.le_of_eq hF1.dr) (fun w hw => Ac l fn bq bm (.slice pV l.length cV) Vb VV VM w (hw.own (by repeat' constructor)) ((hI0.mono hF1.blk).mono (show Hp.le F1.blk (Bg.lessB w [bq] 0).blk from hw.lessB (Lo := [cellE bq [(.slice pV l.length cV), .map (some bm), .slice none 0 0, .slice none 0 0, Vb, VV, VM] 228]) (by repeat' constructor))) (hA1.mono (show Hp.le F1.blk (Bg.lessB w [bq] 0).blk from hw.lessB (Lo := [cellE bq [(.slice pV l.length cV), .map (some bm), .slice none 0 0, .slice none 0 0, Vb, VV, VM] 228]) (by repeat' constructor))) hIO (by omega) (by omega)) rfl (fun i15 hrs => ?_)
 obtain ⟨VE, VG, rs⟩ := i15
 replace hrs : rs.map (·.data) = k9 l := hrs
 refine yB (A := [cellE bq [(.slice pV l.length cV), .map (some bm), VE, VG, Vb, VV, VM] 228, rowE VG 3 bQ (eX l fn), rowE VE 272 gC rs]) rs (fun F2 hF2 hEI2 => ?_)
 change Tr _ _ [cellE bq [(.slice pV l.length cV), .map (some bm), VE, VG, Vb, VV, VM] 228, rowE VG 3 bQ (eX l fn), rowE VE 272 gC rs, rowE Vb 37 cL (List.replicate l.length (iO 8)), rowE VV 3 bQ (List.replicate l.length 0), rowE VM 4 cE (List.replicate l.length false)] _ _
 refine vl (b := bq) (.here _) (fun F3 hF3 hcx3 => ?_)
 refine kx (V := VG) (T := 3) (E := bQ) (.here _) (fun F4 hF4 hG4 => ?_)
 refine kx (V := VE) (T := 272) (E := gC) (.here _) (fun F5 hF5 hE5 => ?_)
 have hF15 := hF2.trans (hF3.trans (hF4.trans hF5))
 have hF05 := hF1.trans hF15
 have hEI5 := hEI2.mono (hF3.trans (hF4.trans hF5)).blk
 have hcx5 := hcx3.mono (hF4.trans hF5).blk
 have hG5 := hG4.mono hF5.blk
 have hI5 := hI0.mono hF05.blk
 have hdr5 : F5.dr = 0 := hF05.dr
 refine ad (al ?_)
 have hr1 : (List.replicate l.length (iO 8)).length = l.length := List.length_replicate
 have hr2 : (List.replicate l.length false).length = l.length := List.length_replicate
 refine fK 0 7 aT ?_
 refine bH ?_
 refine ax (aa rfl) (ax (bh rfl) ?_)
 refine ax (zz1 (off := 4) (ft := 177) rfl bC rfl eM) ?_
 refine ax (eT rfl hcx5 gQ (by rfl)) ?_
 refine ax (aa rfl) (ax (aC rfl Tryz.call162 (fun w hw => oU w)) ?_)
 refine ax (dm rfl rfl dS aU) ?_
 refine bK ?_
 refine f9 (l := (List.replicate l.length (iO 8))) (i := fn) ((xo 8)) rfl rfl aU ?_
 have hls12 : (List.set (List.replicate l.length (iO 8)) (fn) ((xo 8))).length = ((List.replicate l.length (iO 8))).length := List.length_set
 refine aL (zz0 (aa rfl) (zz0 (bh rfl) ?_))
 refine zz0 (zz1 (off := 6) (ft := 225) rfl bC rfl lB) ?_
 refine zz0 (eT rfl hcx5 mA (by rfl)) ?_
 refine zz0 (aa rfl) (zz0 (dm rfl rfl eH bX) ?_)
 refine f9 (l := (List.replicate l.length false)) (i := fn) (true) rfl rfl bX ?_
 have hls13 : (List.set (List.replicate l.length false) (fn) (true)).length = ((List.replicate l.length false)).length := List.length_set
 refine aL (zz0 (ab rfl) (ad (aG ?_)))
 refine bN (ι := Nat × VSt) (fun ⟨n, s⟩ => (n ≤ rounds ∧ iC l (eX l fn) (k9 l) (rounds - n) s = iC l (eX l fn) (k9 l) rounds (qp l fn)) ∧ (s.st.length = l.length ∧ s.vs.length = l.length ∧ s.mb.length = l.length) ∧ ∀ v ∈ s.vs, 0 ≤ v ∧ v ≤ (n : Int)) (fun _ => F5) (fun ⟨n, s⟩ => [rowE Vb 37 cL s.st, rowE VV 3 bQ s.vs, rowE VM 4 cE s.mb]) (fun ⟨n, s⟩ => [(15, .int .i64 (n : Nat))]) (fun ⟨n, s⟩ => rounds - n) (0, (qp l fn)) ⟨⟨Nat.zero_le _, by rw [Nat.sub_zero]⟩, ⟨by simp [qp], by simp [qp], by simp [qp]⟩, fun v hv => by rw [(List.mem_replicate.1 hv).2]; omega⟩ (Front.c Front.nil) (by repeat' constructor) rfl (fun i hi m hm => ?_)
 obtain ⟨n, s⟩ := i
 replace hi : (n ≤ rounds ∧ iC l (eX l fn) (k9 l) (rounds - n) s = iC l (eX l fn) (k9 l) rounds (qp l fn)) ∧ (s.st.length = l.length ∧ s.vs.length = l.length ∧ s.mb.length = l.length) ∧ ∀ v ∈ s.vs, 0 ≤ v ∧ v ≤ (n : Int) := hi
 replace hm : m = rounds - n := hm
 change Tr _ _ [rowE Vb 37 cL s.st, rowE VV 3 bQ s.vs, rowE VM 4 cE s.mb] ([(15, .int .i64 (n : Nat))] ++ _) _
 obtain ⟨⟨hnr, han⟩, ⟨hst, hvt, hmt⟩, hvn⟩ := hi
 refine al (aG (ah (zz0 (aa rfl) (zz0 (bh rfl) ?_))))
 refine zz0 (zz1 (off := 6) (ft := 225) rfl bC rfl lB) ?_
 refine zz0 (eT rfl hcx5 mA (by rfl)) ?_
 refine zz0 (aC rfl Tryz.call163 (fun w hw => Bc s.mb VM true w (hw.row (by repeat constructor)))) ?_
 refine zz0 (ab rfl) (ad (al (ah (zz0 (aa rfl) (zz0 (bS rfl rfl) (ad ?_))))))
 refine ao rfl ?_ ?_ <;> intro h14 <;> try simp only [bs] at h14
 ·refine ah (zz0 (aa rfl) (zz0 (bh rfl) ?_))
  refine zz0 (zz1 (off := 4) (ft := 177) rfl bC rfl eM) ?_
  refine zz0 (eT rfl hcx5 gQ (by rfl)) ?_
  refine zz0 (ab rfl) (zz0 (ab rfl) (ad (aD (aB (bv (aB (aB (bv ?_))))))))
  refine dI kK rfl rfl (fun w' hw => ?_)
  have e : eK l entry rounds = (s.st, 0) := by
   unfold eK
   rw [if_neg (by omega), if_neg (by rw [← hfe]; exact ht0), ← hfe, Int.toNat_natCast, ← han]
   exact vU (by show dF _ _ _ < 0; assumption)
  refine ⟨Vb, by rw [e], hw.below0 hF05, by rw [e]; exact hw.ents0 hF05.lo (by repeat' constructor)⟩
 refine bB (al (ah (zz0 (aa rfl) (zz0 (aa rfl) (zz0 (d5 rfl rfl) (ad ?_))))))
 refine ao rfl ?_ ?_ <;> intro h15 <;> try simp only [bs] at h15
 ·refine al (cd 37 cL ?_)
  refine ar (zz0 (ab rfl) (zz0 (ab rfl) (ad (aD (aB (bv (aB (aB (bv ?_)))))))))
  refine dI kK rfl rfl (fun w' hw => ?_)
  have e : eK l entry rounds = ([], 15) := by
   unfold eK
   rw [if_neg (by omega), if_neg (by rw [← hfe]; exact ht0), ← hfe, Int.toNat_natCast, ← han, show rounds - n = 0 by omega]
   exact yt (by show ¬ dF _ _ _ < 0; omega)
  refine ⟨.slice none 0 0, by rw [e], hw.below0 hF05, by rw [e]; exact hw.ents0 hF05.lo (by repeat' constructor)⟩
 refine bB ?_
 obtain ⟨km, hkm⟩ : ∃ km : Nat, dF (fun x => decide (true = x)) 0 s.mb = (km : Int) := ⟨_, (Int.toNat_of_nonneg (by omega)).symm⟩
 rw [hkm]
 have hkl := jQ (fun x => decide (true = x)) s.mb 0
 refine ar (zz0 (aa rfl) (zz0 (aa rfl) ?_))
 refine iE (fun _ : Unit => .tuple #[]) [rowE Vb 37 cL s.st, rowE VV 3 bQ s.vs, rowE VM 4 cE s.mb] (fun _ => [rowE Vb 37 cL (jw l (eX l fn) (rs.getD km default).data km s).st, rowE VV 3 bQ (jw l (eX l fn) (rs.getD km default).data km s).vs, rowE VM 4 cE (jw l (eX l fn) (rs.getD km default).data km s).mb]) (ok := fun _ => True) (dd := fun _ => 0) rfl Tryz.call164 (by repeat' constructor) (fun w hw => Nat.le_of_eq hdr5) (fun w hw => CS l (eX l fn) rs s bq bm km (.slice pV l.length cV) VE VG Vb VV VM w (hw.own (by repeat' constructor)) (hcx5.mono (show Hp.le F5.blk (Bg.lessB w (cT [rowE Vb 37 cL s.st, rowE VV 3 bQ s.vs, rowE VM 4 cE s.mb]) 0).blk from hw.lessB (Lo := [rowE Vb 37 cL s.st, rowE VV 3 bQ s.vs, rowE VM 4 cE s.mb]) (by repeat' constructor))) (hI5.mono (show Hp.le F5.blk (Bg.lessB w (cT [rowE Vb 37 cL s.st, rowE VV 3 bQ s.vs, rowE VM 4 cE s.mb]) 0).blk from hw.lessB (Lo := [rowE Vb 37 cL s.st, rowE VV 3 bQ s.vs, rowE VM 4 cE s.mb]) (by repeat' constructor))) (hG5.mono (show Hp.le F5.blk (Bg.lessB w (cT [rowE Vb 37 cL s.st, rowE VV 3 bQ s.vs, rowE VM 4 cE s.mb]) 0).blk from hw.lessB (Lo := [rowE Vb 37 cL s.st, rowE VV 3 bQ s.vs, rowE VM 4 cE s.mb]) (by repeat' constructor))) (hE5.mono (show Hp.le F5.blk (Bg.lessB w (cT [rowE Vb 37 cL s.st, rowE VV 3 bQ s.vs, rowE VM 4 cE s.mb]) 0).blk from hw.lessB (Lo := [rowE Vb 37 cL s.st, rowE VV 3 bQ s.vs, rowE VM 4 cE s.mb]) (by repeat' constructor))) (hEI5.mono (show Hp.le F5.blk (Bg.lessB w (cT [rowE Vb 37 cL s.st, rowE VV 3 bQ s.vs, rowE VM 4 cE s.mb]) 0).blk from hw.lessB (Lo := [rowE Vb 37 cL s.st, rowE VV 3 bQ s.vs, rowE VM 4 cE s.mb]) (by repeat' constructor))) hIO (u4 _ _) hst hvt hmt (DJ hrs) (Dy _ _) (Hg hrs km) (fun v hv => by have := hvn v hv; omega) (by omega)) rfl (fun _ _ => ?_)
 refine az (aX (ac (ar (zz0 (aa rfl) (zz0 (cx rfl rfl) ?_)))))
 refine zz0 (ab rfl) (ad ?_)
 have hfm : mM s.mb = (km : Int) := hkm
 have hstep : iC l (eX l fn) (k9 l) (rounds - n) s = iC l (eX l fn) (k9 l) (rounds - (n + 1)) (jw l (eX l fn) (rs.getD km default).data km s) := by
  rw [show rounds - n = rounds - (n + 1) + 1 by omega, vT (by rw [hfm]; omega), hfm, Int.toNat_natCast, ml hrs km]
 have hvl := AM l (eX l fn) (rs.getD km default).data km s
 have hvv := Ed (l := l) (gd := (eX l fn)) (es := (rs.getD km default).data) (k := km) (by omega) hvn
 refine cC (n + 1, jw l (eX l fn) (rs.getD km default).data km s) (Front.c Front.nil) (bA 18 rfl) (o := ⟨⟨by omega, hstep.symm.trans han⟩, ⟨hvl.1.trans hst, hvl.2.1.trans hvt, hvl.2.2.trans hmt⟩, hvv⟩)
end Go.Proofs.YtiajjbhcpeadfaaGreat
namespace Go.HL
open Go
section
variable {P : Program} {N : Nat} {F : Bg} {L : List Ent} {M : Fr} {dst : Option Tmp} {ty : TypeId} {pos : String} {after : Array Edge} {g : Option (Nat × Bool)}
theorem D6 {fo : Operand} {f : FuncId} {us : List Value} {xs : List Operand} {vs : List Value} {ts : Array TypeId} {v : Value} (hf : opv M fo = some (.func (.func f) us.toArray #[])) (hx : k5 M xs = some vs)
  (he : ∀ (args : Array Value) (w : World), (callFunc f args).run P w = .ok (.enter f args) w)
  (hc : ∀ w, HpOK F L w → Calls P f (us ++ vs).toArray w fun e w' => e = .returned v ∧ Ext w w') :
  QS P N F L M ⟨dst, .call { callee := .value fo, args := xs.toArray, argTypes := ts }, ty, pos, after, g⟩ v := by
 intro a w ha hw
 unfold Oper.quietAt
 have h1 := ha.evals hx
 have h2 := ha.eval hf
 have hr : (execOp a.eval ⟨dst, .call { callee := .value fo, args := xs.toArray, argTypes := ts }, ty, pos, after, g⟩).run P w = .ok (.enter f (us ++ vs).toArray) w := by
  simp [execOp, resolve, Deferred.ofValue, invoke, he, h1, h2]
 rw [hr]
 exact ⟨rfl, (hc w hw).mono fun e w' ⟨h1, h2⟩ => ⟨h1, hw.grow h2⟩⟩
end
def qP (l : List SecV) (a : UInt32) : UInt32 × Bool :=
 if (kg l a 4).2 ≠ 0 ∨ (kg l a 4).1.length ≠ 4 then (0, false)
 else if dV l a < 0 ∨ (l.getD (dV l a).toNat default).wr = true then (0, false) else (leP (kg l a 4).1, true)
def Ej (l : List SecV) (a : UInt32) : Bool := decide (0 ≤ dV l a) && (l.getD (dV l a).toNat default).ex
def oP (i : Ins) : Bool := decide (ij i = 0) && rn i.op
def j9 (l : List SecV) (t j : UInt32) : UInt32 × Bool := ((qP l (t + 4 * j)).1, (qP l (t + 4 * j)).2 && Ej l (qP l (t + 4 * j)).1)
theorem Ij {l : List UInt8} (h : l.length = 4) :
  (((l.getD 0 default).toUInt32 ||| nj (l.getD 1 default).toUInt32 8) ||| nj (l.getD 2 default).toUInt32 16) ||| nj (l.getD 3 default).toUInt32 24 = leP l := by
 have h0 : leP (l.take 1) = (l.getD 0 default).toUInt32 := by
  rw [← tR (l := l) (k := 0) (by omega) (by omega) (c := 0) rfl]
  rw [← UInt32.toNat_inj, UInt32.toNat_or, mj]
  simp [leP]
 have h1 := tR (l := l) (k := 1) (by omega) (by omega) (c := 8) rfl
 have h2 := tR (l := l) (k := 2) (by omega) (by omega) (c := 16) rfl
 have h3 := tR (l := l) (k := 3) (by omega) (by omega) (c := 24) rfl
 rw [List.take_of_length_le (l := l) (i := 3 + 1) (by omega)] at h3
 rw [← h3, ← h2, ← h1, ← h0]; rfl
def xr (s : VSet) (j : UInt32) : UInt32 := if tG s j = true then j else s.lo
def oW (l : List SecV) (t : UInt32) (s : VSet) : Nat → Option (List UInt32)
 | 0 => some []
 | n + 1 => match oW l t s n with
  | none => none
  | some out => if (j9 l t (xr s (u32 (n : Int)))).2 = true then some (out ++ [(j9 l t (xr s (u32 (n : Int)))).1]) else none
theorem ui {l : List SecV} {t : UInt32} {s : VSet} : ∀ {n : Nat} {out : List UInt32}, oW l t s n = some out → out.length = n
 | 0, out, h => by simp only [oW, Option.some.injEq] at h; subst h; rfl
 | n + 1, out, h => by
  simp only [oW] at h
  cases hk : oW l t s n with
  | none => rw [hk] at h; cases h
  | some o =>
   rw [hk] at h
   simp only at h
   split at h
   ·cases h; rw [List.length_append, ui hk]; rfl
   ·cases h
theorem Ek {l : List SecV} {t : UInt32} {s : VSet} {n : Nat} {out : List UInt32} (h : oW l t s n = some out) (h2 : (j9 l t (xr s (u32 (n : Int)))).2 = true) : oW l t s (n + 1) = some (out ++ [(j9 l t (xr s (u32 (n : Int)))).1]) := by
 simp only [oW, h]; rw [if_pos h2]
theorem GB {l : List SecV} {t : UInt32} {s : VSet} {n : Nat} {out : List UInt32} (h : oW l t s n = some out) (h2 : (j9 l t (xr s (u32 (n : Int)))).2 = false) : oW l t s (n + 1) = none := by
 simp only [oW, h]; rw [if_neg (by rw [h2]; simp)]
theorem CV {l : List SecV} {t : UInt32} {s : VSet} {n : Nat} (h : oW l t s n = none) : ∀ m, n ≤ m → oW l t s m = none := by
  intro m hm
  induction m with
  | zero => obtain rfl : n = 0 := by omega
            exact h
  | succ m ih =>
    rcases Nat.lt_or_ge n (m + 1) with q | q
    · simp only [oW, ih (by omega)]
    · obtain rfl : n = m + 1 := by omega
      exact h
def cZ (l : List SecV) (i : Ins) (x : VSet) : List UInt32 × Int :=
 if oP i = false then ([], 2) else if gW l ≠ 0 then ([], gW l)
 else if (iS x = false ∨ x.em = true) ∨ x.top = true then ([], 19)
 else if i.op ≠ 22 then (if (ff x).2 ≠ 0 ∨ ((ff x).1.any fun a => !Ej l a) = true then ([], 19) else ((ff x).1, 0))
 else if 64 ≤ x.hi then ([], 19)
 else match oW l i.imm x (x.hi.toNat + 1) with
  | none => ([], 19)
  | some out => (out, 0)
def mK (l : List SecV) (a : UInt32) : Nat → Bool
 | 0 => true
 | n + 1 => mK l a n && (j9 l a (u32 (n : Int))).2
theorem zB {l : List SecV} {a : UInt32} {n : Nat} (h : mK l a n = false) : ∀ m, n ≤ m → mK l a m = false := by
  intro m hm
  induction m with
  | zero => obtain rfl : n = 0 := by omega
            exact h
  | succ m ih =>
    rcases Nat.lt_or_ge n (m + 1) with q | q
    · simp only [mK, ih (by omega), Bool.false_and]
    · obtain rfl : n = m + 1 := by omega
      exact h
def sk (l : List SecV) (a : UInt32) (n : Int) : Bool := if (n < 1 ∨ 64 < n) ∨ gW l ≠ 0 then false else mK l a n.toNat
theorem Ei {j : Nat} (h : j < 4294967295) : u32 (j : Int) + 1 = u32 ((j + 1 : Nat) : Int) := by
 have h1 := rS (j : Int)
 have h2 := rS ((j + 1 : Nat) : Int)
 rw [← UInt32.toNat_inj, UInt32.toNat_add]
 have e : (1 : UInt32).toNat = 1 := rfl
 rw [e]; omega
theorem Ci {x : UInt32} (h : x < 64) : (x + 1).toNat = x.toNat + 1 := by
 rw [UInt32.lt_iff_toNat_lt] at h
 have e : (64 : UInt32).toNat = 64 := rfl
 have e1 : (1 : UInt32).toNat = 1 := rfl
 rw [UInt32.toNat_add, e1]; omega
end Go.HL
namespace Go.Proofs.YtiajjbhcpeadfaaGreat
open Go Go.HL Go.RowKit
theorem Gw (l : List SecV) (pV : Option Addr) (cV : Nat) (a : UInt32) (w : World) (hV : Sl (hp w) dK l (.slice pV l.length cV)) (hB : SecB l) (hD : DataIn (hp w) l) :
  Cr Tryz.prog 104 #[.agg #[(.slice pV l.length cV)], .int .u32 a.toNat] w (.tuple #[.int .u32 (qP l a).1.toNat, .bool (qP l a).2]) := by
 have hV' : Sl (Bg.of w).blk dK l (.slice pV l.length cV) := hV
 have hff := nr (l := l) (a := a)
 have hD' : DataIn (Bg.of w).blk l := hD
 refine enter Tryz.func104 rfl Tryz.ntmps104 rfl ?_
 refine ah ?_
 refine dE rfl rfl (fun b1 => ?_)
 refine zz0 (ab rfl) (zz0 (ab rfl) (aL (zz0 (zz1 (off := 0) (ft := 22) rfl iD rfl kS) ?_)))
 refine zz0 (aH rfl l7) ?_
 refine zz0 (aa rfl) ?_
 refine im (fun V => .tuple #[V, .int .i64 (kg l a 4).2]) rfl Tryz.call157 (fun w hw => EG l (.slice pV l.length cV) a 4 w (hw.slF hV') hB (hD'.mono hw.bg) (by omega)) rfl (fun V2 => ?_)
 refine zz0 (aa rfl) (zz0 (aR rfl rfl) (zz0 (aR rfl rfl) (zz0 (ab rfl) (zz0 (ab rfl) (ad (al (ah (zz0 (aa rfl) (zz0 (fa rfl rfl) (zz0 (aa rfl) ?_))))))))))
 apply cF
 ·exact (rfl : _ = (4, 18, 22))
 ·exact rfl
 ·intro hF3; have hF3' := hF3
  try simp only [bs] at hF3'
  refine zz5 hF3 (aa rfl) (zz5 hF3 (mg rfl bJ) ?_)
  refine zz5 hF3 (fa rfl rfl) (zz0 (aK rfl hF3 rfl) ?_)
  refine az (ac ?_)
  exact aA (Sub.cons rfl (zz7 4 rfl))
 ·intro hT3
  refine zz6 hT3 (zz6 hT3 (zz6 hT3 (zz0 (aN rfl hT3 rfl) ?_)))
  refine az (ac ?_)
  exact aA (Sub.cons rfl (zz7 4 rfl))
 refine ad ?_
 refine ao rfl ?_ ?_ <;> intro h4 <;> try simp only [bs] at h4
 ·have hq1 := h4
  refine ah (zz0 (ab rfl) (zz0 (ab rfl) (ad (aD (aB ?_)))))
  refine dI m6 rfl rfl (fun w' hw => ?_)
  exact ⟨by unfold qP; rw [if_pos (by omega)]; rfl, hw.b0⟩
 have hq1 := h4
 refine df (zz0 (zz1 (off := 0) (ft := 22) rfl iD rfl kS) ?_)
 refine zz0 (aH rfl l7) ?_
 refine zz0 (aa rfl) (zz0 (aC rfl oy (fun w hw => rA l (.slice pV l.length cV) a w (hw.slF hV') hB)) ?_)
 refine zz0 (ab rfl) (ad (al (ah (zz0 (aa rfl) (zz0 (bS rfl rfl) (zz0 (aa rfl) ?_))))))
 apply cF
 ·exact (rfl : _ = (7, 29, 36))
 ·exact rfl
 ·intro hF5; have hF5' := hF5
  try simp only [bs] at hF5'
  refine zz5 hF5 (zz1 (off := 0) (ft := 22) rfl iD rfl kS) ?_
  refine zz5 hF5 (aH rfl l7) ?_
  refine zz5 hF5 (aa rfl) (zz5 hF5 (m9 rfl rfl cO di) ?_)
  refine zz5 hF5 (zz1 (off := 3) (ft := 4) rfl dw rfl bX) ?_
  refine zz5 hF5 (me rfl (by assumption) cK (by omega) (by rfl)) ?_
  refine zz0 (aK rfl hF5 rfl) ?_
  refine az (ac ?_)
  exact aA (Sub.cons rfl (zz7 7 rfl))
 ·intro hT5
  refine zz6 hT5 (zz6 hT5 (zz6 hT5 (zz6 hT5 (zz6 hT5 (zz6 hT5 (zz0 (aN rfl hT5 rfl) ?_))))))
  refine az (ac ?_)
  exact aA (Sub.cons rfl (zz7 7 rfl))
 refine ad ?_
 refine ao rfl ?_ ?_ <;> intro h6 <;> try simp only [bs] at h6
 ·have hq2 := h6
  refine ah (zz0 (ab rfl) (zz0 (ab rfl) (ad (aD (aB ?_)))))
  refine dI m6 rfl rfl (fun w' hw => ?_)
  exact ⟨by unfold qP; rw [if_neg (by omega), if_pos hq2]; rfl, hw.b0⟩
 have hq2 := h6
 refine bB (al (gZ aT ?_))
 refine ax (aa rfl) (ax (dm (E := eJ) (l := (kg l a 4).1) (i := 0) rfl rfl bJ dX) ?_)
 refine ax (er rfl gG) ?_
 refine ax (jf rfl cg aV) (ax (aa rfl) (ax (dm (E := eJ) (l := (kg l a 4).1) (i := 1) rfl rfl bJ dX) ?_))
 refine ax (er rfl gG) ?_
 refine ax (jf rfl cg aV) (ax (nB rfl rfl (by omega)) ?_)
 refine ax (rK rfl rfl) ?_
 refine ax (aa rfl) (ax (dm (E := eJ) (l := (kg l a 4).1) (i := 2) rfl rfl bJ dX) ?_)
 refine ax (er rfl gG) ?_
 refine ax (jf rfl cg aV) (ax (nB rfl rfl (by omega)) ?_)
 refine ax (rK rfl rfl) ?_
 refine ax (aa rfl) (ax (dm (E := eJ) (l := (kg l a 4).1) (i := 3) rfl rfl bJ dX) ?_)
 refine ax (er rfl gG) ?_
 refine ax (jf rfl cg aV) (ax (nB rfl rfl (by omega)) ?_)
 refine ax (rK rfl rfl) ?_
 refine ax (ab rfl) (ax (ab rfl) (bK ?_))
 refine ac (aD ?_)
 refine dI m6 rfl rfl (fun w' hw => ?_)
 refine ⟨?_, hw.b0⟩
 unfold qP
 rw [if_neg (by omega), if_neg (fun q => q.elim (fun q => hq2.1 q) (fun q => by rw [hq2.2] at q; cases q))]
 exact congrArg (fun x : UInt32 => Ending.returned (.tuple #[.int .u32 x.toNat, .bool true])) (Ij (by omega))
theorem wc (l : List SecV) (pV : Option Addr) (cV : Nat) (a : UInt32) (w : World) (hV : Sl (hp w) dK l (.slice pV l.length cV)) (hB : SecB l) :
  Cr Tryz.prog 44 #[.agg #[(.slice pV l.length cV)], .int .u32 a.toNat] w (.bool (Ej l a)) := by
 have hV' : Sl (Bg.of w).blk dK l (.slice pV l.length cV) := hV
 have hff := nr (l := l) (a := a)
 refine enter Tryz.func44 rfl Tryz.ntmps44 rfl ?_
 refine ah ?_
 refine dE rfl rfl (fun b1 => ?_)
 refine zz0 (ab rfl) (aL (zz0 (zz1 (off := 0) (ft := 22) rfl iD rfl kS) ?_))
 refine zz0 (aH rfl l7) ?_
 refine zz0 (aa rfl) (zz0 (aC rfl oy (fun w hw => rA l (.slice pV l.length cV) a w (hw.slF hV') hB)) ?_)
 refine zz0 (ab rfl) (aL (zz0 (aa rfl) (zz0 (d5 rfl rfl) (zz0 (aa rfl) ?_))))
 apply bV
 ·exact (rfl : _ = (7, 12, 19))
 ·exact rfl
 ·intro hT2; have hT2' := hT2
  try simp only [bs] at hT2'
  refine zz5 hT2 (zz1 (off := 0) (ft := 22) rfl iD rfl kS) ?_
  refine zz5 hT2 (aH rfl l7) ?_
  refine zz5 hT2 (aa rfl) (zz5 hT2 (m9 rfl rfl cO di) ?_)
  refine zz5 hT2 (zz1 (off := 4) (ft := 4) rfl dw rfl bX) ?_
  refine zz5 hT2 (me rfl (by assumption) cK (by omega) (by rfl)) ?_
  refine zz0 (aN rfl hT2 rfl) ?_
  refine az (ac ?_)
  exact aA (Sub.cons rfl (zz7 7 rfl))
 ·intro hF2
  refine zz6 hF2 (zz6 hF2 (zz6 hF2 (zz6 hF2 (zz6 hF2 (zz6 hF2 (zz0 (aK rfl hF2 rfl) ?_))))))
  refine az (ac ?_)
  exact aA (Sub.cons rfl (zz7 7 rfl))
 refine zz0 (ab rfl) (ad (aD ?_))
 refine aS Tryz.results44 rfl (fun w' hw => ?_)
 exact ⟨rfl, hw.b0⟩
theorem zY (l : List SecV) (pV : Option Addr) (cV : Nat) (t j : UInt32) (w : World) (hV : Sl (hp w) dK l (.slice pV l.length cV)) (hB : SecB l) (hD : DataIn (hp w) l) :
  Cr Tryz.prog 45 #[.agg #[(.slice pV l.length cV)], .int .u32 t.toNat, .int .u32 j.toNat] w (.tuple #[.int .u32 (j9 l t j).1.toNat, .bool (j9 l t j).2]) := by
 have hV' : Sl (Bg.of w).blk dK l (.slice pV l.length cV) := hV
 have hD' : DataIn (Bg.of w).blk l := hD
 refine enter Tryz.func45 rfl Tryz.ntmps45 rfl ?_
 refine ah ?_
 refine dE rfl rfl (fun b1 => ?_)
 refine zz0 (ab rfl) (zz0 (ab rfl) (aL (zz0 (bE rfl l6 iY) ?_)))
 refine zz0 (aa rfl) (zz0 (aa rfl) (zz0 (nD (m := 4) rfl rfl) ?_))
 refine zz0 (ii rfl rfl) ?_
 refine zz0 (aC rfl Tryz.call104 (fun w hw => Gw l pV cV (t + 4 * j) w (hw.slF hV') hB (hD'.mono hw.bg))) ?_
 refine zz0 (aa rfl) (zz0 (aR rfl rfl) (zz0 (aR rfl rfl) (zz0 (ab rfl) (zz0 (ab rfl) (aL (zz0 (aa rfl) (zz0 (aa rfl) (zz0 (aa rfl) ?_))))))))
 apply bV
 ·exact (rfl : _ = (4, 21, 25))
 ·exact rfl
 ·intro hT2; have hT2' := hT2
  try simp only [bs] at hT2'
  refine zz5 hT2 (bE rfl l6 iY) ?_
  refine zz5 hT2 (aa rfl) (zz5 hT2 (aC rfl Tryz.call44 (fun w hw => wc l pV cV (qP l (t + 4 * j)).1 w (hw.slF hV') hB)) ?_)
  refine zz0 (aN rfl hT2 rfl) ?_
  refine az (ac ?_)
  exact aA (Sub.cons rfl (zz7 4 rfl))
 ·intro hF2
  refine zz6 hF2 (zz6 hF2 (zz6 hF2 (zz0 (aK rfl hF2 rfl) ?_)))
  refine az (ac ?_)
  exact aA (Sub.cons rfl (zz7 4 rfl))
 refine zz0 (ab rfl) (zz0 (ab rfl) (ad (aD ?_)))
 refine dI Tryz.results45 rfl rfl (fun w' hw => ?_)
 exact ⟨rfl, hw.b0⟩
theorem s5 (i : Ins) (w : World) (hI : InsOK i) :
  Cr Tryz.prog 38 #[.agg (aP.enc i).toArray] w (.bool (oP i)) := by
 refine enter Tryz.func38 rfl Tryz.ntmps38 rfl ?_
 refine ah ?_
 refine dE rfl rfl (fun b1 => ?_)
 refine zz0 (ab rfl) (aL (zz0 (bE rfl aQ au) ?_))
 refine zz0 (aC rfl kt (fun w hw => kl i w hI)) ?_
 refine zz0 (aa rfl) ?_
 apply bV
 ·exact (rfl : _ = (14, 5, 19))
 ·exact rfl
 ·intro hT2; have hT2' := hT2
  try simp only [bs] at hT2'
  refine zz5 hT2 (zz1 (off := 2) (ft := 3) rfl af rfl ay) ?_
  refine zz5 hT2 (aH rfl aI) ?_
  refine zz5 hT2 (aY rfl rfl) (zz5 hT2 (aa rfl) ?_)
  apply cF
  ·exact (rfl : _ = (4, 9, 13))
  ·exact rfl
  ·intro hF3; have hF3' := hF3
   try simp only [bs] at hF3'
   refine zz5 hF3 (zz1 (off := 2) (ft := 3) rfl af rfl ay) ?_
   refine zz5 hF3 (aH rfl aI) ?_
   refine zz5 hF3 (aY rfl rfl) (zz5 hT2 (aK rfl hF3 rfl) ?_)
   refine az (ac ?_)
   exact aA (Sub.cons rfl (zz7 4 rfl))
  ·intro hT3
   refine zz6 hT3 (zz6 hT3 (zz6 hT3 (zz5 hT2 (aN rfl hT3 rfl) ?_)))
   refine az (ac ?_)
   exact aA (Sub.cons rfl (zz7 4 rfl))
  refine zz5 hT2 (aa rfl) ?_
  apply cF
  ·exact (rfl : _ = (4, 14, 18))
  ·exact rfl
  ·intro hF4; have hF4' := hF4
   try simp only [bs] at hF4'
   refine zz5 hF4 (zz1 (off := 2) (ft := 3) rfl af rfl ay) ?_
   refine zz5 hF4 (aH rfl aI) ?_
   refine zz5 hF4 (aY rfl rfl) (zz5 hT2 (aK rfl hF4 rfl) ?_)
   refine az (ac ?_)
   exact aA (Sub.cons rfl (zz7 4 rfl))
  ·intro hT4
   refine zz6 hT4 (zz6 hT4 (zz6 hT4 (zz5 hT2 (aN rfl hT4 rfl) ?_)))
   refine az (ac ?_)
   exact aA (Sub.cons rfl (zz7 4 rfl))
  refine zz0 (aN rfl hT2 rfl) ?_
  refine az (ac ?_)
  exact aA (Sub.cons rfl (zz7 8 rfl))
 ·intro hF2
  refine zz6 hF2 (zz6 hF2 (zz6 hF2 (zz6 hF2 (fw ?_))))
  refine fw ?_
  refine fw ?_
  refine zz6 hF2 (zz6 hF2 (fw ?_))
  refine fw ?_
  refine fw ?_
  refine zz6 hF2 (zz0 (aK rfl hF2 rfl) ?_)
  refine az (ac ?_)
  exact aA (Sub.cons rfl (zz7 14 rfl))
 refine zz0 (ab rfl) (ad (aD ?_))
 refine aS Tryz.results38 rfl (fun w' hw => ?_)
 exact ⟨by unfold oP rn; congr 2; rw [Bool.eq_iff_iff]; simp only [Bool.and_eq_true, Bool.or_eq_true, decide_eq_true_eq]; omega, hw.b0⟩
theorem vJ (l : List UInt32) (V : Value) (g : FuncId) (cb : List Value) (w : World) (hV : Sl (hp w) an l V) (eg : ∀ (args : Array Value) (w : World), (callFunc g args).run Tryz.prog w = .ok (.enter g args) w) (p : UInt32 → Bool) (hp : ∀ x ∈ l, ∀ w', Ext w w' → Calls Tryz.prog g ([Value.int .u32 x.toNat] ++ cb).toArray w' fun e w'' => e = .returned (.bool (p x)) ∧ Ext w' w'') :
  Cr Tryz.prog 101 #[V, .func (.func g) #[] cb.toArray] w (.int .i64 (dF p 0 l)) := by
 have hV' : Sl (Bg.of w).blk an l V := hV
 have hlen := hV.len_le
 refine enter Tryz.func101 rfl Tryz.ntmps101 rfl ?_
 refine ah (zz0 (ab rfl) (ad (al (ah (zz0 (aa rfl) (zz0 (fJ rfl aj) ?_))))))
 refine zz0 (aa rfl) (ad (aG ?_))
 refine bN (ι := Nat) (fun k => k ≤ l.length ∧ dF p k (l.drop k) = dF p 0 l) (fun _ => _) (fun k => []) (fun k => [(8, .int .i64 (k : Nat))]) (fun k => l.length - k) 0 ⟨Nat.zero_le _, rfl⟩ (Front.c Front.nil) (by repeat' constructor) rfl (fun k hi m hm => ?_)
 replace hi : k ≤ l.length ∧ dF p k (l.drop k) = dF p 0 l := hi
 replace hm : m = l.length - k := hm
 change Tr _ _ [] ([(8, .int .i64 (k : Nat))] ++ _) _
 obtain ⟨hk1, hk2⟩ := hi
 refine ah (zz0 (bS rfl rfl) (ad (al ?_)))
 refine ao rfl ?_ ?_ <;> intro h1 <;> try simp only [bs] at h1
 ·refine bB (al (aG (ah (zz0 (aa rfl) (zz0 (ab rfl) (aL (zz0 (aa rfl) (zz0 (aa rfl) ?_))))))))
  refine zz0 (aa rfl) (zz0 (gB rfl rfl aj ae) ?_)
  refine zz0 (iM rfl am) ?_
  refine zz0 (ig rfl rfl eg (fun w hw => hp _ (cS (by omega)) w (hw.b0))) ?_
  refine ad ?_
  refine ao rfl ?_ ?_ <;> intro h2 <;> try simp only [bs] at h2
  ·refine ah (zz0 (aa rfl) (zz0 (ab rfl) (ad (aD (bv (aB (aB (bv (aB ?_)))))))))
   refine aS Tryz.results101 rfl (fun w' hw => ?_)
   exact ⟨by rw [← hk2, drop_cons (k := k) (by omega), dF, if_pos (by assumption)], hw.b0⟩
  refine bW (aX (ac (ar (zz0 (cx rfl rfl) ?_))))
  refine zz0 (aa rfl) (ad ?_)
  refine cC (k + 1) (Front.c Front.nil) (bA 12 rfl) (o := ⟨by omega, by rw [← hk2, drop_cons (k := k) (by omega), dF, if_neg (by simp_all)]⟩)
 refine bG (aJ (aJ (bj (ac (ah (zz0 (ab rfl) (ad (aD ?_))))))))
 refine aS Tryz.results101 rfl (fun w' hw => ?_)
 exact ⟨by rw [← hk2, List.drop_of_length_le (by omega)]; rfl, hw.b0⟩
theorem sD (l : List UInt32) (V : Value) (g : FuncId) (cb : List Value) (w : World) (hV : Sl (hp w) an l V) (eg : ∀ (args : Array Value) (w : World), (callFunc g args).run Tryz.prog w = .ok (.enter g args) w) (p : UInt32 → Bool) (hp : ∀ x ∈ l, ∀ w', Ext w w' → Calls Tryz.prog g ([Value.int .u32 x.toNat] ++ cb).toArray w' fun e w'' => e = .returned (.bool (p x)) ∧ Ext w' w'') :
  Cr Tryz.prog 42 #[V, .func (.func g) #[] cb.toArray] w (.bool (l.any p)) := by
 have hV' : Sl (Bg.of w).blk an l V := hV
 refine enter Tryz.func42 rfl Tryz.ntmps42 rfl ?_
 refine ah (zz0 (ab rfl) (aL (zz0 (aa rfl) (zz0 (aa rfl) (zz0 (aC rfl Tryz.call101 (fun w hw => vJ l V g cb w (hw.slF hV') eg p (fun x hx w'' h => hp x hx w'' ((hw.b0).trans h)))) ?_)))))
 refine zz0 (d5 rfl rfl) (zz0 (ab rfl) (ad (aD ?_)))
 refine aS Tryz.results42 rfl (fun w' hw => ?_)
 exact ⟨by rw [rq], hw.b0⟩
theorem Ie (l : List SecV) (pV : Option Addr) (cV : Nat) (w : World) :
  Calls Tryz.prog 43 #[.func (.func 44) #[.agg #[(.slice pV l.length cV)]] #[]] w (fun e w' => ∃ b : Nat, e = .returned (.func (.func 102) #[] #[.pointer (some ⟨b, 0, none⟩)]) ∧ Ext w w' ∧ NewEnts w w' [cellE b [.func (.func 44) #[.agg #[(.slice pV l.length cV)]] #[]] 95] ∧ True) := by
 refine enter Tryz.func43 rfl Tryz.ntmps43 rfl ?_
 refine ah ?_
 refine dE rfl rfl (fun b1 => ?_)
 refine zz0 (ab rfl) (aL (zz0 (fu rfl rfl) ?_))
 refine zz0 (ab rfl) (ad (aD ?_))
 refine aS Tryz.results43 rfl (fun w' hw => ?_)
 exact ⟨_, rfl, hw.b0, hw.ents (Bg.le.refl _) (Pick.refl _), trivial⟩
theorem GR (l : List SecV) (pV : Option Addr) (cV : Nat) (a : UInt32) (b : Nat) (w : World) (hV : Sl (hp w) dK l (.slice pV l.length cV)) (hB : SecB l) (hc : Cell (hp w) b 0 (.func (.func 44) #[.agg #[(.slice pV l.length cV)]] #[])) :
  Cr Tryz.prog 102 #[.int .u32 a.toNat, .pointer (some ⟨b, 0, none⟩)] w (.bool (!Ej l a)) := by
 have hV' : Sl (Bg.of w).blk dK l (.slice pV l.length cV) := hV
 have hc' : Cell (Bg.of w).blk b 0 (.func (.func 44) #[.agg #[(.slice pV l.length cV)]] #[]) := hc
 refine enter Tryz.func102 rfl Tryz.ntmps102 rfl ?_
 refine ah (zz0 (ab rfl) (aL (zz0 (nE rfl (by assumption) Tryz.isAgg95) ?_)))
 refine zz0 (aa rfl) (zz0 (D6 (us := [.agg #[(.slice pV l.length cV)]]) rfl rfl Tryz.call44 (fun w hw => wc l pV cV a w (hw.slF hV') hB)) ?_)
 refine zz0 (cj rfl) (zz0 (ab rfl) (ad (aD ?_)))
 refine aS Tryz.results102 rfl (fun w' hw => ?_)
 exact ⟨rfl, hw.b0⟩
end Go.Proofs.YtiajjbhcpeadfaaGreat
namespace Go.Proofs.YtiajjbhcpeadfaaGreat
open Go Go.HL Go.RowKit
theorem lN (l : List SecV) (pV : Option Addr) (cV : Nat) (i : Ins) (s : StV) (w : World) (hV : Sl (hp w) dK l (.slice pV l.length cV)) (hB : SecB l) (hD : DataIn (hp w) l) (hN : ∀ s ∈ l, s.name.size ≤ 140737488351232) (hI : InsOK i) :
  Calls Tryz.prog 12 #[(.slice pV l.length cV), .agg (aP.enc i).toArray, .agg (cL.enc s).toArray] w (fun e w' => ∃ V' : Value, e = .returned (.tuple #[V', .int .i64 (cZ l i (s.get i.a)).2]) ∧ Ext w w' ∧ jA w w' 23 an (cZ l i (s.get i.a)).1 V') := by
 have hV' : Sl (Bg.of w).blk dK l (.slice pV l.length cV) := hV
 have hD' : DataIn (Bg.of w).blk l := hD
 refine enter Tryz.func12 rfl Tryz.ntmps12 rfl ?_
 refine ah ?_
 refine dE rfl rfl (fun b1 => ?_)
 refine dE rfl rfl (fun b2 => ?_)
 refine zz0 (ab rfl) (zz0 (ab rfl) (ad (al (ah (zz0 (bE rfl aQ au) ?_)))))
 refine zz0 (aC rfl Tryz.call38 (fun w hw => s5 i w hI)) ?_
 refine zz0 (cj rfl) (ad ?_)
 refine ao rfl ?_ ?_ <;> intro h3 <;> try simp only [bs] at h3
 ·have hq1 : oP i = false := h3
  refine ah (zz0 (ab rfl) (zz0 (ab rfl) (ad (aD (aB ?_)))))
  refine dI gP rfl rfl (fun w' hw => ?_)
  have e : cZ l i (s.get i.a) = ([], 2) := by
   unfold cZ
   rw [if_pos hq1]
  exact ⟨.slice none 0 0, by rw [e], hw.b0, by rw [e]; exact fN rfl⟩
 have hq1 : oP i = true := by simpa using h3
 refine bB (al (ah (zz0 (aa rfl) (zz0 (aC rfl Tryz.call39 (fun w hw => sH l (.slice pV l.length cV) w (hw.slF hV') hB (fun s hs => by have := hN s hs; omega))) ?_))))
 refine zz0 (ab rfl) (aL (zz0 (aa rfl) (zz0 (fa rfl rfl) (ad ?_))))
 refine ao rfl ?_ ?_ <;> intro h4 <;> try simp only [bs] at h4
 ·have hq2 : gW l ≠ 0 := h4
  refine ah (zz0 (aa rfl) (zz0 (ab rfl) (zz0 (ab rfl) (ad (aD (aB ?_))))))
  refine dI gP rfl rfl (fun w' hw => ?_)
  have e : cZ l i (s.get i.a) = ([], gW l) := by
   unfold cZ
   rw [if_neg (by rw [hq1]; simp)]
   rw [if_pos hq2]
  exact ⟨.slice none 0 0, by rw [e], hw.b0, by rw [e]; exact fN rfl⟩
 have hq2 : gW l = 0 := by simpa using h4
 refine bB (al ?_)
 have hA := pZ (show ij i = 0 by unfold oP at hq1; simp at hq1; exact hq1.1)
 refine ar (zz0 (zz1 (off := 6) (ft := 3) rfl af rfl ay) ?_)
 refine zz0 (aH rfl aI) ?_
 refine zz0 (zz1 (off := 0) (ft := 26) rfl co rfl dj) ?_
 refine zz0 (dL rfl rfl cp ak (by omega)) ?_
 refine zz0 (gr (vs := bR.enc (s.get i.a)) rfl (by repeat constructor) aO ak (kY ⟨by omega, by omega⟩ (by simp)) rfl) ?_
 obtain ⟨x, hx⟩ : ∃ x, x = s.get i.a := ⟨_, rfl⟩
 rw [← hx]
 refine dA cM rfl (fun b5 => ?_)
 refine aF bR rfl rfl ak ?_
 refine ad (al (ah (zz0 (bE rfl aO ak) ?_)))
 refine zz0 (aC rfl Tryz.call40 (fun w hw => uh _ w)) ?_
 refine zz0 (cj rfl) (zz0 (aa rfl) ?_)
 apply cF
 ·exact (rfl : _ = (3, 34, 37))
 ·exact rfl
 ·intro hF6; have hF6' := hF6
  try simp only [bs] at hF6'
  refine zz5 hF6 (zz1 (off := 0) (ft := 4) rfl aw rfl bX) ?_
  refine zz5 hF6 (aH rfl cK) ?_
  refine zz0 (aK rfl hF6 rfl) ?_
  refine az (ac ?_)
  exact aA (Sub.cons rfl (zz7 3 rfl))
 ·intro hT6
  refine zz6 hT6 (zz6 hT6 (zz0 (aN rfl hT6 rfl) ?_))
  refine az (ac ?_)
  exact aA (Sub.cons rfl (zz7 3 rfl))
 refine zz0 (aa rfl) ?_
 apply cF
 ·exact (rfl : _ = (3, 38, 41))
 ·exact rfl
 ·intro hF7; have hF7' := hF7
  try simp only [bs] at hF7'
  refine zz5 hF7 (zz1 (off := 1) (ft := 4) rfl aw rfl bX) ?_
  refine zz5 hF7 (aH rfl cK) ?_
  refine zz0 (aK rfl hF7 rfl) ?_
  refine az (ac ?_)
  exact aA (Sub.cons rfl (zz7 3 rfl))
 ·intro hT7
  refine zz6 hT7 (zz6 hT7 (zz0 (aN rfl hT7 rfl) ?_))
  refine az (ac ?_)
  exact aA (Sub.cons rfl (zz7 3 rfl))
 refine ad ?_
 refine ao rfl ?_ ?_ <;> intro h8 <;> try simp only [bs] at h8
 ·have hq3 := h8
  refine ah (zz0 (ab rfl) (zz0 (ab rfl) (ad (aD (aB ?_)))))
  refine dI gP rfl rfl (fun w' hw => ?_)
  have e : cZ l i x = ([], 19) := by
   unfold cZ
   rw [if_neg (by rw [hq1]; simp)]
   rw [if_neg (fun q => q hq2)]
   rw [if_pos (by rcases hq3 with (q | q) | q <;> simp_all)]
  exact ⟨.slice none 0 0, by rw [e], hw.b0, by rw [e]; exact fN rfl⟩
 have hq3 := h8
 refine df (zz0 (aa rfl) (zz0 (bL (vs := [(0, _)]) rfl rfl rfl) ?_))
 refine dA Tryz.zeroValue92 rfl (fun b9 => ?_)
 refine zz8 rfl rfl iY ?_
 refine ad (al (ah (zz0 (zz1 (off := 2) (ft := 3) rfl af rfl ay) ?_)))
 refine zz0 (aH rfl aI) ?_
 refine zz0 (fa rfl rfl) (ad ?_)
 refine ao rfl ?_ ?_ <;> intro h10 <;> try simp only [bs] at h10
 ·have hqo : i.op ≠ 22 := h10
  refine ah (zz0 (bE rfl aO ak) ?_)
  refine im (fun V => .tuple #[V, .int .i64 (ff x).2]) rfl Tryz.call41 (fun w hw => s8 x w) rfl (fun VE => ?_)
  refine zz0 (aa rfl) (zz0 (aR rfl rfl) (zz0 (aR rfl rfl) (zz0 (ab rfl) (zz0 (ab rfl) (ad (al (ah (zz0 (aa rfl) (zz0 (fa rfl rfl) (zz0 (aa rfl) ?_))))))))))
  apply cF
  ·exact (rfl : _ = (6, 54, 60))
  ·exact rfl
  ·intro hF11; have hF11' := hF11
   try simp only [bs] at hF11'
   refine zz5 hF11 (aa rfl) (zz5 hF11 (bE rfl l6 iY) ?_)
   refine zz5 hF11 (fu rfl rfl) ?_
   refine vj rfl rfl hF11 ?_
   refine jb (fun b : Nat => .func (.func 102) #[] #[.pointer (some ⟨b, 0, none⟩)]) (fun b => [cellE b [.func (.func 44) #[.agg #[(.slice pV l.length cV)]] #[]] 95]) (ok := fun _ => True) rfl Tryz.call43 (fun w hw => Ie l pV cV w) rfl (fun bf _ => ?_)
   refine zz5 hF11 (aC rfl Tryz.call42 (fun w hw => sD (ff x).1 VE _ [.pointer (some ⟨bf, 0, none⟩)] w (hw.row (by repeat constructor)) Tryz.call102 (fun a => !Ej l a) (fun y hy w'' h => GR l pV cV y bf w'' ((hw.slF hV').mono h.hp) hB (cellE.cell (hw.ent _ (by repeat constructor)) h rfl)))) ?_
   refine zz0 (aK rfl hF11 rfl) ?_
   refine az (ac ?_)
   exact aA (Sub.cons rfl (zz7 6 rfl))
  ·intro hT11
   refine zz6 hT11 (zz6 hT11 (zz6 hT11 (zz6 hT11 (zz6 hT11 (zz0 (aN rfl hT11 rfl) ?_)))))
   refine az (ac ?_)
   exact aA (Sub.cons rfl (zz7 6 rfl))
  refine ad ?_
  refine ao rfl ?_ ?_ <;> intro h12 <;> try simp only [bs] at h12
  ·have hq6 := h12
   refine ah (zz0 (ab rfl) (zz0 (ab rfl) (ad (aD (aB (aB ?_))))))
   refine dI gP rfl rfl (fun w' hw => ?_)
   have e : cZ l i x = ([], 19) := by
    unfold cZ
    rw [if_neg (by rw [hq1]; simp)]
    rw [if_neg (fun q => q hq2)]
    rw [if_neg (show ¬((iS x = false ∨ x.em = true) ∨ x.top = true) from fun q => by rcases q with (q | q) | q <;> simp_all)]
    rw [if_pos hqo, if_pos (by rcases hq6 with q | q <;> simp_all)]
   exact ⟨.slice none 0 0, by rw [e], hw.b0, by rw [e]; exact fN rfl⟩
  have hq6 := h12
  refine df (zz0 (aa rfl) (zz0 (ab rfl) (zz0 (ab rfl) (ad (aD (aB ?_))))))
  refine dI gP rfl rfl (fun w' hw => ?_)
  have e : cZ l i x = ((ff x).1, 0) := by
   unfold cZ
   rw [if_neg (by rw [hq1]; simp)]
   rw [if_neg (fun q => q hq2)]
   rw [if_neg (show ¬((iS x = false ∨ x.em = true) ∨ x.top = true) from fun q => by rcases q with (q | q) | q <;> simp_all)]
   rw [if_pos hqo, if_neg (by simp_all)]
  exact ⟨VE, by rw [e]; rfl, hw.b0, by rw [e]; exact hw.new (by repeat constructor)⟩
 have hqo : i.op = 22 := by simpa using h10
 refine bB (al (ah (zz0 (zz1 (off := 3) (ft := 23) rfl aw rfl ae) ?_)))
 refine zz0 (aH rfl am) ?_
 refine zz0 (mc (n := 64) rfl rfl) ?_
 refine ad ?_
 refine ao rfl ?_ ?_ <;> intro h13 <;> try simp only [bs] at h13
 ·have hq4 : 64 ≤ x.hi := h13
  refine ah (zz0 (ab rfl) (zz0 (ab rfl) (ad (aD (aB ?_)))))
  refine dI gP rfl rfl (fun w' hw => ?_)
  have e : cZ l i x = ([], 19) := by
   unfold cZ
   rw [if_neg (by rw [hq1]; simp)]
   rw [if_neg (fun q => q hq2)]
   rw [if_neg (show ¬((iS x = false ∨ x.em = true) ∨ x.top = true) from fun q => by rcases q with (q | q) | q <;> simp_all)]
   rw [if_neg (fun q => q hqo), if_pos hq4]
  exact ⟨.slice none 0 0, by rw [e], hw.b0, by rw [e]; exact fN rfl⟩
 have hq4 : x.hi < 64 := by have := h13; rw [UInt32.not_le] at this; exact this
 refine df (zz0 (ab rfl) (ad (al (ah (zz0 (zz1 (off := 3) (ft := 23) rfl aw rfl ae) ?_)))))
 refine zz0 (aH rfl am) ?_
 refine zz0 (ii (n := 1) rfl rfl) ?_
 refine zz0 (aa rfl) (ad (aG (cd 23 an ?_)))
 refine bN (ι := Nat × List UInt32 × Value) (fun ⟨j, out, Vo⟩ => j ≤ x.hi.toNat + 1 ∧ oW l i.imm x j = some out) (fun _ => _) (fun ⟨j, out, Vo⟩ => [rowE Vo 23 an out, cellE b9 [(.slice pV l.length cV)] 92, cellE b5 (bR.enc x) 25, cellE b2 (cL.enc s) 37, cellE b1 (aP.enc i) 36]) (fun ⟨j, out, Vo⟩ => [(68, .int .u32 (u32 (j : Int)).toNat), (13, Vo)]) (fun ⟨j, out, Vo⟩ => 65 - j) (0, [], _) ⟨Nat.zero_le _, rfl⟩ (Front.c (Front.c Front.nil)) (by repeat' constructor) rfl (fun i hi m hm => ?_)
 obtain ⟨j, out, Vo⟩ := i
 replace hi : j ≤ x.hi.toNat + 1 ∧ oW l i.imm x j = some out := hi
 replace hm : m = 65 - j := hm
 change Tr _ _ [rowE Vo 23 an out, cellE b9 [(.slice pV l.length cV)] 92, cellE b5 (bR.enc x) 25, cellE b2 (cL.enc s) 37, cellE b1 (aP.enc i) 36] ([(68, .int .u32 (u32 (j : Int)).toNat), (13, Vo)] ++ _) _
 obtain ⟨hj, hto⟩ := hi
 have hol := ui hto
 have h64 : x.hi.toNat < 64 := by rw [UInt32.lt_iff_toNat_lt] at hq4; exact hq4
 refine ah (zz0 (iF rfl rfl) ?_)
 refine ad (al ?_)
 refine ao rfl ?_ ?_ <;> intro h14 <;> try simp only [bs] at h14
 ·have hq5 := h14
  refine bB (al (aG (al ?_)))
  have hhs := Ci hq4
  have hju := v7 (x := (j : Int)) (by omega)
  rw [UInt32.lt_iff_toNat_lt] at hq5
  refine ar (zz0 (aa rfl) (zz0 (ab rfl) (aL (zz0 (aa rfl) (zz0 (ab rfl) (ad ?_))))))
  refine db (ι := UInt32) (fun k1 => k1 = xr x (u32 (j : Int))) (fun _ => Bg.of w) (fun k1 => [rowE Vo 23 an out, cellE b9 [(.slice pV l.length cV)] 92, cellE b5 (bR.enc x) 25, cellE b2 (cL.enc s) 37, cellE b1 (aP.enc i) 36]) (fun k1 => [(15, .int .u32 k1.toNat)]) ?_ (fun k1 hi => ?_)
  ·skip
   refine ah (zz0 (bE rfl aO ak) ?_)
   refine zz0 (aa rfl) (zz0 (aC rfl qc (fun w hw => mz x _ w)) ?_)
   refine zz0 (cj rfl) (ad ?_)
   refine ao rfl ?_ ?_ <;> intro h15 <;> try simp only [bs] at h15
   ·refine ar (zz0 (zz1 (off := 2) (ft := 23) rfl aw rfl ae) ?_)
    refine zz0 (aH rfl am) ?_
    refine zz0 (ab rfl) (ad ?_)
    refine cw _ (Front.c Front.nil) (bA 7 rfl) (o := (by show _ = _; unfold xr; rw [if_neg (by simp_all)]))
   refine bB ?_
   refine cw _ (Front.c Front.nil) (bA 4 rfl) (o := (by show _ = _; unfold xr; rw [if_pos (by simp_all)]))
  skip
  replace hi : k1 = xr x (u32 (j : Int)) := hi
  change Tr _ _ [rowE Vo 23 an out, cellE b9 [(.slice pV l.length cV)] 92, cellE b5 (bR.enc x) 25, cellE b2 (cL.enc s) 37, cellE b1 (aP.enc i) 36] ([(15, .int .u32 k1.toNat)] ++ _) _
  refine ah (zz0 (bE rfl l6 iY) ?_)
  refine zz0 (zz1 (off := 1) (ft := 23) rfl af rfl ae) ?_
  refine zz0 (aH rfl am) ?_
  refine zz0 (aa rfl) (zz0 (aC rfl Tryz.call45 (fun w hw => zY l pV cV i.imm k1 w (hw.slF hV') hB (hD'.mono hw.bg))) ?_)
  refine zz0 (aa rfl) (zz0 (aR rfl rfl) (zz0 (aR rfl rfl) (zz0 (ab rfl) (zz0 (ab rfl) (ad (al (ah (zz0 (aa rfl) (zz0 (cj rfl) (ad ?_))))))))))
  refine ao rfl ?_ ?_ <;> intro h16 <;> try simp only [bs] at h16
  ·have hq7 : (j9 l i.imm k1).2 = false := h16
   refine ah (zz0 (ab rfl) (zz0 (ab rfl) (ad (aD (aB (bv (aB (aB (bv (aB ?_))))))))))
   refine dI gP rfl rfl (fun w' hw => ?_)
   have htn := CV (GB hto (by rw [← hi]; exact hq7)) (x.hi.toNat + 1) (by omega)
   have e : cZ l i x = ([], 19) := by
    unfold cZ
    rw [if_neg (by rw [hq1]; simp)]
    rw [if_neg (fun q => q hq2)]
    rw [if_neg (show ¬((iS x = false ∨ x.em = true) ∨ x.top = true) from fun q => by rcases q with (q | q) | q <;> simp_all)]
    rw [if_neg (fun q => q hqo), if_neg (by rw [UInt32.not_le]; exact hq4), htn]
   exact ⟨.slice none 0 0, by rw [e], hw.b0, by rw [e]; exact fN rfl⟩
  have hq7 : (j9 l i.imm k1).2 = true := by simpa using h16
  refine bB (ar (zz0 (aa rfl) (zz0 (aa rfl) ?_)))
  refine jB (E := an) (j9 l i.imm k1).1 rfl rfl aj ae cU (fun V17 => ?_)
  refine zz2 rfl rfl aj eW (fun V18 => ?_)
  refine zz0 (ab rfl) (az (aX (ac (ar (zz0 (ii (n := 1) rfl rfl) ?_)))))
  refine zz0 (aa rfl) (ad ?_)
  rw [Ei (by omega)]
  refine cC (j + 1, out ++ [(j9 l i.imm k1).1], _) (Front.c (Front.c Front.nil)) (bA 27 rfl) (o := ⟨by omega, by rw [hi]; exact Ek hto (by rw [← hi]; exact hq7)⟩)
 have hq5 := h14
 refine bG (aJ (aJ (bj (ac (al ?_)))))
 have hhs := Ci hq4
 have hju := v7 (x := (j : Int)) (by omega)
 rw [UInt32.lt_iff_toNat_lt] at hq5
 obtain rfl : j = x.hi.toNat + 1 := by omega
 refine ar (zz0 (aa rfl) (zz0 (ab rfl) (zz0 (ab rfl) (ad (aD ?_)))))
 refine dI gP rfl rfl (fun w' hw => ?_)
 have e : cZ l i x = (out, 0) := by
  unfold cZ
  rw [if_neg (by rw [hq1]; simp)]
  rw [if_neg (fun q => q hq2)]
  rw [if_neg (show ¬((iS x = false ∨ x.em = true) ∨ x.top = true) from fun q => by rcases q with (q | q) | q <;> simp_all)]
  rw [if_neg (fun q => q hqo), if_neg (by rw [UInt32.not_le]; exact hq4), hto]
 exact ⟨Vo, by rw [e], hw.b0, by rw [e]; exact hw.new (by repeat constructor)⟩
theorem uX (l : List SecV) (pV : Option Addr) (cV : Nat) (a : UInt32) (n : Int) (w : World) (hV : Sl (hp w) dK l (.slice pV l.length cV)) (hB : SecB l) (hD : DataIn (hp w) l) (hN : ∀ s ∈ l, s.name.size ≤ 140737488351232) :
  Cr Tryz.prog 23 #[(.slice pV l.length cV), .int .u32 a.toNat, .int .i64 n] w (.bool (sk l a n)) := by
 have hV' : Sl (Bg.of w).blk dK l (.slice pV l.length cV) := hV
 have hD' : DataIn (Bg.of w).blk l := hD
 refine enter Tryz.func23 rfl Tryz.ntmps23 rfl ?_
 refine ah (zz0 (ab rfl) (ad (al (ah (zz0 (aa rfl) (zz0 (bS rfl rfl) (zz0 (aa rfl) ?_)))))))
 apply cF
 ·exact (rfl : _ = (3, 13, 16))
 ·exact rfl
 ·intro hF1; have hF1' := hF1
  try simp only [bs] at hF1'
  refine zz5 hF1 (aa rfl) (zz5 hF1 (eU rfl rfl) (zz0 (aK rfl hF1 rfl) ?_))
  refine az (ac ?_)
  exact aA (Sub.cons rfl (zz7 3 rfl))
 ·intro hT1
  refine zz6 hT1 (zz6 hT1 (zz0 (aN rfl hT1 rfl) ?_))
  refine az (ac ?_)
  exact aA (Sub.cons rfl (zz7 3 rfl))
 refine zz0 (aa rfl) ?_
 apply cF
 ·exact (rfl : _ = (4, 17, 21))
 ·exact rfl
 ·intro hF2; have hF2' := hF2
  try simp only [bs] at hF2'
  refine zz5 hF2 (aa rfl) (zz5 hF2 (aC rfl Tryz.call39 (fun w hw => sH l (.slice pV l.length cV) w (hw.slF hV') hB (fun s hs => by have := hN s hs; omega))) ?_)
  refine zz5 hF2 (fa rfl rfl) (zz0 (aK rfl hF2 rfl) ?_)
  refine az (ac ?_)
  exact aA (Sub.cons rfl (zz7 4 rfl))
 ·intro hT2
  refine zz6 hT2 (zz6 hT2 (zz6 hT2 (zz0 (aN rfl hT2 rfl) ?_)))
  refine az (ac ?_)
  exact aA (Sub.cons rfl (zz7 4 rfl))
 refine ad ?_
 refine ao rfl ?_ ?_ <;> intro h3 <;> try simp only [bs] at h3
 ·have hq1 := h3
  refine ah (zz0 (ab rfl) (ad (aD (aB ?_))))
  refine aS Tryz.results23 rfl (fun w' hw => ?_)
  exact ⟨by unfold sk; rw [if_pos (by omega)], hw.b0⟩
 have hq1 := h3
 refine df (zz0 (aa rfl) (zz0 (bL (vs := [(0, _)]) rfl rfl rfl) ?_))
 refine dA Tryz.zeroValue92 rfl (fun b4 => ?_)
 refine zz8 rfl rfl iY ?_
 refine ad (al (ah (zz0 (aa rfl) (zz0 (aa rfl) (ad (aG ?_))))))
 refine bN (ι := Nat) (fun j => (j : Int) ≤ n ∧ mK l a j = true) (fun _ => _) (fun j => [cellE b4 [(.slice pV l.length cV)] 92]) (fun j => [(25, .int .i64 (j : Nat))]) (fun j => n.toNat - j) 0 ⟨by omega, rfl⟩ (Front.c Front.nil) (by repeat' constructor) rfl (fun j hi m hm => ?_)
 replace hi : (j : Int) ≤ n ∧ mK l a j = true := hi
 replace hm : m = n.toNat - j := hm
 change Tr _ _ [cellE b4 [(.slice pV l.length cV)] 92] ([(25, .int .i64 (j : Nat))] ++ _) _
 obtain ⟨hj, hto⟩ := hi
 refine ah (zz0 (bS rfl rfl) (ad (al ?_)))
 refine ao rfl ?_ ?_ <;> intro h5 <;> try simp only [bs] at h5
 ·refine bB (al (aG (ah (zz0 (aa rfl) (zz0 (ab rfl) (aL (zz0 (bE rfl l6 iY) ?_)))))))
  refine zz0 (aa rfl) (zz0 (aa rfl) (zz0 (iw rfl ba aV) (zz0 (aC rfl Tryz.call45 (fun w hw => zY l pV cV a _ w (hw.slF hV') hB (hD'.mono hw.bg))) ?_)))
  refine zz0 (aa rfl) (zz0 (aR rfl rfl) (zz0 (aR rfl rfl) (zz0 (ab rfl) (zz0 (ab rfl) (aL (zz0 (aa rfl) (zz0 (cj rfl) (ad ?_))))))))
  refine ao rfl ?_ ?_ <;> intro h6 <;> try simp only [bs] at h6
  ·have hq2 : (j9 l a (u32 (j : Int))).2 = false := h6
   refine ah (zz0 (ab rfl) (ad (aD (bv (aB (aB (bv (aB ?_))))))))
   refine aS Tryz.results23 rfl (fun w' hw => ?_)
   have hf := zB (show mK l a (j + 1) = false by simp only [mK, hq2, Bool.and_false]) n.toNat (by omega)
   exact ⟨by unfold sk; rw [if_neg (by omega), hf], hw.b0⟩
  have hq2 : (j9 l a (u32 (j : Int))).2 = true := by simpa using h6
  refine bW (aX (ac (ar (zz0 (cx rfl rfl) ?_))))
  refine zz0 (aa rfl) (ad ?_)
  refine cC (j + 1) (Front.c Front.nil) (bA 18 rfl) (o := ⟨by omega, by simp only [mK, hto, hq2, Bool.and_self]⟩)
 refine bG (aJ (aJ (bj (ac (ah (zz0 (ab rfl) (ad (aD ?_))))))))
 refine aS Tryz.results23 rfl (fun w' hw => ?_)
 exact ⟨by unfold sk; rw [if_neg (by omega), show n.toNat = j by omega, hto], hw.b0⟩
end Go.Proofs.YtiajjbhcpeadfaaGreat
