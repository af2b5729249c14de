/- Own rules and walks, part 4. -/
import Derived.Test.YtiajjbhcpeadfaaGreatB3
set_option linter.unusedSimpArgs false
set_option linter.unusedVariables false
set_option linter.unusedSectionVars false
set_option maxRecDepth 100000
set_option maxHeartbeats 16000000
namespace Go.HL
section
variable {α : Type} [Inhabited α]
structure WO (lt : α → α → Bool) : Prop where
 irr : ∀ x, lt x x = false
 tr : ∀ x y z, lt x y = true → lt y z = true → lt x z = true
 ntr : ∀ x y z, lt x y = false → lt y z = false → lt x z = false
theorem WO.asym {lt : α → α → Bool} (h : WO lt) {x y : α} (e : lt x y = true) : lt y x = false := by
 cases e2 : lt y x
 ·rfl
 ·have := h.tr _ _ _ e e2; rw [h.irr] at this; cases this
theorem WO.lt_le {lt : α → α → Bool} (h : WO lt) {x y z : α} (e : lt x y = true) (e2 : lt z y = false) : lt x z = true := by
 cases e3 : lt x z
 ·rw [h.ntr _ _ _ e3 e2] at e; cases e
 ·rfl
theorem WO.le_lt {lt : α → α → Bool} (h : WO lt) {x y z : α} (e : lt y x = false) (e2 : lt y z = true) : lt x z = true := by
 cases e3 : lt x z
 ·rw [h.ntr _ _ _ e e3] at e2; cases e2
 ·rfl
def eqv (lt : α → α → Bool) (z x : α) : Bool := !lt z x && !lt x z
def Stab (lt : α → α → Bool) (l l' : List α) : Prop := l.Perm l' ∧ ∀ z, l.filter (eqv lt z) = l'.filter (eqv lt z)
theorem Stab.refl (lt : α → α → Bool) (l : List α) : Stab lt l l := ⟨.refl _, fun _ => rfl⟩
theorem Stab.trans {lt : α → α → Bool} {a b c : List α} (h : Stab lt a b) (k : Stab lt b c) : Stab lt a c := ⟨h.1.trans k.1, fun z => (h.2 z).trans (k.2 z)⟩
theorem Stab.len {lt : α → α → Bool} {a b : List α} (h : Stab lt a b) : b.length = a.length := h.1.length_eq.symm
theorem Stab.symm {lt : α → α → Bool} {a b : List α} (h : Stab lt a b) : Stab lt b a := ⟨h.1.symm, fun z => (h.2 z).symm⟩
theorem wG {lt : α → α → Bool} (h : WO lt) {X Y : List α} (hc : ∀ x ∈ X, ∀ y ∈ Y, lt y x = true) (z : α) : X.filter (eqv lt z) = [] ∨ Y.filter (eqv lt z) = [] := by
 cases hX : X.filter (eqv lt z) with
 | nil => exact .inl rfl
 | cons x t =>
  refine .inr ?_
  rw [List.filter_eq_nil_iff]
  intro y hy he
  have hx : x ∈ X.filter (eqv lt z) := by rw [hX]; exact .head _
  obtain ⟨hx1, hx2⟩ := List.mem_filter.1 hx
  simp only [eqv, Bool.and_eq_true, Bool.not_eq_true'] at he hx2
  have := hc x hx1 y hy
  rw [h.ntr _ _ _ he.2 hx2.1] at this
  cases this
theorem Stab.swap {lt : α → α → Bool} (h : WO lt) (P X Y S : List α) (hc : ∀ x ∈ X, ∀ y ∈ Y, lt y x = true) : Stab lt (P ++ (X ++ (Y ++ S))) (P ++ (Y ++ (X ++ S))) := by
 refine ⟨List.Perm.append_left _ (by rw [← List.append_assoc, ← List.append_assoc]; exact List.perm_append_comm.append_right _), fun z => ?_⟩
 simp only [List.filter_append]
 rcases wG h hc z with e | e <;> rw [e] <;> simp
theorem sO {lt : α → α → Bool} (h : WO lt) : ∀ (l l' : List α), Stab lt l l' → l.Pairwise (fun x y => lt y x = false) → l'.Pairwise (fun x y => lt y x = false) → l = l'
 | [], l', s, _, _ => by have := s.len; simp at this; exact this.symm
 | x :: t, [], s, _, _ => by have := s.len; simp at this
 | x :: t, y :: t', s, h1, h2 => by
  rw [List.pairwise_cons] at h1 h2
  have hxy : lt x y = false := by
   have : x ∈ y :: t' := s.1.subset (.head _)
   rcases List.mem_cons.1 this with rfl | hm
   ·exact h.irr _
   ·exact h2.1 _ hm
  have hyx : lt y x = false := by
   have : y ∈ x :: t := s.1.symm.subset (.head _)
   rcases List.mem_cons.1 this with rfl | hm
   ·exact h.irr _
   ·exact h1.1 _ hm
  have ex : x = y := by
   have := s.2 x
   rw [List.filter_cons_of_pos (by simp [eqv, h.irr]), List.filter_cons_of_pos (by simp [eqv, hxy, hyx])] at this
   exact (List.cons.inj this).1
  subst ex
  have st : Stab lt t t' := ⟨(List.perm_cons x).1 s.1, fun z => by
   have := s.2 z
   simp only [List.filter_cons] at this
   split at this
   ·exact (List.cons.inj this).2
   ·exact this⟩
  rw [sO h t t' st h1.2 h2.2]
def mp (f : Nat → Nat) (l : List α) : List α := (List.range l.length).map fun k => l.getD (f k) default
theorem ix (f : Nat → Nat) (l : List α) : (mp f l).length = l.length := by simp [mp]
theorem iU {f : Nat → Nat} {l : List α} {k : Nat} (h : k < l.length) : (mp f l).getD k default = l.getD (f k) default := by
 simp [mp, List.getD_eq_getElem?_getD, h]
theorem qm {l l' : List α} (h : l.length = l'.length) (e : ∀ k, k < l.length → l.getD k default = l'.getD k default) : l = l' := by
 refine List.ext_getElem h fun k h1 h2 => ?_
 have := e k h1
 simpa [List.getD_eq_getElem?_getD, h1, h2] using this
theorem IL {f : Nat → Nat} {l : List α} (h : ∀ k, k < l.length → f k = k) : mp f l = l :=
 qm (ix _ _) fun k hk => by rw [ix] at hk; rw [iU hk, h k hk]
theorem Aq {f g k : Nat → Nat} {l : List α} (h : ∀ x, x < l.length → f x < l.length) (e : ∀ x, x < l.length → g (f x) = k x) : mp f (mp g l) = mp k l :=
 qm (by simp [ix]) fun x hx => by
  rw [ix, ix] at hx
  rw [iU (by rw [ix]; exact hx), iU (h x hx), iU hx, e x hx]
theorem FW {f g : Nat → Nat} {l : List α} (e : ∀ x, x < l.length → f x = g x) : mp f l = mp g l :=
 qm (by simp [ix]) fun x hx => by rw [ix] at hx; rw [iU hx, iU hx, e x hx]
def swF (p q k : Nat) : Nat := if k = p then q else if k = q then p else k
def swR (a b n k : Nat) : Nat := if a ≤ k ∧ k < a + n then k - a + b else if b ≤ k ∧ k < b + n then k - b + a else k
def dC (lo m hi k : Nat) : Nat := if lo ≤ k ∧ k < lo + (hi - m) then k + (m - lo) else if lo + (hi - m) ≤ k ∧ k < hi then k - (hi - m) else k
theorem sN (p q k : Nat) : (k = p ∧ swF p q k = q) ∨ (k ≠ p ∧ k = q ∧ swF p q k = p) ∨ (k ≠ p ∧ k ≠ q ∧ swF p q k = k) := by simp only [swF]; grind
theorem nP (a b n k : Nat) : (a ≤ k ∧ k < a + n ∧ swR a b n k = k - a + b) ∨ (¬ (a ≤ k ∧ k < a + n) ∧ b ≤ k ∧ k < b + n ∧ swR a b n k = k - b + a) ∨ (¬ (a ≤ k ∧ k < a + n) ∧ ¬ (b ≤ k ∧ k < b + n) ∧ swR a b n k = k) := by simp only [swR]; grind
theorem fW (lo m hi k : Nat) : (lo ≤ k ∧ k < lo + (hi - m) ∧ dC lo m hi k = k + (m - lo)) ∨ (¬ (lo ≤ k ∧ k < lo + (hi - m)) ∧ lo + (hi - m) ≤ k ∧ k < hi ∧ dC lo m hi k = k - (hi - m)) ∨ (¬ (lo ≤ k ∧ k < lo + (hi - m)) ∧ ¬ (lo + (hi - m) ≤ k ∧ k < hi) ∧ dC lo m hi k = k) := by simp only [dC]; grind
theorem Dc {l : List α} {p q : Nat} (hp : p < l.length) (hq : q < l.length) : (l.set p (l.getD q default)).set q (l.getD p default) = mp (swF p q) l :=
 qm (by simp [ix]) fun k hk => by
  have hk' : k < l.length := by simpa using hk
  rw [iU hk']
  simp only [List.getD_eq_getElem?_getD, List.getElem?_set, List.length_set, swF]
  grind
theorem JG {a b : Nat} {l : List α} : mp (swR a b 0) l = l := IL fun k _ => by simp only [swR]; split <;> (try split) <;> omega
theorem Ff {a b n i : Nat} {l : List α} (h1 : a + n ≤ b) (h2 : b + n ≤ l.length) (hi : i < n) : mp (swF (a + i) (b + i)) (mp (swR a b i) l) = mp (swR a b (i + 1)) l :=
 Aq (fun x hx => by simp only [swF]; split <;> (try split) <;> omega) fun x hx => by
  have h3 := sN (a + i) (b + i) x
  have h4 := nP a b i (swF (a + i) (b + i) x)
  have h5 := nP a b (i + 1) x
  omega
theorem C5 {lo m hi k n : Nat} (h1 : lo ≤ m) (h2 : m ≤ hi) (h3 : hi ≤ n) (h : k < n) : dC lo m hi k < n := by simp only [dC]; split <;> (try split) <;> omega
theorem IW {m i j : Nat} {l : List α} (h1 : i ≤ m) (h2 : m + j ≤ l.length) (h : j < i) : mp (dC (m - (i - j)) m (m + j)) (mp (swR (m - i) m j) l) = mp (dC (m - i) m (m + j)) l :=
 Aq (fun x hx => C5 (by omega) (by omega) h2 hx) fun x hx => by
  have h3 := fW (m - (i - j)) m (m + j) x
  have h4 := nP (m - i) m j (dC (m - (i - j)) m (m + j) x)
  have h5 := fW (m - i) m (m + j) x
  omega
theorem IV {m i j : Nat} {l : List α} (h1 : i ≤ m) (h2 : m + j ≤ l.length) (h : i < j) : mp (dC (m - i) m (m + (j - i))) (mp (swR (m - i) (m + j - i) i) l) = mp (dC (m - i) m (m + j)) l :=
 Aq (fun x hx => C5 (by omega) (by omega) (by omega) hx) fun x hx => by
  have h3 := fW (m - i) m (m + (j - i)) x
  have h4 := nP (m - i) (m + j - i) i (dC (m - i) m (m + (j - i)) x)
  have h5 := fW (m - i) m (m + j) x
  omega
theorem IX {m i : Nat} {l : List α} (h1 : i ≤ m) : mp (swR (m - i) m i) l = mp (dC (m - i) m (m + i)) l :=
 FW fun x hx => by
  have h4 := nP (m - i) m i x
  have h5 := fW (m - i) m (m + i) x
  omega
theorem Ab {l : List α} {i j : Nat} (h : 0 < j) (hj : j ≤ i) (hi : i < l.length) : mp (swF j (j - 1)) (mp (dC j i (i + 1)) l) = mp (dC (j - 1) i (i + 1)) l :=
 Aq (fun x hx => by simp only [swF]; split <;> (try split) <;> omega) fun x hx => by
  have h3 := sN j (j - 1) x
  have h4 := fW j i (i + 1) (swF j (j - 1) x)
  have h5 := fW (j - 1) i (i + 1) x
  omega
theorem IU {l : List α} {a k : Nat} (h : a ≤ k) (hk : k + 1 < l.length) : mp (swF k (k + 1)) (mp (dC a (a + 1) (k + 1)) l) = mp (dC a (a + 1) (k + 2)) l :=
 Aq (fun x hx => by simp only [swF]; split <;> (try split) <;> omega) fun x hx => by
  have h3 := sN k (k + 1) x
  have h4 := fW a (a + 1) (k + 1) (swF k (k + 1) x)
  have h5 := fW a (a + 1) (k + 2) x
  omega
theorem rK {l : List α} {a m b : Nat} (h : a = m ∨ m = b) (h1 : a ≤ m) (h2 : m ≤ b) : mp (dC a m b) l = l := IL fun k _ => by have := fW a m b k; omega
theorem Fx {l : List α} {a m b : Nat} (h1 : a ≤ m) (h2 : m ≤ b) (h3 : b ≤ l.length) :
  mp (dC a m b) l = l.take a ++ ((l.take b).drop m ++ ((l.take m).drop a ++ l.drop b)) := by
 refine qm (by simp [ix]; omega) fun k hk => ?_
 rw [ix] at hk
 rw [iU hk]
 simp only [List.getD_eq_getElem?_getD, List.getElem?_append, List.length_take, List.length_drop, List.getElem?_take, List.getElem?_drop, dC]
 congr 1
 grind
theorem rj {l : List α} {a m b : Nat} (h1 : a ≤ m) (h2 : m ≤ b) (h3 : b ≤ l.length) :
  l = l.take a ++ ((l.take m).drop a ++ ((l.take b).drop m ++ l.drop b)) := by
 refine qm (by simp; omega) fun k hk => ?_
 simp only [List.getD_eq_getElem?_getD, List.getElem?_append, List.length_take, List.length_drop, List.getElem?_take, List.getElem?_drop]
 congr 1
 grind
theorem yH {l : List α} {a b : Nat} {x : α} (h : x ∈ (l.take b).drop a) : ∃ k, a ≤ k ∧ k < b ∧ k < l.length ∧ x = l.getD k default := by
 obtain ⟨i, hi⟩ := List.mem_iff_getElem?.1 h
 rw [List.getElem?_drop, List.getElem?_take] at hi
 split at hi
 ·refine ⟨a + i, by omega, by omega, (List.getElem?_eq_some_iff.1 hi).1, by simp [List.getD_eq_getElem?_getD, hi]⟩
 ·cases hi
theorem Hx {l : List α} {a b k : Nat} (h1 : a ≤ k) (h2 : k < b) (h3 : k < l.length) : l.getD k default ∈ (l.take b).drop a := by
 refine List.mem_iff_getElem?.2 ⟨k - a, ?_⟩
 rw [List.getElem?_drop, List.getElem?_take, if_pos (by omega), show a + (k - a) = k by omega]
 simp [List.getD_eq_getElem?_getD, h3]
theorem Stab.rot {lt : α → α → Bool} (h : WO lt) {l : List α} {a m b : Nat} (h1 : a ≤ m) (h2 : m ≤ b) (h3 : b ≤ l.length)
  (hc : ∀ x y, a ≤ x → x < m → m ≤ y → y < b → lt (l.getD y default) (l.getD x default) = true) : Stab lt l (mp (dC a m b) l) := by
 rw [Fx h1 h2 h3]
 conv => lhs; rw [rj h1 h2 h3]
 refine Stab.swap h _ _ _ _ fun x hx y hy => ?_
 obtain ⟨i, a1, a2, a3, rfl⟩ := yH hx
 obtain ⟨j, b1, b2, b3, rfl⟩ := yH hy
 exact hc i j a1 a2 b1 b2
def Fram (a b : Nat) (l l' : List α) : Prop := l'.length = l.length ∧ ∀ k, k < a ∨ b ≤ k → l'.getD k default = l.getD k default
theorem Fram.refl (a b : Nat) (l : List α) : Fram a b l l := ⟨rfl, fun _ _ => rfl⟩
theorem Fram.trans {a b : Nat} {l m n : List α} (h : Fram a b l m) (k : Fram a b m n) : Fram a b l n := ⟨k.1.trans h.1, fun x hx => (k.2 x hx).trans (h.2 x hx)⟩
theorem Fram.mono {a b c d : Nat} {l m : List α} (h : Fram a b l m) (h1 : c ≤ a) (h2 : b ≤ d) : Fram c d l m := ⟨h.1, fun x hx => h.2 x (by omega)⟩
theorem Fram.rot {a b s m e : Nat} {l : List α} (h1 : a ≤ s) (h2 : e ≤ b) (h3 : s ≤ m) (h4 : m ≤ e) : Fram a b l (mp (dC s m e) l) :=
 ⟨ix _ _, fun k hk => by
  by_cases h : k < l.length
  ·rw [iU h, show dC s m e k = k by have := fW s m e k; omega]
  ·have e1 := List.getElem?_eq_none (l := mp (dC s m e) l) (i := k) (by rw [ix]; omega)
   have e2 := List.getElem?_eq_none (l := l) (i := k) (by omega)
   rw [List.getD_eq_getElem?_getD, List.getD_eq_getElem?_getD, e1, e2]⟩
theorem E1 {lt : α → α → Bool} {l l' : List α} {a b k : Nat} (s : Stab lt l l') (f : Fram a b l l') (hb : b ≤ l.length) (h1 : a ≤ k) (h2 : k < b) : ∃ j, a ≤ j ∧ j < b ∧ l'.getD k default = l.getD j default := by
 have hl := f.1
 have e1 : l'.take a = l.take a := qm (by simp [hl]) fun x hx => by
  have hx' : x < a := by simp at hx; omega
  have := f.2 x (.inl hx')
  simpa [List.getD_eq_getElem?_getD, List.getElem?_take, hx'] using this
 have e2 : l'.drop b = l.drop b := qm (by simp [hl]) fun x hx => by
  have := f.2 (b + x) (.inr (by omega))
  simpa [List.getD_eq_getElem?_getD, List.getElem?_drop] using this
 have p1 := s.1
 rw [rj (l := l) (a := a) (m := b) (b := b) (by omega) (Nat.le_refl _) hb, rj (l := l') (a := a) (m := b) (b := b) (by omega) (Nat.le_refl _) (by omega), e1, e2] at p1
 have p2 := (List.perm_append_left_iff _).1 p1
 have e3 : ∀ x : List α, (x.take b).drop b = [] := fun x => by simp
 rw [e3, e3, List.nil_append] at p2
 have p3 := (List.perm_append_right_iff _).1 p2
 obtain ⟨j, a1, a2, a3, a4⟩ := yH (p3.symm.subset (Hx (l := l') h1 h2 (by omega)))
 exact ⟨j, a1, a2, a4⟩
def Srt (lt : α → α → Bool) (l : List α) (a b : Nat) : Prop := ∀ p q, a ≤ p → p < q → q < b → lt (l.getD q default) (l.getD p default) = false
theorem Srt.sub {lt : α → α → Bool} {l : List α} {a b c d : Nat} (h : Srt lt l a b) (h1 : a ≤ c) (h2 : d ≤ b) : Srt lt l c d := fun p q x y z => h p q (by omega) y (by omega)
theorem Srt.one {lt : α → α → Bool} {l : List α} {a b : Nat} (h : b ≤ a + 1) : Srt lt l a b := fun p q x y z => by omega
theorem Srt.fram {lt : α → α → Bool} {l l' : List α} {a b c d : Nat} (h : Srt lt l a b) (f : Fram c d l l') (hd : b ≤ c ∨ d ≤ a) : Srt lt l' a b := fun p q x y z => by
 rw [f.2 p (by omega), f.2 q (by omega)]; exact h p q x y z
theorem Srt.all {lt : α → α → Bool} {l : List α} (h : Srt lt l 0 l.length) : l.Pairwise fun x y => lt y x = false := by
 rw [List.pairwise_iff_getElem]
 intro i j hi hj hij
 have := h i j (Nat.zero_le _) hij hj
 simpa [List.getD_eq_getElem?_getD, hi, hj] using this
theorem Srt.le {lt : α → α → Bool} (h : WO lt) {l : List α} {a b p q : Nat} (s : Srt lt l a b) (h1 : a ≤ p) (h2 : p ≤ q) (h3 : q < b) : lt (l.getD q default) (l.getD p default) = false := by
 rcases Nat.eq_or_lt_of_le h2 with rfl | h2
 ·exact h.irr _
 ·exact s p q h1 h2 h3
theorem Srt.glue {lt : α → α → Bool} {l : List α} {a m b : Nat} (h1 : Srt lt l a m) (h2 : Srt lt l m b) (hc : ∀ p q, a ≤ p → p < m → m ≤ q → q < b → lt (l.getD q default) (l.getD p default) = false) : Srt lt l a b := fun p q x y z => by
 by_cases hq : q < m
 ·exact h1 p q x y hq
 ·by_cases hp : p < m
  ·exact hc p q x hp (by omega) z
  ·exact h2 p q (by omega) y z
theorem C0 {lt : α → α → Bool} (h : WO lt) {l : List α} {a i j : Nat} (hs : Srt lt l a i) (hi : i < l.length) (h1 : a ≤ j) (h2 : j ≤ i) (hA : ∀ q, j ≤ q → q < i → lt (l.getD i default) (l.getD q default) = true)
  (hB : j = a ∨ lt (l.getD i default) (l.getD (j - 1) default) = false) : Stab lt l (mp (dC j i (i + 1)) l) ∧ Srt lt (mp (dC j i (i + 1)) l) a (i + 1) := by
 refine ⟨Stab.rot h h2 (by omega) (by omega) fun x y a1 a2 a3 a4 => by rw [show y = i by omega]; exact hA x a1 a2, fun p q a1 a2 a3 => ?_⟩
 rw [iU (by omega), iU (by omega)]
 have hlow : ∀ p, a ≤ p → p < j → lt (l.getD i default) (l.getD p default) = false := fun p b1 b2 => by
  rcases hB with rfl | hB
  ·omega
  ·exact h.ntr _ _ _ hB (hs.le h b1 (by omega) (by omega))
 have fp : ∀ k, k ≤ i → dC j i (i + 1) k = if k < j then k else if k = j then i else k - 1 := fun k hk => by simp only [dC]; grind
 rw [fp p (by omega), fp q (by omega)]
 by_cases c1 : q < j
 ·rw [if_pos c1, if_pos (by omega)]; exact hs _ _ a1 a2 (by omega)
 ·rw [if_neg c1]
  by_cases c2 : q = j
  ·rw [if_pos c2, if_pos (by omega)]; exact hlow p a1 (by omega)
  ·rw [if_neg c2]
   by_cases c3 : p < j
   ·rw [if_pos c3]; exact hs _ _ a1 (by omega) (by omega)
   ·rw [if_neg c3]
    by_cases c4 : p = j
    ·rw [if_pos c4]; exact h.asym (hA _ (by omega) (by omega))
    ·rw [if_neg c4]; exact hs _ _ (by omega) (by omega) (by omega)
theorem Fi {lt : α → α → Bool} (h : WO lt) {l : List α} {a i b : Nat} (hs : Srt lt l (a + 1) b) (hb : b ≤ l.length) (h1 : a + 1 ≤ i) (h2 : i ≤ b) (hA : ∀ q, a + 1 ≤ q → q < i → lt (l.getD q default) (l.getD a default) = true)
  (hB : ∀ q, i ≤ q → q < b → lt (l.getD q default) (l.getD a default) = false) : Stab lt l (mp (dC a (a + 1) i) l) ∧ Srt lt (mp (dC a (a + 1) i) l) a b := by
 refine ⟨Stab.rot h (by omega) h1 (by omega) fun x y a1 a2 a3 a4 => by rw [show x = a by omega]; exact hA y a3 a4, fun p q a1 a2 a3 => ?_⟩
 rw [iU (by omega), iU (by omega)]
 have fp : ∀ k, a ≤ k → dC a (a + 1) i k = if k + 1 < i then k + 1 else if k + 1 = i then a else k := fun k hk => by simp only [dC]; grind
 rw [fp p (by omega), fp q (by omega)]
 by_cases c1 : q + 1 < i
 ·rw [if_pos c1, if_pos (by omega)]; exact hs _ _ (by omega) (by omega) (by omega)
 ·rw [if_neg c1]
  by_cases c2 : q + 1 = i
  ·rw [if_pos c2, if_pos (by omega)]; exact h.asym (hA _ (by omega) (by omega))
  ·rw [if_neg c2]
   by_cases c3 : p + 1 < i
   ·rw [if_pos c3]; exact hs _ _ (by omega) (by omega) (by omega)
   ·rw [if_neg c3]
    by_cases c4 : p + 1 = i
    ·rw [if_pos c4]; exact hB _ (by omega) (by omega)
    ·rw [if_neg c4]; exact hs _ _ (by omega) (by omega) (by omega)
structure Half (lt : α → α → Bool) (l cur : List α) (a s mid e b : Nat) : Prop where
 st : Stab lt l cur
 fr : Fram a b l cur
 cr : ∀ p q, a ≤ p → p < mid → mid ≤ q → q < b → lt (cur.getD q default) (cur.getD p default) = false
 s1 : Srt lt cur a s
 s2 : Srt lt cur s mid
 s3 : Srt lt cur mid e
 s4 : Srt lt cur e b
theorem Gn {lt : α → α → Bool} (h : WO lt) {l : List α} {a m b s mid e : Nat} (h1 : Srt lt l a m) (h2 : Srt lt l m b) (hb : b ≤ l.length) (ha : a ≤ s) (hs : s ≤ m) (he : m ≤ e) (hbb : e ≤ b) (hm : mid = s + (e - m))
  (hd : s = m ∨ m = e ∨ lt (l.getD (e - 1) default) (l.getD s default) = true) (hg : s = a ∨ e = b ∨ lt (l.getD e default) (l.getD (s - 1) default) = false) : Half lt l (mp (dC s m e) l) a s mid e b := by
 have c1 : ∀ x y, s ≤ x → x < m → m ≤ y → y < e → lt (l.getD y default) (l.getD x default) = true := fun x y a1 a2 a3 a4 => by
  rcases hd with hd | hd | hd
  ·omega
  ·omega
  ·exact h.le_lt (h2.le h (by omega) (show y ≤ e - 1 by omega) (by omega)) (h.lt_le hd (h1.le h (by omega) a1 (by omega)))
 have c2 : ∀ x y, a ≤ x → x < s → e ≤ y → y < b → lt (l.getD y default) (l.getD x default) = false := fun x y a1 a2 a3 a4 => by
  rcases hg with hg | hg | hg
  ·omega
  ·omega
  ·exact h.ntr _ _ _ (h2.le h (by omega) a3 (by omega)) (h.ntr _ _ _ hg (h1.le h a1 (by omega) (by omega)))
 have fp : ∀ k, dC s m e k = if s ≤ k ∧ k < mid then k + (m - s) else if mid ≤ k ∧ k < e then k - (e - m) else k := fun k => by subst hm; rfl
 have fl : ∀ k, k < b → k < l.length := fun k hk => by omega
 refine ⟨Stab.rot h hs he (by omega) c1, Fram.rot ha hbb hs he, fun p q a1 a2 a3 a4 => ?_, fun p q a1 a2 a3 => ?_, fun p q a1 a2 a3 => ?_, fun p q a1 a2 a3 => ?_, fun p q a1 a2 a3 => ?_⟩
 ·rw [iU (by omega), iU (by omega), fp, fp, if_neg (c := s ≤ q ∧ q < mid) (by omega)]
  by_cases d1 : q < e
  ·rw [if_pos (c := mid ≤ q ∧ q < e) ⟨a3, d1⟩]
   by_cases d2 : p < s
   ·rw [if_neg (by omega), if_neg (by omega)]; exact h1 _ _ a1 (by omega) (by omega)
   ·rw [if_pos (by omega)]; exact h.asym (c1 _ _ (by omega) (by omega) (by omega) (by omega))
  ·rw [if_neg (c := mid ≤ q ∧ q < e) (by omega)]
   by_cases d2 : p < s
   ·rw [if_neg (by omega), if_neg (by omega)]; exact c2 _ _ a1 d2 (by omega) a4
   ·rw [if_pos (by omega)]; exact h2 _ _ (by omega) (by omega) a4
 ·rw [iU (by omega), iU (by omega), fp, fp, if_neg (by omega), if_neg (by omega), if_neg (by omega), if_neg (by omega)]; exact h1 _ _ a1 a2 (by omega)
 ·rw [iU (by omega), iU (by omega), fp, fp, if_pos (by omega), if_pos (by omega)]; exact h2 _ _ (by omega) (by omega) (by omega)
 ·rw [iU (by omega), iU (by omega), fp, fp, if_neg (by omega), if_pos (by omega), if_neg (by omega), if_pos (by omega)]; exact h1 _ _ (by omega) (by omega) (by omega)
 ·rw [iU (by omega), iU (by omega), fp, fp, if_neg (by omega), if_neg (by omega), if_neg (by omega), if_neg (by omega)]; exact h2 _ _ (by omega) a2 a3
theorem Half.left {lt : α → α → Bool} {l c1 c2 : List α} {a s mid e b : Nat} (h : Half lt l c1 a s mid e b) (hb : b ≤ l.length) (hm : mid ≤ e) (hmb : e ≤ b) (st : Stab lt c1 c2) (fr : Fram a mid c1 c2) (so : Srt lt c2 a mid) : Half lt l c2 a mid mid e b := by
 have hl := h.fr.1
 refine ⟨h.st.trans st, h.fr.trans (fr.mono (Nat.le_refl _) (by omega)), fun p q a1 a2 a3 a4 => ?_, so, .one (by omega), h.s3.fram fr (.inr (Nat.le_refl _)), h.s4.fram fr (.inr hm)⟩
 obtain ⟨j, b1, b2, b3⟩ := E1 st fr (by omega) a1 a2
 rw [b3, fr.2 q (.inr a3)]
 exact h.cr _ _ b1 b2 a3 a4
theorem Half.left0 {lt : α → α → Bool} {l c1 : List α} {a s mid e b : Nat} (h : Half lt l c1 a s mid e b) (hn : ¬ (a < s ∧ s < mid)) (ha : a ≤ s) (hs : s ≤ mid) : Half lt l c1 a mid mid e b := by
 refine ⟨h.st, h.fr, h.cr, ?_, .one (by omega), h.s3, h.s4⟩
 by_cases c : a = s
 ·rw [c]; exact h.s2
 ·rw [show mid = s by omega]; exact h.s1
theorem Half.right {lt : α → α → Bool} {l c2 c3 : List α} {a mid e b : Nat} (h : Half lt l c2 a mid mid e b) (hb : b ≤ l.length) (ha : a ≤ mid) (hm : mid ≤ b) (st : Stab lt c2 c3) (fr : Fram mid b c2 c3) (so : Srt lt c3 mid b) : Stab lt l c3 ∧ Fram a b l c3 ∧ Srt lt c3 a b := by
 have hl := h.fr.1
 refine ⟨h.st.trans st, h.fr.trans (fr.mono ha (Nat.le_refl _)), (h.s1.fram fr (.inl (Nat.le_refl _))).glue so fun p q a1 a2 a3 a4 => ?_⟩
 obtain ⟨j, b1, b2, b3⟩ := E1 st fr (by omega) a3 a4
 rw [b3, fr.2 p (.inl a2)]
 exact h.cr _ _ a1 a2 b1 b2
theorem Half.right0 {lt : α → α → Bool} {l c2 : List α} {a mid e b : Nat} (h : Half lt l c2 a mid mid e b) (hn : ¬ (mid < e ∧ e < b)) (hm : mid ≤ e) (hb : e ≤ b) : Stab lt l c2 ∧ Fram a b l c2 ∧ Srt lt c2 a b := by
 refine ⟨h.st, h.fr, h.s1.glue ?_ h.cr⟩
 by_cases c : mid = e
 ·rw [c]; exact h.s4
 ·rw [show b = e by omega]; exact h.s3
def Blk (lt : α → α → Bool) (l : List α) (bs n : Nat) : Prop := ∀ t p q, t * bs ≤ p → p < q → q < (t + 1) * bs → q < n → lt (l.getD q default) (l.getD p default) = false
theorem Blk.all {lt : α → α → Bool} {l : List α} {bs n : Nat} (h : Blk lt l bs n) (hn : n ≤ bs) : Srt lt l 0 n := fun p q a1 a2 a3 => h 0 p q (by omega) a2 (by omega) a3
theorem uI {lt : α → α → Bool} {l l' : List α} {bs t0 b : Nat} (h : Blk lt l bs (t0 * bs)) (f : Fram (t0 * bs) b l l') (s : Srt lt l' (t0 * bs) b) (hb : b ≤ (t0 + 1) * bs) : Blk lt l' bs b := fun t p q a1 a2 a3 a4 => by
 by_cases c : q < t0 * bs
 ·rw [f.2 p (by omega), f.2 q (by omega)]; exact h t p q a1 a2 a3 c
 ·have e1 : t * bs < (t0 + 1) * bs := by omega
  have e2 : t0 * bs < (t + 1) * bs := by omega
  have e3 := Nat.lt_of_mul_lt_mul_right e1
  have e4 := Nat.lt_of_mul_lt_mul_right e2
  obtain rfl : t = t0 := by omega
  exact s p q a1 a2 a4
def Mix (lt : α → α → Bool) (l : List α) (bs a n : Nat) : Prop := Blk lt l (2 * bs) a ∧ ∀ t p q, t * bs ≤ p → p < q → q < (t + 1) * bs → a ≤ p → q < n → lt (l.getD q default) (l.getD p default) = false
theorem JP {lt : α → α → Bool} {l : List α} {bs n : Nat} (h : Blk lt l bs n) : Mix lt l bs 0 n := ⟨fun t p q a1 a2 a3 a4 => by omega, fun t p q a1 a2 a3 _ a5 => h t p q a1 a2 a3 a5⟩
theorem vt {lt : α → α → Bool} {l : List α} {bs n t0 m : Nat} (h : Mix lt l bs (t0 * (2 * bs)) n) (hm : m ≤ t0 * (2 * bs) + bs) (hn : m ≤ n) : Srt lt l (t0 * (2 * bs)) m := fun p q a1 a2 a3 => by
 have e : 2 * t0 * bs = t0 * (2 * bs) := by rw [Nat.mul_comm 2 t0, Nat.mul_assoc]
 refine h.2 (2 * t0) p q (by omega) a2 (by rw [Nat.add_mul]; omega) a1 (by omega)
theorem xl {lt : α → α → Bool} {l : List α} {bs n t0 b : Nat} (h : Mix lt l bs (t0 * (2 * bs)) n) (hm : b ≤ t0 * (2 * bs) + 2 * bs) (hn : b ≤ n) : Srt lt l (t0 * (2 * bs) + bs) b := fun p q a1 a2 a3 => by
 have e : 2 * t0 * bs = t0 * (2 * bs) := by rw [Nat.mul_comm 2 t0, Nat.mul_assoc]
 refine h.2 (2 * t0 + 1) p q (by rw [Nat.add_mul]; omega) a2 (by rw [Nat.add_mul, Nat.add_mul]; omega) (by omega) (by omega)
theorem FY {lt : α → α → Bool} {l l' : List α} {bs n t0 b : Nat} (h : Mix lt l bs (t0 * (2 * bs)) n) (f : Fram (t0 * (2 * bs)) b l l') (s : Srt lt l' (t0 * (2 * bs)) b) (hb : b ≤ t0 * (2 * bs) + 2 * bs) (hab : t0 * (2 * bs) ≤ b) : Mix lt l' bs b n :=
 ⟨uI h.1 f s (by rw [Nat.add_mul]; omega), fun t p q a1 a2 a3 a4 a5 => by
  rw [f.2 p (by omega), f.2 q (by omega)]; exact h.2 t p q a1 a2 a3 (by omega) a5⟩
theorem HU {lt : α → α → Bool} {l : List α} {bs n t0 : Nat} (h : Mix lt l bs (t0 * (2 * bs)) n) (hn : n ≤ t0 * (2 * bs) + bs) : Blk lt l (2 * bs) n := fun t p q a1 a2 a3 a4 => by
 by_cases c : q < t0 * (2 * bs)
 ·exact h.1 t p q a1 a2 a3 c
 ·have e1 : t * (2 * bs) < (t0 + 1) * (2 * bs) := by rw [Nat.add_mul]; omega
  have e2 : t0 * (2 * bs) < (t + 1) * (2 * bs) := by omega
  have e3 := Nat.lt_of_mul_lt_mul_right e1
  have e4 := Nat.lt_of_mul_lt_mul_right e2
  obtain rfl : t = t0 := by omega
  exact vt h hn (Nat.le_refl _) p q a1 a2 a4
end
end Go.HL
namespace Go.HL
open Go
def vU (a b : UInt32) : Int := if a < b then -1 else if b < a then 1 else 0
end Go.HL
namespace Go.HL
open Go
theorem Gi (i : Ins) (s : Int) : mV i s = i ↔ ((s = 4 ∨ s = 5 ∨ s = 6 ∨ s = 7 ∨ s = 8) ∨ i.imm = 0) ∧ ((5 ≤ i.op ∧ i.op ≤ 15 ∨ i.op = 20) ∨ i.form = 0) ∧ ((i.op = 16 ∨ i.op = 17 ∨ i.op = 18) ∨ i.width = 0) ∧
  ((i.op = 20 ∨ i.op = 25) ∨ i.cc = 0) ∧ ((s = 1 ∨ s = 2 ∨ s = 3 ∨ s = 4 ∨ s = 5 ∨ s = 6) ∨ i.a = 0) ∧ ((s = 3 ∨ s = 5) ∨ i.b = 0) := by
 obtain ⟨addr, imm, op, form, width, cc, a, b, size⟩ := i
 have key : ∀ (p : Prop) [Decidable p] (x : Int), ((if p then x else 0) = x) ↔ (p ∨ x = 0) := fun p _ x => by
  by_cases h : p
  ·simp [h]
  ·simp [h]; exact eq_comm
 have key2 : ∀ (p : Prop) [Decidable p] (x : UInt32), ((if p then x else 0) = x) ↔ (p ∨ x = 0) := fun p _ x => by
  by_cases h : p
  ·simp [h]
  ·simp [h]; exact eq_comm
 simp only [mV, Ins.mk.injEq, key, key2, true_and, and_true]
theorem Jj {i : Ins} {c : UInt8} {s : Int} (h : bS i = (c, s, true)) : iC i = if ¬ (lS i.a = true ∧ lS i.b = true ∧ mV i s = i) then 2 else if (s = 4 ∨ s = 5) ∧ jx i.imm = false ∨ s = 7 ∧ jx (i.imm - i.addr - 2) = false then 7 else 0 := by
 unfold iC
 simp only [h]
 by_cases h1 : lS i.a = true <;> by_cases h2 : lS i.b = true <;> by_cases h3 : mV i s = i <;> simp [h1, h2, h3]
theorem Ih {i : Ins} {c : UInt8} {s : Int} (h : bS i = (c, s, false)) : iC i = 2 := by
 unfold iC
 simp only [h]
 rw [if_pos (.inl trivial)]
inductive okOp (i : Ins) : Int → Prop
 | c0 (h : i.op = 0 ∨ i.op = 1 ∨ i.op = 2) : okOp i 0
 | c1 (h : i.op = 3 ∨ i.op = 4) : okOp i 1
 | c2 (h : (5 ≤ i.op ∧ i.op ≤ 15) ∧ i.form = 0) : okOp i 3
 | c3 (h : (5 ≤ i.op ∧ i.op ≤ 15) ∧ i.form = 1) : okOp i 4
 | c4 (h : (5 ≤ i.op ∧ i.op ≤ 15) ∧ i.form = 2) : okOp i 6
 | c5 (h : (i.op = 16 ∨ i.op = 18) ∧ (i.width = 1 ∨ i.width = 2 ∨ i.width = 4)) : okOp i 5
 | c6 (h : i.op = 17 ∧ (i.width = 1 ∨ i.width = 2)) : okOp i 5
 | c7 (h : i.op = 19) : okOp i 5
 | c8 (h : i.op = 25 ∧ (0 ≤ i.cc ∧ i.cc ≤ 14)) : okOp i 2
 | c9 (h : i.op = 20 ∧ (0 ≤ i.cc ∧ i.cc ≤ 14) ∧ i.form = 1) : okOp i 7
 | c10 (h : i.op = 20 ∧ (0 ≤ i.cc ∧ i.cc ≤ 14) ∧ i.form = 2) : okOp i 8
 | c11 (h : i.op = 23) : okOp i 8
 | c12 (h : i.op = 24) : okOp i 2
 | c13 (h : i.op = 21) : okOp i 2
 | c14 (h : i.op = 22) : okOp i 6
 | c15 (h : i.op = 26) : okOp i 2
 | c16 (h : i.op = 27) : okOp i 2
def Good (i : Ins) (x : UInt8 × Int × Bool) : Prop := (x.2.2 = true ∧ okOp i x.2.1) ∨ (x.2.2 = false ∧ ∀ s, ¬ okOp i s)
theorem fx {i : Ins} {p : Prop} [Decidable p] {x y : UInt8 × Int × Bool} (hx : p → Good i x) (hy : ¬ p → Good i y) : Good i (if p then x else y) := by
 by_cases h : p
 ·rw [if_pos h]; exact hx h
 ·rw [if_neg h]; exact hy h
def DJ (i : Ins) (c : UInt8) : Prop := Good i (c, 5, decide (c ≠ 0))
theorem ke {i : Ins} {p : Prop} [Decidable p] {x y : UInt8} (hx : p → DJ i x) (hy : ¬ p → DJ i y) : DJ i (if p then x else y) := by
 by_cases h : p
 ·rw [if_pos h]; exact hx h
 ·rw [if_neg h]; exact hy h
theorem Bi (i : Ins) (h : i.op = 16 ∨ i.op = 17 ∨ i.op = 18) : DJ i (gY i) := by
 unfold gY
 refine ke (fun p => .inl ⟨rfl, .c5 ⟨.inl p.1, .inr (.inr p.2)⟩⟩) fun n1 => ?_
 refine ke (fun p => .inl ⟨rfl, .c5 ⟨.inl p.1, .inl p.2⟩⟩) fun n2 => ?_
 refine ke (fun p => .inl ⟨rfl, .c6 ⟨p.1, .inl p.2⟩⟩) fun n3 => ?_
 refine ke (fun p => .inl ⟨rfl, .c5 ⟨.inl p.1, .inr (.inl p.2)⟩⟩) fun n4 => ?_
 refine ke (fun p => .inl ⟨rfl, .c6 ⟨p.1, .inr p.2⟩⟩) fun n5 => ?_
 refine ke (fun p => .inl ⟨rfl, .c5 ⟨.inr p.1, .inr (.inr p.2)⟩⟩) fun n6 => ?_
 refine ke (fun p => .inl ⟨rfl, .c5 ⟨.inr p.1, .inl p.2⟩⟩) fun n7 => ?_
 refine ke (fun p => .inl ⟨rfl, .c5 ⟨.inr p.1, .inr (.inl p.2)⟩⟩) fun n8 => ?_
 refine .inr ⟨rfl, fun s hs => ?_⟩
 cases hs
 case c5 k =>
  obtain ⟨k1 | k1, k2 | k2 | k2⟩ := k
  ·exact n2 ⟨k1, k2⟩
  ·exact n4 ⟨k1, k2⟩
  ·exact n1 ⟨k1, k2⟩
  ·exact n7 ⟨k1, k2⟩
  ·exact n8 ⟨k1, k2⟩
  ·exact n6 ⟨k1, k2⟩
 case c6 k =>
  obtain ⟨k1, k2 | k2⟩ := k
  ·exact n3 ⟨k1, k2⟩
  ·exact n5 ⟨k1, k2⟩
 all_goals (clear n1 n2 n3 n4 n5 n6 n7 n8; omega)
theorem EF (i : Ins) (h : i.op = 20 ∨ i.op = 25) : Good i (pK i) := by
 unfold pK
 refine fx (fun _ => .inr ⟨rfl, fun s h => by cases h <;> omega⟩) fun _ => ?_
 refine fx (fun _ => .inl ⟨rfl, .c8 (by omega)⟩) fun _ => ?_
 refine fx (fun _ => .inl ⟨rfl, .c9 (by omega)⟩) fun _ => ?_
 refine fx (fun _ => .inl ⟨rfl, .c10 (by omega)⟩) fun _ => ?_
 exact .inr ⟨rfl, fun s h => by cases h <;> omega⟩
theorem An (i : Ins) : Good i (bS i) := by
 unfold bS
 refine fx (fun _ => .inl ⟨rfl, .c0 (by omega)⟩) fun _ => ?_
 refine fx (fun _ => .inl ⟨rfl, .c1 (by omega)⟩) fun _ => ?_
 refine fx (fun _ => .inl ⟨rfl, .c1 (by omega)⟩) fun _ => ?_
 refine fx (fun _ => ?_) fun _ => ?_
 ·refine fx (fun _ => .inl ⟨rfl, .c2 (by omega)⟩) fun _ => ?_
  refine fx (fun _ => .inl ⟨rfl, .c3 (by omega)⟩) fun _ => ?_
  refine fx (fun _ => .inl ⟨rfl, .c4 (by omega)⟩) fun _ => ?_
  exact .inr ⟨rfl, fun s h => by cases h <;> omega⟩
 refine fx (fun h => Bi i h) fun _ => ?_
 refine fx (fun _ => .inl ⟨rfl, .c7 (by omega)⟩) fun _ => ?_
 refine fx (fun h => EF i h) fun _ => ?_
 refine fx (fun _ => .inl ⟨rfl, .c11 (by omega)⟩) fun _ => ?_
 refine fx (fun _ => .inl ⟨rfl, .c12 (by omega)⟩) fun _ => ?_
 refine fx (fun _ => .inl ⟨rfl, .c13 (by omega)⟩) fun _ => ?_
 refine fx (fun _ => .inl ⟨rfl, .c14 (by omega)⟩) fun _ => ?_
 refine fx (fun _ => .inl ⟨rfl, .c15 (by omega)⟩) fun _ => ?_
 refine fx (fun _ => .inl ⟨rfl, .c16 (by omega)⟩) fun _ => ?_
 exact .inr ⟨rfl, fun s h => by cases h <;> omega⟩
theorem Eh (i : Ins) : (∃ c s, bS i = (c, s, true) ∧ okOp i s) ∨ ((∃ c s, bS i = (c, s, false)) ∧ ∀ s, ¬ okOp i s) := by
 have h := An i
 generalize bS i = x at *
 obtain ⟨c, s, ok⟩ := x
 rcases h with ⟨rfl, h⟩ | ⟨rfl, h⟩
 ·exact .inl ⟨c, s, rfl, h⟩
 ·exact .inr ⟨⟨c, s, rfl⟩, h⟩
theorem vB {op : Int} : mB op = true ↔ 5 ≤ op ∧ op ≤ 15 := by simp [mB]
theorem vE {op : Int} : mC op = true ↔ op = 16 ∨ op = 17 ∨ op = 18 := by simp [mC, or_assoc]
theorem Ew {op : Int} : AN op = true ↔ 3 ≤ op ∧ op ≤ 27 ∧ op ≠ 20 ∧ op ≠ 23 := by simp [AN, and_assoc]
theorem Ev {i : Ins} : AL i = true ↔ (5 ≤ i.op ∧ i.op ≤ 15) ∧ i.form = 0 ∨ (i.op = 16 ∨ i.op = 17 ∨ i.op = 18) ∨ i.op = 19 := by simp [AL, mB, mC, or_assoc, and_assoc]
theorem AI {i : Ins} : uE i = true ↔ (5 ≤ i.op ∧ i.op ≤ 15) ∧ i.form ≠ 0 ∨ (i.op = 16 ∨ i.op = 17 ∨ i.op = 18) ∨ i.op = 19 ∨ i.op = 20 ∨ i.op = 22 ∨ i.op = 23 := by simp [uE, mB, mC, or_assoc, and_assoc]
theorem vH {op : Int} : vI op = true ↔ op = 20 ∨ op = 25 := by simp [vI]
theorem xA {n : Int} : Dh n = true ↔ 0 ≤ n ∧ n ≤ 14 := by simp [Dh]
theorem qi {i : Ins} : j9 i = true ↔ (5 ≤ i.op ∧ i.op ≤ 15) ∧ (0 ≤ i.form ∧ i.form ≤ 2) ∨ i.op = 20 ∧ (i.form = 1 ∨ i.form = 2) ∨ (¬ (5 ≤ i.op ∧ i.op ≤ 15) ∧ i.op ≠ 20 ∧ i.form = 0) := by
 unfold j9
 simp only [vB]
 split
 ·simp; omega
 split
 ·simp; omega
 ·simp; omega
theorem pE {i : Ins} : jm i = true ↔ i.op = 17 ∧ (i.width = 1 ∨ i.width = 2) ∨ (i.op = 16 ∨ i.op = 18) ∧ (i.width = 1 ∨ i.width = 2 ∨ i.width = 4) ∨ (¬ (i.op = 16 ∨ i.op = 17 ∨ i.op = 18) ∧ i.width = 0) := by
 unfold jm
 simp only [vE]
 split
 ·simp; omega
 split
 ·simp; omega
 ·simp; omega
theorem G4 {b : Bool} : b = false ↔ ¬ b = true := by cases b <;> simp
theorem Fa {x : UInt32} : x = 0 ↔ x.toNat = 0 := by rw [← UInt32.toNat_inj]; rfl
theorem AC {n : UInt32} : lU n = true ↔ n.toNat ≤ 127 ∨ 4294967168 ≤ n.toNat := by
 simp only [lU, Bool.or_eq_true, decide_eq_true_eq, UInt32.le_iff_toNat_le]
 exact Iff.rfl
theorem JM {op : Int} (h : 5 ≤ op ∧ op ≤ 15) : op = 5 ∨ op = 6 ∨ op = 7 ∨ op = 8 ∨ op = 9 ∨ op = 10 ∨ op = 11 ∨ op = 12 ∨ op = 13 ∨ op = 14 ∨ op = 15 := by omega
theorem Ji {i : Ins} {s : Int} (h2 : okOp i s) : jw i = if ¬ (lS i.a = true ∧ lS i.b = true ∧ mV i s = i) then 2 else if (s = 4 ∨ s = 5) ∧ jx i.imm = false ∨ s = 7 ∧ jx (i.imm - i.addr - 2) = false then 7 else 0 := by
 have e7 : jx i.imm = lU i.imm := rfl
 have e8 : jx (i.imm - i.addr - 2) = lU (i.imm - i.addr - 2) := rfl
 unfold jw
 simp only [G4, qi, pE, Ew, Ev, AI, vH, xA, vB, vE, pX, Gi, e7, e8, AC, Fa, ne_eq]
 clear e7 e8
 have big : ∀ p : Prop, (5 ≤ i.op ∧ i.op ≤ 15) ∧ p → (i.op = 5 ∨ i.op = 6 ∨ i.op = 7 ∨ i.op = 8 ∨ i.op = 9 ∨ i.op = 10 ∨ i.op = 11 ∨ i.op = 12 ∨ i.op = 13 ∨ i.op = 14 ∨ i.op = 15) ∧ p := fun p h => ⟨JM h.1, h.2⟩
 cases h2
 case c2 h => replace h := big _ h; clear big; generalize (i.imm - i.addr - 2).toNat = m; generalize i.imm.toNat = n; generalize i.op = op at *; generalize i.form = form at *; obtain ⟨rfl | rfl | rfl | rfl | rfl | rfl | rfl | rfl | rfl | rfl | rfl, rfl⟩ := h <;> simp <;> (repeat' split) <;> omega
 case c3 h => replace h := big _ h; clear big; generalize (i.imm - i.addr - 2).toNat = m; generalize i.imm.toNat = n; generalize i.op = op at *; generalize i.form = form at *; obtain ⟨rfl | rfl | rfl | rfl | rfl | rfl | rfl | rfl | rfl | rfl | rfl, rfl⟩ := h <;> simp <;> (repeat' split) <;> omega
 case c4 h => replace h := big _ h; clear big; generalize (i.imm - i.addr - 2).toNat = m; generalize i.imm.toNat = n; generalize i.op = op at *; generalize i.form = form at *; obtain ⟨rfl | rfl | rfl | rfl | rfl | rfl | rfl | rfl | rfl | rfl | rfl, rfl⟩ := h <;> simp <;> (repeat' split) <;> omega
 all_goals clear big
 all_goals generalize (i.imm - i.addr - 2).toNat = m
 all_goals generalize i.imm.toNat = n
 all_goals rename_i h
 all_goals generalize i.op = op at *
 all_goals generalize i.form = form at *
 case c0 => rcases h with rfl | rfl | rfl <;> simp <;> (repeat' split) <;> omega
 case c1 => rcases h with rfl | rfl <;> simp <;> (repeat' split) <;> omega
 case c5 => rcases h with ⟨rfl | rfl, h⟩ <;> simp <;> (repeat' split) <;> omega
 case c9 => obtain ⟨rfl, h, rfl⟩ := h; simp; (repeat' split) <;> omega
 case c10 => obtain ⟨rfl, h, rfl⟩ := h; simp; (repeat' split) <;> omega
 case c6 => obtain ⟨rfl, h⟩ := h; simp; (repeat' split) <;> omega
 case c8 => obtain ⟨rfl, h⟩ := h; simp; (repeat' split) <;> omega
 all_goals (subst h; simp; (repeat' split) <;> omega)
theorem Ig {i : Ins} (h : ∀ s, ¬ okOp i s) : jw i = 2 := by
 have h0 : ¬ (i.op = 0 ∨ i.op = 1 ∨ i.op = 2) := fun k => h _ (.c0 k)
 have h1 : ¬ (i.op = 3 ∨ i.op = 4) := fun k => h _ (.c1 k)
 have h2 : ¬ ((5 ≤ i.op ∧ i.op ≤ 15) ∧ (i.form = 0 ∨ i.form = 1 ∨ i.form = 2)) := fun k => by
  rcases k with ⟨k, k1 | k1 | k1⟩
  ·exact h _ (.c2 ⟨k, k1⟩)
  ·exact h _ (.c3 ⟨k, k1⟩)
  ·exact h _ (.c4 ⟨k, k1⟩)
 have h5 : ¬ ((i.op = 16 ∨ i.op = 18) ∧ (i.width = 1 ∨ i.width = 2 ∨ i.width = 4)) := fun k => h _ (.c5 k)
 have h6 : ¬ (i.op = 17 ∧ (i.width = 1 ∨ i.width = 2)) := fun k => h _ (.c6 k)
 have h7 : ¬ i.op = 19 := fun k => h _ (.c7 k)
 have h8 : ¬ (i.op = 25 ∧ (0 ≤ i.cc ∧ i.cc ≤ 14)) := fun k => h _ (.c8 k)
 have h9 : ¬ (i.op = 20 ∧ (0 ≤ i.cc ∧ i.cc ≤ 14) ∧ i.form = 1) := fun k => h _ (.c9 k)
 have h10 : ¬ (i.op = 20 ∧ (0 ≤ i.cc ∧ i.cc ≤ 14) ∧ i.form = 2) := fun k => h _ (.c10 k)
 have h11 : ¬ (i.op = 23) := fun k => h _ (.c11 k)
 have h12 : ¬ (i.op = 24) := fun k => h _ (.c12 k)
 have h13 : ¬ (i.op = 21) := fun k => h _ (.c13 k)
 have h14 : ¬ (i.op = 22) := fun k => h _ (.c14 k)
 have h15 : ¬ (i.op = 26) := fun k => h _ (.c15 k)
 have h16 : ¬ (i.op = 27) := fun k => h _ (.c16 k)
 clear h
 unfold jw
 simp only [G4, qi, pE, vH, xA, ne_eq]
 by_cases k1 : i.op < 0 ∨ 27 < i.op ∨ ¬((5 ≤ i.op ∧ i.op ≤ 15) ∧ 0 ≤ i.form ∧ i.form ≤ 2 ∨ i.op = 20 ∧ (i.form = 1 ∨ i.form = 2) ∨ ¬(5 ≤ i.op ∧ i.op ≤ 15) ∧ ¬ i.op = 20 ∧ i.form = 0) ∨
   ¬(i.op = 17 ∧ (i.width = 1 ∨ i.width = 2) ∨ (i.op = 16 ∨ i.op = 18) ∧ (i.width = 1 ∨ i.width = 2 ∨ i.width = 4) ∨ ¬(i.op = 16 ∨ i.op = 17 ∨ i.op = 18) ∧ i.width = 0)
 ·rw [if_pos k1]
 rw [if_neg k1]
 split
 ·rfl
 rw [if_pos]
 have hop : i.op = 20 ∨ i.op = 25 := by omega
 refine .inl ⟨hop, fun hc => ?_⟩
 omega
theorem If (i : Ins) : jw i = iC i := by
 rcases Eh i with ⟨c, s, h1, h2⟩ | ⟨⟨c, s, h1⟩, h2⟩
 ·rw [Jj h1, Ji h2]
 ·rw [Ih h1, Ig h2]
end Go.HL
namespace Go.HL
open Go
theorem qC {x : Int} (h : 0 ≤ x ∧ x < 4294967296) : ((u32 x).toNat : Int) = x := by
 have := sL x; omega
end Go.HL
namespace Go.HL
open Go Go.Sort
open Go.Proofs (ltOf)
def Cl (a b : Int) : Int := if a < b then -1 else if b < a then 1 else 0
def l4 (x y : Ins) : Int := vU x.addr y.addr
theorem uH (a b : UInt32) : vU a b < 0 ↔ a < b := by
 unfold vU
 split
 ·rename_i h; simp [h]
 ·rename_i h
  split
  ·simp [h]
  ·simp [h]
theorem qD (x y : Ins) : ltOf l4 x y = decide (x.addr < y.addr) := by
 unfold ltOf l4
 congr 1
 exact propext (uH _ _)
theorem k9 : SWO (ltOf l4) where
 irrefl x := by simp [qD]
 trans x y z h1 h2 := by
  simp only [qD, decide_eq_true_eq, UInt32.lt_iff_toNat_lt] at *; omega
 ntrans x y z h1 h2 := by
  simp only [qD, decide_eq_false_iff_not, UInt32.lt_iff_toNat_lt] at *; omega
theorem yI (i : Ins) : 0 ≤ iV i ∧ iV i ≤ 6 := by
 unfold iV fu
 split
 ·repeat' split
  all_goals omega
 ·omega
def vP (i : Ins) : Int := (i.addr.toNat : Int) + iV i
def mxU (a b : UInt32) : UInt32 := if a < b then b else a
theorem HT (a b : UInt32) : (mxU a b).toNat = max a.toNat b.toNat := by
 unfold mxU
 split
 ·rename_i h; rw [UInt32.lt_iff_toNat_lt] at h; omega
 ·rename_i h; rw [UInt32.lt_iff_toNat_lt] at h; omega
def jN (a b : Ins) : Bool := ((decide (a.addr ≠ b.addr) && decide (0 < iV a)) && decide (0 < iV b)) && decide (((mxU a.addr b.addr).toNat : Int) < min (vP a) (vP b))
def od {α : Type} [DecidableEq α] : α → List α → List α
 | _, [] => []
 | x, y :: t => if y = x then od x t else y :: od y t
def fU {α : Type} [DecidableEq α] : List α → List α
 | [] => []
 | x :: t => x :: od x t
theorem rm {α : Type} [DecidableEq α] : ∀ (x : α) (l : List α) (y : α), od x (l ++ [y]) = if y = (x :: l).getLast (by simp) then od x l else od x l ++ [y]
 | x, [], y => by simp only [List.nil_append, od, List.getLast_singleton]; by_cases h : y = x <;> simp [h]
 | x, z :: t, y => by
  have ih1 := rm z t y
  have ih2 := rm x t y
  have e : (x :: z :: t).getLast (by simp) = (z :: t).getLast (by simp) := by simp
  rw [e]
  by_cases h : z = x
  ·subst h
   simp only [List.cons_append, od, if_true, ih1]
  ·simp only [List.cons_append, od, h, if_false, ih1]
   split <;> rfl
theorem lZ {α : Type} [DecidableEq α] [Inhabited α] {l : List α} {k : Nat} (h0 : 0 < k) (h : k < l.length) : fU (l.take (k + 1)) = if l.getD k default = l.getD (k - 1) default then fU (l.take k) else fU (l.take k) ++ [l.getD k default] := by
 rw [dw h]
 cases l with
 | nil => simp at h
 | cons x t =>
  obtain ⟨j, rfl⟩ : ∃ j, k = j + 1 := ⟨k - 1, by omega⟩
  simp only [List.take_succ_cons, List.cons_append, fU]
  rw [rm]
  have e : (x :: t.take j).getLast (by simp) = (x :: t).getD (j + 1 - 1) default := by
   rw [List.getLast_eq_getElem]
   simp only [List.length_cons, List.length_take, Nat.add_sub_cancel]
   have hj : j ≤ t.length := by simp at h; omega
   simp only [Nat.min_eq_left hj]
   cases j with
   | zero => simp
   | succ j => simp [List.getD_eq_getElem?_getD, show j < t.length by omega]
  rw [e]
  split <;> rfl
theorem l3 {α : Type} [DecidableEq α] [Inhabited α] {l : List α} : ∀ {k : Nat}, k ≤ l.length → (∀ j, 0 < j → j < k → l.getD j default ≠ l.getD (j - 1) default) → fU (l.take k) = l.take k
 | 0, _, _ => by simp [fU]
 | k + 1, h, hne => by
  by_cases h0 : k = 0
  ·subst h0
   cases l with
   | nil => simp at h
   | cons x t => simp [fU, od]
  ·rw [lZ (by omega) (by omega), if_neg (hne k (by omega) (by omega)), l3 (by omega) (fun j a b => hne j a (by omega)), dw (by omega)]
def inK (l : List Ins) (a : UInt32) : Bool := l.any fun x => decide (x.addr = a)
def iv (out : List Ins) (i : Ins) : List Ins := if (!inK out i.addr && decide (iC i = 0)) = true then out ++ [i] else out
def tz (l : List Ins) : List Ins := l.foldl iv []
def zd (out : List Ins) : List (UInt32 × Bool) := out.map fun i => (i.addr, true)
theorem GU (out : List Ins) (a : UInt32) : (dP (zd out) a).getD false = inK out a := by
 induction out with
 | nil => rfl
 | cons x t ih =>
  unfold zd at ih ⊢
  simp only [List.map_cons, dP, inK, List.any_cons]
  by_cases h : a = x.addr
  ·simp [h]
  ·have h' : ¬ x.addr = a := fun q => h q.symm
   rw [if_neg h, decide_eq_false h', Bool.false_or]; exact ih
theorem GT {out : List Ins} {i : Ins} (h : inK out i.addr = false) : fw (zd out) i.addr true = zd (out ++ [i]) := by
 have : dP (zd out) i.addr = none := by
  cases hg : dP (zd out) i.addr with
  | none => rfl
  | some b =>
   exfalso
   have hm := tU hg
   obtain ⟨x, hx, e⟩ := List.mem_map.1 hm
   have : inK out i.addr = true := List.any_eq_true.2 ⟨x, hx, by simp at e; simp [e.1]⟩
   rw [h] at this; cases this
 rw [rS this]
 simp [zd]
theorem A8 {l : List Ins} {k : Nat} (h : k < l.length) : tz (l.take (k + 1)) = iv (tz (l.take k)) (l.getD k default) := by
 unfold tz; rw [dw h, List.foldl_append]; rfl
theorem Dq : ∀ (l out : List Ins), (l.foldl iv out).length ≤ out.length + l.length
 | [], out => by simp
 | i :: t, out => by
  have h1 := Dq t (iv out i)
  have h2 : (iv out i).length ≤ out.length + 1 := by unfold iv; split <;> simp
  simp only [List.foldl_cons, List.length_cons]; omega
theorem Bb (l : List Ins) : (tz l).length ≤ l.length := by have := Dq l []; simpa [tz] using this
def fQ (l : List Ins) : List Ins := mR (ltOf l4) (tz l)
theorem vR (l : List Ins) : (fQ l).length ≤ l.length := by unfold fQ; rw [lQ k9]; exact Bb l
def uy (m : List (UInt32 × Bool)) (i : Ins) : List (UInt32 × Bool) := if (dn i).2 = true then fw m (dn i).1 true else m
def rA (l : List Ins) : List (UInt32 × Bool) := l.foldl uy []
theorem zL {l : List Ins} {k : Nat} (h : k < l.length) : rA (l.take (k + 1)) = uy (rA (l.take k)) (l.getD k default) := by
 unfold rA; rw [dw h, List.foldl_append]; rfl
def JU (l : List UInt32) (a : UInt32) : Bool := l.any fun x => decide (a = x)
def gk (ents : List UInt32) (tm : List (UInt32 × Bool)) (i : Ins) : Int := if JU ents i.addr = true then 0 else if (dP tm i.addr).getD false = true then 1 else 2
def Ip (ents : List UInt32) (tm : List (UInt32 × Bool)) (x y : Ins) : Int := Cl (gk ents tm x) (gk ents tm y)
def gU (kept : List Ins) (i : Ins) : List Ins := if kept.any (jN i) = true then kept else kept ++ [i]
def lM (order : List Ins) : List Ins := order.foldl gU []
theorem xw {l : List Ins} {k : Nat} (h : k < l.length) : lM (l.take (k + 1)) = gU (lM (l.take k)) (l.getD k default) := by
 unfold lM; rw [dw h, List.foldl_append]; rfl
theorem Ay : ∀ (l out : List Ins), (l.foldl gU out).length ≤ out.length + l.length
 | [], out => by simp
 | i :: t, out => by
  have h1 := Ay t (gU out i)
  have h2 : (gU out i).length ≤ out.length + 1 := by unfold gU; split <;> simp
  simp only [List.foldl_cons, List.length_cons]; omega
theorem td (l : List Ins) : (lM l).length ≤ l.length := by have := Ay l []; simpa [lM] using this
theorem xx : ∀ (l out : List Ins) (x : Ins), x ∈ l.foldl gU out → x ∈ out ∨ x ∈ l
 | [], out, x, h => .inl h
 | i :: t, out, x, h => by
  rcases xx t (gU out i) x h with h | h
  ·unfold gU at h
   split at h
   ·exact .inl h
   ·rcases List.mem_append.1 h with h | h
    ·exact .inl h
    ·simp at h; subst h; exact .inr (.head _)
  ·exact .inr (.tail _ h)
theorem Ax {l : List Ins} {x : Ins} (h : x ∈ lM l) : x ∈ l := by
 rcases xx l [] x h with h | h
 ·cases h
 ·exact h
def nT (l kept : List Ins) : List UInt32 := (l.filter fun i => !inK kept i.addr).map (·.addr)
def ed (g : Ins → Int) (l : List Ins) : List Ins := l.filter (fun i => decide (g i = 0)) ++ (l.filter (fun i => decide (g i = 1)) ++ l.filter (fun i => decide (g i = 2)))
theorem Io (a b : Int) : Cl a b < 0 ↔ a < b := by
 unfold Cl
 split
 ·rename_i h; simp [h]
 ·split <;> simp_all
def ltG (g : Ins → Int) (x y : Ins) : Bool := decide (g x < g y)
theorem EZ (g : Ins → Int) : WO (ltG g) where
 irr x := by simp [ltG]
 tr x y z h1 h2 := by simp only [ltG, decide_eq_true_eq] at *; omega
 ntr x y z h1 h2 := by simp only [ltG, decide_eq_false_iff_not] at *; omega
theorem Ii (g : Ins → Int) (z x : Ins) : eqv (ltG g) z x = decide (g x = g z) := by
 unfold eqv ltG
 by_cases h : g x = g z
 ·simp [h]
 ·rw [decide_eq_false h]
  by_cases c : g z < g x
  ·simp [c]
  ·have : g x < g z := by omega
   simp [c, this]
theorem mf (ents : List UInt32) (tm : List (UInt32 × Bool)) (i : Ins) : gk ents tm i = 0 ∨ gk ents tm i = 1 ∨ gk ents tm i = 2 := by
 unfold gk
 repeat' split
 all_goals simp
theorem rP {g : Ins → Int} (hg : ∀ i, g i = 0 ∨ g i = 1 ∨ g i = 2) (l : List Ins) : Stab (ltG g) l (ed g l) ∧ (ed g l).Pairwise fun x y => ltG g y x = false := by
 refine ⟨⟨?_, fun z => ?_⟩, ?_⟩
 ·induction l with
  | nil => exact List.Perm.refl _
  | cons x t ih =>
   rcases hg x with h | h | h
   ·have e : ed g (x :: t) = x :: ed g t := by simp [ed, h]
    rw [e]; exact ih.cons x
   ·have e : ed g (x :: t) = t.filter (fun i => decide (g i = 0)) ++ x :: (t.filter (fun i => decide (g i = 1)) ++ t.filter (fun i => decide (g i = 2))) := by simp [ed, h]
    rw [e]; exact (ih.cons x).trans List.perm_middle.symm
   ·have e : ed g (x :: t) = (t.filter (fun i => decide (g i = 0)) ++ t.filter (fun i => decide (g i = 1))) ++ x :: t.filter (fun i => decide (g i = 2)) := by simp [ed, h]
    rw [e]
    refine (ih.cons x).trans ?_
    refine List.Perm.trans ?_ List.perm_middle.symm
    rw [List.append_assoc]; exact List.Perm.refl _
 ·have e : (fun x => eqv (ltG g) z x) = fun x => decide (g x = g z) := by funext x; exact Ii g z x
  show l.filter (fun x => eqv (ltG g) z x) = (ed g l).filter (fun x => eqv (ltG g) z x)
  rw [e]
  unfold ed
  rw [List.filter_append, List.filter_append, List.filter_filter, List.filter_filter, List.filter_filter]
  have hn : ∀ c : Int, c ≠ g z → l.filter (fun x => decide (g x = g z) && decide (g x = c)) = [] := fun c hc => by
   rw [List.filter_eq_nil_iff]
   intro x _
   simp only [Bool.and_eq_true, decide_eq_true_eq, not_and]
   intro q1 q2; exact hc (q2.symm.trans q1)
  have hy : ∀ c : Int, c = g z → l.filter (fun x => decide (g x = g z) && decide (g x = c)) = l.filter (fun x => decide (g x = g z)) := fun c hc => by subst hc; simp
  rcases hg z with h | h | h
  ·rw [hy 0 h.symm, hn 1 (by omega), hn 2 (by omega)]; simp
  ·rw [hn 0 (by omega), hy 1 h.symm, hn 2 (by omega)]; simp
  ·rw [hn 0 (by omega), hn 1 (by omega), hy 2 h.symm]; simp
 ·have hc : ∀ c : Int, (l.filter (fun i => decide (g i = c))).Pairwise fun x y => ltG g y x = false := fun c => by
   rw [List.pairwise_iff_forall_sublist]
   intro a b hab
   have ha : a ∈ l.filter (fun i => decide (g i = c)) := hab.subset (by simp)
   have hb : b ∈ l.filter (fun i => decide (g i = c)) := hab.subset (by simp)
   have := of_decide_eq_true (List.mem_filter.1 ha).2
   have := of_decide_eq_true (List.mem_filter.1 hb).2
   simp only [ltG, decide_eq_false_iff_not]; omega
  have hx : ∀ (c d : Int), c ≤ d → ∀ x ∈ l.filter (fun i => decide (g i = c)), ∀ y ∈ l.filter (fun i => decide (g i = d)), ltG g y x = false := fun c d h x hx y hy => by
   have := of_decide_eq_true (List.mem_filter.1 hx).2
   have := of_decide_eq_true (List.mem_filter.1 hy).2
   simp only [ltG, decide_eq_false_iff_not]; omega
  unfold ed
  refine List.pairwise_append.2 ⟨hc 0, List.pairwise_append.2 ⟨hc 1, hc 2, hx 1 2 (by omega)⟩, fun x h1 y h2 => ?_⟩
  rcases List.mem_append.1 h2 with h2 | h2
  ·exact hx 0 1 (by omega) x h1 y h2
  ·exact hx 0 2 (by omega) x h1 y h2
theorem I3 {g : Ins → Int} (hg : ∀ i, g i = 0 ∨ g i = 1 ∨ g i = 2) {l c : List Ins} (h1 : Stab (ltG g) l c) (h2 : c.Pairwise fun x y => ltG g y x = false) : c = ed g l := by
 obtain ⟨k1, k2⟩ := rP hg l
 exact sO (EZ g) _ _ (h1.symm.trans k1) h2 k2
theorem Dp : ∀ (l out : List Ins) (x : Ins), x ∈ l.foldl iv out → x ∈ out ∨ x ∈ l
 | [], out, x, h => .inl h
 | i :: t, out, x, h => by
  rcases Dp t (iv out i) x h with h | h
  ·unfold iv at h
   split at h
   ·rcases List.mem_append.1 h with h | h
    ·exact .inl h
    ·simp at h; subst h; exact .inr (.head _)
   ·exact .inl h
  ·exact .inr (.tail _ h)
theorem vQ {l : List Ins} {x : Ins} (h : x ∈ fQ l) : x ∈ l := by
 have h1 := (oI k9 (tz l)).subset h
 rcases Dp l [] x h1 with h | h
 ·cases h
 ·exact h
theorem yD {g : Ins → Int} (hg : ∀ i, g i = 0 ∨ g i = 1 ∨ g i = 2) (l : List Ins) : (ed g l).length = l.length := (rP hg l).1.len
theorem Db {g : Ins → Int} {l : List Ins} {x : Ins} (h : x ∈ ed g l) : x ∈ l := by
 unfold ed at h
 simp only [List.mem_append, List.mem_filter] at h
 rcases h with h | h | h <;> exact h.1
theorem HJ {l kept : List Ins} {k : Nat} (h : k < l.length) (hc : inK kept (l.getD k default).addr = false) : nT (l.take (k + 1)) kept = nT (l.take k) kept ++ [(l.getD k default).addr] := by
 unfold nT
 rw [lE h (by rw [hc]; rfl), List.map_append]; rfl
theorem I0 {l kept : List Ins} {k : Nat} (h : k < l.length) (hc : inK kept (l.getD k default).addr = true) : nT (l.take (k + 1)) kept = nT (l.take k) kept := by
 unfold nT
 rw [lF h (by rw [hc]; rfl)]
theorem HK (l kept : List Ins) : (nT l kept).length ≤ l.length := by unfold nT; rw [List.length_map]; exact List.length_filter_le _ _
structure ResV where
 kept : List Ins
 ents : List UInt32
 unk : List UInt32
 bad : List UInt32
 rem : List UInt32
def gQ (ins : List Ins) (ents unk bad : List UInt32) : ResV :=
 let l := fQ ins
 let kept := mR (ltOf l4) (lM (ed (gk ents (rA l)) l))
 ⟨kept, ents.filter (inK kept), unk.filter (inK kept), bad, nT l kept⟩
end Go.HL
namespace Go.HL
open Go Go.Sort
open Go.Proofs (ltOf)
section
variable {α : Type} [DecidableEq α] [Inhabited α]
theorem yu {lt : α → α → Bool} (irr : ∀ x, lt x x = false) (tr : ∀ x y z, lt x y = true → lt y z = true → lt x z = true) : ∀ (l m : List α), l.Pairwise (fun a b => lt a b = true) → m.Pairwise (fun a b => lt a b = true) → (∀ x, x ∈ l ↔ x ∈ m) → l = m
 | [], [], _, _, _ => rfl
 | [], y :: m, _, _, h => absurd ((h y).2 (.head _)) (by simp)
 | x :: l, [], _, _, h => absurd ((h x).1 (.head _)) (by simp)
 | x :: l, y :: m, h1, h2, h => by
  have p1 := List.pairwise_cons.1 h1
  have p2 := List.pairwise_cons.1 h2
  have e : x = y := by
   rcases List.mem_cons.1 ((h x).1 (.head _)) with e | hx
   ·exact e
   ·rcases List.mem_cons.1 ((h y).2 (.head _)) with e | hy
    ·exact e.symm
    ·have := tr _ _ _ (p2.1 x hx) (p1.1 y hy)
     rw [irr] at this; cases this
  subst e
  have : l = m := yu irr tr l m p1.2 p2.2 fun z => by
   constructor
   ·intro hz
    rcases List.mem_cons.1 ((h z).1 (.tail _ hz)) with e | hm
    ·subst e; have := p1.1 z hz; rw [irr] at this; cases this
    ·exact hm
   ·intro hz
    rcases List.mem_cons.1 ((h z).2 (.tail _ hz)) with e | hm
    ·subst e; have := p2.1 z hz; rw [irr] at this; cases this
    ·exact hm
  rw [this]
end
def FI (a b : Ins) : Bool := (((decide (a.addr ≠ b.addr) && decide (iC a = 0)) && decide (iC b = 0)) && decide ((a.addr.toNat : Int) < vP b)) && decide ((b.addr.toNat : Int) < vP a)
theorem yJ {i : Ins} : 0 < iV i ↔ iC i = 0 := by
 unfold iV
 split
 ·rename_i h
  have := (enc_facts0 i)
  constructor
  ·intro _; exact h
  ·intro _
   unfold fu
   repeat' split
   all_goals omega
 ·rename_i h; constructor
  ·intro q; omega
  ·intro q; exact absurd q h
where enc_facts0 (i : Ins) : True := trivial
theorem vT {a b : Ins} : jN a b = true ↔ a.addr.toNat ≠ b.addr.toNat ∧ iC a = 0 ∧ iC b = 0 ∧ (a.addr.toNat : Int) < vP b ∧ (b.addr.toNat : Int) < vP a := by
 have e : a.addr ≠ b.addr ↔ a.addr.toNat ≠ b.addr.toNat := by rw [Ne, Ne, UInt32.toNat_inj]
 unfold jN
 simp only [Bool.and_eq_true, decide_eq_true_eq, yJ, HT, e]
 have h1 := yI a
 have h2 := yI b
 unfold vP
 constructor
 ·rintro ⟨⟨⟨q1, q2⟩, q3⟩, q4⟩; refine ⟨q1, q2, q3, ?_, ?_⟩ <;> omega
 ·rintro ⟨q1, q2, q3, q4, q5⟩
  have p1 := yJ.2 q2
  have p2 := yJ.2 q3
  exact ⟨⟨⟨q1, q2⟩, q3⟩, by omega⟩
theorem JK (a b : Ins) : FI a b = jN a b := by
 rw [Bool.eq_iff_iff, vT]
 have e : a.addr ≠ b.addr ↔ a.addr.toNat ≠ b.addr.toNat := by rw [Ne, Ne, UInt32.toNat_inj]
 unfold FI
 simp only [Bool.and_eq_true, decide_eq_true_eq, e]
 exact ⟨fun ⟨⟨⟨⟨q1, q2⟩, q3⟩, q4⟩, q5⟩ => ⟨q1, q2, q3, q4, q5⟩, fun ⟨q1, q2, q3, q4, q5⟩ => ⟨⟨⟨⟨q1, q2⟩, q3⟩, q4⟩, q5⟩⟩
theorem GQ (a b : Ins) : jN a b = jN b a := by
 rw [Bool.eq_iff_iff, vT, vT]
 exact ⟨fun ⟨q1, q2, q3, q4, q5⟩ => ⟨Ne.symm q1, q3, q2, q5, q4⟩, fun ⟨q1, q2, q3, q4, q5⟩ => ⟨Ne.symm q1, q3, q2, q5, q4⟩⟩
end Go.HL
namespace Go.Proofs.YtiajjbhcpeadfaaGreat
open Go Go.HL Go.RowKit
theorem Bc (a b : UInt32) (w : World) :
  Cr Tryz.prog 84 #[.int .u32 a.toNat, .int .u32 b.toNat] w (.int .i64 (vU a b)) := by
 refine enter Tryz.func84 rfl Tryz.ntmps84 rfl ?_
 refine ah (zz0 (ab rfl) (aM (zz0 (aa rfl) (zz0 (aD rfl pj (fun w hw => rR a w)) ?_))))
 refine zz0 (ab rfl) (aM (zz0 (aa rfl) (zz0 (aD rfl pj (fun w hw => rR b w)) ?_)))
 refine zz0 (ab rfl) (ad (an (ah (zz0 (aa rfl) (ad ?_)))))
 refine ao rfl ?_ ?_ <;> intro h1 <;> try simp only [bs] at h1
 ·first | contradiction | (exfalso; omega) | simp_all
 refine bA (an (ah (zz0 (aa rfl) (ad ?_))))
 refine ao rfl ?_ ?_ <;> intro h2 <;> try simp only [bs] at h2
 ·first | contradiction | (exfalso; omega) | simp_all
 refine bA (an (ah (zz0 (aa rfl) (zz0 (aa rfl) (zz0 (iH rfl rfl) ?_)))))
 refine ad ?_
 refine ao rfl ?_ ?_ <;> intro h3 <;> try simp only [bs] at h3
 ·refine ah (zz0 (ab rfl) (ad (aC (aA ?_))))
  refine aO Tryz.results84 rfl (fun w' hw => ?_)
  exact ⟨by rw [vU, if_pos (by assumption)], hw.b0⟩
 refine bA (an (ah (zz0 (aa rfl) (zz0 (aa rfl) (zz0 (jY rfl rfl) ?_)))))
 refine ad ?_
 refine ao rfl ?_ ?_ <;> intro h4 <;> try simp only [bs] at h4
 ·refine ah (zz0 (ab rfl) (ad (aC (aA ?_))))
  refine aO Tryz.results84 rfl (fun w' hw => ?_)
  exact ⟨by rw [vU, if_neg (by assumption), if_pos (by assumption)], hw.b0⟩
 refine cT (zz0 (ab rfl) (ad (aC ?_)))
 refine aO Tryz.results84 rfl (fun w' hw => ?_)
 exact ⟨by rw [vU, if_neg (by assumption), if_neg (by assumption)], hw.b0⟩
theorem Ap (a : Int) (w : World) :
  Cr Tryz.prog 147 #[.int .i64 a] w (.bool false) := by
 refine enter Tryz.func147 rfl Tryz.ntmps147 rfl ?_
 refine ah (zz0 (ab rfl) (aM (zz0 (aa rfl) (zz0 (aa rfl) (zz0 (ff rfl rfl) (zz0 (ab rfl) (ad (aC ?_))))))))
 refine aO Tryz.results147 rfl (fun w' hw => ?_)
 exact ⟨by simp, hw.b0⟩
theorem GV (a b : Int) (w : World) :
  Cr Tryz.prog 80 #[.int .i64 a, .int .i64 b] w (.int .i64 (Cl a b)) := by
 refine enter Tryz.func80 rfl Tryz.ntmps80 rfl ?_
 refine ah (zz0 (ab rfl) (aM (zz0 (aa rfl) (zz0 (aD rfl Tryz.call147 (fun w hw => Ap a w)) ?_))))
 refine zz0 (ab rfl) (aM (zz0 (aa rfl) (zz0 (aD rfl Tryz.call147 (fun w hw => Ap b w)) ?_)))
 refine zz0 (ab rfl) (ad (an (ah (zz0 (aa rfl) (ad ?_)))))
 refine ao rfl ?_ ?_ <;> intro h1 <;> try simp only [bs] at h1
 ·first | contradiction | (exfalso; omega) | simp_all
 refine bA (an (ah (zz0 (aa rfl) (ad ?_))))
 refine ao rfl ?_ ?_ <;> intro h2 <;> try simp only [bs] at h2
 ·first | contradiction | (exfalso; omega) | simp_all
 refine bA (an (ah (zz0 (aa rfl) (zz0 (aa rfl) (zz0 (bT rfl rfl) (ad ?_))))))
 refine ao rfl ?_ ?_ <;> intro h3 <;> try simp only [bs] at h3
 ·refine ah (zz0 (ab rfl) (ad (aC (aA ?_))))
  refine aO Tryz.results80 rfl (fun w' hw => ?_)
  exact ⟨by rw [Cl, if_pos (by assumption)], hw.b0⟩
 refine bA (an (ah (zz0 (aa rfl) (zz0 (aa rfl) (zz0 (eo rfl rfl) (ad ?_))))))
 refine ao rfl ?_ ?_ <;> intro h4 <;> try simp only [bs] at h4
 ·refine ah (zz0 (ab rfl) (ad (aC (aA ?_))))
  refine aO Tryz.results80 rfl (fun w' hw => ?_)
  exact ⟨by rw [Cl, if_neg (by assumption), if_pos (by assumption)], hw.b0⟩
 refine cT (zz0 (ab rfl) (ad (aC ?_)))
 refine aO Tryz.results80 rfl (fun w' hw => ?_)
 exact ⟨by rw [Cl, if_neg (by assumption), if_neg (by assumption)], hw.b0⟩
theorem xB (l : List UInt32) (V : Value) (a : UInt32) (w : World) (hV : Sl (hp w) au l V) :
  Cr Tryz.prog 145 #[V, .int .u32 a.toNat] w (.int .i64 (ei (fun x => decide (a = x)) 0 l)) := by
 have hV' : Sl (Bg.of w).blk au l V := hV
 have hlen := hV.len_le
 refine enter Tryz.func145 rfl Tryz.ntmps145 rfl ?_
 refine ah (zz0 (ab rfl) (ad (an (ah (zz0 (aa rfl) (zz0 (gK rfl al) ?_))))))
 refine zz0 (aa rfl) (ad (aH ?_))
 refine bK (ι := Nat) (fun k => k ≤ l.length ∧ ei (fun x => decide (a = x)) k (l.drop k) = ei (fun x => decide (a = x)) 0 l) (fun _ => _) (fun k => []) (fun k => [(8, .int .i64 (k : Nat))]) (fun k => l.length - k) 0 ⟨Nat.zero_le _, rfl⟩ (Front.c Front.nil) (by repeat' constructor) rfl (fun k hi m hm => ?_)
 replace hi : k ≤ l.length ∧ ei (fun x => decide (a = x)) k (l.drop k) = ei (fun x => decide (a = x)) 0 l := hi
 replace hm : m = l.length - k := hm
 change Tr _ _ [] ([(8, .int .i64 (k : Nat))] ++ _) _
 obtain ⟨hk1, hk2⟩ := hi
 refine ah (zz0 (bT rfl rfl) (ad (an ?_)))
 refine ao rfl ?_ ?_ <;> intro h1 <;> try simp only [bs] at h1
 ·refine bA (an (aH (ah (zz0 (aa rfl) (zz0 (ab rfl) (aM (zz0 (aa rfl) (zz0 (aa rfl) ?_))))))))
  refine zz0 (aa rfl) (zz0 (hZ rfl rfl al ae) ?_)
  refine zz0 (jP rfl am) ?_
  refine zz0 (dO rfl rfl) ?_
  refine ad ?_
  refine ao rfl ?_ ?_ <;> intro h2 <;> try simp only [bs] at h2
  ·refine ah (zz0 (aa rfl) (zz0 (ab rfl) (ad (aC (bj (aA (aA (bj (aA ?_)))))))))
   refine aO Tryz.results145 rfl (fun w' hw => ?_)
   exact ⟨by rw [← hk2, drop_cons (k := k) (by omega), ei, if_pos (by simp_all)], hw.b0⟩
  refine cg (aY (ac (ar (zz0 (cE rfl rfl) ?_))))
  refine zz0 (aa rfl) (ad ?_)
  refine cF (k + 1) (Front.c Front.nil) (bD 12 rfl) (o := ⟨by omega, by rw [← hk2, drop_cons (k := k) (by omega), ei, if_neg (by simp_all)]⟩)
 refine bF (aI (aI (bv (ac (ah (zz0 (ab rfl) (ad (aC ?_))))))))
 refine aO Tryz.results145 rfl (fun w' hw => ?_)
 exact ⟨by rw [← hk2, List.drop_of_length_le (by omega)]; rfl, hw.b0⟩
theorem y9 (l : List UInt32) (V : Value) (a : UInt32) (w : World) (hV : Sl (hp w) au l V) :
  Cr Tryz.prog 76 #[V, .int .u32 a.toNat] w (.bool (JU l a)) := by
 have hV' : Sl (Bg.of w).blk au l V := hV
 have hlen := hV.len_le
 refine enter Tryz.func76 rfl Tryz.ntmps76 rfl ?_
 refine ah (zz0 (ab rfl) (aM (zz0 (aa rfl) (zz0 (aa rfl) (zz0 (aD rfl Tryz.call145 (fun w hw => xB l V a w (hw.slF hV'))) ?_)))))
 refine zz0 (d6 rfl rfl) (zz0 (ab rfl) (ad (aC ?_)))
 refine aO Tryz.results76 rfl (fun w' hw => ?_)
 exact ⟨by rw [rZ]; rfl, hw.b0⟩
theorem tA (l : List UInt32) (V : Value) (w : World) (hV : Sl (hp w) au l V) (hb : l.length ≤ 1000000) :
  Calls Tryz.prog 57 #[V] w (fun e w' => ∃ V', e = .returned V' ∧ Ext w w' ∧ iu w w' 23 au (l) V') := by
 have hV' : Sl (Bg.of w).blk au l V := hV
 refine enter Tryz.func57 rfl Tryz.ntmps57 rfl ?_
 refine ah (zz0 (ab rfl) (ad (an (ah (zz0 (aa rfl) (zz0 (ry rfl (by assumption) al) ?_))))))
 refine ad ?_
 refine ao rfl ?_ ?_ <;> intro h1 <;> try simp only [bs] at h1
 ·refine ah (zz0 (ab rfl) (ad (aC (aA ?_))))
  refine aO Tryz.results57 rfl (fun w' hw => ?_)
  exact ⟨_, rfl, hw.b0, dH (hV.isNil h1)⟩
 refine cT ?_
 refine zq au al ae rfl (fun V2 => ?_)
 refine zz0 (aa rfl) ?_
 refine DK rfl rfl (by repeat constructor) (fun w hw => hw.slF (by assumption)) al eN (fun V3 => ?_)
 refine zz0 (ab rfl) (ad (aC ?_))
 refine aO Tryz.results57 rfl (fun w' hw => ?_)
 exact ⟨_, rfl, hw.b0, hw.new (.head _)⟩
theorem xO (l : List Ins) (V : Value) (w : World) (hV : Sl (hp w) aT l V) (hb : l.length ≤ 1000000) :
  Calls Tryz.prog 77 #[V] w (fun e w' => ∃ V', e = .returned V' ∧ Ext w w' ∧ iu w w' 36 aT (l) V') := by
 have hV' : Sl (Bg.of w).blk aT l V := hV
 refine enter Tryz.func77 rfl Tryz.ntmps77 rfl ?_
 refine ah (zz0 (ab rfl) (ad (an (ah (zz0 (aa rfl) (zz0 (ry rfl (by assumption) aR) ?_))))))
 refine ad ?_
 refine ao rfl ?_ ?_ <;> intro h1 <;> try simp only [bs] at h1
 ·refine ah (zz0 (ab rfl) (ad (aC (aA ?_))))
  refine aO Tryz.results77 rfl (fun w' hw => ?_)
  exact ⟨_, rfl, hw.b0, dH (hV.isNil h1)⟩
 refine cT ?_
 refine zq aT aR ay rfl (fun V2 => ?_)
 refine zz0 (aa rfl) ?_
 refine DK rfl rfl (by repeat constructor) (fun w hw => hw.slF (by assumption)) aR kN (fun V3 => ?_)
 refine zz0 (ab rfl) (ad (aC ?_))
 refine aO Tryz.results77 rfl (fun w' hw => ?_)
 exact ⟨_, rfl, hw.b0, hw.new (.head _)⟩
theorem q7 (l : List Ins) (V : Value) (g : FuncId) (cb : List Value) (w : World) (hV : Sl (hp w) aT l V) (eg : ∀ args w, (callFunc g args).run Tryz.prog w = .ok (.enter g args) w) (p : Ins → Bool) (hp : ∀ x, x ∈ l → ∀ w', Ext w w' → Calls Tryz.prog g ([Value.agg (aT.enc x).toArray] ++ cb).toArray w' fun e w'' => e = .returned (.bool (p x)) ∧ Ext w' w'') :
  Cr Tryz.prog 152 #[V, .func (.func g) #[] cb.toArray] w (.int .i64 (ei p 0 l)) := by
 have hV' : Sl (Bg.of w).blk aT l V := hV
 have hlen := hV.len_le
 refine enter Tryz.func152 rfl Tryz.ntmps152 rfl ?_
 refine ah (zz0 (ab rfl) (ad (an (ah (zz0 (aa rfl) (zz0 (gK rfl aR) ?_))))))
 refine zz0 (aa rfl) (ad (aH ?_))
 refine bK (ι := Nat) (fun k => k ≤ l.length ∧ ei p k (l.drop k) = ei p 0 l) (fun _ => _) (fun k => []) (fun k => [(8, .int .i64 (k : Nat))]) (fun k => l.length - k) 0 ⟨Nat.zero_le _, rfl⟩ (Front.c Front.nil) (by repeat' constructor) rfl (fun k hi m hm => ?_)
 replace hi : k ≤ l.length ∧ ei p k (l.drop k) = ei p 0 l := hi
 replace hm : m = l.length - k := hm
 change Tr _ _ [] ([(8, .int .i64 (k : Nat))] ++ _) _
 obtain ⟨hk1, hk2⟩ := hi
 refine ah (zz0 (bT rfl rfl) (ad (an ?_)))
 refine ao rfl ?_ ?_ <;> intro h1 <;> try simp only [bs] at h1
 ·refine bA (an (aH (ah (zz0 (aa rfl) (zz0 (ab rfl) (aM (zz0 (aa rfl) (zz0 (aa rfl) ?_))))))))
  refine zz0 (aa rfl) (zz0 (hZ rfl rfl aR ay) ?_)
  refine zz0 (na rfl aS ay) ?_
  refine zz0 (iJ rfl rfl eg (fun w hw => hp _ (de (by omega)) w (hw.b0))) ?_
  refine ad ?_
  refine ao rfl ?_ ?_ <;> intro h2 <;> try simp only [bs] at h2
  ·refine ah (zz0 (aa rfl) (zz0 (ab rfl) (ad (aC (bj (aA (aA (bj (aA ?_)))))))))
   refine aO Tryz.results152 rfl (fun w' hw => ?_)
   exact ⟨by rw [← hk2, drop_cons (k := k) (by omega), ei, if_pos (by assumption)], hw.b0⟩
  refine cg (aY (ac (ar (zz0 (cE rfl rfl) ?_))))
  refine zz0 (aa rfl) (ad ?_)
  refine cF (k + 1) (Front.c Front.nil) (bD 12 rfl) (o := ⟨by omega, by rw [← hk2, drop_cons (k := k) (by omega), ei, if_neg (by simp_all)]⟩)
 refine bF (aI (aI (bv (ac (ah (zz0 (ab rfl) (ad (aC ?_))))))))
 refine aO Tryz.results152 rfl (fun w' hw => ?_)
 exact ⟨by rw [← hk2, List.drop_of_length_le (by omega)]; rfl, hw.b0⟩
theorem oc (l : List Ins) (V : Value) (g : FuncId) (cb : List Value) (w : World) (hV : Sl (hp w) aT l V) (eg : ∀ args w, (callFunc g args).run Tryz.prog w = .ok (.enter g args) w) (p : Ins → Bool) (hp : ∀ x, x ∈ l → ∀ w', Ext w w' → Calls Tryz.prog g ([Value.agg (aT.enc x).toArray] ++ cb).toArray w' fun e w'' => e = .returned (.bool (p x)) ∧ Ext w' w'') :
  Cr Tryz.prog 86 #[V, .func (.func g) #[] cb.toArray] w (.bool (l.any p)) := by
 have hV' : Sl (Bg.of w).blk aT l V := hV
 refine enter Tryz.func86 rfl Tryz.ntmps86 rfl ?_
 refine ah (zz0 (ab rfl) (aM (zz0 (aa rfl) (zz0 (aa rfl) (zz0 (aD rfl Tryz.call152 (fun w hw => q7 l V g cb w (hw.slF hV') eg p (fun x hx w'' h => hp x hx w'' ((hw.b0).trans h)))) ?_)))))
 refine zz0 (d6 rfl rfl) (zz0 (ab rfl) (ad (aC ?_)))
 refine aO Tryz.results86 rfl (fun w' hw => ?_)
 exact ⟨by rw [rZ], hw.b0⟩
theorem nN (a b : List UInt32) (V W : Value) (w : World) (hV : Sl (hp w) au a V) (hW : Sl (hp w) au b W) :
  Cr Tryz.prog 22 #[V, W] w (.bool (decide (a = b))) := by
 have hV' : Sl (Bg.of w).blk au a V := hV
 have hW' : Sl (Bg.of w).blk au b W := hW
 have hl1 := hV.len_le
 have hl2 := hW.len_le
 refine enter Tryz.func22 rfl Tryz.ntmps22 rfl ?_
 refine ah (zz0 (ab rfl) (ad (an (ah (zz0 (aa rfl) (zz0 (gK rfl al) ?_))))))
 refine zz0 (aa rfl) (zz0 (gK rfl al) ?_)
 refine zz0 (ff rfl rfl) (ad ?_)
 refine ao rfl ?_ ?_ <;> intro h1 <;> try simp only [bs] at h1
 ·refine ah (zz0 (ab rfl) (ad (aC (aA ?_))))
  refine aO Tryz.results22 rfl (fun w' hw => ?_)
  exact ⟨by rw [decide_eq_false (fun e => by subst e; omega)], hw.b0⟩
 refine bA (an (ah (zz0 (ab rfl) (ad (aH ?_)))))
 refine bK (ι := Nat) (fun k => k ≤ a.length ∧ a.take k = b.take k) (fun _ => _) (fun k => []) (fun k => [(5, .int .i64 (k : Nat))]) (fun k => a.length - k) 0 ⟨by omega, rfl⟩ (Front.c Front.nil) (by repeat' constructor) rfl (fun k hi m hm => ?_)
 replace hi : k ≤ a.length ∧ a.take k = b.take k := hi
 replace hm : m = a.length - k := hm
 change Tr _ _ [] ([(5, .int .i64 (k : Nat))] ++ _) _
 obtain ⟨hk1, hk3⟩ := hi
 refine an (ah (zz0 (aa rfl) (zz0 (aa rfl) (zz0 (gK rfl al) ?_))))
 refine zz0 (bT rfl rfl) (ad ?_)
 refine ao rfl ?_ ?_ <;> intro h2 <;> try simp only [bs] at h2
 ·refine bA (an (aH (an (g9 aU ?_))))
  refine aw (aa rfl) (aw (aa rfl) (aw (hZ rfl rfl al ae) ?_))
  refine aw (jP rfl am) ?_
  refine aw (aa rfl) (aw (aa rfl) (aw (hZ rfl rfl al ae) ?_))
  refine aw (jP rfl am) ?_
  refine aw (ij rfl rfl) ?_
  refine bI ?_
  refine ac ?_
  refine ao rfl ?_ ?_ <;> intro h3 <;> try simp only [bs] at h3
  ·refine ah (zz0 (ab rfl) (ad (aC (bj (aA (aA (bj (aA ?_))))))))
   refine aO Tryz.results22 rfl (fun w' hw => ?_)
   exact ⟨by rw [decide_eq_false (fun e => by subst e; simp_all)], hw.b0⟩
  refine cg (aY (ac (ar (zz0 (aa rfl) (zz0 (cE rfl rfl) ?_)))))
  refine zz0 (ab rfl) (ad ?_)
  refine cF (k + 1) (Front.c Front.nil) (bD 17 rfl) (o := ⟨by omega, by rw [dw (by omega), dw (by omega), hk3]; congr 2⟩)
 refine bF (aI (aI (bv (ac (ah (zz0 (ab rfl) (ad (aC ?_))))))))
 refine aO Tryz.results22 rfl (fun w' hw => ?_)
 exact ⟨by rw [decide_eq_true (show a = b by rw [← List.take_of_length_le (show a.length ≤ k by omega), hk3, List.take_of_length_le (by omega)])], hw.b0⟩
end Go.Proofs.YtiajjbhcpeadfaaGreat
namespace Go.HL
open Go
def eW : Enc (Int × Bool) := ⟨2, fun e => [.int .i64 e.1, .bool e.2], fun _ => rfl, fun x v h => by simp at h; rcases h with h | h <;> subst h <;> rfl⟩
def kc (l : List Ins) (st : List StV) (gd : List Int) (k : Nat) (e : Int × Bool) : StV :=
 if (l.getD k default).op = 23 ∨ (l.getD k default).op = 24 then zI
 else if (l.getD k default).op = 20 ∧ 0 ≤ gd.getD k default then rN (l.getD k default).cc (l.getD (gd.getD k default).toNat default) (st.getD k default) e.2
 else jn (l.getD k default) (st.getD k default)
def jz (l : List Ins) (st : List StV) (a : UInt32) : StV × Bool :=
 if ei (fun i : Ins => decide (i.addr = a)) 0 l < 0 ∨ (st.length : Int) ≤ ei (fun i : Ins => decide (i.addr = a)) 0 l then (gP, false)
 else (st.getD (ei (fun i : Ins => decide (i.addr = a)) 0 l).toNat default, true)
section
variable {P : Program} {N : Nat} {F : Bg} {L L' A : List Ent} {M : Fr} {X : Act → World → Prop}
theorem C7 {α : Type} {f : α → Ent} : ∀ (rs : List α) (i : Nat) (h : i < rs.length), (rs.map f).Perm (f rs[i] :: (rs.eraseIdx i).map f)
 | x :: t, 0, _ => .refl _
 | x :: t, i + 1, h => ((C7 t i (by simpa using h)).cons (f x)).trans (.swap _ _ _)
theorem Ak {α : Type} {f : α → Ent} (y : α) : ∀ (rs : List α) (i : Nat) (h : i < rs.length), (f y :: (rs.eraseIdx i).map f).Perm ((rs.set i y).map f)
 | x :: t, 0, _ => .refl _
 | x :: t, i + 1, h => (List.Perm.swap _ _ _).trans ((Ak y t i (by simpa using h)).cons (f x))
theorem Ee {α : Type} {f : α → Ent} {rs : List α} (i : Nat) (h : i < rs.length) : (A ++ (rs.map f ++ L)).Perm (f rs[i] :: (A ++ ((rs.eraseIdx i).map f ++ L))) :=
 (((C7 rs i h).append_right L).append_left A).trans List.perm_middle
theorem Ed {α : Type} {f : α → Ent} {rs : List α} (i : Nat) (y : α) (h : i < rs.length) : (f y :: (A ++ ((rs.eraseIdx i).map f ++ L))).Perm (A ++ ((rs.set i y).map f ++ L)) :=
 List.perm_middle.symm.trans (((Ak y rs i h).append_right L).append_left A)
theorem Iu {α : Type} {f : α → Ent} {rs : List α} (i : Nat) (h : i < rs.length) (K : Tr N F (f rs[i] :: (A ++ ((rs.eraseIdx i).map f ++ L))) M X) : Tr N F (A ++ (rs.map f ++ L)) M X :=
 fun a w ha hw => K a w ha (hw.perm (Ee i h).symm)
theorem zp {α : Type} {f : α → Ent} {rs : List α} (i : Nat) (y : α) (h : i < rs.length) (K : Tr N F (A ++ ((rs.set i y).map f ++ L)) M X) : Tr N F (f y :: (A ++ ((rs.eraseIdx i).map f ++ L))) M X :=
 fun a w ha hw => K a w ha (hw.perm (Ed i y h).symm)
theorem sA {α : Type} {T : TypeId} {E : Enc α} : ∀ (rs : List (Value × List α)) {F : Bg}, (∀ F', F.le F' → (∀ r ∈ rs, Sl F'.blk E r.2 r.1) → Tr N F' L M X) → Tr N F (rs.map (fun r => rowE r.1 T E r.2) ++ L) M X
  | [], F, K => K F (Bg.le.refl _) (fun r hr => absurd hr (by simp))
  | r :: t, F, K => kM (V := r.1) (T := T) (E := E) (l := r.2) (.here _) fun F1 h1 hs => sA t fun F2 h2 ht => K F2 (h1.trans h2) (fun x hx => by
      rcases List.mem_cons.1 hx with rfl | hx
      · exact hs.mono h2.blk
      · exact ht x hx)
end
end Go.HL
namespace Go.HL
open Go Go.RowKit
section
variable {P : Program}
inductive FieldsRS (P : Program) (d : Nat) (xs ys : Array Value) : List Field → List Bool → Prop
 | nil : FieldsRS P d xs ys [] []
 | cons {f : Field} {fs : List Field} {u v : Value} {b : Bool} {bs : List Bool} (hn : f.name ≠ "_") (hx : ∀ w, (part f.type xs f.offset).run P w = .ok u w) (hy : ∀ w, (part f.type ys f.offset).run P w = .ok v w)
   (he : ∀ w, (Op.equalIn d f.type u v).run P w = .ok b w) (h : FieldsRS P d xs ys fs bs) : FieldsRS P d xs ys (f :: fs) (b :: bs)
theorem pF {d : Nat} {xs ys : Array Value} (w : World) : ∀ {fs : List Field} {bs : List Bool}, FieldsRS P d xs ys fs bs → (Op.eqFields d xs ys fs).run P w = .ok (bs.all id) w
 | [], _, .nil => by simp [Op.eqFields]
 | f :: fs, _, .cons (b := b) (bs := bs) hn hx hy he h => by
  have ih := pF w h
  simp only [Op.eqFields, hn, ne_eq, not_false_eq_true, if_true, Sem.run_bind, List.all_cons, hx, hy, he, Result.andThen_ok]
  cases b
  ·simp
  ·simpa using ih
theorem vc {t : TypeId} {cs vs : List Value} {o k : Nat} (ha : ∀ w, (isAgg t).run P w = .ok true w) (hz : ∀ w, (sizeOf t).run P w = .ok k w) (hv : (cs.drop o).take k = vs) (w : World) : (part t cs.toArray o).run P w = .ok (.agg vs.toArray) w := by
 simp [part, ha, hz, hv]
theorem D3 {d : Nat} {t : TypeId} {fs : Array Field} (ht : P.underlying t = some (.struct fs)) (hw : WordFields P fs.toList [.bool, .bool, .int .u32, .int .u32, .int .u32]) (ho : fs.toList.map (·.offset) = [0, 1, 2, 3, 4])
  (hh : P.stoodInHeld t = false) (x y : VSet) (w : World) : (Op.equalIn (d + 1 + 1) t (.agg (bR.enc x).toArray) (.agg (bR.enc y).toArray)).run P w = .ok (decide (x = y)) w := by
 have hf : P.fieldsOf t = fs := by simp [Program.fieldsOf, ht]
 rw [run_equalIn_struct w _ t _ _ (by rw [hf]; exact ht) hh, hf]
 obtain ⟨h1, h2⟩ := pT x y
 rw [j5 _ _ _ w fs.toList _ hw (fun j f e hj he => h1 j f.offset e (by rw [← ho]; simp [hj]) he), ← h2, ← ho, List.all_map]
 rfl
theorem D4 {d k : Nat} {t e : TypeId} {xs ys : Array Value} (u v : Nat → Value) (b : Nat → Bool) (ht : P.underlying t = some (.array 8 e)) (hz : ∀ w, (sizeOf e).run P w = .ok k w)
  (hx : ∀ i, i < 8 → ∀ w, (part e xs (i * k)).run P w = .ok (u i) w) (hy : ∀ i, i < 8 → ∀ w, (part e ys (i * k)).run P w = .ok (v i) w) (he : ∀ i, i < 8 → ∀ w, (Op.equalIn (d + 1) e (u i) (v i)).run P w = .ok (b i) w) (w : World) :
  (Op.equalIn (d + 1 + 1) t (.agg xs) (.agg ys)).run P w = .ok (b 0 && b 1 && b 2 && b 3 && b 4 && b 5 && b 6 && b 7) w := by
 have x0 := hx 0 (by omega); have x1 := hx 1 (by omega); have x2 := hx 2 (by omega); have x3 := hx 3 (by omega); have x4 := hx 4 (by omega); have x5 := hx 5 (by omega); have x6 := hx 6 (by omega); have x7 := hx 7 (by omega)
 have y0 := hy 0 (by omega); have y1 := hy 1 (by omega); have y2 := hy 2 (by omega); have y3 := hy 3 (by omega); have y4 := hy 4 (by omega); have y5 := hy 5 (by omega); have y6 := hy 6 (by omega); have y7 := hy 7 (by omega)
 have e0 := he 0 (by omega); have e1 := he 1 (by omega); have e2 := he 2 (by omega); have e3 := he 3 (by omega); have e4 := he 4 (by omega); have e5 := he 5 (by omega); have e6 := he 6 (by omega); have e7 := he 7 (by omega)
 rw [Nat.zero_mul] at x0 y0; rw [Nat.one_mul] at x1 y1
 rw [Op.equalIn]
 simp only [Sem.run_bind, run_underlying ht, Result.andThen_ok, hz, Std.Legacy.Range.forIn_eq_forIn_range', Std.Legacy.Range.size]
 simp [List.range', x0, x1, x2, x3, x4, x5, x6, x7, y0, y1, y2, y3, y4, y5, y6, y7, e0, e1, e2, e3, e4, e5, e6, e7]
 generalize b 0 = c0; generalize b 1 = c1; generalize b 2 = c2; generalize b 3 = c3; generalize b 4 = c4; generalize b 5 = c5; generalize b 6 = c6; generalize b 7 = c7
 cases c0 <;> simp
 cases c1 <;> simp
 cases c2 <;> simp
 cases c3 <;> simp
 cases c4 <;> simp
 cases c5 <;> simp
 cases c6 <;> simp
 cases c7 <;> simp
theorem DZ (x y : StV) : (decide (x.r0 = y.r0) && decide (x.r1 = y.r1) && decide (x.r2 = y.r2) && decide (x.r3 = y.r3) && decide (x.r4 = y.r4) && decide (x.r5 = y.r5) && decide (x.r6 = y.r6) && decide (x.r7 = y.r7)) = decide (x = y) := by
 rw [Bool.eq_iff_iff]
 cases x; cases y
 simp only [Bool.and_eq_true, decide_eq_true_eq, StV.mk.injEq, and_assoc]
structure StTy (P : Program) (t : TypeId) : Prop where
 ex : ∃ (tr ts : TypeId) (f0 : Field) (fs : Array Field), P.underlying t = some (.struct #[f0]) ∧ f0.name ≠ "_" ∧ f0.type = tr ∧ f0.offset = 0 ∧ P.stoodInHeld t = false ∧ P.underlying tr = some (.array 8 ts) ∧ (∀ w, (isAgg tr).run P w = .ok true w) ∧ (∀ w, (sizeOf tr).run P w = .ok 40 w) ∧
  P.underlying ts = some (.struct fs) ∧ WordFields P fs.toList [.bool, .bool, .int .u32, .int .u32, .int .u32] ∧ fs.toList.map (·.offset) = [0, 1, 2, 3, 4] ∧ P.stoodInHeld ts = false ∧ (∀ w, (isAgg ts).run P w = .ok true w) ∧ (∀ w, (sizeOf ts).run P w = .ok 5 w)
theorem Aa {t : TypeId} (h : StTy P t) (x y : StV) (w : World) : (Op.equal t (.agg (cO.enc x).toArray) (.agg (cO.enc y).toArray)).run P w = .ok (decide (x = y)) w := by
 obtain ⟨tr, ts, f0, fs, ht, n0, y0, o0, hh, htr, hatr, hztr, hts, hwf, hof, hhs, hats, hzts⟩ := h.ex
 have hf : P.fieldsOf t = #[f0] := by simp [Program.fieldsOf, ht]
 subst y0
 unfold Op.equal
 show (Op.equalIn (9996 + 1 + 1 + 1 + 1) t _ _).run P w = _
 rw [run_equalIn_struct w _ t _ _ (by rw [hf]; exact ht) hh, hf]
 have hp : ∀ (z : StV) (i : Nat), i < 8 → ∀ w, (part ts (cO.enc z).toArray (i * 5)).run P w = .ok (.agg (bR.enc (z.getN i)).toArray) w := fun z i hi w =>
  vc hats hzts (by
   have := kF (s := z) (k := (i : Int)) ⟨by omega, by omega⟩ (o := i * 5) (by simp)
   rw [this]; rfl) w
 have hr := pF w (FieldsRS.cons (P := P) (d := 9996 + 1 + 1 + 1) (xs := (cO.enc x).toArray) (ys := (cO.enc y).toArray) (f := f0) (fs := []) n0
  (fun w => by rw [o0]; exact vc hatr hztr (vs := cO.enc x) rfl w) (fun w => by rw [o0]; exact vc hatr hztr (vs := cO.enc y) rfl w)
  (fun w => D4 (d := 9996 + 1) (fun i => .agg (bR.enc (x.getN i)).toArray) (fun i => .agg (bR.enc (y.getN i)).toArray) (fun i => decide (x.getN i = y.getN i)) htr hzts (hp x) (hp y) (fun i hi w => D3 hts hwf hof hhs _ _ w) w) .nil)
 refine hr.trans ?_
 rw [← DZ]
 simp only [List.all_cons, List.all_nil, id, Bool.and_true]
 rfl
end
section
variable {P : Program} {N : Nat} {F : Bg} {L : List Ent} {M : Fr} {dst : Option Tmp} {ty : TypeId} {pos : String} {after : Array Edge} {g : Option (Nat × Bool)}
theorem Hr {x y : Operand} {t u : TypeId} {p q : StV} (hx : opv M x = some (.agg (cO.enc p).toArray)) (hy : opv M y = some (.agg (cO.enc q).toArray)) (h : StTy P t) (hg : P.eqGuardType P.depth t = false) :
  QS P N F L M ⟨dst, .binOp .neq t x y u, ty, pos, after, g⟩ (.bool (decide (p ≠ q))) :=
 cK fun a w ha _ => by
  simp [execOp, ha.eval hx, ha.eval hy, m3 w hg, binOp, Aa h]
end
end Go.HL
namespace Go.Proofs.YtiajjbhcpeadfaaGreat
open Go Go.HL Go.RowKit
theorem zM (i : Ins) (w : World) (hI : InsOK i) :
  Calls Tryz.prog 224 #[.agg (aT.enc i).toArray] w (fun e w' => ∃ V', e = .returned V' ∧ Ext w w' ∧ iu w w' 23 au (dS i) V') := by
 refine enter Tryz.func224 rfl Tryz.ntmps224 rfl ?_
 refine ah ?_
 refine dq rfl rfl (fun b1 => ?_)
 refine zz0 (ab rfl) (ad (an (ah (zz0 (bC rfl aS ay) ?_))))
 refine zz0 (aD rfl kK (fun w hw => kD i w hI)) ?_
 refine zz0 (cp rfl) (ad ?_)
 refine ao rfl ?_ ?_ <;> intro h2 <;> try simp only [bs] at h2
 ·refine an (cn 23 au ?_)
  refine ar (zz0 (ab rfl) (ad (aC (aA ?_))))
  refine aO Tryz.results224 rfl (fun w' hw => ?_)
  exact ⟨_, rfl, hw.b0, by rw [show dS i = [] by unfold dS; rw [if_neg (by simp_all)]]; exact hw.new (.head _)⟩
 refine bA (an (cn 23 au ?_))
 refine ar (zz0 (ab rfl) (ad ?_))
 refine dj (ι := Value) (fun V1 => True) (fun _ => Bg.of w) (fun V1 => [rowE V1 23 au (if (dn i).2 = true then [(dn i).1] else []), cellE b1 (aT.enc i) 36]) (fun V1 => [(3, V1)]) ?_ (fun V1 hi => ?_)
 ·skip
  refine ah (zz0 (bC rfl aS ay) ?_)
  refine zz0 (aD rfl Tryz.call144 (fun w hw => rb i w)) ?_
  refine zz0 (aa rfl) (zz0 (aQ rfl rfl) (zz0 (aQ rfl rfl) (zz0 (ab rfl) (zz0 (ab rfl) (aM (zz0 (aa rfl) (ad ?_)))))))
  refine ao rfl ?_ ?_ <;> intro h3 <;> try simp only [bs] at h3
  ·refine ar (zz0 (aa rfl) (zz0 (aa rfl) ?_))
   refine jl (E := au) (dn i).1 rfl rfl al ae cX (fun V4 => ?_)
   refine zz1 rfl rfl al eN (fun V5 => ?_)
   refine zz0 (ab rfl) (ad (gV (l' := if (dn i).2 = true then [(dn i).1] else []) (by rw [if_pos (by assumption)]; rfl) ?_))
   refine cD _ (Front.c Front.nil) (bD 13 rfl) (o := trivial)
  refine bA (gV (l' := if (dn i).2 = true then [(dn i).1] else []) (by rw [if_neg (by simp_all)]) ?_)
  refine cD _ (Front.c Front.nil) (bD 8 rfl) (o := trivial)
 skip
 replace hi : True := hi
 change Tr _ _ [rowE V1 23 au (if (dn i).2 = true then [(dn i).1] else []), cellE b1 (aT.enc i) 36] ([(3, V1)] ++ _) _
 have htl : (if (dn i).2 = true then [(dn i).1] else []).length ≤ 1 := by split <;> simp
 refine dj (ι := Value) (fun V2 => True) (fun _ => Bg.of w) (fun V2 => [rowE V2 23 au ((if (dn i).2 = true then [(dn i).1] else []) ++ (if lN i = true then [] else [pG i])), cellE b1 (aT.enc i) 36]) (fun V2 => [(3, V2)]) ?_ (fun V2 hi => ?_)
 ·skip
  refine ah (zz0 (bC rfl aS ay) ?_)
  refine zz0 (aD rfl Tryz.call195 (fun w hw => AY i w)) ?_
  refine zz0 (cp rfl) (ad ?_)
  refine ao rfl ?_ ?_ <;> intro h6 <;> try simp only [bs] at h6
  ·refine ar (zz0 (aa rfl) (zz0 (bC rfl aS ay) ?_))
   refine zz0 (aD rfl Tryz.call60 (fun w hw => Ao i w hI)) ?_
   refine jl (E := au) (pG i) rfl rfl al ae cX (fun V7 => ?_)
   refine zz1 rfl rfl al eN (fun V8 => ?_)
   refine zz0 (ab rfl) (ad (gV (l' := (if (dn i).2 = true then [(dn i).1] else []) ++ (if lN i = true then [] else [pG i])) (by rw [if_neg (c := lN i = true) (by simp_all)]) ?_))
   refine cD _ (Front.c Front.nil) (bD 9 rfl) (o := trivial)
  refine bA (gV (l' := (if (dn i).2 = true then [(dn i).1] else []) ++ (if lN i = true then [] else [pG i])) (by rw [if_pos (c := lN i = true) (by simp_all), List.append_nil]) ?_)
  refine cD _ (Front.c Front.nil) (bD 3 rfl) (o := trivial)
 skip
 replace hi : True := hi
 change Tr _ _ [rowE V2 23 au ((if (dn i).2 = true then [(dn i).1] else []) ++ (if lN i = true then [] else [pG i])), cellE b1 (aT.enc i) 36] ([(3, V2)] ++ _) _
 refine ah (zz0 (aa rfl) (zz0 (ab rfl) (ad (aC ?_))))
 refine aO Tryz.results224 rfl (fun w' hw => ?_)
 exact ⟨_, rfl, hw.b0, by rw [show dS i = _ by unfold dS; rw [if_pos (by simp_all)]]; exact hw.new (.head _)⟩
theorem Bd (i : Ins) (a : UInt32) (b : Nat) (w : World) (hc : Cell (hp w) b 0 (.int .u32 a.toNat)) :
  Cr Tryz.prog 165 #[.agg (aT.enc i).toArray, .pointer (some ⟨b, 0, none⟩)] w (.bool (decide (i.addr = a))) := by
 have hc' : Cell (Bg.of w).blk b 0 (.int .u32 a.toNat) := hc
 refine enter Tryz.func165 rfl Tryz.ntmps165 rfl ?_
 refine ah ?_
 refine dq rfl rfl (fun b1 => ?_)
 refine zz0 (ab rfl) (aM (zz0 (zz2 (off := 0) (ft := 23) rfl af rfl ae) ?_))
 refine zz0 (aG rfl am) ?_
 refine zz0 (oh rfl (by assumption) am) ?_
 refine zz0 (dO rfl rfl) ?_
 refine zz0 (ab rfl) (ad (aC ?_))
 refine aO Tryz.results165 rfl (fun w' hw => ?_)
 exact ⟨rfl, hw.b0⟩
theorem Cq (l : List Ins) (st : List StV) (a : UInt32) (V VS : Value) (w : World) (hV : Sl (hp w) aT l V) (hS : Sl (hp w) cO st VS) :
  Cr Tryz.prog 109 #[V, VS, .int .u32 a.toNat] w (.tuple #[.agg (cO.enc (jz l st a).1).toArray, .bool (jz l st a).2]) := by
 have hV' : Sl (Bg.of w).blk aT l V := hV
 have hS' : Sl (Bg.of w).blk cO st VS := hS
 have hlS := hS'.len_le
 have hix := j8 (fun i : Ins => decide (i.addr = a)) l 0
 refine enter Tryz.func109 rfl Tryz.ntmps109 rfl ?_
 refine ah ?_
 refine dq rfl rfl (fun b1 => ?_)
 refine dB cU rfl (fun b2 => ?_)
 refine zz0 (ab rfl) (aM (zz0 (aa rfl) (zz0 (fF rfl rfl) ?_)))
 refine zz0 (aD rfl Tryz.call152 (fun w hw => q7 l V _ _ w (hw.slF hV') Tryz.call165 (fun i => decide (i.addr = a)) (fun x hx w'' h => Bd x a _ w'' (cellE.cell (hw.ent _ (by repeat constructor)) h rfl)))) ?_
 refine zz0 (ab rfl) (ad (an (ah (zz0 (aa rfl) (zz0 (bT rfl rfl) (zz0 (aa rfl) ?_))))))
 apply cw
 ·exact (rfl : _ = (5, 14, 19))
 ·exact rfl
 ·intro hF3; have hF3' := hF3
  try simp only [bs] at hF3'
  refine zz3 hF3 (aa rfl) (zz3 hF3 (aa rfl) (zz3 hF3 (gK rfl dW) ?_))
  refine zz3 hF3 (d6 rfl rfl) (zz0 (aL rfl hF3 rfl) ?_)
  refine ax (ac ?_)
  exact az (Sub.cons rfl (zz6 5 rfl))
 ·intro hT3
  refine zz4 hT3 (zz4 hT3 (zz4 hT3 (zz4 hT3 (zz0 (aK rfl hT3 rfl) ?_))))
  refine ax (ac ?_)
  exact az (Sub.cons rfl (zz6 5 rfl))
 refine ad ?_
 refine ao rfl ?_ ?_ <;> intro h4 <;> try simp only [bs] at h4
 ·refine ah (zz0 (bL (vs := []) rfl rfl (uj)) ?_)
  refine aF cO rfl rfl aV ?_
  refine zz0 (ab rfl) (ad (aC (aA ?_)))
  refine lA Tryz.results109 rfl rfl bY aV (fun w' hw => ?_)
  refine ⟨?_, hw.b0⟩
  unfold jz
  (repeat' split) <;> first | (exfalso; first | (simp_all; done) | grind) | rfl
 refine cT (zz0 (aa rfl) (zz0 (aa rfl) (zz0 (lO rfl rfl dW aV) ?_)))
 refine zz0 (na rfl bY aV) ?_
 refine aF cO rfl rfl aV ?_
 refine zz0 (ab rfl) (ad (aC ?_))
 refine lA Tryz.results109 rfl rfl bY aV (fun w' hw => ?_)
 refine ⟨?_, hw.b0⟩
 unfold jz
 (repeat' split) <;> first | (exfalso; first | (simp_all; done) | grind) | rfl
end Go.Proofs.YtiajjbhcpeadfaaGreat
namespace Go.Proofs.YtiajjbhcpeadfaaGreat
open Go Go.HL Go.RowKit
theorem xY (l : List Ins) (st : List StV) (gd : List Int) (bx bm : Nat) (VI VEd VG VB VV VM : Value) (k : Nat) (ee : Int × Bool) (w : World) (hx : CellsIn (hp w) bx [VI, .map (some bm), VEd, VG, VB, VV, VM]) (hI : Sl (hp w) aT l VI) (hG : Sl (hp w) bW gd VG) (hB : Sl (hp w) cO st VB) (hIO : ∀ x ∈ l, InsOK x) (hgl : gd.length = l.length) (hsl : st.length = l.length) (hgd : ∀ j, j < gd.length → gd.getD j default < (l.length : Int)) (hk : k < l.length) :
  Cr Tryz.prog 226 #[.pointer (some ⟨bx, 0, none⟩), .int .i64 (k : Nat), .agg (eW.enc ee).toArray] w (.agg (cO.enc (kc l st gd k ee)).toArray) := by
 have hx' : CellsIn (Bg.of w).blk bx [VI, .map (some bm), VEd, VG, VB, VV, VM] := hx
 have hI' : Sl (Bg.of w).blk aT l VI := hI
 have hG' : Sl (Bg.of w).blk bW gd VG := hG
 have hB' : Sl (Bg.of w).blk cO st VB := hB
 have hlI := hI'.len_le
 have hgk := hgd k (by omega)
 have hio := hIO _ (de hk)
 refine enter Tryz.func226 rfl Tryz.ntmps226 rfl ?_
 refine ah ?_
 refine dq rfl rfl (fun b1 => ?_)
 refine dB cU rfl (fun b2 => ?_)
 refine ad ?_
 refine dj (ι := Nat × Nat) (fun ⟨p, q⟩ => True) (fun _ => Bg.of w) (fun ⟨p, q⟩ => [cellE q (cO.enc (st.getD k default)) 37, cellE p (aT.enc (l.getD k default)) 36, cellE b2 (cO.enc gP) 37, cellE b1 (eW.enc ee) 274]) (fun ⟨p, q⟩ => [(8, .pointer (some ⟨q, 0, none⟩)), (7, .pointer (some ⟨p, 0, none⟩))]) ?_ (fun i hi => ?_)
 ·skip
  refine dZ ([cellE b2 (cO.enc gP) 37, cellE b1 (eW.enc ee) 274]) 18 rfl aU ?_
  refine zz7 0 rfl (aa rfl) ?_
  refine zz7 1 rfl (bB rfl) ?_
  refine zz7 2 rfl (zz2 (off := 0) (ft := 50) rfl bE rfl dy) ?_
  refine zz7 3 rfl (mj rfl dN) ?_
  refine zz7 4 rfl (aa rfl) ?_
  refine zz7 5 rfl (hZ rfl rfl aR ay) ?_
  refine zz7 6 rfl (na rfl aS ay) ?_
  refine zz7 7 rfl (aa rfl) ?_
  refine zz7 8 rfl (bB rfl) ?_
  refine zz7 9 rfl (zz2 (off := 4) (ft := 177) rfl bE rfl eQ) ?_
  refine zz7 10 rfl (mj rfl ig) ?_
  refine zz7 11 rfl (aa rfl) ?_
  refine zz7 12 rfl (hZ rfl rfl dW aV) ?_
  refine zz7 13 rfl (na rfl bY aV) ?_
  refine dA [14, 15] (fun iq hq => ?_)
  rcases List.mem_cons.1 hq with rfl | hq
  ·skip
   refine bJ rfl ?_
   refine dB bZ rfl (fun b3 => ?_)
   refine cj ?_
   refine dA [15] (fun iq hq => ?_)
   obtain rfl := List.mem_singleton.1 hq
   refine bJ rfl ?_
   refine dB cU rfl (fun b4 => ?_)
   refine cj ?_
   refine dA [16] (fun iq hq => ?_)
   obtain rfl := List.mem_singleton.1 hq
   refine bJ rfl ?_
   refine aF aT rfl rfl ay ?_
   refine cj ?_
   refine dA [17] (fun iq hq => ?_)
   obtain rfl := List.mem_singleton.1 hq
   refine bJ rfl ?_
   refine aF cO rfl rfl aV ?_
   refine cj ?_
   refine jg ?_
   refine ac ?_
   refine cD (_, _) (Front.c (Front.c Front.nil)) (bD 16 rfl) (o := trivial)
  obtain rfl := List.mem_singleton.1 hq
  refine bJ rfl ?_
  refine dB cU rfl (fun b5 => ?_)
  refine cj ?_
  refine dA [14] (fun iq hq => ?_)
  obtain rfl := List.mem_singleton.1 hq
  refine bJ rfl ?_
  refine dB bZ rfl (fun b6 => ?_)
  refine cj ?_
  refine dA [16] (fun iq hq => ?_)
  obtain rfl := List.mem_singleton.1 hq
  refine bJ rfl ?_
  refine aF aT rfl rfl ay ?_
  refine cj ?_
  refine dA [17] (fun iq hq => ?_)
  obtain rfl := List.mem_singleton.1 hq
  refine bJ rfl ?_
  refine aF cO rfl rfl aV ?_
  refine cj ?_
  refine jg ?_
  refine ac ?_
  refine cD (_, _) (Front.c (Front.c Front.nil)) (bD 16 rfl) (o := trivial)
 obtain ⟨p, q⟩ := i
 replace hi : True := hi
 change Tr _ _ [cellE q (cO.enc (st.getD k default)) 37, cellE p (aT.enc (l.getD k default)) 36, cellE b2 (cO.enc gP) 37, cellE b1 (eW.enc ee) 274] ([(8, .pointer (some ⟨q, 0, none⟩)), (7, .pointer (some ⟨p, 0, none⟩))] ++ _) _
 refine an (aH (ah (zz0 (zz2 (off := 2) (ft := 3) rfl af rfl aB) ?_)))
 refine zz0 (aG rfl aJ) ?_
 refine zz0 (bh rfl rfl) (zz0 (aa rfl) ?_)
 apply cw
 ·exact (rfl : _ = (4, 27, 31))
 ·exact rfl
 ·intro hF7; have hF7' := hF7
  try simp only [bs] at hF7'
  refine zz3 hF7 (zz2 (off := 2) (ft := 3) rfl af rfl aB) ?_
  refine zz3 hF7 (aG rfl aJ) ?_
  refine zz3 hF7 (bh rfl rfl) (zz0 (aL rfl hF7 rfl) ?_)
  refine ax (ac ?_)
  exact az (Sub.cons rfl (zz6 4 rfl))
 ·intro hT7
  refine zz4 hT7 (zz4 hT7 (zz4 hT7 (zz0 (aK rfl hT7 rfl) ?_)))
  refine ax (ac ?_)
  exact az (Sub.cons rfl (zz6 4 rfl))
 refine zz0 (ab rfl) (ad ?_)
 refine ao rfl ?_ ?_ <;> intro h8 <;> try simp only [bs] at h8
 ·refine ah (zz0 (aD rfl Tryz.call162 (fun w hw => pQ w)) ?_)
  refine aF cO rfl rfl aV ?_
  refine ad (aC (bj (aA ?_)))
  refine eM nw rfl bY aV (fun w' hw => ?_)
  refine ⟨?_, hw.b0⟩
  unfold kc
  (repeat' split) <;> first | (exfalso; first | (simp_all; done) | grind) | rfl
 refine ah (zz0 (zz2 (off := 2) (ft := 3) rfl af rfl aB) ?_)
 refine zz0 (aG rfl aJ) ?_
 refine zz0 (bh rfl rfl) (zz0 (aa rfl) ?_)
 apply bQ
 ·exact (rfl : _ = (9, 37, 46))
 ·exact rfl
 ·intro hT9; have hT9' := hT9
  try simp only [bs] at hT9'
  refine zz3 hT9 (aa rfl) (zz3 hT9 (bB rfl) ?_)
  refine zz3 hT9 (zz2 (off := 3) (ft := 224) rfl bE rfl eP) ?_
  refine zz3 hT9 (mj rfl gA) ?_
  refine zz3 hT9 (aa rfl) (zz3 hT9 (hZ rfl rfl cZ aB) ?_)
  refine zz3 hT9 (jP rfl aJ) ?_
  refine zz3 hT9 (d6 rfl rfl) (zz0 (aK rfl hT9 rfl) ?_)
  refine ax (ac ?_)
  exact az (Sub.cons rfl (zz6 9 rfl))
 ·intro hF9
  refine zz4 hF9 (zz4 hF9 (zz4 hF9 (zz4 hF9 (zz4 hF9 (zz4 hF9 (zz4 hF9 (zz4 hF9 (zz0 (aL rfl hF9 rfl) ?_))))))))
  refine ax (ac ?_)
  exact az (Sub.cons rfl (zz6 9 rfl))
 refine zz0 (ab rfl) (ad ?_)
 refine ao rfl ?_ ?_ <;> intro h10 <;> try simp only [bs] at h10
 ·refine an (fR 0 19 aU ?_)
  refine bH ?_
  refine aw (zz2 (off := 5) (ft := 3) rfl af rfl aB) ?_
  refine aw (aG rfl aJ) ?_
  refine aw (aa rfl) (aw (bB rfl) ?_)
  refine aw (zz2 (off := 0) (ft := 50) rfl bE rfl dy) ?_
  refine aw (mj rfl dN) ?_
  refine aw (aa rfl) (aw (bB rfl) ?_)
  refine aw (zz2 (off := 3) (ft := 224) rfl bE rfl eP) ?_
  refine aw (mj rfl gA) ?_
  refine aw (aa rfl) (aw (hZ rfl rfl cZ aB) ?_)
  refine aw (jP rfl aJ) ?_
  refine aw (lO rfl rfl aR ay) ?_
  refine aw (na rfl aS ay) ?_
  refine aw (bC rfl bY aV) ?_
  refine aw (zz2 (off := 1) (ft := 4) rfl iD rfl bN) ?_
  refine aw (aG rfl cm) ?_
  refine aw (aD rfl Tryz.call269 (fun w hw => BS (l.getD k default).cc (l.getD (gd.getD k default).toNat default) (st.getD k default) ee.2 w (hIO _ (de (by omega))))) ?_
  refine bI ?_
  refine aF cO rfl rfl aV ?_
  refine ad (aC (bj (aA ?_)))
  refine eM nw rfl bY aV (fun w' hw => ?_)
  refine ⟨?_, hw.b0⟩
  unfold kc
  (repeat' split) <;> first | (exfalso; first | (simp_all; done) | grind) | rfl
 refine cg (aY (ac (ah (zz0 (bC rfl aS ay) ?_))))
 refine zz0 (bC rfl bY aV) ?_
 refine zz0 (aD rfl Tryz.call270 (fun w hw => yl (l.getD k default) (st.getD k default) w hio)) ?_
 refine aF cO rfl rfl aV ?_
 refine ad (aC ?_)
 refine eM nw rfl bY aV (fun w' hw => ?_)
 refine ⟨?_, hw.b0⟩
 unfold kc
 (repeat' split) <;> first | (exfalso; first | (simp_all; done) | grind) | rfl
end Go.Proofs.YtiajjbhcpeadfaaGreat
namespace Go.HL
open Go
def cH : Enc Bool := ⟨1, fun x => [.bool x], fun _ => rfl, fun x v h => by simp at h; subst h; rfl⟩
structure RV (α : Type) where
 data : List α
 dp : Option Addr
 dc : Nat
instance {α : Type} : Inhabited (RV α) := ⟨⟨[], none, 0⟩⟩
def dI {α : Type} : Enc (RV α) := ⟨1, fun t => [.slice t.dp t.data.length t.dc], fun _ => rfl, fun x v h => by simp at h; subst h; rfl⟩
abbrev rvE {α : Type} (T : TypeId) (E : Enc α) (r : RV α) : Ent := rowE (.slice r.dp r.data.length r.dc) T E r.data
def RvIn {α : Type} (E : Enc α) (h : Hp) (l : List (RV α)) : Prop := ∀ t ∈ l, Sl h E t.data (.slice t.dp t.data.length t.dc)
theorem RvIn.mono {α : Type} {E : Enc α} {h h' : Hp} {l : List (RV α)} (d : RvIn E h l) (hh : Hp.le h h') : RvIn E h' l := fun s hs => (d s hs).mono hh
abbrev EdV := RV (Int × Bool)
abbrev gZ : Enc EdV := dI
abbrev J8 (h : Hp) (l : List EdV) : Prop := RvIn eW h l
structure VSt where
 st : List StV
 vs : List Int
 mb : List Bool
def pZ (l : List Ins) (gd : List Int) (k : Nat) (s : VSt) (e : Int × Bool) : StV :=
 if 4 ≤ s.vs.getD e.1.toNat default then wo (s.st.getD e.1.toNat default) (jk (s.st.getD e.1.toNat default) (kc l s.st gd k e) 8) 8
 else jk (s.st.getD e.1.toNat default) (kc l s.st gd k e) 8
def fq (l : List Ins) (gd : List Int) (k : Nat) (s : VSt) (e : Int × Bool) : VSt :=
 if pZ l gd k s e = s.st.getD e.1.toNat default then s else ⟨s.st.set e.1.toNat (pZ l gd k s e), s.vs, s.mb.set e.1.toNat true⟩
def iw (k : Nat) (s : VSt) : VSt := ⟨s.st, s.vs.set k (s.vs.getD k default + 1), s.mb.set k false⟩
def jM (l : List Ins) (gd : List Int) (es : List (Int × Bool)) (k : Nat) (s : VSt) : VSt := es.foldl (fq l gd k) (iw k s)
theorem BK (l : List Ins) (gd : List Int) (k : Nat) (s : VSt) (e : Int × Bool) : (fq l gd k s e).st.length = s.st.length ∧ (fq l gd k s e).vs = s.vs ∧ (fq l gd k s e).mb.length = s.mb.length := by
 unfold fq
 split
 ·exact ⟨rfl, rfl, rfl⟩
 ·exact ⟨List.length_set, rfl, List.length_set⟩
theorem oC (l : List Ins) (gd : List Int) (k : Nat) : ∀ (es : List (Int × Bool)) (s : VSt), (es.foldl (fq l gd k) s).st.length = s.st.length ∧ (es.foldl (fq l gd k) s).vs = s.vs ∧ (es.foldl (fq l gd k) s).mb.length = s.mb.length
 | [], s => ⟨rfl, rfl, rfl⟩
 | e :: t, s => by
  have h1 := oC l gd k t (fq l gd k s e)
  have h2 := BK l gd k s e
  exact ⟨h1.1.trans h2.1, h1.2.1.trans h2.2.1, h1.2.2.trans h2.2.2⟩
theorem qF {α β : Type} [Inhabited β] (f : α → β → α) (l : List β) (s : α) {k : Nat} (h : k < l.length) : (l.take (k + 1)).foldl f s = f ((l.take k).foldl f s) (l.getD k default) := by
 rw [dw h, List.foldl_append]; rfl
theorem Gu {l : List Ins} {gd : List Int} {k : Nat} {s : VSt} {es : List (Int × Bool)} {j : Nat} (h : j < es.length) {S : VSt} (hS : S = (es.take j).foldl (fq l gd k) s) (hn : pZ l gd k S (es.getD j default) ≠ S.st.getD (es.getD j default).1.toNat default) :
  (es.take (j + 1)).foldl (fq l gd k) s = ⟨S.st.set (es.getD j default).1.toNat (pZ l gd k S (es.getD j default)), S.vs, S.mb.set (es.getD j default).1.toNat true⟩ := by
 rw [qF _ _ _ h, ← hS]; unfold fq; rw [if_neg hn]
theorem H3 {l : List Ins} {gd : List Int} {k : Nat} {s : VSt} {es : List (Int × Bool)} {j : Nat} (h : j < es.length) {S : VSt} (hS : S = (es.take j).foldl (fq l gd k) s) (hn : pZ l gd k S (es.getD j default) = S.st.getD (es.getD j default).1.toNat default) :
  (es.take (j + 1)).foldl (fq l gd k) s = S := by
 rw [qF _ _ _ h, ← hS]; unfold fq; rw [if_pos hn]
end Go.HL
namespace Go.Proofs.YtiajjbhcpeadfaaGreat
open Go Go.HL Go.RowKit
theorem J4 : StTy Tryz.prog 37 :=
 ⟨⟨26, 25, _, _, cC, by decide, rfl, rfl, by kernel_rfl, cx, Tryz.isAgg26, dh, ak, lx _ ak, rfl, mN, aN, aj⟩⟩
theorem JY : Tryz.prog.eqGuardType Tryz.prog.depth 37 = false := by kernel_rfl
theorem DT (l : List Ins) (gd : List Int) (eds : List EdV) (s : VSt) (bx bm k : Nat) (VI VEd VG VB VV VM : Value) (w : World) (ho : OwnAt w [rowE VB 37 cO s.st, rowE VV 3 bW s.vs, rowE VM 4 cH s.mb]) (hx : CellsIn (Bg.lessB w (dm [rowE VB 37 cO s.st, rowE VV 3 bW s.vs, rowE VM 4 cH s.mb]) 0).blk bx [VI, .map (some bm), VEd, VG, VB, VV, VM]) (hI : Sl (Bg.lessB w (dm [rowE VB 37 cO s.st, rowE VV 3 bW s.vs, rowE VM 4 cH s.mb]) 0).blk aT l VI) (hG : Sl (Bg.lessB w (dm [rowE VB 37 cO s.st, rowE VV 3 bW s.vs, rowE VM 4 cH s.mb]) 0).blk bW gd VG) (hE : Sl (Bg.lessB w (dm [rowE VB 37 cO s.st, rowE VV 3 bW s.vs, rowE VM 4 cH s.mb]) 0).blk gZ eds VEd) (hEI : J8 (Bg.lessB w (dm [rowE VB 37 cO s.st, rowE VV 3 bW s.vs, rowE VM 4 cH s.mb]) 0).blk eds) (hIO : ∀ x ∈ l, InsOK x) (hgl : gd.length = l.length) (hsl : s.st.length = l.length) (hvl : s.vs.length = l.length) (hml : s.mb.length = l.length) (hel : eds.length = l.length) (hgd : ∀ j, j < gd.length → gd.getD j default < (l.length : Int)) (heb : ∀ e ∈ (eds.getD k default).data, 0 ≤ e.1 ∧ e.1 < (l.length : Int)) (hvb : ∀ v ∈ s.vs, 0 ≤ v ∧ v ≤ 1000000) (hk : k < l.length) :
  Calls Tryz.prog 164 #[.pointer (some ⟨bx, 0, none⟩), .int .i64 (k : Nat)] w (fun e w' => ∃ _ : Unit, e = .returned (.tuple #[]) ∧ Upd 0 w w' (dm [rowE VB 37 cO s.st, rowE VV 3 bW s.vs, rowE VM 4 cH s.mb]) [rowE VB 37 cO (jM l gd (eds.getD k default).data k s).st, rowE VV 3 bW (jM l gd (eds.getD k default).data k s).vs, rowE VM 4 cH (jM l gd (eds.getD k default).data k s).mb] ∧ True) := by
 have hvk := hvb _ (de (k := k) (by omega))
 have hEk := hEI _ (de (k := k) (by omega))
 have hlI := hI.len_le
 have hEl := hEk.len_le
 refine rk (L := [rowE VB 37 cO s.st, rowE VV 3 bW s.vs, rowE VM 4 cH s.mb]) ho rfl (Nat.zero_le _) Tryz.func164 rfl Tryz.ntmps164 rfl ?_
 refine ah (zz0 (aa rfl) (zz0 (bB rfl) ?_))
 refine zz0 (zz2 (off := 6) (ft := 225) rfl bE rfl l6) ?_
 refine zz0 (mj rfl m5) ?_
 refine zz0 (aa rfl) (zz0 (zz9 rfl rfl eK bN) ?_)
 refine gw (l := s.mb) (i := k) (false) rfl rfl bN ?_
 have hls1 : (List.set s.mb (k) (false)).length = (s.mb).length := List.length_set
 refine aM (zz0 (aa rfl) (zz0 (bB rfl) ?_))
 refine zz0 (zz2 (off := 5) (ft := 224) rfl bE rfl eP) ?_
 refine zz0 (mj rfl gA) ?_
 refine zz0 (aa rfl) (zz0 (zz9 rfl rfl cZ aB) ?_)
 refine zz0 (eh rfl aJ) ?_
 refine zz0 (cE rfl rfl) ?_
 refine zz0 (zz9 rfl rfl cZ aB) ?_
 refine gw (l := s.vs) (i := k) ((s.vs.getD k default + 1)) rfl rfl aB ?_
 have hls2 : (List.set s.vs (k) ((s.vs.getD k default + 1))).length = (s.vs).length := List.length_set
 refine aM (zz0 (aa rfl) (zz0 (bB rfl) ?_))
 refine zz0 (zz2 (off := 2) (ft := 226) rfl bE rfl kt) ?_
 refine zz0 (mj rfl Tryz.isAgg226) ?_
 refine zz0 (aa rfl) (zz0 (hZ rfl rfl iE jC) ?_)
 refine zz0 (jP rfl Tryz.isAgg272) ?_
 refine zz0 (gK rfl gC) ?_
 refine zz0 (aa rfl) (ad (aH ?_))
 change Tr _ _ [rowE VB 37 cO (((eds.getD k default).data.take 0).foldl (fq l gd k) (iw k s)).st, rowE VV 3 bW (((eds.getD k default).data.take 0).foldl (fq l gd k) (iw k s)).vs, rowE VM 4 cH (((eds.getD k default).data.take 0).foldl (fq l gd k) (iw k s)).mb] _ _
 refine bK (ι := Nat) (fun j => j ≤ (eds.getD k default).data.length) (fun _ => (Bg.lessB w (dm [rowE VB 37 cO s.st, rowE VV 3 bW s.vs, rowE VM 4 cH s.mb]) 0)) (fun j => [rowE VB 37 cO (((eds.getD k default).data.take j).foldl (fq l gd k) (iw k s)).st, rowE VV 3 bW (((eds.getD k default).data.take j).foldl (fq l gd k) (iw k s)).vs, rowE VM 4 cH (((eds.getD k default).data.take j).foldl (fq l gd k) (iw k s)).mb]) (fun j => [(32, .int .i64 (j : Nat))]) (fun j => (eds.getD k default).data.length - j) 0 (Nat.zero_le _) (Front.c Front.nil) (by repeat' constructor) rfl (fun j hi m hm => ?_)
 replace hi : j ≤ (eds.getD k default).data.length := hi
 replace hm : m = (eds.getD k default).data.length - j := hm
 change Tr _ _ [rowE VB 37 cO (((eds.getD k default).data.take j).foldl (fq l gd k) (iw k s)).st, rowE VV 3 bW (((eds.getD k default).data.take j).foldl (fq l gd k) (iw k s)).vs, rowE VM 4 cH (((eds.getD k default).data.take j).foldl (fq l gd k) (iw k s)).mb] ([(32, .int .i64 (j : Nat))] ++ _) _
 obtain ⟨S, hS⟩ : ∃ S, S = (((eds.getD k default).data.take j).foldl (fq l gd k) (iw k s)) := ⟨_, rfl⟩
 rw [← hS]
 have hvf := oC l gd k ((eds.getD k default).data.take j) (iw k s)
 rw [← hS] at hvf
 have hSt : S.st.length = l.length := hvf.1.trans hsl
 have hSm : S.mb.length = l.length := hvf.2.2.trans (List.length_set.trans hml)
 have hSv : S.vs.length = l.length := (congrArg List.length hvf.2.1).trans (List.length_set.trans hvl)
 refine ah (zz0 (bT rfl rfl) (ad (an ?_)))
 refine ao rfl ?_ ?_ <;> intro h3 <;> try simp only [bs] at h3
 ·refine bA (an (aH (an ?_)))
  have hej := heb _ (de (k := j) (by omega))
  refine ar (zz0 (hZ rfl rfl gC jB) ?_)
  refine zz0 (na rfl Tryz.isAgg274 jB) ?_
  refine dB lI rfl (fun b4 => ?_)
  refine aF eW rfl rfl jB ?_
  refine ad ?_
  refine dj (ι := Nat) (fun bo => True) (fun _ => (Bg.lessB w (dm [rowE VB 37 cO s.st, rowE VV 3 bW s.vs, rowE VM 4 cH s.mb]) 0)) (fun bo => [cellE bo (cO.enc (S.st.getD ((eds.getD k default).data.getD j default).1.toNat default)) 37, cellE b4 (eW.enc ((eds.getD k default).data.getD j default)) 274, rowE VB 37 cO S.st, rowE VV 3 bW S.vs, rowE VM 4 cH S.mb]) (fun bo => [(6, .pointer (some ⟨bo, 0, none⟩))]) ?_ (fun bo hi => ?_)
  ·skip
   refine dZ ([cellE b4 (eW.enc ((eds.getD k default).data.getD j default)) 274, rowE VB 37 cO S.st, rowE VV 3 bW S.vs, rowE VM 4 cH S.mb]) 10 rfl aU ?_
   refine zz7 0 rfl (aa rfl) ?_
   refine zz7 1 rfl (bB rfl) ?_
   refine zz7 2 rfl (zz2 (off := 4) (ft := 177) rfl bE rfl eQ) ?_
   refine zz7 3 rfl (mj rfl ig) ?_
   refine zz7 4 rfl (zz2 (off := 0) (ft := 3) rfl iD rfl aB) ?_
   refine zz7 5 rfl (aG rfl aJ) ?_
   refine zz7 6 rfl (jL rfl rfl dW aV) ?_
   refine zz7 7 rfl (nc rfl bY aV) ?_
   refine dA [8] (fun iq hq => ?_)
   obtain rfl := List.mem_singleton.1 hq
   refine bJ rfl ?_
   refine dB cU rfl (fun b5 => ?_)
   refine cj ?_
   refine dA [9] (fun iq hq => ?_)
   obtain rfl := List.mem_singleton.1 hq
   refine bJ rfl ?_
   refine aF cO rfl rfl aV ?_
   refine cj ?_
   refine jg ?_
   refine ac ?_
   refine cD _ (Front.c Front.nil) (bD 9 rfl) (o := trivial)
  skip
  replace hi : True := hi
  change Tr _ _ [cellE bo (cO.enc (S.st.getD ((eds.getD k default).data.getD j default).1.toNat default)) 37, cellE b4 (eW.enc ((eds.getD k default).data.getD j default)) 274, rowE VB 37 cO S.st, rowE VV 3 bW S.vs, rowE VM 4 cH S.mb] ([(6, .pointer (some ⟨bo, 0, none⟩))] ++ _) _
  refine dj (ι := Nat) (fun bn => True) (fun _ => (Bg.lessB w (dm [rowE VB 37 cO s.st, rowE VV 3 bW s.vs, rowE VM 4 cH s.mb]) 0)) (fun bn => [cellE bn (cO.enc (jk (S.st.getD ((eds.getD k default).data.getD j default).1.toNat default) (kc l S.st gd k ((eds.getD k default).data.getD j default)) 8)) 37, cellE bo (cO.enc (S.st.getD ((eds.getD k default).data.getD j default).1.toNat default)) 37, cellE b4 (eW.enc ((eds.getD k default).data.getD j default)) 274, rowE VB 37 cO S.st, rowE VV 3 bW S.vs, rowE VM 4 cH S.mb]) (fun bn => [(7, .pointer (some ⟨bn, 0, none⟩))]) ?_ (fun bn hi => ?_)
  ·skip
   refine dZ ([cellE bo (cO.enc (S.st.getD ((eds.getD k default).data.getD j default).1.toNat default)) 37, cellE b4 (eW.enc ((eds.getD k default).data.getD j default)) 274, rowE VB 37 cO S.st, rowE VV 3 bW S.vs, rowE VM 4 cH S.mb]) 8 rfl aU ?_
   refine zz7 0 rfl (bC rfl bY aV) ?_
   refine zz7 1 rfl (aa rfl) ?_
   refine zz7 2 rfl (aa rfl) ?_
   refine zz7 3 rfl (bC rfl Tryz.isAgg274 jB) ?_
   refine dA [4, 6] (fun iq hq => ?_)
   rcases List.mem_cons.1 hq with rfl | hq
   ·skip
    refine bJ rfl ?_
    refine zz0 (aD rfl Tryz.call226 (fun w hw => xY l _ gd bx bm VI VEd VG VB VV VM k _ w (hx.mono hw.bg) (hw.slF hI) (hw.slF hG) (hw.row (by repeat constructor)) hIO hgl (by omega) hgd hk)) ?_
    refine cj ?_
    refine dA [5, 6] (fun iq hq => ?_)
    rcases List.mem_cons.1 hq with rfl | hq
    ·skip
     refine bJ rfl ?_
     refine zz0 (aD rfl pn (fun w hw => oQ _ _ w)) ?_
     refine cj ?_
     refine dA [6] (fun iq hq => ?_)
     obtain rfl := List.mem_singleton.1 hq
     refine bJ rfl ?_
     refine dB cU rfl (fun b6 => ?_)
     refine cj ?_
     refine dA [7] (fun iq hq => ?_)
     obtain rfl := List.mem_singleton.1 hq
     refine bJ rfl ?_
     refine aF cO rfl rfl aV ?_
     refine cj ?_
     refine jg ?_
     refine ac ?_
     refine cD _ (Front.c Front.nil) (bD 7 rfl) (o := trivial)
    obtain rfl := List.mem_singleton.1 hq
    refine bJ rfl ?_
    refine dB cU rfl (fun b7 => ?_)
    refine cj ?_
    refine dA [5] (fun iq hq => ?_)
    obtain rfl := List.mem_singleton.1 hq
    refine bJ rfl ?_
    refine zz0 (aD rfl pn (fun w hw => oQ _ _ w)) ?_
    refine cj ?_
    refine dA [7] (fun iq hq => ?_)
    obtain rfl := List.mem_singleton.1 hq
    refine bJ rfl ?_
    refine aF cO rfl rfl aV ?_
    refine cj ?_
    refine jg ?_
    refine ac ?_
    refine cD _ (Front.c Front.nil) (bD 7 rfl) (o := trivial)
   obtain rfl := List.mem_singleton.1 hq
   refine bJ rfl ?_
   refine dB cU rfl (fun b8 => ?_)
   refine cj ?_
   refine dA [4] (fun iq hq => ?_)
   obtain rfl := List.mem_singleton.1 hq
   refine bJ rfl ?_
   refine zz0 (aD rfl Tryz.call226 (fun w hw => xY l _ gd bx bm VI VEd VG VB VV VM k _ w (hx.mono hw.bg) (hw.slF hI) (hw.slF hG) (hw.row (by repeat constructor)) hIO hgl (by omega) hgd hk)) ?_
   refine cj ?_
   refine dA [5] (fun iq hq => ?_)
   obtain rfl := List.mem_singleton.1 hq
   refine bJ rfl ?_
   refine zz0 (aD rfl pn (fun w hw => oQ _ _ w)) ?_
   refine cj ?_
   refine dA [7] (fun iq hq => ?_)
   obtain rfl := List.mem_singleton.1 hq
   refine bJ rfl ?_
   refine aF cO rfl rfl aV ?_
   refine cj ?_
   refine jg ?_
   refine ac ?_
   refine cD _ (Front.c Front.nil) (bD 7 rfl) (o := trivial)
  skip
  replace hi : True := hi
  change Tr _ _ [cellE bn (cO.enc (jk (S.st.getD ((eds.getD k default).data.getD j default).1.toNat default) (kc l S.st gd k ((eds.getD k default).data.getD j default)) 8)) 37, cellE bo (cO.enc (S.st.getD ((eds.getD k default).data.getD j default).1.toNat default)) 37, cellE b4 (eW.enc ((eds.getD k default).data.getD j default)) 274, rowE VB 37 cO S.st, rowE VV 3 bW S.vs, rowE VM 4 cH S.mb] ([(7, .pointer (some ⟨bn, 0, none⟩))] ++ _) _
  refine dj (ι := StV) (fun x1 => x1 = pZ l gd k S ((eds.getD k default).data.getD j default)) (fun _ => (Bg.lessB w (dm [rowE VB 37 cO s.st, rowE VV 3 bW s.vs, rowE VM 4 cH s.mb]) 0)) (fun x1 => [cellE bn (cO.enc x1) 37, cellE bo (cO.enc (S.st.getD ((eds.getD k default).data.getD j default).1.toNat default)) 37, cellE b4 (eW.enc ((eds.getD k default).data.getD j default)) 274, rowE VB 37 cO S.st, rowE VV 3 bW S.vs, rowE VM 4 cH S.mb]) (fun x1 => []) ?_ (fun x1 hi => ?_)
  ·skip
   refine an (g9 aU ?_)
   refine aw (aa rfl) (aw (bB rfl) ?_)
   refine aw (zz2 (off := 5) (ft := 224) rfl bE rfl eP) ?_
   refine aw (mj rfl gA) ?_
   refine aw (zz2 (off := 0) (ft := 3) rfl iD rfl aB) ?_
   refine aw (aG rfl aJ) ?_
   refine aw (jL rfl rfl cZ aB) ?_
   refine aw (eh rfl aJ) ?_
   refine aw (d6 rfl rfl) (bI ?_)
   refine ac ?_
   refine ao rfl ?_ ?_ <;> intro h9 <;> try simp only [bs] at h9
   ·refine ah (zz0 (aa rfl) (ad (aH ?_)))
    refine bK (ι := Nat) (fun r => r ≤ 8) (fun _ => (Bg.lessB w (dm [rowE VB 37 cO s.st, rowE VV 3 bW s.vs, rowE VM 4 cH s.mb]) 0)) (fun r => [cellE bn (cO.enc (wo (S.st.getD ((eds.getD k default).data.getD j default).1.toNat default) (jk (S.st.getD ((eds.getD k default).data.getD j default).1.toNat default) (kc l S.st gd k ((eds.getD k default).data.getD j default)) 8) r)) 37, cellE bo (cO.enc (S.st.getD ((eds.getD k default).data.getD j default).1.toNat default)) 37, cellE b4 (eW.enc ((eds.getD k default).data.getD j default)) 274, rowE VB 37 cO S.st, rowE VV 3 bW S.vs, rowE VM 4 cH S.mb]) (fun r => [(59, .int .i64 (r : Nat))]) (fun r => 8 - r) 0 (Nat.zero_le _) (Front.c Front.nil) (by repeat' constructor) rfl (fun r hi m hm => ?_)
    replace hi : r ≤ 8 := hi
    replace hm : m = 8 - r := hm
    change Tr _ _ [cellE bn (cO.enc (wo (S.st.getD ((eds.getD k default).data.getD j default).1.toNat default) (jk (S.st.getD ((eds.getD k default).data.getD j default).1.toNat default) (kc l S.st gd k ((eds.getD k default).data.getD j default)) 8) r)) 37, cellE bo (cO.enc (S.st.getD ((eds.getD k default).data.getD j default).1.toNat default)) 37, cellE b4 (eW.enc ((eds.getD k default).data.getD j default)) 274, rowE VB 37 cO S.st, rowE VV 3 bW S.vs, rowE VM 4 cH S.mb] ([(59, .int .i64 (r : Nat))] ++ _) _
    have hgr := zH (S.st.getD ((eds.getD k default).data.getD j default).1.toNat default) (jk (S.st.getD ((eds.getD k default).data.getD j default).1.toNat default) (kc l S.st gd k ((eds.getD k default).data.getD j default)) 8) r hi r (Nat.le_refl _)
    refine ah (zz0 (bT rfl rfl) (ad (an ?_)))
    refine ao rfl ?_ ?_ <;> intro h10 <;> try simp only [bs] at h10
    ·refine bA (an (aH (ah (zz0 (aa rfl) (zz0 (ab rfl) (ad (fR 0 12 aU ?_)))))))
     refine bH ?_
     refine aw (aa rfl) (aw (aa rfl) (aw (zz2 (off := 0) (ft := 26) rfl cC rfl dh) ?_))
     refine aw (dK rfl rfl cx aj (by omega)) ?_
     refine aw (gn (vs := bR.enc ((S.st.getD ((eds.getD k default).data.getD j default).1.toNat default).get (r : Int))) rfl (by repeat constructor) aN aj (kF ⟨by omega, by omega⟩ (by simp)) rfl) ?_
     refine aw (aa rfl) (aw (zz2 (off := 0) (ft := 26) rfl cC rfl dh) ?_)
     refine aw (dK rfl rfl cx aj (by omega)) ?_
     refine aw (gn (vs := bR.enc ((wo (S.st.getD ((eds.getD k default).data.getD j default).1.toNat default) (jk (S.st.getD ((eds.getD k default).data.getD j default).1.toNat default) (kc l S.st gd k ((eds.getD k default).data.getD j default)) 8) r).get (r : Int))) rfl (by repeat constructor) aN aj (kF ⟨by omega, by omega⟩ (by simp)) rfl) ?_
     refine aw (aD rfl Tryz.call227 (fun w hw => E2 _ _ w)) ?_
     refine aw (zz2 (off := 0) (ft := 26) rfl cC rfl dh) ?_
     refine aw (dK rfl rfl cx aj (by omega)) ?_
     refine bI ?_
     refine gm rfl rfl aj (by repeat constructor) ((lC (s := wo (S.st.getD ((eds.getD k default).data.getD j default).1.toNat default) (jk (S.st.getD ((eds.getD k default).data.getD j default).1.toNat default) (kc l S.st gd k ((eds.getD k default).data.getD j default)) 8) r) (k := (r : Int)) ⟨by omega, by omega⟩ (by simp) (mm ((S.st.getD ((eds.getD k default).data.getD j default).1.toNat default).get (r : Int)) ((wo (S.st.getD ((eds.getD k default).data.getD j default).1.toNat default) (jk (S.st.getD ((eds.getD k default).data.getD j default).1.toNat default) (kc l S.st gd k ((eds.getD k default).data.getD j default)) 8) r).get (r : Int)))).trans (congrArg cO.enc (show _ = wo (S.st.getD ((eds.getD k default).data.getD j default).1.toNat default) (jk (S.st.getD ((eds.getD k default).data.getD j default).1.toNat default) (kc l S.st gd k ((eds.getD k default).data.getD j default)) 8) (r + 1) by rw [hgr (by omega)]; rfl))) (by rfl) (lD (k := (r : Int)) ⟨by omega, by omega⟩ (by simp)) (by first | exact Enc.one bR _ | exact List.all_eq_true.1 rfl) rfl ?_
     refine ax (aY (ac (ar (zz0 (cE rfl rfl) ?_))))
     refine zz0 (aa rfl) (ad ?_)
     refine cF (r + 1) (Front.c Front.nil) (bD 18 rfl) (o := (by show r + 1 ≤ _; omega))
    refine bF (aI (aI (bv (ac ?_))))
    refine cD _ Front.nil (bD 12 rfl) (o := (by show _ = _; unfold pZ; rw [if_pos (by assumption), show r = 8 by omega]))
   refine bA ?_
   refine cD _ Front.nil (bD 9 rfl) (o := (by show _ = _; unfold pZ; rw [if_neg (by assumption)]))
  skip
  replace hi : x1 = pZ l gd k S ((eds.getD k default).data.getD j default) := hi
  change Tr _ _ [cellE bn (cO.enc x1) 37, cellE bo (cO.enc (S.st.getD ((eds.getD k default).data.getD j default).1.toNat default)) 37, cellE b4 (eW.enc ((eds.getD k default).data.getD j default)) 274, rowE VB 37 cO S.st, rowE VV 3 bW S.vs, rowE VM 4 cH S.mb] ([] ++ _) _
  have hx1 := hi
  refine ah (zz0 (bC rfl bY aV) ?_)
  refine zz0 (bC rfl bY aV) ?_
  refine zz0 (Hr rfl rfl J4 JY) ?_
  refine ad ?_
  refine ao rfl ?_ ?_ <;> intro h11 <;> try simp only [bs] at h11
  ·refine an (fR 0 8 aU ?_)
   refine bH ?_
   refine aw (aa rfl) (aw (bB rfl) ?_)
   refine aw (zz2 (off := 4) (ft := 177) rfl bE rfl eQ) ?_
   refine aw (mj rfl ig) ?_
   refine aw (zz2 (off := 0) (ft := 3) rfl iD rfl aB) ?_
   refine aw (aG rfl aJ) ?_
   refine aw (bC rfl bY aV) ?_
   refine aw (jL rfl rfl dW aV) ?_
   refine bI ?_
   refine gw (l := S.st) (i := ((eds.getD k default).data.getD j default).1.toNat) (x1) rfl rfl aV ?_
   have hls12 : (List.set S.st (((eds.getD k default).data.getD j default).1.toNat) (x1)).length = (S.st).length := List.length_set
   refine ad (fR 0 7 aU ?_)
   refine bH ?_
   refine aw (aa rfl) (aw (bB rfl) ?_)
   refine aw (zz2 (off := 6) (ft := 225) rfl bE rfl l6) ?_
   refine aw (mj rfl m5) ?_
   refine aw (zz2 (off := 0) (ft := 3) rfl iD rfl aB) ?_
   refine aw (aG rfl aJ) ?_
   refine aw (jL rfl rfl eK bN) ?_
   refine bI ?_
   refine gw (l := S.mb) (i := ((eds.getD k default).data.getD j default).1.toNat) (true) rfl rfl bN ?_
   have hls13 : (List.set S.mb (((eds.getD k default).data.getD j default).1.toNat) (true)).length = (S.mb).length := List.length_set
   refine ax (aY (ac (ar (zz0 (cE rfl rfl) ?_))))
   refine zz0 (aa rfl) (ad ?_)
   have hne : pZ l gd k S ((eds.getD k default).data.getD j default) ≠ (S.st.getD ((eds.getD k default).data.getD j default).1.toNat default) := by rw [← hx1]; assumption
   have hfy := Gu (by omega) hS hne
   rw [← hx1] at hfy
   apply iG (j + 1)
   ·exact rfl
   ·exact (Front.c Front.nil)
   ·exact bD 27 rfl
   ·exact (by show Pick _ [rowE VB 37 cO (((eds.getD k default).data.take (j + 1)).foldl (fq l gd k) (iw k s)).st, rowE VV 3 bW (((eds.getD k default).data.take (j + 1)).foldl (fq l gd k) (iw k s)).vs, rowE VM 4 cH (((eds.getD k default).data.take (j + 1)).foldl (fq l gd k) (iw k s)).mb]; rw [hfy]; repeat' (first | exact Pick.nil _ | exact Del.here _ | apply Pick.cons | apply Del.there))
   ·exact (by show j + 1 ≤ _; omega)
   exact (by (try dsimp only); omega)
  refine cg (aY (ac (ar (zz0 (cE rfl rfl) ?_))))
  refine zz0 (aa rfl) (ad ?_)
  have hne : pZ l gd k S ((eds.getD k default).data.getD j default) = (S.st.getD ((eds.getD k default).data.getD j default).1.toNat default) := by rw [← hx1]; assumption
  have hfn := H3 (by omega) hS hne
  apply iG (j + 1)
  ·exact rfl
  ·exact (Front.c Front.nil)
  ·exact bD 12 rfl
  ·exact (by show Pick _ [rowE VB 37 cO (((eds.getD k default).data.take (j + 1)).foldl (fq l gd k) (iw k s)).st, rowE VV 3 bW (((eds.getD k default).data.take (j + 1)).foldl (fq l gd k) (iw k s)).vs, rowE VM 4 cH (((eds.getD k default).data.take (j + 1)).foldl (fq l gd k) (iw k s)).mb]; rw [hfn]; repeat' (first | exact Pick.nil _ | exact Del.here _ | apply Pick.cons | apply Del.there))
  ·exact (by show j + 1 ≤ _; omega)
  exact (by (try dsimp only); omega)
 refine bF (aI (aI (bv ?_)))
 refine fE Tryz.results164 (fun w' hw => ?_)
 have hSS : jM l gd (eds.getD k default).data k s = S := by rw [hS, show j = (eds.getD k default).data.length by omega, List.take_length]; rfl
 rw [hSS]
 exact ⟨(), rfl, hw.upd (Bg.le.refl _) (by repeat' constructor), trivial⟩
end Go.Proofs.YtiajjbhcpeadfaaGreat
namespace Go.HL
open Go
theorem qh {α : Type} {l : List α} {k j : Nat} {x d : α} : (l.set k x).getD j d = if k = j ∧ k < l.length then x else l.getD j d := by
 simp only [List.getD_eq_getElem?_getD, List.getElem?_set]
 by_cases h : k = j
 ·subst h
  by_cases h2 : k < l.length
  ·simp [h2]
  ·simp [h2]
 ·simp [h]
def dY (l : List Ins) (a : UInt32) : Int := ei (fun i : Ins => decide (i.addr = a)) 0 l
theorem Di {α : Type} [Inhabited α] (p : α → Bool) : ∀ (l : List α) (k j : Nat), j < l.length → p (l.getD j default) = true → 0 ≤ ei p k l ∧ ei p k l ≤ (k + j : Nat)
 | [], k, j, h, _ => by simp at h
 | x :: l, k, j, h, hp => by
  unfold ei
  by_cases hx : p x = true
  ·rw [if_pos hx]; omega
  ·rw [if_neg hx]
   cases j with
   | zero => exact absurd hp hx
   | succ j =>
    have := Di p l (k + 1) j (by simpa using h) hp
    omega
theorem AT {l : List Ins} {k : Nat} (h : k < l.length) : 0 ≤ dY l (l.getD k default).addr ∧ dY l (l.getD k default).addr ≤ k := by
 have := Di (fun i : Ins => decide (i.addr = (l.getD k default).addr)) l 0 k h (by simp)
 unfold dY; omega
theorem AU {l : List Ins} {a : UInt32} (h : 0 ≤ dY l a) : (l.getD (dY l a).toNat default).addr = a := by
 have := (yQ (fun i : Ins => decide (i.addr = a)) l 0 h).2
 rw [Int.natCast_zero, Int.sub_zero] at this
 exact of_decide_eq_true this
theorem sf (l : List Ins) (a : UInt32) : -1 ≤ dY l a ∧ dY l a < l.length := by
 have := j8 (fun i : Ins => decide (i.addr = a)) l 0
 unfold dY; omega
def atK (l : List Ins) : Nat → List (UInt32 × Int)
 | 0 => []
 | k + 1 => if (dP (atK l k) (l.getD k default).addr).isSome = true then atK l k else fw (atK l k) (l.getD k default).addr (k : Int)
theorem zh (l : List Ins) (a : UInt32) : ∀ (k : Nat), k ≤ l.length → dP (atK l k) a = if 0 ≤ dY l a ∧ dY l a < k then some (dY l a) else none
 | 0, _ => by simp only [atK, dP]; rw [if_neg (by omega)]
 | k + 1, h => by
  have ih := zh l a k (by omega)
  have ihb := zh l (l.getD k default).addr k (by omega)
  have hf := AT (l := l) (k := k) (by omega)
  unfold atK
  by_cases hs : (dP (atK l k) (l.getD k default).addr).isSome = true
  ·rw [if_pos hs, ih]
   have hk : dY l (l.getD k default).addr < k := by
    rw [ihb] at hs; split at hs
    ·omega
    ·simp at hs
   have hne : dY l a ≠ (k : Int) := by
    intro e
    have h1 := AU (l := l) (a := a) (by omega)
    rw [e, Int.toNat_natCast] at h1
    rw [h1] at hk; omega
   by_cases hc : 0 ≤ dY l a ∧ dY l a < k
   ·rw [if_pos hc, if_pos (by omega)]
   ·rw [if_neg hc, if_neg (by omega)]
  ·rw [if_neg hs, vu, ih]
   have hk : dY l (l.getD k default).addr = k := by
    rw [ihb] at hs
    by_cases hc : 0 ≤ dY l (l.getD k default).addr ∧ dY l (l.getD k default).addr < k
    ·rw [if_pos hc] at hs; simp at hs
    ·omega
   by_cases ha : a = (l.getD k default).addr
   ·subst ha
    rw [if_pos rfl, hk, if_pos (by omega)]
   ·rw [if_neg ha]
    have hne : dY l a ≠ (k : Int) := by
     intro e
     have h1 := AU (l := l) (a := a) (by omega)
     rw [e, Int.toNat_natCast] at h1
     exact ha h1.symm
    by_cases hc : 0 ≤ dY l a ∧ dY l a < k
    ·rw [if_pos hc, if_pos (by omega)]
    ·rw [if_neg hc, if_neg (by omega)]
theorem Cs (l : List Ins) (a : UInt32) : dP (atK l l.length) a = if dY l a < 0 then none else some (dY l a) := by
 have h := sf l a
 rw [zh l a l.length (Nat.le_refl _)]
 by_cases hc : dY l a < 0
 ·rw [if_pos hc, if_neg (by omega)]
 ·rw [if_neg hc, if_pos (by omega)]
structure CSt where
 es : List (List (Int × Bool))
 into : List (List Int)
def stepJ (l : List Ins) (k : Nat) (s : CSt) (n : Nat) : CSt :=
 if dY l ((dS (l.getD k default)).getD n default) < 0 then s
 else ⟨s.es.set k (s.es.getD k [] ++ [(dY l ((dS (l.getD k default)).getD n default), decide ((n : Int) = 0))]),
  s.into.set (dY l ((dS (l.getD k default)).getD n default)).toNat (s.into.getD (dY l ((dS (l.getD k default)).getD n default)).toNat [] ++ [(k : Int)])⟩
def jK (l : List Ins) (k : Nat) (s : CSt) : Nat → CSt
 | 0 => s
 | n + 1 => stepJ l k (jK l k s n) n
def jS (l : List Ins) : Nat → CSt
 | 0 => ⟨List.replicate l.length [], List.replicate l.length []⟩
 | k + 1 => if dY l (l.getD k default).addr = k then jK l k (jS l k) (dS (l.getD k default)).length else jS l k
def nm (l : List Ins) (e : Nat) (into : List (List Int)) (k : Nat) : Int :=
 if (l.getD k default).op = 20 ∧ iC (l.getD k default) = 0 ∧ (l.getD k default).addr ≠ (l.getD e default).addr ∧ (into.getD k []).length = 1 ∧ Ck (l.getD ((into.getD k []).getD 0 default).toNat default) = true
 then (into.getD k []).getD 0 default else -1
def lG (l : List Ins) : List (List (Int × Bool)) := (jS l l.length).es
def fg (l : List Ins) (e : Nat) : List Int := (List.range l.length).map (nm l e (jS l l.length).into)
structure COk (l : List Ins) (s : CSt) (k : Nat) : Prop where
 le : s.es.length = l.length
 li : s.into.length = l.length
 e : ∀ t ∈ s.es, ∀ x ∈ t, 0 ≤ x.1 ∧ x.1 < (l.length : Int)
 i : ∀ t ∈ s.into, ∀ x ∈ t, 0 ≤ x ∧ x < (l.length : Int)
 eb : ∀ j, (s.es.getD j []).length ≤ 2
 ib : ∀ j, (s.into.getD j []).length ≤ 2 * k
theorem vv {α : Type} {l : List α} {k : Nat} {x y : α} (h : y ∈ l.set k x) : y = x ∨ y ∈ l := by
 rcases List.mem_or_eq_of_mem_set h with h | h
 ·exact .inr h
 ·exact .inl h
theorem getD_mem {α : Type} {l : List (List α)} {k : Nat} {x : α} (h : x ∈ l.getD k []) : l.getD k [] ∈ l := by
 by_cases hk : k < l.length
 ·have := de (l := l) hk
  have e : (default : List α) = [] := rfl
  rwa [e] at this
 ·rw [List.getD_eq_getElem?_getD, List.getElem?_eq_none (by omega)] at h; simp at h
theorem qn {l : List Ins} {k : Nat} {s : CSt} (hk : k < l.length) (h : COk l s k) (h0 : (s.es.getD k []).length = 0) : ∀ n, n ≤ 2 → 
    (jK l k s n).es.length = l.length ∧ (jK l k s n).into.length = l.length ∧ (∀ t ∈ (jK l k s n).es, ∀ x ∈ t, 0 ≤ x.1 ∧ x.1 < (l.length : Int)) ∧ (∀ t ∈ (jK l k s n).into, ∀ x ∈ t, 0 ≤ x ∧ x < (l.length : Int)) ∧
    (∀ j, ((jK l k s n).es.getD j []).length ≤ if j = k then n else 2) ∧ (∀ j, ((jK l k s n).into.getD j []).length ≤ 2 * k + n) ∧ (∀ j, j ≠ k → (jK l k s n).es.getD j [] = s.es.getD j [])
  | 0, _ => ⟨h.le, h.li, h.e, h.i, fun j => by
      by_cases hj : j = k
      · rw [if_pos hj, hj]; exact Nat.le_of_eq h0
      · rw [if_neg hj]; exact h.eb j, h.ib, fun _ _ => rfl⟩
  | n + 1, hn => by
    obtain ⟨h1, h2, h3, h4, h5, h6, h7⟩ := qn hk h h0 n (by omega)
    simp only [jK]
    have hf := sf l ((dS (l.getD k default)).getD n default)
    unfold stepJ
    by_cases hc : dY l ((dS (l.getD k default)).getD n default) < 0
    · rw [if_pos hc]
      refine ⟨h1, h2, h3, h4, fun j => ?_, fun j => Nat.le_trans (h6 j) (by omega), h7⟩
      have := h5 j
      split at this <;> rename_i q
      · rw [if_pos q]; omega
      · rw [if_neg q]; omega
    · rw [if_neg hc]
      refine ⟨by rw [List.length_set]; exact h1, by rw [List.length_set]; exact h2, fun t ht x hx => ?_, fun t ht x hx => ?_, fun j => ?_, fun j => ?_, fun j hj => ?_⟩
      · rcases vv ht with rfl | ht
        · rcases List.mem_append.1 hx with hx | hx
          · exact h3 _ (getD_mem hx) x hx
          · rw [List.mem_singleton.1 hx]; exact ⟨by omega, hf.2⟩
        · exact h3 t ht x hx
      · rcases vv ht with rfl | ht
        · rcases List.mem_append.1 hx with hx | hx
          · exact h4 _ (getD_mem hx) x hx
          · rw [List.mem_singleton.1 hx]; omega
        · exact h4 t ht x hx
      · rw [qh]
        have hkk := h5 k
        rw [if_pos rfl] at hkk
        by_cases hj : j = k
        · subst hj
          rw [if_pos ⟨rfl, by omega⟩, if_pos rfl, List.length_append]
          simp only [List.length_cons, List.length_nil]; omega
        · rw [if_neg (by omega), if_neg hj]
          have := h5 j; rw [if_neg hj] at this; exact this
      · rw [qh]
        split
        · rename_i q
          rw [List.length_append]
          have := h6 (dY l ((dS (l.getD k default)).getD n default)).toNat
          simp only [List.length_cons, List.length_nil]; omega
        · exact Nat.le_trans (h6 j) (by omega)
      · rw [qh, if_neg (by omega)]; exact h7 j hj
theorem vS (l : List Ins) : ∀ k, k ≤ l.length → COk l (jS l k) k ∧ ∀ j, k ≤ j → (jS l k).es.getD j [] = []
 | 0, _ => by
  refine ⟨⟨by simp [jS], by simp [jS], fun t ht x hx => ?_, fun t ht x hx => ?_, fun j => ?_, fun j => ?_⟩, fun j _ => ?_⟩
  ·rw [(List.mem_replicate.1 ht).2] at hx; simp at hx
  ·rw [(List.mem_replicate.1 ht).2] at hx; simp at hx
  all_goals
   simp only [jS, List.getD_eq_getElem?_getD, List.getElem?_replicate]
   split <;> simp
 | k + 1, h => by
  obtain ⟨ih, ihe⟩ := vS l k (by omega)
  unfold jS
  split
  ·have hsl : (dS (l.getD k default)).length ≤ 2 := kj _
   obtain ⟨h1, h2, h3, h4, h5, h6, h7⟩ := qn (l := l) (k := k) (by omega) ih (by rw [ihe k (Nat.le_refl _)]; rfl) _ hsl
   exact ⟨⟨h1, h2, h3, h4, fun j => Nat.le_trans (h5 j) (by split <;> omega), fun j => Nat.le_trans (h6 j) (by omega)⟩, fun j hj => by rw [h7 j (by omega)]; exact ihe j (by omega)⟩
  ·exact ⟨⟨ih.le, ih.li, ih.e, ih.i, ih.eb, fun j => Nat.le_trans (ih.ib j) (by omega)⟩, fun j hj => ihe j (by omega)⟩
theorem sj (l : List Ins) {k : Nat} (h : k ≤ l.length) : COk l (jS l k) k := (vS l k h).1
theorem Ey (l : List Ins) (e k : Nat) : nm l e (jS l l.length).into k < (l.length : Int) := by
 unfold nm
 split
 ·rename_i h
  have hm : ((jS l l.length).into.getD k []).getD 0 default ∈ (jS l l.length).into.getD k [] := de (by omega)
  exact ((sj l (Nat.le_refl _)).i _ (getD_mem hm) _ hm).2
 ·omega
def nn (mb : List Bool) : Int := ei (fun x : Bool => decide (true = x)) 0 mb
def iW (l : List Ins) (gd : List Int) (es : List (List (Int × Bool))) : Nat → VSt → List StV × Int
 | 0, s => if nn s.mb < 0 then (s.st, 0) else ([], 15)
 | n + 1, s => if nn s.mb < 0 then (s.st, 0) else iW l gd es n (jM l gd (es.getD (nn s.mb).toNat []) (nn s.mb).toNat s)
def rc (l : List Ins) (e : Nat) : VSt := ⟨(List.replicate l.length (jj 8)).set e (yk 8), List.replicate l.length 0, (List.replicate l.length false).set e true⟩
def eO (l : List Ins) (entry : UInt32) (rounds : Nat) : List StV × Int :=
 if 4096 < l.length then ([], 6) else if dY l entry < 0 then ([], 9)
 else iW l (fg l (dY l entry).toNat) (lG l) rounds (rc l (dY l entry).toNat)
end Go.HL
namespace Go.HL
open Go
section
variable {P : Program} {N : Nat} {F : Bg} {L A B : List Ent} {M : Fr} {X : Act → World → Prop}
theorem getD_at {α : Type} [Inhabited α] {l : List α} {i : Nat} (h : i < l.length) : l[i] = l.getD i default := by simp [List.getD_eq_getElem?_getD, h]
theorem Bp {α : Type} [Inhabited α] {f : α → Ent} {rs : List α} (i : Nat) (h : i < rs.length) (K : Tr N F (f (rs.getD i default) :: (A ++ ((rs.eraseIdx i).map f ++ L))) M X) : Tr N F (A ++ (rs.map f ++ L)) M X :=
 Iu i h (by rw [getD_at h]; exact K)
theorem He {α : Type} [Inhabited α] {f : α → Ent} {rs : List α} (i : Nat) (h : i < rs.length) (K : Tr N F (f (rs.getD i default) :: (A ++ (B ++ ((rs.eraseIdx i).map f ++ L)))) M X) : Tr N F (A ++ (B ++ (rs.map f ++ L))) M X := by
 rw [← List.append_assoc] at K ⊢
 exact Bp i h K
theorem Hd {α : Type} {f : α → Ent} {rs : List α} (i : Nat) (y : α) (h : i < rs.length) (K : Tr N F (A ++ (B ++ ((rs.set i y).map f ++ L))) M X) : Tr N F (f y :: (A ++ (B ++ ((rs.eraseIdx i).map f ++ L)))) M X := by
 rw [← List.append_assoc] at K ⊢
 exact zp i y h K
theorem vd {α : Type} {w : World} (T : TypeId) (E : Enc α) (h : HpOK F L w) : ∀ n, HpOK F ((List.replicate n (default : RV α)).map (rvE T E) ++ L) w
 | 0 => h
 | n + 1 => Da T E (vd T E h n)
theorem Hf {α β : Type} (T T' : TypeId) (E : Enc α) (E' : Enc β) (n : Nat) (K : Tr N F (L ++ ((List.replicate n (default : RV α)).map (rvE T E) ++ ((List.replicate n (default : RV β)).map (rvE T' E') ++ []))) M X) : Tr N F L M X :=
 fun a w ha hw => K a w ha ((vd T E (vd T' E' hw n) n).perm (by
  rw [List.append_nil]
  refine List.perm_append_comm.trans ?_
  rw [List.append_assoc]))
theorem pp {α : Type} {T : TypeId} {E : Enc α} (rs : List (RV α)) {F : Bg} (K : ∀ F', F.le F' → RvIn E F'.blk rs → Tr N F' A M X) : Tr N F (A ++ (rs.map (rvE T E) ++ [])) M X := by
 refine qN (L' := (rs.map (fun r : RV α => (Value.slice r.dp r.data.length r.dc, r.data))).map (fun r : Value × List α => rowE r.1 T E r.2) ++ A) ?_ (sA (rs.map (fun r : RV α => (Value.slice r.dp r.data.length r.dc, r.data))) fun F' h1 h2 => K F' h1 fun t ht => ?_)
 ·rw [List.append_nil, List.map_map]
  exact List.perm_append_comm
 ·exact h2 _ (List.mem_map.2 ⟨t, ht, rfl⟩)
theorem wP {α : Type} {T : TypeId} {E : Enc α} (rs : List (RV α)) {F : Bg} (K : ∀ F', F.le F' → RvIn E F'.blk rs → Tr N F' (A ++ (B ++ [])) M X) : Tr N F (A ++ (B ++ (rs.map (rvE T E) ++ []))) M X := by
 rw [← List.append_assoc]
 refine pp rs fun F' h1 h2 => ?_
 have := K F' h1 h2
 rwa [List.append_nil] at this
end
def iM (x : Int) : Value := .int .i64 x
theorem vm (o : Option Int) : vp iM (.int .i64 0) o = .int .i64 (o.getD 0) := by cases o <;> rfl
section
variable {P : Program} {N : Nat} {F : Bg} {L : List Ent} {M : Fr} {dst : Option Tmp} {ty : TypeId} {pos : String} {after : Array Edge} {g : Option (Nat × Bool)} {l : List (UInt32 × Int)} {x y : Operand} {t K e : TypeId} {b : Nat} {k : UInt32}
theorem zA {x y : Operand} {V : Value} {bb n c kz i : Nat} {kk : IntKind} (hx : opv M x = some V) (hy : opv M y = some (.int kk i)) (hV : V = .slice (some ⟨bb, 0, none⟩) n c) (ht : P.underlying t = some (.slice e)) (hz : ∀ w, (sizeOf e).run P w = .ok kz w) (hi : i < n) :
  QS P N F L M ⟨dst, .indexAddr t x y, ty, pos, after, g⟩ (.pointer (some ⟨bk V, ofs V + i * kz, none⟩)) :=
 cK fun A w ha hw => by
  have := mW (V := .nilFunc) (c := c) (kk := kk) (n := n) (i := (i : Int)) ht hz w ⟨Int.natCast_nonneg _, Int.ofNat_lt.2 hi⟩ bb 0 rfl
  subst hV
  simp [execOp, ha.eval hx, ha.eval hy, this, bk, ofs]
theorem wc (hx : opv M x = some (.map (some b))) (hy : opv M y = some (.int .u32 k.toNat)) (hm : mapE b iM l ∈ L) (ht : P.underlying t = some (.map K e)) (hK : P.underlying K = some (.int .u32)) (hz : ∀ w, (zeroValue e).run P w = .ok (.int .i64 0) w) :
  QS P N F L M ⟨dst, .lookup t x y true, ty, pos, after, g⟩ (.tuple #[.int .i64 ((dP l k).getD 0), .bool (dP l k).isSome]) := by
 have h := yd (P := P) (N := N) (F := F) (L := L) (M := M) (dst := dst) (ty := ty) (pos := pos) (after := after) (g := g) hx hy hm ht hK hz
 rw [vm] at h; exact h
theorem EM (hx : opv M x = some (.map (some b))) (hy : opv M y = some (.int .u32 k.toNat)) (hm : MapIn F.blk b iM l) (ht : P.underlying t = some (.map K e)) (hK : P.underlying K = some (.int .u32)) (hz : ∀ w, (zeroValue e).run P w = .ok (.int .i64 0) w) :
  QS P N F L M ⟨dst, .lookup t x y false, ty, pos, after, g⟩ (.int .i64 ((dP l k).getD 0)) := by
 have h := we (P := P) (N := N) (F := F) (L := L) (M := M) (dst := dst) (ty := ty) (pos := pos) (after := after) (g := g) hx hy hm ht hK hz
 rw [vm] at h; exact h
theorem By (hx : opv M x = some (.map (some b))) (hy : opv M y = some (.int .u32 k.toNat)) (hm : MapIn F.blk b iM l) (ht : P.underlying t = some (.map K e)) (hK : P.underlying K = some (.int .u32)) (hz : ∀ w, (zeroValue e).run P w = .ok (.int .i64 0) w) :
  QS P N F L M ⟨dst, .lookup t x y true, ty, pos, after, g⟩ (.tuple #[.int .i64 ((dP l k).getD 0), .bool (dP l k).isSome]) := by
 have h := wd (P := P) (N := N) (F := F) (L := L) (M := M) (dst := dst) (ty := ty) (pos := pos) (after := after) (g := g) hx hy hm ht hK hz
 rw [vm] at h; exact h
end
section
variable {P : Program} {ops : Array Oper} {Q : Exit → Act → World → Prop} {N : Nat} {F : Bg} {L : List Ent} {M : Fr} {ty : TypeId} {pos : String} {after : Array Edge} {d : Nat} {L0 : List Ent} {fuel : Nat} {listed : Array Bool}
theorem Dx {x : Operand} {t e : TypeId} {a : Option Addr} {n c : Nat} (i : Nat) (hi : ops[i]? = some ⟨some d, .call { callee := .builtin .len, args := #[x], argTypes := #[t] }, ty, pos, after, none⟩) (hB : takeB ops listed i = true) (hQ : ∀ c a d v w, Q (.panic c) (a.put d v) w → Q (.panic c) a w)
  (hx : opv M x = some (.slice a n c)) (ht : P.underlying t = some (.slice e)) (k : Tr N F L ((d, .int .i64 (n : Nat)) :: M) (wpAnyH P .any ops Q (HpOK F L0) fuel (listed.setIfInBounds i true)))
  (hd : Nat.ble (d + 1) N = true := by rfl) (hL : Pick L L0 := by repeat' (first | exact Pick.nil _ | exact Del.here _ | apply Pick.cons | apply Del.there)) :
  Tr N F L M (wpAnyH P .any ops Q (HpOK F L0) (fuel + 1) listed) := by
 simp only [takeB, Bool.and_eq_true] at hB
 intro A w ha hw
 exact wpAnyH_take hi hB.1.1 hB.1.2 hB.2 (fun c a w => hQ c a _ _ w) (.inl ⟨by simp [Region.wanted], fun w' hw' => by simp [execOp, resolve, invoke, builtin, Builtin.len_, ha.eval hx, run_underlying ht, goInt]⟩) (hL.heap hw) (k _ _ (ha.put (Nat.le_of_ble_eq_true hd)) hw)
end
theorem Do {l : List Ins} {k : Nat} (h : dY l (l.getD k default).addr ≠ (k : Int)) : jS l (k + 1) = jS l k := if_neg h
theorem A4 {l : List Ins} {k : Nat} (h : dY l (l.getD k default).addr = (k : Int)) : jS l (k + 1) = jK l k (jS l k) (dS (l.getD k default)).length := if_pos h
theorem A5 {l : List Ins} {k j : Nat} {s : CSt} (h : dY l ((dS (l.getD k default)).getD j default) < 0) : jK l k s (j + 1) = jK l k s j := if_pos h
theorem xM {l : List Ins} {k j : Nat} {s : CSt} (h : ¬ dY l ((dS (l.getD k default)).getD j default) < 0) : jK l k s (j + 1) =
  ⟨(jK l k s j).es.set k ((jK l k s j).es.getD k [] ++ [(dY l ((dS (l.getD k default)).getD j default), decide ((j : Int) = 0))]),
  (jK l k s j).into.set (dY l ((dS (l.getD k default)).getD j default)).toNat ((jK l k s j).into.getD (dY l ((dS (l.getD k default)).getD j default)).toNat [] ++ [(k : Int)])⟩ := if_neg h
theorem mS {α : Type} {rs : List (RV α)} {L : List (List α)} (h : rs.map (·.data) = L) (j : Nat) : (rs.getD j default).data = L.getD j [] := by
 subst h
 simp only [List.getD_eq_getElem?_getD, List.getElem?_map]
 cases rs[j]? <;> rfl
theorem Fu {α : Type} {rs : List (RV α)} {L : List (List α)} (h : rs.map (·.data) = L) (k : Nat) (x : α) (p : Option Addr) (c : Nat) : (rs.set k ⟨(rs.getD k default).data ++ [x], p, c⟩).map (·.data) = L.set k (L.getD k [] ++ [x]) := by
 rw [List.map_set, h, mS h]
theorem Jf {gd : List Int} {n k : Nat} {f : Nat → Int} (hl : gd.length = n) (h : ∀ j, j < k → gd.getD j default = f j) (hk : k < n) : ∀ j, j < k + 1 → (gd.set k (f k)).getD j default = f j := by
 intro j hj
 rw [qh]
 by_cases e : k = j
 ·subst e; rw [if_pos ⟨rfl, by omega⟩]
 ·rw [if_neg (by omega)]; exact h j (by omega)
theorem JW {gd : List Int} {n k : Nat} {f : Nat → Int} (hl : gd.length = n) (h : ∀ j, j < k → gd.getD j default = f j) (h2 : gd.getD k default = f k) : ∀ j, j < k + 1 → gd.getD j default = f j := by
 intro j hj
 by_cases e : j = k
 ·subst e; exact h2
 ·exact h j (by omega)
theorem JV {gd : List Int} {n k : Nat} {x c : Int} (h : ∀ j, k ≤ j → j < n → gd.getD j default = c) : ∀ j, k + 1 ≤ j → j < n → (gd.set k x).getD j default = c := by
 intro j h1 h2
 rw [qh, if_neg (by omega)]; exact h j (by omega) h2
theorem Ez {gd : List Int} {l : List Ins} {e : Nat} (hl : gd.length = l.length) (h : ∀ j, j < l.length → gd.getD j default = nm l e (jS l l.length).into j) : gd = fg l e := by
 unfold fg
 apply List.ext_getElem
 ·simp [hl]
 ·intro i h1 h2
  have := h i (by omega)
  rw [← getD_at h1] at this
  rw [this]; simp
section
variable {N : Nat} {F : Bg} {L A : List Ent} {M : Fr} {X : Act → World → Prop}
theorem zt {α : Type} {T : TypeId} {E : Enc α} (rs : List (RV α)) (K : ∀ F', F.le F' → RvIn E F'.blk rs → Tr N F' (A ++ L) M X) : Tr N F (A ++ (rs.map (rvE T E) ++ L)) M X := by
 refine qN (L' := (A ++ L) ++ (rs.map (rvE T E) ++ [])) ?_ (pp rs fun F' h1 h2 => K F' h1 h2)
 rw [List.append_nil, List.append_assoc]
 exact (List.perm_append_comm (l₁ := L)).append_left _
end
theorem vJ (l : List Ins) (e : Nat) : (fg l e).length = l.length := by unfold fg; simp
theorem Ex (l : List Ins) (e : Nat) : ∀ j, j < (fg l e).length → (fg l e).getD j default < (l.length : Int) := by
 intro j h
 rw [vJ] at h
 unfold fg
 rw [← getD_at (by simpa using h)]
 simp only [List.getElem_map]
 exact Ey l e _
theorem ED {l : List Ins} {rs : List EdV} (h : rs.map (·.data) = lG l) : rs.length = l.length := by
 have := congrArg List.length h
 rw [List.length_map] at this
 exact this.trans (sj l (Nat.le_refl _)).le
theorem Ij {l : List Ins} {rs : List EdV} (h : rs.map (·.data) = lG l) (k : Nat) : ∀ e ∈ (rs.getD k default).data, 0 ≤ e.1 ∧ e.1 < (l.length : Int) := by
 intro e he
 rw [mS h] at he
 exact (sj l (Nat.le_refl _)).e _ (getD_mem he) e he
theorem wN {l : List Ins} {gd : List Int} {es : List (List (Int × Bool))} {n : Nat} {s : VSt} (h : nn s.mb < 0) : iW l gd es n s = (s.st, 0) := by
 cases n <;> exact if_pos h
theorem wM {l : List Ins} {gd : List Int} {es : List (List (Int × Bool))} {n : Nat} {s : VSt} (h : ¬ nn s.mb < 0) : iW l gd es (n + 1) s = iW l gd es n (jM l gd (es.getD (nn s.mb).toNat []) (nn s.mb).toNat s) := if_neg h
theorem zk {l : List Ins} {gd : List Int} {es : List (List (Int × Bool))} {s : VSt} (h : ¬ nn s.mb < 0) : iW l gd es 0 s = ([], 15) := if_neg h
theorem BJ (l : List Ins) (gd : List Int) (es : List (Int × Bool)) (k : Nat) (s : VSt) : (jM l gd es k s).st.length = s.st.length ∧ (jM l gd es k s).vs.length = s.vs.length ∧ (jM l gd es k s).mb.length = s.mb.length := by
 have h := oC l gd k es (iw k s)
 exact ⟨h.1, (congrArg List.length h.2.1).trans List.length_set, h.2.2.trans List.length_set⟩
theorem E4 {l : List Ins} {gd : List Int} {es : List (Int × Bool)} {k n : Nat} {s : VSt} (hk : k < s.vs.length) (h : ∀ v ∈ s.vs, 0 ≤ v ∧ v ≤ (n : Int)) : ∀ v ∈ (jM l gd es k s).vs, 0 ≤ v ∧ v ≤ ((n + 1 : Nat) : Int) := by
 intro v hv
 have e : (jM l gd es k s).vs = s.vs.set k (s.vs.getD k default + 1) := (oC l gd k es (iw k s)).2.1
 rw [e] at hv
 rcases vv hv with rfl | hv
 ·have := h _ (de hk); omega
 ·have := h v hv; omega
end Go.HL
namespace Go.Proofs.YtiajjbhcpeadfaaGreat
open Go Go.HL Go.RowKit
theorem A3 (l : List Ins) (e bx bm : Nat) (VI VB VV VM : Value) (w : World) (ho : OwnAt w [cellE bx [VI, .map (some bm), .slice none 0 0, .slice none 0 0, VB, VV, VM] 228]) (hI : Sl (Bg.lessB w [bx] 0).blk aT l VI) (hA : MapIn (Bg.lessB w [bx] 0).blk bm iM (atK l l.length)) (hIO : ∀ x ∈ l, InsOK x) (he : e < l.length) (hll : l.length ≤ 4096) :
  Calls Tryz.prog 161 #[.pointer (some ⟨bx, 0, none⟩), .int .i64 (e : Nat)] w (fun e' w' => ∃ i : Value × Value × List EdV, e' = .returned (.tuple #[]) ∧ Upd 0 w w' (dm [cellE bx [VI, .map (some bm), .slice none 0 0, .slice none 0 0, VB, VV, VM] 228]) (cellE bx [VI, .map (some bm), i.1, i.2.1, VB, VV, VM] 228 :: rowE i.2.1 3 bW (fg l e) :: rowE i.1 272 gZ i.2.2 :: i.2.2.map (rvE 274 eW)) ∧ i.2.2.map (·.data) = lG l) := by
 refine rk (L := [cellE bx [VI, .map (some bm), .slice none 0 0, .slice none 0 0, VB, VV, VM] 228]) ho rfl (Nat.zero_le _) Tryz.func161 rfl Tryz.ntmps161 rfl ?_
 refine ah (zz0 (aa rfl) (zz0 (bB rfl) ?_))
 refine zz0 (zz2 (off := 0) (ft := 50) rfl bE rfl dy) ?_
 refine zz0 (kC rfl dN) ?_
 refine zz0 (gK rfl aR) ?_
 refine jH (E := (dI (α := Int))) default rfl rfl gG BF rfl rfl rfl (by constructor <;> omega) rfl (fun b1 => ?_)
 obtain ⟨VQ, hVQ⟩ : ∃ V, V = Value.slice (some ⟨b1, 0, none⟩) (List.replicate l.length (default : RV Int)).length l.length := ⟨_, rfl⟩
 rw [← hVQ]
 refine zz0 (ab rfl) (aM (zz0 (aa rfl) (zz0 (aa rfl) (zz0 (bB rfl) ?_))))
 refine zz0 (zz2 (off := 0) (ft := 50) rfl bE rfl dy) ?_
 refine zz0 (kC rfl dN) ?_
 refine zz0 (gK rfl aR) ?_
 refine jH (E := gZ) default rfl rfl iE BE rfl rfl rfl (by constructor <;> omega) rfl (fun b2 => ?_)
 refine zz0 (bB rfl) ?_
 refine zz0 (zz2 (off := 2) (ft := 226) rfl bE rfl kt) ?_
 refine zz5 rfl rfl kt rfl ?_
 refine aM (zz0 (aa rfl) (zz0 (aa rfl) (zz0 (bB rfl) ?_)))
 refine zz0 (zz2 (off := 0) (ft := 50) rfl bE rfl dy) ?_
 refine zz0 (kC rfl dN) ?_
 refine zz0 (gK rfl aR) ?_
 refine jH (E := bW) 0 rfl rfl cZ kO rfl rfl rfl (by constructor <;> omega) rfl (fun b3 => ?_)
 refine zz0 (bB rfl) ?_
 refine zz0 (zz2 (off := 3) (ft := 224) rfl bE rfl eP) ?_
 refine zz5 rfl rfl eP rfl ?_
 change Tr _ _ [rowE (Value.slice (some ⟨b3, 0, none⟩) (List.replicate l.length (0 : Int)).length l.length) 3 bW (List.replicate l.length 0), rowE (Value.slice (some ⟨b2, 0, none⟩) (List.replicate l.length (default : EdV)).length l.length) 272 gZ (List.replicate l.length default), rowE VQ 224 dI (List.replicate l.length default), cellE bx [VI, .map (some bm), Value.slice (some ⟨b2, 0, none⟩) (List.replicate l.length (default : EdV)).length l.length, Value.slice (some ⟨b3, 0, none⟩) (List.replicate l.length (0 : Int)).length l.length, VB, VV, VM] 228] _ _
 obtain ⟨VE, hVE⟩ : ∃ V, V = Value.slice (some ⟨b2, 0, none⟩) (List.replicate l.length (default : EdV)).length l.length := ⟨_, rfl⟩
 rw [← hVE]
 obtain ⟨VG, hVG⟩ : ∃ V, V = Value.slice (some ⟨b3, 0, none⟩) (List.replicate l.length (0 : Int)).length l.length := ⟨_, rfl⟩
 rw [← hVG]
 refine ad (an (ah (zz0 (aa rfl) (zz0 (bB rfl) ?_))))
 refine zz0 (zz2 (off := 0) (ft := 50) rfl bE rfl dy) ?_
 refine zz0 (kC rfl dN) ?_
 refine zz0 (gK rfl aR) ?_
 refine zz0 (aa rfl) (ad (aH (Hf 274 3 eW bW l.length ?_)))
 refine bK (ι := Nat × List EdV × List (RV Int) × List Int) (fun ⟨k, rs, qs, gd⟩ => k ≤ l.length ∧ (rs.map (·.data) = (jS l k).es ∧ qs.map (·.data) = (jS l k).into) ∧ gd.length = l.length ∧ ∀ j, j < k → gd.getD j default = -1) (fun _ => (Bg.lessB w [bx] 0)) (fun ⟨k, rs, qs, gd⟩ => (cellE bx [VI, .map (some bm), VE, VG, VB, VV, VM] 228 :: rowE VG 3 bW gd :: rowE VE 272 gZ rs :: rowE VQ 224 dI qs :: (rs.map (rvE 274 eW) ++ (qs.map (rvE 3 bW) ++ [])))) (fun ⟨k, rs, qs, gd⟩ => [(42, .int .i64 (k : Nat))]) (fun ⟨k, rs, qs, gd⟩ => l.length - k) (0, List.replicate l.length default, List.replicate l.length default, List.replicate l.length 0) ⟨Nat.zero_le _, ⟨List.map_replicate, List.map_replicate⟩, List.length_replicate, fun j hj => absurd hj (Nat.not_lt_zero _)⟩ (Front.c Front.nil) (by repeat' (first | exact Pick.refl _ | exact Del.here _ | apply Pick.cons | apply Del.there | apply Pick.skip | exact Pick.nil _)) rfl (fun i hi m hm => ?_)
 obtain ⟨k, rs, qs, gd⟩ := i
 replace hi : k ≤ l.length ∧ (rs.map (·.data) = (jS l k).es ∧ qs.map (·.data) = (jS l k).into) ∧ gd.length = l.length ∧ ∀ j, j < k → gd.getD j default = -1 := hi
 replace hm : m = l.length - k := hm
 change Tr _ _ (cellE bx [VI, .map (some bm), VE, VG, VB, VV, VM] 228 :: rowE VG 3 bW gd :: rowE VE 272 gZ rs :: rowE VQ 224 dI qs :: (rs.map (rvE 274 eW) ++ (qs.map (rvE 3 bW) ++ []))) ([(42, .int .i64 (k : Nat))] ++ _) _
 obtain ⟨hk, ⟨hrs, hqs⟩, hgl, hgm⟩ := hi
 have hco := sj l hk
 have hrl : rs.length = l.length := by have := congrArg List.length hrs; rw [List.length_map, hco.le] at this; exact this
 have hql : qs.length = l.length := by have := congrArg List.length hqs; rw [List.length_map, hco.li] at this; exact this
 refine ah (zz0 (bT rfl rfl) (ad (an ?_)))
 refine ao rfl ?_ ?_ <;> intro h4 <;> try simp only [bs] at h4
 ·refine bA (an (aH (ah (zz0 (aa rfl) (zz0 (hZ rfl rfl aR ay) ?_)))))
  refine zz0 (na rfl aS ay) ?_
  refine dB bZ rfl (fun b5 => ?_)
  refine zz0 (ab rfl) (aF aT rfl rfl ay ?_)
  refine aM (zz0 (aa rfl) (zz0 (bB rfl) ?_))
  refine zz0 (zz2 (off := 3) (ft := 224) rfl bE rfl eP) ?_
  refine zz0 (kC rfl gA) ?_
  refine zz0 (aa rfl) (zz0 (zz9 rfl rfl cZ aB) ?_)
  refine gw (l := gd) (i := k) ((-1)) rfl rfl aB ?_
  have hls6 : (List.set gd (k) ((-1))).length = (gd).length := List.length_set
  refine ad (an (an (g9 aU ?_)))
  refine aw (aa rfl) (aw (bB rfl) ?_)
  refine aw (zz2 (off := 1) (ft := 223) rfl bE rfl ku) ?_
  refine aw (kC rfl lq) ?_
  refine aw (zz2 (off := 0) (ft := 23) rfl af rfl ae) ?_
  refine aw (aG rfl am) ?_
  refine aw (EM rfl rfl hA iF aP ja) ?_
  rw [Cs, if_neg (by have := AT (l := l) (k := k) (by omega); omega), Option.getD_some]
  refine aw (aa rfl) (aw (ff rfl rfl) (bI ?_))
  refine ac ?_
  refine ao rfl ?_ ?_ <;> intro h7 <;> try simp only [bs] at h7
  ·refine bF (aI (bv (ac (ar (zz0 (cE rfl rfl) ?_)))))
   refine zz0 (aa rfl) (ad ?_)
   refine pB (k + 1, rs, qs, gd.set k (-1)) (Front.c Front.nil) (bD 24 rfl) (o := ⟨by omega, ⟨by rw [Do (by assumption)]; exact hrs, by rw [Do (by assumption)]; exact hqs⟩, List.length_set.trans hgl, Jf (f := fun _ => -1) hgl hgm (by omega)⟩)
  refine bA (an ?_)
  have hne0 : ((jS l k).es.getD k []).length = 0 := by rw [(vS l k hk).2 k (Nat.le_refl _)]; rfl
  refine ar (zz0 (bC rfl aS ay) ?_)
  refine ip rfl Tryz.call224 (fun w hw => zM (l.getD k default) w (hIO _ (de (by omega)))) rfl (fun V8 => ?_)
  refine zz0 (lz rfl al) ?_
  refine zz0 (aa rfl) (ad (aH ?_))
  refine bK (ι := Nat × List EdV × List (RV Int)) (fun ⟨j, rs', qs'⟩ => j ≤ (dS (l.getD k default)).length ∧ rs'.map (·.data) = (jK l k (jS l k) j).es ∧ qs'.map (·.data) = (jK l k (jS l k) j).into) (fun _ => (Bg.lessB w [bx] 0)) (fun ⟨j, rs', qs'⟩ => (rowE V8 23 au (dS (l.getD k default)) :: cellE b5 (aT.enc (l.getD k default)) 36 :: cellE bx [VI, .map (some bm), VE, VG, VB, VV, VM] 228 :: rowE VG 3 bW (gd.set k (-1)) :: rowE VE 272 gZ rs' :: rowE VQ 224 dI qs' :: (rs'.map (rvE 274 eW) ++ (qs'.map (rvE 3 bW) ++ [])))) (fun ⟨j, rs', qs'⟩ => [(65, .int .i64 (j : Nat))]) (fun ⟨j, rs', qs'⟩ => (dS (l.getD k default)).length - j) (0, rs, qs) ⟨Nat.zero_le _, hrs, hqs⟩ (Front.c Front.nil) (by repeat' (first | exact Pick.refl _ | exact Del.here _ | apply Pick.cons | apply Del.there | apply Pick.skip | exact Pick.nil _)) rfl (fun i hi m hm => ?_)
  obtain ⟨j, rs', qs'⟩ := i
  replace hi : j ≤ (dS (l.getD k default)).length ∧ rs'.map (·.data) = (jK l k (jS l k) j).es ∧ qs'.map (·.data) = (jK l k (jS l k) j).into := hi
  replace hm : m = (dS (l.getD k default)).length - j := hm
  change Tr _ _ (rowE V8 23 au (dS (l.getD k default)) :: cellE b5 (aT.enc (l.getD k default)) 36 :: cellE bx [VI, .map (some bm), VE, VG, VB, VV, VM] 228 :: rowE VG 3 bW (gd.set k (-1)) :: rowE VE 272 gZ rs' :: rowE VQ 224 dI qs' :: (rs'.map (rvE 274 eW) ++ (qs'.map (rvE 3 bW) ++ []))) ([(65, .int .i64 (j : Nat))] ++ _) _
  obtain ⟨hj, hrs', hqs'⟩ := hi
  have hjs0 := kj (l.getD k default)
  have hrl' : rs'.length = l.length := by have := congrArg List.length hrs'; rw [List.length_map, (qn (by omega) hco hne0 j (Nat.le_trans hj (kj _))).1] at this; exact this
  have hql' : qs'.length = l.length := by have := congrArg List.length hqs'; rw [List.length_map, (qn (by omega) hco hne0 j (Nat.le_trans hj (kj _))).2.1] at this; exact this
  refine ah (zz0 (bT rfl rfl) (ad (an ?_)))
  refine ao rfl ?_ ?_ <;> intro h9 <;> try simp only [bs] at h9
  ·refine bA (an (aH (ah (zz0 (aa rfl) (zz0 (zz9 rfl rfl al ae) ?_)))))
   refine zz0 (eh rfl am) ?_
   refine zz0 (ab rfl) (zz0 (ab rfl) (aM (zz0 (aa rfl) (zz0 (bB rfl) ?_))))
   refine zz0 (zz2 (off := 1) (ft := 223) rfl bE rfl ku) ?_
   refine zz0 (kC rfl lq) ?_
   refine zz0 (aa rfl) (zz0 (By rfl rfl hA iF aP ja) ?_)
   rw [Cs]
   obtain ⟨to, hto⟩ : ∃ to, to = (dY l ((dS (l.getD k default)).getD j default)) := ⟨_, rfl⟩
   rw [← hto]
   refine zz0 (aa rfl) (zz0 (aQ rfl rfl) (zz0 (aQ rfl rfl) (zz0 (ab rfl) (zz0 (ab rfl) (aM (zz0 (aa rfl) (ad ?_)))))))
   refine ao rfl ?_ ?_ <;> intro h10 <;> try simp only [bs] at h10
   ·have hok := qn (by omega) hco hne0 j (Nat.le_trans hj (kj _))
    have hdl : (rs'.getD k default).data.length ≤ 2 := by rw [mS hrs' k]; exact Nat.le_trans (hok.2.2.2.2.1 k) (by split <;> (have := kj (l.getD k default); omega))
    have hdq : (qs'.getD to.toNat default).data.length ≤ 2 * k + j := by rw [mS hqs']; exact hok.2.2.2.2.2.1 _
    have hjs := kj (l.getD k default)
    have ht1 : (if to < 0 then none else some to).isSome = true := by assumption
    have ht0 : ¬ to < 0 := fun q => by rw [if_pos q] at ht1; simp at ht1
    have htl := (sf l ((dS (l.getD k default)).getD j default)).2
    rw [← hto] at htl
    rw [if_neg ht0, Option.getD_some]
    refine dj (ι := Option Addr × Nat) (fun ⟨pe, ce⟩ => True) (fun _ => (Bg.lessB w [bx] 0)) (fun ⟨pe, ce⟩ => (rowE V8 23 au (dS (l.getD k default)) :: cellE b5 (aT.enc (l.getD k default)) 36 :: cellE bx [VI, .map (some bm), VE, VG, VB, VV, VM] 228 :: rowE VG 3 bW (gd.set k (-1)) :: rowE VE 272 gZ (rs'.set k ⟨(rs'.getD k default).data ++ [(to, decide ((j : Int) = 0))], pe, ce⟩) :: rowE VQ 224 dI qs' :: ((rs'.set k ⟨(rs'.getD k default).data ++ [(to, decide ((j : Int) = 0))], pe, ce⟩).map (rvE 274 eW) ++ (qs'.map (rvE 3 bW) ++ [])))) (fun ⟨pe, ce⟩ => []) ?_ (fun i hi => ?_)
    ·skip
     refine Bp (A := [rowE V8 23 au (dS (l.getD k default)), cellE b5 (aT.enc (l.getD k default)) 36, cellE bx [VI, .map (some bm), VE, VG, VB, VV, VM] 228, rowE VG 3 bW (gd.set k (-1)), rowE VE 272 gZ rs', rowE VQ 224 dI qs']) (f := (rvE 274 eW)) (rs := rs') k (by omega) ?_
     change Tr _ _ ((rvE 274 eW) (rs'.getD k default) :: rowE V8 23 au (dS (l.getD k default)) :: cellE b5 (aT.enc (l.getD k default)) 36 :: cellE bx [VI, .map (some bm), VE, VG, VB, VV, VM] 228 :: rowE VG 3 bW (gd.set k (-1)) :: rowE VE 272 gZ rs' :: rowE VQ 224 dI qs' :: ((rs'.eraseIdx k).map (rvE 274 eW) ++ (qs'.map (rvE 3 bW) ++ []))) _ _
     refine dZ ([cellE bx [VI, .map (some bm), VE, VG, VB, VV, VM] 228]) 20 rfl aU ?_
     refine zz7 0 rfl (aa rfl) ?_
     refine zz7 1 rfl (bB rfl) ?_
     refine zz7 2 rfl (zz2 (off := 2) (ft := 226) rfl bE rfl kt) ?_
     refine zz7 3 rfl (kC rfl Tryz.isAgg226) ?_
     refine zz7 4 rfl (aa rfl) ?_
     refine zz7 5 rfl (aa rfl) ?_
     refine zz7 6 rfl (bB rfl) ?_
     refine zz7 7 rfl (zz2 (off := 2) (ft := 226) rfl bE rfl kt) ?_
     refine zz7 8 rfl (kC rfl Tryz.isAgg226) ?_
     refine zz7 9 rfl (aa rfl) ?_
     refine kw 10 rfl (by kernel_rfl) (bP (eE (bP (bP (eE (eE (bP (bP (eE (bP dG)))))))))) (zA rfl rfl hVE iE jC (by rw [List.length_replicate]; omega)) ?_
     refine zz7 12 rfl (aa rfl) ?_
     refine zz7 13 rfl (aa rfl) ?_
     refine zz7 14 rfl (bh rfl rfl) ?_
     refine zz7 15 rfl (bL (vs := [(0, _), (1, _)]) rfl rfl (tL _ _)) ?_
     refine dA [11, 16] (fun iq hq => ?_)
     rcases List.mem_cons.1 hq with rfl | hq
     ·skip
      refine bJ rfl ?_
      refine zz0 (eh (V := VE) (E := gZ) (l := rs') (i := k) rfl Tryz.isAgg272) ?_
      refine cj ?_
      refine dA [16] (fun iq hq => ?_)
      obtain rfl := List.mem_singleton.1 hq
      refine bJ rfl ?_
      refine jl (E := eW) (to, decide ((j : Int) = 0)) rfl rfl gC jB lI (fun V11 => ?_)
      refine cj ?_
      refine dA [17] (fun iq hq => ?_)
      obtain rfl := List.mem_singleton.1 hq
      refine bJ rfl ?_
      refine zz1 rfl rfl gC ui (fun V12 => ?_)
      refine dz (.head _) (fun pe ce hpv => ?_)
      subst hpv
      refine cj ?_
      refine kw 18 rfl (by kernel_rfl) (bP (eE (bP (bP (eE (eE (bP (bP (eE (bP dG)))))))))) (zA rfl rfl hVE iE jC (by rw [List.length_replicate]; omega)) ?_
      refine dA [19] (fun iq hq => ?_)
      obtain rfl := List.mem_singleton.1 hq
      refine bJ rfl ?_
      refine gw (l := rs') (i := k) (⟨(rs'.getD k default).data ++ [(to, decide ((j : Int) = 0))], pe, ce⟩) rfl rfl jC ?_
      have hls13 : (List.set rs' (k) (⟨(rs'.getD k default).data ++ [(to, decide ((j : Int) = 0))], pe, ce⟩)).length = (rs').length := List.length_set
      refine zp (A := [rowE V8 23 au (dS (l.getD k default)), cellE b5 (aT.enc (l.getD k default)) 36, cellE bx [VI, .map (some bm), VE, VG, VB, VV, VM] 228, rowE VG 3 bW (gd.set k (-1)), rowE VE 272 gZ (rs'.set k ⟨(rs'.getD k default).data ++ [(to, decide ((j : Int) = 0))], pe, ce⟩), rowE VQ 224 dI qs']) (f := (rvE 274 eW)) (rs := rs') k ⟨(rs'.getD k default).data ++ [(to, decide ((j : Int) = 0))], pe, ce⟩ (by omega) ?_
      change Tr _ _ (rowE V8 23 au (dS (l.getD k default)) :: cellE b5 (aT.enc (l.getD k default)) 36 :: cellE bx [VI, .map (some bm), VE, VG, VB, VV, VM] 228 :: rowE VG 3 bW (gd.set k (-1)) :: rowE VE 272 gZ (rs'.set k ⟨(rs'.getD k default).data ++ [(to, decide ((j : Int) = 0))], pe, ce⟩) :: rowE VQ 224 dI qs' :: ((rs'.set k ⟨(rs'.getD k default).data ++ [(to, decide ((j : Int) = 0))], pe, ce⟩).map (rvE 274 eW) ++ (qs'.map (rvE 3 bW) ++ []))) _ _
      refine cj ?_
      refine jg ?_
      refine ac ?_
      apply eD (pe, ce)
      ·exact rfl
      ·exact Front.nil
      ·exact bD 19 rfl
      ·exact (Pick.refl _)
      exact trivial
     obtain rfl := List.mem_singleton.1 hq
     refine bJ rfl ?_
     refine jl (E := eW) (to, decide ((j : Int) = 0)) rfl rfl gC jB lI (fun V14 => ?_)
     refine cj ?_
     refine dA [11] (fun iq hq => ?_)
     obtain rfl := List.mem_singleton.1 hq
     refine bJ rfl ?_
     refine zz0 (eh (V := VE) (E := gZ) (l := rs') (i := k) rfl Tryz.isAgg272) ?_
     refine cj ?_
     refine dA [17] (fun iq hq => ?_)
     obtain rfl := List.mem_singleton.1 hq
     refine bJ rfl ?_
     refine zz1 rfl rfl gC ui (fun V15 => ?_)
     refine dz (.head _) (fun pe ce hpv => ?_)
     subst hpv
     refine cj ?_
     refine kw 18 rfl (by kernel_rfl) (bP (eE (bP (bP (eE (eE (bP (bP (eE (bP dG)))))))))) (zA rfl rfl hVE iE jC (by rw [List.length_replicate]; omega)) ?_
     refine dA [19] (fun iq hq => ?_)
     obtain rfl := List.mem_singleton.1 hq
     refine bJ rfl ?_
     refine gw (l := rs') (i := k) (⟨(rs'.getD k default).data ++ [(to, decide ((j : Int) = 0))], pe, ce⟩) rfl rfl jC ?_
     have hls16 : (List.set rs' (k) (⟨(rs'.getD k default).data ++ [(to, decide ((j : Int) = 0))], pe, ce⟩)).length = (rs').length := List.length_set
     refine zp (A := [rowE V8 23 au (dS (l.getD k default)), cellE b5 (aT.enc (l.getD k default)) 36, cellE bx [VI, .map (some bm), VE, VG, VB, VV, VM] 228, rowE VG 3 bW (gd.set k (-1)), rowE VE 272 gZ (rs'.set k ⟨(rs'.getD k default).data ++ [(to, decide ((j : Int) = 0))], pe, ce⟩), rowE VQ 224 dI qs']) (f := (rvE 274 eW)) (rs := rs') k ⟨(rs'.getD k default).data ++ [(to, decide ((j : Int) = 0))], pe, ce⟩ (by omega) ?_
     change Tr _ _ (rowE V8 23 au (dS (l.getD k default)) :: cellE b5 (aT.enc (l.getD k default)) 36 :: cellE bx [VI, .map (some bm), VE, VG, VB, VV, VM] 228 :: rowE VG 3 bW (gd.set k (-1)) :: rowE VE 272 gZ (rs'.set k ⟨(rs'.getD k default).data ++ [(to, decide ((j : Int) = 0))], pe, ce⟩) :: rowE VQ 224 dI qs' :: ((rs'.set k ⟨(rs'.getD k default).data ++ [(to, decide ((j : Int) = 0))], pe, ce⟩).map (rvE 274 eW) ++ (qs'.map (rvE 3 bW) ++ []))) _ _
     refine cj ?_
     refine jg ?_
     refine ac ?_
     apply eD (pe, ce)
     ·exact rfl
     ·exact Front.nil
     ·exact bD 19 rfl
     ·exact (Pick.refl _)
     exact trivial
    obtain ⟨pe, ce⟩ := i
    replace hi : True := hi
    change Tr _ _ (rowE V8 23 au (dS (l.getD k default)) :: cellE b5 (aT.enc (l.getD k default)) 36 :: cellE bx [VI, .map (some bm), VE, VG, VB, VV, VM] 228 :: rowE VG 3 bW (gd.set k (-1)) :: rowE VE 272 gZ (rs'.set k ⟨(rs'.getD k default).data ++ [(to, decide ((j : Int) = 0))], pe, ce⟩) :: rowE VQ 224 dI qs' :: ((rs'.set k ⟨(rs'.getD k default).data ++ [(to, decide ((j : Int) = 0))], pe, ce⟩).map (rvE 274 eW) ++ (qs'.map (rvE 3 bW) ++ []))) ([] ++ _) _
    refine He (A := [rowE V8 23 au (dS (l.getD k default)), cellE b5 (aT.enc (l.getD k default)) 36, cellE bx [VI, .map (some bm), VE, VG, VB, VV, VM] 228, rowE VG 3 bW (gd.set k (-1)), rowE VE 272 gZ (rs'.set k ⟨(rs'.getD k default).data ++ [(to, decide ((j : Int) = 0))], pe, ce⟩), rowE VQ 224 dI qs']) (B := (rs'.set k ⟨(rs'.getD k default).data ++ [(to, decide ((j : Int) = 0))], pe, ce⟩).map (rvE 274 eW)) (f := (rvE 3 bW)) (rs := qs') to.toNat (by omega) ?_
    change Tr _ _ ((rvE 3 bW) (qs'.getD to.toNat default) :: rowE V8 23 au (dS (l.getD k default)) :: cellE b5 (aT.enc (l.getD k default)) 36 :: cellE bx [VI, .map (some bm), VE, VG, VB, VV, VM] 228 :: rowE VG 3 bW (gd.set k (-1)) :: rowE VE 272 gZ (rs'.set k ⟨(rs'.getD k default).data ++ [(to, decide ((j : Int) = 0))], pe, ce⟩) :: rowE VQ 224 dI qs' :: ((rs'.set k ⟨(rs'.getD k default).data ++ [(to, decide ((j : Int) = 0))], pe, ce⟩).map (rvE 274 eW) ++ ((qs'.eraseIdx to.toNat).map (rvE 3 bW) ++ []))) _ _
    refine ar (zz0 (aa rfl) (zz0 (aa rfl) (zz0 (aa rfl) (zz0 (aa rfl) (zz0 (jL rfl rfl gG eP) ?_)))))
    refine zz0 (eh rfl gA) ?_
    refine zz0 (aa rfl) ?_
    refine jl (E := bW) (k : Int) rfl rfl cZ aB ja (fun V17 => ?_)
    refine zz1 rfl rfl cZ kO (fun V18 => ?_)
    refine dz (.head _) (fun pq cq hpv => ?_)
    subst hpv
    refine zz0 (jL rfl rfl gG eP) ?_
    refine gw (l := qs') (i := to.toNat) (⟨(qs'.getD to.toNat default).data ++ [(k : Int)], pq, cq⟩) rfl rfl eP ?_
    have hls19 : (List.set qs' (to.toNat) (⟨(qs'.getD to.toNat default).data ++ [(k : Int)], pq, cq⟩)).length = (qs').length := List.length_set
    refine Hd (A := [rowE V8 23 au (dS (l.getD k default)), cellE b5 (aT.enc (l.getD k default)) 36, cellE bx [VI, .map (some bm), VE, VG, VB, VV, VM] 228, rowE VG 3 bW (gd.set k (-1)), rowE VE 272 gZ (rs'.set k ⟨(rs'.getD k default).data ++ [(to, decide ((j : Int) = 0))], pe, ce⟩), rowE VQ 224 dI (qs'.set to.toNat ⟨(qs'.getD to.toNat default).data ++ [(k : Int)], pq, cq⟩)]) (B := (rs'.set k ⟨(rs'.getD k default).data ++ [(to, decide ((j : Int) = 0))], pe, ce⟩).map (rvE 274 eW)) (f := (rvE 3 bW)) (rs := qs') to.toNat ⟨(qs'.getD to.toNat default).data ++ [(k : Int)], pq, cq⟩ (by omega) ?_
    change Tr _ _ (rowE V8 23 au (dS (l.getD k default)) :: cellE b5 (aT.enc (l.getD k default)) 36 :: cellE bx [VI, .map (some bm), VE, VG, VB, VV, VM] 228 :: rowE VG 3 bW (gd.set k (-1)) :: rowE VE 272 gZ (rs'.set k ⟨(rs'.getD k default).data ++ [(to, decide ((j : Int) = 0))], pe, ce⟩) :: rowE VQ 224 dI (qs'.set to.toNat ⟨(qs'.getD to.toNat default).data ++ [(k : Int)], pq, cq⟩) :: ((rs'.set k ⟨(rs'.getD k default).data ++ [(to, decide ((j : Int) = 0))], pe, ce⟩).map (rvE 274 eW) ++ ((qs'.set to.toNat ⟨(qs'.getD to.toNat default).data ++ [(k : Int)], pq, cq⟩).map (rvE 3 bW) ++ []))) _ _
    refine ax (aY (ac (ar (zz0 (cE rfl rfl) ?_))))
    refine zz0 (aa rfl) (ad ?_)
    refine pB (j + 1, (rs'.set k ⟨(rs'.getD k default).data ++ [(to, decide ((j : Int) = 0))], pe, ce⟩), (qs'.set to.toNat ⟨(qs'.getD to.toNat default).data ++ [(k : Int)], pq, cq⟩)) (Front.c Front.nil) (bD 31 rfl) (o := ⟨by omega, by rw [xM (by rw [← hto]; exact ht0), ← hto]; exact Fu hrs' k _ _ _, by rw [xM (by rw [← hto]; exact ht0), ← hto]; exact Fu hqs' _ _ _ _⟩)
   refine cg (aY (ac (ar (zz0 (cE rfl rfl) ?_))))
   refine zz0 (aa rfl) (ad ?_)
   have hlt0 : (dY l ((dS (l.getD k default)).getD j default)) < 0 := by
    rw [← hto]
    by_cases q : to < 0
    ·exact q
    ·have ht1 : (if to < 0 then none else some to).isSome = false := by first | assumption | simp_all
     rw [if_neg q] at ht1; simp at ht1
   refine pB (j + 1, rs', qs') (Front.c Front.nil) (bD 21 rfl) (o := ⟨by omega, by rw [A5 hlt0]; exact hrs', by rw [A5 hlt0]; exact hqs'⟩)
  refine bF (aI (aI (bv (aY (ac (ar (zz0 (cE rfl rfl) ?_)))))))
  refine zz0 (aa rfl) (ad ?_)
  have hje : j = (dS (l.getD k default)).length := by omega
  refine pB (k + 1, rs', qs', gd.set k (-1)) (Front.c Front.nil) (bD 30 rfl) (o := ⟨by omega, ⟨by rw [A4 (by assumption), ← hje]; exact hrs', by rw [A4 (by assumption), ← hje]; exact hqs'⟩, List.length_set.trans hgl, Jf (f := fun _ => -1) hgl hgm (by omega)⟩)
 refine bF (aI (aI (bv (ac (an ?_)))))
 obtain rfl : k = l.length := by omega
 refine wP (A := [cellE bx [VI, .map (some bm), VE, VG, VB, VV, VM] 228, rowE VG 3 bW gd, rowE VE 272 gZ rs, rowE VQ 224 dI qs]) (B := rs.map (rvE 274 eW)) qs (fun F8 hF8 hQ8 => ?_)
 change Tr _ _ (cellE bx [VI, .map (some bm), VE, VG, VB, VV, VM] 228 :: rowE VG 3 bW gd :: rowE VE 272 gZ rs :: rowE VQ 224 dI qs :: (rs.map (rvE 274 eW) ++ [])) _ _
 refine kM (V := VQ) (T := 224) (E := dI) (l := qs) (.there _ (.there _ (.there _ (.here _)))) (fun F9 hF89 hSQ => ?_)
 have hF9 := hF8.trans hF89
 have hQ9 := hQ8.mono hF89.blk
 have hI9 := hI.mono hF9.blk
 refine ar (zz0 (aa rfl) (zz0 (bB rfl) ?_))
 refine zz0 (zz2 (off := 0) (ft := 50) rfl bE rfl dy) ?_
 refine zz0 (kC rfl dN) ?_
 refine zz0 (gK rfl aR) ?_
 refine zz0 (aa rfl) (ad (aH ?_))
 refine bK (ι := Nat × List Int) (fun ⟨k, gd⟩ => k ≤ l.length ∧ gd.length = l.length ∧ (∀ j, j < k → gd.getD j default = nm l e (jS l l.length).into j) ∧ ∀ j, k ≤ j → j < l.length → gd.getD j default = -1) (fun _ => F9) (fun ⟨k, gd⟩ => (cellE bx [VI, .map (some bm), VE, VG, VB, VV, VM] 228 :: rowE VG 3 bW gd :: rowE VE 272 gZ rs :: (rs.map (rvE 274 eW) ++ []))) (fun ⟨k, gd⟩ => [(116, .int .i64 (k : Nat))]) (fun ⟨k, gd⟩ => l.length - k) (0, gd) ⟨Nat.zero_le _, hgl, fun j hj => absurd hj (Nat.not_lt_zero _), fun j _ hj => hgm j hj⟩ (Front.c Front.nil) (by repeat' (first | exact Pick.refl _ | exact Del.here _ | apply Pick.cons | apply Del.there | apply Pick.skip | exact Pick.nil _)) rfl (fun i hi m hm => ?_)
 obtain ⟨k, gd⟩ := i
 replace hi : k ≤ l.length ∧ gd.length = l.length ∧ (∀ j, j < k → gd.getD j default = nm l e (jS l l.length).into j) ∧ ∀ j, k ≤ j → j < l.length → gd.getD j default = -1 := hi
 replace hm : m = l.length - k := hm
 change Tr _ _ (cellE bx [VI, .map (some bm), VE, VG, VB, VV, VM] 228 :: rowE VG 3 bW gd :: rowE VE 272 gZ rs :: (rs.map (rvE 274 eW) ++ [])) ([(116, .int .i64 (k : Nat))] ++ _) _
 obtain ⟨hk2, hgl2, hgm2, hgm3⟩ := hi
 refine ah (zz0 (bT rfl rfl) (ad (an ?_)))
 refine ao rfl ?_ ?_ <;> intro h20 <;> try simp only [bs] at h20
 ·refine bA (an (aH (ah (zz0 (aa rfl) (zz0 (hZ rfl rfl aR ay) ?_)))))
  refine zz0 (na rfl aS ay) ?_
  refine dB bZ rfl (fun b21 => ?_)
  refine zz0 (ab rfl) (aF aT rfl rfl ay ?_)
  refine ad (an ?_)
  have hqk : Sl F9.blk bW (qs.getD k default).data (.slice (qs.getD k default).dp (qs.getD k default).data.length (qs.getD k default).dc) := hQ9 _ (de (by omega))
  have hib : ∀ x ∈ (qs.getD k default).data, 0 ≤ x ∧ x < (l.length : Int) := fun x hx => by
   rw [mS hqs k] at hx
   exact (sj l (Nat.le_refl _)).i _ (getD_mem hx) x hx
  refine g9 aU ?_
  refine aw (zz2 (off := 2) (ft := 3) rfl af rfl aB) ?_
  refine aw (aG rfl aJ) ?_
  refine aw (bh rfl rfl) (aw (aa rfl) ?_)
  apply fk
  ·exact (rfl : _ = (3, 124, 127))
  ·exact rfl
  ·intro hT22; have hT22' := hT22
   try simp only [bs] at hT22'
   refine bV hT22 (bC rfl aS ay) ?_
   refine bV hT22 (aD rfl kK (fun w hw => kD _ w (hIO _ (de (by omega))))) ?_
   refine aw (aK rfl hT22 rfl) ?_
   exact db (Sub.cons rfl (zz6 3 rfl))
  ·intro hF22
   refine bU hF22 (bU hF22 (aw (aL rfl hF22 rfl) ?_))
   exact db (Sub.cons rfl (zz6 3 rfl))
  refine aw (aa rfl) ?_
  apply fk
  ·exact (rfl : _ = (12, 128, 140))
  ·exact rfl
  ·intro hT23; have hT23' := hT23
   try simp only [bs] at hT23'
   refine bV hT23 (zz2 (off := 0) (ft := 23) rfl af rfl ae) ?_
   refine bV hT23 (aG rfl am) ?_
   refine bV hT23 (aa rfl) (bV hT23 (bB rfl) ?_)
   refine bV hT23 (zz2 (off := 0) (ft := 50) rfl bE rfl dy) ?_
   refine bV hT23 (kC rfl dN) ?_
   refine bV hT23 (aa rfl) (bV hT23 (hZ rfl rfl aR ay) ?_)
   refine bV hT23 (zz2 (off := 0) (ft := 23) rfl af rfl ae) ?_
   refine bV hT23 (pL rfl am) ?_
   refine bV hT23 (ij rfl rfl) ?_
   refine aw (aK rfl hT23 rfl) ?_
   exact db (Sub.cons rfl (zz6 12 rfl))
  ·intro hF23
   refine bU hF23 (bU hF23 (bU hF23 (bU hF23 (bU hF23 (bU hF23 (bU hF23 (bU hF23 (bU hF23 (bU hF23 (bU hF23 (aw (aL rfl hF23 rfl) ?_)))))))))))
   exact db (Sub.cons rfl (zz6 12 rfl))
  refine aw (aa rfl) ?_
  apply fk
  ·exact (rfl : _ = (7, 141, 148))
  ·exact rfl
  ·intro hT24; have hT24' := hT24
   try simp only [bs] at hT24'
   refine bV hT24 (aa rfl) (bV hT24 (aa rfl) (bV hT24 (hZ rfl rfl gG eP) ?_))
   refine bV hT24 (jP rfl gA) ?_
   refine bV hT24 (gK rfl cZ) ?_
   refine bV hT24 (bh rfl rfl) (aw (aK rfl hT24 rfl) ?_)
   exact db (Sub.cons rfl (zz6 7 rfl))
  ·intro hF24
   refine bU hF24 (bU hF24 (bU hF24 (bU hF24 (bU hF24 (bU hF24 (aw (aL rfl hF24 rfl) ?_))))))
   exact db (Sub.cons rfl (zz6 7 rfl))
  refine aw (aa rfl) ?_
  apply fk
  ·exact (rfl : _ = (14, 149, 163))
  ·exact rfl
  ·intro hT25; have hT25' := hT25
   try simp only [bs] at hT25'
   have hx0 := hib _ (de (k := 0) (by omega))
   refine bV hT25 (aa rfl) (bV hT25 (bB rfl) ?_)
   refine bV hT25 (zz2 (off := 0) (ft := 50) rfl bE rfl dy) ?_
   refine bV hT25 (kC rfl dN) ?_
   refine bV hT25 (aa rfl) (bV hT25 (aa rfl) (bV hT25 (hZ rfl rfl gG eP) ?_))
   refine bV hT25 (jP rfl gA) ?_
   refine bV hT25 (zB (i := 0) rfl rfl hqk cZ aB (by rfl) (by omega)) ?_
   refine bV hT25 (jP rfl aJ) ?_
   refine bV hT25 (lO rfl rfl aR ay) ?_
   refine bV hT25 (na rfl aS ay) ?_
   refine bV hT25 (aD rfl Tryz.call225 (fun w hw => t6 _ w (hIO _ (de (by omega))))) ?_
   refine aw (aK rfl hT25 rfl) ?_
   exact db (Sub.cons rfl (zz6 14 rfl))
  ·intro hF25
   refine bU hF25 (bU hF25 (bU hF25 (bU hF25 (bU hF25 (bU hF25 (bU hF25 (bU hF25 (bU hF25 (bU hF25 (bU hF25 (bU hF25 (bU hF25 (aw (aL rfl hF25 rfl) ?_)))))))))))))
   exact db (Sub.cons rfl (zz6 14 rfl))
  refine bI ?_
  refine ac ?_
  refine ao rfl ?_ ?_ <;> intro h26 <;> try simp only [bs] at h26
  ·have hgq := h26
   refine fR 0 12 aU ?_
   refine bH ?_
   refine aw (aa rfl) (aw (bB rfl) ?_)
   refine aw (zz2 (off := 3) (ft := 224) rfl bE rfl eP) ?_
   refine aw (kC rfl gA) ?_
   refine aw (aa rfl) (aw (aa rfl) (aw (aa rfl) (aw (hZ rfl rfl gG eP) ?_)))
   refine aw (jP rfl gA) ?_
   refine aw (zB (i := 0) rfl rfl hqk cZ aB (by rfl) (by omega)) ?_
   refine aw (jP rfl aJ) ?_
   refine aw (zz9 rfl rfl cZ aB) ?_
   refine bI ?_
   refine gw (l := gd) (i := k) (((qs.getD k default).data.getD 0 default)) rfl rfl aB ?_
   have hls27 : (List.set gd (k) (((qs.getD k default).data.getD 0 default))).length = (gd).length := List.length_set
   refine ax (aY (ac (ar (zz0 (cE rfl rfl) ?_))))
   refine zz0 (aa rfl) (ad ?_)
   have hgv : nm l e (jS l l.length).into k = ((qs.getD k default).data.getD 0 default) := by
    unfold nm
    rw [← mS hqs k]
    exact if_pos ⟨hgq.1.1.1.1, hgq.1.1.1.2, hgq.1.1.2, by omega, hgq.2⟩
   have hgy := Jf (n := l.length) hgl2 hgm2 (by omega)
   rw [hgv] at hgy
   refine pB (k + 1, gd.set k ((qs.getD k default).data.getD 0 default)) (Front.c Front.nil) (bD 32 rfl) (o := ⟨by omega, List.length_set.trans hgl2, hgy, JV hgm3⟩)
  have hgq := h26
  refine cg (aY (ac (ar (zz0 (cE rfl rfl) ?_))))
  refine zz0 (aa rfl) (ad ?_)
  have hgv : nm l e (jS l l.length).into k = -1 := by
   unfold nm
   rw [← mS hqs k]
   refine if_neg (fun hq => ?_)
   rcases hgq with (((q | q) | q) | q) | q
   ·exact q hq.1
   ·exact q hq.2.1
   ·exact hq.2.2.1 q
   ·exact q (by omega)
   ·rw [hq.2.2.2.2] at q; cases q
  refine pB (k + 1, gd) (Front.c Front.nil) (bD 20 rfl) (o := ⟨by omega, hgl2, JW hgl2 hgm2 ((hgm3 k (Nat.le_refl _) (by omega)).trans hgv.symm), fun j h1 h2 => hgm3 j (by omega) h2⟩)
 refine bF (aI (aI (bv ?_)))
 refine fE Tryz.results161 (fun w' hw => ?_)
 have hgg := Ez hgl2 (fun j hj => hgm2 j (by omega))
 rw [hgg, List.append_nil] at hw
 exact ⟨(VE, VG, rs), rfl, hw.upd hF9 (by repeat' (first | exact Pick.refl _ | exact Del.here _ | apply Pick.cons | apply Del.there | apply Pick.skip | exact Pick.nil _)), hrs⟩
end Go.Proofs.YtiajjbhcpeadfaaGreat
namespace Go.Proofs.YtiajjbhcpeadfaaGreat
open Go Go.HL Go.RowKit
theorem B9 (l : List Bool) (V : Value) (a : Bool) (w : World) (hV : Sl (hp w) cH l V) :
  Cr Tryz.prog 163 #[V, .bool a] w (.int .i64 (ei (fun x => decide (a = x)) 0 l)) := by
 have hV' : Sl (Bg.of w).blk cH l V := hV
 have hlV := hV'.len_le
 refine enter Tryz.func163 rfl Tryz.ntmps163 rfl ?_
 refine ah (zz0 (ab rfl) (ad (an (ah (zz0 (aa rfl) (zz0 (gK rfl eK) ?_))))))
 refine zz0 (aa rfl) (ad (aH ?_))
 refine bK (ι := Nat) (fun k => k ≤ l.length ∧ ei (fun x => decide (a = x)) k (l.drop k) = ei (fun x => decide (a = x)) 0 l) (fun _ => _) (fun k => []) (fun k => [(8, .int .i64 (k : Nat))]) (fun k => l.length - k) 0 ⟨Nat.zero_le _, rfl⟩ (Front.c Front.nil) (by repeat' constructor) rfl (fun k hi m hm => ?_)
 replace hi : k ≤ l.length ∧ ei (fun x => decide (a = x)) k (l.drop k) = ei (fun x => decide (a = x)) 0 l := hi
 replace hm : m = l.length - k := hm
 change Tr _ _ [] ([(8, .int .i64 (k : Nat))] ++ _) _
 obtain ⟨hk1, hk2⟩ := hi
 refine ah (zz0 (bT rfl rfl) (ad (an ?_)))
 refine ao rfl ?_ ?_ <;> intro h1 <;> try simp only [bs] at h1
 ·refine bA (an (aH (ah (zz0 (aa rfl) (zz0 (ab rfl) (aM (zz0 (aa rfl) (zz0 (aa rfl) ?_))))))))
  refine zz0 (aa rfl) (zz0 (hZ rfl rfl eK bN) ?_)
  refine zz0 (jP rfl cm) ?_
  refine zz0 (BB rfl rfl Tryz.underlying4) ?_
  refine ad ?_
  refine ao rfl ?_ ?_ <;> intro h2 <;> try simp only [bs] at h2
  ·refine ah (zz0 (aa rfl) (zz0 (ab rfl) (ad (aC (bj (aA (aA (bj (aA ?_)))))))))
   refine aO Tryz.results163 rfl (fun w' hw => ?_)
   exact ⟨by rw [← hk2, drop_cons (k := k) (by omega), ei, if_pos (by simp_all)], hw.b0⟩
  refine cg (aY (ac (ar (zz0 (cE rfl rfl) ?_))))
  refine zz0 (aa rfl) (ad ?_)
  refine cF (k + 1) (Front.c Front.nil) (bD 12 rfl) (o := ⟨by omega, by rw [← hk2, drop_cons (k := k) (by omega), ei, if_neg (by simp_all)]⟩)
 refine bF (aI (aI (bv (ac (ah (zz0 (ab rfl) (ad (aC ?_))))))))
 refine aO Tryz.results163 rfl (fun w' hw => ?_)
 exact ⟨by rw [← hk2, List.drop_of_length_le (by omega)]; rfl, hw.b0⟩
theorem Bh (l : List Ins) (entry : UInt32) (rounds : Nat) (V : Value) (w : World) (hI : Sl (hp w) aT l V) (hIO : ∀ x ∈ l, InsOK x) (hrd : rounds ≤ 100000) :
  Calls Tryz.prog 107 #[V, .int .u32 entry.toNat, .int .i64 (rounds : Nat)] w (fun e w' => ∃ V : Value, e = .returned (.tuple #[V, .int .i64 (eO l entry rounds).2]) ∧ Below w.heap.size w w' ∧ NewEnts w w' [rowE V 37 cO (eO l entry rounds).1]) := by
 obtain ⟨pV, cV, hvp, _⟩ := hI.shape
 subst hvp
 have hI0 : Sl (Bg.of0 w).blk aT l (.slice pV l.length cV) := hI
 have hlI := hI0.len_le
 refine mF Tryz.func107 rfl Tryz.ntmps107 rfl ?_
 refine ah (zz0 (ab rfl) (zz0 (ab rfl) (ad (an (ah (zz0 (aa rfl) (zz0 (gK rfl aR) ?_)))))))
 refine zz0 (eo rfl rfl) (ad ?_)
 refine ao rfl ?_ ?_ <;> intro h1 <;> try simp only [bs] at h1
 ·refine an (cn 37 cO ?_)
  refine ar (zz0 (ab rfl) (zz0 (ab rfl) (ad (aC (aA ?_)))))
  refine cN kZ rfl rfl (fun w' hw => ?_)
  have e : eO l entry rounds = ([], 6) := if_pos (by omega)
  refine ⟨.slice none 0 0, by rw [e], hw.below0 (Bg.le.refl _), by rw [e]; exact hw.ents0 rfl (by repeat' constructor)⟩
 refine bA ?_
 refine dj (ι := Nat × Nat × Nat × Nat) (fun ⟨bm, bvv, bww, bq⟩ => True) (fun _ => (Bg.of0 w)) (fun ⟨bm, bvv, bww, bq⟩ => [cellE bq [(.slice pV l.length cV), .map (some bm), .slice none 0 0, .slice none 0 0, .slice none 0 0, .slice (some ⟨bvv, 0, none⟩) (List.replicate l.length (0 : Int)).length l.length, .slice (some ⟨bww, 0, none⟩) (List.replicate l.length false).length l.length] 228, mapE bm iM [], rowE (.slice (some ⟨bvv, 0, none⟩) (List.replicate l.length (0 : Int)).length l.length) 3 bW (List.replicate l.length 0), rowE (.slice (some ⟨bww, 0, none⟩) (List.replicate l.length false).length l.length) 4 cH (List.replicate l.length false)]) (fun ⟨bm, bvv, bww, bq⟩ => [(8, .pointer (some ⟨bq, 0, none⟩))]) ?_ (fun i hi => ?_)
 ·skip
  refine dZ ([]) 11 rfl aU ?_
  refine zz7 0 rfl (aa rfl) ?_
  refine zz7 2 rfl (aa rfl) ?_
  refine Dx 3 rfl (by kernel_rfl) (bP dG) rfl aR ?_
  refine zz7 5 rfl (aa rfl) ?_
  refine Dx 6 rfl (by kernel_rfl) (bP dG) rfl aR ?_
  refine dA [1, 4, 7] (fun iq hq => ?_)
  rcases List.mem_cons.1 hq with rfl | hq
  ·skip
   refine bJ rfl ?_
   refine gW iM rfl (fun bm => ?_)
   refine cj ?_
   refine dA [4, 7] (fun iq hq => ?_)
   rcases List.mem_cons.1 hq with rfl | hq
   ·skip
    refine bJ rfl ?_
    refine jH (E := bW) 0 rfl rfl cZ kO rfl rfl rfl (by constructor <;> omega) rfl (fun bvv => ?_)
    refine cj ?_
    refine dA [7] (fun iq hq => ?_)
    obtain rfl := List.mem_singleton.1 hq
    refine bJ rfl ?_
    refine jH (E := cH) false rfl rfl eK ov rfl rfl rfl (by constructor <;> omega) rfl (fun bww => ?_)
    refine cj ?_
    refine kw 8 rfl (by kernel_rfl) (bP dG) (bL (vs := [(0, _), (1, _), (5, _), (6, _)]) (cs := #[(.slice pV l.length cV), .map (some bm), .slice none 0 0, .slice none 0 0, .slice none 0 0, .slice (some ⟨bvv, 0, none⟩) (List.replicate l.length (0 : Int)).length l.length, .slice (some ⟨bww, 0, none⟩) (List.replicate l.length false).length l.length]) rfl rfl (by kernel_rfl)) ?_
    refine dA [9] (fun iq hq => ?_)
    obtain rfl := List.mem_singleton.1 hq
    refine bJ rfl ?_
    refine dq (cs := [(.slice pV l.length cV), .map (some bm), .slice none 0 0, .slice none 0 0, .slice none 0 0, .slice (some ⟨bvv, 0, none⟩) (List.replicate l.length (0 : Int)).length l.length, .slice (some ⟨bww, 0, none⟩) (List.replicate l.length false).length l.length]) rfl rfl (fun bq => ?_)
    refine cj ?_
    refine zz7 10 rfl (ab rfl) ?_
    refine jg ?_
    refine ac ?_
    refine cD (_, _, _, _) (Front.c Front.nil) (bD 11 rfl) (o := trivial)
   obtain rfl := List.mem_singleton.1 hq
   refine bJ rfl ?_
   refine jH (E := cH) false rfl rfl eK ov rfl rfl rfl (by constructor <;> omega) rfl (fun bww => ?_)
   refine cj ?_
   refine dA [4] (fun iq hq => ?_)
   obtain rfl := List.mem_singleton.1 hq
   refine bJ rfl ?_
   refine jH (E := bW) 0 rfl rfl cZ kO rfl rfl rfl (by constructor <;> omega) rfl (fun bvv => ?_)
   refine cj ?_
   refine kw 8 rfl (by kernel_rfl) (bP dG) (bL (vs := [(0, _), (1, _), (5, _), (6, _)]) (cs := #[(.slice pV l.length cV), .map (some bm), .slice none 0 0, .slice none 0 0, .slice none 0 0, .slice (some ⟨bvv, 0, none⟩) (List.replicate l.length (0 : Int)).length l.length, .slice (some ⟨bww, 0, none⟩) (List.replicate l.length false).length l.length]) rfl rfl (by kernel_rfl)) ?_
   refine dA [9] (fun iq hq => ?_)
   obtain rfl := List.mem_singleton.1 hq
   refine bJ rfl ?_
   refine dq (cs := [(.slice pV l.length cV), .map (some bm), .slice none 0 0, .slice none 0 0, .slice none 0 0, .slice (some ⟨bvv, 0, none⟩) (List.replicate l.length (0 : Int)).length l.length, .slice (some ⟨bww, 0, none⟩) (List.replicate l.length false).length l.length]) rfl rfl (fun bq => ?_)
   refine cj ?_
   refine zz7 10 rfl (ab rfl) ?_
   refine jg ?_
   refine ac ?_
   refine cD (_, _, _, _) (Front.c Front.nil) (bD 11 rfl) (o := trivial)
  rcases List.mem_cons.1 hq with rfl | hq
  ·skip
   refine bJ rfl ?_
   refine jH (E := bW) 0 rfl rfl cZ kO rfl rfl rfl (by constructor <;> omega) rfl (fun bvv => ?_)
   refine cj ?_
   refine dA [1, 7] (fun iq hq => ?_)
   rcases List.mem_cons.1 hq with rfl | hq
   ·skip
    refine bJ rfl ?_
    refine gW iM rfl (fun bm => ?_)
    refine cj ?_
    refine dA [7] (fun iq hq => ?_)
    obtain rfl := List.mem_singleton.1 hq
    refine bJ rfl ?_
    refine jH (E := cH) false rfl rfl eK ov rfl rfl rfl (by constructor <;> omega) rfl (fun bww => ?_)
    refine cj ?_
    refine kw 8 rfl (by kernel_rfl) (bP dG) (bL (vs := [(0, _), (1, _), (5, _), (6, _)]) (cs := #[(.slice pV l.length cV), .map (some bm), .slice none 0 0, .slice none 0 0, .slice none 0 0, .slice (some ⟨bvv, 0, none⟩) (List.replicate l.length (0 : Int)).length l.length, .slice (some ⟨bww, 0, none⟩) (List.replicate l.length false).length l.length]) rfl rfl (by kernel_rfl)) ?_
    refine dA [9] (fun iq hq => ?_)
    obtain rfl := List.mem_singleton.1 hq
    refine bJ rfl ?_
    refine dq (cs := [(.slice pV l.length cV), .map (some bm), .slice none 0 0, .slice none 0 0, .slice none 0 0, .slice (some ⟨bvv, 0, none⟩) (List.replicate l.length (0 : Int)).length l.length, .slice (some ⟨bww, 0, none⟩) (List.replicate l.length false).length l.length]) rfl rfl (fun bq => ?_)
    refine cj ?_
    refine zz7 10 rfl (ab rfl) ?_
    refine jg ?_
    refine ac ?_
    refine cD (_, _, _, _) (Front.c Front.nil) (bD 11 rfl) (o := trivial)
   obtain rfl := List.mem_singleton.1 hq
   refine bJ rfl ?_
   refine jH (E := cH) false rfl rfl eK ov rfl rfl rfl (by constructor <;> omega) rfl (fun bww => ?_)
   refine cj ?_
   refine dA [1] (fun iq hq => ?_)
   obtain rfl := List.mem_singleton.1 hq
   refine bJ rfl ?_
   refine gW iM rfl (fun bm => ?_)
   refine cj ?_
   refine kw 8 rfl (by kernel_rfl) (bP dG) (bL (vs := [(0, _), (1, _), (5, _), (6, _)]) (cs := #[(.slice pV l.length cV), .map (some bm), .slice none 0 0, .slice none 0 0, .slice none 0 0, .slice (some ⟨bvv, 0, none⟩) (List.replicate l.length (0 : Int)).length l.length, .slice (some ⟨bww, 0, none⟩) (List.replicate l.length false).length l.length]) rfl rfl (by kernel_rfl)) ?_
   refine dA [9] (fun iq hq => ?_)
   obtain rfl := List.mem_singleton.1 hq
   refine bJ rfl ?_
   refine dq (cs := [(.slice pV l.length cV), .map (some bm), .slice none 0 0, .slice none 0 0, .slice none 0 0, .slice (some ⟨bvv, 0, none⟩) (List.replicate l.length (0 : Int)).length l.length, .slice (some ⟨bww, 0, none⟩) (List.replicate l.length false).length l.length]) rfl rfl (fun bq => ?_)
   refine cj ?_
   refine zz7 10 rfl (ab rfl) ?_
   refine jg ?_
   refine ac ?_
   refine cD (_, _, _, _) (Front.c Front.nil) (bD 11 rfl) (o := trivial)
  obtain rfl := List.mem_singleton.1 hq
  refine bJ rfl ?_
  refine jH (E := cH) false rfl rfl eK ov rfl rfl rfl (by constructor <;> omega) rfl (fun bww => ?_)
  refine cj ?_
  refine dA [1, 4] (fun iq hq => ?_)
  rcases List.mem_cons.1 hq with rfl | hq
  ·skip
   refine bJ rfl ?_
   refine gW iM rfl (fun bm => ?_)
   refine cj ?_
   refine dA [4] (fun iq hq => ?_)
   obtain rfl := List.mem_singleton.1 hq
   refine bJ rfl ?_
   refine jH (E := bW) 0 rfl rfl cZ kO rfl rfl rfl (by constructor <;> omega) rfl (fun bvv => ?_)
   refine cj ?_
   refine kw 8 rfl (by kernel_rfl) (bP dG) (bL (vs := [(0, _), (1, _), (5, _), (6, _)]) (cs := #[(.slice pV l.length cV), .map (some bm), .slice none 0 0, .slice none 0 0, .slice none 0 0, .slice (some ⟨bvv, 0, none⟩) (List.replicate l.length (0 : Int)).length l.length, .slice (some ⟨bww, 0, none⟩) (List.replicate l.length false).length l.length]) rfl rfl (by kernel_rfl)) ?_
   refine dA [9] (fun iq hq => ?_)
   obtain rfl := List.mem_singleton.1 hq
   refine bJ rfl ?_
   refine dq (cs := [(.slice pV l.length cV), .map (some bm), .slice none 0 0, .slice none 0 0, .slice none 0 0, .slice (some ⟨bvv, 0, none⟩) (List.replicate l.length (0 : Int)).length l.length, .slice (some ⟨bww, 0, none⟩) (List.replicate l.length false).length l.length]) rfl rfl (fun bq => ?_)
   refine cj ?_
   refine zz7 10 rfl (ab rfl) ?_
   refine jg ?_
   refine ac ?_
   refine cD (_, _, _, _) (Front.c Front.nil) (bD 11 rfl) (o := trivial)
  obtain rfl := List.mem_singleton.1 hq
  refine bJ rfl ?_
  refine jH (E := bW) 0 rfl rfl cZ kO rfl rfl rfl (by constructor <;> omega) rfl (fun bvv => ?_)
  refine cj ?_
  refine dA [1] (fun iq hq => ?_)
  obtain rfl := List.mem_singleton.1 hq
  refine bJ rfl ?_
  refine gW iM rfl (fun bm => ?_)
  refine cj ?_
  refine kw 8 rfl (by kernel_rfl) (bP dG) (bL (vs := [(0, _), (1, _), (5, _), (6, _)]) (cs := #[(.slice pV l.length cV), .map (some bm), .slice none 0 0, .slice none 0 0, .slice none 0 0, .slice (some ⟨bvv, 0, none⟩) (List.replicate l.length (0 : Int)).length l.length, .slice (some ⟨bww, 0, none⟩) (List.replicate l.length false).length l.length]) rfl rfl (by kernel_rfl)) ?_
  refine dA [9] (fun iq hq => ?_)
  obtain rfl := List.mem_singleton.1 hq
  refine bJ rfl ?_
  refine dq (cs := [(.slice pV l.length cV), .map (some bm), .slice none 0 0, .slice none 0 0, .slice none 0 0, .slice (some ⟨bvv, 0, none⟩) (List.replicate l.length (0 : Int)).length l.length, .slice (some ⟨bww, 0, none⟩) (List.replicate l.length false).length l.length]) rfl rfl (fun bq => ?_)
  refine cj ?_
  refine zz7 10 rfl (ab rfl) ?_
  refine jg ?_
  refine ac ?_
  refine cD (_, _, _, _) (Front.c Front.nil) (bD 11 rfl) (o := trivial)
 obtain ⟨bm, bvv, bww, bq⟩ := i
 replace hi : True := hi
 change Tr _ _ [cellE bq [(.slice pV l.length cV), .map (some bm), .slice none 0 0, .slice none 0 0, .slice none 0 0, .slice (some ⟨bvv, 0, none⟩) (List.replicate l.length (0 : Int)).length l.length, .slice (some ⟨bww, 0, none⟩) (List.replicate l.length false).length l.length] 228, mapE bm iM [], rowE (.slice (some ⟨bvv, 0, none⟩) (List.replicate l.length (0 : Int)).length l.length) 3 bW (List.replicate l.length 0), rowE (.slice (some ⟨bww, 0, none⟩) (List.replicate l.length false).length l.length) 4 cH (List.replicate l.length false)] ([(8, .pointer (some ⟨bq, 0, none⟩))] ++ _) _
 obtain ⟨VV, hVV⟩ : ∃ V, V = Value.slice (some ⟨bvv, 0, none⟩) (List.replicate l.length (0 : Int)).length l.length := ⟨_, rfl⟩
 obtain ⟨VM, hVM⟩ : ∃ V, V = Value.slice (some ⟨bww, 0, none⟩) (List.replicate l.length false).length l.length := ⟨_, rfl⟩
 rw [← hVV, ← hVM]
 refine an (ah (zz0 (aa rfl) (zz0 (gK rfl aR) ?_)))
 refine zz0 (aa rfl) (ad (aH (cn 37 cO ?_)))
 refine bK (ι := Nat × Value) (fun ⟨k, Vb⟩ => k ≤ l.length) (fun _ => _) (fun ⟨k, Vb⟩ => [cellE bq [(.slice pV l.length cV), .map (some bm), .slice none 0 0, .slice none 0 0, Vb, VV, VM] 228, rowE Vb 37 cO (List.replicate k (jj 8)), mapE bm iM (atK l k), rowE VV 3 bW (List.replicate l.length 0), rowE VM 4 cH (List.replicate l.length false)]) (fun ⟨k, Vb⟩ => [(32, .int .i64 (k : Nat))]) (fun ⟨k, Vb⟩ => l.length - k) (0, _) (Nat.zero_le _) (Front.c Front.nil) (by repeat' constructor) rfl (fun i hi m hm => ?_)
 obtain ⟨k, Vb⟩ := i
 replace hi : k ≤ l.length := hi
 replace hm : m = l.length - k := hm
 change Tr _ _ [cellE bq [(.slice pV l.length cV), .map (some bm), .slice none 0 0, .slice none 0 0, Vb, VV, VM] 228, rowE Vb 37 cO (List.replicate k (jj 8)), mapE bm iM (atK l k), rowE VV 3 bW (List.replicate l.length 0), rowE VM 4 cH (List.replicate l.length false)] ([(32, .int .i64 (k : Nat))] ++ _) _
 have hrk : (List.replicate k (jj 8)).length = k := List.length_replicate
 refine ah (zz0 (bT rfl rfl) (ad (an ?_)))
 refine ao rfl ?_ ?_ <;> intro h2 <;> try simp only [bs] at h2
 ·refine bA (an (aH (ah (zz0 (aa rfl) (zz0 (hZ rfl rfl aR ay) ?_)))))
  refine zz0 (na rfl aS ay) ?_
  refine dB bZ rfl (fun b3 => ?_)
  refine zz0 (ab rfl) (aF aT rfl rfl ay ?_)
  refine ad ?_
  refine dj (ι := List (UInt32 × Int)) (fun m1 => m1 = atK l (k + 1)) (fun _ => (Bg.of0 w)) (fun m1 => [cellE b3 (aT.enc (l.getD k default)) 36, cellE bq [(.slice pV l.length cV), .map (some bm), .slice none 0 0, .slice none 0 0, Vb, VV, VM] 228, rowE Vb 37 cO (List.replicate k (jj 8)), mapE bm iM m1, rowE VV 3 bW (List.replicate l.length 0), rowE VM 4 cH (List.replicate l.length false)]) (fun m1 => []) ?_ (fun m1 hi => ?_)
  ·skip
   refine an (g9 aU ?_)
   refine aw (aa rfl) (aw (bB rfl) ?_)
   refine aw (zz2 (off := 1) (ft := 223) rfl bE rfl ku) ?_
   refine aw (kC rfl lq) ?_
   refine aw (zz2 (off := 0) (ft := 23) rfl af rfl ae) ?_
   refine aw (aG rfl am) ?_
   refine aw (wc rfl rfl (by repeat constructor) iF aP ja) ?_
   refine aw (aa rfl) (aw (aQ rfl rfl) (aw (aQ rfl rfl) (aw (ab rfl) (aw (ab rfl) (bI ?_)))))
   refine ac (ah (zz0 (aa rfl) (zz0 (cp rfl) (ad ?_))))
   refine ao rfl ?_ ?_ <;> intro h4 <;> try simp only [bs] at h4
   ·refine fR 0 7 aU ?_
    refine bH ?_
    refine aw (aa rfl) (aw (bB rfl) ?_)
    refine aw (zz2 (off := 1) (ft := 223) rfl bE rfl ku) ?_
    refine aw (kC rfl lq) ?_
    refine aw (zz2 (off := 0) (ft := 23) rfl af rfl ae) ?_
    refine aw (aG rfl am) ?_
    refine aw (aa rfl) (bI ?_)
    refine gx (k : Int) rfl rfl rfl (by repeat constructor) iF aP rfl ?_
    refine ad ?_
    refine cD _ Front.nil (bD 21 rfl) (o := (show _ = atK l (k + 1) from (if_neg (by simp_all)).symm))
   refine bA ?_
   refine cD _ Front.nil (bD 14 rfl) (o := (show _ = atK l (k + 1) from (if_pos (by simp_all)).symm))
  skip
  replace hi : m1 = atK l (k + 1) := hi
  change Tr _ _ [cellE b3 (aT.enc (l.getD k default)) 36, cellE bq [(.slice pV l.length cV), .map (some bm), .slice none 0 0, .slice none 0 0, Vb, VV, VM] 228, rowE Vb 37 cO (List.replicate k (jj 8)), mapE bm iM m1, rowE VV 3 bW (List.replicate l.length 0), rowE VM 4 cH (List.replicate l.length false)] ([] ++ _) _
  subst hi
  refine dZ ([]) 11 rfl aU ?_
  refine zz7 0 rfl (aa rfl) ?_
  refine zz7 1 rfl (aa rfl) ?_
  refine zz7 2 rfl (bB rfl) ?_
  refine zz7 3 rfl (zz2 (off := 4) (ft := 177) rfl bE rfl eQ) ?_
  refine dA [4, 5] (fun iq hq => ?_)
  rcases List.mem_cons.1 hq with rfl | hq
  ·skip
   refine bJ rfl ?_
   refine zz0 (kC rfl ig) ?_
   refine cj ?_
   refine dA [5] (fun iq hq => ?_)
   obtain rfl := List.mem_singleton.1 hq
   refine bJ rfl ?_
   refine zz0 (aD rfl Tryz.call160 (fun w hw => xI w)) ?_
   refine cj ?_
   refine dA [6] (fun iq hq => ?_)
   obtain rfl := List.mem_singleton.1 hq
   refine bJ rfl ?_
   refine jl (E := cO) (jj 8) rfl rfl dW aV cU (fun V5 => ?_)
   refine cj ?_
   refine dA [7] (fun iq hq => ?_)
   obtain rfl := List.mem_singleton.1 hq
   refine bJ rfl ?_
   refine zz1 rfl rfl dW rz (fun V6 => ?_)
   refine dz (.head _) (fun pb cb hpb => ?_)
   subst hpb
   refine cj ?_
   refine zz7 8 rfl (bB rfl) ?_
   refine zz7 9 rfl (zz2 (off := 4) (ft := 177) rfl bE rfl eQ) ?_
   refine dA [10] (fun iq hq => ?_)
   obtain rfl := List.mem_singleton.1 hq
   refine bJ rfl ?_
   refine zz5 rfl rfl eQ rfl ?_
   change Tr _ _ [rowE (.slice pb ((List.replicate k (jj 8)) ++ [jj 8]).length cb) 37 cO ((List.replicate k (jj 8)) ++ [jj 8]), cellE b3 (aT.enc (l.getD k default)) 36, cellE bq [(.slice pV l.length cV), .map (some bm), .slice none 0 0, .slice none 0 0, (.slice pb ((List.replicate k (jj 8)) ++ [jj 8]).length cb), VV, VM] 228, mapE bm iM (atK l (k + 1)), rowE VV 3 bW (List.replicate l.length 0), rowE VM 4 cH (List.replicate l.length false)] _ _
   refine cj ?_
   refine jg ?_
   refine aY (ac (ar (zz0 (cE rfl rfl) ?_)))
   refine zz0 (aa rfl) (ad ?_)
   rw [← List.replicate_succ']
   refine cF (k + 1, _) (Front.c Front.nil) (bD 19 rfl) (o := (by show k + 1 ≤ _; omega))
  obtain rfl := List.mem_singleton.1 hq
  refine bJ rfl ?_
  refine zz0 (aD rfl Tryz.call160 (fun w hw => xI w)) ?_
  refine cj ?_
  refine dA [4, 6] (fun iq hq => ?_)
  rcases List.mem_cons.1 hq with rfl | hq
  ·skip
   refine bJ rfl ?_
   refine zz0 (kC rfl ig) ?_
   refine cj ?_
   refine dA [6] (fun iq hq => ?_)
   obtain rfl := List.mem_singleton.1 hq
   refine bJ rfl ?_
   refine jl (E := cO) (jj 8) rfl rfl dW aV cU (fun V7 => ?_)
   refine cj ?_
   refine dA [7] (fun iq hq => ?_)
   obtain rfl := List.mem_singleton.1 hq
   refine bJ rfl ?_
   refine zz1 rfl rfl dW rz (fun V8 => ?_)
   refine dz (.head _) (fun pb cb hpb => ?_)
   subst hpb
   refine cj ?_
   refine zz7 8 rfl (bB rfl) ?_
   refine zz7 9 rfl (zz2 (off := 4) (ft := 177) rfl bE rfl eQ) ?_
   refine dA [10] (fun iq hq => ?_)
   obtain rfl := List.mem_singleton.1 hq
   refine bJ rfl ?_
   refine zz5 rfl rfl eQ rfl ?_
   change Tr _ _ [rowE (.slice pb ((List.replicate k (jj 8)) ++ [jj 8]).length cb) 37 cO ((List.replicate k (jj 8)) ++ [jj 8]), cellE b3 (aT.enc (l.getD k default)) 36, cellE bq [(.slice pV l.length cV), .map (some bm), .slice none 0 0, .slice none 0 0, (.slice pb ((List.replicate k (jj 8)) ++ [jj 8]).length cb), VV, VM] 228, mapE bm iM (atK l (k + 1)), rowE VV 3 bW (List.replicate l.length 0), rowE VM 4 cH (List.replicate l.length false)] _ _
   refine cj ?_
   refine jg ?_
   refine aY (ac (ar (zz0 (cE rfl rfl) ?_)))
   refine zz0 (aa rfl) (ad ?_)
   rw [← List.replicate_succ']
   refine cF (k + 1, _) (Front.c Front.nil) (bD 19 rfl) (o := (by show k + 1 ≤ _; omega))
  obtain rfl := List.mem_singleton.1 hq
  refine bJ rfl ?_
  refine jl (E := cO) (jj 8) rfl rfl dW aV cU (fun V9 => ?_)
  refine cj ?_
  refine dA [4] (fun iq hq => ?_)
  obtain rfl := List.mem_singleton.1 hq
  refine bJ rfl ?_
  refine zz0 (kC rfl ig) ?_
  refine cj ?_
  refine dA [7] (fun iq hq => ?_)
  obtain rfl := List.mem_singleton.1 hq
  refine bJ rfl ?_
  refine zz1 rfl rfl dW rz (fun V10 => ?_)
  refine dz (.head _) (fun pb cb hpb => ?_)
  subst hpb
  refine cj ?_
  refine zz7 8 rfl (bB rfl) ?_
  refine zz7 9 rfl (zz2 (off := 4) (ft := 177) rfl bE rfl eQ) ?_
  refine dA [10] (fun iq hq => ?_)
  obtain rfl := List.mem_singleton.1 hq
  refine bJ rfl ?_
  refine zz5 rfl rfl eQ rfl ?_
  change Tr _ _ [rowE (.slice pb ((List.replicate k (jj 8)) ++ [jj 8]).length cb) 37 cO ((List.replicate k (jj 8)) ++ [jj 8]), cellE b3 (aT.enc (l.getD k default)) 36, cellE bq [(.slice pV l.length cV), .map (some bm), .slice none 0 0, .slice none 0 0, (.slice pb ((List.replicate k (jj 8)) ++ [jj 8]).length cb), VV, VM] 228, mapE bm iM (atK l (k + 1)), rowE VV 3 bW (List.replicate l.length 0), rowE VM 4 cH (List.replicate l.length false)] _ _
  refine cj ?_
  refine jg ?_
  refine aY (ac (ar (zz0 (cE rfl rfl) ?_)))
  refine zz0 (aa rfl) (ad ?_)
  rw [← List.replicate_succ']
  refine cF (k + 1, _) (Front.c Front.nil) (bD 19 rfl) (o := (by show k + 1 ≤ _; omega))
 refine bF (aI (aI (bv (ac (an ?_)))))
 obtain rfl : k = l.length := by omega
 refine ar (zz0 (aa rfl) (zz0 (bB rfl) ?_))
 refine zz0 (zz2 (off := 1) (ft := 223) rfl bE rfl ku) ?_
 refine zz0 (kC rfl lq) ?_
 refine zz0 (aa rfl) (zz0 (wc rfl rfl (by repeat constructor) iF aP ja) ?_)
 rw [Cs]
 obtain ⟨fe, hfe⟩ : ∃ fe, fe = dY l entry := ⟨_, rfl⟩
 rw [← hfe]
 refine zz0 (aa rfl) (zz0 (aQ rfl rfl) (zz0 (aQ rfl rfl) (zz0 (ab rfl) (zz0 (ab rfl) (ad (an (ah (zz0 (aa rfl) (zz0 (cp rfl) (ad ?_))))))))))
 refine ao rfl ?_ ?_ <;> intro h11 <;> try simp only [bs] at h11
 ·refine an (cn 37 cO ?_)
  refine ar (zz0 (ab rfl) (zz0 (ab rfl) (ad (aC (aA ?_)))))
  refine cN kZ rfl rfl (fun w' hw => ?_)
  have ht1 : (if fe < 0 then none else some fe).isSome = false := by first | assumption | simp_all
  have ht0 : fe < 0 := by
   by_cases q : fe < 0
   ·exact q
   ·rw [if_neg q] at ht1; simp at ht1
  have e : eO l entry rounds = ([], 9) := by unfold eO; rw [if_neg (by omega), if_pos (by rw [← hfe]; exact ht0)]
  refine ⟨.slice none 0 0, by rw [e], hw.below0 (Bg.le.refl _), by rw [e]; exact hw.ents0 rfl (by repeat' constructor)⟩
 refine bA (an ?_)
 have ht1 : (if fe < 0 then none else some fe).isSome = true := by first | assumption | simp_all
 have ht0 : ¬ fe < 0 := fun q => by rw [if_pos q] at ht1; simp at ht1
 have htl := (sf l entry).2
 rw [← hfe] at htl
 rw [if_neg ht0, Option.getD_some]
 obtain ⟨fn, hfn⟩ : ∃ fn : Nat, fe = (fn : Int) := ⟨fe.toNat, by omega⟩
 subst hfn
 refine mM (b := bm) (by repeat constructor) (fun F1 hF1 hA1 => ?_)
 refine ar (zz0 (aa rfl) (zz0 (aa rfl) ?_))
 refine iZ (fun _ : Value × Value × List EdV => .tuple #[]) [cellE bq [(.slice pV l.length cV), .map (some bm), .slice none 0 0, .slice none 0 0, Vb, VV, VM] 228] (fun i : Value × Value × List EdV => cellE bq [(.slice pV l.length cV), .map (some bm), i.1, i.2.1, Vb, VV, VM] 228 :: rowE i.2.1 3 bW (fg l fn) :: rowE i.1 272 gZ i.2.2 :: i.2.2.map (rvE 274 eW)) (ok := fun i => i.2.2.map (·.data) = lG l) (dd := fun _ => 0) rfl Tryz.call161 (by repeat' constructor) (fun w hw => Nat.le_of_eq hF1.dr) (fun w hw => A3 l fn bq bm (.slice pV l.length cV) Vb VV VM w (hw.own (by repeat' constructor)) ((hI0.mono hF1.blk).mono (show Hp.le F1.blk (Bg.lessB w [bq] 0).blk from hw.lessB (Lo := [cellE bq [(.slice pV l.length cV), .map (some bm), .slice none 0 0, .slice none 0 0, Vb, VV, VM] 228]) (by repeat' constructor))) (hA1.mono (show Hp.le F1.blk (Bg.lessB w [bq] 0).blk from hw.lessB (Lo := [cellE bq [(.slice pV l.length cV), .map (some bm), .slice none 0 0, .slice none 0 0, Vb, VV, VM] 228]) (by repeat' constructor))) hIO (by omega) (by omega)) rfl (fun i15 hrs => ?_)
 obtain ⟨VE, VG, rs⟩ := i15
 replace hrs : rs.map (·.data) = lG l := hrs
 refine zt (A := [cellE bq [(.slice pV l.length cV), .map (some bm), VE, VG, Vb, VV, VM] 228, rowE VG 3 bW (fg l fn), rowE VE 272 gZ rs]) rs (fun F2 hF2 hEI2 => ?_)
 change Tr _ _ [cellE bq [(.slice pV l.length cV), .map (some bm), VE, VG, Vb, VV, VM] 228, rowE VG 3 bW (fg l fn), rowE VE 272 gZ rs, rowE Vb 37 cO (List.replicate l.length (jj 8)), rowE VV 3 bW (List.replicate l.length 0), rowE VM 4 cH (List.replicate l.length false)] _ _
 refine vX (b := bq) (.here _) (fun F3 hF3 hcx3 => ?_)
 refine kM (V := VG) (T := 3) (E := bW) (.here _) (fun F4 hF4 hG4 => ?_)
 refine kM (V := VE) (T := 272) (E := gZ) (.here _) (fun F5 hF5 hE5 => ?_)
 have hF15 := hF2.trans (hF3.trans (hF4.trans hF5))
 have hF05 := hF1.trans hF15
 have hEI5 := hEI2.mono (hF3.trans (hF4.trans hF5)).blk
 have hcx5 := hcx3.mono (hF4.trans hF5).blk
 have hG5 := hG4.mono hF5.blk
 have hI5 := hI0.mono hF05.blk
 have hdr5 : F5.dr = 0 := hF05.dr
 refine ad (an ?_)
 have hr1 : (List.replicate l.length (jj 8)).length = l.length := List.length_replicate
 have hr2 : (List.replicate l.length false).length = l.length := List.length_replicate
 refine fR 0 7 aU ?_
 refine bH ?_
 refine aw (aa rfl) (aw (bB rfl) ?_)
 refine aw (zz2 (off := 4) (ft := 177) rfl bE rfl eQ) ?_
 refine aw (fb rfl hcx5 ig (by rfl)) ?_
 refine aw (aa rfl) (aw (aD rfl Tryz.call162 (fun w hw => pQ w)) ?_)
 refine aw (zz9 rfl rfl dW aV) ?_
 refine bI ?_
 refine gw (l := (List.replicate l.length (jj 8))) (i := fn) ((yk 8)) rfl rfl aV ?_
 have hls12 : (List.set (List.replicate l.length (jj 8)) (fn) ((yk 8))).length = ((List.replicate l.length (jj 8))).length := List.length_set
 refine aM (zz0 (aa rfl) (zz0 (bB rfl) ?_))
 refine zz0 (zz2 (off := 6) (ft := 225) rfl bE rfl l6) ?_
 refine zz0 (fb rfl hcx5 m5 (by rfl)) ?_
 refine zz0 (aa rfl) (zz0 (zz9 rfl rfl eK bN) ?_)
 refine gw (l := (List.replicate l.length false)) (i := fn) (true) rfl rfl bN ?_
 have hls13 : (List.set (List.replicate l.length false) (fn) (true)).length = ((List.replicate l.length false)).length := List.length_set
 refine aM (zz0 (ab rfl) (ad (aH ?_)))
 refine bK (ι := Nat × VSt) (fun ⟨n, s⟩ => (n ≤ rounds ∧ iW l (fg l fn) (lG l) (rounds - n) s = iW l (fg l fn) (lG l) rounds (rc l fn)) ∧ (s.st.length = l.length ∧ s.vs.length = l.length ∧ s.mb.length = l.length) ∧ ∀ v ∈ s.vs, 0 ≤ v ∧ v ≤ (n : Int)) (fun _ => F5) (fun ⟨n, s⟩ => [rowE Vb 37 cO s.st, rowE VV 3 bW s.vs, rowE VM 4 cH s.mb]) (fun ⟨n, s⟩ => [(15, .int .i64 (n : Nat))]) (fun ⟨n, s⟩ => rounds - n) (0, (rc l fn)) ⟨⟨Nat.zero_le _, by rw [Nat.sub_zero]⟩, ⟨by simp [rc], by simp [rc], by simp [rc]⟩, fun v hv => by rw [(List.mem_replicate.1 hv).2]; omega⟩ (Front.c Front.nil) (by repeat' constructor) rfl (fun i hi m hm => ?_)
 obtain ⟨n, s⟩ := i
 replace hi : (n ≤ rounds ∧ iW l (fg l fn) (lG l) (rounds - n) s = iW l (fg l fn) (lG l) rounds (rc l fn)) ∧ (s.st.length = l.length ∧ s.vs.length = l.length ∧ s.mb.length = l.length) ∧ ∀ v ∈ s.vs, 0 ≤ v ∧ v ≤ (n : Int) := hi
 replace hm : m = rounds - n := hm
 change Tr _ _ [rowE Vb 37 cO s.st, rowE VV 3 bW s.vs, rowE VM 4 cH s.mb] ([(15, .int .i64 (n : Nat))] ++ _) _
 obtain ⟨⟨hnr, han⟩, ⟨hst, hvt, hmt⟩, hvn⟩ := hi
 refine an (aH (ah (zz0 (aa rfl) (zz0 (bB rfl) ?_))))
 refine zz0 (zz2 (off := 6) (ft := 225) rfl bE rfl l6) ?_
 refine zz0 (fb rfl hcx5 m5 (by rfl)) ?_
 refine zz0 (aD rfl Tryz.call163 (fun w hw => B9 s.mb VM true w (hw.row (by repeat constructor)))) ?_
 refine zz0 (ab rfl) (ad (an (ah (zz0 (aa rfl) (zz0 (bT rfl rfl) (ad ?_))))))
 refine ao rfl ?_ ?_ <;> intro h14 <;> try simp only [bs] at h14
 ·refine ah (zz0 (aa rfl) (zz0 (bB rfl) ?_))
  refine zz0 (zz2 (off := 4) (ft := 177) rfl bE rfl eQ) ?_
  refine zz0 (fb rfl hcx5 ig (by rfl)) ?_
  refine zz0 (ab rfl) (zz0 (ab rfl) (ad (aC (aA (bj (aA (aA (bj ?_))))))))
  refine cN kZ rfl rfl (fun w' hw => ?_)
  have e : eO l entry rounds = (s.st, 0) := by
   unfold eO
   rw [if_neg (by omega), if_neg (by rw [← hfe]; exact ht0), ← hfe, Int.toNat_natCast, ← han]
   exact wN (by show ei _ _ _ < 0; assumption)
  refine ⟨Vb, by rw [e], hw.below0 hF05, by rw [e]; exact hw.ents0 hF05.lo (by repeat' constructor)⟩
 refine bA (an (ah (zz0 (aa rfl) (zz0 (aa rfl) (zz0 (d6 rfl rfl) (ad ?_))))))
 refine ao rfl ?_ ?_ <;> intro h15 <;> try simp only [bs] at h15
 ·refine an (cn 37 cO ?_)
  refine ar (zz0 (ab rfl) (zz0 (ab rfl) (ad (aC (aA (bj (aA (aA (bj ?_)))))))))
  refine cN kZ rfl rfl (fun w' hw => ?_)
  have e : eO l entry rounds = ([], 15) := by
   unfold eO
   rw [if_neg (by omega), if_neg (by rw [← hfe]; exact ht0), ← hfe, Int.toNat_natCast, ← han, show rounds - n = 0 by omega]
   exact zk (by show ¬ ei _ _ _ < 0; omega)
  refine ⟨.slice none 0 0, by rw [e], hw.below0 hF05, by rw [e]; exact hw.ents0 hF05.lo (by repeat' constructor)⟩
 refine bA ?_
 obtain ⟨km, hkm⟩ : ∃ km : Nat, ei (fun x => decide (true = x)) 0 s.mb = (km : Int) := ⟨_, (Int.toNat_of_nonneg (by omega)).symm⟩
 rw [hkm]
 have hkl := j8 (fun x => decide (true = x)) s.mb 0
 refine ar (zz0 (aa rfl) (zz0 (aa rfl) ?_))
 refine iZ (fun _ : Unit => .tuple #[]) [rowE Vb 37 cO s.st, rowE VV 3 bW s.vs, rowE VM 4 cH s.mb] (fun _ => [rowE Vb 37 cO (jM l (fg l fn) (rs.getD km default).data km s).st, rowE VV 3 bW (jM l (fg l fn) (rs.getD km default).data km s).vs, rowE VM 4 cH (jM l (fg l fn) (rs.getD km default).data km s).mb]) (ok := fun _ => True) (dd := fun _ => 0) rfl Tryz.call164 (by repeat' constructor) (fun w hw => Nat.le_of_eq hdr5) (fun w hw => DT l (fg l fn) rs s bq bm km (.slice pV l.length cV) VE VG Vb VV VM w (hw.own (by repeat' constructor)) (hcx5.mono (show Hp.le F5.blk (Bg.lessB w (dm [rowE Vb 37 cO s.st, rowE VV 3 bW s.vs, rowE VM 4 cH s.mb]) 0).blk from hw.lessB (Lo := [rowE Vb 37 cO s.st, rowE VV 3 bW s.vs, rowE VM 4 cH s.mb]) (by repeat' constructor))) (hI5.mono (show Hp.le F5.blk (Bg.lessB w (dm [rowE Vb 37 cO s.st, rowE VV 3 bW s.vs, rowE VM 4 cH s.mb]) 0).blk from hw.lessB (Lo := [rowE Vb 37 cO s.st, rowE VV 3 bW s.vs, rowE VM 4 cH s.mb]) (by repeat' constructor))) (hG5.mono (show Hp.le F5.blk (Bg.lessB w (dm [rowE Vb 37 cO s.st, rowE VV 3 bW s.vs, rowE VM 4 cH s.mb]) 0).blk from hw.lessB (Lo := [rowE Vb 37 cO s.st, rowE VV 3 bW s.vs, rowE VM 4 cH s.mb]) (by repeat' constructor))) (hE5.mono (show Hp.le F5.blk (Bg.lessB w (dm [rowE Vb 37 cO s.st, rowE VV 3 bW s.vs, rowE VM 4 cH s.mb]) 0).blk from hw.lessB (Lo := [rowE Vb 37 cO s.st, rowE VV 3 bW s.vs, rowE VM 4 cH s.mb]) (by repeat' constructor))) (hEI5.mono (show Hp.le F5.blk (Bg.lessB w (dm [rowE Vb 37 cO s.st, rowE VV 3 bW s.vs, rowE VM 4 cH s.mb]) 0).blk from hw.lessB (Lo := [rowE Vb 37 cO s.st, rowE VV 3 bW s.vs, rowE VM 4 cH s.mb]) (by repeat' constructor))) hIO (vJ _ _) hst hvt hmt (ED hrs) (Ex _ _) (Ij hrs km) (fun v hv => by have := hvn v hv; omega) (by omega)) rfl (fun _ _ => ?_)
 refine ax (aY (ac (ar (zz0 (aa rfl) (zz0 (cE rfl rfl) ?_)))))
 refine zz0 (ab rfl) (ad ?_)
 have hfm : nn s.mb = (km : Int) := hkm
 have hstep : iW l (fg l fn) (lG l) (rounds - n) s = iW l (fg l fn) (lG l) (rounds - (n + 1)) (jM l (fg l fn) (rs.getD km default).data km s) := by
  rw [show rounds - n = rounds - (n + 1) + 1 by omega, wM (by rw [hfm]; omega), hfm, Int.toNat_natCast, mS hrs km]
 have hvl := BJ l (fg l fn) (rs.getD km default).data km s
 have hvv := E4 (l := l) (gd := (fg l fn)) (es := (rs.getD km default).data) (k := km) (by omega) hvn
 refine cF (n + 1, jM l (fg l fn) (rs.getD km default).data km s) (Front.c Front.nil) (bD 18 rfl) (o := ⟨⟨by omega, hstep.symm.trans han⟩, ⟨hvl.1.trans hst, hvl.2.1.trans hvt, hvl.2.2.trans hmt⟩, hvv⟩)
end Go.Proofs.YtiajjbhcpeadfaaGreat
namespace Go.HL
open Go
section
variable {P : Program} {N : Nat} {F : Bg} {L : List Ent} {M : Fr} {dst : Option Tmp} {ty : TypeId} {pos : String} {after : Array Edge} {g : Option (Nat × Bool)}
theorem EU {fo : Operand} {f : FuncId} {us : List Value} {xs : List Operand} {vs : List Value} {ts : Array TypeId} {v : Value} (hf : opv M fo = some (.func (.func f) us.toArray #[])) (hx : mr M xs = some vs)
  (he : ∀ (args : Array Value) (w : World), (callFunc f args).run P w = .ok (.enter f args) w)
  (hc : ∀ w, HpOK F L w → Calls P f (us ++ vs).toArray w fun e w' => e = .returned v ∧ Ext w w') :
  QS P N F L M ⟨dst, .call { callee := .value fo, args := xs.toArray, argTypes := ts }, ty, pos, after, g⟩ v := by
 intro a w ha hw
 unfold Oper.quietAt
 have h1 := ha.evals hx
 have h2 := ha.eval hf
 have hr : (execOp a.eval ⟨dst, .call { callee := .value fo, args := xs.toArray, argTypes := ts }, ty, pos, after, g⟩).run P w = .ok (.enter f (us ++ vs).toArray) w := by
  simp [execOp, resolve, Deferred.ofValue, invoke, he, h1, h2]
 rw [hr]
 exact ⟨rfl, (hc w hw).mono fun e w' ⟨h1, h2⟩ => ⟨h1, hw.grow h2⟩⟩
end
def k7 (l : List SecV) (a : UInt32) : UInt32 × Bool :=
 if (fK l a 4).2 ≠ 0 ∨ (fK l a 4).1.length ≠ 4 then (0, false)
 else if cR l a < 0 ∨ (l.getD (cR l a).toNat default).wr = true then (0, false) else (leP (fK l a 4).1, true)
def yn (l : List SecV) (a : UInt32) : Bool := decide (0 ≤ cR l a) && (l.getD (cR l a).toNat default).ex
def qT (i : Ins) : Bool := decide (iC i = 0) && ti i.op
def iN (l : List SecV) (t j : UInt32) : UInt32 × Bool := ((k7 l (t + 4 * j)).1, (k7 l (t + 4 * j)).2 && yn l (k7 l (t + 4 * j)).1)
theorem Ja {l : List UInt8} (h : l.length = 4) :
  (((l.getD 0 default).toUInt32 ||| lK (l.getD 1 default).toUInt32 8) ||| lK (l.getD 2 default).toUInt32 16) ||| lK (l.getD 3 default).toUInt32 24 = leP l := by
 have h0 : leP (l.take 1) = (l.getD 0 default).toUInt32 := by
  rw [← uD (l := l) (k := 0) (by omega) (by omega) (c := 0) rfl]
  rw [← UInt32.toNat_inj, UInt32.toNat_or, lg]
  simp [leP]
 have h1 := uD (l := l) (k := 1) (by omega) (by omega) (c := 8) rfl
 have h2 := uD (l := l) (k := 2) (by omega) (by omega) (c := 16) rfl
 have h3 := uD (l := l) (k := 3) (by omega) (by omega) (c := 24) rfl
 rw [List.take_of_length_le (l := l) (i := 3 + 1) (by omega)] at h3
 rw [← h3, ← h2, ← h1, ← h0]; rfl
def sM (s : VSet) (j : UInt32) : UInt32 := if oS s j = true then j else s.lo
def nf (l : List SecV) (t : UInt32) (s : VSet) : Nat → Option (List UInt32)
 | 0 => some []
 | n + 1 => match nf l t s n with
  | none => none
  | some out => if (iN l t (sM s (u32 (n : Int)))).2 = true then some (out ++ [(iN l t (sM s (u32 (n : Int)))).1]) else none
theorem rB {l : List SecV} {t : UInt32} {s : VSet} : ∀ {n : Nat} {out : List UInt32}, nf l t s n = some out → out.length = n
 | 0, out, h => by simp only [nf, Option.some.injEq] at h; subst h; rfl
 | n + 1, out, h => by
  simp only [nf] at h
  cases hk : nf l t s n with
  | none => rw [hk] at h; cases h
  | some o =>
   rw [hk] at h
   simp only at h
   split at h
   ·cases h; rw [List.length_append, rB hk]; rfl
   ·cases h
theorem zR {l : List SecV} {t : UInt32} {s : VSet} {n : Nat} {out : List UInt32} (h : nf l t s n = some out) (h2 : (iN l t (sM s (u32 (n : Int)))).2 = true) : nf l t s (n + 1) = some (out ++ [(iN l t (sM s (u32 (n : Int)))).1]) := by
 simp only [nf, h]; rw [if_pos h2]
theorem CY {l : List SecV} {t : UInt32} {s : VSet} {n : Nat} {out : List UInt32} (h : nf l t s n = some out) (h2 : (iN l t (sM s (u32 (n : Int)))).2 = false) : nf l t s (n + 1) = none := by
 simp only [nf, h]; rw [if_neg (by rw [h2]; simp)]
theorem wX {l : List SecV} {t : UInt32} {s : VSet} {n : Nat} (h : nf l t s n = none) : ∀ m, n ≤ m → nf l t s m = none := by
  intro m hm
  induction m with
  | zero => obtain rfl : n = 0 := by omega
            exact h
  | succ m ih =>
    rcases Nat.lt_or_ge n (m + 1) with q | q
    · simp only [nf, ih (by omega)]
    · obtain rfl : n = m + 1 := by omega
      exact h
def co (l : List SecV) (i : Ins) (x : VSet) : List UInt32 × Int :=
 if qT i = false then ([], 2) else if gh l ≠ 0 then ([], gh l)
 else if (fG x = false ∨ x.em = true) ∨ x.top = true then ([], 19)
 else if i.op ≠ 22 then (if (dF x).2 ≠ 0 ∨ ((dF x).1.any fun a => !yn l a) = true then ([], 19) else ((dF x).1, 0))
 else if 64 ≤ x.hi then ([], 19)
 else match nf l i.imm x (x.hi.toNat + 1) with
  | none => ([], 19)
  | some out => (out, 0)
def nl (l : List SecV) (a : UInt32) : Nat → Bool
 | 0 => true
 | n + 1 => nl l a n && (iN l a (u32 (n : Int))).2
theorem AB {l : List SecV} {a : UInt32} {n : Nat} (h : nl l a n = false) : ∀ m, n ≤ m → nl l a m = false := by
  intro m hm
  induction m with
  | zero => obtain rfl : n = 0 := by omega
            exact h
  | succ m ih =>
    rcases Nat.lt_or_ge n (m + 1) with q | q
    · simp only [nl, ih (by omega), Bool.false_and]
    · obtain rfl : n = m + 1 := by omega
      exact h
def te (l : List SecV) (a : UInt32) (n : Int) : Bool := if (n < 1 ∨ 64 < n) ∨ gh l ≠ 0 then false else nl l a n.toNat
theorem zJ {j : Nat} (h : j < 4294967295) : u32 (j : Int) + 1 = u32 ((j + 1 : Nat) : Int) := by
 have h1 := sL (j : Int)
 have h2 := sL ((j + 1 : Nat) : Int)
 rw [← UInt32.toNat_inj, UInt32.toNat_add]
 have e : (1 : UInt32).toNat = 1 := rfl
 rw [e]; omega
theorem yR {x : UInt32} (h : x < 64) : (x + 1).toNat = x.toNat + 1 := by
 rw [UInt32.lt_iff_toNat_lt] at h
 have e : (64 : UInt32).toNat = 64 := rfl
 have e1 : (1 : UInt32).toNat = 1 := rfl
 rw [UInt32.toNat_add, e1]; omega
end Go.HL
namespace Go.Proofs.YtiajjbhcpeadfaaGreat
open Go Go.HL Go.RowKit
theorem Hw (l : List SecV) (pV : Option Addr) (cV : Nat) (a : UInt32) (w : World) (hV : Sl (hp w) cY l (.slice pV l.length cV)) (hB : SecB l) (hD : DataIn (hp w) l) :
  Cr Tryz.prog 104 #[.agg #[(.slice pV l.length cV)], .int .u32 a.toNat] w (.tuple #[.int .u32 (k7 l a).1.toNat, .bool (k7 l a).2]) := by
 have hV' : Sl (Bg.of w).blk cY l (.slice pV l.length cV) := hV
 have hff := jQ (l := l) (a := a)
 have hD' : DataIn (Bg.of w).blk l := hD
 refine enter Tryz.func104 rfl Tryz.ntmps104 rfl ?_
 refine ah ?_
 refine dq rfl rfl (fun b1 => ?_)
 refine zz0 (ab rfl) (zz0 (ab rfl) (aM (zz0 (zz2 (off := 0) (ft := 22) rfl iY rfl lp) ?_)))
 refine zz0 (aG rfl mI) ?_
 refine zz0 (aa rfl) ?_
 refine fh (fun V => .tuple #[V, .int .i64 (fK l a 4).2]) rfl Tryz.call157 (fun w hw => FH l (.slice pV l.length cV) a 4 w (hw.slF hV') hB (hD'.mono hw.bg) (by omega)) rfl (fun V2 => ?_)
 refine zz0 (aa rfl) (zz0 (aQ rfl rfl) (zz0 (aQ rfl rfl) (zz0 (ab rfl) (zz0 (ab rfl) (ad (an (ah (zz0 (aa rfl) (zz0 (ff rfl rfl) (zz0 (aa rfl) ?_))))))))))
 apply cw
 ·exact (rfl : _ = (4, 18, 22))
 ·exact rfl
 ·intro hF3; have hF3' := hF3
  try simp only [bs] at hF3'
  refine zz3 hF3 (aa rfl) (zz3 hF3 (lz rfl ba) ?_)
  refine zz3 hF3 (ff rfl rfl) (zz0 (aL rfl hF3 rfl) ?_)
  refine ax (ac ?_)
  exact az (Sub.cons rfl (zz6 4 rfl))
 ·intro hT3
  refine zz4 hT3 (zz4 hT3 (zz4 hT3 (zz0 (aK rfl hT3 rfl) ?_)))
  refine ax (ac ?_)
  exact az (Sub.cons rfl (zz6 4 rfl))
 refine ad ?_
 refine ao rfl ?_ ?_ <;> intro h4 <;> try simp only [bs] at h4
 ·have hq1 := h4
  refine ah (zz0 (ab rfl) (zz0 (ab rfl) (ad (aC (aA ?_)))))
  refine cN nK rfl rfl (fun w' hw => ?_)
  exact ⟨by unfold k7; rw [if_pos (by omega)]; rfl, hw.b0⟩
 have hq1 := h4
 refine cT (zz0 (zz2 (off := 0) (ft := 22) rfl iY rfl lp) ?_)
 refine zz0 (aG rfl mI) ?_
 refine zz0 (aa rfl) (zz0 (aD rfl po (fun w hw => sg l (.slice pV l.length cV) a w (hw.slF hV') hB)) ?_)
 refine zz0 (ab rfl) (ad (an (ah (zz0 (aa rfl) (zz0 (bT rfl rfl) (zz0 (aa rfl) ?_))))))
 apply cw
 ·exact (rfl : _ = (7, 29, 36))
 ·exact rfl
 ·intro hF5; have hF5' := hF5
  try simp only [bs] at hF5'
  refine zz3 hF5 (zz2 (off := 0) (ft := 22) rfl iY rfl lp) ?_
  refine zz3 hF5 (aG rfl mI) ?_
  refine zz3 hF5 (aa rfl) (zz3 hF5 (lO rfl rfl bG bX) ?_)
  refine zz3 hF5 (zz2 (off := 3) (ft := 4) rfl bO rfl bN) ?_
  refine zz3 hF5 (pL rfl cm) ?_
  refine zz0 (aL rfl hF5 rfl) ?_
  refine ax (ac ?_)
  exact az (Sub.cons rfl (zz6 7 rfl))
 ·intro hT5
  refine zz4 hT5 (zz4 hT5 (zz4 hT5 (zz4 hT5 (zz4 hT5 (zz4 hT5 (zz0 (aK rfl hT5 rfl) ?_))))))
  refine ax (ac ?_)
  exact az (Sub.cons rfl (zz6 7 rfl))
 refine ad ?_
 refine ao rfl ?_ ?_ <;> intro h6 <;> try simp only [bs] at h6
 ·have hq2 := h6
  refine ah (zz0 (ab rfl) (zz0 (ab rfl) (ad (aC (aA ?_)))))
  refine cN nK rfl rfl (fun w' hw => ?_)
  exact ⟨by unfold k7; rw [if_neg (by omega), if_pos hq2]; rfl, hw.b0⟩
 have hq2 := h6
 refine bA (an (g9 aU ?_))
 refine aw (aa rfl) (aw (zz9 (E := dT) (l := (fK l a 4).1) (i := 0) rfl rfl ba du) ?_)
 refine aw (eh rfl fD) ?_
 refine aw (gj rfl cd aP) (aw (aa rfl) (aw (zz9 (E := dT) (l := (fK l a 4).1) (i := 1) rfl rfl ba du) ?_))
 refine aw (eh rfl fD) ?_
 refine aw (gj rfl cd aP) (aw (kx rfl rfl (by omega)) ?_)
 refine aw (sC rfl rfl) ?_
 refine aw (aa rfl) (aw (zz9 (E := dT) (l := (fK l a 4).1) (i := 2) rfl rfl ba du) ?_)
 refine aw (eh rfl fD) ?_
 refine aw (gj rfl cd aP) (aw (kx rfl rfl (by omega)) ?_)
 refine aw (sC rfl rfl) ?_
 refine aw (aa rfl) (aw (zz9 (E := dT) (l := (fK l a 4).1) (i := 3) rfl rfl ba du) ?_)
 refine aw (eh rfl fD) ?_
 refine aw (gj rfl cd aP) (aw (kx rfl rfl (by omega)) ?_)
 refine aw (sC rfl rfl) ?_
 refine aw (ab rfl) (aw (ab rfl) (bI ?_))
 refine ac (aC ?_)
 refine cN nK rfl rfl (fun w' hw => ?_)
 refine ⟨?_, hw.b0⟩
 unfold k7
 rw [if_neg (by omega), if_neg (fun q => q.elim (fun q => hq2.1 q) (fun q => by rw [hq2.2] at q; cases q))]
 exact congrArg (fun x : UInt32 => Ending.returned (.tuple #[.int .u32 x.toNat, .bool true])) (Ja (by omega))
theorem wW (l : List SecV) (pV : Option Addr) (cV : Nat) (a : UInt32) (w : World) (hV : Sl (hp w) cY l (.slice pV l.length cV)) (hB : SecB l) :
  Cr Tryz.prog 44 #[.agg #[(.slice pV l.length cV)], .int .u32 a.toNat] w (.bool (yn l a)) := by
 have hV' : Sl (Bg.of w).blk cY l (.slice pV l.length cV) := hV
 have hff := jQ (l := l) (a := a)
 refine enter Tryz.func44 rfl Tryz.ntmps44 rfl ?_
 refine ah ?_
 refine dq rfl rfl (fun b1 => ?_)
 refine zz0 (ab rfl) (aM (zz0 (zz2 (off := 0) (ft := 22) rfl iY rfl lp) ?_))
 refine zz0 (aG rfl mI) ?_
 refine zz0 (aa rfl) (zz0 (aD rfl po (fun w hw => sg l (.slice pV l.length cV) a w (hw.slF hV') hB)) ?_)
 refine zz0 (ab rfl) (aM (zz0 (aa rfl) (zz0 (d6 rfl rfl) (zz0 (aa rfl) ?_))))
 apply bQ
 ·exact (rfl : _ = (7, 12, 19))
 ·exact rfl
 ·intro hT2; have hT2' := hT2
  try simp only [bs] at hT2'
  refine zz3 hT2 (zz2 (off := 0) (ft := 22) rfl iY rfl lp) ?_
  refine zz3 hT2 (aG rfl mI) ?_
  refine zz3 hT2 (aa rfl) (zz3 hT2 (lO rfl rfl bG bX) ?_)
  refine zz3 hT2 (zz2 (off := 4) (ft := 4) rfl bO rfl bN) ?_
  refine zz3 hT2 (pL rfl cm) ?_
  refine zz0 (aK rfl hT2 rfl) ?_
  refine ax (ac ?_)
  exact az (Sub.cons rfl (zz6 7 rfl))
 ·intro hF2
  refine zz4 hF2 (zz4 hF2 (zz4 hF2 (zz4 hF2 (zz4 hF2 (zz4 hF2 (zz0 (aL rfl hF2 rfl) ?_))))))
  refine ax (ac ?_)
  exact az (Sub.cons rfl (zz6 7 rfl))
 refine zz0 (ab rfl) (ad (aC ?_))
 refine aO Tryz.results44 rfl (fun w' hw => ?_)
 exact ⟨rfl, hw.b0⟩
theorem AX (l : List SecV) (pV : Option Addr) (cV : Nat) (t j : UInt32) (w : World) (hV : Sl (hp w) cY l (.slice pV l.length cV)) (hB : SecB l) (hD : DataIn (hp w) l) :
  Cr Tryz.prog 45 #[.agg #[(.slice pV l.length cV)], .int .u32 t.toNat, .int .u32 j.toNat] w (.tuple #[.int .u32 (iN l t j).1.toNat, .bool (iN l t j).2]) := by
 have hV' : Sl (Bg.of w).blk cY l (.slice pV l.length cV) := hV
 have hD' : DataIn (Bg.of w).blk l := hD
 refine enter Tryz.func45 rfl Tryz.ntmps45 rfl ?_
 refine ah ?_
 refine dq rfl rfl (fun b1 => ?_)
 refine zz0 (ab rfl) (zz0 (ab rfl) (aM (zz0 (bC rfl mH jr) ?_)))
 refine zz0 (aa rfl) (zz0 (aa rfl) (zz0 (lu (m := 4) rfl rfl) ?_))
 refine zz0 (fN rfl rfl) ?_
 refine zz0 (aD rfl Tryz.call104 (fun w hw => Hw l pV cV (t + 4 * j) w (hw.slF hV') hB (hD'.mono hw.bg))) ?_
 refine zz0 (aa rfl) (zz0 (aQ rfl rfl) (zz0 (aQ rfl rfl) (zz0 (ab rfl) (zz0 (ab rfl) (aM (zz0 (aa rfl) (zz0 (aa rfl) (zz0 (aa rfl) ?_))))))))
 apply bQ
 ·exact (rfl : _ = (4, 21, 25))
 ·exact rfl
 ·intro hT2; have hT2' := hT2
  try simp only [bs] at hT2'
  refine zz3 hT2 (bC rfl mH jr) ?_
  refine zz3 hT2 (aa rfl) (zz3 hT2 (aD rfl Tryz.call44 (fun w hw => wW l pV cV (k7 l (t + 4 * j)).1 w (hw.slF hV') hB)) ?_)
  refine zz0 (aK rfl hT2 rfl) ?_
  refine ax (ac ?_)
  exact az (Sub.cons rfl (zz6 4 rfl))
 ·intro hF2
  refine zz4 hF2 (zz4 hF2 (zz4 hF2 (zz0 (aL rfl hF2 rfl) ?_)))
  refine ax (ac ?_)
  exact az (Sub.cons rfl (zz6 4 rfl))
 refine zz0 (ab rfl) (zz0 (ab rfl) (ad (aC ?_)))
 refine cN Tryz.results45 rfl rfl (fun w' hw => ?_)
 exact ⟨rfl, hw.b0⟩
theorem tX (i : Ins) (w : World) (hI : InsOK i) :
  Cr Tryz.prog 38 #[.agg (aT.enc i).toArray] w (.bool (qT i)) := by
 refine enter Tryz.func38 rfl Tryz.ntmps38 rfl ?_
 refine ah ?_
 refine dq rfl rfl (fun b1 => ?_)
 refine zz0 (ab rfl) (aM (zz0 (bC rfl aS ay) ?_))
 refine zz0 (aD rfl kK (fun w hw => kD i w hI)) ?_
 refine zz0 (aa rfl) ?_
 apply bQ
 ·exact (rfl : _ = (14, 5, 19))
 ·exact rfl
 ·intro hT2; have hT2' := hT2
  try simp only [bs] at hT2'
  refine zz3 hT2 (zz2 (off := 2) (ft := 3) rfl af rfl aB) ?_
  refine zz3 hT2 (aG rfl aJ) ?_
  refine zz3 hT2 (bh rfl rfl) (zz3 hT2 (aa rfl) ?_)
  apply cw
  ·exact (rfl : _ = (4, 9, 13))
  ·exact rfl
  ·intro hF3; have hF3' := hF3
   try simp only [bs] at hF3'
   refine zz3 hF3 (zz2 (off := 2) (ft := 3) rfl af rfl aB) ?_
   refine zz3 hF3 (aG rfl aJ) ?_
   refine zz3 hF3 (bh rfl rfl) (zz3 hT2 (aL rfl hF3 rfl) ?_)
   refine ax (ac ?_)
   exact az (Sub.cons rfl (zz6 4 rfl))
  ·intro hT3
   refine zz4 hT3 (zz4 hT3 (zz4 hT3 (zz3 hT2 (aK rfl hT3 rfl) ?_)))
   refine ax (ac ?_)
   exact az (Sub.cons rfl (zz6 4 rfl))
  refine zz3 hT2 (aa rfl) ?_
  apply cw
  ·exact (rfl : _ = (4, 14, 18))
  ·exact rfl
  ·intro hF4; have hF4' := hF4
   try simp only [bs] at hF4'
   refine zz3 hF4 (zz2 (off := 2) (ft := 3) rfl af rfl aB) ?_
   refine zz3 hF4 (aG rfl aJ) ?_
   refine zz3 hF4 (bh rfl rfl) (zz3 hT2 (aL rfl hF4 rfl) ?_)
   refine ax (ac ?_)
   exact az (Sub.cons rfl (zz6 4 rfl))
  ·intro hT4
   refine zz4 hT4 (zz4 hT4 (zz4 hT4 (zz3 hT2 (aK rfl hT4 rfl) ?_)))
   refine ax (ac ?_)
   exact az (Sub.cons rfl (zz6 4 rfl))
  refine zz0 (aK rfl hT2 rfl) ?_
  refine ax (ac ?_)
  exact az (Sub.cons rfl (zz6 8 rfl))
 ·intro hF2
  refine zz4 hF2 (zz4 hF2 (zz4 hF2 (zz4 hF2 (eX ?_))))
  refine eX ?_
  refine eX ?_
  refine zz4 hF2 (zz4 hF2 (eX ?_))
  refine eX ?_
  refine eX ?_
  refine zz4 hF2 (zz0 (aL rfl hF2 rfl) ?_)
  refine ax (ac ?_)
  exact az (Sub.cons rfl (zz6 14 rfl))
 refine zz0 (ab rfl) (ad (aC ?_))
 refine aO Tryz.results38 rfl (fun w' hw => ?_)
 exact ⟨by unfold qT ti; congr 2; rw [Bool.eq_iff_iff]; simp only [Bool.and_eq_true, Bool.or_eq_true, decide_eq_true_eq]; omega, hw.b0⟩
theorem wC (l : List UInt32) (V : Value) (g : FuncId) (cb : List Value) (w : World) (hV : Sl (hp w) au l V) (eg : ∀ (args : Array Value) (w : World), (callFunc g args).run Tryz.prog w = .ok (.enter g args) w) (p : UInt32 → Bool) (hp : ∀ x ∈ l, ∀ w', Ext w w' → Calls Tryz.prog g ([Value.int .u32 x.toNat] ++ cb).toArray w' fun e w'' => e = .returned (.bool (p x)) ∧ Ext w' w'') :
  Cr Tryz.prog 101 #[V, .func (.func g) #[] cb.toArray] w (.int .i64 (ei p 0 l)) := by
 have hV' : Sl (Bg.of w).blk au l V := hV
 have hlen := hV.len_le
 refine enter Tryz.func101 rfl Tryz.ntmps101 rfl ?_
 refine ah (zz0 (ab rfl) (ad (an (ah (zz0 (aa rfl) (zz0 (gK rfl al) ?_))))))
 refine zz0 (aa rfl) (ad (aH ?_))
 refine bK (ι := Nat) (fun k => k ≤ l.length ∧ ei p k (l.drop k) = ei p 0 l) (fun _ => _) (fun k => []) (fun k => [(8, .int .i64 (k : Nat))]) (fun k => l.length - k) 0 ⟨Nat.zero_le _, rfl⟩ (Front.c Front.nil) (by repeat' constructor) rfl (fun k hi m hm => ?_)
 replace hi : k ≤ l.length ∧ ei p k (l.drop k) = ei p 0 l := hi
 replace hm : m = l.length - k := hm
 change Tr _ _ [] ([(8, .int .i64 (k : Nat))] ++ _) _
 obtain ⟨hk1, hk2⟩ := hi
 refine ah (zz0 (bT rfl rfl) (ad (an ?_)))
 refine ao rfl ?_ ?_ <;> intro h1 <;> try simp only [bs] at h1
 ·refine bA (an (aH (ah (zz0 (aa rfl) (zz0 (ab rfl) (aM (zz0 (aa rfl) (zz0 (aa rfl) ?_))))))))
  refine zz0 (aa rfl) (zz0 (hZ rfl rfl al ae) ?_)
  refine zz0 (jP rfl am) ?_
  refine zz0 (iJ rfl rfl eg (fun w hw => hp _ (de (by omega)) w (hw.b0))) ?_
  refine ad ?_
  refine ao rfl ?_ ?_ <;> intro h2 <;> try simp only [bs] at h2
  ·refine ah (zz0 (aa rfl) (zz0 (ab rfl) (ad (aC (bj (aA (aA (bj (aA ?_)))))))))
   refine aO Tryz.results101 rfl (fun w' hw => ?_)
   exact ⟨by rw [← hk2, drop_cons (k := k) (by omega), ei, if_pos (by assumption)], hw.b0⟩
  refine cg (aY (ac (ar (zz0 (cE rfl rfl) ?_))))
  refine zz0 (aa rfl) (ad ?_)
  refine cF (k + 1) (Front.c Front.nil) (bD 12 rfl) (o := ⟨by omega, by rw [← hk2, drop_cons (k := k) (by omega), ei, if_neg (by simp_all)]⟩)
 refine bF (aI (aI (bv (ac (ah (zz0 (ab rfl) (ad (aC ?_))))))))
 refine aO Tryz.results101 rfl (fun w' hw => ?_)
 exact ⟨by rw [← hk2, List.drop_of_length_le (by omega)]; rfl, hw.b0⟩
theorem tw (l : List UInt32) (V : Value) (g : FuncId) (cb : List Value) (w : World) (hV : Sl (hp w) au l V) (eg : ∀ (args : Array Value) (w : World), (callFunc g args).run Tryz.prog w = .ok (.enter g args) w) (p : UInt32 → Bool) (hp : ∀ x ∈ l, ∀ w', Ext w w' → Calls Tryz.prog g ([Value.int .u32 x.toNat] ++ cb).toArray w' fun e w'' => e = .returned (.bool (p x)) ∧ Ext w' w'') :
  Cr Tryz.prog 42 #[V, .func (.func g) #[] cb.toArray] w (.bool (l.any p)) := by
 have hV' : Sl (Bg.of w).blk au l V := hV
 refine enter Tryz.func42 rfl Tryz.ntmps42 rfl ?_
 refine ah (zz0 (ab rfl) (aM (zz0 (aa rfl) (zz0 (aa rfl) (zz0 (aD rfl Tryz.call101 (fun w hw => wC l V g cb w (hw.slF hV') eg p (fun x hx w'' h => hp x hx w'' ((hw.b0).trans h)))) ?_)))))
 refine zz0 (d6 rfl rfl) (zz0 (ab rfl) (ad (aC ?_)))
 refine aO Tryz.results42 rfl (fun w' hw => ?_)
 exact ⟨by rw [rZ], hw.b0⟩
theorem I6 (l : List SecV) (pV : Option Addr) (cV : Nat) (w : World) :
  Calls Tryz.prog 43 #[.func (.func 44) #[.agg #[(.slice pV l.length cV)]] #[]] w (fun e w' => ∃ b : Nat, e = .returned (.func (.func 102) #[] #[.pointer (some ⟨b, 0, none⟩)]) ∧ Ext w w' ∧ NewEnts w w' [cellE b [.func (.func 44) #[.agg #[(.slice pV l.length cV)]] #[]] 95] ∧ True) := by
 refine enter Tryz.func43 rfl Tryz.ntmps43 rfl ?_
 refine ah ?_
 refine dq rfl rfl (fun b1 => ?_)
 refine zz0 (ab rfl) (aM (zz0 (fF rfl rfl) ?_))
 refine zz0 (ab rfl) (ad (aC ?_))
 refine aO Tryz.results43 rfl (fun w' hw => ?_)
 exact ⟨_, rfl, hw.b0, hw.ents (Bg.le.refl _) (Pick.refl _), trivial⟩
theorem HS (l : List SecV) (pV : Option Addr) (cV : Nat) (a : UInt32) (b : Nat) (w : World) (hV : Sl (hp w) cY l (.slice pV l.length cV)) (hB : SecB l) (hc : Cell (hp w) b 0 (.func (.func 44) #[.agg #[(.slice pV l.length cV)]] #[])) :
  Cr Tryz.prog 102 #[.int .u32 a.toNat, .pointer (some ⟨b, 0, none⟩)] w (.bool (!yn l a)) := by
 have hV' : Sl (Bg.of w).blk cY l (.slice pV l.length cV) := hV
 have hc' : Cell (Bg.of w).blk b 0 (.func (.func 44) #[.agg #[(.slice pV l.length cV)]] #[]) := hc
 refine enter Tryz.func102 rfl Tryz.ntmps102 rfl ?_
 refine ah (zz0 (ab rfl) (aM (zz0 (oh rfl (by assumption) Tryz.isAgg95) ?_)))
 refine zz0 (aa rfl) (zz0 (EU (us := [.agg #[(.slice pV l.length cV)]]) rfl rfl Tryz.call44 (fun w hw => wW l pV cV a w (hw.slF hV') hB)) ?_)
 refine zz0 (cp rfl) (zz0 (ab rfl) (ad (aC ?_)))
 refine aO Tryz.results102 rfl (fun w' hw => ?_)
 exact ⟨rfl, hw.b0⟩
end Go.Proofs.YtiajjbhcpeadfaaGreat
namespace Go.Proofs.YtiajjbhcpeadfaaGreat
open Go Go.HL Go.RowKit
theorem kE (l : List SecV) (pV : Option Addr) (cV : Nat) (i : Ins) (s : StV) (w : World) (hV : Sl (hp w) cY l (.slice pV l.length cV)) (hB : SecB l) (hD : DataIn (hp w) l) (hN : ∀ s ∈ l, s.name.size ≤ 140737488351232) (hI : InsOK i) :
  Calls Tryz.prog 12 #[(.slice pV l.length cV), .agg (aT.enc i).toArray, .agg (cO.enc s).toArray] w (fun e w' => ∃ V' : Value, e = .returned (.tuple #[V', .int .i64 (co l i (s.get i.a)).2]) ∧ Ext w w' ∧ iu w w' 23 au (co l i (s.get i.a)).1 V') := by
 have hV' : Sl (Bg.of w).blk cY l (.slice pV l.length cV) := hV
 have hD' : DataIn (Bg.of w).blk l := hD
 refine enter Tryz.func12 rfl Tryz.ntmps12 rfl ?_
 refine ah ?_
 refine dq rfl rfl (fun b1 => ?_)
 refine dq rfl rfl (fun b2 => ?_)
 refine zz0 (ab rfl) (zz0 (ab rfl) (ad (an (ah (zz0 (bC rfl aS ay) ?_)))))
 refine zz0 (aD rfl Tryz.call38 (fun w hw => tX i w hI)) ?_
 refine zz0 (cp rfl) (ad ?_)
 refine ao rfl ?_ ?_ <;> intro h3 <;> try simp only [bs] at h3
 ·have hq1 : qT i = false := h3
  refine ah (zz0 (ab rfl) (zz0 (ab rfl) (ad (aC (aA ?_)))))
  refine cN ie rfl rfl (fun w' hw => ?_)
  have e : co l i (s.get i.a) = ([], 2) := by
   unfold co
   rw [if_pos hq1]
  exact ⟨.slice none 0 0, by rw [e], hw.b0, by rw [e]; exact dH rfl⟩
 have hq1 : qT i = true := by simpa using h3
 refine bA (an (ah (zz0 (aa rfl) (zz0 (aD rfl Tryz.call39 (fun w hw => tC l (.slice pV l.length cV) w (hw.slF hV') hB (fun s hs => by have := hN s hs; omega))) ?_))))
 refine zz0 (ab rfl) (aM (zz0 (aa rfl) (zz0 (ff rfl rfl) (ad ?_))))
 refine ao rfl ?_ ?_ <;> intro h4 <;> try simp only [bs] at h4
 ·have hq2 : gh l ≠ 0 := h4
  refine ah (zz0 (aa rfl) (zz0 (ab rfl) (zz0 (ab rfl) (ad (aC (aA ?_))))))
  refine cN ie rfl rfl (fun w' hw => ?_)
  have e : co l i (s.get i.a) = ([], gh l) := by
   unfold co
   rw [if_neg (by rw [hq1]; simp)]
   rw [if_pos hq2]
  exact ⟨.slice none 0 0, by rw [e], hw.b0, by rw [e]; exact dH rfl⟩
 have hq2 : gh l = 0 := by simpa using h4
 refine bA (an ?_)
 have hA := nZ (show iC i = 0 by unfold qT at hq1; simp at hq1; exact hq1.1)
 refine ar (zz0 (zz2 (off := 6) (ft := 3) rfl af rfl aB) ?_)
 refine zz0 (aG rfl aJ) ?_
 refine zz0 (zz2 (off := 0) (ft := 26) rfl cC rfl dh) ?_
 refine zz0 (dK rfl rfl cx aj (by omega)) ?_
 refine zz0 (gn (vs := bR.enc (s.get i.a)) rfl (by repeat constructor) aN aj (kF ⟨by omega, by omega⟩ (by simp)) rfl) ?_
 obtain ⟨x, hx⟩ : ∃ x, x = s.get i.a := ⟨_, rfl⟩
 rw [← hx]
 refine dB cB rfl (fun b5 => ?_)
 refine aF bR rfl rfl aj ?_
 refine ad (an (ah (zz0 (bC rfl aN aj) ?_)))
 refine zz0 (aD rfl Tryz.call40 (fun w hw => uS _ w)) ?_
 refine zz0 (cp rfl) (zz0 (aa rfl) ?_)
 apply cw
 ·exact (rfl : _ = (3, 34, 37))
 ·exact rfl
 ·intro hF6; have hF6' := hF6
  try simp only [bs] at hF6'
  refine zz3 hF6 (zz2 (off := 0) (ft := 4) rfl ak rfl bN) ?_
  refine zz3 hF6 (aG rfl cm) ?_
  refine zz0 (aL rfl hF6 rfl) ?_
  refine ax (ac ?_)
  exact az (Sub.cons rfl (zz6 3 rfl))
 ·intro hT6
  refine zz4 hT6 (zz4 hT6 (zz0 (aK rfl hT6 rfl) ?_))
  refine ax (ac ?_)
  exact az (Sub.cons rfl (zz6 3 rfl))
 refine zz0 (aa rfl) ?_
 apply cw
 ·exact (rfl : _ = (3, 38, 41))
 ·exact rfl
 ·intro hF7; have hF7' := hF7
  try simp only [bs] at hF7'
  refine zz3 hF7 (zz2 (off := 1) (ft := 4) rfl ak rfl bN) ?_
  refine zz3 hF7 (aG rfl cm) ?_
  refine zz0 (aL rfl hF7 rfl) ?_
  refine ax (ac ?_)
  exact az (Sub.cons rfl (zz6 3 rfl))
 ·intro hT7
  refine zz4 hT7 (zz4 hT7 (zz0 (aK rfl hT7 rfl) ?_))
  refine ax (ac ?_)
  exact az (Sub.cons rfl (zz6 3 rfl))
 refine ad ?_
 refine ao rfl ?_ ?_ <;> intro h8 <;> try simp only [bs] at h8
 ·have hq3 := h8
  refine ah (zz0 (ab rfl) (zz0 (ab rfl) (ad (aC (aA ?_)))))
  refine cN ie rfl rfl (fun w' hw => ?_)
  have e : co l i x = ([], 19) := by
   unfold co
   rw [if_neg (by rw [hq1]; simp)]
   rw [if_neg (fun q => q hq2)]
   rw [if_pos (by rcases hq3 with (q | q) | q <;> simp_all)]
  exact ⟨.slice none 0 0, by rw [e], hw.b0, by rw [e]; exact dH rfl⟩
 have hq3 := h8
 refine cT (zz0 (aa rfl) (zz0 (bL (vs := [(0, _)]) rfl rfl rfl) ?_))
 refine dB Tryz.zeroValue92 rfl (fun b9 => ?_)
 refine zz8 rfl rfl jr ?_
 refine ad (an (ah (zz0 (zz2 (off := 2) (ft := 3) rfl af rfl aB) ?_)))
 refine zz0 (aG rfl aJ) ?_
 refine zz0 (ff rfl rfl) (ad ?_)
 refine ao rfl ?_ ?_ <;> intro h10 <;> try simp only [bs] at h10
 ·have hqo : i.op ≠ 22 := h10
  refine ah (zz0 (bC rfl aN aj) ?_)
  refine fh (fun V => .tuple #[V, .int .i64 (dF x).2]) rfl Tryz.call41 (fun w hw => tY x w) rfl (fun VE => ?_)
  refine zz0 (aa rfl) (zz0 (aQ rfl rfl) (zz0 (aQ rfl rfl) (zz0 (ab rfl) (zz0 (ab rfl) (ad (an (ah (zz0 (aa rfl) (zz0 (ff rfl rfl) (zz0 (aa rfl) ?_))))))))))
  apply cw
  ·exact (rfl : _ = (6, 54, 60))
  ·exact rfl
  ·intro hF11; have hF11' := hF11
   try simp only [bs] at hF11'
   refine zz3 hF11 (aa rfl) (zz3 hF11 (bC rfl mH jr) ?_)
   refine zz3 hF11 (fF rfl rfl) ?_
   refine vW rfl rfl hF11 ?_
   refine kg (fun b : Nat => .func (.func 102) #[] #[.pointer (some ⟨b, 0, none⟩)]) (fun b => [cellE b [.func (.func 44) #[.agg #[(.slice pV l.length cV)]] #[]] 95]) (ok := fun _ => True) rfl Tryz.call43 (fun w hw => I6 l pV cV w) rfl (fun bf _ => ?_)
   refine zz3 hF11 (aD rfl Tryz.call42 (fun w hw => tw (dF x).1 VE _ [.pointer (some ⟨bf, 0, none⟩)] w (hw.row (by repeat constructor)) Tryz.call102 (fun a => !yn l a) (fun y hy w'' h => HS l pV cV y bf w'' ((hw.slF hV').mono h.hp) hB (cellE.cell (hw.ent _ (by repeat constructor)) h rfl)))) ?_
   refine zz0 (aL rfl hF11 rfl) ?_
   refine ax (ac ?_)
   exact az (Sub.cons rfl (zz6 6 rfl))
  ·intro hT11
   refine zz4 hT11 (zz4 hT11 (zz4 hT11 (zz4 hT11 (zz4 hT11 (zz0 (aK rfl hT11 rfl) ?_)))))
   refine ax (ac ?_)
   exact az (Sub.cons rfl (zz6 6 rfl))
  refine ad ?_
  refine ao rfl ?_ ?_ <;> intro h12 <;> try simp only [bs] at h12
  ·have hq6 := h12
   refine ah (zz0 (ab rfl) (zz0 (ab rfl) (ad (aC (aA (aA ?_))))))
   refine cN ie rfl rfl (fun w' hw => ?_)
   have e : co l i x = ([], 19) := by
    unfold co
    rw [if_neg (by rw [hq1]; simp)]
    rw [if_neg (fun q => q hq2)]
    rw [if_neg (show ¬((fG x = false ∨ x.em = true) ∨ x.top = true) from fun q => by rcases q with (q | q) | q <;> simp_all)]
    rw [if_pos hqo, if_pos (by rcases hq6 with q | q <;> simp_all)]
   exact ⟨.slice none 0 0, by rw [e], hw.b0, by rw [e]; exact dH rfl⟩
  have hq6 := h12
  refine cT (zz0 (aa rfl) (zz0 (ab rfl) (zz0 (ab rfl) (ad (aC (aA ?_))))))
  refine cN ie rfl rfl (fun w' hw => ?_)
  have e : co l i x = ((dF x).1, 0) := by
   unfold co
   rw [if_neg (by rw [hq1]; simp)]
   rw [if_neg (fun q => q hq2)]
   rw [if_neg (show ¬((fG x = false ∨ x.em = true) ∨ x.top = true) from fun q => by rcases q with (q | q) | q <;> simp_all)]
   rw [if_pos hqo, if_neg (by simp_all)]
  exact ⟨VE, by rw [e]; rfl, hw.b0, by rw [e]; exact hw.new (by repeat constructor)⟩
 have hqo : i.op = 22 := by simpa using h10
 refine bA (an (ah (zz0 (zz2 (off := 3) (ft := 23) rfl ak rfl ae) ?_)))
 refine zz0 (aG rfl am) ?_
 refine zz0 (ky (n := 64) rfl rfl) ?_
 refine ad ?_
 refine ao rfl ?_ ?_ <;> intro h13 <;> try simp only [bs] at h13
 ·have hq4 : 64 ≤ x.hi := h13
  refine ah (zz0 (ab rfl) (zz0 (ab rfl) (ad (aC (aA ?_)))))
  refine cN ie rfl rfl (fun w' hw => ?_)
  have e : co l i x = ([], 19) := by
   unfold co
   rw [if_neg (by rw [hq1]; simp)]
   rw [if_neg (fun q => q hq2)]
   rw [if_neg (show ¬((fG x = false ∨ x.em = true) ∨ x.top = true) from fun q => by rcases q with (q | q) | q <;> simp_all)]
   rw [if_neg (fun q => q hqo), if_pos hq4]
  exact ⟨.slice none 0 0, by rw [e], hw.b0, by rw [e]; exact dH rfl⟩
 have hq4 : x.hi < 64 := by have := h13; rw [UInt32.not_le] at this; exact this
 refine cT (zz0 (ab rfl) (ad (an (ah (zz0 (zz2 (off := 3) (ft := 23) rfl ak rfl ae) ?_)))))
 refine zz0 (aG rfl am) ?_
 refine zz0 (fN (n := 1) rfl rfl) ?_
 refine zz0 (aa rfl) (ad (aH (cn 23 au ?_)))
 refine bK (ι := Nat × List UInt32 × Value) (fun ⟨j, out, Vo⟩ => j ≤ x.hi.toNat + 1 ∧ nf l i.imm x j = some out) (fun _ => _) (fun ⟨j, out, Vo⟩ => [rowE Vo 23 au out, cellE b9 [(.slice pV l.length cV)] 92, cellE b5 (bR.enc x) 25, cellE b2 (cO.enc s) 37, cellE b1 (aT.enc i) 36]) (fun ⟨j, out, Vo⟩ => [(68, .int .u32 (u32 (j : Int)).toNat), (13, Vo)]) (fun ⟨j, out, Vo⟩ => 65 - j) (0, [], _) ⟨Nat.zero_le _, rfl⟩ (Front.c (Front.c Front.nil)) (by repeat' constructor) rfl (fun i hi m hm => ?_)
 obtain ⟨j, out, Vo⟩ := i
 replace hi : j ≤ x.hi.toNat + 1 ∧ nf l i.imm x j = some out := hi
 replace hm : m = 65 - j := hm
 change Tr _ _ [rowE Vo 23 au out, cellE b9 [(.slice pV l.length cV)] 92, cellE b5 (bR.enc x) 25, cellE b2 (cO.enc s) 37, cellE b1 (aT.enc i) 36] ([(68, .int .u32 (u32 (j : Int)).toNat), (13, Vo)] ++ _) _
 obtain ⟨hj, hto⟩ := hi
 have hol := rB hto
 have h64 : x.hi.toNat < 64 := by rw [UInt32.lt_iff_toNat_lt] at hq4; exact hq4
 refine ah (zz0 (iH rfl rfl) ?_)
 refine ad (an ?_)
 refine ao rfl ?_ ?_ <;> intro h14 <;> try simp only [bs] at h14
 ·have hq5 := h14
  refine bA (an (aH (an ?_)))
  have hhs := yR hq4
  have hju := qC (x := (j : Int)) (by omega)
  rw [UInt32.lt_iff_toNat_lt] at hq5
  refine ar (zz0 (aa rfl) (zz0 (ab rfl) (aM (zz0 (aa rfl) (zz0 (ab rfl) (ad ?_))))))
  refine dj (ι := UInt32) (fun k1 => k1 = sM x (u32 (j : Int))) (fun _ => Bg.of w) (fun k1 => [rowE Vo 23 au out, cellE b9 [(.slice pV l.length cV)] 92, cellE b5 (bR.enc x) 25, cellE b2 (cO.enc s) 37, cellE b1 (aT.enc i) 36]) (fun k1 => [(15, .int .u32 k1.toNat)]) ?_ (fun k1 hi => ?_)
  ·skip
   refine ah (zz0 (bC rfl aN aj) ?_)
   refine zz0 (aa rfl) (zz0 (aD rfl qM (fun w hw => m4 x _ w)) ?_)
   refine zz0 (cp rfl) (ad ?_)
   refine ao rfl ?_ ?_ <;> intro h15 <;> try simp only [bs] at h15
   ·refine ar (zz0 (zz2 (off := 2) (ft := 23) rfl ak rfl ae) ?_)
    refine zz0 (aG rfl am) ?_
    refine zz0 (ab rfl) (ad ?_)
    refine cD _ (Front.c Front.nil) (bD 7 rfl) (o := (by show _ = _; unfold sM; rw [if_neg (by simp_all)]))
   refine bA ?_
   refine cD _ (Front.c Front.nil) (bD 4 rfl) (o := (by show _ = _; unfold sM; rw [if_pos (by simp_all)]))
  skip
  replace hi : k1 = sM x (u32 (j : Int)) := hi
  change Tr _ _ [rowE Vo 23 au out, cellE b9 [(.slice pV l.length cV)] 92, cellE b5 (bR.enc x) 25, cellE b2 (cO.enc s) 37, cellE b1 (aT.enc i) 36] ([(15, .int .u32 k1.toNat)] ++ _) _
  refine ah (zz0 (bC rfl mH jr) ?_)
  refine zz0 (zz2 (off := 1) (ft := 23) rfl af rfl ae) ?_
  refine zz0 (aG rfl am) ?_
  refine zz0 (aa rfl) (zz0 (aD rfl Tryz.call45 (fun w hw => AX l pV cV i.imm k1 w (hw.slF hV') hB (hD'.mono hw.bg))) ?_)
  refine zz0 (aa rfl) (zz0 (aQ rfl rfl) (zz0 (aQ rfl rfl) (zz0 (ab rfl) (zz0 (ab rfl) (ad (an (ah (zz0 (aa rfl) (zz0 (cp rfl) (ad ?_))))))))))
  refine ao rfl ?_ ?_ <;> intro h16 <;> try simp only [bs] at h16
  ·have hq7 : (iN l i.imm k1).2 = false := h16
   refine ah (zz0 (ab rfl) (zz0 (ab rfl) (ad (aC (aA (bj (aA (aA (bj (aA ?_))))))))))
   refine cN ie rfl rfl (fun w' hw => ?_)
   have htn := wX (CY hto (by rw [← hi]; exact hq7)) (x.hi.toNat + 1) (by omega)
   have e : co l i x = ([], 19) := by
    unfold co
    rw [if_neg (by rw [hq1]; simp)]
    rw [if_neg (fun q => q hq2)]
    rw [if_neg (show ¬((fG x = false ∨ x.em = true) ∨ x.top = true) from fun q => by rcases q with (q | q) | q <;> simp_all)]
    rw [if_neg (fun q => q hqo), if_neg (by rw [UInt32.not_le]; exact hq4), htn]
   exact ⟨.slice none 0 0, by rw [e], hw.b0, by rw [e]; exact dH rfl⟩
  have hq7 : (iN l i.imm k1).2 = true := by simpa using h16
  refine bA (ar (zz0 (aa rfl) (zz0 (aa rfl) ?_)))
  refine jl (E := au) (iN l i.imm k1).1 rfl rfl al ae cX (fun V17 => ?_)
  refine zz1 rfl rfl al eN (fun V18 => ?_)
  refine zz0 (ab rfl) (ax (aY (ac (ar (zz0 (fN (n := 1) rfl rfl) ?_)))))
  refine zz0 (aa rfl) (ad ?_)
  rw [zJ (by omega)]
  refine cF (j + 1, out ++ [(iN l i.imm k1).1], _) (Front.c (Front.c Front.nil)) (bD 27 rfl) (o := ⟨by omega, by rw [hi]; exact zR hto (by rw [← hi]; exact hq7)⟩)
 have hq5 := h14
 refine bF (aI (aI (bv (ac (an ?_)))))
 have hhs := yR hq4
 have hju := qC (x := (j : Int)) (by omega)
 rw [UInt32.lt_iff_toNat_lt] at hq5
 obtain rfl : j = x.hi.toNat + 1 := by omega
 refine ar (zz0 (aa rfl) (zz0 (ab rfl) (zz0 (ab rfl) (ad (aC ?_)))))
 refine cN ie rfl rfl (fun w' hw => ?_)
 have e : co l i x = (out, 0) := by
  unfold co
  rw [if_neg (by rw [hq1]; simp)]
  rw [if_neg (fun q => q hq2)]
  rw [if_neg (show ¬((fG x = false ∨ x.em = true) ∨ x.top = true) from fun q => by rcases q with (q | q) | q <;> simp_all)]
  rw [if_neg (fun q => q hqo), if_neg (by rw [UInt32.not_le]; exact hq4), hto]
 exact ⟨Vo, by rw [e], hw.b0, by rw [e]; exact hw.new (by repeat constructor)⟩
theorem vC (l : List SecV) (pV : Option Addr) (cV : Nat) (a : UInt32) (n : Int) (w : World) (hV : Sl (hp w) cY l (.slice pV l.length cV)) (hB : SecB l) (hD : DataIn (hp w) l) (hN : ∀ s ∈ l, s.name.size ≤ 140737488351232) :
  Cr Tryz.prog 23 #[(.slice pV l.length cV), .int .u32 a.toNat, .int .i64 n] w (.bool (te l a n)) := by
 have hV' : Sl (Bg.of w).blk cY l (.slice pV l.length cV) := hV
 have hD' : DataIn (Bg.of w).blk l := hD
 refine enter Tryz.func23 rfl Tryz.ntmps23 rfl ?_
 refine ah (zz0 (ab rfl) (ad (an (ah (zz0 (aa rfl) (zz0 (bT rfl rfl) (zz0 (aa rfl) ?_)))))))
 apply cw
 ·exact (rfl : _ = (3, 13, 16))
 ·exact rfl
 ·intro hF1; have hF1' := hF1
  try simp only [bs] at hF1'
  refine zz3 hF1 (aa rfl) (zz3 hF1 (eo rfl rfl) (zz0 (aL rfl hF1 rfl) ?_))
  refine ax (ac ?_)
  exact az (Sub.cons rfl (zz6 3 rfl))
 ·intro hT1
  refine zz4 hT1 (zz4 hT1 (zz0 (aK rfl hT1 rfl) ?_))
  refine ax (ac ?_)
  exact az (Sub.cons rfl (zz6 3 rfl))
 refine zz0 (aa rfl) ?_
 apply cw
 ·exact (rfl : _ = (4, 17, 21))
 ·exact rfl
 ·intro hF2; have hF2' := hF2
  try simp only [bs] at hF2'
  refine zz3 hF2 (aa rfl) (zz3 hF2 (aD rfl Tryz.call39 (fun w hw => tC l (.slice pV l.length cV) w (hw.slF hV') hB (fun s hs => by have := hN s hs; omega))) ?_)
  refine zz3 hF2 (ff rfl rfl) (zz0 (aL rfl hF2 rfl) ?_)
  refine ax (ac ?_)
  exact az (Sub.cons rfl (zz6 4 rfl))
 ·intro hT2
  refine zz4 hT2 (zz4 hT2 (zz4 hT2 (zz0 (aK rfl hT2 rfl) ?_)))
  refine ax (ac ?_)
  exact az (Sub.cons rfl (zz6 4 rfl))
 refine ad ?_
 refine ao rfl ?_ ?_ <;> intro h3 <;> try simp only [bs] at h3
 ·have hq1 := h3
  refine ah (zz0 (ab rfl) (ad (aC (aA ?_))))
  refine aO Tryz.results23 rfl (fun w' hw => ?_)
  exact ⟨by unfold te; rw [if_pos (by omega)], hw.b0⟩
 have hq1 := h3
 refine cT (zz0 (aa rfl) (zz0 (bL (vs := [(0, _)]) rfl rfl rfl) ?_))
 refine dB Tryz.zeroValue92 rfl (fun b4 => ?_)
 refine zz8 rfl rfl jr ?_
 refine ad (an (ah (zz0 (aa rfl) (zz0 (aa rfl) (ad (aH ?_))))))
 refine bK (ι := Nat) (fun j => (j : Int) ≤ n ∧ nl l a j = true) (fun _ => _) (fun j => [cellE b4 [(.slice pV l.length cV)] 92]) (fun j => [(25, .int .i64 (j : Nat))]) (fun j => n.toNat - j) 0 ⟨by omega, rfl⟩ (Front.c Front.nil) (by repeat' constructor) rfl (fun j hi m hm => ?_)
 replace hi : (j : Int) ≤ n ∧ nl l a j = true := hi
 replace hm : m = n.toNat - j := hm
 change Tr _ _ [cellE b4 [(.slice pV l.length cV)] 92] ([(25, .int .i64 (j : Nat))] ++ _) _
 obtain ⟨hj, hto⟩ := hi
 refine ah (zz0 (bT rfl rfl) (ad (an ?_)))
 refine ao rfl ?_ ?_ <;> intro h5 <;> try simp only [bs] at h5
 ·refine bA (an (aH (ah (zz0 (aa rfl) (zz0 (ab rfl) (aM (zz0 (bC rfl mH jr) ?_)))))))
  refine zz0 (aa rfl) (zz0 (aa rfl) (zz0 (ir rfl aZ aP) (zz0 (aD rfl Tryz.call45 (fun w hw => AX l pV cV a _ w (hw.slF hV') hB (hD'.mono hw.bg))) ?_)))
  refine zz0 (aa rfl) (zz0 (aQ rfl rfl) (zz0 (aQ rfl rfl) (zz0 (ab rfl) (zz0 (ab rfl) (aM (zz0 (aa rfl) (zz0 (cp rfl) (ad ?_))))))))
  refine ao rfl ?_ ?_ <;> intro h6 <;> try simp only [bs] at h6
  ·have hq2 : (iN l a (u32 (j : Int))).2 = false := h6
   refine ah (zz0 (ab rfl) (ad (aC (bj (aA (aA (bj (aA ?_))))))))
   refine aO Tryz.results23 rfl (fun w' hw => ?_)
   have hf := AB (show nl l a (j + 1) = false by simp only [nl, hq2, Bool.and_false]) n.toNat (by omega)
   exact ⟨by unfold te; rw [if_neg (by omega), hf], hw.b0⟩
  have hq2 : (iN l a (u32 (j : Int))).2 = true := by simpa using h6
  refine cg (aY (ac (ar (zz0 (cE rfl rfl) ?_))))
  refine zz0 (aa rfl) (ad ?_)
  refine cF (j + 1) (Front.c Front.nil) (bD 18 rfl) (o := ⟨by omega, by simp only [nl, hto, hq2, Bool.and_self]⟩)
 refine bF (aI (aI (bv (ac (ah (zz0 (ab rfl) (ad (aC ?_))))))))
 refine aO Tryz.results23 rfl (fun w' hw => ?_)
 exact ⟨by unfold te; rw [if_neg (by omega), show n.toNat = j by omega, hto], hw.b0⟩
end Go.Proofs.YtiajjbhcpeadfaaGreat
namespace Go.Proofs.YtiajjbhcpeadfaaGreat
open Go Go.HL Go.RowKit
def dL (cmp : Ins → Ins → Int) (x y : Ins) : Bool := decide (cmp x y < 0)
def zT (cmp : Ins → Ins → Int) (V : Value) (l : List Ins) (a b : Nat) (w : World) : Ending → World → Prop := fun e w' => e = .returned (.tuple #[]) ∧ ∃ l', (Stab (dL cmp) l l' ∧ Fram a b l l' ∧ Srt (dL cmp) l' a b) ∧ Mut w w' V ∧ (rowE V 36 aT l').holds w'
def Dy (g : FuncId) (cb : List Value) (cmp : Ins → Ins → Int) (I : World → Prop) (V : Value) (n : Nat) : Prop := ∀ (l : List Ins) (a md b : Nat) (ai mdi bi : Int) (w : World), ai = ((a : Nat) : Int) → mdi = ((md : Nat) : Int) → bi = ((b : Nat) : Int) → b - a ≤ n → a < md → md < b → b ≤ l.length → l.length ≤ 1000000 → Srt (dL cmp) l a md → Srt (dL cmp) l md b → I w → (rowE V 36 aT l).holds w → Calls Tryz.prog 200 #[V, .int .i64 ai, .int .i64 mdi, .int .i64 bi, .func (.func g) #[] cb.toArray] w (zT cmp V l a b w)
theorem qY (l : List Ins) (V : Value) (a : Nat) (b : Nat) (ai : Int) (bi : Int) (ea : ai = ((a : Nat) : Int)) (eb : bi = ((b : Nat) : Int)) (g : FuncId) (cb : List Value) (cmp : Ins → Ins → Int) (I : World → Prop) (hI : ∀ w w' l', I w → Mut w w' V → (rowE V 36 aT l').holds w' → I w') (eg : ∀ args w, (callFunc g args).run Tryz.prog w = .ok (.enter g args) w) (hc : ∀ x y w', I w' → Calls Tryz.prog g ([Value.agg (aT.enc x).toArray, Value.agg (aT.enc y).toArray] ++ cb).toArray w' fun e w'' => e = .returned (.int .i64 (cmp x y)) ∧ Ext w' w'') (hO : WO (dL cmp)) (w : World) (hIw : I w) (hr : (rowE V 36 aT l).holds w) (hl : l.length ≤ 1000000) (hab : a ≤ b) (hb : b ≤ l.length) :
  Calls Tryz.prog 199 #[V, .int .i64 ai, .int .i64 bi, .func (.func g) #[] cb.toArray] w (zT cmp V l a b w) := by
 subst ea eb
 refine fS (l := l) (E := aT) (T := 36) hr Tryz.func199 rfl Tryz.ntmps199 rfl ?_
 refine ah (zz0 (aa rfl) (zz0 (cE rfl rfl) ?_))
 refine zz0 (ab rfl) (ad (aH ?_))
 refine bK (ι := Nat × List Ins) (fun ⟨i, cur⟩ => a + 1 ≤ i ∧ (i ≤ b ∨ i = a + 1) ∧ Stab (dL cmp) l cur ∧ Fram a b l cur ∧ Srt (dL cmp) cur a i) (fun _ => _) (fun ⟨i, cur⟩ => [rowE V 36 aT cur]) (fun ⟨i, cur⟩ => [(8, .int .i64 (i : Nat))]) (fun ⟨i, cur⟩ => b - i) (a + 1, l) ⟨Nat.le_refl _, .inr rfl, .refl _ _, .refl _ _ _, .one (Nat.le_refl _)⟩ (Front.c Front.nil) (by repeat' constructor) rfl (fun i hi m hm => ?_)
 obtain ⟨i, cur⟩ := i
 replace hi : a + 1 ≤ i ∧ (i ≤ b ∨ i = a + 1) ∧ Stab (dL cmp) l cur ∧ Fram a b l cur ∧ Srt (dL cmp) cur a i := hi
 replace hm : m = b - i := hm
 change Tr _ _ [rowE V 36 aT cur] ([(8, .int .i64 (i : Nat))] ++ _) _
 obtain ⟨hi1, hi2, hi3, hi4, hi5⟩ := hi
 have hcl : cur.length = l.length := hi4.1
 refine an (ah (zz0 (aa rfl) (zz0 (aa rfl) (zz0 (bT rfl rfl) (ad ?_)))))
 refine ao rfl ?_ ?_ <;> intro h1 <;> try simp only [bs] at h1
 ·refine bA (an (aH (ah (zz0 (aa rfl) (zz0 (ab rfl) (ad (aH ?_)))))))
  have e0 : mp (dC i i (i + 1)) cur = cur := rK (.inl rfl) (Nat.le_refl _) (by omega)
  refine gV e0.symm ?_
  refine bK (ι := Nat) (fun j => a ≤ j ∧ j ≤ i ∧ ∀ q, j ≤ q → q < i → dL cmp (cur.getD i default) (cur.getD q default) = true) (fun _ => _) (fun j => [rowE V 36 aT (mp (dC j i (i + 1)) cur)]) (fun j => [(9, .int .i64 (j : Nat))]) (fun j => j) i ⟨by omega, Nat.le_refl _, fun q x y => by omega⟩ (Front.c Front.nil) (by repeat' constructor) rfl (fun j hi m hm => ?_)
  replace hi : a ≤ j ∧ j ≤ i ∧ ∀ q, j ≤ q → q < i → dL cmp (cur.getD i default) (cur.getD q default) = true := hi
  replace hm : m = j := hm
  change Tr _ _ [rowE V 36 aT (mp (dC j i (i + 1)) cur)] ([(9, .int .i64 (j : Nat))] ++ _) _
  obtain ⟨hj1, hj2, hj3⟩ := hi
  have hml : (mp (dC j i (i + 1)) cur).length = l.length := by rw [ix]; exact hcl
  have ej : ((j : Int) - 1).toNat = j - 1 := by omega
  have ev : (mp (dC j i (i + 1)) cur).getD j default = cur.getD i default := by rw [iU (by omega)]; congr 1; have := fW j i (i + 1) j; omega
  have ew : 0 < j → (mp (dC j i (i + 1)) cur).getD (j - 1) default = cur.getD (j - 1) default := fun q => by rw [iU (by omega)]; congr 1; have := fW j i (i + 1) (j - 1); omega
  refine an (an (g9 aU ?_))
  refine aw (aa rfl) (aw (aa rfl) (aw (eo rfl rfl) (aw (aa rfl) ?_)))
  apply fk
  ·exact (rfl : _ = (13, 21, 34))
  ·exact rfl
  ·intro hT2; have hT2' := hT2
   try simp only [bs] at hT2'
   refine bV hT2 (aa rfl) (bV hT2 (aa rfl) (bV hT2 (aa rfl) (bV hT2 (zz9 rfl rfl aR ay) ?_)))
   refine bV hT2 (nc rfl aS ay) ?_
   refine bV hT2 (aa rfl) (bV hT2 (aa rfl) (bV hT2 (er rfl rfl) ?_))
   refine bV hT2 (jL rfl rfl aR ay) ?_
   refine bV hT2 (nc rfl aS ay) ?_
   refine bV hT2 (iJ rfl rfl eg (fun w hw => hc _ _ w (hI _ _ _ hIw (HpOK.mutOwn hw (.head _) rfl).1 (HpOK.mutOwn hw (.head _) rfl).2))) ?_
   refine bV hT2 (bT rfl rfl) (aw (aK rfl hT2 rfl) ?_)
   exact db (Sub.cons rfl (zz6 13 rfl))
  ·intro hF2
   refine bU hF2 (bU hF2 (bU hF2 (bU hF2 (bU hF2 (bU hF2 (bU hF2 (bU hF2 (bU hF2 (bU hF2 (bU hF2 (bU hF2 (aw (aL rfl hF2 rfl) ?_))))))))))))
   exact db (Sub.cons rfl (zz6 13 rfl))
  refine bI ?_
  refine ac ?_
  refine ao rfl ?_ ?_ <;> intro h3 <;> try simp only [bs] at h3
  ·refine bA (an (aH (fR 5 15 aU ?_)))
   refine eB rfl ?_
   refine eB rfl ?_
   refine eB rfl ?_
   refine eB rfl ?_
   refine gJ (fun _ => er rfl rfl) (by rfl) rfl ?_
   refine bH ?_
   refine aw (aa rfl) (aw (aa rfl) (aw (er rfl rfl) ?_))
   refine aw (jL rfl rfl aR ay) ?_
   refine aw (nc rfl aS ay) ?_
   refine aw (aa rfl) (aw (aa rfl) (aw (zz9 rfl rfl aR ay) ?_))
   refine aw (nc rfl aS ay) ?_
   refine aw (zz9 rfl rfl aR ay) ?_
   refine bI ?_
   refine gw (l := (mp (dC j i (i + 1)) cur)) (i := j) ((mp (dC j i (i + 1)) cur).getD (((j : Int) - 1).toNat) default) rfl rfl ay ?_
   have hls4 : (List.set (mp (dC j i (i + 1)) cur) (j) ((mp (dC j i (i + 1)) cur).getD (((j : Int) - 1).toNat) default)).length = ((mp (dC j i (i + 1)) cur)).length := List.length_set
   refine zz0 (jL rfl rfl aR ay) ?_
   refine gw (l := ((mp (dC j i (i + 1)) cur).set (j) ((mp (dC j i (i + 1)) cur).getD (((j : Int) - 1).toNat) default))) (i := ((j : Int) - 1).toNat) ((mp (dC j i (i + 1)) cur).getD (j) default) rfl rfl ay ?_
   have hls5 : (List.set ((mp (dC j i (i + 1)) cur).set (j) ((mp (dC j i (i + 1)) cur).getD (((j : Int) - 1).toNat) default)) (((j : Int) - 1).toNat) ((mp (dC j i (i + 1)) cur).getD (j) default)).length = (((mp (dC j i (i + 1)) cur).set (j) ((mp (dC j i (i + 1)) cur).getD (((j : Int) - 1).toNat) default))).length := List.length_set
   refine ax (aY (ac (ar (zz0 (aa rfl) (zz0 (er rfl rfl) ?_)))))
   refine zz0 (ab rfl) (ad ?_)
   have hsw := Dc (l := (mp (dC j i (i + 1)) cur)) (p := j) (q := j - 1) (by omega) (by omega)
   rw [Ab (by omega) hj2 (by omega)] at hsw
   have hlt : dL cmp (cur.getD i default) (cur.getD (j - 1) default) = true := by
    rw [← ev, ← ew (by omega), ← ej]
    simpa [dL] using h3.2
   have hj3' : ∀ q, j - 1 ≤ q → q < i → dL cmp (cur.getD i default) (cur.getD q default) = true := fun q x y => by
    by_cases c : q = j - 1
    ·rw [c]; exact hlt
    ·exact hj3 q (by omega) y
   rw [ej, hsw]
   refine cF (j - 1) (Front.c Front.nil) (bD 25 rfl) (o := ⟨by omega, by omega, hj3'⟩)
  refine bF (aI (aI (bv (aY (ac (ar (zz0 (aa rfl) (zz0 (cE rfl rfl) ?_))))))))
  refine zz0 (ab rfl) (ad ?_)
  have hB : j = a ∨ dL cmp (cur.getD i default) (cur.getD (j - 1) default) = false := by
   rcases h3 with h3 | h3
   ·exact .inl (by omega)
   ·by_cases q : j = a
    ·exact .inl q
    ·refine .inr ?_
     rw [← ev, ← ew (by omega), ← ej]
     simpa [dL] using h3
  have hin := C0 hO hi5 (by omega) hj1 hj2 hj3 hB
  have hfr : Fram a b l (mp (dC j i (i + 1)) cur) := hi4.trans (Fram.rot hj1 (by omega) hj2 (by omega))
  refine cF (i + 1, _) (Front.c Front.nil) (bD 15 rfl) (o := ⟨by omega, by omega, hi3.trans hin.1, hfr, hin.2⟩)
 refine bF (aI (aI (bv ?_)))
 refine fE Tryz.results199 (fun w' hw => ?_)
 exact ⟨rfl, _, ⟨hi3, hi4, hi5.sub (Nat.le_refl _) (by omega)⟩, HpOK.mutOwn hw (.head _) rfl⟩
theorem ng (l : List Ins) (V : Value) (a : Nat) (b : Nat) (n : Nat) (ai : Int) (bi : Int) (ni : Int) (ea : ai = ((a : Nat) : Int)) (eb : bi = ((b : Nat) : Int)) (en : ni = ((n : Nat) : Int)) (cv : Value) (w : World) (hr : (rowE V 36 aT l).holds w) (hl : l.length ≤ 1000000) (hab : a + n ≤ b) (hb : b + n ≤ l.length) :
  Calls Tryz.prog 296 #[V, .int .i64 ai, .int .i64 bi, .int .i64 ni, cv] w (fun e w' => e = .returned (.tuple #[]) ∧ Mut w w' V ∧ (rowE V 36 aT (mp (swR a b n) l)).holds w') := by
 subst ea eb en
 refine fS (l := l) (E := aT) (T := 36) hr Tryz.func296 rfl Tryz.ntmps296 rfl ?_
 refine ah (zz0 (ab rfl) (ad (aH ?_)))
 have e0 : mp (swR a b 0) l = l := JG
 refine gV e0.symm ?_
 refine bK (ι := Nat) (fun i => i ≤ n) (fun _ => _) (fun i => [rowE V 36 aT (mp (swR a b i) l)]) (fun i => [(10, .int .i64 (i : Nat))]) (fun i => n - i) 0 (Nat.zero_le _) (Front.c Front.nil) (by repeat' constructor) rfl (fun i hi m hm => ?_)
 replace hi : i ≤ n := hi
 replace hm : m = n - i := hm
 change Tr _ _ [rowE V 36 aT (mp (swR a b i) l)] ([(10, .int .i64 (i : Nat))] ++ _) _
 have hml : (mp (swR a b i) l).length = l.length := ix _ _
 refine an (ah (zz0 (aa rfl) (zz0 (aa rfl) (zz0 (bT rfl rfl) (ad ?_)))))
 refine ao rfl ?_ ?_ <;> intro h1 <;> try simp only [bs] at h1
 ·refine bA (an (aH (fR 8 21 aU ?_)))
  refine eB rfl ?_
  refine eB rfl ?_
  refine eB rfl ?_
  refine gJ (fun _ => cE rfl rfl) (by rfl) rfl ?_
  refine eB rfl ?_
  refine eB rfl ?_
  refine eB rfl ?_
  refine gJ (fun _ => cE rfl rfl) (by rfl) rfl ?_
  refine bH ?_
  refine aw (aa rfl) (aw (aa rfl) (aw (aa rfl) (aw (cE rfl rfl) ?_)))
  refine aw (zz9 rfl rfl aR ay) ?_
  refine aw (nc rfl aS ay) ?_
  refine aw (aa rfl) (aw (aa rfl) (aw (aa rfl) (aw (cE rfl rfl) ?_)))
  refine aw (zz9 rfl rfl aR ay) ?_
  refine aw (nc rfl aS ay) ?_
  refine aw (zz9 rfl rfl aR ay) ?_
  refine bI ?_
  refine gw (l := (mp (swR a b i) l)) (i := a + i) ((mp (swR a b i) l).getD (b + i) default) rfl rfl ay ?_
  have hls2 : (List.set (mp (swR a b i) l) (a + i) ((mp (swR a b i) l).getD (b + i) default)).length = ((mp (swR a b i) l)).length := List.length_set
  refine zz0 (zz9 rfl rfl aR ay) ?_
  refine gw (l := ((mp (swR a b i) l).set (a + i) ((mp (swR a b i) l).getD (b + i) default))) (i := b + i) ((mp (swR a b i) l).getD (a + i) default) rfl rfl ay ?_
  have hls3 : (List.set ((mp (swR a b i) l).set (a + i) ((mp (swR a b i) l).getD (b + i) default)) (b + i) ((mp (swR a b i) l).getD (a + i) default)).length = (((mp (swR a b i) l).set (a + i) ((mp (swR a b i) l).getD (b + i) default))).length := List.length_set
  refine ax (aY (ac (ar (zz0 (aa rfl) (zz0 (cE rfl rfl) ?_)))))
  refine zz0 (ab rfl) (ad ?_)
  have hsw := Dc (l := (mp (swR a b i) l)) (p := a + i) (q := b + i) (by omega) (by omega)
  rw [Ff hab hb (by omega)] at hsw
  rw [hsw]
  refine cF (i + 1) (Front.c Front.nil) (bD 29 rfl) (o := (by show i + 1 ≤ n; omega))
 refine bF (aI (aI (bv ?_)))
 refine fE Tryz.results296 (fun w' hw => ?_)
 obtain rfl : i = n := by omega
 exact ⟨rfl, HpOK.mutOwn hw (.head _) rfl⟩
theorem BP (l : List Ins) (V : Value) (a : Nat) (md : Nat) (b : Nat) (ai : Int) (mdi : Int) (bi : Int) (ea : ai = ((a : Nat) : Int)) (emd : mdi = ((md : Nat) : Int)) (eb : bi = ((b : Nat) : Int)) (cv : Value) (w : World) (hr : (rowE V 36 aT l).holds w) (hl : l.length ≤ 1000000) (ham : a < md) (hmb : md < b) (hb : b ≤ l.length) :
  Calls Tryz.prog 263 #[V, .int .i64 ai, .int .i64 mdi, .int .i64 bi, cv] w (fun e w' => e = .returned (.tuple #[]) ∧ Mut w w' V ∧ (rowE V 36 aT (mp (dC a md b) l)).holds w') := by
 subst ea emd eb
 refine fS (l := l) (E := aT) (T := 36) hr Tryz.func263 rfl Tryz.ntmps263 rfl ?_
 refine ah (zz0 (aa rfl) (zz0 (aa rfl) (zz0 (er rfl rfl) ?_)))
 refine zz0 (ab rfl) (aM (zz0 (aa rfl) (zz0 (aa rfl) (zz0 (er rfl rfl) ?_))))
 refine zz0 (ab rfl) (ad (an (aH ?_)))
 refine bK (ι := Nat × Nat × List Ins) (fun ⟨i, j, cur⟩ => 0 < i ∧ 0 < j ∧ i ≤ md ∧ md + j ≤ l.length ∧ cur.length = l.length ∧ mp (dC (md - i) md (md + j)) cur = mp (dC a md b) l) (fun _ => _) (fun ⟨i, j, cur⟩ => [rowE V 36 aT cur]) (fun ⟨i, j, cur⟩ => [(10, .int .i64 (i : Nat)), (11, .int .i64 (j : Nat))]) (fun ⟨i, j, cur⟩ => i + j) (md - a, b - md, l) ⟨by omega, by omega, by omega, by omega, rfl, by rw [show md - (md - a) = a by omega, show md + (b - md) = b by omega]⟩ (Front.c (Front.c Front.nil)) (by repeat' constructor) rfl (fun i hi m hm => ?_)
 obtain ⟨i, j, cur⟩ := i
 replace hi : 0 < i ∧ 0 < j ∧ i ≤ md ∧ md + j ≤ l.length ∧ cur.length = l.length ∧ mp (dC (md - i) md (md + j)) cur = mp (dC a md b) l := hi
 replace hm : m = i + j := hm
 change Tr _ _ [rowE V 36 aT cur] ([(10, .int .i64 (i : Nat)), (11, .int .i64 (j : Nat))] ++ _) _
 obtain ⟨hi1, hi2, hi3, hi4, hi5, hi6⟩ := hi
 refine an (ah (zz0 (aa rfl) (zz0 (aa rfl) (zz0 (ff rfl rfl) (ad ?_)))))
 refine ao rfl ?_ ?_ <;> intro h1 <;> try simp only [bs] at h1
 ·refine bA (aH (ah (zz0 (aa rfl) (zz0 (aa rfl) (zz0 (eo rfl rfl) (ad ?_))))))
  refine ao rfl ?_ ?_ <;> intro h2 <;> try simp only [bs] at h2
  ·refine ah (zz0 (aa rfl) (zz0 (aa rfl) (zz0 (aa rfl) (zz0 (er rfl rfl) ?_))))
   refine zz0 (aa rfl) (zz0 (aa rfl) (zz0 (aa rfl) (d5 rfl Tryz.call296 (by repeat constructor) (fun w hw => ng cur V (md - i) md j _ _ _ (by omega) (by omega) (by omega) cv w (hw.ent _ (.head _)) (by omega) (by omega) (by omega)) rfl ?_)))
   refine ad (ar (zz0 (aa rfl) (zz0 (aa rfl) (zz0 (er rfl rfl) ?_))))
   refine zz0 (ab rfl) (ax (aY (ac ?_)))
   have hn := (IW (l := cur) (m := md) (i := i) (j := j) hi3 (by omega) (by omega)).trans hi6
   refine cF (i - j, j, _) (Front.c (Front.c Front.nil)) (bD 20 rfl) (o := ⟨by omega, hi2, by omega, hi4, by rw [ix]; exact hi5, hn⟩)
  refine ah (zz0 (aa rfl) (zz0 (aa rfl) (zz0 (aa rfl) (zz0 (er rfl rfl) ?_))))
  refine zz0 (aa rfl) (zz0 (aa rfl) (zz0 (cE rfl rfl) ?_))
  refine zz0 (aa rfl) (zz0 (er rfl rfl) ?_)
  refine zz0 (aa rfl) (zz0 (aa rfl) (d5 rfl Tryz.call296 (by repeat constructor) (fun w hw => ng cur V (md - i) (md + j - i) i _ _ _ (by omega) (by omega) (by omega) cv w (hw.ent _ (.head _)) (by omega) (by omega) (by omega)) rfl ?_))
  refine ad (ar (zz0 (aa rfl) (zz0 (aa rfl) (zz0 (er rfl rfl) ?_))))
  refine zz0 (ab rfl) (ax (aY (ac ?_)))
  have hn := (IV (l := cur) (m := md) (i := i) (j := j) hi3 (by omega) (by omega)).trans hi6
  refine cF (i, j - i, _) (Front.c (Front.c Front.nil)) (bD 24 rfl) (o := ⟨hi1, by omega, hi3, by omega, by rw [ix]; exact hi5, hn⟩)
 refine bF (aI (aI (bv (ac (ar (zz0 (aa rfl) (zz0 (aa rfl) (zz0 (aa rfl) (zz0 (er rfl rfl) ?_)))))))))
 refine zz0 (aa rfl) (zz0 (aa rfl) (zz0 (aa rfl) (d5 rfl Tryz.call296 (by repeat constructor) (fun w hw => ng cur V (md - i) md i _ _ _ (by omega) (by omega) (by omega) cv w (hw.ent _ (.head _)) (by omega) (by omega) (by omega)) rfl ?_)))
 refine ax ?_
 refine fE Tryz.results263 (fun w' hw => ?_)
 obtain rfl : j = i := by omega
 rw [IX hi3, hi6] at hw
 exact ⟨rfl, HpOK.mutOwn hw (.head _) rfl⟩
theorem DW (l : List Ins) (V : Value) (a : Nat) (md : Nat) (b : Nat) (ai : Int) (mdi : Int) (bi : Int) (ea : ai = ((a : Nat) : Int)) (emd : mdi = ((md : Nat) : Int)) (eb : bi = ((b : Nat) : Int)) (g : FuncId) (cb : List Value) (cmp : Ins → Ins → Int) (I : World → Prop) (hI : ∀ w w' l', I w → Mut w w' V → (rowE V 36 aT l').holds w' → I w') (eg : ∀ args w, (callFunc g args).run Tryz.prog w = .ok (.enter g args) w) (hc : ∀ x y w', I w' → Calls Tryz.prog g ([Value.agg (aT.enc x).toArray, Value.agg (aT.enc y).toArray] ++ cb).toArray w' fun e w'' => e = .returned (.int .i64 (cmp x y)) ∧ Ext w' w'') (hO : WO (dL cmp)) (w : World) (hIw : I w) (hr : (rowE V 36 aT l).holds w) (hl : l.length ≤ 1000000) (ih : ∀ n, n < b - a → Dy g cb cmp I V n) (ham : a < md) (hmb : md < b) (hb : b ≤ l.length) (h1s : Srt (dL cmp) l a md) (h2s : Srt (dL cmp) l md b) :
  Calls Tryz.prog 200 #[V, .int .i64 ai, .int .i64 mdi, .int .i64 bi, .func (.func g) #[] cb.toArray] w (zT cmp V l a b w) := by
 subst ea emd eb
 refine fS (l := l) (E := aT) (T := 36) hr Tryz.func200 rfl Tryz.ntmps200 rfl ?_
 refine an (ah (zz0 (aa rfl) (zz0 (aa rfl) (zz0 (er rfl rfl) ?_))))
 refine zz0 (bh rfl rfl) (ad ?_)
 refine ao rfl ?_ ?_ <;> intro h1 <;> try simp only [bs] at h1
 ·refine ah (zz0 (aa rfl) (zz0 (ab rfl) (aM (zz0 (aa rfl) (zz0 (ab rfl) (ad (an (aH ?_))))))))
  refine bK (ι := Nat × Nat) (fun ⟨i, j⟩ => md ≤ i ∧ i ≤ j ∧ j ≤ b ∧ (∀ q, md ≤ q → q < i → dL cmp (l.getD q default) (l.getD a default) = true) ∧ (∀ q, j ≤ q → q < b → dL cmp (l.getD q default) (l.getD a default) = false)) (fun _ => _) (fun ⟨i, j⟩ => [rowE V 36 aT l]) (fun ⟨i, j⟩ => [(10, .int .i64 (i : Nat)), (11, .int .i64 (j : Nat))]) (fun ⟨i, j⟩ => j - i) (md, b) ⟨Nat.le_refl _, by omega, Nat.le_refl _, fun q x y => by omega, fun q x y => by omega⟩ (Front.c (Front.c Front.nil)) (by repeat' constructor) rfl (fun i hi m hm => ?_)
  obtain ⟨i, j⟩ := i
  replace hi : md ≤ i ∧ i ≤ j ∧ j ≤ b ∧ (∀ q, md ≤ q → q < i → dL cmp (l.getD q default) (l.getD a default) = true) ∧ (∀ q, j ≤ q → q < b → dL cmp (l.getD q default) (l.getD a default) = false) := hi
  replace hm : m = j - i := hm
  change Tr _ _ [rowE V 36 aT l] ([(10, .int .i64 (i : Nat)), (11, .int .i64 (j : Nat))] ++ _) _
  obtain ⟨hi1, hi2, hi3, hi4, hi5⟩ := hi
  refine an (ah (zz0 (aa rfl) (zz0 (aa rfl) (zz0 (bT rfl rfl) (ad ?_)))))
  refine ao rfl ?_ ?_ <;> intro h2 <;> try simp only [bs] at h2
  ·refine bA (aH (ah (zz0 (aa rfl) (zz0 (aa rfl) (zz0 (cE rfl rfl) ?_)))))
   refine zz0 (fm rfl aZ dV (IntWalk.u64_in _ (by omega))) ?_
   refine zz0 (uJ rfl rfl (by omega)) ?_
   refine zz0 (fm rfl dV aZ (IntWalk.i64_in _ (by omega))) ?_
   refine zz0 (ab rfl) (ad (an ?_))
   obtain ⟨h, hhh⟩ : ∃ h, h = (i + j) / 2 := ⟨_, rfl⟩
   rw [show (((i : Nat) : Int) + ((j : Nat) : Int)) / 2 = ((h : Nat) : Int) by omega]
   refine g9 aU ?_
   refine aw (aa rfl) (aw (aa rfl) (aw (aa rfl) (aw (zz9 rfl rfl aR ay) ?_)))
   refine aw (nc rfl aS ay) ?_
   refine aw (aa rfl) (aw (aa rfl) (aw (zz9 rfl rfl aR ay) ?_))
   refine aw (nc rfl aS ay) ?_
   refine aw (iJ rfl rfl eg (fun w hw => hc _ _ w (hI _ _ _ hIw (HpOK.mutOwn hw (.head _) rfl).1 (HpOK.mutOwn hw (.head _) rfl).2))) ?_
   refine aw (bT rfl rfl) (bI ?_)
   refine ac ?_
   refine ao rfl ?_ ?_ <;> intro h3 <;> try simp only [bs] at h3
   ·refine ar (zz0 (aa rfl) (zz0 (cE rfl rfl) ?_))
    refine zz0 (ab rfl) (ax (aY (ac ?_)))
    have hx : dL cmp (l.getD h default) (l.getD a default) = true := by simp only [dL, decide_eq_true_eq]; assumption
    have hn : ∀ q, md ≤ q → q < h + 1 → dL cmp (l.getD q default) (l.getD a default) = true := fun q x y => hO.le_lt (h2s.le hO x (by omega) (by omega)) hx
    refine cF (h + 1, j) (Front.c (Front.c Front.nil)) (bD 26 rfl) (o := ⟨by omega, by omega, hi3, hn, hi5⟩)
   refine ar (zz0 (aa rfl) (zz0 (ab rfl) (ax (aY (ac ?_)))))
   have hx : dL cmp (l.getD h default) (l.getD a default) = false := by simp only [dL, decide_eq_false_iff_not]; assumption
   have hn : ∀ q, h ≤ q → q < b → dL cmp (l.getD q default) (l.getD a default) = false := fun q x y => hO.ntr _ _ _ (h2s.le hO (by omega) x y) hx
   refine cF (i, h) (Front.c (Front.c Front.nil)) (bD 25 rfl) (o := ⟨hi1, by omega, by omega, hi4, hn⟩)
  refine bF (aI (aI (bv (ac (an (ah (zz0 (aa rfl) (zz0 (ab rfl) (ad (aH ?_))))))))))
  have e0 : mp (dC a (a + 1) (a + 1)) l = l := rK (.inr rfl) (by omega) (Nat.le_refl _)
  refine gV e0.symm ?_
  refine bK (ι := Nat) (fun k => a ≤ k ∧ k + 1 ≤ i) (fun _ => _) (fun k => [rowE V 36 aT (mp (dC a (a + 1) (k + 1)) l)]) (fun k => [(13, .int .i64 (k : Nat))]) (fun k => i - k) a ⟨Nat.le_refl _, by omega⟩ (Front.c Front.nil) (by repeat' constructor) rfl (fun k hi m hm => ?_)
  replace hi : a ≤ k ∧ k + 1 ≤ i := hi
  replace hm : m = i - k := hm
  change Tr _ _ [rowE V 36 aT (mp (dC a (a + 1) (k + 1)) l)] ([(13, .int .i64 (k : Nat))] ++ _) _
  obtain ⟨hk1, hk2⟩ := hi
  have hml : (mp (dC a (a + 1) (k + 1)) l).length = l.length := ix _ _
  refine an (ah (zz0 (aa rfl) (zz0 (aa rfl) (zz0 (er rfl rfl) ?_))))
  refine zz0 (bT rfl rfl) (ad ?_)
  refine ao rfl ?_ ?_ <;> intro h4 <;> try simp only [bs] at h4
  ·refine bA (an (aH (fR 5 15 aU ?_)))
   refine eB rfl ?_
   refine eB rfl ?_
   refine eB rfl ?_
   refine eB rfl ?_
   refine gJ (fun _ => cE rfl rfl) (by rfl) rfl ?_
   refine bH ?_
   refine aw (aa rfl) (aw (aa rfl) (aw (cE rfl rfl) ?_))
   refine aw (jL rfl rfl aR ay) ?_
   refine aw (nc rfl aS ay) ?_
   refine aw (aa rfl) (aw (aa rfl) (aw (zz9 rfl rfl aR ay) ?_))
   refine aw (nc rfl aS ay) ?_
   refine aw (zz9 rfl rfl aR ay) ?_
   refine bI ?_
   refine gw (l := (mp (dC a (a + 1) (k + 1)) l)) (i := k) ((mp (dC a (a + 1) (k + 1)) l).getD (k + 1) default) rfl rfl ay ?_
   have hls5 : (List.set (mp (dC a (a + 1) (k + 1)) l) (k) ((mp (dC a (a + 1) (k + 1)) l).getD (k + 1) default)).length = ((mp (dC a (a + 1) (k + 1)) l)).length := List.length_set
   refine zz0 (jL rfl rfl aR ay) ?_
   refine gw (l := ((mp (dC a (a + 1) (k + 1)) l).set (k) ((mp (dC a (a + 1) (k + 1)) l).getD (k + 1) default))) (i := k + 1) ((mp (dC a (a + 1) (k + 1)) l).getD (k) default) rfl rfl ay ?_
   have hls6 : (List.set ((mp (dC a (a + 1) (k + 1)) l).set (k) ((mp (dC a (a + 1) (k + 1)) l).getD (k + 1) default)) (k + 1) ((mp (dC a (a + 1) (k + 1)) l).getD (k) default)).length = (((mp (dC a (a + 1) (k + 1)) l).set (k) ((mp (dC a (a + 1) (k + 1)) l).getD (k + 1) default))).length := List.length_set
   refine ax (aY (ac (ar (zz0 (aa rfl) (zz0 (cE rfl rfl) ?_)))))
   refine zz0 (ab rfl) (ad ?_)
   have hsw := Dc (l := (mp (dC a (a + 1) (k + 1)) l)) (p := k) (q := k + 1) (by omega) (by omega)
   rw [IU hk1 (by omega)] at hsw
   rw [hsw]
   refine cF (k + 1) (Front.c Front.nil) (bD 24 rfl) (o := ⟨by omega, by omega⟩)
  refine bF (aI (aI (bv (ac (aC (aA ?_))))))
  refine l9 kU (fun w' hw => ?_)
  have hin := Fi hO (l := l) (a := a) (i := i) (b := b) (by rw [show a + 1 = md by omega]; exact h2s) hb (by omega) (by omega) (fun q x y => hi4 q (by omega) y) (fun q x y => hi5 q (by omega) y)
  obtain rfl : i = k + 1 := by omega
  exact ⟨rfl, _, ⟨hin.1, Fram.rot (Nat.le_refl _) (by omega) (by omega) (by omega), hin.2⟩, HpOK.mutOwn hw (.head _) rfl⟩
 refine bA (an (ah (zz0 (aa rfl) (zz0 (aa rfl) (zz0 (er rfl rfl) ?_)))))
 refine zz0 (bh rfl rfl) (ad ?_)
 refine ao rfl ?_ ?_ <;> intro h7 <;> try simp only [bs] at h7
 ·refine ah (zz0 (aa rfl) (zz0 (ab rfl) (aM (zz0 (aa rfl) (zz0 (ab rfl) (ad (an (aH ?_))))))))
  refine bK (ι := Nat × Nat) (fun ⟨i, j⟩ => a ≤ i ∧ i ≤ j ∧ j ≤ md ∧ (∀ q, a ≤ q → q < i → dL cmp (l.getD md default) (l.getD q default) = false) ∧ (∀ q, j ≤ q → q < md → dL cmp (l.getD md default) (l.getD q default) = true)) (fun _ => _) (fun ⟨i, j⟩ => [rowE V 36 aT l]) (fun ⟨i, j⟩ => [(14, .int .i64 (i : Nat)), (15, .int .i64 (j : Nat))]) (fun ⟨i, j⟩ => j - i) (a, md) ⟨Nat.le_refl _, by omega, Nat.le_refl _, fun q x y => by omega, fun q x y => by omega⟩ (Front.c (Front.c Front.nil)) (by repeat' constructor) rfl (fun i hi m hm => ?_)
  obtain ⟨i, j⟩ := i
  replace hi : a ≤ i ∧ i ≤ j ∧ j ≤ md ∧ (∀ q, a ≤ q → q < i → dL cmp (l.getD md default) (l.getD q default) = false) ∧ (∀ q, j ≤ q → q < md → dL cmp (l.getD md default) (l.getD q default) = true) := hi
  replace hm : m = j - i := hm
  change Tr _ _ [rowE V 36 aT l] ([(14, .int .i64 (i : Nat)), (15, .int .i64 (j : Nat))] ++ _) _
  obtain ⟨hi1, hi2, hi3, hi4, hi5⟩ := hi
  refine an (ah (zz0 (aa rfl) (zz0 (aa rfl) (zz0 (bT rfl rfl) (ad ?_)))))
  refine ao rfl ?_ ?_ <;> intro h8 <;> try simp only [bs] at h8
  ·refine bA (aH (ah (zz0 (aa rfl) (zz0 (aa rfl) (zz0 (cE rfl rfl) ?_)))))
   refine zz0 (fm rfl aZ dV (IntWalk.u64_in _ (by omega))) ?_
   refine zz0 (uJ rfl rfl (by omega)) ?_
   refine zz0 (fm rfl dV aZ (IntWalk.i64_in _ (by omega))) ?_
   refine zz0 (ab rfl) (ad (an ?_))
   obtain ⟨h, hhh⟩ : ∃ h, h = (i + j) / 2 := ⟨_, rfl⟩
   rw [show (((i : Nat) : Int) + ((j : Nat) : Int)) / 2 = ((h : Nat) : Int) by omega]
   refine g9 aU ?_
   refine aw (aa rfl) (aw (aa rfl) (aw (aa rfl) (aw (zz9 rfl rfl aR ay) ?_)))
   refine aw (nc rfl aS ay) ?_
   refine aw (aa rfl) (aw (aa rfl) (aw (zz9 rfl rfl aR ay) ?_))
   refine aw (nc rfl aS ay) ?_
   refine aw (iJ rfl rfl eg (fun w hw => hc _ _ w (hI _ _ _ hIw (HpOK.mutOwn hw (.head _) rfl).1 (HpOK.mutOwn hw (.head _) rfl).2))) ?_
   refine aw (bT rfl rfl) (aw (cp rfl) (bI ?_))
   refine ac ?_
   refine ao rfl ?_ ?_ <;> intro h9 <;> try simp only [bs] at h9
   ·refine ar (zz0 (aa rfl) (zz0 (cE rfl rfl) ?_))
    refine zz0 (ab rfl) (ax (aY (ac ?_)))
    have hx : dL cmp (l.getD md default) (l.getD h default) = false := by simp only [dL, decide_eq_false_iff_not]; assumption
    have hn : ∀ q, a ≤ q → q < h + 1 → dL cmp (l.getD md default) (l.getD q default) = false := fun q x y => hO.ntr _ _ _ hx (h1s.le hO x (by omega) (by omega))
    refine cF (h + 1, j) (Front.c (Front.c Front.nil)) (bD 27 rfl) (o := ⟨by omega, by omega, hi3, hn, hi5⟩)
   refine ar (zz0 (aa rfl) (zz0 (ab rfl) (ax (aY (ac ?_)))))
   have hx : dL cmp (l.getD md default) (l.getD h default) = true := by simp only [dL, decide_eq_true_eq]; assumption
   have hn : ∀ q, h ≤ q → q < md → dL cmp (l.getD md default) (l.getD q default) = true := fun q x y => hO.lt_le hx (h1s.le hO (by omega) x y)
   refine cF (i, h) (Front.c (Front.c Front.nil)) (bD 26 rfl) (o := ⟨hi1, by omega, by omega, hi4, hn⟩)
  refine bF (aI (aI (bv (ac (an (ah (zz0 (aa rfl) (zz0 (ab rfl) (ad (aH ?_))))))))))
  have e0 : mp (dC md md (md + 1)) l = l := rK (.inl rfl) (Nat.le_refl _) (by omega)
  refine gV e0.symm ?_
  refine bK (ι := Nat) (fun k => i ≤ k ∧ k ≤ md) (fun _ => _) (fun k => [rowE V 36 aT (mp (dC k md (md + 1)) l)]) (fun k => [(17, .int .i64 (k : Nat))]) (fun k => k) md ⟨by omega, Nat.le_refl _⟩ (Front.c Front.nil) (by repeat' constructor) rfl (fun k hi m hm => ?_)
  replace hi : i ≤ k ∧ k ≤ md := hi
  replace hm : m = k := hm
  change Tr _ _ [rowE V 36 aT (mp (dC k md (md + 1)) l)] ([(17, .int .i64 (k : Nat))] ++ _) _
  obtain ⟨hk1, hk2⟩ := hi
  have hml : (mp (dC k md (md + 1)) l).length = l.length := ix _ _
  have ej : ((k : Int) - 1).toNat = k - 1 := by omega
  refine an (ah (zz0 (aa rfl) (zz0 (aa rfl) (zz0 (eo rfl rfl) (ad ?_)))))
  refine ao rfl ?_ ?_ <;> intro h10 <;> try simp only [bs] at h10
  ·refine bA (an (aH (fR 5 15 aU ?_)))
   refine eB rfl ?_
   refine eB rfl ?_
   refine eB rfl ?_
   refine eB rfl ?_
   refine gJ (fun _ => er rfl rfl) (by rfl) rfl ?_
   refine bH ?_
   refine aw (aa rfl) (aw (aa rfl) (aw (er rfl rfl) ?_))
   refine aw (jL rfl rfl aR ay) ?_
   refine aw (nc rfl aS ay) ?_
   refine aw (aa rfl) (aw (aa rfl) (aw (zz9 rfl rfl aR ay) ?_))
   refine aw (nc rfl aS ay) ?_
   refine aw (zz9 rfl rfl aR ay) ?_
   refine bI ?_
   refine gw (l := (mp (dC k md (md + 1)) l)) (i := k) ((mp (dC k md (md + 1)) l).getD (((k : Int) - 1).toNat) default) rfl rfl ay ?_
   have hls11 : (List.set (mp (dC k md (md + 1)) l) (k) ((mp (dC k md (md + 1)) l).getD (((k : Int) - 1).toNat) default)).length = ((mp (dC k md (md + 1)) l)).length := List.length_set
   refine zz0 (jL rfl rfl aR ay) ?_
   refine gw (l := ((mp (dC k md (md + 1)) l).set (k) ((mp (dC k md (md + 1)) l).getD (((k : Int) - 1).toNat) default))) (i := ((k : Int) - 1).toNat) ((mp (dC k md (md + 1)) l).getD (k) default) rfl rfl ay ?_
   have hls12 : (List.set ((mp (dC k md (md + 1)) l).set (k) ((mp (dC k md (md + 1)) l).getD (((k : Int) - 1).toNat) default)) (((k : Int) - 1).toNat) ((mp (dC k md (md + 1)) l).getD (k) default)).length = (((mp (dC k md (md + 1)) l).set (k) ((mp (dC k md (md + 1)) l).getD (((k : Int) - 1).toNat) default))).length := List.length_set
   refine ax (aY (ac (ar (zz0 (aa rfl) (zz0 (er rfl rfl) ?_)))))
   refine zz0 (ab rfl) (ad ?_)
   have hsw := Dc (l := (mp (dC k md (md + 1)) l)) (p := k) (q := k - 1) (by omega) (by omega)
   rw [Ab (by omega) hk2 (by omega)] at hsw
   rw [ej, hsw]
   refine cF (k - 1) (Front.c Front.nil) (bD 23 rfl) (o := ⟨by omega, by omega⟩)
  refine bF (aI (aI (bv (ac (aC (aA ?_))))))
  refine l9 kU (fun w' hw => ?_)
  obtain rfl : i = k := by omega
  have hin := C0 hO (l := l) (a := a) (i := md) (j := i) h1s (by omega) (by omega) (by omega) (fun q x y => hi5 q (by omega) y) (if q : i = a then .inl q else .inr (hi4 _ (by omega) (by omega)))
  obtain rfl : b = md + 1 := by omega
  exact ⟨rfl, _, ⟨hin.1, Fram.rot (by omega) (Nat.le_refl _) (by omega) (by omega), hin.2⟩, HpOK.mutOwn hw (.head _) rfl⟩
 refine cT (zz0 (aa rfl) (zz0 (aa rfl) (zz0 (cE rfl rfl) ?_)))
 refine zz0 (fm rfl aZ dV (IntWalk.u64_in _ (by omega))) ?_
 refine zz0 (uJ rfl rfl (by omega)) ?_
 refine zz0 (fm rfl dV aZ (IntWalk.i64_in _ (by omega))) ?_
 refine zz0 (ab rfl) (ad (an ?_))
 obtain ⟨mid, hhmid⟩ : ∃ mid, mid = (a + b) / 2 := ⟨_, rfl⟩
 rw [show (((a : Nat) : Int) + ((b : Nat) : Int)) / 2 = ((mid : Nat) : Int) by omega]
 refine ar (zz0 (aa rfl) (zz0 (aa rfl) (zz0 (cE rfl rfl) ?_)))
 refine zz0 (ab rfl) (aM (zz0 (ab rfl) (zz0 (ab rfl) (ad ?_))))
 refine dj (ι := Nat × Nat) (fun ⟨s0, r0⟩ => (mid < md ∧ s0 + b = mid + md ∧ r0 = mid) ∨ (md ≤ mid ∧ s0 = a ∧ r0 = md)) (fun _ => Bg.less w V) (fun ⟨s0, r0⟩ => [rowE V 36 aT l]) (fun ⟨s0, r0⟩ => [(20, .int .i64 (s0 : Nat)), (21, .int .i64 (r0 : Nat))]) ?_ (fun i hi => ?_)
 ·skip
  refine ah (zz0 (aa rfl) (zz0 (aa rfl) (zz0 (eo rfl rfl) (ad ?_))))
  refine ao rfl ?_ ?_ <;> intro h13 <;> try simp only [bs] at h13
  ·refine ah (zz0 (aa rfl) (zz0 (aa rfl) (zz0 (er rfl rfl) ?_)))
   refine zz0 (ab rfl) (ad (ar (zz0 (aa rfl) (zz0 (ab rfl) (ad ?_)))))
   refine cD (mid + md - b, mid) (Front.c (Front.c Front.nil)) (bD 9 rfl) (o := .inl ⟨by omega, by omega, rfl⟩)
  refine ah (zz0 (aa rfl) (zz0 (ab rfl) (ad (ar (zz0 (aa rfl) (zz0 (ab rfl) (ad ?_)))))))
  refine cD (a, md) (Front.c (Front.c Front.nil)) (bD 7 rfl) (o := .inr ⟨by omega, rfl, rfl⟩)
 obtain ⟨s0, r0⟩ := i
 replace hi : (mid < md ∧ s0 + b = mid + md ∧ r0 = mid) ∨ (md ≤ mid ∧ s0 = a ∧ r0 = md) := hi
 change Tr _ _ [rowE V 36 aT l] ([(20, .int .i64 (s0 : Nat)), (21, .int .i64 (r0 : Nat))] ++ _) _
 have hs0 : a ≤ s0 ∧ s0 ≤ r0 ∧ r0 ≤ md := by omega
 refine ah (zz0 (aa rfl) (zz0 (er rfl rfl) ?_))
 refine zz0 (ab rfl) (ad (an (aH ?_)))
 refine bK (ι := Nat × Nat) (fun ⟨st, r⟩ => s0 ≤ st ∧ st ≤ r ∧ r ≤ r0 ∧ (st = s0 ∨ dL cmp (l.getD (mid + md - st) default) (l.getD (st - 1) default) = false) ∧ (r = r0 ∨ dL cmp (l.getD (mid + md - 1 - r) default) (l.getD r default) = true)) (fun _ => _) (fun ⟨st, r⟩ => [rowE V 36 aT l]) (fun ⟨st, r⟩ => [(20, .int .i64 (st : Nat)), (21, .int .i64 (r : Nat))]) (fun ⟨st, r⟩ => r - st) (s0, r0) ⟨Nat.le_refl _, by omega, Nat.le_refl _, .inl rfl, .inl rfl⟩ (Front.c (Front.c Front.nil)) (by repeat' constructor) rfl (fun i hi m hm => ?_)
 obtain ⟨st, r⟩ := i
 replace hi : s0 ≤ st ∧ st ≤ r ∧ r ≤ r0 ∧ (st = s0 ∨ dL cmp (l.getD (mid + md - st) default) (l.getD (st - 1) default) = false) ∧ (r = r0 ∨ dL cmp (l.getD (mid + md - 1 - r) default) (l.getD r default) = true) := hi
 replace hm : m = r - st := hm
 change Tr _ _ [rowE V 36 aT l] ([(20, .int .i64 (st : Nat)), (21, .int .i64 (r : Nat))] ++ _) _
 obtain ⟨hi1, hi2, hi3, hi4, hi5⟩ := hi
 refine an (ah (zz0 (aa rfl) (zz0 (aa rfl) (zz0 (bT rfl rfl) (ad ?_)))))
 refine ao rfl ?_ ?_ <;> intro h14 <;> try simp only [bs] at h14
 ·refine bA (aH (ah (zz0 (aa rfl) (zz0 (aa rfl) (zz0 (cE rfl rfl) ?_)))))
  refine zz0 (fm rfl aZ dV (IntWalk.u64_in _ (by omega))) ?_
  refine zz0 (uJ rfl rfl (by omega)) ?_
  refine zz0 (fm rfl dV aZ (IntWalk.i64_in _ (by omega))) ?_
  refine zz0 (ab rfl) (ad (an ?_))
  obtain ⟨c, hhc⟩ : ∃ c, c = (st + r) / 2 := ⟨_, rfl⟩
  rw [show (((st : Nat) : Int) + ((r : Nat) : Int)) / 2 = ((c : Nat) : Int) by omega]
  refine g9 aU ?_
  refine aw (aa rfl) (aw (aa rfl) (aw (aa rfl) (aw (aa rfl) (aw (er rfl rfl) ?_))))
  refine aw (jL rfl rfl aR ay) ?_
  refine aw (nc rfl aS ay) ?_
  refine aw (aa rfl) (aw (aa rfl) (aw (zz9 rfl rfl aR ay) ?_))
  refine aw (nc rfl aS ay) ?_
  refine aw (iJ rfl rfl eg (fun w hw => hc _ _ w (hI _ _ _ hIw (HpOK.mutOwn hw (.head _) rfl).1 (HpOK.mutOwn hw (.head _) rfl).2))) ?_
  refine aw (bT rfl rfl) (aw (cp rfl) (bI ?_))
  refine ac ?_
  refine ao rfl ?_ ?_ <;> intro h15 <;> try simp only [bs] at h15
  ·refine ar (zz0 (aa rfl) (zz0 (cE rfl rfl) ?_))
   refine zz0 (ab rfl) (ax (aY (ac ?_)))
   have ec : ((((mid : Nat) : Int) + ((md : Nat) : Int)) - 1 - ((c : Nat) : Int)).toNat = mid + md - 1 - c := by omega
   have hx : dL cmp (l.getD (mid + md - 1 - c) default) (l.getD c default) = false := by rw [← ec]; simp only [dL, decide_eq_false_iff_not]; assumption
   refine cF (c + 1, r) (Front.c (Front.c Front.nil)) (bD 29 rfl) (o := ⟨by omega, by omega, hi3, .inr (by rw [show mid + md - (c + 1) = mid + md - 1 - c by omega]; exact hx), hi5⟩)
  refine ar (zz0 (aa rfl) (zz0 (ab rfl) (ax (aY (ac ?_)))))
  have ec : ((((mid : Nat) : Int) + ((md : Nat) : Int)) - 1 - ((c : Nat) : Int)).toNat = mid + md - 1 - c := by omega
  have hx : dL cmp (l.getD (mid + md - 1 - c) default) (l.getD c default) = true := by rw [← ec]; simp only [dL, decide_eq_true_eq]; assumption
  refine cF (st, c) (Front.c (Front.c Front.nil)) (bD 28 rfl) (o := ⟨hi1, by omega, by omega, hi4, .inr hx⟩)
 refine bF (aI (aI (bv (ac (ah (zz0 (aa rfl) (zz0 (aa rfl) (zz0 (er rfl rfl) ?_))))))))
 refine zz0 (ab rfl) (ad ?_)
 obtain rfl : r = st := by omega
 obtain ⟨e, he⟩ : ∃ e, e = mid + md - r := ⟨_, rfl⟩
 rw [show (((mid : Nat) : Int) + ((md : Nat) : Int)) - ((r : Nat) : Int) = ((e : Nat) : Int) by omega]
 have hme : md ≤ e := by omega
 have heb : e ≤ b := by omega
 have hmm : mid = r + (e - md) := by omega
 have hd : r = md ∨ md = e ∨ dL cmp (l.getD (e - 1) default) (l.getD r default) = true := by
  rcases hi5 with q | q
  ·omega
  ·exact .inr (.inr (by rw [show e - 1 = mid + md - 1 - r by omega]; exact q))
 have hg : r = a ∨ e = b ∨ dL cmp (l.getD e default) (l.getD (r - 1) default) = false := by
  rcases hi4 with q | q
  ·omega
  ·exact .inr (.inr (by rw [he]; exact q))
 have hf := Gn hO h1s h2s hb (by omega) (by omega) hme heb hmm hd hg
 have hml : (mp (dC r md e) l).length = l.length := ix _ _
 refine dj (ι := Unit) (fun _u => True) (fun _ => Bg.less w V) (fun _u => [rowE V 36 aT (mp (dC r md e) l)]) (fun _u => []) ?_ (fun _u hi => ?_)
 ·skip
  refine ah (zz0 (aa rfl) (zz0 (aa rfl) (zz0 (bT rfl rfl) (zz0 (aa rfl) ?_))))
  apply bQ
  ·exact (rfl : _ = (4, 181, 185))
  ·exact rfl
  ·intro hT16; have hT16' := hT16
   try simp only [bs] at hT16'
   refine zz3 hT16 (aa rfl) (zz3 hT16 (aa rfl) (zz3 hT16 (bT rfl rfl) (zz0 (aK rfl hT16 rfl) ?_)))
   refine ax (ac ?_)
   exact az (Sub.cons rfl (zz6 4 rfl))
  ·intro hF16
   refine zz4 hF16 (zz4 hF16 (zz4 hF16 (zz0 (aL rfl hF16 rfl) ?_)))
   refine ax (ac ?_)
   exact az (Sub.cons rfl (zz6 4 rfl))
  refine ad ?_
  refine ao rfl ?_ ?_ <;> intro h17 <;> try simp only [bs] at h17
  ·refine ar (zz0 (aa rfl) (zz0 (aa rfl) (zz0 (aa rfl) (zz0 (aa rfl) (zz0 (aa rfl) (d5 rfl Tryz.call263 (by repeat constructor) (fun w hw => BP l V r md e _ _ _ (by omega) (by omega) (by omega) _ w (hw.ent _ (.head _)) hl (by omega) (by omega) (by omega)) rfl ?_))))))
   refine ad ?_
   refine cD () Front.nil (bD 11 rfl) (o := trivial)
  refine bA (gV (l' := mp (dC r md e) l) (rK (by omega) (by omega) (by omega)).symm ?_)
  refine cD () Front.nil (bD 5 rfl) (o := trivial)
 skip
 replace hi : True := hi
 change Tr _ _ [rowE V 36 aT (mp (dC r md e) l)] ([] ++ _) _
 refine dj (ι := List Ins) (fun c2 => Half (dL cmp) l c2 a mid mid e b) (fun _ => Bg.less w V) (fun c2 => [rowE V 36 aT c2]) (fun c2 => []) ?_ (fun c2 hi => ?_)
 ·skip
  refine ah (zz0 (aa rfl) (zz0 (aa rfl) (zz0 (bT rfl rfl) (zz0 (aa rfl) ?_))))
  apply bQ
  ·exact (rfl : _ = (4, 195, 199))
  ·exact rfl
  ·intro hT18; have hT18' := hT18
   try simp only [bs] at hT18'
   refine zz3 hT18 (aa rfl) (zz3 hT18 (aa rfl) (zz3 hT18 (bT rfl rfl) (zz0 (aK rfl hT18 rfl) ?_)))
   refine ax (ac ?_)
   exact az (Sub.cons rfl (zz6 4 rfl))
  ·intro hF18
   refine zz4 hF18 (zz4 hF18 (zz4 hF18 (zz0 (aL rfl hF18 rfl) ?_)))
   refine ax (ac ?_)
   exact az (Sub.cons rfl (zz6 4 rfl))
  refine ad ?_
  refine ao rfl ?_ ?_ <;> intro h19 <;> try simp only [bs] at h19
  ·refine ar (zz0 (aa rfl) (zz0 (aa rfl) (zz0 (aa rfl) (zz0 (aa rfl) (zz0 (aa rfl) ?_)))))
   refine ii (fun c => Stab (dL cmp) (mp (dC r md e) l) c ∧ Fram a mid (mp (dC r md e) l) c ∧ Srt (dL cmp) c a mid) rfl pf (fun w hw => ih (mid - a) (by omega) (mp (dC r md e) l) a r mid _ _ _ w (by omega) (by omega) (by omega) (Nat.le_refl _) (by omega) (by omega) (by omega) (by omega) hf.s1 hf.s2 (hI _ _ _ hIw (HpOK.mutOwn hw (.head _) rfl).1 (HpOK.mutOwn hw (.head _) rfl).2) (hw.ent _ (.head _))) rfl (fun c2 hc2 => ?_)
   refine ad ?_
   refine cD c2 Front.nil (bD 11 rfl) (o := hf.left hb (by omega) (by omega) hc2.1 hc2.2.1 hc2.2.2)
  refine bA ?_
  refine cD _ Front.nil (bD 5 rfl) (o := hf.left0 (by omega) (by omega) (by omega))
 skip
 replace hi : Half (dL cmp) l c2 a mid mid e b := hi
 change Tr _ _ [rowE V 36 aT c2] ([] ++ _) _
 have hl2 := hi.fr.1
 refine ah (zz0 (aa rfl) (zz0 (aa rfl) (zz0 (bT rfl rfl) (zz0 (aa rfl) ?_))))
 apply bQ
 ·exact (rfl : _ = (4, 209, 213))
 ·exact rfl
 ·intro hT20; have hT20' := hT20
  try simp only [bs] at hT20'
  refine zz3 hT20 (aa rfl) (zz3 hT20 (aa rfl) (zz3 hT20 (bT rfl rfl) (zz0 (aK rfl hT20 rfl) ?_)))
  refine ax (ac ?_)
  exact az (Sub.cons rfl (zz6 4 rfl))
 ·intro hF20
  refine zz4 hF20 (zz4 hF20 (zz4 hF20 (zz0 (aL rfl hF20 rfl) ?_)))
  refine ax (ac ?_)
  exact az (Sub.cons rfl (zz6 4 rfl))
 refine ad ?_
 refine ao rfl ?_ ?_ <;> intro h21 <;> try simp only [bs] at h21
 ·refine ar (zz0 (aa rfl) (zz0 (aa rfl) (zz0 (aa rfl) (zz0 (aa rfl) (zz0 (aa rfl) ?_)))))
  refine ii (fun c => Stab (dL cmp) c2 c ∧ Fram mid b c2 c ∧ Srt (dL cmp) c mid b) rfl pf (fun w hw => ih (b - mid) (by omega) c2 mid e b _ _ _ w (by omega) (by omega) (by omega) (Nat.le_refl _) (by omega) (by omega) (by omega) (by omega) hi.s3 hi.s4 (hI _ _ _ hIw (HpOK.mutOwn hw (.head _) rfl).1 (HpOK.mutOwn hw (.head _) rfl).2) (hw.ent _ (.head _))) rfl (fun c3 hc3 => ?_)
  refine ax ?_
  refine fE kU (fun w' hw => ?_)
  exact ⟨rfl, c3, hi.right hb (by omega) (by omega) hc3.1 hc3.2.1 hc3.2.2, HpOK.mutOwn hw (.head _) rfl⟩
 refine cg ?_
 refine fE kU (fun w' hw => ?_)
 exact ⟨rfl, c2, hi.right0 (by omega) (by omega) (by omega), HpOK.mutOwn hw (.head _) rfl⟩
theorem rC (V : Value) (g : FuncId) (cb : List Value) (cmp : Ins → Ins → Int) (I : World → Prop) (hI : ∀ w w' l', I w → Mut w w' V → (rowE V 36 aT l').holds w' → I w') (eg : ∀ args w, (callFunc g args).run Tryz.prog w = .ok (.enter g args) w) (hc : ∀ x y w', I w' → Calls Tryz.prog g ([Value.agg (aT.enc x).toArray, Value.agg (aT.enc y).toArray] ++ cb).toArray w' fun e w'' => e = .returned (.int .i64 (cmp x y)) ∧ Ext w' w'') (hO : WO (dL cmp)) : ∀ n, Dy g cb cmp I V n := by
 intro n
 induction n using Nat.strongRecOn with
 | ind n ih =>
  intro l a md b ai mdi bi w ea emd eb hn ham hmb hb hl h1s h2s hIw hr
  exact DW l V a md b ai mdi bi ea emd eb g cb cmp I hI eg hc hO w hIw hr hl (fun k hk => ih k (by omega)) ham hmb hb h1s h2s
theorem AQ {l : List Ins} {k : Nat} (h : l.length ≤ k) : l.getD k default = default := by simp [List.getD_eq_getElem?_getD, List.getElem?_eq_none h]
theorem BM (l : List Ins) (V : Value) (n : Nat) (ni : Int) (en : ni = ((n : Nat) : Int)) (g : FuncId) (cb : List Value) (cmp : Ins → Ins → Int) (I : World → Prop) (hI : ∀ w w' l', I w → Mut w w' V → (rowE V 36 aT l').holds w' → I w') (eg : ∀ args w, (callFunc g args).run Tryz.prog w = .ok (.enter g args) w) (hc : ∀ x y w', I w' → Calls Tryz.prog g ([Value.agg (aT.enc x).toArray, Value.agg (aT.enc y).toArray] ++ cb).toArray w' fun e w'' => e = .returned (.int .i64 (cmp x y)) ∧ Ext w' w'') (hO : WO (dL cmp)) (w : World) (hIw : I w) (hr : (rowE V 36 aT l).holds w) (hl : l.length ≤ 1000000) (hn : n = l.length) :
  Calls Tryz.prog 146 #[V, .int .i64 ni, .func (.func g) #[] cb.toArray] w (zT cmp V l 0 n w) := by
 subst en
 refine fS (l := l) (E := aT) (T := 36) hr Tryz.func146 rfl Tryz.ntmps146 rfl ?_
 refine ah (zz0 (ab rfl) (aM (zz0 (aa rfl) (zz0 (ab rfl) (zz0 (ab rfl) (ad (an (aH ?_))))))))
 refine bK (ι := Nat × List Ins) (fun ⟨t, cur⟩ => t * 20 ≤ n ∧ Stab (dL cmp) l cur ∧ Blk (dL cmp) cur 20 (t * 20)) (fun _ => _) (fun ⟨t, cur⟩ => [rowE V 36 aT cur]) (fun ⟨t, cur⟩ => [(7, .int .i64 ((t * 20 : Nat) : Int)), (8, .int .i64 ((t * 20 + 20 : Nat) : Int))]) (fun ⟨t, cur⟩ => n - t * 20) (0, l) ⟨by omega, .refl _ _, fun t p q a1 a2 a3 a4 => by omega⟩ (Front.c (Front.c Front.nil)) (by repeat' constructor) rfl (fun i hi m hm => ?_)
 obtain ⟨t, cur⟩ := i
 replace hi : t * 20 ≤ n ∧ Stab (dL cmp) l cur ∧ Blk (dL cmp) cur 20 (t * 20) := hi
 replace hm : m = n - t * 20 := hm
 change Tr _ _ [rowE V 36 aT cur] ([(7, .int .i64 ((t * 20 : Nat) : Int)), (8, .int .i64 ((t * 20 + 20 : Nat) : Int))] ++ _) _
 obtain ⟨ht1, ht2, ht3⟩ := hi
 have hcl := ht2.len
 refine an (ah (zz0 (aa rfl) (zz0 (aa rfl) (zz0 (fJ rfl rfl) (ad ?_)))))
 refine ao rfl ?_ ?_ <;> intro h1 <;> try simp only [bs] at h1
 ·refine bA (aH (ah (zz0 (aa rfl) (zz0 (aa rfl) (zz0 (aa rfl) (zz0 (aa rfl) ?_))))))
  refine ii (fun c => Stab (dL cmp) cur c ∧ Fram (t * 20) (t * 20 + 20) cur c ∧ Srt (dL cmp) c (t * 20) (t * 20 + 20)) rfl Tryz.call199 (fun w hw => qY cur V (t * 20) (t * 20 + 20) _ _ (by omega) (by omega) g cb cmp I hI eg hc hO w (hI _ _ _ hIw (HpOK.mutOwn hw (.head _) rfl).1 (HpOK.mutOwn hw (.head _) rfl).2) (hw.ent _ (.head _)) (by omega) (by omega) (by omega)) rfl (fun c2 hc2 => ?_)
  refine aM (zz0 (aa rfl) (zz0 (ab rfl) (ad (ar (zz0 (aa rfl) (zz0 (aa rfl) (zz0 (cE rfl rfl) ?_)))))))
  refine zz0 (ab rfl) (ax (aY (ac ?_)))
  have hcl2 := hc2.1.len
  have hb2 : Blk (dL cmp) c2 20 ((t + 1) * 20) := by rw [show (t + 1) * 20 = t * 20 + 20 by omega]; exact uI ht3 hc2.2.1 hc2.2.2 (by omega)
  refine cF (t + 1, c2) (Front.c (Front.c Front.nil)) (bD 16 rfl) (o := ⟨by omega, ht2.trans hc2.1, hb2⟩)
 refine bF (aI (aI (bv (ac (ah (zz0 (aa rfl) (zz0 (aa rfl) (zz0 (aa rfl) (zz0 (aa rfl) ?_)))))))))
 refine ii (fun c => Stab (dL cmp) cur c ∧ Fram (t * 20) n cur c ∧ Srt (dL cmp) c (t * 20) n) rfl Tryz.call199 (fun w hw => qY cur V (t * 20) n _ _ (by omega) (by omega) g cb cmp I hI eg hc hO w (hI _ _ _ hIw (HpOK.mutOwn hw (.head _) rfl).1 (HpOK.mutOwn hw (.head _) rfl).2) (hw.ent _ (.head _)) (by omega) (by omega) (by omega)) rfl (fun c3 hc3 => ?_)
 refine ad (aH ?_)
 have hcl3 := hc3.1.len
 have hb3 : Blk (dL cmp) c3 20 n := uI ht3 hc3.2.1 hc3.2.2 (by omega)
 have hst3 := ht2.trans hc3.1
 clear hc3 ht3 ht2
 refine bK (ι := Nat × Int × Int × List Ins) (fun ⟨bz, xa, xb, cur⟩ => 1 ≤ bz ∧ bz ≤ 2 * n + 20 ∧ Stab (dL cmp) l cur ∧ Blk (dL cmp) cur bz n) (fun _ => _) (fun ⟨bz, xa, xb, cur⟩ => [rowE V 36 aT cur]) (fun ⟨bz, xa, xb, cur⟩ => [(6, .int .i64 (bz : Nat)), (7, .int .i64 xa), (8, .int .i64 xb)]) (fun ⟨bz, xa, xb, cur⟩ => n - bz) (20, _, _, c3) ⟨by omega, by omega, hst3, hb3⟩ (Front.c (Front.c (Front.c Front.nil))) (by repeat' constructor) rfl (fun i hi m hm => ?_)
 obtain ⟨bz, xa, xb, cur⟩ := i
 replace hi : 1 ≤ bz ∧ bz ≤ 2 * n + 20 ∧ Stab (dL cmp) l cur ∧ Blk (dL cmp) cur bz n := hi
 replace hm : m = n - bz := hm
 change Tr _ _ [rowE V 36 aT cur] ([(6, .int .i64 (bz : Nat)), (7, .int .i64 xa), (8, .int .i64 xb)] ++ _) _
 obtain ⟨hb1, hb2, hb4, hb5⟩ := hi
 have hcl4 := hb4.len
 refine an (ah (zz0 (aa rfl) (zz0 (aa rfl) (zz0 (bT rfl rfl) (ad ?_)))))
 refine ao rfl ?_ ?_ <;> intro h2 <;> try simp only [bs] at h2
 ·refine bA (aH (ah (zz0 (aa rfl) (zz0 (k6 rfl rfl (by omega)) ?_))))
  refine zz0 (ab rfl) (zz0 (ab rfl) (ad (an (aH ?_))))
  refine bK (ι := Nat × Nat × List Ins) (fun ⟨t, x, c4⟩ => x = t * (2 * bz) ∧ x ≤ n ∧ Stab (dL cmp) l c4 ∧ Mix (dL cmp) c4 bz x n) (fun _ => _) (fun ⟨t, x, c4⟩ => [rowE V 36 aT c4]) (fun ⟨t, x, c4⟩ => [(7, .int .i64 (x : Nat)), (8, .int .i64 ((x + 2 * bz : Nat) : Int))]) (fun ⟨t, x, c4⟩ => n - x) (0, 0, cur) ⟨by omega, by omega, hb4, JP hb5⟩ (Front.c (Front.c Front.nil)) (by repeat' constructor) rfl (fun i hi m hm => ?_)
  obtain ⟨t, x, c4⟩ := i
  replace hi : x = t * (2 * bz) ∧ x ≤ n ∧ Stab (dL cmp) l c4 ∧ Mix (dL cmp) c4 bz x n := hi
  replace hm : m = n - x := hm
  change Tr _ _ [rowE V 36 aT c4] ([(7, .int .i64 (x : Nat)), (8, .int .i64 ((x + 2 * bz : Nat) : Int))] ++ _) _
  obtain ⟨ht1, ht2, ht3, ht4⟩ := hi
  have hcl5 := ht3.len
  refine an (ah (zz0 (aa rfl) (zz0 (aa rfl) (zz0 (fJ rfl rfl) (ad ?_)))))
  refine ao rfl ?_ ?_ <;> intro h3 <;> try simp only [bs] at h3
  ·refine bA (aH (an ?_))
   have hs1 : Srt (dL cmp) c4 x (x + bz) := by subst ht1; exact vt ht4 (Nat.le_refl _) (by omega)
   have hs2 : Srt (dL cmp) c4 (x + bz) (x + 2 * bz) := by subst ht1; exact xl ht4 (Nat.le_refl _) (by omega)
   refine ar (zz0 (aa rfl) (zz0 (aa rfl) (zz0 (aa rfl) (zz0 (aa rfl) (zz0 (cE rfl rfl) ?_)))))
   refine zz0 (aa rfl) (zz0 (aa rfl) ?_)
   refine ii (fun c => Stab (dL cmp) c4 c ∧ Fram x (x + 2 * bz) c4 c ∧ Srt (dL cmp) c x (x + 2 * bz)) rfl pf (fun w hw => rC V g cb cmp I hI eg hc hO _ c4 x (x + bz) (x + 2 * bz) _ _ _ w (by omega) (by omega) (by omega) (Nat.le_refl _) (by omega) (by omega) (by omega) (by omega) hs1 hs2 (hI _ _ _ hIw (HpOK.mutOwn hw (.head _) rfl).1 (HpOK.mutOwn hw (.head _) rfl).2) (hw.ent _ (.head _))) rfl (fun c5 hc5 => ?_)
   refine aM (zz0 (aa rfl) (zz0 (ab rfl) (ad (ar (zz0 (aa rfl) (zz0 (aa rfl) (zz0 (k6 rfl rfl (by omega)) ?_)))))))
   refine zz0 (cE rfl rfl) ?_
   refine zz0 (ab rfl) (ax (aY (ac ?_)))
   have hm2 : Mix (dL cmp) c5 bz (x + 2 * bz) n := by
    have f := hc5.2.1
    have so := hc5.2.2
    subst ht1
    exact FY ht4 f so (Nat.le_refl _) (by omega)
   refine cF (t + 1, x + 2 * bz, c5) (Front.c (Front.c Front.nil)) (bD 20 rfl) (o := ⟨by rw [Nat.add_mul, ht1]; omega, by omega, ht3.trans hc5.1, hm2⟩)
  refine bF (aI (aI (bv (ac ?_))))
  refine dj (ι := List Ins) (fun c6 => Stab (dL cmp) l c6 ∧ Blk (dL cmp) c6 (2 * bz) n) (fun _ => Bg.less w V) (fun c6 => [rowE V 36 aT c6]) (fun c6 => []) ?_ (fun c6 hi => ?_)
  ·skip
   refine ah (zz0 (aa rfl) (zz0 (aa rfl) (zz0 (cE rfl rfl) ?_)))
   refine zz0 (ab rfl) (aM (zz0 (aa rfl) (zz0 (aa rfl) (zz0 (bT rfl rfl) (ad ?_)))))
   refine ao rfl ?_ ?_ <;> intro h4 <;> try simp only [bs] at h4
   ·have hs1 : Srt (dL cmp) c4 x (x + bz) := by subst ht1; exact vt ht4 (Nat.le_refl _) (by omega)
    have hs2 : Srt (dL cmp) c4 (x + bz) n := by subst ht1; exact xl ht4 (by omega) (Nat.le_refl _)
    refine ar (zz0 (aa rfl) (zz0 (aa rfl) (zz0 (aa rfl) (zz0 (aa rfl) (zz0 (aa rfl) ?_)))))
    refine ii (fun c => Stab (dL cmp) c4 c ∧ Fram x n c4 c ∧ Srt (dL cmp) c x n) rfl pf (fun w hw => rC V g cb cmp I hI eg hc hO _ c4 x (x + bz) n _ _ _ w (by omega) (by omega) (by omega) (Nat.le_refl _) (by omega) (by omega) (by omega) (by omega) hs1 hs2 (hI _ _ _ hIw (HpOK.mutOwn hw (.head _) rfl).1 (HpOK.mutOwn hw (.head _) rfl).2) (hw.ent _ (.head _))) rfl (fun c5 hc5 => ?_)
    refine ad ?_
    have hm2 : Blk (dL cmp) c5 (2 * bz) n := by
     have f := hc5.2.1
     have so := hc5.2.2
     subst ht1
     exact uI ht4.1 f so (by rw [Nat.add_mul]; omega)
    refine cD c5 Front.nil (bD 13 rfl) (o := ⟨ht3.trans hc5.1, hm2⟩)
   refine bA ?_
   have hm2 : Blk (dL cmp) c4 (2 * bz) n := by
    subst ht1
    exact HU ht4 (by omega)
   refine cD c4 Front.nil (bD 7 rfl) (o := ⟨ht3, hm2⟩)
  skip
  replace hi : Stab (dL cmp) l c6 ∧ Blk (dL cmp) c6 (2 * bz) n := hi
  change Tr _ _ [rowE V 36 aT c6] ([] ++ _) _
  refine ar (zz0 (aa rfl) (zz0 (k6 rfl rfl (by omega)) ?_))
  refine zz0 (ab rfl) (ax (aY (ac ?_)))
  refine cF (2 * bz, _, _, c6) (Front.c (Front.c (Front.c Front.nil))) (bD 18 rfl) (o := ⟨by omega, by omega, hi.1, hi.2⟩)
 refine bF (aI (aI (bv ?_)))
 refine fE Tryz.results146 (fun w' hw => ?_)
 exact ⟨rfl, cur, ⟨hb4, ⟨hb4.len, fun k hk => by rw [AQ (by omega), AQ (by omega)]⟩, hb5.all (by omega)⟩, HpOK.mutOwn hw (.head _) rfl⟩
theorem pS (l : List Ins) (V : Value) (g : FuncId) (cb : List Value) (cmp : Ins → Ins → Int) (I : World → Prop) (hI : ∀ w w' l', I w → Mut w w' V → (rowE V 36 aT l').holds w' → I w') (eg : ∀ args w, (callFunc g args).run Tryz.prog w = .ok (.enter g args) w) (hc : ∀ x y w', I w' → Calls Tryz.prog g ([Value.agg (aT.enc x).toArray, Value.agg (aT.enc y).toArray] ++ cb).toArray w' fun e w'' => e = .returned (.int .i64 (cmp x y)) ∧ Ext w' w'') (hO : WO (dL cmp)) (w : World) (hIw : I w) (hr : (rowE V 36 aT l).holds w) (hl : l.length ≤ 1000000) :
  Calls Tryz.prog 78 #[V, .func (.func g) #[] cb.toArray] w (zT cmp V l 0 l.length w) := by
 refine fS (l := l) (E := aT) (T := 36) hr Tryz.func78 rfl Tryz.ntmps78 rfl ?_
 refine ar (zz0 (aa rfl) (zz0 (aa rfl) (zz0 (lz rfl aR) ?_)))
 refine zz0 (aa rfl) ?_
 refine ii (fun c => Stab (dL cmp) l c ∧ Fram 0 l.length l c ∧ Srt (dL cmp) c 0 l.length) rfl Tryz.call146 (fun w hw => BM l V l.length _ rfl g cb cmp I hI eg hc hO w (hI _ _ _ hIw (HpOK.mutOwn hw (.head _) rfl).1 (HpOK.mutOwn hw (.head _) rfl).2) (hw.ent _ (.head _)) hl rfl) rfl (fun c2 hc2 => ?_)
 refine ax ?_
 refine fE Tryz.results78 (fun w' hw => ?_)
 exact ⟨rfl, c2, hc2, HpOK.mutOwn hw (.head _) rfl⟩
end Go.Proofs.YtiajjbhcpeadfaaGreat
