/- Plain laws of chapter 05. -/
import Derived.Test.YtfnedefgepjbpaaSa
import Derived.Test.YtfnedefgepjbpaaMs
set_option linter.unusedSimpArgs false
set_option linter.unusedVariables false
namespace Go.HL
open Go Go.Sort

theorem meet_iff (x s : SecV) : meetP (spaceP x) (spaceP s) = true ↔ ((0 < x.data.length ∧ 0 < s.data.length) ∧ (s.addr.toNat : Int) < endP x) ∧ (x.addr.toNat : Int) < endP s := by
  have h1 := space_hi x
  have h2 := space_hi s
  have e1 : (spaceP x).lo = x.addr := rfl
  have e2 : (spaceP s).lo = s.addr := rfl
  rw [meetP, decide_eq_true_eq, UInt32.lt_iff_toNat_lt, max_toNat, min_toNat, e1, e2]
  unfold endP at *
  omega
theorem stack_iff (s : SecV) : meetP (spaceP s) stackP = true ↔ (0 < s.data.length ∧ (s.addr.toNat : Int) < 983040) ∧ 978944 < endP s := by
  have h1 := space_hi s
  have e1 : (spaceP s).lo = s.addr := rfl
  have e2 : stackP.lo.toNat = 978944 := rfl
  have e3 : stackP.hi.toNat = 983040 := rfl
  rw [meetP, decide_eq_true_eq, UInt32.lt_iff_toNat_lt, max_toNat, min_toNat, e1, e2, e3]
  unfold endP at *
  omega
def insideP (l : List SecV) (a : UInt32) (n : Int) : Int × Bool := if findP l a < 0 then (0, false) else (findP l a, decide (n ≤ endP (l.getD (findP l a).toNat default) - a.toNat))
theorem inside_no {l : List SecV} {a : UInt32} {n : Int} (h : (insideP l a n).2 = false) : placeP l a n = (0, 0, 11) := by
  unfold insideP at h
  split at h
  · exact placeP_1 (by assumption)
  · rename_i h1
    simp only [decide_eq_false_iff_not] at h
    exact placeP_2 h1 (by omega)
theorem inside_yes {l : List SecV} {a : UInt32} {n : Int} (h : ¬ (insideP l a n).2 = false) : 0 ≤ findP l a ∧ (insideP l a n).1 = findP l a ∧ placeP l a n = (findP l a, (a.toNat : Int) - (l.getD (findP l a).toNat default).addr.toNat, 0) := by
  unfold insideP at h ⊢
  split at h
  · simp at h
  · rename_i h1
    simp only [decide_eq_false_iff_not, Decidable.not_not] at h
    rw [if_neg h1]
    exact ⟨by omega, rfl, placeP_3 h1 (by omega)⟩
/-! ### Free -/
def hitS (a n : Int) (s : SecV) : Bool := ((decide (0 < (s.data.length : Int)) && decide ((s.addr.toNat : Int) < endP s)) && decide ((s.addr.toNat : Int) < a + n)) && decide (a < endP s)
def obstF (a n : Int) : List SecV → Int
  | [] => if 978944 < a + n ∧ a < 983040 then 983040 else -1
  | s :: t => if hitS a n s = true then endP s else obstF a n t
/-- n addresses from a on are free. -/
def FreeAt (l : List SecV) (n a : Int) : Prop := ∀ x : Nat, a ≤ x → (x : Int) < a + n → ¬ (Has (l.map spaceP) x ∨ (978944 ≤ x ∧ x < 983040))
theorem has_space {l : List SecV} {x : Nat} : Has (l.map spaceP) x ↔ ∃ s ∈ l, s.addr.toNat ≤ x ∧ (x : Int) < endP s := by
  constructor
  · rintro ⟨r, hr, h1, h2⟩
    obtain ⟨s, hs, rfl⟩ := List.mem_map.1 hr
    have := space_hi s
    exact ⟨s, hs, h1, by omega⟩
  · rintro ⟨s, hs, h1, h2⟩
    have := space_hi s
    exact ⟨spaceP s, List.mem_map.2 ⟨s, hs, rfl⟩, h1, by omega⟩
theorem hit_iff {a n : Int} {s : SecV} : hitS a n s = true ↔ (s.addr.toNat : Int) < endP s ∧ (s.addr.toNat : Int) < a + n ∧ a < endP s := by
  simp only [hitS, Bool.and_eq_true, decide_eq_true_eq]
  have := s.addr.toNat_lt
  unfold endP; omega
theorem hit_free {l : List SecV} {s : SecV} (hs : s ∈ l) {a n : Int} (ha : 0 ≤ a) (hn : 0 < n) (h : hitS a n s = true) : ∀ m, a ≤ m → m < endP s → ¬ FreeAt l n m := by
  intro m h1 h2 hf
  obtain ⟨k1, k2, k3⟩ := hit_iff.1 h
  have h3 := s.addr.toNat_lt
  refine hf (max m s.addr.toNat).toNat (by omega) (by omega) (.inl (has_space.2 ⟨s, hs, by omega, by omega⟩))
/-- What obstacle says: nothing is in the way; or no place below what it hands back is free. -/
theorem obst_ok (l : List SecV) {a n : Int} (ha : 0 ≤ a) (hn : 0 < n) : ∀ t, (∀ s ∈ t, s ∈ l) → (∀ s ∈ l, s ∉ t → hitS a n s = false) →
    (obstF a n t = -1 ∧ FreeAt l n a) ∨ (a < obstF a n t ∧ obstF a n t ≤ 4294967295 ∧ ∀ m, a ≤ m → m < obstF a n t → ¬ FreeAt l n m)
  | [], _, hall => by
    unfold obstF
    split
    · rename_i h
      refine .inr ⟨by omega, by omega, fun m h1 h2 hf => hf (max m 978944).toNat (by omega) (by omega) (.inr (by omega))⟩
    · rename_i h
      refine .inl ⟨rfl, fun x h1 h2 hx => ?_⟩
      rcases hx with hx | hx
      · obtain ⟨s, hs, k1, k2⟩ := has_space.1 hx
        have h3 := hall s hs (by simp)
        have h4 : hitS a n s = true := hit_iff.2 ⟨by omega, by omega, by omega⟩
        rw [h3] at h4; cases h4
      · omega
  | s :: t, hsub, hall => by
    unfold obstF
    split
    · rename_i h
      have := hit_iff.1 h
      have := endP_rng s
      exact .inr ⟨by omega, by omega, hit_free (hsub s (.head _)) ha hn h⟩
    · rename_i h
      refine obst_ok l ha hn t (fun x hx => hsub x (.tail _ hx)) (fun x hx hxt => ?_)
      by_cases e : x = s
      · subst e; simpa using h
      · exact hall x hx (by simp [e, hxt])
theorem obst_all {l : List SecV} {a n : Int} (ha : 0 ≤ a) (hn : 0 < n) : (obstF a n l = -1 ∧ FreeAt l n a) ∨ (a < obstF a n l ∧ obstF a n l ≤ 4294967295 ∧ ∀ m, a ≤ m → m < obstF a n l → ¬ FreeAt l n m) :=
  obst_ok l ha hn l (fun _ h => h) (fun s hs h => absurd hs h)
theorem upP_mod (a : Int) : upP a % 16 = 0 := by unfold upP; omega
theorem upP_ge (a : Int) : a ≤ upP a ∧ upP a ≤ a + 15 := by unfold upP; omega
theorem upP_least {a m : Int} (h : m % 16 = 0) (h2 : m < upP a) : m < a := by unfold upP at h2; omega
theorem has_taken {l : List SecV} {x : Nat} : Has (takenP l) x ↔ Has (l.map spaceP) x ∨ (978944 ≤ x ∧ x < 983040) := by
  unfold takenP
  rw [(normal_ok _).2, has_append, (normal_ok _).2, has_single]
  exact Iff.rfl
theorem taken_norm (l : List SecV) : Norm (takenP l) := (normal_ok _).1
/-- freeF finds the lowest free place: l's places are those of 'all', of which 'pre' lies below a. -/
theorem freeF_ok {n : Int} (hn : 0 < n) (all : List Rng) (hall : Norm all) : ∀ (t pre : List Rng) (a : Int), 0 ≤ a → a % 16 = 0 → all = pre ++ t → (∀ r ∈ pre, (r.hi.toNat : Int) ≤ a) →
    a ≤ freeF n t a ∧ freeF n t a % 16 = 0 ∧ (∀ x : Nat, freeF n t a ≤ x → (x : Int) < freeF n t a + n → ¬ Has all x) ∧ ∀ m, m % 16 = 0 → a ≤ m → m < freeF n t a → ∃ x : Nat, m ≤ x ∧ (x : Int) < m + n ∧ Has all x
  | [], pre, a, h0, hm, he, hp => by
    simp only [freeF]
    refine ⟨Int.le_refl _, hm, fun x h1 h2 hx => ?_, fun m _ h1 h2 => by omega⟩
    subst he
    obtain ⟨r, hr, k1, k2⟩ := hx
    rw [List.append_nil] at hr
    have := hp r hr; omega
  | r :: t, pre, a, h0, hm, he, hp => by
    have hr0 : r.lo.toNat < r.hi.toNat := hall.2 r (by rw [he]; simp)
    by_cases c1 : (r.hi.toNat : Int) ≤ a ∨ n = 0
    · rw [freeF_skip c1]
      refine freeF_ok hn all hall t (pre ++ [r]) a h0 hm (by rw [he]; simp) (fun q hq => ?_)
      rcases List.mem_append.1 hq with hq | hq
      · exact hp q hq
      · simp only [List.mem_singleton] at hq; subst hq; omega
    · by_cases c2 : a + n ≤ r.lo.toNat
      · rw [freeF_stop c1 c2]
        refine ⟨Int.le_refl _, hm, fun x h1 h2 hx => ?_, fun m _ h1 h2 => by omega⟩
        subst he
        obtain ⟨q, hq, k1, k2⟩ := hx
        rcases List.mem_append.1 hq with hq | hq
        · have := hp q hq; omega
        · rcases List.mem_cons.1 hq with rfl | hq
          · omega
          · have h5 := (norm_append.1 hall).2.1
            have h6 := (norm_cons.1 h5).1.2 q hq
            omega
      · rw [freeF_go c1 c2]
        have hu := upP_ge (r.hi.toNat : Int)
        obtain ⟨i1, i2, i3, i4⟩ := freeF_ok hn all hall t (pre ++ [r]) (upP r.hi.toNat) (by omega) (upP_mod _) (by rw [he]; simp) (fun q hq => by
          rcases List.mem_append.1 hq with hq | hq
          · have := hp q hq; omega
          · simp only [List.mem_singleton] at hq; subst hq; omega)
        refine ⟨by omega, i2, i3, fun m h1 h2 h3 => ?_⟩
        by_cases c3 : upP r.hi.toNat ≤ m
        · exact i4 m h1 c3 h3
        · have := upP_least h1 (Int.lt_of_not_ge c3)
          exact ⟨(max m r.lo.toNat).toNat, by omega, by omega, r, by rw [he]; simp, by omega, by omega⟩
theorem free_least {l : List SecV} {n : Int} (hn : 0 < n) (f : UInt32) : upP f.toNat ≤ freeF n (takenP l) (upP f.toNat) ∧ freeF n (takenP l) (upP f.toNat) % 16 = 0 ∧ FreeAt l n (freeF n (takenP l) (upP f.toNat)) ∧
    ∀ m, m % 16 = 0 → upP f.toNat ≤ m → m < freeF n (takenP l) (upP f.toNat) → ¬ FreeAt l n m := by
  obtain ⟨h1, h2, h3, h4⟩ := freeF_ok hn (takenP l) (taken_norm l) (takenP l) [] (upP f.toNat) (upP_u32 f).1 (upP_mod _) rfl (by simp)
  refine ⟨h1, h2, fun x k1 k2 hx => h3 x k1 k2 (has_taken.2 hx), fun m k1 k2 k3 hf => ?_⟩
  obtain ⟨x, q1, q2, q3⟩ := h4 m k1 k2 k3
  exact hf x q1 q2 (has_taken.1 q3)
theorem freeF_zero : ∀ (t : List Rng) (a : Int), freeF 0 t a = a
  | [], _ => rfl
  | r :: t, a => by rw [freeF_skip (.inr rfl)]; exact freeF_zero t a
/-- A place that is free, below which none is, is freeP's. -/
theorem free_is {l : List SecV} {n : Int} (hn : 0 < n) {f : UInt32} {a : Int} (h1 : upP f.toNat ≤ a) (h2 : a % 16 = 0) (h3 : FreeAt l n a) (h4 : ∀ m, m % 16 = 0 → upP f.toNat ≤ m → m < a → ¬ FreeAt l n m) : freeF n (takenP l) (upP f.toNat) = a := by
  obtain ⟨k1, k2, k3, k4⟩ := free_least (l := l) hn f
  rcases Int.lt_trichotomy (freeF n (takenP l) (upP f.toNat)) a with h | h | h
  · exact absurd k3 (h4 _ k2 k1 h)
  · exact h
  · exact absurd h3 (k4 a h2 h1 h)
theorem free_above {l : List SecV} {n : Int} (hn : 0 < n) {f : UInt32} {a : Int} (h4 : ∀ m, m % 16 = 0 → upP f.toNat ≤ m → m < a → ¬ FreeAt l n m) : a ≤ freeF n (takenP l) (upP f.toNat) := by
  obtain ⟨k1, k2, k3, k4⟩ := free_least (l := l) hn f
  rcases (by omega : freeF n (takenP l) (upP f.toNat) < a ∨ a ≤ freeF n (takenP l) (upP f.toNat)) with h | h
  · exact absurd k3 (h4 _ k2 k1 h)
  · exact h
theorem finds_ok (l : List SecV) (a : UInt32) : (normalP (l.map spaceP)).any (inR a) = decide (0 ≤ findP l a) := by
  rw [any_normal, List.any_map, findP, idxP_any]; rfl
/-- A sign that is none of a name, as the reference says it. -/
theorem refBad (c : UInt8) : badB c = ((((!((decide (97 ≤ c) && decide (c ≤ 122)) || (decide (65 ≤ c) && decide (c ≤ 90)))) && (decide (c < 48) || decide (57 < c))) && decide (c ≠ 95)) && decide (c ≠ 46)) := by
  rw [Bool.eq_iff_iff]
  have e1 : (97 : UInt8).toNat = 97 := rfl
  have e2 : (122 : UInt8).toNat = 122 := rfl
  have e3 : (65 : UInt8).toNat = 65 := rfl
  have e4 : (90 : UInt8).toNat = 90 := rfl
  have e5 : (48 : UInt8).toNat = 48 := rfl
  have e6 : (57 : UInt8).toNat = 57 := rfl
  simp only [badB, lowB, uppB, digB, Bool.and_eq_true, Bool.or_eq_true, Bool.not_eq_true', Bool.or_eq_false_iff, Bool.and_eq_false_iff, decide_eq_true_eq, decide_eq_false_iff_not, UInt8.lt_iff_toNat_lt, UInt8.le_iff_toNat_le, e1, e2, e3, e4, e5, e6]
  constructor
  · rintro ⟨⟨h, h2⟩, h3⟩; exact ⟨⟨by omega, h2⟩, h3⟩
  · rintro ⟨⟨h, h2⟩, h3⟩; exact ⟨⟨by omega, h2⟩, h3⟩
theorem put_step {d b : List UInt8} {off k : Nat} (hk : k < b.length) (ho : off + b.length ≤ d.length) : (d.take off ++ b.take k ++ d.drop (off + k)).set (off + k) (b.getD k default) = d.take off ++ b.take (k + 1) ++ d.drop (off + (k + 1)) := by
  have h1 : (d.take off ++ b.take k).length = off + k := by simp; omega
  rw [List.set_append_right _ _ (by omega), h1, Nat.sub_self, take_succ hk, ← List.append_assoc, List.append_assoc _ [_]]
  congr 1
  rw [drop_cons (show off + k < d.length by omega)]
  rfl
end Go.HL
