/- Plain laws of chapter 05: what was written is read; how far away a free place is. -/
import Derived.Test.YtfmhhakhbopfdaaSc
set_option linter.unusedSimpArgs false
set_option linter.unusedVariables false
namespace Go.HL
open Go Go.Sort
open Go.Proofs (ltOf)

/-- Where a section lies. -/
def SecV.sh (s : SecV) : UInt32 × Nat := (s.addr, s.data.length)
def inH (a : UInt32) (h : UInt32 × Nat) : Bool := inR a ⟨h.1, u32 (min ((h.1.toNat : Int) + h.2) 4294967295)⟩
theorem idxP_map {α β : Type} (f : α → β) (p : β → Bool) : ∀ (l : List α) (k : Nat), idxP (fun x => p (f x)) k l = idxP p k (l.map f)
  | [], k => rfl
  | x :: l, k => by simp only [idxP, List.map_cons, idxP_map f p l (k + 1)]
theorem sh_find {l l' : List SecV} (h : l.map SecV.sh = l'.map SecV.sh) (x : UInt32) : findP l x = findP l' x := by
  have e : ∀ m : List SecV, findP m x = idxP (inH x) 0 (m.map SecV.sh) := fun m => idxP_map SecV.sh (inH x) m 0
  rw [e, e, h]
theorem sh_get {l l' : List SecV} (h : l.map SecV.sh = l'.map SecV.sh) (k : Nat) : (l.getD k default).addr = (l'.getD k default).addr ∧ (l.getD k default).data.length = (l'.getD k default).data.length := by
  have := congrArg (·[k]?) h
  simp only [List.getElem?_map] at this
  simp only [List.getD_eq_getElem?_getD]
  cases h1 : l[k]? <;> cases h2 : l'[k]? <;> simp_all [SecV.sh]
theorem sh_place {l l' : List SecV} (h : l.map SecV.sh = l'.map SecV.sh) (x : UInt32) (n : Int) : placeP l x n = placeP l' x n := by
  obtain ⟨h1, h2⟩ := sh_get h (findP l' x).toNat
  unfold placeP endP
  rw [sh_find h x, h1, h2]
theorem pl_sh {l l' : List SecV} (h : l.map SecV.pl = l'.map SecV.pl) : l.map SecV.sh = l'.map SecV.sh := by
  have e : ∀ m : List SecV, m.map SecV.sh = (m.map SecV.pl).map (fun s => (s.addr, s.data.length)) := fun m => by rw [List.map_map]; rfl
  rw [e, e, h]
theorem write_err {l : List SecV} {a : UInt32} {b : List UInt8} (h : ¬ (writeP l a b).2 = 0) : ((writeP l a b).2 = 11 ∨ (writeP l a b).2 = 12) ∧ (writeP l a b).1 = [] := by
  unfold writeP at h ⊢
  split at h
  · exact absurd rfl h
  · rename_i h0
    rw [if_neg h0]
    split at h
    · rename_i h1
      rw [if_pos h1]
      refine ⟨.inl ?_, rfl⟩
      unfold placeP at h1 ⊢
      dsimp only
      split
      · rfl
      · rename_i q; rw [if_neg q] at h1
        split
        · rfl
        · rename_i q2; rw [if_neg q2] at h1; exact absurd rfl h1
    · rename_i h1
      rw [if_neg h1]
      split at h
      · rename_i h2; rw [if_pos h2]; exact ⟨.inr rfl, rfl⟩
      · exact absurd rfl h
/-- What a writing that went well makes. -/
theorem write_ok {l l' : List SecV} {a : UInt32} {b : List UInt8} (h : (writeP l a b).2 = 0) (hl : l'.map SecV.pl = (writeP l a b).1) :
    (l'.map SecV.pl = l.map SecV.pl ∧ b = []) ∨ (b.length ≠ 0 ∧ (placeP l a b.length).2.2 = 0 ∧ l'.map SecV.pl = (l.map SecV.pl).set (placeP l a b.length).1.toNat (putS (l.getD (placeP l a b.length).1.toNat default).pl (placeP l a b.length).2.1.toNat b)) := by
  unfold writeP at h hl
  split at h
  · rename_i h0
    rw [if_pos h0] at hl
    exact .inl ⟨hl, List.length_eq_zero_iff.1 h0⟩
  · rename_i h0
    rw [if_neg h0] at hl
    split at h
    · rename_i h1; exact absurd h h1
    · rename_i h1
      rw [if_neg h1] at hl
      split at h
      · cases h
      · rename_i h2
        rw [if_neg h2] at hl
        exact .inr ⟨h0, by simpa using h1, hl⟩
theorem getD_set_cases {l : List Sec} {k j : Nat} {x : Sec} : (l.set k x).getD j default = if k = j ∧ k < l.length then x else l.getD j default := by
  simp only [List.getD_eq_getElem?_getD, List.getElem?_set]
  by_cases h1 : k = j
  · subst h1
    by_cases h2 : k < l.length
    · simp [h2]
    · simp [h2]
  · simp [h1]
theorem map_getD {l : List SecV} (k : Nat) : (k < l.length → (l.map SecV.pl).getD k default = (l.getD k default).pl) := fun h => by
  simp [List.getD_eq_getElem?_getD, h]
theorem readP_pos {l : List SecV} {a : UInt32} {n : Int} (h : 0 < n) : readP l a n = if (placeP l a n).2.2 ≠ 0 then ([], (placeP l a n).2.2) else (((l.getD (placeP l a n).1.toNat default).data.take ((placeP l a n).2.1 + n).toNat).drop (placeP l a n).2.1.toNat, 0) := by
  unfold readP; rw [if_neg (by omega), if_neg (by omega)]
structure Wrote (l l' : List SecV) (k at_ : Nat) (b : List UInt8) : Prop where
  len : l'.length = l.length
  sh : l.map SecV.sh = l'.map SecV.sh
  at_k : (l'.getD k default).data = (l.getD k default).data.take at_ ++ b ++ (l.getD k default).data.drop (at_ + b.length)
  else_ : ∀ j, j ≠ k → (l'.getD j default).data = (l.getD j default).data
theorem wrote_of {l l' : List SecV} {k at_ : Nat} {b : List UInt8} (hk : k < l.length) (hat : at_ + b.length ≤ (l.getD k default).data.length) (hl : l'.map SecV.pl = (l.map SecV.pl).set k (putS (l.getD k default).pl at_ b)) : Wrote l l' k at_ b := by
  have hlen : l'.length = l.length := by have := congrArg List.length hl; simpa using this
  have hg : ∀ j, j < l.length → (l'.getD j default).pl = if k = j then putS (l.getD k default).pl at_ b else (l.getD j default).pl := fun j hj => by
    have h1 := congrArg (·.getD j default) hl
    simp only [getD_set_cases, List.length_map] at h1
    rw [map_getD j (by omega), map_getD j hj] at h1
    rw [h1]
    by_cases hkj : k = j
    · rw [if_pos ⟨hkj, hk⟩, if_pos hkj]
    · rw [if_neg (fun q => hkj q.1), if_neg hkj]
  have hpk : (putS (l.getD k default).pl at_ b).data.length = (l.getD k default).data.length := by
    simp only [putS, SecV.pl, List.length_append, List.length_take, List.length_drop]; omega
  refine ⟨hlen, ?_, ?_, fun j hj => ?_⟩
  · apply List.ext_getElem?
    intro j
    rw [List.getElem?_map, List.getElem?_map]
    by_cases hj : j < l.length
    · have h1 := hg j hj
      have e1 : l[j]? = some (l.getD j default) := get_getD hj
      have e2 : l'[j]? = some (l'.getD j default) := get_getD (by omega)
      rw [e1, e2]
      simp only [Option.map_some, Option.some.injEq]
      split at h1
      · rename_i e; subst e
        have e3 : (l'.getD k default).addr = (l.getD k default).addr := congrArg Sec.addr h1
        have e4 : (l'.getD k default).data.length = (l.getD k default).data.length := by rw [← hpk, ← h1]; rfl
        simp only [SecV.sh, e3, e4]
      · have h2 := pl_data h1
        simp only [SecV.sh, h2.2.1, h2.2.2.1]
    · rw [List.getElem?_eq_none (by omega), List.getElem?_eq_none (by omega)]
  · have h1 := hg k hk
    rw [if_pos rfl] at h1
    exact congrArg Sec.data h1
  · by_cases hj2 : j < l.length
    · have h1 := hg j hj2
      rw [if_neg (fun e => hj e.symm)] at h1
      exact (pl_data h1).2.2.1
    · have e1 : l.getD j default = default := by simp [List.getD_eq_getElem?_getD, List.getElem?_eq_none (show l.length ≤ j by omega)]
      have e2 : l'.getD j default = default := by simp [List.getD_eq_getElem?_getD, List.getElem?_eq_none (show l'.length ≤ j by omega)]
      rw [e1, e2]
theorem write_sh {l l' : List SecV} {a : UInt32} {b : List UInt8} (h : (writeP l a b).2 = 0) (hl : l'.map SecV.pl = (writeP l a b).1) : l.map SecV.sh = l'.map SecV.sh := by
  rcases write_ok h hl with ⟨h1, rfl⟩ | ⟨hb, hp, hm⟩
  · exact (pl_sh h1).symm
  · obtain ⟨p1, p2, p3, p4, p5⟩ := placeP_ok hp
    exact (wrote_of (by omega) (by omega) hm).sh
theorem secB_sh {l l' : List SecV} (h : l.map SecV.sh = l'.map SecV.sh) (hB : SecB l) : SecB l' := by
  have hl : l.length = l'.length := by simpa using congrArg List.length h
  refine ⟨by have := hB.1; omega, fun s hs => ?_⟩
  obtain ⟨j, hj, rfl⟩ := List.mem_iff_getElem.1 hs
  have h1 := (sh_get h j).2
  have h2 := hB.at (k := j) (by omega)
  have e : l'.getD j default = l'[j] := by simp [List.getD_eq_getElem?_getD, hj]
  rw [e] at h1; omega
def insideB (l : List SecV) (a x : UInt32) (b : List UInt8) : Bool := (decide (a ≤ x) && decide (((x - a).toNat : Int) < b.length)) && decide (findP l x = findP l a)
/-- Reading after writing. -/
theorem read_back {l l' : List SecV} {a : UInt32} {b : List UInt8} (h : (writeP l a b).2 = 0) (hl : l'.map SecV.pl = (writeP l a b).1) (x : UInt32) :
    l'.length = l.length ∧ readP l' a b.length = (b, 0) ∧ findP l x = findP l' x ∧ (readP l x 1).2 = (readP l' x 1).2 ∧ (readP l x 1).1.length = (readP l' x 1).1.length ∧ (insideB l a x b = true ∨ (readP l x 1).1 = (readP l' x 1).1) := by
  rcases write_ok h hl with ⟨h1, rfl⟩ | ⟨hb, hp, hm⟩
  · have hs := pl_sh h1
    have he : readP l x 1 = readP l' x 1 := by
      unfold readP
      rw [sh_place hs.symm x 1, (pl_data (map_pl_get h1.symm _)).2.2.1]
    exact ⟨map_pl_len h1, rfl, sh_find hs.symm x, by rw [he], by rw [he], .inr (by rw [he])⟩
  · obtain ⟨p1, p2, p3, p4, p5⟩ := placeP_ok hp
    have hp3 : placeP l a b.length = (findP l a, (a.toNat : Int) - (l.getD (findP l a).toNat default).addr.toNat, 0) := by
      unfold placeP at hp ⊢
      split at hp
      · cases hp
      · split at hp
        · cases hp
        · rename_i q1 q2; rw [if_neg q1, if_neg q2]
    rw [hp3] at p1 p2 p3 p4 p5 hm
    dsimp only at p1 p2 p3 p4 p5 hm
    have hw := wrote_of (by omega) (by omega) hm
    obtain ⟨w1, w2, w3, w4⟩ := hw
    generalize hat : ((a.toNat : Int) - (l.getD (findP l a).toNat default).addr.toNat).toNat = at_ at *
    have hla : (l.getD (findP l a).toNat default).data.length ≥ at_ + b.length := by omega
    refine ⟨w1, ?_, sh_find w2 x, ?_, ?_, ?_⟩
    · rw [readP_pos (by omega), ← sh_place w2 a, hp3, if_neg (by simp)]
      dsimp only
      rw [w3, hat, show ((a.toNat : Int) - (l.getD (findP l a).toNat default).addr.toNat + b.length).toNat = at_ + b.length by omega]
      congr 1
      have e1 : ((l.getD (findP l a).toNat default).data.take at_).length = at_ := by rw [List.length_take]; omega
      have e2 : ((l.getD (findP l a).toNat default).data.take at_ ++ b).length = at_ + b.length := by rw [List.length_append, e1]
      rw [← e2, List.take_left, List.drop_left' e1]
    · rw [readP_pos (by omega), readP_pos (by omega), ← sh_place w2 x]
      split <;> rfl
    · rw [readP_pos (by omega), readP_pos (by omega), ← sh_place w2 x]
      split
      · rfl
      · have := (sh_get w2 (placeP l x 1).1.toNat).2
        simp only [List.length_drop, List.length_take, this]
    · by_cases hin : insideB l a x b = true
      · exact .inl hin
      right
      rw [readP_pos (by omega), readP_pos (by omega), ← sh_place w2 x]
      split
      · rfl
      · rename_i hx0
        have hx0' : (placeP l x 1).2.2 = 0 := by simpa using hx0
        have hx3 : placeP l x 1 = (findP l x, (x.toNat : Int) - (l.getD (findP l x).toNat default).addr.toNat, 0) := by
          unfold placeP at hx0' ⊢
          split at hx0'
          · cases hx0'
          · split at hx0'
            · cases hx0'
            · rename_i q1 q2; rw [if_neg q1, if_neg q2]
        obtain ⟨y1, y2, y3, y4, y5⟩ := placeP_ok hx0'
        rw [hx3] at y1 y2 y3 y4 y5 ⊢
        dsimp only at y1 y2 y3 y4 y5 ⊢
        by_cases hk : findP l x = findP l a
        · rw [hk] at y4 y5 ⊢
          generalize hax : ((x.toNat : Int) - (l.getD (findP l a).toNat default).addr.toNat) = q at *
          obtain ⟨q, rfl⟩ : ∃ m : Nat, q = m := ⟨q.toNat, by omega⟩
          have hout : (q : Int) < at_ ∨ ((at_ + b.length : Nat) : Int) ≤ q := by
            by_cases c : (q : Int) < at_ ∨ ((at_ + b.length : Nat) : Int) ≤ q
            · exact c
            · exfalso; apply hin
              have hle : a ≤ x := by rw [UInt32.le_iff_toNat_le]; omega
              have hsub : (x - a).toNat = x.toNat - a.toNat := UInt32.toNat_sub_of_le _ _ hle
              simp only [insideB, Bool.and_eq_true, decide_eq_true_eq]
              exact ⟨⟨hle, by rw [hsub]; have := UInt32.le_iff_toNat_le.1 hle; omega⟩, hk⟩
          rw [w3, show ((q : Int) + 1).toNat = q + 1 by omega, Int.toNat_natCast]
          apply List.ext_getElem?
          intro j
          simp only [List.getElem?_drop, List.getElem?_take, List.getElem?_append, List.length_append, List.length_take]
          by_cases hj : q + j < q + 1
          · rw [if_pos hj, if_pos hj]
            have m1 : min at_ (l.getD (findP l a).toNat default).data.length = at_ := by omega
            rw [m1]
            rcases hout with c | c
            · rw [if_pos (by omega), if_pos (by omega), if_pos (by omega)]
            · rw [if_neg (by omega)]; congr 1; omega
          · rw [if_neg hj, if_neg hj]
        · rw [w4 _ (fun e => hk (by omega))]
/-! ### how far away a free place is -/
def wR (r : Rng) : Nat := (r.hi.toNat - r.lo.toNat) + 10015
def wS : List Rng → Nat
  | [] => 0
  | r :: l => wR r + wS l
theorem wS_append (a b : List Rng) : wS (a ++ b) = wS a + wS b := by
  induction a with
  | nil => simp [wS]
  | cons x a ih => simp only [List.cons_append, wS, ih]; omega
theorem wS_perm {a b : List Rng} (h : a.Perm b) : wS a = wS b := by
  induction h with
  | nil => rfl
  | cons x _ ih => simp only [wS, ih]
  | swap x y l => simp only [wS]; omega
  | trans _ _ i1 i2 => rw [i1, i2]
theorem wS_filter (p : Rng → Bool) : ∀ l, wS (l.filter p) ≤ wS l
  | [] => Nat.le_refl _
  | x :: l => by
    have := wS_filter p l
    rw [List.filter_cons]; split <;> simp only [wS] <;> omega
theorem wS_merge (out : List Rng) (r : Rng) : wS (mergeStep out r) ≤ wS out + wR r := by
  rcases List.eq_nil_or_concat out with rfl | ⟨pre, x, rfl⟩
  · rw [mergeStep_nil]; simp [wS]
  · rw [List.concat_eq_append, mergeStep_append]
    split
    · rename_i h
      rw [UInt32.le_iff_toNat_le] at h
      have hm := max_toNat x.hi r.hi
      simp only [wS_append, wS, wR, hm]; omega
    · simp only [wS_append, wS]; omega
theorem wS_fold : ∀ (l out : List Rng), wS (l.foldl mergeStep out) ≤ wS out + wS l
  | [], out => by simp [wS]
  | r :: l, out => by
    have h1 := wS_merge out r
    have h2 := wS_fold l (mergeStep out r)
    simp only [List.foldl_cons, wS]; omega
theorem wS_normal (l : List Rng) : wS (normalP l) ≤ wS l := by
  have h1 := wS_fold (sortP (ltOf cmpR) (l.filter neR)) []
  have h2 := wS_perm (sortP_perm swo_cmpR (l.filter neR))
  have h3 := wS_filter neR l
  unfold normalP
  simp only [wS] at h1
  omega
theorem freeF_bound {n : Int} (hn : 0 ≤ n ∧ n ≤ 10000) : ∀ (t : List Rng) (a : Int), freeF n t a ≤ a + wS t
  | [], a => by simp [freeF, wS]
  | r :: t, a => by
    by_cases c1 : (r.hi.toNat : Int) ≤ a ∨ n = 0
    · rw [freeF_skip c1]
      have := freeF_bound hn t a
      simp only [wS]; omega
    · by_cases c2 : a + n ≤ r.lo.toNat
      · rw [freeF_stop c1 c2]; simp only [wS]; omega
      · rw [freeF_go c1 c2]
        have := freeF_bound hn t (upP r.hi.toNat)
        have hu := upP_ge (r.hi.toNat : Int)
        simp only [wS, wR]; omega
theorem firstP_all {f : Nat → Int} : ∀ (n k : Nat), firstP f k n = 0 → ∀ i, k ≤ i → i < k + n → f i = 0
  | 0, k, _, i, h1, h2 => by omega
  | n + 1, k, h, i, h1, h2 => by
    unfold firstP at h
    split at h
    · rename_i q; exact absurd h q
    · rename_i q
      by_cases e : i = k
      · subst e; simpa using q
      · exact firstP_all n (k + 1) h i (by omega) (by omega)
theorem check_facts {l : List SecV} (h : checkS l = 0) : l.length ≤ 16 ∧ ∀ s ∈ l, s.data.length ≤ 65536 ∧ (s.addr.toNat : Int) + s.data.length ≤ 4294967295 := by
  unfold checkS at h
  split at h
  · cases h
  · rename_i h0
    split at h
    · rename_i h1; exact absurd h h1
    · rename_i h1
      refine ⟨by omega, fun s hs => ?_⟩
      obtain ⟨j, hj, rfl⟩ := List.mem_iff_getElem.1 hs
      have h2 := firstP_all l.length 0 (by simpa using h1) j (Nat.zero_le _) (by omega)
      have e : l.getD j default = l[j] := by simp [List.getD_eq_getElem?_getD, hj]
      unfold oneP at h2
      dsimp only at h2
      rw [e] at h2
      split at h2
      · cases h2
      · rename_i k1
        split at h2
        · cases h2
        · split at h2
          · cases h2
          · split at h2
            · cases h2
            · rename_i k2
              exact ⟨by omega, by have : ¬ (4294967295 : Int) < _ := fun q => k2 (.inl q); omega⟩
theorem wS_secs : ∀ (l : List SecV), (∀ s ∈ l, s.data.length ≤ 65536) → wS (l.map spaceP) ≤ l.length * 75551
  | [], _ => by simp [wS]
  | s :: l, h => by
    have ih := wS_secs l (fun x hx => h x (.tail _ hx))
    have h1 := h s (.head _)
    have h2 := space_hi s
    have h3 : (spaceP s).lo.toNat = s.addr.toNat := rfl
    simp only [List.map_cons, wS, wR, List.length_cons]
    unfold endP at h2
    omega
theorem near_free {l : List SecV} (h : checkS l = 0) {n : Int} (hn : 0 ≤ n ∧ n ≤ 10000) {f : UInt32} (hf : f.toNat ≤ 100000) : freeF n (takenP l) (upP f.toNat) ≤ 2000000 := by
  obtain ⟨h1, h2⟩ := check_facts h
  have h3 := freeF_bound hn (takenP l) (upP f.toNat)
  have h4 := wS_normal (normalP (l.map spaceP) ++ [stackP])
  have h5 := wS_normal (l.map spaceP)
  have h6 := wS_secs l (fun s hs => (h2 s hs).1)
  have h7 := upP_ge (f.toNat : Int)
  have h8 : wS [stackP] = 14111 := rfl
  rw [wS_append, h8] at h4
  have h9 : l.length * 75551 ≤ 16 * 75551 := Nat.mul_le_mul_right _ h1
  unfold takenP at h3 ⊢
  omega
def takHit (a n : Int) (s : SecV) : Bool := (decide ((s.addr.toNat : Int) < (s.addr.toNat : Int) + s.data.length) && decide ((s.addr.toNat : Int) < a + n)) && decide (a < (s.addr.toNat : Int) + s.data.length)
def takP (l : List SecV) (a : UInt32) (n : Int) : Bool := if n < 0 ∨ 10000 < n then true else l.any (takHit a.toNat n) || (decide ((a.toNat : Int) < 983040) && decide (978944 < (a.toNat : Int) + n))
theorem tak_free {l : List SecV} (h : checkS l = 0) {a : UInt32} {n : Int} (hn : 1 ≤ n ∧ n ≤ 10000) : takP l a n = true ↔ ¬ FreeAt l n a.toNat := by
  obtain ⟨h1, h2⟩ := check_facts h
  unfold takP
  rw [if_neg (by omega), Bool.or_eq_true, List.any_eq_true, Bool.and_eq_true, decide_eq_true_eq, decide_eq_true_eq]
  constructor
  · rintro (⟨s, hs, q⟩ | ⟨q1, q2⟩) hf
    · simp only [takHit, Bool.and_eq_true, decide_eq_true_eq] at q
      obtain ⟨⟨q1, q2⟩, q3⟩ := q
      have he : endP s = (s.addr.toNat : Int) + s.data.length := by have := (h2 s hs).2; unfold endP; omega
      exact hf (max a.toNat s.addr.toNat) (by omega) (by omega) (.inl (has_space.2 ⟨s, hs, by omega, by rw [he]; omega⟩))
    · exact hf (max a.toNat 978944) (by omega) (by omega) (.inr (by omega))
  · intro hf
    apply Classical.byContradiction
    intro hc
    apply hf
    rintro x k1 k2 (hx | hx)
    · obtain ⟨s, hs, q1, q2⟩ := has_space.1 hx
      have he : endP s = (s.addr.toNat : Int) + s.data.length := by have := (h2 s hs).2; unfold endP; omega
      exact hc (.inl ⟨s, hs, by simp only [takHit, Bool.and_eq_true, decide_eq_true_eq]; omega⟩)
    · exact hc (.inr ⟨by omega, by omega⟩)
/-- What SectionFree says, of a place that was found. -/
theorem free_law {l : List SecV} (h : checkS l = 0) {n : Int} (hn : 1 ≤ n ∧ n ≤ 10000) {f : UInt32} (he : (freeP l n f).2 = 0) :
    f ≤ (freeP l n f).1 ∧ (freeP l n f).1 % 16 = 0 ∧ takP l (freeP l n f).1 n = false ∧ ((freeP l n f).1 - f < 16 ∨ takP l ((freeP l n f).1 - 16) n = true) := by
  obtain ⟨k1, k2, k3, k4⟩ := free_least (l := l) (n := n) (by omega) f
  have hup := upP_ge (f.toNat : Int)
  have hbig : ¬ (4294967295 < n ∨ 4294967295 < freeF n (takenP l) (upP f.toNat) + n) := fun q => by rw [freeP_2 (by omega) q] at he; cases he
  rw [freeP_3 (by omega) hbig]
  dsimp only
  generalize hr : freeF n (takenP l) (upP f.toNat) = r at *
  have hv : ((u32 r).toNat : Int) = r := u32_val (by omega)
  have c16 : (16 : UInt32).toNat = 16 := rfl
  have hle : f ≤ u32 r := by rw [UInt32.le_iff_toNat_le]; omega
  refine ⟨hle, ?_, ?_, ?_⟩
  · apply UInt32.toNat_inj.1
    rw [UInt32.toNat_mod, c16]
    show _ = 0
    omega
  · rw [← Bool.not_eq_true, tak_free h hn, hv]
    exact fun q => q k3
  · by_cases hc : u32 r - f < 16
    · exact .inl hc
    · right
      rw [UInt32.lt_iff_toNat_lt, UInt32.toNat_sub_of_le _ _ hle, c16] at hc
      have hle2 : (16 : UInt32) ≤ u32 r := by rw [UInt32.le_iff_toNat_le, c16]; omega
      have hv2 : ((u32 r - 16).toNat : Int) = r - 16 := by rw [UInt32.toNat_sub_of_le _ _ hle2, c16]; omega
      rw [tak_free h hn, hv2]
      refine k4 (r - 16) (by omega) ?_ (by omega)
      unfold upP; omega
theorem free_far {l : List SecV} (h : checkS l = 0) {n : Int} (hn : 1 ≤ n ∧ n ≤ 10000) {f : UInt32} (he : ¬ (freeP l n f).2 = 0) : (freeP l n f).2 = 7 ∧ 100000 < f := by
  have c : (100000 : UInt32).toNat = 100000 := rfl
  by_cases hbig : 4294967295 < n ∨ 4294967295 < freeF n (takenP l) (upP f.toNat) + n
  · refine ⟨by rw [freeP_2 (by omega) hbig], ?_⟩
    rw [UInt32.lt_iff_toNat_lt, c]
    apply Classical.byContradiction
    intro q
    have := near_free h (n := n) (by omega) (f := f) (by omega)
    omega
  · rw [freeP_3 (by omega) hbig] at he; exact absurd rfl he
end Go.HL
