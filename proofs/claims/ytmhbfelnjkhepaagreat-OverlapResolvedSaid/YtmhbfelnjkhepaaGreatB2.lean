/- Own rules and walks, part 2. -/
import Derived.Test.YtmhbfelnjkhepaaGreatB1
set_option linter.unusedSimpArgs false
set_option linter.unusedVariables false
set_option linter.unusedSectionVars false
namespace Go.HL
open Go Go.RowKit Go.Sort
open Go.Shelf (Ren)
open Go.Proofs (SlLaysF0.n6 CmpLays ltOf)
theorem Ext.grown {w w' : World} (h : Ext w w') : ∃ q os', w' = grow (w.drewN q) os' := by
  refine ⟨w'.drawn - w.drawn, w'.heap.extract w.heap.size w'.heap.size, ?_⟩
  obtain ⟨⟨h1, h2, h3, h4, h5⟩, h6⟩ := h
  obtain ⟨hp', t', d', o', u'⟩ := w'
  simp only at h1 h2 h3 h4 h5 h6 ⊢
  subst h1; subst h2; subst h3
  simp only [grow, World.drewN, World.mk.injEq, true_and, and_true]
  refine ⟨?_, by omega⟩
  apply Array.ext_getElem?
  intro k
  rw [Array.getElem?_append]
  by_cases hk : k < w.heap.size
  · rw [if_pos hk, h5 k hk]
  · rw [if_neg hk]
    simp only [Array.getElem?_extract]
    by_cases hk2 : k < hp'.size
    · rw [if_pos (by omega), show w.heap.size + (k - w.heap.size) = k by omega]
    · rw [if_neg (by omega), Array.getElem?_eq_none (by omega)]
theorem flatK_toList {α : Type} [Inhabited α] (E : Enc α) (d : Array α) : (flatK E.enc E.k d).toList = d.toList.flatMap E.enc := by
  apply List.ext_getElem?
  intro t
  by_cases ht : t < d.size * E.k
  · have k0 : 0 < E.k := by rcases Nat.eq_zero_or_pos E.k with h | h
                            · rw [h] at ht; simp at ht
                            · exact h
    have hi : t / E.k < d.size := by rw [Nat.div_lt_iff_lt_mul k0]; exact ht
    have hj : t % E.k < E.k := Nat.mod_lt _ k0
    have hl : t % E.k < (E.enc d[t / E.k]!).length := by rw [E.len]; exact hj
    have h1 := get_flatK E.enc E.k d t ht
    have h2 := flatMap_get E d.toList (t / E.k) (d[t / E.k]!) (by rw [getElem!_pos d _ hi]; simp [hi]) (t % E.k) _ (List.getElem?_eq_getElem hl)
    rw [show t / E.k * E.k + t % E.k = t from Nat.div_add_mod' t E.k] at h2
    rw [h2, Array.getElem?_toList, Array.getElem?_eq_getElem (by rw [size_flatK]; exact ht)]
    rw [getElem!_pos (flatK E.enc E.k d) t (by rw [size_flatK]; exact ht), getElem!_pos (E.enc d[t / E.k]!) _ hl] at h1
    rw [h1]
  · rw [List.getElem?_eq_none (by simp; omega), List.getElem?_eq_none (by rw [flatMap_length]; simp; omega)]
theorem holdsK_row {α : Type} [Inhabited α] {E : Enc α} {l : List α} {w : World} {g : Nat} {cur : Array Value} {T : TypeId} (ho : w.heap[g]? = some (.cells cur T (0, 0))) (hs : l.length * E.k ≤ cur.size) (hc : cur.toList.take (l.length * E.k) = l.flatMap E.enc) :
    HoldsK E.enc E.k w g 0 l.toArray := by
  intro j hj
  rw [size_flatK] at hj
  have hj' : j < l.length * E.k := by simpa using hj
  have e : (flatK E.enc E.k l.toArray).toList = l.flatMap E.enc := flatK_toList E l.toArray
  refine ⟨?_, by simp [World.frozen?, ho]⟩
  rw [getElem!_pos (flatK E.enc E.k l.toArray) j (by rw [size_flatK]; exact hj)]
  have h2 : (flatK E.enc E.k l.toArray)[j]? = cur[j]? := by
    rw [← Array.getElem?_toList, e, ← hc, List.getElem?_take, if_pos hj', Array.getElem?_toList]
  rw [Array.getElem?_eq_getElem (by rw [size_flatK]; exact hj)] at h2
  simp [World.cell?, ho, ← h2]
theorem putK_heap {w : World} {g : Nat} {cur : Array Value} {T : TypeId} (ho : w.heap[g]? = some (.cells cur T (0, 0))) (F : Array Value) (os : Array Obj) (m : Nat) :
    (grow (putRow id (Sort.ahead w m) g 0 F) os).heap[g]? = some (.cells (putCells id 0 F cur) T (0, 0)) := by
  have hg : g < w.heap.size := (Array.getElem?_eq_some_iff.1 ho).1
  rw [heap_grow_old _ _ (by simpa using hg)]
  simp [putRow, mapBlock, Sort.ahead, Array.getElem?_modify, ho, onCells]
theorem putCells_take (F cur : Array Value) (h : F.size ≤ cur.size) : (putCells id 0 F cur).toList.take F.size = F.toList := by
  apply List.ext_getElem?
  intro j
  rw [List.getElem?_take, Array.getElem?_toList, Array.getElem?_toList]
  by_cases hj : j < F.size
  · rw [if_pos hj]
    simp [putCells, Array.getElem?_mapIdx, hj, Array.getElem?_eq_getElem (show j < cur.size by omega)]
  · rw [if_neg hj, Array.getElem?_eq_none (by omega)]
theorem sortK_mut {w : World} {V : Value} {g : Nat} {cur F : Array Value} {T : TypeId} (hV : V.ownBlock = some g) (ho : w.heap[g]? = some (.cells cur T (0, 0))) (os : Array Obj) (m : Nat) : Mut w (grow (putRow id (Sort.ahead w m) g 0 F) os) V := by
  refine ⟨rfl, rfl, rfl, by simp [putRow, mapBlock, Sort.ahead], by simp [grow, putRow, mapBlock, Sort.ahead], fun k hk hne => ?_⟩
  rw [heap_grow_old _ _ (by simpa [putRow, mapBlock, Sort.ahead] using hk)]
  have : g ≠ k := by rintro rfl; exact hne hV.symm
  simp [putRow, mapBlock, Sort.ahead, Array.getElem?_modify, this]
/-- What slices.SortFunc makes of a list. -/
def sortP {α : Type} [Inhabited α] (lt : α → α → Bool) (l : List α) : List α := (pdq lt l.toArray 0 l.length (Lib.bitLen l.length) true true).toList
theorem sortP_perm {α : Type} [Inhabited α] {lt : α → α → Bool} (h : SWO lt) (l : List α) : (sortP lt l).Perm l := by
  have hs := (pdq_sorts lt h l.toArray 0 l.length (Lib.bitLen l.length) true true (Nat.zero_le _) (by simp) (Or.inl rfl)).1
  obtain ⟨h1, _, h3⟩ := hs
  have hsz : (pdq lt l.toArray 0 l.length (Lib.bitLen l.length) true true).size = l.length := by simpa using h1
  unfold sortP
  generalize hd : pdq lt l.toArray 0 l.length (Lib.bitLen l.length) true true = d at h3 hsz
  have e1 : d.extract 0 l.length = d := by rw [← hsz]; simp
  have e2 : l.toArray.extract 0 l.length = l.toArray := by simp
  rw [e1, e2] at h3
  simpa using h3
theorem sortP_sorted {α : Type} [Inhabited α] {lt : α → α → Bool} (h : SWO lt) (l : List α) : (sortP lt l).Pairwise fun x y => lt y x = false := by
  have hs := (pdq_sorts lt h l.toArray 0 l.length (Lib.bitLen l.length) true true (Nat.zero_le _) (by simp) (Or.inl rfl))
  have hsz : (pdq lt l.toArray 0 l.length (Lib.bitLen l.length) true true).size = l.length := by simpa using hs.1.1
  rw [List.pairwise_iff_getElem]
  intro i j hi hj hij
  unfold sortP at hi hj ⊢
  simp only [Array.length_toList] at hi hj
  have := hs.2 i j (Nat.zero_le _) hij (by omega)
  rw [getElem!_pos (pdq lt l.toArray 0 l.length (Lib.bitLen l.length) true true) j hj, getElem!_pos (pdq lt l.toArray 0 l.length (Lib.bitLen l.length) true true) i hi] at this
  simpa using this
theorem sortP_length {α : Type} [Inhabited α] {lt : α → α → Bool} (h : SWO lt) (l : List α) : (sortP lt l).length = l.length := (sortP_perm h l).length_eq
theorem sortFunc_any {P : Program} {ρ : Ren} (L : SlLaysF0.n6 P ρ) {α : Type} [Inhabited α] (E : Enc α) (T : TypeId) (aE : ∀ w, (isAgg (ρ.t 24)).run P w = .ok true w) (zE : ∀ w, (Go.sizeOf (ρ.t 24)).run P w = .ok E.k w) (cf : α → α → Int) (hO : SWO (ltOf cf))
    (g : Nat) (cb : List Value) (l : List α) (V : Value) (w : World) (eg : ∀ args w, (callFunc g args).run P w = .ok (.enter g args) w) (hr : (rowE V T E l).holds w) (hl : l.length < 2305843009213693952)
    (hcmp : ∀ x y w', Mut w w' V → Calls P g ([Value.agg (E.enc x).toArray, .agg (E.enc y).toArray] ++ cb).toArray w' fun e w'' => e = .returned (.int .i64 (cf x y)) ∧ Ext w' w'')
    (hnil : Calls P (ρ.f 6) #[.slice none 0 0, .func (.func g) #[] cb.toArray] w fun e w' => e = .returned (.tuple #[]) ∧ Ext w w') :
    Calls P (ρ.f 6) #[V, .func (.func g) #[] cb.toArray] w fun e w' => e = .returned (.tuple #[]) ∧ Mut w w' V ∧ (rowE V T E (sortP (ltOf cf) l)).holds w' := by
  have hr' : RowOK V T E l (V.ownBlock.bind (w.heap[·]?)) := hr
  rcases hr' with ⟨rfl, rfl⟩ | ⟨b, cap, cur, rfl, ho, hc1, hc2, hc3, hc4⟩
  · refine hnil.mono fun e w' ⟨h1, h2⟩ => ⟨h1, ⟨h2.below.os, h2.below.tape, h2.below.output, h2.below.size, h2.dr, fun k hk _ => h2.below.block k hk⟩, ?_⟩
    refine .inl ⟨rfl, ?_⟩
    have := sortP_length hO ([] : List α)
    exact List.length_eq_zero_iff.1 this
  · have ho' : w.heap[b]? = some (.cells cur T (0, 0)) := ho
    have hb : b < w.heap.size := (Array.getElem?_eq_some_iff.1 ho').1
    have hsz : l.length * E.k ≤ cur.size := Nat.le_trans (Nat.mul_le_mul_right _ hc1) hc3
    have hH := holdsK_row (E := E) (l := l) ho' hsz hc4
    have hm := Go.Proofs.AnyQ.slices_SortFunc_eq L E.k aE zE E.enc E.len E.one cf hO g cb.toArray b 0 cap l.toArray w eg
      (fun m os dk hdk x y => by
        have e : (#[Value.agg (E.enc x).toArray, .agg (E.enc y).toArray] ++ cb.toArray) = ([Value.agg (E.enc x).toArray, .agg (E.enc y).toArray] ++ cb).toArray := by simp
        rw [e]
        exact (hcmp x y _ (sortK_mut (V := .slice (some ⟨b, 0, none⟩) l.length cap) rfl ho' os m)).mono fun e w' ⟨h1, h2⟩ => ⟨h1, h2.grown⟩) hH hb (by simp; omega)
    have e0 : (l.toArray.size : Nat) = l.length := by simp
    rw [e0] at hm
    refine hm.mono fun e w' ⟨h1, m, os, h2⟩ => ⟨h1, ?_⟩
    subst h2
    refine ⟨sortK_mut rfl ho' os m, ?_⟩
    have hlen := sortP_length hO l
    have hF : (flatK E.enc E.k (pdq (ltOf cf) l.toArray 0 l.length (Lib.bitLen l.length) true true)).toList = (sortP (ltOf cf) l).flatMap E.enc := flatK_toList E _
    have hFs : (flatK E.enc E.k (pdq (ltOf cf) l.toArray 0 l.length (Lib.bitLen l.length) true true)).size = l.length * E.k := by
      rw [← Array.length_toList, hF, flatMap_length, hlen]
    refine .inr ⟨b, cap, _, by rw [hlen], putK_heap ho' _ os m, by rw [hlen]; exact hc1, hc2, by simpa [putCells] using hc3, ?_⟩
    rw [hlen, ← hF, ← hFs]
    exact putCells_take _ _ (by rw [hFs]; exact hsz)
end Go.HL
namespace Go.HL
open Go Go.Sort
open Go.Proofs (ltOf)
def cmpR (x y : Rng) : Int := if x.lo < y.lo then -1 else if y.lo < x.lo then 1 else 0
theorem ltOf_cmpR (x y : Rng) : ltOf cmpR x y = decide (x.lo < y.lo) := by
  unfold ltOf cmpR
  by_cases h : x.lo < y.lo
  · simp [h]
  · by_cases h2 : y.lo < x.lo <;> simp [h, h2]
theorem swo_cmpR : SWO (ltOf cmpR) where
  irrefl x := by simp [ltOf_cmpR]
  trans x y z h1 h2 := by
    simp only [ltOf_cmpR, decide_eq_true_eq, UInt32.lt_iff_toNat_lt] at *; omega
  ntrans x y z h1 h2 := by
    simp only [ltOf_cmpR, decide_eq_false_iff_not, UInt32.lt_iff_toNat_lt] at *; omega
def neR (r : Rng) : Bool := decide (r.lo < r.hi)
def lastR (out : List Rng) : Rng := out.getD ((out.length : Int) - 1).toNat default
def mergeStep (out : List Rng) (r : Rng) : List Rng :=
  if 0 < (out.length : Int) ∧ r.lo ≤ (lastR out).hi then out.set ((out.length : Int) - 1).toNat ⟨(lastR out).lo, if (lastR out).hi < r.hi then r.hi else (lastR out).hi⟩ else out ++ [r]
def normalP (l : List Rng) : List Rng := (sortP (ltOf cmpR) (l.filter neR)).foldl mergeStep []
theorem filter_take_pos {α : Type} [Inhabited α] {p : α → Bool} {l : List α} {k : Nat} (h : k < l.length) (hp : p (l.getD k default) = true) : (l.take (k + 1)).filter p = (l.take k).filter p ++ [l.getD k default] := by
  rw [take_succ h, List.filter_append]; simp only [List.filter_cons, hp, if_true, List.filter_nil]
theorem filter_take_neg {α : Type} [Inhabited α] {p : α → Bool} {l : List α} {k : Nat} (h : k < l.length) (hp : p (l.getD k default) = false) : (l.take (k + 1)).filter p = (l.take k).filter p := by
  rw [take_succ h, List.filter_append]; simp only [List.filter_cons, hp, Bool.false_eq_true, if_false, List.filter_nil, List.append_nil]
theorem foldl_take_succ {α β : Type} [Inhabited α] {f : β → α → β} {b : β} {l : List α} {k : Nat} (h : k < l.length) : (l.take (k + 1)).foldl f b = f ((l.take k).foldl f b) (l.getD k default) := by
  rw [take_succ h, List.foldl_append]; rfl
theorem mergeStep_len (out : List Rng) (r : Rng) : (mergeStep out r).length ≤ out.length + 1 := by
  unfold mergeStep; split <;> simp
theorem mergeFold_len : ∀ (l out : List Rng), (l.foldl mergeStep out).length ≤ out.length + l.length
  | [], _ => by simp
  | r :: l, out => by
    have h1 := mergeFold_len l (mergeStep out r)
    have h2 := mergeStep_len out r
    simp only [List.foldl_cons, List.length_cons]; omega
theorem mergeStep_pos {out : List Rng} {r : Rng} (h1 : 0 < (out.length : Int)) (h2 : r.lo ≤ (lastR out).hi) : mergeStep out r = out.set ((out.length : Int) - 1).toNat ⟨(lastR out).lo, if (lastR out).hi < r.hi then r.hi else (lastR out).hi⟩ := by rw [mergeStep, if_pos ⟨h1, h2⟩]
theorem mergeStep_neg {out : List Rng} {r : Rng} (h : ¬ (0 < (out.length : Int) ∧ r.lo ≤ (lastR out).hi)) : mergeStep out r = out ++ [r] := by rw [mergeStep, if_neg h]
end Go.HL
namespace Go.HL
open Go Go.Sort
open Go.Proofs (ltOf)
def Has (l : List Rng) (n : Nat) : Prop := ∃ r ∈ l, r.lo.toNat ≤ n ∧ n < r.hi.toNat
def Norm (l : List Rng) : Prop := l.Pairwise (fun x y => x.hi.toNat < y.lo.toNat) ∧ ∀ x ∈ l, x.lo.toNat < x.hi.toNat
theorem Has.nil {n : Nat} : ¬ Has [] n := by rintro ⟨r, h, _⟩; simp at h
theorem has_cons {x : Rng} {l : List Rng} {n : Nat} : Has (x :: l) n ↔ (x.lo.toNat ≤ n ∧ n < x.hi.toNat) ∨ Has l n := by
  constructor
  · rintro ⟨r, h, h2⟩
    rcases List.mem_cons.1 h with rfl | h
    · exact .inl h2
    · exact .inr ⟨r, h, h2⟩
  · rintro (h | ⟨r, h, h2⟩)
    · exact ⟨x, .head _, h⟩
    · exact ⟨r, .tail _ h, h2⟩
theorem has_append {a b : List Rng} {n : Nat} : Has (a ++ b) n ↔ Has a n ∨ Has b n := by
  induction a with
  | nil => simp [Has.nil]
  | cons x a ih => simp only [List.cons_append, has_cons, ih, or_assoc]
theorem has_single {x : Rng} {n : Nat} : Has [x] n ↔ x.lo.toNat ≤ n ∧ n < x.hi.toNat := by simp [has_cons, Has.nil]
theorem Has.perm {a b : List Rng} (h : a.Perm b) {n : Nat} : Has a n ↔ Has b n :=
  ⟨fun ⟨r, m, q⟩ => ⟨r, h.mem_iff.1 m, q⟩, fun ⟨r, m, q⟩ => ⟨r, h.mem_iff.2 m, q⟩⟩
theorem u32_ext {a b : UInt32} (h : a.toNat = b.toNat) : a = b := UInt32.toNat_inj.1 h
theorem norm_cons {x : Rng} {l : List Rng} : Norm (x :: l) ↔ (x.lo.toNat < x.hi.toNat ∧ ∀ y ∈ l, x.hi.toNat < y.lo.toNat) ∧ Norm l := by
  simp only [Norm, List.pairwise_cons, List.mem_cons, forall_eq_or_imp]
  constructor
  · rintro ⟨⟨a, b⟩, c, d⟩; exact ⟨⟨c, a⟩, b, d⟩
  · rintro ⟨⟨c, a⟩, b, d⟩; exact ⟨⟨a, b⟩, c, d⟩
theorem Norm.unique : ∀ (a b : List Rng), Norm a → Norm b → (∀ n, Has a n ↔ Has b n) → a = b
  | [], [], _, _, _ => rfl
  | [], y :: b, _, hb, h => absurd ((h y.lo.toNat).2 (has_cons.2 (.inl ⟨Nat.le_refl _, (norm_cons.1 hb).1.1⟩))) Has.nil
  | x :: a, [], ha, _, h => absurd ((h x.lo.toNat).1 (has_cons.2 (.inl ⟨Nat.le_refl _, (norm_cons.1 ha).1.1⟩))) Has.nil
  | x :: a, y :: b, ha, hb, h => by
    obtain ⟨⟨hx, hxa⟩, ha'⟩ := norm_cons.1 ha
    obtain ⟨⟨hy, hyb⟩, hb'⟩ := norm_cons.1 hb
    have ta : ∀ {n}, Has a n → x.hi.toNat < n := fun ⟨r, m, q⟩ => by have := hxa r m; omega
    have tb : ∀ {n}, Has b n → y.hi.toNat < n := fun ⟨r, m, q⟩ => by have := hyb r m; omega
    have e1 : x.lo.toNat = y.lo.toNat := by
      have h1 := (h x.lo.toNat).1 (has_cons.2 (.inl ⟨Nat.le_refl _, hx⟩))
      have h2 := (h y.lo.toNat).2 (has_cons.2 (.inl ⟨Nat.le_refl _, hy⟩))
      rcases has_cons.1 h1 with h1 | h1 <;> rcases has_cons.1 h2 with h2 | h2
      · omega
      · have := ta h2; omega
      · have := tb h1; omega
      · have := ta h2; have := tb h1; omega
    have e2 : x.hi.toNat = y.hi.toNat := by
      rcases Nat.lt_trichotomy x.hi.toNat y.hi.toNat with hl | he | hg
      · have h1 := (h x.hi.toNat).2 (has_cons.2 (.inl ⟨by omega, hl⟩))
        rcases has_cons.1 h1 with h1 | h1
        · omega
        · have := ta h1; omega
      · exact he
      · have h1 := (h y.hi.toNat).1 (has_cons.2 (.inl ⟨by omega, hg⟩))
        rcases has_cons.1 h1 with h1 | h1
        · omega
        · have := tb h1; omega
    have e : x = y := rng_ext (u32_ext e1) (u32_ext e2)
    subst e
    rw [Norm.unique a b ha' hb' fun n => ?_]
    constructor
    · intro q
      rcases has_cons.1 ((h n).1 (has_cons.2 (.inr q))) with q2 | q2
      · have := ta q; omega
      · exact q2
    · intro q
      rcases has_cons.1 ((h n).2 (has_cons.2 (.inr q))) with q2 | q2
      · have := tb q; omega
      · exact q2
theorem norm_append {a b : List Rng} : Norm (a ++ b) ↔ Norm a ∧ Norm b ∧ ∀ x ∈ a, ∀ y ∈ b, x.hi.toNat < y.lo.toNat := by
  simp only [Norm, List.pairwise_append, List.mem_append]
  constructor
  · rintro ⟨⟨p1, p2, p3⟩, q⟩
    exact ⟨⟨p1, fun x h => q x (.inl h)⟩, ⟨p2, fun x h => q x (.inr h)⟩, p3⟩
  · rintro ⟨⟨p1, q1⟩, ⟨p2, q2⟩, p3⟩
    exact ⟨⟨p1, p2, p3⟩, fun x h => h.elim (q1 x) (q2 x)⟩
theorem norm_single {x : Rng} : Norm [x] ↔ x.lo.toNat < x.hi.toNat := by simp [Norm]
theorem norm_nil : Norm [] := ⟨List.Pairwise.nil, by simp⟩
theorem lastR_append (pre : List Rng) (x : Rng) : lastR (pre ++ [x]) = x := by
  unfold lastR
  rw [show (((pre ++ [x]).length : Int) - 1).toNat = pre.length by simp]
  simp [List.getD_eq_getElem?_getD]
theorem set_last (pre : List Rng) (x y : Rng) : (pre ++ [x]).set (((pre ++ [x]).length : Int) - 1).toNat y = pre ++ [y] := by
  rw [show (((pre ++ [x]).length : Int) - 1).toNat = pre.length by simp]
  simp
theorem mergeStep_nil (r : Rng) : mergeStep [] r = [r] := by simp [mergeStep]
theorem mergeStep_append (pre : List Rng) (x r : Rng) : mergeStep (pre ++ [x]) r = if r.lo ≤ x.hi then pre ++ [⟨x.lo, if x.hi < r.hi then r.hi else x.hi⟩] else pre ++ [x] ++ [r] := by
  unfold mergeStep
  rw [lastR_append, set_last]
  by_cases h : r.lo ≤ x.hi
  · rw [if_pos ⟨by simp, h⟩, if_pos h]
  · rw [if_neg (fun q => h q.2), if_neg h]
theorem max_toNat (a b : UInt32) : (if a < b then b else a).toNat = max a.toNat b.toNat := by
  split <;> rename_i h <;> rw [UInt32.lt_iff_toNat_lt] at h <;> omega
/-- One merging: the list stays normal, and contains what it contained and r. -/
theorem mergeStep_ok (pre : List Rng) (x r : Rng) (hn : Norm (pre ++ [x])) (hr : r.lo.toNat < r.hi.toNat) (hle : x.lo.toNat ≤ r.lo.toNat) :
    Norm (mergeStep (pre ++ [x]) r) ∧ (∀ n, Has (mergeStep (pre ++ [x]) r) n ↔ Has (pre ++ [x]) n ∨ Has [r] n) ∧ ∃ pre' x', mergeStep (pre ++ [x]) r = pre' ++ [x'] ∧ x'.lo.toNat ≤ r.lo.toNat := by
  rw [mergeStep_append]
  obtain ⟨n1, n2, n3⟩ := norm_append.1 hn
  have hx := norm_single.1 n2
  by_cases h : r.lo ≤ x.hi
  · rw [if_pos h]
    rw [UInt32.le_iff_toNat_le] at h
    have hm := max_toNat x.hi r.hi
    refine ⟨norm_append.2 ⟨n1, norm_single.2 (by dsimp only; omega), fun a ha b hb => ?_⟩, fun n => ?_, _, _, rfl, by dsimp only; omega⟩
    · simp only [List.mem_singleton] at hb; subst hb; exact n3 a ha x (.head _)
    · simp only [has_append, has_single, hm]
      constructor
      · rintro (q | q)
        · exact .inl (.inl q)
        · by_cases h2 : n < x.hi.toNat
          · exact .inl (.inr ⟨q.1, h2⟩)
          · exact .inr ⟨by omega, by omega⟩
      · rintro ((q | q) | q)
        · exact .inl q
        · exact .inr ⟨q.1, by omega⟩
        · exact .inr ⟨by omega, by omega⟩
  · rw [if_neg h]
    rw [UInt32.le_iff_toNat_le] at h
    refine ⟨norm_append.2 ⟨hn, norm_single.2 hr, fun a ha b hb => ?_⟩, fun n => by rw [has_append], _, _, rfl, Nat.le_refl _⟩
    simp only [List.mem_singleton] at hb; subst hb
    rcases List.mem_append.1 ha with ha | ha
    · have := n3 a ha x (.head _); omega
    · simp only [List.mem_singleton] at ha; subst ha; omega
theorem mergeFold_ok : ∀ (l pre : List Rng) (x : Rng), Norm (pre ++ [x]) → (∀ r ∈ l, r.lo.toNat < r.hi.toNat) → l.Pairwise (fun a b => a.lo.toNat ≤ b.lo.toNat) → (∀ r ∈ l, x.lo.toNat ≤ r.lo.toNat) →
    Norm (l.foldl mergeStep (pre ++ [x])) ∧ ∀ n, Has (l.foldl mergeStep (pre ++ [x])) n ↔ Has (pre ++ [x]) n ∨ Has l n
  | [], pre, x, h, _, _, _ => ⟨h, fun n => by simp [Has.nil]⟩
  | r :: l, pre, x, h, hne, hs, hle => by
    obtain ⟨m1, m2, p', x', e, hx⟩ := mergeStep_ok pre x r h (hne r (.head _)) (hle r (.head _))
    rw [List.pairwise_cons] at hs
    simp only [List.foldl_cons]
    rw [e] at m1 m2 ⊢
    have ih := mergeFold_ok l p' x' m1 (fun q hq => hne q (.tail _ hq)) hs.2 (fun q hq => Nat.le_trans hx (hs.1 q hq))
    refine ⟨ih.1, fun n => ?_⟩
    rw [ih.2 n, m2 n, has_single, or_assoc, ← has_cons]
theorem normal_ok (l : List Rng) : Norm (normalP l) ∧ ∀ n, Has (normalP l) n ↔ Has l n := by
  have hp := sortP_perm swo_cmpR (l.filter neR)
  have hs := sortP_sorted swo_cmpR (l.filter neR)
  have hf : ∀ n, Has (l.filter neR) n ↔ Has l n := fun n =>
    ⟨fun ⟨r, m, q⟩ => ⟨r, (List.mem_filter.1 m).1, q⟩, fun ⟨r, m, q⟩ => ⟨r, List.mem_filter.2 ⟨m, by simp only [neR, decide_eq_true_eq, UInt32.lt_iff_toNat_lt]; omega⟩, q⟩⟩
  have hne : ∀ r ∈ sortP (ltOf cmpR) (l.filter neR), r.lo.toNat < r.hi.toNat := fun r hr => by
    have := (List.mem_filter.1 (hp.mem_iff.1 hr)).2
    simpa only [neR, decide_eq_true_eq, UInt32.lt_iff_toNat_lt] using this
  have hs' : (sortP (ltOf cmpR) (l.filter neR)).Pairwise fun a b => a.lo.toNat ≤ b.lo.toNat := hs.imp fun {a b} h => by
    simp only [ltOf_cmpR, decide_eq_false_iff_not, UInt32.lt_iff_toNat_lt] at h; omega
  unfold normalP
  generalize sortP (ltOf cmpR) (l.filter neR) = s at hp hne hs'
  have e : ∀ n, Has s n ↔ Has l n := fun n => (Has.perm hp).trans (hf n)
  cases s with
  | nil => exact ⟨norm_nil, e⟩
  | cons r s =>
    rw [List.pairwise_cons] at hs'
    simp only [List.foldl_cons, mergeStep_nil]
    have := mergeFold_ok s [] r (norm_single.2 (hne r (.head _))) (fun q hq => hne q (.tail _ hq)) hs'.2 hs'.1
    simp only [List.nil_append] at this
    exact ⟨this.1, fun n => by rw [this.2 n, ← e n, has_single, has_cons]⟩
theorem normal_id {l : List Rng} (h : Norm l) : normalP l = l := Norm.unique _ _ (normal_ok l).1 h (normal_ok l).2
end Go.HL
namespace Go.Proofs
open Go.Shelf
def Tryz.sortRng_ren : Go.Shelf.Ren := ⟨fun | 6 => 85 | 15 => 75 | 14 => 114 | 28 => 101 | 29 => 102 | 20 => 138 | 21 => 139 | 22 => 140 | 23 => 141 | 24 => 142 | 25 => 143 | 26 => 144 | 27 => 145 | 46 => 152 | 47 => 120 | 48 => 121 | 49 => 153 | 50 => 154 | 57 => 155 | n => n, fun | 22 => 47 | 24 => 80 | 25 => 106 | 3 => 3 | 39 => 97 | 0 => 0 | 53 => 33 | 55 => 81 | 4 => 4 | 46 => 112 | 45 => 111 | 50 => 116 | 5 => 5 | 9 => 9 | 66 => 131 | 70 => 135 | 76 => 146 | 77 => 147 | n => n, fun | n => n⟩
theorem Tryz.sortRng : Go.Proofs.SlLaysF0.n6 Tryz.prog Tryz.sortRng_ren := {
  mixed := by kernel_rfl
  f6 := ⟨Tryz.f85.name, by decide, Tryz.func85.trans (congrArg some (by kernel_rfl))⟩
  f14 := ⟨Tryz.f114.name, by decide, Tryz.func114.trans (congrArg some (by kernel_rfl))⟩
  f15 := Tryz.func75.trans (congrArg some (by kernel_rfl))
  f20 := ⟨Tryz.f138.name, by decide, Tryz.func138.trans (congrArg some (by kernel_rfl))⟩
  f21 := ⟨Tryz.f139.name, by decide, Tryz.func139.trans (congrArg some (by kernel_rfl))⟩
  f22 := ⟨Tryz.f140.name, by decide, Tryz.func140.trans (congrArg some (by kernel_rfl))⟩
  f23 := ⟨Tryz.f141.name, by decide, Tryz.func141.trans (congrArg some (by kernel_rfl))⟩
  f24 := ⟨Tryz.f142.name, by decide, Tryz.func142.trans (congrArg some (by kernel_rfl))⟩
  f25 := ⟨Tryz.f143.name, by decide, Tryz.func143.trans (congrArg some (by kernel_rfl))⟩
  f26 := ⟨Tryz.f144.name, by decide, Tryz.func144.trans (congrArg some (by kernel_rfl))⟩
  f27 := ⟨Tryz.f145.name, by decide, Tryz.func145.trans (congrArg some (by kernel_rfl))⟩
  f28 := Tryz.func101.trans (congrArg some (by kernel_rfl))
  f29 := Tryz.func102.trans (congrArg some (by kernel_rfl))
  f46 := ⟨Tryz.f152.name, by decide, Tryz.func152.trans (congrArg some (by kernel_rfl))⟩
  f47 := Tryz.func120.trans (congrArg some (by kernel_rfl))
  f48 := Tryz.func121.trans (congrArg some (by kernel_rfl))
  f49 := ⟨Tryz.f153.name, by decide, Tryz.func153.trans (congrArg some (by kernel_rfl))⟩
  f50 := ⟨Tryz.f154.name, by decide, Tryz.func154.trans (congrArg some (by kernel_rfl))⟩
  f57 := ⟨Tryz.f155.name, by decide, Tryz.func155.trans (congrArg some (by kernel_rfl))⟩
  t0 := Tryz.underlying0
  a0 := Tryz.isAgg0
  z0 := Tryz.sizeOf0
  v0 := Tryz.zeroValue0
  t3 := Tryz.underlying3
  a3 := Tryz.isAgg3
  z3 := Tryz.sizeOf3
  v3 := Tryz.zeroValue3
  t4 := Tryz.underlying4
  a4 := Tryz.isAgg4
  z4 := Tryz.sizeOf4
  v4 := Tryz.zeroValue4
  t5 := Tryz.underlying5
  a5 := Tryz.isAgg5
  z5 := Tryz.sizeOf5
  v5 := Tryz.zeroValue5
  t9 := Tryz.underlying9
  a9 := Tryz.isAgg9
  z9 := Tryz.sizeOf9
  v9 := Tryz.zeroValue9
  t22 := Tryz.underlying47
  a22 := Tryz.isAgg47
  z22 := Tryz.sizeOf47
  v22 := Tryz.zeroValue47
  t25 := Tryz.underlying106
  a25 := Tryz.isAgg106
  z25 := Tryz.sizeOf106
  v25 := Tryz.zeroValue106
  t39 := Tryz.underlying97
  a39 := Tryz.isAgg97
  z39 := Tryz.sizeOf97
  v39 := Tryz.zeroValue97
  t45 := Tryz.underlying111
  a45 := Tryz.isAgg111
  z45 := Tryz.sizeOf111
  v45 := Tryz.zeroValue111
  t46 := Tryz.underlying112
  a46 := Tryz.isAgg112
  z46 := Tryz.sizeOf112
  v46 := Tryz.zeroValue112
  t50 := Tryz.underlying116
  a50 := Tryz.isAgg116
  z50 := Tryz.sizeOf116
  v50 := Tryz.zeroValue116
  t53 := Tryz.underlying33
  a53 := Tryz.isAgg33
  z53 := Tryz.sizeOf33
  v53 := Tryz.zeroValue33
  t55 := Tryz.underlying81
  a55 := Tryz.isAgg81
  z55 := Tryz.sizeOf81
  v55 := Tryz.zeroValue81
  t66 := Tryz.underlying131
  a66 := Tryz.isAgg131
  z66 := Tryz.sizeOf131
  v66 := Tryz.zeroValue131
  t70 := Tryz.underlying135
  a70 := Tryz.isAgg135
  z70 := Tryz.sizeOf135
  v70 := Tryz.zeroValue135
  t76 := Tryz.underlying146
  a76 := Tryz.isAgg146
  z76 := Tryz.sizeOf146
  v76 := Tryz.zeroValue146
  t77 := Tryz.underlying147
  a77 := Tryz.isAgg147
  z77 := Tryz.sizeOf147
  v77 := Tryz.zeroValue147 }
def Tryz.sortPair_ren : Go.Shelf.Ren := ⟨fun | 6 => 52 | 15 => 75 | 14 => 83 | 28 => 101 | 29 => 102 | 20 => 105 | 21 => 106 | 22 => 107 | 23 => 108 | 24 => 109 | 25 => 110 | 26 => 111 | 27 => 112 | 46 => 124 | 47 => 120 | 48 => 121 | 49 => 125 | 50 => 126 | 57 => 151 | n => n, fun | 22 => 41 | 24 => 58 | 25 => 77 | 3 => 3 | 39 => 97 | 0 => 0 | 53 => 33 | 55 => 81 | 4 => 4 | 46 => 112 | 45 => 111 | 50 => 116 | 5 => 5 | 9 => 9 | 66 => 131 | 70 => 135 | 76 => 146 | 77 => 147 | n => n, fun | n => n⟩
theorem Tryz.sortPair : Go.Proofs.SlLaysF0.n6 Tryz.prog Tryz.sortPair_ren := {
  mixed := by kernel_rfl
  f6 := ⟨Tryz.f52.name, by decide, Tryz.func52.trans (congrArg some (by kernel_rfl))⟩
  f14 := ⟨Tryz.f83.name, by decide, Tryz.func83.trans (congrArg some (by kernel_rfl))⟩
  f15 := Tryz.func75.trans (congrArg some (by kernel_rfl))
  f20 := ⟨Tryz.f105.name, by decide, Tryz.func105.trans (congrArg some (by kernel_rfl))⟩
  f21 := ⟨Tryz.f106.name, by decide, Tryz.func106.trans (congrArg some (by kernel_rfl))⟩
  f22 := ⟨Tryz.f107.name, by decide, Tryz.func107.trans (congrArg some (by kernel_rfl))⟩
  f23 := ⟨Tryz.f108.name, by decide, Tryz.func108.trans (congrArg some (by kernel_rfl))⟩
  f24 := ⟨Tryz.f109.name, by decide, Tryz.func109.trans (congrArg some (by kernel_rfl))⟩
  f25 := ⟨Tryz.f110.name, by decide, Tryz.func110.trans (congrArg some (by kernel_rfl))⟩
  f26 := ⟨Tryz.f111.name, by decide, Tryz.func111.trans (congrArg some (by kernel_rfl))⟩
  f27 := ⟨Tryz.f112.name, by decide, Tryz.func112.trans (congrArg some (by kernel_rfl))⟩
  f28 := Tryz.func101.trans (congrArg some (by kernel_rfl))
  f29 := Tryz.func102.trans (congrArg some (by kernel_rfl))
  f46 := ⟨Tryz.f124.name, by decide, Tryz.func124.trans (congrArg some (by kernel_rfl))⟩
  f47 := Tryz.func120.trans (congrArg some (by kernel_rfl))
  f48 := Tryz.func121.trans (congrArg some (by kernel_rfl))
  f49 := ⟨Tryz.f125.name, by decide, Tryz.func125.trans (congrArg some (by kernel_rfl))⟩
  f50 := ⟨Tryz.f126.name, by decide, Tryz.func126.trans (congrArg some (by kernel_rfl))⟩
  f57 := ⟨Tryz.f151.name, by decide, Tryz.func151.trans (congrArg some (by kernel_rfl))⟩
  t0 := Tryz.underlying0
  a0 := Tryz.isAgg0
  z0 := Tryz.sizeOf0
  v0 := Tryz.zeroValue0
  t3 := Tryz.underlying3
  a3 := Tryz.isAgg3
  z3 := Tryz.sizeOf3
  v3 := Tryz.zeroValue3
  t4 := Tryz.underlying4
  a4 := Tryz.isAgg4
  z4 := Tryz.sizeOf4
  v4 := Tryz.zeroValue4
  t5 := Tryz.underlying5
  a5 := Tryz.isAgg5
  z5 := Tryz.sizeOf5
  v5 := Tryz.zeroValue5
  t9 := Tryz.underlying9
  a9 := Tryz.isAgg9
  z9 := Tryz.sizeOf9
  v9 := Tryz.zeroValue9
  t22 := Tryz.underlying41
  a22 := Tryz.isAgg41
  z22 := Tryz.sizeOf41
  v22 := Tryz.zeroValue41
  t25 := Tryz.underlying77
  a25 := Tryz.isAgg77
  z25 := Tryz.sizeOf77
  v25 := Tryz.zeroValue77
  t39 := Tryz.underlying97
  a39 := Tryz.isAgg97
  z39 := Tryz.sizeOf97
  v39 := Tryz.zeroValue97
  t45 := Tryz.underlying111
  a45 := Tryz.isAgg111
  z45 := Tryz.sizeOf111
  v45 := Tryz.zeroValue111
  t46 := Tryz.underlying112
  a46 := Tryz.isAgg112
  z46 := Tryz.sizeOf112
  v46 := Tryz.zeroValue112
  t50 := Tryz.underlying116
  a50 := Tryz.isAgg116
  z50 := Tryz.sizeOf116
  v50 := Tryz.zeroValue116
  t53 := Tryz.underlying33
  a53 := Tryz.isAgg33
  z53 := Tryz.sizeOf33
  v53 := Tryz.zeroValue33
  t55 := Tryz.underlying81
  a55 := Tryz.isAgg81
  z55 := Tryz.sizeOf81
  v55 := Tryz.zeroValue81
  t66 := Tryz.underlying131
  a66 := Tryz.isAgg131
  z66 := Tryz.sizeOf131
  v66 := Tryz.zeroValue131
  t70 := Tryz.underlying135
  a70 := Tryz.isAgg135
  z70 := Tryz.sizeOf135
  v70 := Tryz.zeroValue135
  t76 := Tryz.underlying146
  a76 := Tryz.isAgg146
  z76 := Tryz.sizeOf146
  v76 := Tryz.zeroValue146
  t77 := Tryz.underlying147
  a77 := Tryz.isAgg147
  z77 := Tryz.sizeOf147
  v77 := Tryz.zeroValue147 }
def Tryz.sortIns_ren : Go.Shelf.Ren := ⟨fun | 6 => 43 | 15 => 75 | 14 => 74 | 28 => 101 | 29 => 102 | 20 => 92 | 21 => 94 | 22 => 95 | 23 => 96 | 24 => 97 | 25 => 98 | 26 => 99 | 27 => 100 | 46 => 119 | 47 => 120 | 48 => 121 | 49 => 122 | 50 => 123 | 57 => 150 | n => n, fun | 22 => 22 | 24 => 35 | 25 => 67 | 3 => 3 | 39 => 97 | 0 => 0 | 53 => 33 | 55 => 81 | 4 => 4 | 46 => 112 | 45 => 111 | 50 => 116 | 5 => 5 | 9 => 9 | 66 => 131 | 70 => 135 | 76 => 146 | 77 => 147 | n => n, fun | n => n⟩
theorem Tryz.sortIns : Go.Proofs.SlLaysF0.n6 Tryz.prog Tryz.sortIns_ren := {
  mixed := by kernel_rfl
  f6 := ⟨Tryz.f43.name, by decide, Tryz.func43.trans (congrArg some (by kernel_rfl))⟩
  f14 := ⟨Tryz.f74.name, by decide, Tryz.func74.trans (congrArg some (by kernel_rfl))⟩
  f15 := Tryz.func75.trans (congrArg some (by kernel_rfl))
  f20 := ⟨Tryz.f92.name, by decide, Tryz.func92.trans (congrArg some (by kernel_rfl))⟩
  f21 := ⟨Tryz.f94.name, by decide, Tryz.func94.trans (congrArg some (by kernel_rfl))⟩
  f22 := ⟨Tryz.f95.name, by decide, Tryz.func95.trans (congrArg some (by kernel_rfl))⟩
  f23 := ⟨Tryz.f96.name, by decide, Tryz.func96.trans (congrArg some (by kernel_rfl))⟩
  f24 := ⟨Tryz.f97.name, by decide, Tryz.func97.trans (congrArg some (by kernel_rfl))⟩
  f25 := ⟨Tryz.f98.name, by decide, Tryz.func98.trans (congrArg some (by kernel_rfl))⟩
  f26 := ⟨Tryz.f99.name, by decide, Tryz.func99.trans (congrArg some (by kernel_rfl))⟩
  f27 := ⟨Tryz.f100.name, by decide, Tryz.func100.trans (congrArg some (by kernel_rfl))⟩
  f28 := Tryz.func101.trans (congrArg some (by kernel_rfl))
  f29 := Tryz.func102.trans (congrArg some (by kernel_rfl))
  f46 := ⟨Tryz.f119.name, by decide, Tryz.func119.trans (congrArg some (by kernel_rfl))⟩
  f47 := Tryz.func120.trans (congrArg some (by kernel_rfl))
  f48 := Tryz.func121.trans (congrArg some (by kernel_rfl))
  f49 := ⟨Tryz.f122.name, by decide, Tryz.func122.trans (congrArg some (by kernel_rfl))⟩
  f50 := ⟨Tryz.f123.name, by decide, Tryz.func123.trans (congrArg some (by kernel_rfl))⟩
  f57 := ⟨Tryz.f150.name, by decide, Tryz.func150.trans (congrArg some (by kernel_rfl))⟩
  t0 := Tryz.underlying0
  a0 := Tryz.isAgg0
  z0 := Tryz.sizeOf0
  v0 := Tryz.zeroValue0
  t3 := Tryz.underlying3
  a3 := Tryz.isAgg3
  z3 := Tryz.sizeOf3
  v3 := Tryz.zeroValue3
  t4 := Tryz.underlying4
  a4 := Tryz.isAgg4
  z4 := Tryz.sizeOf4
  v4 := Tryz.zeroValue4
  t5 := Tryz.underlying5
  a5 := Tryz.isAgg5
  z5 := Tryz.sizeOf5
  v5 := Tryz.zeroValue5
  t9 := Tryz.underlying9
  a9 := Tryz.isAgg9
  z9 := Tryz.sizeOf9
  v9 := Tryz.zeroValue9
  t22 := Tryz.underlying22
  a22 := Tryz.isAgg22
  z22 := Tryz.sizeOf22
  v22 := Tryz.zeroValue22
  t25 := Tryz.underlying67
  a25 := Tryz.isAgg67
  z25 := Tryz.sizeOf67
  v25 := Tryz.zeroValue67
  t39 := Tryz.underlying97
  a39 := Tryz.isAgg97
  z39 := Tryz.sizeOf97
  v39 := Tryz.zeroValue97
  t45 := Tryz.underlying111
  a45 := Tryz.isAgg111
  z45 := Tryz.sizeOf111
  v45 := Tryz.zeroValue111
  t46 := Tryz.underlying112
  a46 := Tryz.isAgg112
  z46 := Tryz.sizeOf112
  v46 := Tryz.zeroValue112
  t50 := Tryz.underlying116
  a50 := Tryz.isAgg116
  z50 := Tryz.sizeOf116
  v50 := Tryz.zeroValue116
  t53 := Tryz.underlying33
  a53 := Tryz.isAgg33
  z53 := Tryz.sizeOf33
  v53 := Tryz.zeroValue33
  t55 := Tryz.underlying81
  a55 := Tryz.isAgg81
  z55 := Tryz.sizeOf81
  v55 := Tryz.zeroValue81
  t66 := Tryz.underlying131
  a66 := Tryz.isAgg131
  z66 := Tryz.sizeOf131
  v66 := Tryz.zeroValue131
  t70 := Tryz.underlying135
  a70 := Tryz.isAgg135
  z70 := Tryz.sizeOf135
  v70 := Tryz.zeroValue135
  t76 := Tryz.underlying146
  a76 := Tryz.isAgg146
  z76 := Tryz.sizeOf146
  v76 := Tryz.zeroValue146
  t77 := Tryz.underlying147
  a77 := Tryz.isAgg147
  z77 := Tryz.sizeOf147
  v77 := Tryz.zeroValue147 }
end Go.Proofs
namespace Go.Proofs.YtmhbfelnjkhepaaGreat
open Go Go.HL Go.RowKit
set_option maxRecDepth 100000 in
set_option maxHeartbeats 2000000 in
theorem insertionSort_nil_rng (w : World) (g : FuncId) (cb : Array Value) :
    Calls Tryz.prog 138 #[.slice none 0 0, .int .i64 0, .int .i64 0, .func (.func g) #[] cb] w (fun e w' => e = .returned (.tuple #[]) ∧ Ext w w') := by
  refine enter Tryz.func138 rfl Tryz.ntmps138 rfl ?_
  refine Tr.seq ?_
  refine Tr.region ?_
  refine Tr.q (QS.move rfl) rfl ?_
  refine Tr.q (QS.addI rfl rfl (by omega)) rfl ?_
  refine Tr.q (QS.assign rfl) rfl ?_
  refine Tr.nil ?_
  refine Tr.thenN ?_
  refine Tr.block ?_
  refine Tr.loop (ι := Unit) (fun _u => True) (fun _ => _) (fun _u => []) (fun _u => [(8, .int .i64 1)]) (fun _u => 0) () trivial (.cons (by first | rfl | exact lookI rfl (by omega) | exact lookI rfl (by simp) | exact lookB rfl (by simp)) Front.nil) (by repeat' (first | exact Pick.nil _ | exact Del.here _ | apply Pick.cons | apply Del.there)) rfl (fun _u hi m hm => ?_)
  replace hi : True := hi
  replace hm : m = 0 := hm
  change Tr _ _ [] ([(8, .int .i64 1)] ++ _) _
  refine Tr.seq ?_
  refine Tr.seq ?_
  refine Tr.region ?_
  refine Tr.q (QS.move rfl) rfl ?_
  refine Tr.q (QS.move rfl) rfl ?_
  refine Tr.q (QS.lss rfl rfl) rfl ?_
  refine Tr.nil ?_
  refine Tr.thenN ?_
  refine Tr.cond rfl (fun h1 => ?_) (fun h1 => ?_)
  · try simp only [Bool.and_eq_true, Bool.or_eq_true, Bool.not_eq_true', Bool.not_eq_false', decide_eq_true_eq, decide_eq_false_iff_not, Bool.and_eq_false_iff, Bool.or_eq_false_iff, ne_eq, Decidable.not_not] at h1
    first | contradiction | (exfalso; omega) | simp_all
  · try simp only [Bool.and_eq_true, Bool.or_eq_true, Bool.not_eq_true', Bool.not_eq_false', decide_eq_true_eq, decide_eq_false_iff_not, Bool.and_eq_false_iff, Bool.or_eq_false_iff, ne_eq, Decidable.not_not] at h1
    refine Tr.exit ?_
    refine Tr.thenE ?_
    refine Tr.thenE ?_
    refine Tr.inHit ?_
    refine Tr.ret0n Tryz.results138 (fun w' hw => ?_)
    exact ⟨rfl, hw.below (Bg.le.refl _)⟩
set_option maxRecDepth 100000 in
set_option maxHeartbeats 2000000 in
theorem pdqsort_nil_rng (w : World) (g : FuncId) (cb : Array Value) :
    Calls Tryz.prog 114 #[.slice none 0 0, .int .i64 0, .int .i64 0, .int .i64 0, .func (.func g) #[] cb] w (fun e w' => e = .returned (.tuple #[]) ∧ Ext w w') := by
  refine enter Tryz.func114 rfl Tryz.ntmps114 rfl ?_
  refine Tr.seq ?_
  refine Tr.region ?_
  refine Tr.q (QS.assign rfl) rfl ?_
  refine Tr.nil ?_
  refine Tr.thenN ?_
  refine Tr.seq ?_
  refine Tr.region ?_
  refine Tr.q (QS.assign rfl) rfl ?_
  refine Tr.nil ?_
  refine Tr.thenN ?_
  refine Tr.block ?_
  refine Tr.loop (ι := Unit) (fun _u => True) (fun _ => _) (fun _u => []) (fun _u => []) (fun _u => 0) () trivial Front.nil (by repeat' (first | exact Pick.nil _ | exact Del.here _ | apply Pick.cons | apply Del.there)) rfl (fun _u hi m hm => ?_)
  replace hi : True := hi
  replace hm : m = 0 := hm
  change Tr _ _ [] ([] ++ _) _
  refine Tr.block ?_
  refine Tr.seq ?_
  refine Tr.region ?_
  refine Tr.q (QS.move rfl) rfl ?_
  refine Tr.q (QS.move rfl) rfl ?_
  refine Tr.q (QS.subI rfl rfl (by omega)) rfl ?_
  refine Tr.q (QS.assign rfl) rfl ?_
  refine Tr.nil ?_
  refine Tr.thenN ?_
  refine Tr.seq ?_
  refine Tr.seq ?_
  refine Tr.region ?_
  refine Tr.q (QS.move rfl) rfl ?_
  refine Tr.q (QS.leq rfl rfl) rfl ?_
  refine Tr.nil ?_
  refine Tr.thenN ?_
  refine Tr.cond rfl (fun h1 => ?_) (fun h1 => ?_)
  · try simp only [Bool.and_eq_true, Bool.or_eq_true, Bool.not_eq_true', Bool.not_eq_false', decide_eq_true_eq, decide_eq_false_iff_not, Bool.and_eq_false_iff, Bool.or_eq_false_iff, ne_eq, Decidable.not_not] at h1
    refine Tr.seq ?_
    refine Tr.region ?_
    refine Tr.q (QS.move rfl) rfl ?_
    refine Tr.q (QS.move rfl) rfl ?_
    refine Tr.q (QS.move rfl) rfl ?_
    refine Tr.q (QS.move rfl) rfl ?_
    refine Tr.q (QS.call rfl Tryz.call138 (fun w hw => insertionSort_nil_rng w g cb)) rfl ?_
    refine Tr.nil ?_
    refine Tr.thenN ?_
    refine Tr.ret ?_
    refine Tr.thenR ?_
    refine Tr.inR ?_
    refine Tr.thenR ?_
    refine Tr.inR ?_
    refine Tr.ret0 Tryz.results114 (fun w' hw => ?_)
    exact ⟨rfl, hw.below (Bg.le.refl _)⟩
  · try simp only [Bool.and_eq_true, Bool.or_eq_true, Bool.not_eq_true', Bool.not_eq_false', decide_eq_true_eq, decide_eq_false_iff_not, Bool.and_eq_false_iff, Bool.or_eq_false_iff, ne_eq, Decidable.not_not] at h1
    first | contradiction | (exfalso; omega) | simp_all
set_option maxRecDepth 100000 in
set_option maxHeartbeats 2000000 in
theorem sortFunc_nil_rng (w : World) (g : FuncId) (cb : Array Value) :
    Calls Tryz.prog 85 #[.slice none 0 0, .func (.func g) #[] cb] w (fun e w' => e = .returned (.tuple #[]) ∧ Ext w w') := by
  refine enter Tryz.func85 rfl Tryz.ntmps85 rfl ?_
  refine Tr.seq ?_
  refine Tr.region ?_
  refine Tr.q (QS.move rfl) rfl ?_
  refine Tr.q (QS.lenNil rfl Tryz.underlying47) rfl ?_
  refine Tr.q (QS.assign rfl) rfl ?_
  refine Tr.nil ?_
  refine Tr.thenN ?_
  refine Tr.region ?_
  refine Tr.q (QS.move rfl) rfl ?_
  refine Tr.q (QS.move rfl) rfl ?_
  refine Tr.q (QS.move rfl) rfl ?_
  refine Tr.q (QS.cvtIn rfl Tryz.underlying3 Tryz.underlying97 (IntWalk.u64_in _ (by omega))) rfl ?_
  refine Tr.q (QS.call rfl Tryz.call75 (fun w hw => (Go.Proofs.Any.bits_Len (Go.Proofs.SlLaysF0.n15.bits (P := Tryz.prog) (ρ := Tryz.sortRng_ren) { Tryz.sortRng with }) 0 w (by decide) (by decide)).mono (fun e w' h => ⟨h.1, by rw [h.2]; exact Ext.refl _⟩))) rfl ?_
  refine Tr.q (QS.move rfl) rfl ?_
  refine Tr.q (QS.call rfl Tryz.call114 (fun w hw => pdqsort_nil_rng w g cb)) rfl ?_
  refine Tr.nil ?_
  refine Tr.ret0n Tryz.results85 (fun w' hw => ?_)
  exact ⟨rfl, hw.below (Bg.le.refl _)⟩
set_option maxRecDepth 100000 in
set_option maxHeartbeats 2000000 in
theorem normal1_any (x y : Rng) (w : World) :
    Calls Tryz.prog 86 #[.agg (encRng.enc x).toArray, .agg (encRng.enc y).toArray] w (fun e w' => e = .returned (.int .i64 (cmpR x y)) ∧ Ext w w') := by
  refine enter Tryz.func86 rfl Tryz.ntmps86 rfl ?_
  refine Tr.seq ?_
  refine Tr.region ?_
  refine Tr.box rfl rfl rfl (fun b1 => ?_)
  refine Tr.box rfl rfl rfl (fun b2 => ?_)
  refine Tr.q (QS.assign rfl) rfl ?_
  refine Tr.nil ?_
  refine Tr.thenN ?_
  refine Tr.seq ?_
  refine Tr.block ?_
  refine Tr.seq ?_
  refine Tr.region ?_
  refine Tr.q (QS.fieldAddr (off := 0) (ft := 33) rfl Tryz.underlying80 rfl rfl Tryz.sizeOf33 (by decide)) rfl ?_
  refine Tr.q (QS.loadV rfl (by repeat (first | exact List.Mem.head _ | apply List.Mem.tail)) Tryz.isAgg33 (by rfl)) rfl ?_
  refine Tr.q (QS.fieldAddr (off := 0) (ft := 33) rfl Tryz.underlying80 rfl rfl Tryz.sizeOf33 (by decide)) rfl ?_
  refine Tr.q (QS.loadV rfl (by repeat (first | exact List.Mem.head _ | apply List.Mem.tail)) Tryz.isAgg33 (by rfl)) rfl ?_
  refine Tr.q (QS.lss32 rfl rfl) rfl ?_
  refine Tr.q (QS.assign rfl) rfl ?_
  refine Tr.nil ?_
  refine Tr.thenN ?_
  refine Tr.cond rfl (fun h3 => ?_) (fun h3 => ?_)
  · try simp only [Bool.and_eq_true, Bool.or_eq_true, Bool.not_eq_true', Bool.not_eq_false', decide_eq_true_eq, decide_eq_false_iff_not, Bool.and_eq_false_iff, Bool.or_eq_false_iff, ne_eq, Decidable.not_not] at h3
    refine Tr.seq ?_
    refine Tr.region ?_
    refine Tr.q (QS.assign rfl) rfl ?_
    refine Tr.nil ?_
    refine Tr.thenN ?_
    refine Tr.ret ?_
    refine Tr.inR ?_
    refine Tr.thenR ?_
    refine Tr.ret1 Tryz.results86 rfl (fun w' hw => ?_)
    exact ⟨by unfold cmpR; rw [if_pos (by assumption)], hw.below (Bg.le.refl _)⟩
  · try simp only [Bool.and_eq_true, Bool.or_eq_true, Bool.not_eq_true', Bool.not_eq_false', decide_eq_true_eq, decide_eq_false_iff_not, Bool.and_eq_false_iff, Bool.or_eq_false_iff, ne_eq, Decidable.not_not] at h3
    refine Tr.seq ?_
    refine Tr.region ?_
    refine Tr.q (QS.fieldAddr (off := 0) (ft := 33) rfl Tryz.underlying80 rfl rfl Tryz.sizeOf33 (by decide)) rfl ?_
    refine Tr.q (QS.loadV rfl (by repeat (first | exact List.Mem.head _ | apply List.Mem.tail)) Tryz.isAgg33 (by rfl)) rfl ?_
    refine Tr.q (QS.fieldAddr (off := 0) (ft := 33) rfl Tryz.underlying80 rfl rfl Tryz.sizeOf33 (by decide)) rfl ?_
    refine Tr.q (QS.loadV rfl (by repeat (first | exact List.Mem.head _ | apply List.Mem.tail)) Tryz.isAgg33 (by rfl)) rfl ?_
    refine Tr.q (QS.gtr32 rfl rfl) rfl ?_
    refine Tr.q (QS.assign rfl) rfl ?_
    refine Tr.nil ?_
    refine Tr.thenN ?_
    refine Tr.cond rfl (fun h4 => ?_) (fun h4 => ?_)
    · try simp only [Bool.and_eq_true, Bool.or_eq_true, Bool.not_eq_true', Bool.not_eq_false', decide_eq_true_eq, decide_eq_false_iff_not, Bool.and_eq_false_iff, Bool.or_eq_false_iff, ne_eq, Decidable.not_not] at h4
      refine Tr.seq ?_
      refine Tr.region ?_
      refine Tr.q (QS.assign rfl) rfl ?_
      refine Tr.nil ?_
      refine Tr.thenN ?_
      refine Tr.ret ?_
      refine Tr.inR ?_
      refine Tr.thenR ?_
      refine Tr.ret1 Tryz.results86 rfl (fun w' hw => ?_)
      exact ⟨by unfold cmpR; rw [if_neg (by assumption), if_pos (by assumption)], hw.below (Bg.le.refl _)⟩
    · try simp only [Bool.and_eq_true, Bool.or_eq_true, Bool.not_eq_true', Bool.not_eq_false', decide_eq_true_eq, decide_eq_false_iff_not, Bool.and_eq_false_iff, Bool.or_eq_false_iff, ne_eq, Decidable.not_not] at h4
      refine Tr.skip ?_
      refine Tr.inN ?_
      refine Tr.thenN ?_
      refine Tr.seq ?_
      refine Tr.region ?_
      refine Tr.q (QS.assign rfl) rfl ?_
      refine Tr.nil ?_
      refine Tr.thenN ?_
      refine Tr.ret ?_
      refine Tr.ret1 Tryz.results86 rfl (fun w' hw => ?_)
      exact ⟨by unfold cmpR; rw [if_neg (by assumption), if_neg (by assumption)], hw.below (Bg.le.refl _)⟩
set_option maxRecDepth 100000 in
set_option maxHeartbeats 2000000 in
theorem normal_any (l : List Rng) (V : Value) (w : World) (hV : Sl (hp w) encRng l V) (hb : l.length ≤ 1000000) :
    Calls Tryz.prog 59 #[V] w (fun e w' => ∃ V', e = .returned V' ∧ Ext w w' ∧ NewRow w w' 80 encRng (normalP l) V') := by
  have hV' : Sl (Bg.of w).blk encRng l V := hV
  refine enter Tryz.func59 rfl Tryz.ntmps59 rfl ?_
  refine Tr.seq ?_
  refine Tr.region ?_
  refine Tr.q (QS.assign rfl) rfl ?_
  refine Tr.nil ?_
  refine Tr.thenN ?_
  refine Tr.seq ?_
  refine Tr.region ?_
  refine Tr.q (QS.assign rfl) rfl ?_
  refine Tr.nil ?_
  refine Tr.thenN ?_
  refine Tr.seq ?_
  refine Tr.seq ?_
  refine Tr.region ?_
  refine Tr.q (QS.move rfl) rfl ?_
  refine Tr.q (QS.len rfl (by assumption) Tryz.underlying47) rfl ?_
  refine Tr.q (QS.move rfl) rfl ?_
  refine Tr.nil ?_
  refine Tr.thenN ?_
  refine Tr.block ?_
  refine Tr.ownNil 80 encRng ?_
  refine Tr.loop (ι := Nat × Value) (fun ⟨k, V'⟩ => k ≤ l.length) (fun _ => _) (fun ⟨k, V'⟩ => [rowE V' 80 encRng ((l.take k).filter neR)]) (fun ⟨k, V'⟩ => [(12, .int .i64 (k : Nat)), (3, V')]) (fun ⟨k, V'⟩ => l.length - k) (0, _) (Nat.zero_le _) (.cons (by first | rfl | exact lookI rfl (by omega) | exact lookI rfl (by simp) | exact lookB rfl (by simp)) (.cons (by first | rfl | exact lookI rfl (by omega) | exact lookI rfl (by simp) | exact lookB rfl (by simp)) Front.nil)) (by repeat' (first | exact Pick.nil _ | exact Del.here _ | apply Pick.cons | apply Del.there)) rfl (fun i hi m hm => ?_)
  obtain ⟨k, V'⟩ := i
  replace hi : k ≤ l.length := hi
  replace hm : m = l.length - k := hm
  change Tr _ _ [rowE V' 80 encRng ((l.take k).filter neR)] ([(12, .int .i64 (k : Nat)), (3, V')] ++ _) _
  have hfl := List.length_filter_le neR (l.take k)
  simp only [List.length_take] at hfl
  refine Tr.seq ?_
  refine Tr.region ?_
  refine Tr.q (QS.lss rfl rfl) rfl ?_
  refine Tr.nil ?_
  refine Tr.thenN ?_
  refine Tr.seq ?_
  refine Tr.cond rfl (fun h1 => ?_) (fun h1 => ?_)
  · try simp only [Bool.and_eq_true, Bool.or_eq_true, Bool.not_eq_true', Bool.not_eq_false', decide_eq_true_eq, decide_eq_false_iff_not, Bool.and_eq_false_iff, Bool.or_eq_false_iff, ne_eq, Decidable.not_not] at h1
    refine Tr.skip ?_
    refine Tr.thenN ?_
    refine Tr.seq ?_
    refine Tr.block ?_
    refine Tr.seq ?_
    refine Tr.region ?_
    refine Tr.q (QS.idxN rfl rfl (by assumption) Tryz.underlying47 Tryz.sizeOf80 (by rfl) (by omega)) rfl ?_
    refine Tr.q (QS.elA rfl (by assumption) Tryz.isAgg80 Tryz.sizeOf80 (by rfl) (by omega)) rfl ?_
    refine Tr.alloc Tryz.zeroValue80 rfl rfl (fun b2 => ?_)
    refine Tr.storeW rfl rfl Tryz.sizeOf80 (by repeat (first | exact Put.here _ | apply Put.there)) (by rfl) (by rfl) (by first | exact List.all_eq_true.1 rfl | exact Enc.one _ _ | exact Enc.one encRng _ | (intro u hu; simp [Value.cells] at hu; simp_all [Value.oneCell'])) rfl ?_
    refine Tr.nil ?_
    refine Tr.thenN ?_
    refine Tr.seq ?_
    refine Tr.region ?_
    refine Tr.q (QS.fieldAddr (off := 0) (ft := 33) rfl Tryz.underlying80 rfl rfl Tryz.sizeOf33 (by decide)) rfl ?_
    refine Tr.q (QS.loadV rfl (by repeat (first | exact List.Mem.head _ | apply List.Mem.tail)) Tryz.isAgg33 (by rfl)) rfl ?_
    refine Tr.q (QS.fieldAddr (off := 1) (ft := 33) rfl Tryz.underlying80 rfl rfl Tryz.sizeOf33 (by decide)) rfl ?_
    refine Tr.q (QS.loadV rfl (by repeat (first | exact List.Mem.head _ | apply List.Mem.tail)) Tryz.isAgg33 (by rfl)) rfl ?_
    refine Tr.q (QS.lss32 rfl rfl) rfl ?_
    refine Tr.nil ?_
    refine Tr.thenN ?_
    refine Tr.cond rfl (fun h3 => ?_) (fun h3 => ?_)
    · try simp only [Bool.and_eq_true, Bool.or_eq_true, Bool.not_eq_true', Bool.not_eq_false', decide_eq_true_eq, decide_eq_false_iff_not, Bool.and_eq_false_iff, Bool.or_eq_false_iff, ne_eq, Decidable.not_not] at h3
      refine Tr.region ?_
      refine Tr.q (QS.move rfl) rfl ?_
      refine Tr.q (QS.loadVW rfl (by repeat (first | exact List.Mem.head _ | apply List.Mem.tail)) Tryz.isAgg80 Tryz.sizeOf80 (by rfl)) rfl ?_
      refine Tr.lit1 (E := encRng) _ rfl rfl Tryz.underlying47 Tryz.sizeOf80 Tryz.zeroValue80 (by rfl) (by rfl) rfl (fun V4 => ?_)
      refine Tr.append1 rfl rfl (by repeat (first | exact Del.here _ | apply Del.there)) (by repeat (first | exact Del.here _ | apply Del.there)) Tryz.underlying47 HLF.info80 (by rfl) (by rfl) (by (try simp only [List.length_cons, List.length_nil, List.length_append, List.length_take]); omega) (by unfold maxLen; (try simp only [List.length_cons, List.length_nil, List.length_append, List.length_take]); omega) rfl (fun V5 => ?_)
      refine Tr.q (QS.assign rfl) rfl ?_
      refine Tr.nil ?_
      refine Tr.inN ?_
      refine Tr.thenN ?_
      refine Tr.region ?_
      refine Tr.q (QS.addI rfl rfl (by omega)) rfl ?_
      refine Tr.q (QS.move rfl) rfl ?_
      refine Tr.nil ?_
      refine Tr.thenN ?_
      have htk := filter_take_pos (p := neR) (l := l) (k := k) (by omega) (decide_eq_true h3)
      replace htk : _ = _ ++ [(⟨(l.getD k default).lo, (l.getD k default).hi⟩ : Rng)] := htk
      rw [← htk]
      apply Tr.again (k + 1, _)
      · exact rfl
      · exact (.cons (by first | rfl | exact lookI rfl (by omega) | exact lookI rfl (by simp) | exact lookB rfl (by simp)) (.cons (by first | rfl | exact lookI rfl (by omega) | exact lookI rfl (by simp) | exact lookB rfl (by simp)) Front.nil))
      · exact SubX.dropN 18 (by kernel_rfl) rfl
      · exact (by repeat' (first | exact Pick.nil _ | exact Del.here _ | apply Pick.cons | apply Del.there))
      · exact (by show k + 1 ≤ _; omega)
      · exact (by (try dsimp only); omega)
    · try simp only [Bool.and_eq_true, Bool.or_eq_true, Bool.not_eq_true', Bool.not_eq_false', decide_eq_true_eq, decide_eq_false_iff_not, Bool.and_eq_false_iff, Bool.or_eq_false_iff, ne_eq, Decidable.not_not] at h3
      refine Tr.skip ?_
      refine Tr.inN ?_
      refine Tr.thenN ?_
      refine Tr.region ?_
      refine Tr.q (QS.addI rfl rfl (by omega)) rfl ?_
      refine Tr.q (QS.move rfl) rfl ?_
      refine Tr.nil ?_
      refine Tr.thenN ?_
      have htk := filter_take_neg (p := neR) (l := l) (k := k) (by omega) (decide_eq_false h3)
      rw [← htk]
      apply Tr.again (k + 1, _)
      · exact rfl
      · exact (.cons (by first | rfl | exact lookI rfl (by omega) | exact lookI rfl (by simp) | exact lookB rfl (by simp)) (.cons (by first | rfl | exact lookI rfl (by omega) | exact lookI rfl (by simp) | exact lookB rfl (by simp)) Front.nil))
      · exact SubX.dropN 13 (by kernel_rfl) rfl
      · exact (by repeat' (first | exact Pick.nil _ | exact Del.here _ | apply Pick.cons | apply Del.there))
      · exact (by show k + 1 ≤ _; omega)
      · exact (by (try dsimp only); omega)
  · try simp only [Bool.and_eq_true, Bool.or_eq_true, Bool.not_eq_true', Bool.not_eq_false', decide_eq_true_eq, decide_eq_false_iff_not, Bool.and_eq_false_iff, Bool.or_eq_false_iff, ne_eq, Decidable.not_not] at h1
    refine Tr.exit ?_
    refine Tr.thenE ?_
    refine Tr.thenE ?_
    refine Tr.inHit ?_
    refine Tr.thenN ?_
    refine Tr.seq ?_
    rw [show l.take k = l from List.take_of_length_le (by omega)]
    refine Tr.region ?_
    refine Tr.q (QS.move rfl) rfl ?_
    refine Tr.callMut rfl Tryz.call85 (by repeat (first | exact Put.here _ | apply Put.there)) (fun w hw => sortFunc_any Tryz.sortRng encRng 80 Tryz.isAgg80 Tryz.sizeOf80 cmpR swo_cmpR 86 [] _ _ w Tryz.call86 (hw.ent _ (.head _)) (by have := List.length_filter_le neR l; omega) (fun x y w' _ => normal1_any x y w') (sortFunc_nil_rng w 86 #[])) rfl ?_
    refine Tr.nil ?_
    refine Tr.thenN ?_
    refine Tr.seq ?_
    refine Tr.region ?_
    refine Tr.q (QS.assign rfl) rfl ?_
    refine Tr.nil ?_
    refine Tr.thenN ?_
    refine Tr.seq ?_
    refine Tr.seq ?_
    refine Tr.region ?_
    refine Tr.q (QS.move rfl) rfl ?_
    refine Tr.q (QS.lenRow rfl (by repeat (first | exact List.Mem.head _ | apply List.Mem.tail)) Tryz.underlying47) rfl ?_
    refine Tr.q (QS.move rfl) rfl ?_
    refine Tr.nil ?_
    refine Tr.thenN ?_
    refine Tr.block ?_
    refine Tr.ownNil 80 encRng ?_
    refine Tr.loop (ι := Nat × Value) (fun ⟨k2, Vo⟩ => k2 ≤ (sortP (Go.Proofs.ltOf cmpR) (l.filter neR)).length) (fun _ => _) (fun ⟨k2, Vo⟩ => [rowE Vo 80 encRng (((sortP (Go.Proofs.ltOf cmpR) (l.filter neR)).take k2).foldl mergeStep []), rowE V' 80 encRng (sortP (Go.Proofs.ltOf cmpR) (l.filter neR))]) (fun ⟨k2, Vo⟩ => [(30, .int .i64 (k2 : Nat)), (6, Vo)]) (fun ⟨k2, Vo⟩ => (sortP (Go.Proofs.ltOf cmpR) (l.filter neR)).length - k2) (0, _) (Nat.zero_le _) (.cons (by first | rfl | exact lookI rfl (by omega) | exact lookI rfl (by simp) | exact lookB rfl (by simp)) (.cons (by first | rfl | exact lookI rfl (by omega) | exact lookI rfl (by simp) | exact lookB rfl (by simp)) Front.nil)) (by repeat' (first | exact Pick.nil _ | exact Del.here _ | apply Pick.cons | apply Del.there)) rfl (fun i hi m hm => ?_)
    obtain ⟨k2, Vo⟩ := i
    replace hi : k2 ≤ (sortP (Go.Proofs.ltOf cmpR) (l.filter neR)).length := hi
    replace hm : m = (sortP (Go.Proofs.ltOf cmpR) (l.filter neR)).length - k2 := hm
    change Tr _ _ [rowE Vo 80 encRng (((sortP (Go.Proofs.ltOf cmpR) (l.filter neR)).take k2).foldl mergeStep []), rowE V' 80 encRng (sortP (Go.Proofs.ltOf cmpR) (l.filter neR))] ([(30, .int .i64 (k2 : Nat)), (6, Vo)] ++ _) _
    have hml := mergeFold_len ((sortP (Go.Proofs.ltOf cmpR) (l.filter neR)).take k2) []
    simp only [List.length_take, List.length_nil] at hml
    have hsl := sortP_length swo_cmpR (l.filter neR)
    have hfl2 := List.length_filter_le neR l
    obtain ⟨out, ho⟩ : ∃ out, out = ((sortP (Go.Proofs.ltOf cmpR) (l.filter neR)).take k2).foldl mergeStep [] := ⟨_, rfl⟩
    rw [← ho] at hml ⊢
    refine Tr.seq ?_
    refine Tr.region ?_
    refine Tr.q (QS.lss rfl rfl) rfl ?_
    refine Tr.nil ?_
    refine Tr.thenN ?_
    refine Tr.seq ?_
    refine Tr.cond rfl (fun h6 => ?_) (fun h6 => ?_)
    · try simp only [Bool.and_eq_true, Bool.or_eq_true, Bool.not_eq_true', Bool.not_eq_false', decide_eq_true_eq, decide_eq_false_iff_not, Bool.and_eq_false_iff, Bool.or_eq_false_iff, ne_eq, Decidable.not_not] at h6
      refine Tr.skip ?_
      refine Tr.thenN ?_
      refine Tr.seq ?_
      refine Tr.block ?_
      refine Tr.seq ?_
      refine Tr.region ?_
      refine Tr.q (QS.idxRowN rfl rfl (by repeat (first | exact List.Mem.head _ | apply List.Mem.tail)) Tryz.underlying47 Tryz.sizeOf80 (by rfl) (by omega)) rfl ?_
      refine Tr.q (QS.elRA rfl (by repeat (first | exact List.Mem.head _ | apply List.Mem.tail)) Tryz.isAgg80 Tryz.sizeOf80 (by rfl) (by omega)) rfl ?_
      refine Tr.alloc Tryz.zeroValue80 rfl rfl (fun b7 => ?_)
      refine Tr.storeW rfl rfl Tryz.sizeOf80 (by repeat (first | exact Put.here _ | apply Put.there)) (by rfl) (by rfl) (by first | exact List.all_eq_true.1 rfl | exact Enc.one _ _ | exact Enc.one encRng _ | (intro u hu; simp [Value.cells] at hu; simp_all [Value.oneCell'])) rfl ?_
      refine Tr.nil ?_
      refine Tr.thenN ?_
      refine Tr.seq ?_
      refine Tr.region ?_
      refine Tr.q (QS.move rfl) rfl ?_
      refine Tr.q (QS.lenRow rfl (by repeat (first | exact List.Mem.head _ | apply List.Mem.tail)) Tryz.underlying47) rfl ?_
      refine Tr.q (QS.assign rfl) rfl ?_
      refine Tr.nil ?_
      refine Tr.thenN ?_
      refine Tr.seq ?_
      refine Tr.regionQ HLF.mixed (by kernel_rfl) ?_
      refine TrQ.q (QS.move rfl) rfl ?_
      refine TrQ.q (QS.gtr rfl rfl) rfl ?_
      refine TrQ.q (QS.move rfl) rfl ?_
      apply TrQ.and (t := 38) (d := 48) 10
      · exact rfl
      · intro hT8; have hT8' := hT8
        try simp only [Bool.and_eq_true, Bool.or_eq_true, Bool.not_eq_true', Bool.not_eq_false', decide_eq_true_eq, decide_eq_false_iff_not, Bool.and_eq_false_iff, Bool.or_eq_false_iff, ne_eq, Decidable.not_not] at hT8'
        refine TrQ.gq rfl rfl hT8 (QS.fieldAddr (off := 0) (ft := 33) rfl Tryz.underlying80 rfl rfl Tryz.sizeOf33 (by decide)) rfl ?_
        refine TrQ.gq rfl rfl hT8 (QS.loadV rfl (by repeat (first | exact List.Mem.head _ | apply List.Mem.tail)) Tryz.isAgg33 (by rfl)) rfl ?_
        refine TrQ.gq rfl rfl hT8 (QS.move rfl) rfl ?_
        refine TrQ.gq rfl rfl hT8 (QS.move rfl) rfl ?_
        refine TrQ.gq rfl rfl hT8 (QS.subI rfl rfl (by omega)) rfl ?_
        refine TrQ.gq rfl rfl hT8 (QS.idxRow rfl rfl (by repeat (first | exact List.Mem.head _ | apply List.Mem.tail)) Tryz.underlying47 Tryz.sizeOf80 (by rfl) (by omega)) rfl ?_
        refine TrQ.gq rfl rfl hT8 (QS.fieldAddr (off := 1) (ft := 33) rfl Tryz.underlying80 rfl rfl Tryz.sizeOf33 (by decide)) rfl ?_
        refine TrQ.gq rfl rfl hT8 (QS.elRF rfl (by repeat (first | exact List.Mem.head _ | apply List.Mem.tail)) Tryz.isAgg33 (by omega) (by rfl)) rfl ?_
        refine TrQ.gq rfl rfl hT8 (QS.leq32 rfl rfl) rfl ?_
        refine TrQ.q (QS.pickT rfl hT8 rfl) rfl ?_
        exact TrQ.end (Sub.cons rfl (Sub.dropN 10 (by kernel_rfl) rfl))
      · intro hF8
        refine TrQ.gskip rfl rfl hF8 rfl ?_
        refine TrQ.gskip rfl rfl hF8 rfl ?_
        refine TrQ.gskip rfl rfl hF8 rfl ?_
        refine TrQ.gskip rfl rfl hF8 rfl ?_
        refine TrQ.gskip rfl rfl hF8 rfl ?_
        refine TrQ.gskip rfl rfl hF8 rfl ?_
        refine TrQ.gskip rfl rfl hF8 rfl ?_
        refine TrQ.gskip rfl rfl hF8 rfl ?_
        refine TrQ.gskip rfl rfl hF8 rfl ?_
        refine TrQ.q (QS.pickF rfl hF8 rfl) rfl ?_
        exact TrQ.end (Sub.cons rfl (Sub.dropN 10 (by kernel_rfl) rfl))
      refine TrQ.nil ?_
      refine Tr.thenN ?_
      refine Tr.cond rfl (fun h9 => ?_) (fun h9 => ?_)
      · try simp only [Bool.and_eq_true, Bool.or_eq_true, Bool.not_eq_true', Bool.not_eq_false', decide_eq_true_eq, decide_eq_false_iff_not, Bool.and_eq_false_iff, Bool.or_eq_false_iff, ne_eq, Decidable.not_not] at h9
        refine Tr.regionT 0 14 HLF.mixed (by kernel_rfl) (panicIn (panicThen (panicThen (panicIn (panicThen panicBody))))) ?_
        refine TrQ.pureNil ?_
        refine TrQ.q (QS.move rfl) rfl ?_
        refine TrQ.q (QS.move rfl) rfl ?_
        refine TrQ.q (QS.subI rfl rfl (by omega)) rfl ?_
        refine TrQ.q (QS.move rfl) rfl ?_
        refine TrQ.q (QS.move rfl) rfl ?_
        refine TrQ.q (QS.subI rfl rfl (by omega)) rfl ?_
        refine TrQ.q (QS.idxRow rfl rfl (by repeat (first | exact List.Mem.head _ | apply List.Mem.tail)) Tryz.underlying47 Tryz.sizeOf80 (by rfl) (by omega)) rfl ?_
        refine TrQ.q (QS.fieldAddr (off := 1) (ft := 33) rfl Tryz.underlying80 rfl rfl Tryz.sizeOf33 (by decide)) rfl ?_
        refine TrQ.q (QS.elRF rfl (by repeat (first | exact List.Mem.head _ | apply List.Mem.tail)) Tryz.isAgg33 (by omega) (by rfl)) rfl ?_
        refine TrQ.q (QS.fieldAddr (off := 1) (ft := 33) rfl Tryz.underlying80 rfl rfl Tryz.sizeOf33 (by decide)) rfl ?_
        refine TrQ.q (QS.loadV rfl (by repeat (first | exact List.Mem.head _ | apply List.Mem.tail)) Tryz.isAgg33 (by rfl)) rfl ?_
        refine TrQ.q (QS.max32 rfl rfl) rfl ?_
        refine TrQ.q (QS.idxRow rfl rfl (by repeat (first | exact List.Mem.head _ | apply List.Mem.tail)) Tryz.underlying47 Tryz.sizeOf80 (by rfl) (by omega)) rfl ?_
        refine TrQ.q (QS.fieldAddr (off := 1) (ft := 33) rfl Tryz.underlying80 rfl rfl Tryz.sizeOf33 (by decide)) rfl ?_
        refine TrQ.nil ?_
        refine Tr.storeRow (⟨(lastR out).lo, if (lastR out).hi < ((sortP (Go.Proofs.ltOf cmpR) (l.filter neR)).getD k2 default).hi then ((sortP (Go.Proofs.ltOf cmpR) (l.filter neR)).getD k2 default).hi else (lastR out).hi⟩) rfl rfl Tryz.sizeOf33 (by repeat (first | exact Put.here _ | apply Put.there)) (by omega) (by decide) (by rfl) rfl rfl rfl ?_
        refine Tr.nil ?_
        refine Tr.inN ?_
        refine Tr.thenN ?_
        refine Tr.region ?_
        refine Tr.q (QS.addI rfl rfl (by omega)) rfl ?_
        refine Tr.q (QS.move rfl) rfl ?_
        refine Tr.nil ?_
        refine Tr.thenN ?_
        have hst := mergeStep_pos (out := out) (r := (sortP (Go.Proofs.ltOf cmpR) (l.filter neR)).getD k2 default) h9.1 h9.2
        rw [show out.set _ _ = _ from hst.symm, ho, ← foldl_take_succ (f := mergeStep) (b := []) (k := k2) (l := (sortP (Go.Proofs.ltOf cmpR) (l.filter neR))) (by omega)]
        apply Tr.again (k2 + 1, _)
        · exact rfl
        · exact (.cons (by first | rfl | exact lookI rfl (by omega) | exact lookI rfl (by simp) | exact lookB rfl (by simp)) (.cons (by first | rfl | exact lookI rfl (by omega) | exact lookI rfl (by simp) | exact lookB rfl (by simp)) Front.nil))
        · exact SubX.dropN 29 (by kernel_rfl) rfl
        · exact (by repeat' (first | exact Pick.nil _ | exact Del.here _ | apply Pick.cons | apply Del.there))
        · exact (by show k2 + 1 ≤ _; omega)
        · exact (by (try dsimp only); omega)
      · try simp only [Bool.and_eq_true, Bool.or_eq_true, Bool.not_eq_true', Bool.not_eq_false', decide_eq_true_eq, decide_eq_false_iff_not, Bool.and_eq_false_iff, Bool.or_eq_false_iff, ne_eq, Decidable.not_not] at h9
        refine Tr.region ?_
        refine Tr.q (QS.move rfl) rfl ?_
        refine Tr.q (QS.loadVW rfl (by repeat (first | exact List.Mem.head _ | apply List.Mem.tail)) Tryz.isAgg80 Tryz.sizeOf80 (by rfl)) rfl ?_
        refine Tr.lit1 (E := encRng) _ rfl rfl Tryz.underlying47 Tryz.sizeOf80 Tryz.zeroValue80 (by rfl) (by rfl) rfl (fun V10 => ?_)
        refine Tr.append1 rfl rfl (by repeat (first | exact Del.here _ | apply Del.there)) (by repeat (first | exact Del.here _ | apply Del.there)) Tryz.underlying47 HLF.info80 (by rfl) (by rfl) (by (try simp only [List.length_cons, List.length_nil, List.length_append, List.length_take]); omega) (by unfold maxLen; (try simp only [List.length_cons, List.length_nil, List.length_append, List.length_take]); omega) rfl (fun V11 => ?_)
        refine Tr.q (QS.assign rfl) rfl ?_
        refine Tr.nil ?_
        refine Tr.inN ?_
        refine Tr.thenN ?_
        refine Tr.region ?_
        refine Tr.q (QS.addI rfl rfl (by omega)) rfl ?_
        refine Tr.q (QS.move rfl) rfl ?_
        refine Tr.nil ?_
        refine Tr.thenN ?_
        have hst := mergeStep_neg (out := out) (r := (sortP (Go.Proofs.ltOf cmpR) (l.filter neR)).getD k2 default) (fun hh => h9.elim (fun q => q hh.1) (fun q => q hh.2))
        replace hst : _ = _ ++ [(⟨((sortP (Go.Proofs.ltOf cmpR) (l.filter neR)).getD k2 default).lo, ((sortP (Go.Proofs.ltOf cmpR) (l.filter neR)).getD k2 default).hi⟩ : Rng)] := hst
        rw [← hst, ho, ← foldl_take_succ (f := mergeStep) (b := []) (k := k2) (l := (sortP (Go.Proofs.ltOf cmpR) (l.filter neR))) (by omega)]
        apply Tr.again (k2 + 1, _)
        · exact rfl
        · exact (.cons (by first | rfl | exact lookI rfl (by omega) | exact lookI rfl (by simp) | exact lookB rfl (by simp)) (.cons (by first | rfl | exact lookI rfl (by omega) | exact lookI rfl (by simp) | exact lookB rfl (by simp)) Front.nil))
        · exact SubX.dropN 20 (by kernel_rfl) rfl
        · exact (by repeat' (first | exact Pick.nil _ | exact Del.here _ | apply Pick.cons | apply Del.there))
        · exact (by show k2 + 1 ≤ _; omega)
        · exact (by (try dsimp only); omega)
    · try simp only [Bool.and_eq_true, Bool.or_eq_true, Bool.not_eq_true', Bool.not_eq_false', decide_eq_true_eq, decide_eq_false_iff_not, Bool.and_eq_false_iff, Bool.or_eq_false_iff, ne_eq, Decidable.not_not] at h6
      refine Tr.exit ?_
      refine Tr.thenE ?_
      refine Tr.thenE ?_
      refine Tr.inHit ?_
      refine Tr.thenN ?_
      refine Tr.seq ?_
      refine Tr.region ?_
      refine Tr.q (QS.move rfl) rfl ?_
      refine Tr.q (QS.assign rfl) rfl ?_
      refine Tr.nil ?_
      refine Tr.thenN ?_
      refine Tr.ret ?_
      refine Tr.ret1 Tryz.results59 rfl (fun w' hw => ?_)
      exact ⟨_, rfl, hw.below (Bg.le.refl _), by have e : (sortP (Go.Proofs.ltOf cmpR) (l.filter neR)).take k2 = sortP (Go.Proofs.ltOf cmpR) (l.filter neR) := List.take_of_length_le (by omega); (rw [ho, e] at hw); exact hw.new (.head _)⟩
end Go.Proofs.YtmhbfelnjkhepaaGreat
namespace Go.HL
open Go Go.RowKit
/-- What lies in blocks that the world did not have before. -/
def newHp (w w' : World) : Hp := fun b => if b < w.heap.size then none else w'.heap[b]?
/-- A row made in a call reads in the new blocks. -/
theorem NewRow.sl {α : Type} {w w' : World} {T : TypeId} {E : Enc α} {l : List α} {V : Value} (h : NewRow w w' T E l V) : Sl (newHp w w') E l V := by
  obtain ⟨h1, h2⟩ := h
  rcases h1 with ⟨rfl, rfl⟩ | ⟨g, cap, cur, rfl, ho, k1, k2, k3, k4⟩
  · exact Sl.nil _ _
  · refine RowOK.sl (T := T) (.inr ⟨g, cap, cur, rfl, ?_, k1, k2, k3, k4⟩)
    have hg := h2 g rfl
    show newHp w w' g = _
    unfold newHp; rw [if_neg (by omega)]; exact ho
section
variable {P : Program} {ops : Array Oper} {Q : Exit → Act → World → Prop} {N : Nat} {F : Bg} {L : List Ent} {M : Fr} {dst : Option Tmp} {ty : TypeId} {pos : String} {after : Array Edge} {g : Option (Nat × Bool)} {rest : List Oper} {d : Nat}
structure NewEnts (w w' : World) (Ls : List Ent) : Prop where
  ent : ∀ e ∈ Ls, e.holds w'
  nodup : (blks Ls).Nodup
  lt : ∀ b ∈ blks Ls, b < w'.heap.size
  ge : ∀ b ∈ blks Ls, w.heap.size ≤ b
theorem HpOK.newEnts {w w' : World} {Ls : List Ent} (h : HpOK F L w) (hx : Ext w w') (hn : NewEnts w w' Ls) : HpOK F (Ls ++ L) w' := by
  have hg := h.grow hx
  have hbl : blks (Ls ++ L) = blks Ls ++ blks L := List.filterMap_append
  refine ⟨hg.os, hg.tape, hg.out, hg.n, hg.dr, hg.bg, fun e he => ?_, ?_, fun b hb => ?_, fun b hb => ?_⟩
  · rcases List.mem_append.1 he with he | he
    · exact hn.ent e he
    · exact hg.ent e he
  · rw [hbl, List.nodup_append]
    exact ⟨hn.nodup, hg.nodup, fun a ha b hb => by have := hn.ge a ha; have := h.lt b hb; omega⟩
  · rw [hbl] at hb
    rcases List.mem_append.1 hb with hb | hb
    · exact hn.lt b hb
    · exact hg.lt b hb
  · rw [hbl] at hb
    rcases List.mem_append.1 hb with hb | hb
    · have hge := hn.ge b hb
      refine ⟨?_, Nat.le_trans (Nat.le_trans F.lo_le h.n) hge⟩
      cases hF : F.blk b with
      | none => rfl
      | some o =>
        have := h.bg _ _ hF
        have := (Array.getElem?_eq_some_iff.1 this).1
        omega
    · exact hg.sep b hb
theorem HpOK.ents {w w' : World} {Ls : List Ent} (h : HpOK F L w') (hF : (Bg.of w).le F) (hs : Pick L Ls) : NewEnts w w' Ls := by
  have h' := hs.heap h
  refine ⟨h'.ent, h'.nodup, h'.lt, fun b hb => ?_⟩
  have := (h'.sep b hb).2
  rw [hF.lo] at this; exact this
/-- A call that hands back a value with many new rows in it. -/
theorem Tr.callEnts {ι : Type} (φ : ι → Value) (Ls : ι → List Ent) {ok : ι → Prop} {f : FuncId} {xs : List Operand} {vs : List Value} {ts : Array TypeId} (hx : opvs M xs = some vs)
    (he : ∀ (args : Array Value) (w : World), (callFunc f args).run P w = .ok (.enter f args) w)
    (hc : ∀ w, HpOK F L w → Calls P f vs.toArray w fun e w' => ∃ i, e = .returned (φ i) ∧ Ext w w' ∧ NewEnts w w' (Ls i) ∧ ok i) (hd : Nat.ble (d + 1) N = true)
    (K : ∀ i, ok i → Tr N F (Ls i ++ L) ((d, φ i) :: M) (wpList P ops Q rest)) :
    Tr N F L M (wpList P ops Q (⟨some d, .call { callee := .value (.func f), args := xs.toArray, argTypes := ts }, ty, pos, after, none⟩ :: rest)) := by
  intro a w ha hw
  refine wpList_plain rfl fun K' hK => ?_
  have hr : (execOp a.eval ⟨some d, .call { callee := .value (.func f), args := xs.toArray, argTypes := ts }, ty, pos, after, none⟩).run P w = .ok (.enter f vs.toArray) w := by
    have := ha.evals hx
    simp [execOp, resolve, Deferred.ofValue, Act.eval, invoke, he, this]
  unfold Oper.wp
  rw [hr]
  refine (hc w hw).mono fun e w' ⟨i, h1, h2, h3, h4⟩ => ?_
  subst h1
  exact hK _ _ (K i h4 _ _ (ha.put (Nat.le_of_ble_eq_true hd)) (hw.newEnts h2 h3))
open Go.Lib in
def CellsIn (h : Hp) (b : Nat) (vs : List Value) : Prop := ∃ (cs : Array Value) (T : TypeId) (fz : Nat × Nat), h b = some (.cells cs T fz) ∧ ∀ (j : Nat) (v : Value), vs[j]? = some v → cs[j]? = some v
theorem CellsIn.mono {h k : Hp} {b : Nat} {vs : List Value} (c : CellsIn h b vs) (hk : Hp.le h k) : CellsIn k b vs := let ⟨cs, T, fz, h1, h2⟩ := c; ⟨cs, T, fz, hk _ _ h1, h2⟩
theorem cellE.cellsIn {b : Nat} {cs : List Value} {T : TypeId} {w w' : World} (h : (cellE b cs T).holds w) (hx : Ext w w') : CellsIn (HL.hp w') b cs :=
  CellsIn.mono (h := HL.hp w) ⟨cs.toArray, T, (0, 0), h, fun j v hv => by simpa using hv⟩ hx.hp
theorem CellsIn.cell {h : Hp} {b : Nat} {vs : List Value} (c : CellsIn h b vs) {j : Nat} {v : Value} (hv : vs[j]? = some v) : Cell h b j v := let ⟨cs, T, fz, h1, h2⟩ := c; ⟨cs, T, fz, h1, h2 j v hv⟩
theorem QS.loadCF {x : Operand} {t : TypeId} {b o : Nat} {v : Value} {vs : List Value} (hx : opv M x = some (.pointer (some ⟨b, o, none⟩))) (hc : CellsIn F.blk b vs) (hagg : ∀ w, (isAgg t).run P w = .ok false w) (hv : vs[o]? = some v) :
    QS P N F L M ⟨dst, .load t x, ty, pos, after, g⟩ v :=
  QS.load1 hx hagg fun w hw => ((hc.mono hw.bg).cell hv).at
theorem Pick.refl : ∀ L : List Ent, Pick L L
  | [] => .nil _
  | e :: L => .cons (.here _) (Pick.refl L)
theorem NewEnts.row {α : Type} {w w' : World} {Ls : List Ent} {V : Value} {T : TypeId} {E : Enc α} {l : List α} (h : NewEnts w w' Ls) (hm : rowE V T E l ∈ Ls) : NewRow w w' T E l V :=
  ⟨h.ent _ hm, fun b hb => h.ge b (List.mem_filterMap.2 ⟨_, hm, hb⟩)⟩
/-- What a row's slice value is like. -/
theorem Tr.rowShape {α : Type} {V : Value} {T : TypeId} {E : Enc α} {l : List α} {X : Act → World → Prop} (hm : rowE V T E l ∈ L) (K : ∀ a c, V = .slice a l.length c → Tr N F L M X) : Tr N F L M X := by
  intro a w ha hw
  have hr : RowOK V T E l (V.ownBlock.bind (w.heap[·]?)) := hw.ent _ hm
  rcases hr with ⟨h1, h2⟩ | ⟨gb, cap, cur, h1, _⟩
  · exact K none 0 (by rw [h1, h2]; rfl) a w ha hw
  · exact K _ _ h1 a w ha hw
end
end Go.HL
namespace Go.HL
section
variable {α : Type} [Inhabited α]
structure WO (lt : α → α → Bool) : Prop where
  irr : ∀ x, lt x x = false
  tr : ∀ x y z, lt x y = true → lt y z = true → lt x z = true
  ntr : ∀ x y z, lt x y = false → lt y z = false → lt x z = false
theorem WO.asym {lt : α → α → Bool} (h : WO lt) {x y : α} (e : lt x y = true) : lt y x = false := by
  cases e2 : lt y x
  · rfl
  · have := h.tr _ _ _ e e2; rw [h.irr] at this; cases this
/-- x < y ≤ z -/
theorem WO.lt_le {lt : α → α → Bool} (h : WO lt) {x y z : α} (e : lt x y = true) (e2 : lt z y = false) : lt x z = true := by
  cases e3 : lt x z
  · rw [h.ntr _ _ _ e3 e2] at e; cases e
  · rfl
/-- x ≤ y < z -/
theorem WO.le_lt {lt : α → α → Bool} (h : WO lt) {x y z : α} (e : lt y x = false) (e2 : lt y z = true) : lt x z = true := by
  cases e3 : lt x z
  · rw [h.ntr _ _ _ e e3] at e2; cases e2
  · rfl
def eqv (lt : α → α → Bool) (z x : α) : Bool := !lt z x && !lt x z
/-- The same elements; those that the order holds equal in their old order. -/
def Stab (lt : α → α → Bool) (l l' : List α) : Prop := l.Perm l' ∧ ∀ z, l.filter (eqv lt z) = l'.filter (eqv lt z)
theorem Stab.refl (lt : α → α → Bool) (l : List α) : Stab lt l l := ⟨.refl _, fun _ => rfl⟩
theorem Stab.trans {lt : α → α → Bool} {a b c : List α} (h : Stab lt a b) (k : Stab lt b c) : Stab lt a c := ⟨h.1.trans k.1, fun z => (h.2 z).trans (k.2 z)⟩
theorem Stab.len {lt : α → α → Bool} {a b : List α} (h : Stab lt a b) : b.length = a.length := h.1.length_eq.symm
theorem Stab.symm {lt : α → α → Bool} {a b : List α} (h : Stab lt a b) : Stab lt b a := ⟨h.1.symm, fun z => (h.2 z).symm⟩
theorem filter_nil_or {lt : α → α → Bool} (h : WO lt) {X Y : List α} (hc : ∀ x ∈ X, ∀ y ∈ Y, lt y x = true) (z : α) : X.filter (eqv lt z) = [] ∨ Y.filter (eqv lt z) = [] := by
  cases hX : X.filter (eqv lt z) with
  | nil => exact .inl rfl
  | cons x t =>
    refine .inr ?_
    rw [List.filter_eq_nil_iff]
    intro y hy he
    have hx : x ∈ X.filter (eqv lt z) := by rw [hX]; exact .head _
    obtain ⟨hx1, hx2⟩ := List.mem_filter.1 hx
    simp only [eqv, Bool.and_eq_true, Bool.not_eq_true'] at he hx2
    have := hc x hx1 y hy
    rw [h.ntr _ _ _ he.2 hx2.1] at this
    cases this
theorem Stab.swap {lt : α → α → Bool} (h : WO lt) (P X Y S : List α) (hc : ∀ x ∈ X, ∀ y ∈ Y, lt y x = true) : Stab lt (P ++ (X ++ (Y ++ S))) (P ++ (Y ++ (X ++ S))) := by
  refine ⟨List.Perm.append_left _ (by rw [← List.append_assoc, ← List.append_assoc]; exact List.perm_append_comm.append_right _), fun z => ?_⟩
  simp only [List.filter_append]
  rcases filter_nil_or h hc z with e | e <;> rw [e] <;> simp
/-- Sorted lists with the same elements, equal ones in the same order, are the same. -/
theorem stab_uniq {lt : α → α → Bool} (h : WO lt) : ∀ (l l' : List α), Stab lt l l' → l.Pairwise (fun x y => lt y x = false) → l'.Pairwise (fun x y => lt y x = false) → l = l'
  | [], l', s, _, _ => by have := s.len; simp at this; exact this.symm
  | x :: t, [], s, _, _ => by have := s.len; simp at this
  | x :: t, y :: t', s, h1, h2 => by
    rw [List.pairwise_cons] at h1 h2
    have hxy : lt x y = false := by
      have : x ∈ y :: t' := s.1.subset (.head _)
      rcases List.mem_cons.1 this with rfl | hm
      · exact h.irr _
      · exact h2.1 _ hm
    have hyx : lt y x = false := by
      have : y ∈ x :: t := s.1.symm.subset (.head _)
      rcases List.mem_cons.1 this with rfl | hm
      · exact h.irr _
      · exact h1.1 _ hm
    have ex : x = y := by
      have := s.2 x
      rw [List.filter_cons_of_pos (by simp [eqv, h.irr]), List.filter_cons_of_pos (by simp [eqv, hxy, hyx])] at this
      exact (List.cons.inj this).1
    subst ex
    have st : Stab lt t t' := ⟨(List.perm_cons x).1 s.1, fun z => by
      have := s.2 z
      simp only [List.filter_cons] at this
      split at this
      · exact (List.cons.inj this).2
      · exact this⟩
    rw [stab_uniq h t t' st h1.2 h2.2]
def mp (f : Nat → Nat) (l : List α) : List α := (List.range l.length).map fun k => l.getD (f k) default
theorem mp_len (f : Nat → Nat) (l : List α) : (mp f l).length = l.length := by simp [mp]
theorem mp_at {f : Nat → Nat} {l : List α} {k : Nat} (h : k < l.length) : (mp f l).getD k default = l.getD (f k) default := by
  simp [mp, List.getD_eq_getElem?_getD, h]
theorem ext_at {l l' : List α} (h : l.length = l'.length) (e : ∀ k, k < l.length → l.getD k default = l'.getD k default) : l = l' := by
  refine List.ext_getElem h fun k h1 h2 => ?_
  have := e k h1
  simpa [List.getD_eq_getElem?_getD, h1, h2] using this
theorem mp_id {f : Nat → Nat} {l : List α} (h : ∀ k, k < l.length → f k = k) : mp f l = l :=
  ext_at (mp_len _ _) fun k hk => by rw [mp_len] at hk; rw [mp_at hk, h k hk]
theorem mp_mp {f g k : Nat → Nat} {l : List α} (h : ∀ x, x < l.length → f x < l.length) (e : ∀ x, x < l.length → g (f x) = k x) : mp f (mp g l) = mp k l :=
  ext_at (by simp [mp_len]) fun x hx => by
    rw [mp_len, mp_len] at hx
    rw [mp_at (by rw [mp_len]; exact hx), mp_at (h x hx), mp_at hx, e x hx]
theorem mp_congr {f g : Nat → Nat} {l : List α} (e : ∀ x, x < l.length → f x = g x) : mp f l = mp g l :=
  ext_at (by simp [mp_len]) fun x hx => by rw [mp_len] at hx; rw [mp_at hx, mp_at hx, e x hx]
def swF (p q k : Nat) : Nat := if k = p then q else if k = q then p else k
def swR (a b n k : Nat) : Nat := if a ≤ k ∧ k < a + n then k - a + b else if b ≤ k ∧ k < b + n then k - b + a else k
def rotF (lo m hi k : Nat) : Nat := if lo ≤ k ∧ k < lo + (hi - m) then k + (m - lo) else if lo + (hi - m) ≤ k ∧ k < hi then k - (hi - m) else k
theorem swF_cases (p q k : Nat) : (k = p ∧ swF p q k = q) ∨ (k ≠ p ∧ k = q ∧ swF p q k = p) ∨ (k ≠ p ∧ k ≠ q ∧ swF p q k = k) := by simp only [swF]; grind
theorem swR_cases (a b n k : Nat) : (a ≤ k ∧ k < a + n ∧ swR a b n k = k - a + b) ∨ (¬ (a ≤ k ∧ k < a + n) ∧ b ≤ k ∧ k < b + n ∧ swR a b n k = k - b + a) ∨ (¬ (a ≤ k ∧ k < a + n) ∧ ¬ (b ≤ k ∧ k < b + n) ∧ swR a b n k = k) := by simp only [swR]; grind
theorem rotF_cases (lo m hi k : Nat) : (lo ≤ k ∧ k < lo + (hi - m) ∧ rotF lo m hi k = k + (m - lo)) ∨ (¬ (lo ≤ k ∧ k < lo + (hi - m)) ∧ lo + (hi - m) ≤ k ∧ k < hi ∧ rotF lo m hi k = k - (hi - m)) ∨ (¬ (lo ≤ k ∧ k < lo + (hi - m)) ∧ ¬ (lo + (hi - m) ≤ k ∧ k < hi) ∧ rotF lo m hi k = k) := by simp only [rotF]; grind
theorem mp_sw {l : List α} {p q : Nat} (hp : p < l.length) (hq : q < l.length) : (l.set p (l.getD q default)).set q (l.getD p default) = mp (swF p q) l :=
  ext_at (by simp [mp_len]) fun k hk => by
    have hk' : k < l.length := by simpa using hk
    rw [mp_at hk']
    simp only [List.getD_eq_getElem?_getD, List.getElem?_set, List.length_set, swF]
    grind
theorem swR_0 {a b : Nat} {l : List α} : mp (swR a b 0) l = l := mp_id fun k _ => by simp only [swR]; split <;> (try split) <;> omega
theorem swR_step {a b n i : Nat} {l : List α} (h1 : a + n ≤ b) (h2 : b + n ≤ l.length) (hi : i < n) : mp (swF (a + i) (b + i)) (mp (swR a b i) l) = mp (swR a b (i + 1)) l :=
  mp_mp (fun x hx => by simp only [swF]; split <;> (try split) <;> omega) fun x hx => by
    have h3 := swF_cases (a + i) (b + i) x
    have h4 := swR_cases a b i (swF (a + i) (b + i) x)
    have h5 := swR_cases a b (i + 1) x
    omega
theorem rotF_lt {lo m hi k n : Nat} (h1 : lo ≤ m) (h2 : m ≤ hi) (h3 : hi ≤ n) (h : k < n) : rotF lo m hi k < n := by simp only [rotF]; split <;> (try split) <;> omega
theorem rot_gt {m i j : Nat} {l : List α} (h1 : i ≤ m) (h2 : m + j ≤ l.length) (h : j < i) : mp (rotF (m - (i - j)) m (m + j)) (mp (swR (m - i) m j) l) = mp (rotF (m - i) m (m + j)) l :=
  mp_mp (fun x hx => rotF_lt (by omega) (by omega) h2 hx) fun x hx => by
    have h3 := rotF_cases (m - (i - j)) m (m + j) x
    have h4 := swR_cases (m - i) m j (rotF (m - (i - j)) m (m + j) x)
    have h5 := rotF_cases (m - i) m (m + j) x
    omega
theorem rot_lt {m i j : Nat} {l : List α} (h1 : i ≤ m) (h2 : m + j ≤ l.length) (h : i < j) : mp (rotF (m - i) m (m + (j - i))) (mp (swR (m - i) (m + j - i) i) l) = mp (rotF (m - i) m (m + j)) l :=
  mp_mp (fun x hx => rotF_lt (by omega) (by omega) (by omega) hx) fun x hx => by
    have h3 := rotF_cases (m - i) m (m + (j - i)) x
    have h4 := swR_cases (m - i) (m + j - i) i (rotF (m - i) m (m + (j - i)) x)
    have h5 := rotF_cases (m - i) m (m + j) x
    omega
theorem rot_eq {m i : Nat} {l : List α} (h1 : i ≤ m) : mp (swR (m - i) m i) l = mp (rotF (m - i) m (m + i)) l :=
  mp_congr fun x hx => by
    have h4 := swR_cases (m - i) m i x
    have h5 := rotF_cases (m - i) m (m + i) x
    omega
theorem rot_down {l : List α} {i j : Nat} (h : 0 < j) (hj : j ≤ i) (hi : i < l.length) : mp (swF j (j - 1)) (mp (rotF j i (i + 1)) l) = mp (rotF (j - 1) i (i + 1)) l :=
  mp_mp (fun x hx => by simp only [swF]; split <;> (try split) <;> omega) fun x hx => by
    have h3 := swF_cases j (j - 1) x
    have h4 := rotF_cases j i (i + 1) (swF j (j - 1) x)
    have h5 := rotF_cases (j - 1) i (i + 1) x
    omega
theorem rot_up {l : List α} {a k : Nat} (h : a ≤ k) (hk : k + 1 < l.length) : mp (swF k (k + 1)) (mp (rotF a (a + 1) (k + 1)) l) = mp (rotF a (a + 1) (k + 2)) l :=
  mp_mp (fun x hx => by simp only [swF]; split <;> (try split) <;> omega) fun x hx => by
    have h3 := swF_cases k (k + 1) x
    have h4 := rotF_cases a (a + 1) (k + 1) (swF k (k + 1) x)
    have h5 := rotF_cases a (a + 1) (k + 2) x
    omega
theorem rot_none {l : List α} {a m b : Nat} (h : a = m ∨ m = b) (h1 : a ≤ m) (h2 : m ≤ b) : mp (rotF a m b) l = l := mp_id fun k _ => by have := rotF_cases a m b k; omega
theorem rot_list {l : List α} {a m b : Nat} (h1 : a ≤ m) (h2 : m ≤ b) (h3 : b ≤ l.length) :
    mp (rotF a m b) l = l.take a ++ ((l.take b).drop m ++ ((l.take m).drop a ++ l.drop b)) := by
  refine ext_at (by simp [mp_len]; omega) fun k hk => ?_
  rw [mp_len] at hk
  rw [mp_at hk]
  simp only [List.getD_eq_getElem?_getD, List.getElem?_append, List.length_take, List.length_drop, List.getElem?_take, List.getElem?_drop, rotF]
  congr 1
  grind
theorem list_parts {l : List α} {a m b : Nat} (h1 : a ≤ m) (h2 : m ≤ b) (h3 : b ≤ l.length) :
    l = l.take a ++ ((l.take m).drop a ++ ((l.take b).drop m ++ l.drop b)) := by
  refine ext_at (by simp; omega) fun k hk => ?_
  simp only [List.getD_eq_getElem?_getD, List.getElem?_append, List.length_take, List.length_drop, List.getElem?_take, List.getElem?_drop]
  congr 1
  grind
theorem mem_win {l : List α} {a b : Nat} {x : α} (h : x ∈ (l.take b).drop a) : ∃ k, a ≤ k ∧ k < b ∧ k < l.length ∧ x = l.getD k default := by
  obtain ⟨i, hi⟩ := List.mem_iff_getElem?.1 h
  rw [List.getElem?_drop, List.getElem?_take] at hi
  split at hi
  · refine ⟨a + i, by omega, by omega, (List.getElem?_eq_some_iff.1 hi).1, by simp [List.getD_eq_getElem?_getD, hi]⟩
  · cases hi
theorem win_mem {l : List α} {a b k : Nat} (h1 : a ≤ k) (h2 : k < b) (h3 : k < l.length) : l.getD k default ∈ (l.take b).drop a := by
  refine List.mem_iff_getElem?.2 ⟨k - a, ?_⟩
  rw [List.getElem?_drop, List.getElem?_take, if_pos (by omega), show a + (k - a) = k by omega]
  simp [List.getD_eq_getElem?_getD, h3]
theorem Stab.rot {lt : α → α → Bool} (h : WO lt) {l : List α} {a m b : Nat} (h1 : a ≤ m) (h2 : m ≤ b) (h3 : b ≤ l.length)
    (hc : ∀ x y, a ≤ x → x < m → m ≤ y → y < b → lt (l.getD y default) (l.getD x default) = true) : Stab lt l (mp (rotF a m b) l) := by
  rw [rot_list h1 h2 h3]
  conv => lhs; rw [list_parts h1 h2 h3]
  refine Stab.swap h _ _ _ _ fun x hx y hy => ?_
  obtain ⟨i, a1, a2, a3, rfl⟩ := mem_win hx
  obtain ⟨j, b1, b2, b3, rfl⟩ := mem_win hy
  exact hc i j a1 a2 b1 b2
/-- Nothing outside [a, b) has changed. -/
def Fram (a b : Nat) (l l' : List α) : Prop := l'.length = l.length ∧ ∀ k, k < a ∨ b ≤ k → l'.getD k default = l.getD k default
theorem Fram.refl (a b : Nat) (l : List α) : Fram a b l l := ⟨rfl, fun _ _ => rfl⟩
theorem Fram.trans {a b : Nat} {l m n : List α} (h : Fram a b l m) (k : Fram a b m n) : Fram a b l n := ⟨k.1.trans h.1, fun x hx => (k.2 x hx).trans (h.2 x hx)⟩
theorem Fram.mono {a b c d : Nat} {l m : List α} (h : Fram a b l m) (h1 : c ≤ a) (h2 : b ≤ d) : Fram c d l m := ⟨h.1, fun x hx => h.2 x (by omega)⟩
theorem Fram.rot {a b s m e : Nat} {l : List α} (h1 : a ≤ s) (h2 : e ≤ b) (h3 : s ≤ m) (h4 : m ≤ e) : Fram a b l (mp (rotF s m e) l) :=
  ⟨mp_len _ _, fun k hk => by
    by_cases h : k < l.length
    · rw [mp_at h, show rotF s m e k = k by have := rotF_cases s m e k; omega]
    · have e1 := List.getElem?_eq_none (l := mp (rotF s m e) l) (i := k) (by rw [mp_len]; omega)
      have e2 := List.getElem?_eq_none (l := l) (i := k) (by omega)
      rw [List.getD_eq_getElem?_getD, List.getD_eq_getElem?_getD, e1, e2]⟩
theorem win_of {lt : α → α → Bool} {l l' : List α} {a b k : Nat} (s : Stab lt l l') (f : Fram a b l l') (hb : b ≤ l.length) (h1 : a ≤ k) (h2 : k < b) : ∃ j, a ≤ j ∧ j < b ∧ l'.getD k default = l.getD j default := by
  have hl := f.1
  have e1 : l'.take a = l.take a := ext_at (by simp [hl]) fun x hx => by
    have hx' : x < a := by simp at hx; omega
    have := f.2 x (.inl hx')
    simpa [List.getD_eq_getElem?_getD, List.getElem?_take, hx'] using this
  have e2 : l'.drop b = l.drop b := ext_at (by simp [hl]) fun x hx => by
    have := f.2 (b + x) (.inr (by omega))
    simpa [List.getD_eq_getElem?_getD, List.getElem?_drop] using this
  have p1 := s.1
  rw [list_parts (l := l) (a := a) (m := b) (b := b) (by omega) (Nat.le_refl _) hb, list_parts (l := l') (a := a) (m := b) (b := b) (by omega) (Nat.le_refl _) (by omega), e1, e2] at p1
  have p2 := (List.perm_append_left_iff _).1 p1
  have e3 : ∀ x : List α, (x.take b).drop b = [] := fun x => by simp
  rw [e3, e3, List.nil_append] at p2
  have p3 := (List.perm_append_right_iff _).1 p2
  obtain ⟨j, a1, a2, a3, a4⟩ := mem_win (p3.symm.subset (win_mem (l := l') h1 h2 (by omega)))
  exact ⟨j, a1, a2, a4⟩
/-- Sorted from a up to b. -/
def Srt (lt : α → α → Bool) (l : List α) (a b : Nat) : Prop := ∀ p q, a ≤ p → p < q → q < b → lt (l.getD q default) (l.getD p default) = false
theorem Srt.sub {lt : α → α → Bool} {l : List α} {a b c d : Nat} (h : Srt lt l a b) (h1 : a ≤ c) (h2 : d ≤ b) : Srt lt l c d := fun p q x y z => h p q (by omega) y (by omega)
theorem Srt.one {lt : α → α → Bool} {l : List α} {a b : Nat} (h : b ≤ a + 1) : Srt lt l a b := fun p q x y z => by omega
theorem Srt.fram {lt : α → α → Bool} {l l' : List α} {a b c d : Nat} (h : Srt lt l a b) (f : Fram c d l l') (hd : b ≤ c ∨ d ≤ a) : Srt lt l' a b := fun p q x y z => by
  rw [f.2 p (by omega), f.2 q (by omega)]; exact h p q x y z
theorem Srt.all {lt : α → α → Bool} {l : List α} (h : Srt lt l 0 l.length) : l.Pairwise fun x y => lt y x = false := by
  rw [List.pairwise_iff_getElem]
  intro i j hi hj hij
  have := h i j (Nat.zero_le _) hij hj
  simpa [List.getD_eq_getElem?_getD, hi, hj] using this
theorem Srt.le {lt : α → α → Bool} (h : WO lt) {l : List α} {a b p q : Nat} (s : Srt lt l a b) (h1 : a ≤ p) (h2 : p ≤ q) (h3 : q < b) : lt (l.getD q default) (l.getD p default) = false := by
  rcases Nat.eq_or_lt_of_le h2 with rfl | h2
  · exact h.irr _
  · exact s p q h1 h2 h3
theorem Srt.glue {lt : α → α → Bool} {l : List α} {a m b : Nat} (h1 : Srt lt l a m) (h2 : Srt lt l m b) (hc : ∀ p q, a ≤ p → p < m → m ≤ q → q < b → lt (l.getD q default) (l.getD p default) = false) : Srt lt l a b := fun p q x y z => by
  by_cases hq : q < m
  · exact h1 p q x y hq
  · by_cases hp : p < m
    · exact hc p q x hp (by omega) z
    · exact h2 p q (by omega) y z
/-- An element put in where it belongs, from behind. -/
theorem srt_ins {lt : α → α → Bool} (h : WO lt) {l : List α} {a i j : Nat} (hs : Srt lt l a i) (hi : i < l.length) (h1 : a ≤ j) (h2 : j ≤ i) (hA : ∀ q, j ≤ q → q < i → lt (l.getD i default) (l.getD q default) = true)
    (hB : j = a ∨ lt (l.getD i default) (l.getD (j - 1) default) = false) : Stab lt l (mp (rotF j i (i + 1)) l) ∧ Srt lt (mp (rotF j i (i + 1)) l) a (i + 1) := by
  refine ⟨Stab.rot h h2 (by omega) (by omega) fun x y a1 a2 a3 a4 => by rw [show y = i by omega]; exact hA x a1 a2, fun p q a1 a2 a3 => ?_⟩
  rw [mp_at (by omega), mp_at (by omega)]
  have hlow : ∀ p, a ≤ p → p < j → lt (l.getD i default) (l.getD p default) = false := fun p b1 b2 => by
    rcases hB with rfl | hB
    · omega
    · exact h.ntr _ _ _ hB (hs.le h b1 (by omega) (by omega))
  have fp : ∀ k, k ≤ i → rotF j i (i + 1) k = if k < j then k else if k = j then i else k - 1 := fun k hk => by simp only [rotF]; grind
  rw [fp p (by omega), fp q (by omega)]
  by_cases c1 : q < j
  · rw [if_pos c1, if_pos (by omega)]; exact hs _ _ a1 a2 (by omega)
  · rw [if_neg c1]
    by_cases c2 : q = j
    · rw [if_pos c2, if_pos (by omega)]; exact hlow p a1 (by omega)
    · rw [if_neg c2]
      by_cases c3 : p < j
      · rw [if_pos c3]; exact hs _ _ a1 (by omega) (by omega)
      · rw [if_neg c3]
        by_cases c4 : p = j
        · rw [if_pos c4]; exact h.asym (hA _ (by omega) (by omega))
        · rw [if_neg c4]; exact hs _ _ (by omega) (by omega) (by omega)
/-- The same, from in front. -/
theorem srt_ins' {lt : α → α → Bool} (h : WO lt) {l : List α} {a i b : Nat} (hs : Srt lt l (a + 1) b) (hb : b ≤ l.length) (h1 : a + 1 ≤ i) (h2 : i ≤ b) (hA : ∀ q, a + 1 ≤ q → q < i → lt (l.getD q default) (l.getD a default) = true)
    (hB : ∀ q, i ≤ q → q < b → lt (l.getD q default) (l.getD a default) = false) : Stab lt l (mp (rotF a (a + 1) i) l) ∧ Srt lt (mp (rotF a (a + 1) i) l) a b := by
  refine ⟨Stab.rot h (by omega) h1 (by omega) fun x y a1 a2 a3 a4 => by rw [show x = a by omega]; exact hA y a3 a4, fun p q a1 a2 a3 => ?_⟩
  rw [mp_at (by omega), mp_at (by omega)]
  have fp : ∀ k, a ≤ k → rotF a (a + 1) i k = if k + 1 < i then k + 1 else if k + 1 = i then a else k := fun k hk => by simp only [rotF]; grind
  rw [fp p (by omega), fp q (by omega)]
  by_cases c1 : q + 1 < i
  · rw [if_pos c1, if_pos (by omega)]; exact hs _ _ (by omega) (by omega) (by omega)
  · rw [if_neg c1]
    by_cases c2 : q + 1 = i
    · rw [if_pos c2, if_pos (by omega)]; exact h.asym (hA _ (by omega) (by omega))
    · rw [if_neg c2]
      by_cases c3 : p + 1 < i
      · rw [if_pos c3]; exact hs _ _ (by omega) (by omega) (by omega)
      · rw [if_neg c3]
        by_cases c4 : p + 1 = i
        · rw [if_pos c4]; exact hB _ (by omega) (by omega)
        · rw [if_neg c4]; exact hs _ _ (by omega) (by omega) (by omega)
/-- What the rotation leaves: two halves, each of two sorted parts; none of the right before one of the left. -/
structure Half (lt : α → α → Bool) (l cur : List α) (a s mid e b : Nat) : Prop where
  st : Stab lt l cur
  fr : Fram a b l cur
  cr : ∀ p q, a ≤ p → p < mid → mid ≤ q → q < b → lt (cur.getD q default) (cur.getD p default) = false
  s1 : Srt lt cur a s
  s2 : Srt lt cur s mid
  s3 : Srt lt cur mid e
  s4 : Srt lt cur e b
theorem half_rot {lt : α → α → Bool} (h : WO lt) {l : List α} {a m b s mid e : Nat} (h1 : Srt lt l a m) (h2 : Srt lt l m b) (hb : b ≤ l.length) (ha : a ≤ s) (hs : s ≤ m) (he : m ≤ e) (hbb : e ≤ b) (hm : mid = s + (e - m))
    (hd : s = m ∨ m = e ∨ lt (l.getD (e - 1) default) (l.getD s default) = true) (hg : s = a ∨ e = b ∨ lt (l.getD e default) (l.getD (s - 1) default) = false) : Half lt l (mp (rotF s m e) l) a s mid e b := by
  have c1 : ∀ x y, s ≤ x → x < m → m ≤ y → y < e → lt (l.getD y default) (l.getD x default) = true := fun x y a1 a2 a3 a4 => by
    rcases hd with hd | hd | hd
    · omega
    · omega
    · exact h.le_lt (h2.le h (by omega) (show y ≤ e - 1 by omega) (by omega)) (h.lt_le hd (h1.le h (by omega) a1 (by omega)))
  have c2 : ∀ x y, a ≤ x → x < s → e ≤ y → y < b → lt (l.getD y default) (l.getD x default) = false := fun x y a1 a2 a3 a4 => by
    rcases hg with hg | hg | hg
    · omega
    · omega
    · exact h.ntr _ _ _ (h2.le h (by omega) a3 (by omega)) (h.ntr _ _ _ hg (h1.le h a1 (by omega) (by omega)))
  have fp : ∀ k, rotF s m e k = if s ≤ k ∧ k < mid then k + (m - s) else if mid ≤ k ∧ k < e then k - (e - m) else k := fun k => by subst hm; rfl
  have fl : ∀ k, k < b → k < l.length := fun k hk => by omega
  refine ⟨Stab.rot h hs he (by omega) c1, Fram.rot ha hbb hs he, fun p q a1 a2 a3 a4 => ?_, fun p q a1 a2 a3 => ?_, fun p q a1 a2 a3 => ?_, fun p q a1 a2 a3 => ?_, fun p q a1 a2 a3 => ?_⟩
  · rw [mp_at (by omega), mp_at (by omega), fp, fp, if_neg (c := s ≤ q ∧ q < mid) (by omega)]
    by_cases d1 : q < e
    · rw [if_pos (c := mid ≤ q ∧ q < e) ⟨a3, d1⟩]
      by_cases d2 : p < s
      · rw [if_neg (by omega), if_neg (by omega)]; exact h1 _ _ a1 (by omega) (by omega)
      · rw [if_pos (by omega)]; exact h.asym (c1 _ _ (by omega) (by omega) (by omega) (by omega))
    · rw [if_neg (c := mid ≤ q ∧ q < e) (by omega)]
      by_cases d2 : p < s
      · rw [if_neg (by omega), if_neg (by omega)]; exact c2 _ _ a1 d2 (by omega) a4
      · rw [if_pos (by omega)]; exact h2 _ _ (by omega) (by omega) a4
  · rw [mp_at (by omega), mp_at (by omega), fp, fp, if_neg (by omega), if_neg (by omega), if_neg (by omega), if_neg (by omega)]; exact h1 _ _ a1 a2 (by omega)
  · rw [mp_at (by omega), mp_at (by omega), fp, fp, if_pos (by omega), if_pos (by omega)]; exact h2 _ _ (by omega) (by omega) (by omega)
  · rw [mp_at (by omega), mp_at (by omega), fp, fp, if_neg (by omega), if_pos (by omega), if_neg (by omega), if_pos (by omega)]; exact h1 _ _ (by omega) (by omega) (by omega)
  · rw [mp_at (by omega), mp_at (by omega), fp, fp, if_neg (by omega), if_neg (by omega), if_neg (by omega), if_neg (by omega)]; exact h2 _ _ (by omega) a2 a3
theorem Half.left {lt : α → α → Bool} {l c1 c2 : List α} {a s mid e b : Nat} (h : Half lt l c1 a s mid e b) (hb : b ≤ l.length) (hm : mid ≤ e) (hmb : e ≤ b) (st : Stab lt c1 c2) (fr : Fram a mid c1 c2) (so : Srt lt c2 a mid) : Half lt l c2 a mid mid e b := by
  have hl := h.fr.1
  refine ⟨h.st.trans st, h.fr.trans (fr.mono (Nat.le_refl _) (by omega)), fun p q a1 a2 a3 a4 => ?_, so, .one (by omega), h.s3.fram fr (.inr (Nat.le_refl _)), h.s4.fram fr (.inr hm)⟩
  obtain ⟨j, b1, b2, b3⟩ := win_of st fr (by omega) a1 a2
  rw [b3, fr.2 q (.inr a3)]
  exact h.cr _ _ b1 b2 a3 a4
theorem Half.left0 {lt : α → α → Bool} {l c1 : List α} {a s mid e b : Nat} (h : Half lt l c1 a s mid e b) (hn : ¬ (a < s ∧ s < mid)) (ha : a ≤ s) (hs : s ≤ mid) : Half lt l c1 a mid mid e b := by
  refine ⟨h.st, h.fr, h.cr, ?_, .one (by omega), h.s3, h.s4⟩
  by_cases c : a = s
  · rw [c]; exact h.s2
  · rw [show mid = s by omega]; exact h.s1
theorem Half.right {lt : α → α → Bool} {l c2 c3 : List α} {a mid e b : Nat} (h : Half lt l c2 a mid mid e b) (hb : b ≤ l.length) (ha : a ≤ mid) (hm : mid ≤ b) (st : Stab lt c2 c3) (fr : Fram mid b c2 c3) (so : Srt lt c3 mid b) : Stab lt l c3 ∧ Fram a b l c3 ∧ Srt lt c3 a b := by
  have hl := h.fr.1
  refine ⟨h.st.trans st, h.fr.trans (fr.mono ha (Nat.le_refl _)), (h.s1.fram fr (.inl (Nat.le_refl _))).glue so fun p q a1 a2 a3 a4 => ?_⟩
  obtain ⟨j, b1, b2, b3⟩ := win_of st fr (by omega) a3 a4
  rw [b3, fr.2 p (.inl a2)]
  exact h.cr _ _ a1 a2 b1 b2
theorem Half.right0 {lt : α → α → Bool} {l c2 : List α} {a mid e b : Nat} (h : Half lt l c2 a mid mid e b) (hn : ¬ (mid < e ∧ e < b)) (hm : mid ≤ e) (hb : e ≤ b) : Stab lt l c2 ∧ Fram a b l c2 ∧ Srt lt c2 a b := by
  refine ⟨h.st, h.fr, h.s1.glue ?_ h.cr⟩
  by_cases c : mid = e
  · rw [c]; exact h.s4
  · rw [show b = e by omega]; exact h.s3
/-- Each block of bs is sorted, up to n. -/
def Blk (lt : α → α → Bool) (l : List α) (bs n : Nat) : Prop := ∀ t p q, t * bs ≤ p → p < q → q < (t + 1) * bs → q < n → lt (l.getD q default) (l.getD p default) = false
theorem Blk.all {lt : α → α → Bool} {l : List α} {bs n : Nat} (h : Blk lt l bs n) (hn : n ≤ bs) : Srt lt l 0 n := fun p q a1 a2 a3 => h 0 p q (by omega) a2 (by omega) a3
theorem blk_ins {lt : α → α → Bool} {l l' : List α} {bs t0 b : Nat} (h : Blk lt l bs (t0 * bs)) (f : Fram (t0 * bs) b l l') (s : Srt lt l' (t0 * bs) b) (hb : b ≤ (t0 + 1) * bs) : Blk lt l' bs b := fun t p q a1 a2 a3 a4 => by
  by_cases c : q < t0 * bs
  · rw [f.2 p (by omega), f.2 q (by omega)]; exact h t p q a1 a2 a3 c
  · have e1 : t * bs < (t0 + 1) * bs := by omega
    have e2 : t0 * bs < (t + 1) * bs := by omega
    have e3 := Nat.lt_of_mul_lt_mul_right e1
    have e4 := Nat.lt_of_mul_lt_mul_right e2
    obtain rfl : t = t0 := by omega
    exact s p q a1 a2 a4
/-- Blocks of 2bs up to a, of bs from there. -/
def Mix (lt : α → α → Bool) (l : List α) (bs a n : Nat) : Prop := Blk lt l (2 * bs) a ∧ ∀ t p q, t * bs ≤ p → p < q → q < (t + 1) * bs → a ≤ p → q < n → lt (l.getD q default) (l.getD p default) = false
theorem mix_0 {lt : α → α → Bool} {l : List α} {bs n : Nat} (h : Blk lt l bs n) : Mix lt l bs 0 n := ⟨fun t p q a1 a2 a3 a4 => by omega, fun t p q a1 a2 a3 _ a5 => h t p q a1 a2 a3 a5⟩
theorem mix_left {lt : α → α → Bool} {l : List α} {bs n t0 m : Nat} (h : Mix lt l bs (t0 * (2 * bs)) n) (hm : m ≤ t0 * (2 * bs) + bs) (hn : m ≤ n) : Srt lt l (t0 * (2 * bs)) m := fun p q a1 a2 a3 => by
  have e : 2 * t0 * bs = t0 * (2 * bs) := by rw [Nat.mul_comm 2 t0, Nat.mul_assoc]
  refine h.2 (2 * t0) p q (by omega) a2 (by rw [Nat.add_mul]; omega) a1 (by omega)
theorem mix_right {lt : α → α → Bool} {l : List α} {bs n t0 b : Nat} (h : Mix lt l bs (t0 * (2 * bs)) n) (hm : b ≤ t0 * (2 * bs) + 2 * bs) (hn : b ≤ n) : Srt lt l (t0 * (2 * bs) + bs) b := fun p q a1 a2 a3 => by
  have e : 2 * t0 * bs = t0 * (2 * bs) := by rw [Nat.mul_comm 2 t0, Nat.mul_assoc]
  refine h.2 (2 * t0 + 1) p q (by rw [Nat.add_mul]; omega) a2 (by rw [Nat.add_mul, Nat.add_mul]; omega) (by omega) (by omega)
theorem mix_step {lt : α → α → Bool} {l l' : List α} {bs n t0 b : Nat} (h : Mix lt l bs (t0 * (2 * bs)) n) (f : Fram (t0 * (2 * bs)) b l l') (s : Srt lt l' (t0 * (2 * bs)) b) (hb : b ≤ t0 * (2 * bs) + 2 * bs) (hab : t0 * (2 * bs) ≤ b) : Mix lt l' bs b n :=
  ⟨blk_ins h.1 f s (by rw [Nat.add_mul]; omega), fun t p q a1 a2 a3 a4 a5 => by
    rw [f.2 p (by omega), f.2 q (by omega)]; exact h.2 t p q a1 a2 a3 (by omega) a5⟩
theorem mix_end {lt : α → α → Bool} {l : List α} {bs n t0 : Nat} (h : Mix lt l bs (t0 * (2 * bs)) n) (hn : n ≤ t0 * (2 * bs) + bs) : Blk lt l (2 * bs) n := fun t p q a1 a2 a3 a4 => by
  by_cases c : q < t0 * (2 * bs)
  · exact h.1 t p q a1 a2 a3 c
  · have e1 : t * (2 * bs) < (t0 + 1) * (2 * bs) := by rw [Nat.add_mul]; omega
    have e2 : t0 * (2 * bs) < (t + 1) * (2 * bs) := by omega
    have e3 := Nat.lt_of_mul_lt_mul_right e1
    have e4 := Nat.lt_of_mul_lt_mul_right e2
    obtain rfl : t = t0 := by omega
    exact mix_left h hn (Nat.le_refl _) p q a1 a2 a4
end
end Go.HL
namespace Go.HL
open Go Go.RowKit Go.Sort
section
variable {α : Type} {E : Enc α} {f : α → Value}
theorem Mut.refl (w : World) (V : Value) : Mut w w V := ⟨rfl, rfl, rfl, Nat.le_refl _, Nat.le_refl _, fun _ _ _ => rfl⟩
end
def Bg.less (w : World) (V : Value) : Bg := ⟨fun b => if some b = V.ownBlock then none else w.heap[b]?, 0, w.drawn, w.os, w.tape, w.output, 0, Nat.le_refl _⟩
theorem HpOK.startOwn {α : Type} {V : Value} {T : TypeId} {E : Enc α} {l : List α} {w : World} (h : (rowE V T E l).holds w) : HpOK (Bg.less w V) [rowE V T E l] w := by
  have hlt : ∀ b, V.ownBlock = some b → b < w.heap.size := fun b hV => by
    have h' : RowOK V T E l (V.ownBlock.bind (w.heap[·]?)) := h
    rcases h' with ⟨rfl, _⟩ | ⟨g, cap, cur, rfl, ho, _⟩
    · simp [Value.ownBlock] at hV
    · simp only [Value.ownBlock, Option.some.injEq] at hV
      subst hV
      exact (Array.getElem?_eq_some_iff.1 ho).1
  have hb : blks [rowE V T E l] = V.ownBlock.toList := by
    cases hV : V.ownBlock <;> simp [blks, rowE, hV]
  refine ⟨rfl, rfl, rfl, Nat.zero_le _, Nat.le_refl _, fun b o e => ?_, fun e he => ?_, ?_, fun b hm => ?_, fun b hm => ?_⟩
  · simp only [Bg.less] at e
    split at e
    · cases e
    · exact e
  · obtain rfl := List.mem_singleton.1 he; exact h
  · rw [hb]; cases V.ownBlock <;> simp
  · rw [hb] at hm; exact hlt b (by simpa using hm)
  · rw [hb] at hm
    have hm' : V.ownBlock = some b := by simpa using hm
    exact ⟨by simp only [Bg.less]; rw [if_pos hm'.symm], Nat.zero_le _⟩
theorem HpOK.mutOwn {α : Type} {V V' : Value} {T : TypeId} {E : Enc α} {l : List α} {L : List Ent} {w w' : World} (h : HpOK (Bg.less w V) L w') (hm : rowE V' T E l ∈ L) (hb : V'.ownBlock = V.ownBlock) : Mut w w' V ∧ (rowE V' T E l).holds w' := by
  have key : ∀ k, k < w.heap.size → some k ≠ V.ownBlock → w'.heap[k]? = w.heap[k]? := fun k hk hne => by
    have e : (Bg.less w V).blk k = some w.heap[k] := by simp only [Bg.less]; rw [if_neg hne]; simp [hk]
    rw [h.bg k _ e]; simp [hk]
  refine ⟨⟨h.os, h.tape, h.out, ?_, h.dr, key⟩, h.ent _ hm⟩
  rcases Nat.eq_zero_or_pos w.heap.size with h0 | h0
  · omega
  · have hk : w.heap.size - 1 < w.heap.size := by omega
    by_cases hne : some (w.heap.size - 1) = V.ownBlock
    · have : w.heap.size - 1 ∈ blks L := List.mem_filterMap.2 ⟨_, hm, by show V'.ownBlock = _; rw [hb, ← hne]⟩
      have := h.lt _ this
      omega
    · have h1 := key _ hk hne
      rw [Array.getElem?_eq_getElem hk] at h1
      have := (Array.getElem?_eq_some_iff.1 h1).1
      omega
theorem enterOwn {α : Type} {T : TypeId} {E : Enc α} {l : List α} {V : Value} {P : Program} {f : FuncId} {fn : Func} {c : Code} {N : Nat} {args : List Value} {w : World} {R : Ending → World → Prop} (hr : (rowE V T E l).holds w) (hf : P.funcs[f]? = some fn) (hb : fn.body = some c) (hN : fn.ntmps = N) (hle : Nat.ble args.length N = true)
    (h : Tr N (Bg.less w V) [rowE V T E l] (frameOf 0 args) (c.wp P (bodyPost P fn R))) (hN0 : Nat.ble N mk0 = true := by rfl) : Calls P f args.toArray w R :=
  calls_of_wp hf hb (h _ w (frameOf_ok (by rw [hN]; simp) hle hN0) (HpOK.startOwn hr))
section
variable {P : Program} {ops : Array Oper} {Q : Exit → Act → World → Prop} {N : Nat} {F : Bg} {L : List Ent} {M : Fr} {ty : TypeId} {pos : String} {after : Array Edge} {rest : List Oper} {d : Nat}
/-- A call that changes one's own slice and hands it back, maybe shorter. -/
theorem Tr.callMutRow {α : Type} {E : Enc α} {l l' : List α} {V : Value} {T : TypeId} {f : FuncId} {xs : List Operand} {vs : List Value} {ts : Array TypeId} {L1 : List Ent} (hx : opvs M xs = some vs)
    (he : ∀ (args : Array Value) (w : World), (callFunc f args).run P w = .ok (.enter f args) w) (hV : Del (rowE V T E l) L L1)
    (hc : ∀ w, HpOK F L w → Calls P f vs.toArray w fun e w' => ∃ V', e = .returned V' ∧ V'.ownBlock = V.ownBlock ∧ Mut w w' V ∧ (rowE V' T E l').holds w') (hd : Nat.ble (d + 1) N = true)
    (K : ∀ V', V'.ownBlock = V.ownBlock → Tr N F (rowE V' T E l' :: L1) ((d, V') :: M) (wpList P ops Q rest)) :
    Tr N F L M (wpList P ops Q (⟨some d, .call { callee := .value (.func f), args := xs.toArray, argTypes := ts }, ty, pos, after, none⟩ :: rest)) := by
  intro a w ha hw
  refine wpList_plain rfl fun K' hK => ?_
  have hr : (execOp a.eval ⟨some d, .call { callee := .value (.func f), args := xs.toArray, argTypes := ts }, ty, pos, after, none⟩).run P w = .ok (.enter f vs.toArray) w := by
    have := ha.evals hx
    simp [execOp, resolve, Deferred.ofValue, Act.eval, invoke, he, this]
  unfold Oper.wp
  rw [hr]
  refine (hc w hw).mono fun e w' ⟨V', h1, h2, h3, h4⟩ => ?_
  subst h1
  refine hK _ _ (K V' h2 _ _ (ha.put (Nat.le_of_ble_eq_true hd)) ?_)
  have hf := hw.front hV
  cases hO : V.ownBlock with
  | none =>
    have hx : Ext w w' := ⟨⟨h3.os, h3.tape, h3.output, h3.size, fun k hk => h3.block k hk (by rw [hO]; simp)⟩, h3.dr⟩
    have hg := hf.grow hx
    have hbl : blks (rowE V' T E l' :: L1) = blks (rowE V T E l :: L1) := by simp only [blks, rowE, h2, List.filterMap_cons, hO]
    refine ⟨hg.os, hg.tape, hg.out, hg.n, hg.dr, hg.bg, fun e he => ?_, by rw [hbl]; exact hg.nodup, by rw [hbl]; exact hg.lt, by rw [hbl]; exact hg.sep⟩
    rcases List.mem_cons.1 he with rfl | he
    · exact h4
    · exact hg.ent e (.tail _ he)
  | some b =>
    have e1 : rowE V T E l = ⟨some b, RowOK V T E l⟩ := by simp [rowE, hO]
    have e2 : rowE V' T E l' = ⟨some b, RowOK V' T E l'⟩ := by simp [rowE, h2, hO]
    rw [e1] at hf
    rw [e2] at h4 ⊢
    exact HpOK.set hf (.here _) h3.os h3.tape h3.output h3.size h3.dr (fun k hk hkb => h3.block k hk (by rw [hO]; simpa using hkb)) h4
end
end Go.HL
namespace Go.HL
open Go Go.RowKit
section
variable {P : Program} {ops : Array Oper} {Q : Exit → Act → World → Prop} {N : Nat} {F : Bg} {L : List Ent} {M : Fr} {ty : TypeId} {pos : String} {after : Array Edge} {rest : List Oper} {d : Nat} {op : Op}
theorem flatMap_setEl {α : Type} (E : Enc α) (x' : α) : ∀ (l : List α) (i : Nat), i < l.length → (l.set i x').flatMap E.enc = splice (l.flatMap E.enc) (i * E.k) (E.enc x')
  | [], i, h => by simp at h
  | y :: l, 0, _ => by
    simp only [List.set_cons_zero, List.flatMap_cons, Nat.zero_mul, splice, List.take_zero, List.nil_append, Nat.zero_add, E.len]
    rw [List.drop_append_of_le_length (by rw [E.len]; exact Nat.le_refl _), List.drop_of_length_le (by rw [E.len]; exact Nat.le_refl _)]; rfl
  | y :: l, i + 1, h => by
    have ih := flatMap_setEl E x' l i (by simpa using h)
    simp only [List.set_cons_succ, List.flatMap_cons, ih, splice]
    have hl : (E.enc y).length = E.k := E.len y
    rw [show (i + 1) * E.k = (E.enc y).length + i * E.k by rw [hl, Nat.add_mul]; omega, List.take_length_add_append, show (E.enc y).length + i * E.k + (E.enc x').length = (E.enc y).length + (i * E.k + (E.enc x').length) by omega, List.drop_length_add_append]
    simp only [List.append_assoc]
theorem take_splice {cs v : List Value} {o n : Nat} (h : o + v.length ≤ n) (hn : n ≤ cs.length) : (splice cs o v).take n = splice (cs.take n) o v := by
  apply List.ext_getElem?
  intro q
  simp only [splice, List.getElem?_take, List.getElem?_append, List.length_take, List.getElem?_drop, List.length_append]
  grind
/-- A store of a whole element of one's own slice. -/
theorem Tr.storeEl {α : Type} {E : Enc α} {l : List α} (x' : α) {x y : Operand} {t T : TypeId} {V v : Value} {i : Nat} {L' : List Ent} {dst : Option Tmp} (hx : opv M x = some (.pointer (some ⟨bk V, ofs V + i * E.k, none⟩))) (hy : opv M y = some v)
    (hz : ∀ w, (sizeOf t).run P w = .ok E.k w) (hput : Put (rowE V T E l) (rowE V T E (l.set i x')) L L') (hi : i < l.length) (hc : v.cells.toList = E.enc x') (hdst : dst = none)
    (K : Tr N F L' M (wpList P ops Q rest)) : Tr N F L M (wpList P ops Q (⟨dst, .store t x y, ty, pos, after, none⟩ :: rest)) := by
  subst hdst
  intro a w ha hw
  refine wpList_plain rfl fun K' hK => ?_
  have hr : RowOK V T E l (V.ownBlock.bind (w.heap[·]?)) := hw.ent _ hput.mem
  rcases hr with ⟨_, rfl⟩ | ⟨gb, cap, cur, rfl, ho, hc1, hc2, hc3, hc4⟩
  · simp at hi
  · have ho' : w.heap[gb]? = some (.cells cur T (0, 0)) := ho
    have hlt : i * E.k + E.k ≤ l.length * E.k := by rw [← Nat.succ_mul]; exact Nat.mul_le_mul_right _ hi
    have hle : l.length * E.k ≤ cur.size := Nat.le_trans (Nat.mul_le_mul_right _ hc1) hc3
    have hs : v.cells.size = E.k := by have := congrArg List.length hc; rw [E.len] at this; simpa using this
    have hst := run_storeV (P := P) (w := w) (b := gb) (o := i * E.k) (cs := cur.toList) (T := T) (t := t) (v := v) (by simpa using ho') hz hs (by simp; omega) (by rw [hc]; intro u hu; exact E.one _ _ hu)
    simp only [bk, ofs, Nat.zero_add] at hx
    unfold Oper.wp
    simp only [execOp, ha.eval hx, ha.eval hy, Sem.run_bind, hst, Result.andThen_ok, Sem.run_pure, Oper.upon, Act.put]
    refine hK _ _ (K _ _ ha ?_)
    have e1 : rowE (.slice (some ⟨gb, 0, none⟩) l.length cap) T E l = ⟨some gb, RowOK (.slice (some ⟨gb, 0, none⟩) l.length cap) T E l⟩ := rfl
    have e2 : rowE (.slice (some ⟨gb, 0, none⟩) l.length cap) T E (l.set i x') = ⟨some gb, RowOK (.slice (some ⟨gb, 0, none⟩) l.length cap) T E (l.set i x')⟩ := rfl
    rw [e1, e2] at hput
    refine HpOK.set hw hput rfl rfl rfl (by simp) (Nat.le_refl _) (fun k _ hkb => setRow_other w gb k _ hkb) ?_
    rw [setRow_heap w gb _ _ T (0, 0) ho']
    have hll : (l.set i x').length = l.length := by simp
    refine .inr ⟨gb, cap, _, by rw [hll], rfl, by rw [hll]; exact hc1, hc2, ?_, ?_⟩
    · rw [List.size_toArray]
      simp only [splice, hc, List.length_append, List.length_take, List.length_drop, Array.length_toList, E.len]
      omega
    · rw [hll, flatMap_setEl E x' l i hi, ← hc4, hc, List.toList_toArray]
      refine take_splice ?_ ?_
      · rw [E.len]; omega
      · rw [Array.length_toList]; exact hle
/-- A call that changes one's own slice in place as R says. -/
theorem Tr.callMutR {α : Type} {E : Enc α} {l : List α} (R : List α → Prop) {V : Value} {T : TypeId} {f : FuncId} {xs : List Operand} {vs : List Value} {ts : Array TypeId} {v : Value} {L0 : List Ent} (hx : opvs M xs = some vs)
    (he : ∀ (args : Array Value) (w : World), (callFunc f args).run P w = .ok (.enter f args) w)
    (hc : ∀ w, HpOK F (rowE V T E l :: L0) w → Calls P f vs.toArray w fun e w' => e = .returned v ∧ ∃ l', R l' ∧ Mut w w' V ∧ (rowE V T E l').holds w') (hd : Nat.ble (d + 1) N = true)
    (K : ∀ l', R l' → Tr N F (rowE V T E l' :: L0) ((d, v) :: M) (wpList P ops Q rest)) :
    Tr N F (rowE V T E l :: L0) M (wpList P ops Q (⟨some d, .call { callee := .value (.func f), args := xs.toArray, argTypes := ts }, ty, pos, after, none⟩ :: rest)) := by
  intro a w ha hw
  refine wpList_plain rfl fun K' hK => ?_
  have hr : (execOp a.eval ⟨some d, .call { callee := .value (.func f), args := xs.toArray, argTypes := ts }, ty, pos, after, none⟩).run P w = .ok (.enter f vs.toArray) w := by
    have := ha.evals hx
    simp [execOp, resolve, Deferred.ofValue, Act.eval, invoke, he, this]
  unfold Oper.wp
  rw [hr]
  refine (hc w hw).mono fun e w' ⟨h1, l', h0, h2, h3⟩ => ?_
  subst h1
  exact hK _ _ (K l' h0 _ _ (ha.put (Nat.le_of_ble_eq_true hd)) (hw.mut (.here _) h2 h3))
theorem Tr.rowEq {α : Type} {E : Enc α} {l l' : List α} {V : Value} {T : TypeId} {L0 : List Ent} {X : Act → World → Prop} (h : l = l') (K : Tr N F (rowE V T E l' :: L0) M X) : Tr N F (rowE V T E l :: L0) M X := h ▸ K
theorem QS.shr1 {m : Int} {x y : Operand} {t u : TypeId} {g : Option (Nat × Bool)} {dst : Option Tmp} (hx : opv M x = some (.int .u64 m)) (hy : opv M y = some (.int .u64 1)) (hm : 0 ≤ m) :
    QS P N F L M ⟨dst, .binOp .shr t x y u, ty, pos, after, g⟩ (.int .u64 (m / 2)) := by
  have h := QS.shr (P := P) (N := N) (F := F) (L := L) (dst := dst) (t := t) (u := u) (ty := ty) (pos := pos) (after := after) (g := g) hx hy (by decide)
  rw [show m.fdiv (2 ^ min (1 : Int).toNat IntKind.u64.bits) = m / 2 from Int.fdiv_eq_ediv_of_nonneg _ (by decide)] at h
  exact h
/-- An operation of the region's beginning that looks at the frame alone. -/
theorem TrQ.pureQ {X : Act → Prop} {v : Value} (h : ∀ F, QS P N F [] M ⟨some d, op, ty, pos, after, none⟩ v) (hp : plainOp op = true) (hd : Nat.ble (d + 1) N = true) (k : TrQ N ((d, v) :: M) (wpPure P ops X rest)) :
    TrQ N M (wpPure P ops X (⟨some d, op, ty, pos, after, none⟩ :: rest)) := fun a ha =>
  ⟨v, .inl ⟨by simp [Region.wanted], fun w => QS.run (h (Bg.of w)) hp ha (HpOK.start w)⟩, k _ (ha.put (Nat.le_of_ble_eq_true hd))⟩
end
end Go.HL
namespace Go.Proofs.YtmhbfelnjkhepaaGreat
open Go Go.HL Go.RowKit
def ltCI (cmp : Ins → Ins → Int) (x y : Ins) : Bool := decide (cmp x y < 0)
def srtPI (cmp : Ins → Ins → Int) (V : Value) (l : List Ins) (a b : Nat) (w : World) : Ending → World → Prop := fun e w' => e = .returned (.tuple #[]) ∧ ∃ l', (Stab (ltCI cmp) l l' ∧ Fram a b l l' ∧ Srt (ltCI cmp) l' a b) ∧ Mut w w' V ∧ (rowE V 35 encIns l').holds w'
def SymForI (g : FuncId) (cb : List Value) (cmp : Ins → Ins → Int) (I : World → Prop) (V : Value) (n : Nat) : Prop := ∀ (l : List Ins) (a md b : Nat) (ai mdi bi : Int) (w : World), ai = ((a : Nat) : Int) → mdi = ((md : Nat) : Int) → bi = ((b : Nat) : Int) → b - a ≤ n → a < md → md < b → b ≤ l.length → l.length ≤ 1000000 → Srt (ltCI cmp) l a md → Srt (ltCI cmp) l md b → I w → (rowE V 35 encIns l).holds w → Calls Tryz.prog 93 #[V, .int .i64 ai, .int .i64 mdi, .int .i64 bi, .func (.func g) #[] cb.toArray] w (srtPI cmp V l a b w)
set_option maxRecDepth 100000 in
set_option maxHeartbeats 2000000 in
theorem insertion_ins (l : List Ins) (V : Value) (a : Nat) (b : Nat) (ai : Int) (bi : Int) (ea : ai = ((a : Nat) : Int)) (eb : bi = ((b : Nat) : Int)) (g : FuncId) (cb : List Value) (cmp : Ins → Ins → Int) (I : World → Prop) (hI : ∀ w w' l', I w → Mut w w' V → (rowE V 35 encIns l').holds w' → I w') (eg : ∀ args w, (callFunc g args).run Tryz.prog w = .ok (.enter g args) w) (hc : ∀ x y w', I w' → Calls Tryz.prog g ([Value.agg (encIns.enc x).toArray, Value.agg (encIns.enc y).toArray] ++ cb).toArray w' fun e w'' => e = .returned (.int .i64 (cmp x y)) ∧ Ext w' w'') (hO : WO (ltCI cmp)) (w : World) (hIw : I w) (hr : (rowE V 35 encIns l).holds w) (hl : l.length ≤ 1000000) (hab : a ≤ b) (hb : b ≤ l.length) :
    Calls Tryz.prog 92 #[V, .int .i64 ai, .int .i64 bi, .func (.func g) #[] cb.toArray] w (srtPI cmp V l a b w) := by
  subst ea eb
  refine enterOwn (l := l) (E := encIns) (T := 35) hr Tryz.func92 rfl Tryz.ntmps92 rfl ?_
  refine Tr.seq ?_
  refine Tr.region ?_
  refine Tr.q (QS.move rfl) rfl ?_
  refine Tr.q (QS.addI rfl rfl (by omega)) rfl ?_
  refine Tr.q (QS.assign rfl) rfl ?_
  refine Tr.nil ?_
  refine Tr.thenN ?_
  refine Tr.block ?_
  refine Tr.loop (ι := Nat × List Ins) (fun ⟨i, cur⟩ => a + 1 ≤ i ∧ (i ≤ b ∨ i = a + 1) ∧ Stab (ltCI cmp) l cur ∧ Fram a b l cur ∧ Srt (ltCI cmp) cur a i) (fun _ => _) (fun ⟨i, cur⟩ => [rowE V 35 encIns cur]) (fun ⟨i, cur⟩ => [(8, .int .i64 (i : Nat))]) (fun ⟨i, cur⟩ => b - i) (a + 1, l) ⟨Nat.le_refl _, .inr rfl, .refl _ _, .refl _ _ _, .one (Nat.le_refl _)⟩ (.cons (by first | rfl | exact lookI rfl (by omega) | exact lookI rfl (by simp) | exact lookB rfl (by simp)) Front.nil) (by repeat' (first | exact Pick.nil _ | exact Del.here _ | apply Pick.cons | apply Del.there)) rfl (fun i hi m hm => ?_)
  obtain ⟨i, cur⟩ := i
  replace hi : a + 1 ≤ i ∧ (i ≤ b ∨ i = a + 1) ∧ Stab (ltCI cmp) l cur ∧ Fram a b l cur ∧ Srt (ltCI cmp) cur a i := hi
  replace hm : m = b - i := hm
  change Tr _ _ [rowE V 35 encIns cur] ([(8, .int .i64 (i : Nat))] ++ _) _
  obtain ⟨hi1, hi2, hi3, hi4, hi5⟩ := hi
  have hcl : cur.length = l.length := hi4.1
  refine Tr.seq ?_
  refine Tr.seq ?_
  refine Tr.region ?_
  refine Tr.q (QS.move rfl) rfl ?_
  refine Tr.q (QS.move rfl) rfl ?_
  refine Tr.q (QS.lss rfl rfl) rfl ?_
  refine Tr.nil ?_
  refine Tr.thenN ?_
  refine Tr.cond rfl (fun h1 => ?_) (fun h1 => ?_)
  · try simp only [bs] at h1
    refine Tr.skip ?_
    refine Tr.thenN ?_
    refine Tr.seq ?_
    refine Tr.block ?_
    refine Tr.seq ?_
    refine Tr.region ?_
    refine Tr.q (QS.move rfl) rfl ?_
    refine Tr.q (QS.assign rfl) rfl ?_
    refine Tr.nil ?_
    refine Tr.thenN ?_
    refine Tr.block ?_
    have e0 : mp (rotF i i (i + 1)) cur = cur := rot_none (.inl rfl) (Nat.le_refl _) (by omega)
    refine Tr.rowEq e0.symm ?_
    refine Tr.loop (ι := Nat) (fun j => a ≤ j ∧ j ≤ i ∧ ∀ q, j ≤ q → q < i → ltCI cmp (cur.getD i default) (cur.getD q default) = true) (fun _ => _) (fun j => [rowE V 35 encIns (mp (rotF j i (i + 1)) cur)]) (fun j => [(9, .int .i64 (j : Nat))]) (fun j => j) i ⟨by omega, Nat.le_refl _, fun q x y => by omega⟩ (.cons (by first | rfl | exact lookI rfl (by omega) | exact lookI rfl (by simp) | exact lookB rfl (by simp)) Front.nil) (by repeat' (first | exact Pick.nil _ | exact Del.here _ | apply Pick.cons | apply Del.there)) rfl (fun j hi m hm => ?_)
    replace hi : a ≤ j ∧ j ≤ i ∧ ∀ q, j ≤ q → q < i → ltCI cmp (cur.getD i default) (cur.getD q default) = true := hi
    replace hm : m = j := hm
    change Tr _ _ [rowE V 35 encIns (mp (rotF j i (i + 1)) cur)] ([(9, .int .i64 (j : Nat))] ++ _) _
    obtain ⟨hj1, hj2, hj3⟩ := hi
    have hml : (mp (rotF j i (i + 1)) cur).length = l.length := by rw [mp_len]; exact hcl
    have ej : ((j : Int) - 1).toNat = j - 1 := by omega
    have ev : (mp (rotF j i (i + 1)) cur).getD j default = cur.getD i default := by rw [mp_at (by omega)]; congr 1; have := rotF_cases j i (i + 1) j; omega
    have ew : 0 < j → (mp (rotF j i (i + 1)) cur).getD (j - 1) default = cur.getD (j - 1) default := fun q => by rw [mp_at (by omega)]; congr 1; have := rotF_cases j i (i + 1) (j - 1); omega
    refine Tr.seq ?_
    refine Tr.seq ?_
    refine Tr.regionQ HLF.mixed (by kernel_rfl) ?_
    refine TrQ.q (QS.move rfl) rfl ?_
    refine TrQ.q (QS.move rfl) rfl ?_
    refine TrQ.q (QS.gtr rfl rfl) rfl ?_
    refine TrQ.q (QS.move rfl) rfl ?_
    apply TrQ.andP
    · exact (rfl : _ = (13, 21, 34))
    · exact rfl
    · intro hT2; have hT2' := hT2
      try simp only [bs] at hT2'
      refine TrQ.gq rfl rfl hT2 (QS.move rfl) rfl ?_
      refine TrQ.gq rfl rfl hT2 (QS.move rfl) rfl ?_
      refine TrQ.gq rfl rfl hT2 (QS.move rfl) rfl ?_
      refine TrQ.gq rfl rfl hT2 (QS.idxRowN rfl rfl (by repeat (first | exact List.Mem.head _ | apply List.Mem.tail)) Tryz.underlying22 Tryz.sizeOf35 (by rfl) (by omega)) rfl ?_
      refine TrQ.gq rfl rfl hT2 (QS.elRA rfl (by repeat (first | exact List.Mem.head _ | apply List.Mem.tail)) Tryz.isAgg35 Tryz.sizeOf35 (by rfl) (by omega)) rfl ?_
      refine TrQ.gq rfl rfl hT2 (QS.move rfl) rfl ?_
      refine TrQ.gq rfl rfl hT2 (QS.move rfl) rfl ?_
      refine TrQ.gq rfl rfl hT2 (QS.subI rfl rfl (by omega)) rfl ?_
      refine TrQ.gq rfl rfl hT2 (QS.idxRow rfl rfl (by repeat (first | exact List.Mem.head _ | apply List.Mem.tail)) Tryz.underlying22 Tryz.sizeOf35 (by rfl) (by omega)) rfl ?_
      refine TrQ.gq rfl rfl hT2 (QS.elRA rfl (by repeat (first | exact List.Mem.head _ | apply List.Mem.tail)) Tryz.isAgg35 Tryz.sizeOf35 (by rfl) (by omega)) rfl ?_
      refine TrQ.gq rfl rfl hT2 (QS.callV rfl rfl eg (fun w hw => hc _ _ w (hI _ _ _ hIw (HpOK.mutOwn hw (.head _) rfl).1 (HpOK.mutOwn hw (.head _) rfl).2))) rfl ?_
      refine TrQ.gq rfl rfl hT2 (QS.lss rfl rfl) rfl ?_
      refine TrQ.q (QS.pickT rfl hT2 rfl) rfl ?_
      exact TrQ.end (Sub.cons rfl (Sub.dropN 13 (by kernel_rfl) rfl))
    · intro hF2
      refine TrQ.gskip rfl rfl hF2 rfl ?_
      refine TrQ.gskip rfl rfl hF2 rfl ?_
      refine TrQ.gskip rfl rfl hF2 rfl ?_
      refine TrQ.gskip rfl rfl hF2 rfl ?_
      refine TrQ.gskip rfl rfl hF2 rfl ?_
      refine TrQ.gskip rfl rfl hF2 rfl ?_
      refine TrQ.gskip rfl rfl hF2 rfl ?_
      refine TrQ.gskip rfl rfl hF2 rfl ?_
      refine TrQ.gskip rfl rfl hF2 rfl ?_
      refine TrQ.gskip rfl rfl hF2 rfl ?_
      refine TrQ.gskip rfl rfl hF2 rfl ?_
      refine TrQ.gskip rfl rfl hF2 rfl ?_
      refine TrQ.q (QS.pickF rfl hF2 rfl) rfl ?_
      exact TrQ.end (Sub.cons rfl (Sub.dropN 13 (by kernel_rfl) rfl))
    refine TrQ.nil ?_
    refine Tr.thenN ?_
    refine Tr.cond rfl (fun h3 => ?_) (fun h3 => ?_)
    · try simp only [bs] at h3
      refine Tr.skip ?_
      refine Tr.thenN ?_
      refine Tr.seq ?_
      refine Tr.block ?_
      refine Tr.regionT 5 15 HLF.mixed (by kernel_rfl) (panicIn (panicThen (panicThen (panicIn (panicIn (panicThen (panicThen (panicIn panicBody)))))))) ?_
      refine TrQ.pureMove rfl rfl ?_
      refine TrQ.pureMove rfl rfl ?_
      refine TrQ.pureMove rfl rfl ?_
      refine TrQ.pureMove rfl rfl ?_
      refine TrQ.pureQ (fun _ => QS.subI rfl rfl (by omega)) (by rfl) rfl ?_
      refine TrQ.pureNil ?_
      refine TrQ.q (QS.move rfl) rfl ?_
      refine TrQ.q (QS.move rfl) rfl ?_
      refine TrQ.q (QS.subI rfl rfl (by omega)) rfl ?_
      refine TrQ.q (QS.idxRow rfl rfl (by repeat (first | exact List.Mem.head _ | apply List.Mem.tail)) Tryz.underlying22 Tryz.sizeOf35 (by rfl) (by omega)) rfl ?_
      refine TrQ.q (QS.elRA rfl (by repeat (first | exact List.Mem.head _ | apply List.Mem.tail)) Tryz.isAgg35 Tryz.sizeOf35 (by rfl) (by omega)) rfl ?_
      refine TrQ.q (QS.move rfl) rfl ?_
      refine TrQ.q (QS.move rfl) rfl ?_
      refine TrQ.q (QS.idxRowN rfl rfl (by repeat (first | exact List.Mem.head _ | apply List.Mem.tail)) Tryz.underlying22 Tryz.sizeOf35 (by rfl) (by omega)) rfl ?_
      refine TrQ.q (QS.elRA rfl (by repeat (first | exact List.Mem.head _ | apply List.Mem.tail)) Tryz.isAgg35 Tryz.sizeOf35 (by rfl) (by omega)) rfl ?_
      refine TrQ.q (QS.idxRowN rfl rfl (by repeat (first | exact List.Mem.head _ | apply List.Mem.tail)) Tryz.underlying22 Tryz.sizeOf35 (by rfl) (by omega)) rfl ?_
      refine TrQ.nil ?_
      refine Tr.storeEl (l := (mp (rotF j i (i + 1)) cur)) (i := j) ((mp (rotF j i (i + 1)) cur).getD (((j : Int) - 1).toNat) default) rfl rfl Tryz.sizeOf35 (by repeat (first | exact Put.here _ | apply Put.there)) (by (try simp only [List.length_set]); omega) (by rfl) rfl ?_
      have hls4 : (List.set (mp (rotF j i (i + 1)) cur) (j) ((mp (rotF j i (i + 1)) cur).getD (((j : Int) - 1).toNat) default)).length = ((mp (rotF j i (i + 1)) cur)).length := List.length_set
      refine Tr.q (QS.idxRow rfl rfl (by repeat (first | exact List.Mem.head _ | apply List.Mem.tail)) Tryz.underlying22 Tryz.sizeOf35 (by rfl) (by omega)) rfl ?_
      refine Tr.storeEl (l := ((mp (rotF j i (i + 1)) cur).set (j) ((mp (rotF j i (i + 1)) cur).getD (((j : Int) - 1).toNat) default))) (i := ((j : Int) - 1).toNat) ((mp (rotF j i (i + 1)) cur).getD (j) default) rfl rfl Tryz.sizeOf35 (by repeat (first | exact Put.here _ | apply Put.there)) (by (try simp only [List.length_set]); omega) (by rfl) rfl ?_
      have hls5 : (List.set ((mp (rotF j i (i + 1)) cur).set (j) ((mp (rotF j i (i + 1)) cur).getD (((j : Int) - 1).toNat) default)) (((j : Int) - 1).toNat) ((mp (rotF j i (i + 1)) cur).getD (j) default)).length = (((mp (rotF j i (i + 1)) cur).set (j) ((mp (rotF j i (i + 1)) cur).getD (((j : Int) - 1).toNat) default))).length := List.length_set
      refine Tr.nil ?_
      refine Tr.inN ?_
      refine Tr.thenN ?_
      refine Tr.region ?_
      refine Tr.q (QS.move rfl) rfl ?_
      refine Tr.q (QS.subI rfl rfl (by omega)) rfl ?_
      refine Tr.q (QS.assign rfl) rfl ?_
      refine Tr.nil ?_
      refine Tr.thenN ?_
      have hsw := mp_sw (l := (mp (rotF j i (i + 1)) cur)) (p := j) (q := j - 1) (by omega) (by omega)
      rw [rot_down (by omega) hj2 (by omega)] at hsw
      have hlt : ltCI cmp (cur.getD i default) (cur.getD (j - 1) default) = true := by
        rw [← ev, ← ew (by omega), ← ej]
        simpa [ltCI] using h3.2
      have hj3' : ∀ q, j - 1 ≤ q → q < i → ltCI cmp (cur.getD i default) (cur.getD q default) = true := fun q x y => by
        by_cases c : q = j - 1
        · rw [c]; exact hlt
        · exact hj3 q (by omega) y
      rw [ej, hsw]
      apply Tr.again (j - 1)
      · exact rfl
      · exact (.cons (by first | rfl | exact lookI rfl (by omega) | exact lookI rfl (by simp) | exact lookB rfl (by simp)) Front.nil)
      · exact SubX.dropN 25 (by kernel_rfl) rfl
      · exact (by repeat' (first | exact Pick.nil _ | exact Del.here _ | apply Pick.cons | apply Del.there))
      · exact ⟨by omega, by omega, hj3'⟩
      · exact (by (try dsimp only); omega)
    · try simp only [bs] at h3
      refine Tr.exit ?_
      refine Tr.thenE ?_
      refine Tr.thenE ?_
      refine Tr.inHit ?_
      refine Tr.inN ?_
      refine Tr.thenN ?_
      refine Tr.region ?_
      refine Tr.q (QS.move rfl) rfl ?_
      refine Tr.q (QS.addI rfl rfl (by omega)) rfl ?_
      refine Tr.q (QS.assign rfl) rfl ?_
      refine Tr.nil ?_
      refine Tr.thenN ?_
      have hB : j = a ∨ ltCI cmp (cur.getD i default) (cur.getD (j - 1) default) = false := by
        rcases h3 with h3 | h3
        · exact .inl (by omega)
        · by_cases q : j = a
          · exact .inl q
          · refine .inr ?_
            rw [← ev, ← ew (by omega), ← ej]
            simpa [ltCI] using h3
      have hin := srt_ins hO hi5 (by omega) hj1 hj2 hj3 hB
      have hfr : Fram a b l (mp (rotF j i (i + 1)) cur) := hi4.trans (Fram.rot hj1 (by omega) hj2 (by omega))
      apply Tr.again (i + 1, _)
      · exact rfl
      · exact (.cons (by first | rfl | exact lookI rfl (by omega) | exact lookI rfl (by simp) | exact lookB rfl (by simp)) Front.nil)
      · exact SubX.dropN 15 (by kernel_rfl) rfl
      · exact (by repeat' (first | exact Pick.nil _ | exact Del.here _ | apply Pick.cons | apply Del.there))
      · exact ⟨by omega, by omega, hi3.trans hin.1, hfr, hin.2⟩
      · exact (by (try dsimp only); omega)
  · try simp only [bs] at h1
    refine Tr.exit ?_
    refine Tr.thenE ?_
    refine Tr.thenE ?_
    refine Tr.inHit ?_
    refine Tr.ret0n Tryz.results92 (fun w' hw => ?_)
    exact ⟨rfl, _, ⟨hi3, hi4, hi5.sub (Nat.le_refl _) (by omega)⟩, HpOK.mutOwn hw (.head _) rfl⟩
set_option maxRecDepth 100000 in
set_option maxHeartbeats 2000000 in
theorem swapRange_ins (l : List Ins) (V : Value) (a : Nat) (b : Nat) (n : Nat) (ai : Int) (bi : Int) (ni : Int) (ea : ai = ((a : Nat) : Int)) (eb : bi = ((b : Nat) : Int)) (en : ni = ((n : Nat) : Int)) (cv : Value) (w : World) (hr : (rowE V 35 encIns l).holds w) (hl : l.length ≤ 1000000) (hab : a + n ≤ b) (hb : b + n ≤ l.length) :
    Calls Tryz.prog 149 #[V, .int .i64 ai, .int .i64 bi, .int .i64 ni, cv] w (fun e w' => e = .returned (.tuple #[]) ∧ Mut w w' V ∧ (rowE V 35 encIns (mp (swR a b n) l)).holds w') := by
  subst ea eb en
  refine enterOwn (l := l) (E := encIns) (T := 35) hr Tryz.func149 rfl Tryz.ntmps149 rfl ?_
  refine Tr.seq ?_
  refine Tr.region ?_
  refine Tr.q (QS.assign rfl) rfl ?_
  refine Tr.nil ?_
  refine Tr.thenN ?_
  refine Tr.block ?_
  have e0 : mp (swR a b 0) l = l := swR_0
  refine Tr.rowEq e0.symm ?_
  refine Tr.loop (ι := Nat) (fun i => i ≤ n) (fun _ => _) (fun i => [rowE V 35 encIns (mp (swR a b i) l)]) (fun i => [(10, .int .i64 (i : Nat))]) (fun i => n - i) 0 (Nat.zero_le _) (.cons (by first | rfl | exact lookI rfl (by omega) | exact lookI rfl (by simp) | exact lookB rfl (by simp)) Front.nil) (by repeat' (first | exact Pick.nil _ | exact Del.here _ | apply Pick.cons | apply Del.there)) rfl (fun i hi m hm => ?_)
  replace hi : i ≤ n := hi
  replace hm : m = n - i := hm
  change Tr _ _ [rowE V 35 encIns (mp (swR a b i) l)] ([(10, .int .i64 (i : Nat))] ++ _) _
  have hml : (mp (swR a b i) l).length = l.length := mp_len _ _
  refine Tr.seq ?_
  refine Tr.seq ?_
  refine Tr.region ?_
  refine Tr.q (QS.move rfl) rfl ?_
  refine Tr.q (QS.move rfl) rfl ?_
  refine Tr.q (QS.lss rfl rfl) rfl ?_
  refine Tr.nil ?_
  refine Tr.thenN ?_
  refine Tr.cond rfl (fun h1 => ?_) (fun h1 => ?_)
  · try simp only [bs] at h1
    refine Tr.skip ?_
    refine Tr.thenN ?_
    refine Tr.seq ?_
    refine Tr.block ?_
    refine Tr.regionT 8 21 HLF.mixed (by kernel_rfl) (panicIn (panicThen (panicThen (panicIn panicBody)))) ?_
    refine TrQ.pureMove rfl rfl ?_
    refine TrQ.pureMove rfl rfl ?_
    refine TrQ.pureMove rfl rfl ?_
    refine TrQ.pureQ (fun _ => QS.addI rfl rfl (by omega)) (by rfl) rfl ?_
    refine TrQ.pureMove rfl rfl ?_
    refine TrQ.pureMove rfl rfl ?_
    refine TrQ.pureMove rfl rfl ?_
    refine TrQ.pureQ (fun _ => QS.addI rfl rfl (by omega)) (by rfl) rfl ?_
    refine TrQ.pureNil ?_
    refine TrQ.q (QS.move rfl) rfl ?_
    refine TrQ.q (QS.move rfl) rfl ?_
    refine TrQ.q (QS.move rfl) rfl ?_
    refine TrQ.q (QS.addI rfl rfl (by omega)) rfl ?_
    refine TrQ.q (QS.idxRowN rfl rfl (by repeat (first | exact List.Mem.head _ | apply List.Mem.tail)) Tryz.underlying22 Tryz.sizeOf35 (by rfl) (by omega)) rfl ?_
    refine TrQ.q (QS.elRA rfl (by repeat (first | exact List.Mem.head _ | apply List.Mem.tail)) Tryz.isAgg35 Tryz.sizeOf35 (by rfl) (by omega)) rfl ?_
    refine TrQ.q (QS.move rfl) rfl ?_
    refine TrQ.q (QS.move rfl) rfl ?_
    refine TrQ.q (QS.move rfl) rfl ?_
    refine TrQ.q (QS.addI rfl rfl (by omega)) rfl ?_
    refine TrQ.q (QS.idxRowN rfl rfl (by repeat (first | exact List.Mem.head _ | apply List.Mem.tail)) Tryz.underlying22 Tryz.sizeOf35 (by rfl) (by omega)) rfl ?_
    refine TrQ.q (QS.elRA rfl (by repeat (first | exact List.Mem.head _ | apply List.Mem.tail)) Tryz.isAgg35 Tryz.sizeOf35 (by rfl) (by omega)) rfl ?_
    refine TrQ.q (QS.idxRowN rfl rfl (by repeat (first | exact List.Mem.head _ | apply List.Mem.tail)) Tryz.underlying22 Tryz.sizeOf35 (by rfl) (by omega)) rfl ?_
    refine TrQ.nil ?_
    refine Tr.storeEl (l := (mp (swR a b i) l)) (i := a + i) ((mp (swR a b i) l).getD (b + i) default) rfl rfl Tryz.sizeOf35 (by repeat (first | exact Put.here _ | apply Put.there)) (by (try simp only [List.length_set]); omega) (by rfl) rfl ?_
    have hls2 : (List.set (mp (swR a b i) l) (a + i) ((mp (swR a b i) l).getD (b + i) default)).length = ((mp (swR a b i) l)).length := List.length_set
    refine Tr.q (QS.idxRowN rfl rfl (by repeat (first | exact List.Mem.head _ | apply List.Mem.tail)) Tryz.underlying22 Tryz.sizeOf35 (by rfl) (by omega)) rfl ?_
    refine Tr.storeEl (l := ((mp (swR a b i) l).set (a + i) ((mp (swR a b i) l).getD (b + i) default))) (i := b + i) ((mp (swR a b i) l).getD (a + i) default) rfl rfl Tryz.sizeOf35 (by repeat (first | exact Put.here _ | apply Put.there)) (by (try simp only [List.length_set]); omega) (by rfl) rfl ?_
    have hls3 : (List.set ((mp (swR a b i) l).set (a + i) ((mp (swR a b i) l).getD (b + i) default)) (b + i) ((mp (swR a b i) l).getD (a + i) default)).length = (((mp (swR a b i) l).set (a + i) ((mp (swR a b i) l).getD (b + i) default))).length := List.length_set
    refine Tr.nil ?_
    refine Tr.inN ?_
    refine Tr.thenN ?_
    refine Tr.region ?_
    refine Tr.q (QS.move rfl) rfl ?_
    refine Tr.q (QS.addI rfl rfl (by omega)) rfl ?_
    refine Tr.q (QS.assign rfl) rfl ?_
    refine Tr.nil ?_
    refine Tr.thenN ?_
    have hsw := mp_sw (l := (mp (swR a b i) l)) (p := a + i) (q := b + i) (by omega) (by omega)
    rw [swR_step hab hb (by omega)] at hsw
    rw [hsw]
    apply Tr.again (i + 1)
    · exact rfl
    · exact (.cons (by first | rfl | exact lookI rfl (by omega) | exact lookI rfl (by simp) | exact lookB rfl (by simp)) Front.nil)
    · exact SubX.dropN 29 (by kernel_rfl) rfl
    · exact (by repeat' (first | exact Pick.nil _ | exact Del.here _ | apply Pick.cons | apply Del.there))
    · exact (by show i + 1 ≤ n; omega)
    · exact (by (try dsimp only); omega)
  · try simp only [bs] at h1
    refine Tr.exit ?_
    refine Tr.thenE ?_
    refine Tr.thenE ?_
    refine Tr.inHit ?_
    refine Tr.ret0n Tryz.results149 (fun w' hw => ?_)
    obtain rfl : i = n := by omega
    exact ⟨rfl, HpOK.mutOwn hw (.head _) rfl⟩
set_option maxRecDepth 100000 in
set_option maxHeartbeats 2000000 in
theorem rotate_ins (l : List Ins) (V : Value) (a : Nat) (md : Nat) (b : Nat) (ai : Int) (mdi : Int) (bi : Int) (ea : ai = ((a : Nat) : Int)) (emd : mdi = ((md : Nat) : Int)) (eb : bi = ((b : Nat) : Int)) (cv : Value) (w : World) (hr : (rowE V 35 encIns l).holds w) (hl : l.length ≤ 1000000) (ham : a < md) (hmb : md < b) (hb : b ≤ l.length) :
    Calls Tryz.prog 118 #[V, .int .i64 ai, .int .i64 mdi, .int .i64 bi, cv] w (fun e w' => e = .returned (.tuple #[]) ∧ Mut w w' V ∧ (rowE V 35 encIns (mp (rotF a md b) l)).holds w') := by
  subst ea emd eb
  refine enterOwn (l := l) (E := encIns) (T := 35) hr Tryz.func118 rfl Tryz.ntmps118 rfl ?_
  refine Tr.seq ?_
  refine Tr.region ?_
  refine Tr.q (QS.move rfl) rfl ?_
  refine Tr.q (QS.move rfl) rfl ?_
  refine Tr.q (QS.subI rfl rfl (by omega)) rfl ?_
  refine Tr.q (QS.assign rfl) rfl ?_
  refine Tr.nil ?_
  refine Tr.thenN ?_
  refine Tr.seq ?_
  refine Tr.region ?_
  refine Tr.q (QS.move rfl) rfl ?_
  refine Tr.q (QS.move rfl) rfl ?_
  refine Tr.q (QS.subI rfl rfl (by omega)) rfl ?_
  refine Tr.q (QS.assign rfl) rfl ?_
  refine Tr.nil ?_
  refine Tr.thenN ?_
  refine Tr.seq ?_
  refine Tr.block ?_
  refine Tr.loop (ι := Nat × Nat × List Ins) (fun ⟨i, j, cur⟩ => 0 < i ∧ 0 < j ∧ i ≤ md ∧ md + j ≤ l.length ∧ cur.length = l.length ∧ mp (rotF (md - i) md (md + j)) cur = mp (rotF a md b) l) (fun _ => _) (fun ⟨i, j, cur⟩ => [rowE V 35 encIns cur]) (fun ⟨i, j, cur⟩ => [(10, .int .i64 (i : Nat)), (11, .int .i64 (j : Nat))]) (fun ⟨i, j, cur⟩ => i + j) (md - a, b - md, l) ⟨by omega, by omega, by omega, by omega, rfl, by rw [show md - (md - a) = a by omega, show md + (b - md) = b by omega]⟩ (.cons (by first | rfl | exact lookI rfl (by omega) | exact lookI rfl (by simp) | exact lookB rfl (by simp)) (.cons (by first | rfl | exact lookI rfl (by omega) | exact lookI rfl (by simp) | exact lookB rfl (by simp)) Front.nil)) (by repeat' (first | exact Pick.nil _ | exact Del.here _ | apply Pick.cons | apply Del.there)) rfl (fun i hi m hm => ?_)
  obtain ⟨i, j, cur⟩ := i
  replace hi : 0 < i ∧ 0 < j ∧ i ≤ md ∧ md + j ≤ l.length ∧ cur.length = l.length ∧ mp (rotF (md - i) md (md + j)) cur = mp (rotF a md b) l := hi
  replace hm : m = i + j := hm
  change Tr _ _ [rowE V 35 encIns cur] ([(10, .int .i64 (i : Nat)), (11, .int .i64 (j : Nat))] ++ _) _
  obtain ⟨hi1, hi2, hi3, hi4, hi5, hi6⟩ := hi
  refine Tr.seq ?_
  refine Tr.seq ?_
  refine Tr.region ?_
  refine Tr.q (QS.move rfl) rfl ?_
  refine Tr.q (QS.move rfl) rfl ?_
  refine Tr.q (QS.neq rfl rfl) rfl ?_
  refine Tr.nil ?_
  refine Tr.thenN ?_
  refine Tr.cond rfl (fun h1 => ?_) (fun h1 => ?_)
  · try simp only [bs] at h1
    refine Tr.skip ?_
    refine Tr.thenN ?_
    refine Tr.block ?_
    refine Tr.seq ?_
    refine Tr.region ?_
    refine Tr.q (QS.move rfl) rfl ?_
    refine Tr.q (QS.move rfl) rfl ?_
    refine Tr.q (QS.gtr rfl rfl) rfl ?_
    refine Tr.nil ?_
    refine Tr.thenN ?_
    refine Tr.cond rfl (fun h2 => ?_) (fun h2 => ?_)
    · try simp only [bs] at h2
      refine Tr.seq ?_
      refine Tr.region ?_
      refine Tr.q (QS.move rfl) rfl ?_
      refine Tr.q (QS.move rfl) rfl ?_
      refine Tr.q (QS.move rfl) rfl ?_
      refine Tr.q (QS.subI rfl rfl (by omega)) rfl ?_
      refine Tr.q (QS.move rfl) rfl ?_
      refine Tr.q (QS.move rfl) rfl ?_
      refine Tr.q (QS.move rfl) rfl ?_
      refine Tr.callMut rfl Tryz.call149 (by repeat (first | exact Put.here _ | apply Put.there)) (fun w hw => swapRange_ins cur V (md - i) md j _ _ _ (by omega) (by omega) (by omega) cv w (hw.ent _ (.head _)) (by omega) (by omega) (by omega)) rfl ?_
      refine Tr.nil ?_
      refine Tr.thenN ?_
      refine Tr.region ?_
      refine Tr.q (QS.move rfl) rfl ?_
      refine Tr.q (QS.move rfl) rfl ?_
      refine Tr.q (QS.subI rfl rfl (by omega)) rfl ?_
      refine Tr.q (QS.assign rfl) rfl ?_
      refine Tr.nil ?_
      refine Tr.inN ?_
      refine Tr.thenN ?_
      have hn := (rot_gt (l := cur) (m := md) (i := i) (j := j) hi3 (by omega) (by omega)).trans hi6
      apply Tr.again (i - j, j, _)
      · exact rfl
      · exact (.cons (by first | rfl | exact lookI rfl (by omega) | exact lookI rfl (by simp) | exact lookB rfl (by simp)) (.cons (by first | rfl | exact lookI rfl (by omega) | exact lookI rfl (by simp) | exact lookB rfl (by simp)) Front.nil))
      · exact SubX.dropN 20 (by kernel_rfl) rfl
      · exact (by repeat' (first | exact Pick.nil _ | exact Del.here _ | apply Pick.cons | apply Del.there))
      · exact ⟨by omega, hi2, by omega, hi4, by rw [mp_len]; exact hi5, hn⟩
      · exact (by (try dsimp only); omega)
    · try simp only [bs] at h2
      refine Tr.seq ?_
      refine Tr.region ?_
      refine Tr.q (QS.move rfl) rfl ?_
      refine Tr.q (QS.move rfl) rfl ?_
      refine Tr.q (QS.move rfl) rfl ?_
      refine Tr.q (QS.subI rfl rfl (by omega)) rfl ?_
      refine Tr.q (QS.move rfl) rfl ?_
      refine Tr.q (QS.move rfl) rfl ?_
      refine Tr.q (QS.addI rfl rfl (by omega)) rfl ?_
      refine Tr.q (QS.move rfl) rfl ?_
      refine Tr.q (QS.subI rfl rfl (by omega)) rfl ?_
      refine Tr.q (QS.move rfl) rfl ?_
      refine Tr.q (QS.move rfl) rfl ?_
      refine Tr.callMut rfl Tryz.call149 (by repeat (first | exact Put.here _ | apply Put.there)) (fun w hw => swapRange_ins cur V (md - i) (md + j - i) i _ _ _ (by omega) (by omega) (by omega) cv w (hw.ent _ (.head _)) (by omega) (by omega) (by omega)) rfl ?_
      refine Tr.nil ?_
      refine Tr.thenN ?_
      refine Tr.region ?_
      refine Tr.q (QS.move rfl) rfl ?_
      refine Tr.q (QS.move rfl) rfl ?_
      refine Tr.q (QS.subI rfl rfl (by omega)) rfl ?_
      refine Tr.q (QS.assign rfl) rfl ?_
      refine Tr.nil ?_
      refine Tr.inN ?_
      refine Tr.thenN ?_
      have hn := (rot_lt (l := cur) (m := md) (i := i) (j := j) hi3 (by omega) (by omega)).trans hi6
      apply Tr.again (i, j - i, _)
      · exact rfl
      · exact (.cons (by first | rfl | exact lookI rfl (by omega) | exact lookI rfl (by simp) | exact lookB rfl (by simp)) (.cons (by first | rfl | exact lookI rfl (by omega) | exact lookI rfl (by simp) | exact lookB rfl (by simp)) Front.nil))
      · exact SubX.dropN 24 (by kernel_rfl) rfl
      · exact (by repeat' (first | exact Pick.nil _ | exact Del.here _ | apply Pick.cons | apply Del.there))
      · exact ⟨hi1, by omega, hi3, by omega, by rw [mp_len]; exact hi5, hn⟩
      · exact (by (try dsimp only); omega)
  · try simp only [bs] at h1
    refine Tr.exit ?_
    refine Tr.thenE ?_
    refine Tr.thenE ?_
    refine Tr.inHit ?_
    refine Tr.thenN ?_
    refine Tr.region ?_
    refine Tr.q (QS.move rfl) rfl ?_
    refine Tr.q (QS.move rfl) rfl ?_
    refine Tr.q (QS.move rfl) rfl ?_
    refine Tr.q (QS.subI rfl rfl (by omega)) rfl ?_
    refine Tr.q (QS.move rfl) rfl ?_
    refine Tr.q (QS.move rfl) rfl ?_
    refine Tr.q (QS.move rfl) rfl ?_
    refine Tr.callMut rfl Tryz.call149 (by repeat (first | exact Put.here _ | apply Put.there)) (fun w hw => swapRange_ins cur V (md - i) md i _ _ _ (by omega) (by omega) (by omega) cv w (hw.ent _ (.head _)) (by omega) (by omega) (by omega)) rfl ?_
    refine Tr.nil ?_
    refine Tr.ret0n Tryz.results118 (fun w' hw => ?_)
    obtain rfl : j = i := by omega
    rw [rot_eq hi3, hi6] at hw
    exact ⟨rfl, HpOK.mutOwn hw (.head _) rfl⟩
set_option maxRecDepth 100000 in
set_option maxHeartbeats 8000000 in
theorem sym_stepI (l : List Ins) (V : Value) (a : Nat) (md : Nat) (b : Nat) (ai : Int) (mdi : Int) (bi : Int) (ea : ai = ((a : Nat) : Int)) (emd : mdi = ((md : Nat) : Int)) (eb : bi = ((b : Nat) : Int)) (g : FuncId) (cb : List Value) (cmp : Ins → Ins → Int) (I : World → Prop) (hI : ∀ w w' l', I w → Mut w w' V → (rowE V 35 encIns l').holds w' → I w') (eg : ∀ args w, (callFunc g args).run Tryz.prog w = .ok (.enter g args) w) (hc : ∀ x y w', I w' → Calls Tryz.prog g ([Value.agg (encIns.enc x).toArray, Value.agg (encIns.enc y).toArray] ++ cb).toArray w' fun e w'' => e = .returned (.int .i64 (cmp x y)) ∧ Ext w' w'') (hO : WO (ltCI cmp)) (w : World) (hIw : I w) (hr : (rowE V 35 encIns l).holds w) (hl : l.length ≤ 1000000) (ih : ∀ n, n < b - a → SymForI g cb cmp I V n) (ham : a < md) (hmb : md < b) (hb : b ≤ l.length) (h1s : Srt (ltCI cmp) l a md) (h2s : Srt (ltCI cmp) l md b) :
    Calls Tryz.prog 93 #[V, .int .i64 ai, .int .i64 mdi, .int .i64 bi, .func (.func g) #[] cb.toArray] w (srtPI cmp V l a b w) := by
  subst ea emd eb
  refine enterOwn (l := l) (E := encIns) (T := 35) hr Tryz.func93 rfl Tryz.ntmps93 rfl ?_
  refine Tr.seq ?_
  refine Tr.seq ?_
  refine Tr.region ?_
  refine Tr.q (QS.move rfl) rfl ?_
  refine Tr.q (QS.move rfl) rfl ?_
  refine Tr.q (QS.subI rfl rfl (by omega)) rfl ?_
  refine Tr.q (QS.eql rfl rfl) rfl ?_
  refine Tr.nil ?_
  refine Tr.thenN ?_
  refine Tr.cond rfl (fun h1 => ?_) (fun h1 => ?_)
  · try simp only [bs] at h1
    refine Tr.seq ?_
    refine Tr.region ?_
    refine Tr.q (QS.move rfl) rfl ?_
    refine Tr.q (QS.assign rfl) rfl ?_
    refine Tr.nil ?_
    refine Tr.thenN ?_
    refine Tr.seq ?_
    refine Tr.region ?_
    refine Tr.q (QS.move rfl) rfl ?_
    refine Tr.q (QS.assign rfl) rfl ?_
    refine Tr.nil ?_
    refine Tr.thenN ?_
    refine Tr.seq ?_
    refine Tr.block ?_
    refine Tr.loop (ι := Nat × Nat) (fun ⟨i, j⟩ => md ≤ i ∧ i ≤ j ∧ j ≤ b ∧ (∀ q, md ≤ q → q < i → ltCI cmp (l.getD q default) (l.getD a default) = true) ∧ (∀ q, j ≤ q → q < b → ltCI cmp (l.getD q default) (l.getD a default) = false)) (fun _ => _) (fun ⟨i, j⟩ => [rowE V 35 encIns l]) (fun ⟨i, j⟩ => [(10, .int .i64 (i : Nat)), (11, .int .i64 (j : Nat))]) (fun ⟨i, j⟩ => j - i) (md, b) ⟨Nat.le_refl _, by omega, Nat.le_refl _, fun q x y => by omega, fun q x y => by omega⟩ (.cons (by first | rfl | exact lookI rfl (by omega) | exact lookI rfl (by simp) | exact lookB rfl (by simp)) (.cons (by first | rfl | exact lookI rfl (by omega) | exact lookI rfl (by simp) | exact lookB rfl (by simp)) Front.nil)) (by repeat' (first | exact Pick.nil _ | exact Del.here _ | apply Pick.cons | apply Del.there)) rfl (fun i hi m hm => ?_)
    obtain ⟨i, j⟩ := i
    replace hi : md ≤ i ∧ i ≤ j ∧ j ≤ b ∧ (∀ q, md ≤ q → q < i → ltCI cmp (l.getD q default) (l.getD a default) = true) ∧ (∀ q, j ≤ q → q < b → ltCI cmp (l.getD q default) (l.getD a default) = false) := hi
    replace hm : m = j - i := hm
    change Tr _ _ [rowE V 35 encIns l] ([(10, .int .i64 (i : Nat)), (11, .int .i64 (j : Nat))] ++ _) _
    obtain ⟨hi1, hi2, hi3, hi4, hi5⟩ := hi
    refine Tr.seq ?_
    refine Tr.seq ?_
    refine Tr.region ?_
    refine Tr.q (QS.move rfl) rfl ?_
    refine Tr.q (QS.move rfl) rfl ?_
    refine Tr.q (QS.lss rfl rfl) rfl ?_
    refine Tr.nil ?_
    refine Tr.thenN ?_
    refine Tr.cond rfl (fun h2 => ?_) (fun h2 => ?_)
    · try simp only [bs] at h2
      refine Tr.skip ?_
      refine Tr.thenN ?_
      refine Tr.block ?_
      refine Tr.seq ?_
      refine Tr.region ?_
      refine Tr.q (QS.move rfl) rfl ?_
      refine Tr.q (QS.move rfl) rfl ?_
      refine Tr.q (QS.addI rfl rfl (by omega)) rfl ?_
      refine Tr.q (QS.cvtIn rfl Tryz.underlying3 Tryz.underlying97 (IntWalk.u64_in _ (by omega))) rfl ?_
      refine Tr.q (QS.shr1 rfl rfl (by omega)) rfl ?_
      refine Tr.q (QS.cvtIn rfl Tryz.underlying97 Tryz.underlying3 (IntWalk.i64_in _ (by omega))) rfl ?_
      refine Tr.q (QS.assign rfl) rfl ?_
      refine Tr.nil ?_
      refine Tr.thenN ?_
      refine Tr.seq ?_
      obtain ⟨h, hhh⟩ : ∃ h, h = (i + j) / 2 := ⟨_, rfl⟩
      rw [show (((i : Nat) : Int) + ((j : Nat) : Int)) / 2 = ((h : Nat) : Int) by omega]
      refine Tr.regionQ HLF.mixed (by kernel_rfl) ?_
      refine TrQ.q (QS.move rfl) rfl ?_
      refine TrQ.q (QS.move rfl) rfl ?_
      refine TrQ.q (QS.move rfl) rfl ?_
      refine TrQ.q (QS.idxRowN rfl rfl (by repeat (first | exact List.Mem.head _ | apply List.Mem.tail)) Tryz.underlying22 Tryz.sizeOf35 (by rfl) (by omega)) rfl ?_
      refine TrQ.q (QS.elRA rfl (by repeat (first | exact List.Mem.head _ | apply List.Mem.tail)) Tryz.isAgg35 Tryz.sizeOf35 (by rfl) (by omega)) rfl ?_
      refine TrQ.q (QS.move rfl) rfl ?_
      refine TrQ.q (QS.move rfl) rfl ?_
      refine TrQ.q (QS.idxRowN rfl rfl (by repeat (first | exact List.Mem.head _ | apply List.Mem.tail)) Tryz.underlying22 Tryz.sizeOf35 (by rfl) (by omega)) rfl ?_
      refine TrQ.q (QS.elRA rfl (by repeat (first | exact List.Mem.head _ | apply List.Mem.tail)) Tryz.isAgg35 Tryz.sizeOf35 (by rfl) (by omega)) rfl ?_
      refine TrQ.q (QS.callV rfl rfl eg (fun w hw => hc _ _ w (hI _ _ _ hIw (HpOK.mutOwn hw (.head _) rfl).1 (HpOK.mutOwn hw (.head _) rfl).2))) rfl ?_
      refine TrQ.q (QS.lss rfl rfl) rfl ?_
      refine TrQ.nil ?_
      refine Tr.thenN ?_
      refine Tr.cond rfl (fun h3 => ?_) (fun h3 => ?_)
      · try simp only [bs] at h3
        refine Tr.region ?_
        refine Tr.q (QS.move rfl) rfl ?_
        refine Tr.q (QS.addI rfl rfl (by omega)) rfl ?_
        refine Tr.q (QS.assign rfl) rfl ?_
        refine Tr.nil ?_
        refine Tr.inN ?_
        refine Tr.thenN ?_
        have hx : ltCI cmp (l.getD h default) (l.getD a default) = true := by simp only [ltCI, decide_eq_true_eq]; assumption
        have hn : ∀ q, md ≤ q → q < h + 1 → ltCI cmp (l.getD q default) (l.getD a default) = true := fun q x y => hO.le_lt (h2s.le hO x (by omega) (by omega)) hx
        apply Tr.again (h + 1, j)
        · exact rfl
        · exact (.cons (by first | rfl | exact lookI rfl (by omega) | exact lookI rfl (by simp) | exact lookB rfl (by simp)) (.cons (by first | rfl | exact lookI rfl (by omega) | exact lookI rfl (by simp) | exact lookB rfl (by simp)) Front.nil))
        · exact SubX.dropN 26 (by kernel_rfl) rfl
        · exact (by repeat' (first | exact Pick.nil _ | exact Del.here _ | apply Pick.cons | apply Del.there))
        · exact ⟨by omega, by omega, hi3, hn, hi5⟩
        · exact (by (try dsimp only); omega)
      · try simp only [bs] at h3
        refine Tr.region ?_
        refine Tr.q (QS.move rfl) rfl ?_
        refine Tr.q (QS.assign rfl) rfl ?_
        refine Tr.nil ?_
        refine Tr.inN ?_
        refine Tr.thenN ?_
        have hx : ltCI cmp (l.getD h default) (l.getD a default) = false := by simp only [ltCI, decide_eq_false_iff_not]; assumption
        have hn : ∀ q, h ≤ q → q < b → ltCI cmp (l.getD q default) (l.getD a default) = false := fun q x y => hO.ntr _ _ _ (h2s.le hO (by omega) x y) hx
        apply Tr.again (i, h)
        · exact rfl
        · exact (.cons (by first | rfl | exact lookI rfl (by omega) | exact lookI rfl (by simp) | exact lookB rfl (by simp)) (.cons (by first | rfl | exact lookI rfl (by omega) | exact lookI rfl (by simp) | exact lookB rfl (by simp)) Front.nil))
        · exact SubX.dropN 25 (by kernel_rfl) rfl
        · exact (by repeat' (first | exact Pick.nil _ | exact Del.here _ | apply Pick.cons | apply Del.there))
        · exact ⟨hi1, by omega, by omega, hi4, hn⟩
        · exact (by (try dsimp only); omega)
    · try simp only [bs] at h2
      refine Tr.exit ?_
      refine Tr.thenE ?_
      refine Tr.thenE ?_
      refine Tr.inHit ?_
      refine Tr.thenN ?_
      refine Tr.seq ?_
      refine Tr.seq ?_
      refine Tr.region ?_
      refine Tr.q (QS.move rfl) rfl ?_
      refine Tr.q (QS.assign rfl) rfl ?_
      refine Tr.nil ?_
      refine Tr.thenN ?_
      refine Tr.block ?_
      have e0 : mp (rotF a (a + 1) (a + 1)) l = l := rot_none (.inr rfl) (by omega) (Nat.le_refl _)
      refine Tr.rowEq e0.symm ?_
      refine Tr.loop (ι := Nat) (fun k => a ≤ k ∧ k + 1 ≤ i) (fun _ => _) (fun k => [rowE V 35 encIns (mp (rotF a (a + 1) (k + 1)) l)]) (fun k => [(13, .int .i64 (k : Nat))]) (fun k => i - k) a ⟨Nat.le_refl _, by omega⟩ (.cons (by first | rfl | exact lookI rfl (by omega) | exact lookI rfl (by simp) | exact lookB rfl (by simp)) Front.nil) (by repeat' (first | exact Pick.nil _ | exact Del.here _ | apply Pick.cons | apply Del.there)) rfl (fun k hi m hm => ?_)
      replace hi : a ≤ k ∧ k + 1 ≤ i := hi
      replace hm : m = i - k := hm
      change Tr _ _ [rowE V 35 encIns (mp (rotF a (a + 1) (k + 1)) l)] ([(13, .int .i64 (k : Nat))] ++ _) _
      obtain ⟨hk1, hk2⟩ := hi
      have hml : (mp (rotF a (a + 1) (k + 1)) l).length = l.length := mp_len _ _
      refine Tr.seq ?_
      refine Tr.seq ?_
      refine Tr.region ?_
      refine Tr.q (QS.move rfl) rfl ?_
      refine Tr.q (QS.move rfl) rfl ?_
      refine Tr.q (QS.subI rfl rfl (by omega)) rfl ?_
      refine Tr.q (QS.lss rfl rfl) rfl ?_
      refine Tr.nil ?_
      refine Tr.thenN ?_
      refine Tr.cond rfl (fun h4 => ?_) (fun h4 => ?_)
      · try simp only [bs] at h4
        refine Tr.skip ?_
        refine Tr.thenN ?_
        refine Tr.seq ?_
        refine Tr.block ?_
        refine Tr.regionT 5 15 HLF.mixed (by kernel_rfl) (panicIn (panicThen (panicThen (panicIn (panicThen (panicThen panicBody)))))) ?_
        refine TrQ.pureMove rfl rfl ?_
        refine TrQ.pureMove rfl rfl ?_
        refine TrQ.pureMove rfl rfl ?_
        refine TrQ.pureMove rfl rfl ?_
        refine TrQ.pureQ (fun _ => QS.addI rfl rfl (by omega)) (by rfl) rfl ?_
        refine TrQ.pureNil ?_
        refine TrQ.q (QS.move rfl) rfl ?_
        refine TrQ.q (QS.move rfl) rfl ?_
        refine TrQ.q (QS.addI rfl rfl (by omega)) rfl ?_
        refine TrQ.q (QS.idxRow rfl rfl (by repeat (first | exact List.Mem.head _ | apply List.Mem.tail)) Tryz.underlying22 Tryz.sizeOf35 (by rfl) (by omega)) rfl ?_
        refine TrQ.q (QS.elRA rfl (by repeat (first | exact List.Mem.head _ | apply List.Mem.tail)) Tryz.isAgg35 Tryz.sizeOf35 (by rfl) (by omega)) rfl ?_
        refine TrQ.q (QS.move rfl) rfl ?_
        refine TrQ.q (QS.move rfl) rfl ?_
        refine TrQ.q (QS.idxRowN rfl rfl (by repeat (first | exact List.Mem.head _ | apply List.Mem.tail)) Tryz.underlying22 Tryz.sizeOf35 (by rfl) (by omega)) rfl ?_
        refine TrQ.q (QS.elRA rfl (by repeat (first | exact List.Mem.head _ | apply List.Mem.tail)) Tryz.isAgg35 Tryz.sizeOf35 (by rfl) (by omega)) rfl ?_
        refine TrQ.q (QS.idxRowN rfl rfl (by repeat (first | exact List.Mem.head _ | apply List.Mem.tail)) Tryz.underlying22 Tryz.sizeOf35 (by rfl) (by omega)) rfl ?_
        refine TrQ.nil ?_
        refine Tr.storeEl (l := (mp (rotF a (a + 1) (k + 1)) l)) (i := k) ((mp (rotF a (a + 1) (k + 1)) l).getD (k + 1) default) rfl rfl Tryz.sizeOf35 (by repeat (first | exact Put.here _ | apply Put.there)) (by (try simp only [List.length_set]); omega) (by rfl) rfl ?_
        have hls5 : (List.set (mp (rotF a (a + 1) (k + 1)) l) (k) ((mp (rotF a (a + 1) (k + 1)) l).getD (k + 1) default)).length = ((mp (rotF a (a + 1) (k + 1)) l)).length := List.length_set
        refine Tr.q (QS.idxRow rfl rfl (by repeat (first | exact List.Mem.head _ | apply List.Mem.tail)) Tryz.underlying22 Tryz.sizeOf35 (by rfl) (by omega)) rfl ?_
        refine Tr.storeEl (l := ((mp (rotF a (a + 1) (k + 1)) l).set (k) ((mp (rotF a (a + 1) (k + 1)) l).getD (k + 1) default))) (i := k + 1) ((mp (rotF a (a + 1) (k + 1)) l).getD (k) default) rfl rfl Tryz.sizeOf35 (by repeat (first | exact Put.here _ | apply Put.there)) (by (try simp only [List.length_set]); omega) (by rfl) rfl ?_
        have hls6 : (List.set ((mp (rotF a (a + 1) (k + 1)) l).set (k) ((mp (rotF a (a + 1) (k + 1)) l).getD (k + 1) default)) (k + 1) ((mp (rotF a (a + 1) (k + 1)) l).getD (k) default)).length = (((mp (rotF a (a + 1) (k + 1)) l).set (k) ((mp (rotF a (a + 1) (k + 1)) l).getD (k + 1) default))).length := List.length_set
        refine Tr.nil ?_
        refine Tr.inN ?_
        refine Tr.thenN ?_
        refine Tr.region ?_
        refine Tr.q (QS.move rfl) rfl ?_
        refine Tr.q (QS.addI rfl rfl (by omega)) rfl ?_
        refine Tr.q (QS.assign rfl) rfl ?_
        refine Tr.nil ?_
        refine Tr.thenN ?_
        have hsw := mp_sw (l := (mp (rotF a (a + 1) (k + 1)) l)) (p := k) (q := k + 1) (by omega) (by omega)
        rw [rot_up hk1 (by omega)] at hsw
        rw [hsw]
        apply Tr.again (k + 1)
        · exact rfl
        · exact (.cons (by first | rfl | exact lookI rfl (by omega) | exact lookI rfl (by simp) | exact lookB rfl (by simp)) Front.nil)
        · exact SubX.dropN 24 (by kernel_rfl) rfl
        · exact (by repeat' (first | exact Pick.nil _ | exact Del.here _ | apply Pick.cons | apply Del.there))
        · exact ⟨by omega, by omega⟩
        · exact (by (try dsimp only); omega)
      · try simp only [bs] at h4
        refine Tr.exit ?_
        refine Tr.thenE ?_
        refine Tr.thenE ?_
        refine Tr.inHit ?_
        refine Tr.thenN ?_
        refine Tr.ret ?_
        refine Tr.thenR ?_
        refine Tr.ret0 Tryz.results93 (fun w' hw => ?_)
        have hin := srt_ins' hO (l := l) (a := a) (i := i) (b := b) (by rw [show a + 1 = md by omega]; exact h2s) hb (by omega) (by omega) (fun q x y => hi4 q (by omega) y) (fun q x y => hi5 q (by omega) y)
        obtain rfl : i = k + 1 := by omega
        exact ⟨rfl, _, ⟨hin.1, Fram.rot (Nat.le_refl _) (by omega) (by omega) (by omega), hin.2⟩, HpOK.mutOwn hw (.head _) rfl⟩
  · try simp only [bs] at h1
    refine Tr.skip ?_
    refine Tr.thenN ?_
    refine Tr.seq ?_
    refine Tr.seq ?_
    refine Tr.region ?_
    refine Tr.q (QS.move rfl) rfl ?_
    refine Tr.q (QS.move rfl) rfl ?_
    refine Tr.q (QS.subI rfl rfl (by omega)) rfl ?_
    refine Tr.q (QS.eql rfl rfl) rfl ?_
    refine Tr.nil ?_
    refine Tr.thenN ?_
    refine Tr.cond rfl (fun h7 => ?_) (fun h7 => ?_)
    · try simp only [bs] at h7
      refine Tr.seq ?_
      refine Tr.region ?_
      refine Tr.q (QS.move rfl) rfl ?_
      refine Tr.q (QS.assign rfl) rfl ?_
      refine Tr.nil ?_
      refine Tr.thenN ?_
      refine Tr.seq ?_
      refine Tr.region ?_
      refine Tr.q (QS.move rfl) rfl ?_
      refine Tr.q (QS.assign rfl) rfl ?_
      refine Tr.nil ?_
      refine Tr.thenN ?_
      refine Tr.seq ?_
      refine Tr.block ?_
      refine Tr.loop (ι := Nat × Nat) (fun ⟨i, j⟩ => a ≤ i ∧ i ≤ j ∧ j ≤ md ∧ (∀ q, a ≤ q → q < i → ltCI cmp (l.getD md default) (l.getD q default) = false) ∧ (∀ q, j ≤ q → q < md → ltCI cmp (l.getD md default) (l.getD q default) = true)) (fun _ => _) (fun ⟨i, j⟩ => [rowE V 35 encIns l]) (fun ⟨i, j⟩ => [(14, .int .i64 (i : Nat)), (15, .int .i64 (j : Nat))]) (fun ⟨i, j⟩ => j - i) (a, md) ⟨Nat.le_refl _, by omega, Nat.le_refl _, fun q x y => by omega, fun q x y => by omega⟩ (.cons (by first | rfl | exact lookI rfl (by omega) | exact lookI rfl (by simp) | exact lookB rfl (by simp)) (.cons (by first | rfl | exact lookI rfl (by omega) | exact lookI rfl (by simp) | exact lookB rfl (by simp)) Front.nil)) (by repeat' (first | exact Pick.nil _ | exact Del.here _ | apply Pick.cons | apply Del.there)) rfl (fun i hi m hm => ?_)
      obtain ⟨i, j⟩ := i
      replace hi : a ≤ i ∧ i ≤ j ∧ j ≤ md ∧ (∀ q, a ≤ q → q < i → ltCI cmp (l.getD md default) (l.getD q default) = false) ∧ (∀ q, j ≤ q → q < md → ltCI cmp (l.getD md default) (l.getD q default) = true) := hi
      replace hm : m = j - i := hm
      change Tr _ _ [rowE V 35 encIns l] ([(14, .int .i64 (i : Nat)), (15, .int .i64 (j : Nat))] ++ _) _
      obtain ⟨hi1, hi2, hi3, hi4, hi5⟩ := hi
      refine Tr.seq ?_
      refine Tr.seq ?_
      refine Tr.region ?_
      refine Tr.q (QS.move rfl) rfl ?_
      refine Tr.q (QS.move rfl) rfl ?_
      refine Tr.q (QS.lss rfl rfl) rfl ?_
      refine Tr.nil ?_
      refine Tr.thenN ?_
      refine Tr.cond rfl (fun h8 => ?_) (fun h8 => ?_)
      · try simp only [bs] at h8
        refine Tr.skip ?_
        refine Tr.thenN ?_
        refine Tr.block ?_
        refine Tr.seq ?_
        refine Tr.region ?_
        refine Tr.q (QS.move rfl) rfl ?_
        refine Tr.q (QS.move rfl) rfl ?_
        refine Tr.q (QS.addI rfl rfl (by omega)) rfl ?_
        refine Tr.q (QS.cvtIn rfl Tryz.underlying3 Tryz.underlying97 (IntWalk.u64_in _ (by omega))) rfl ?_
        refine Tr.q (QS.shr1 rfl rfl (by omega)) rfl ?_
        refine Tr.q (QS.cvtIn rfl Tryz.underlying97 Tryz.underlying3 (IntWalk.i64_in _ (by omega))) rfl ?_
        refine Tr.q (QS.assign rfl) rfl ?_
        refine Tr.nil ?_
        refine Tr.thenN ?_
        refine Tr.seq ?_
        obtain ⟨h, hhh⟩ : ∃ h, h = (i + j) / 2 := ⟨_, rfl⟩
        rw [show (((i : Nat) : Int) + ((j : Nat) : Int)) / 2 = ((h : Nat) : Int) by omega]
        refine Tr.regionQ HLF.mixed (by kernel_rfl) ?_
        refine TrQ.q (QS.move rfl) rfl ?_
        refine TrQ.q (QS.move rfl) rfl ?_
        refine TrQ.q (QS.move rfl) rfl ?_
        refine TrQ.q (QS.idxRowN rfl rfl (by repeat (first | exact List.Mem.head _ | apply List.Mem.tail)) Tryz.underlying22 Tryz.sizeOf35 (by rfl) (by omega)) rfl ?_
        refine TrQ.q (QS.elRA rfl (by repeat (first | exact List.Mem.head _ | apply List.Mem.tail)) Tryz.isAgg35 Tryz.sizeOf35 (by rfl) (by omega)) rfl ?_
        refine TrQ.q (QS.move rfl) rfl ?_
        refine TrQ.q (QS.move rfl) rfl ?_
        refine TrQ.q (QS.idxRowN rfl rfl (by repeat (first | exact List.Mem.head _ | apply List.Mem.tail)) Tryz.underlying22 Tryz.sizeOf35 (by rfl) (by omega)) rfl ?_
        refine TrQ.q (QS.elRA rfl (by repeat (first | exact List.Mem.head _ | apply List.Mem.tail)) Tryz.isAgg35 Tryz.sizeOf35 (by rfl) (by omega)) rfl ?_
        refine TrQ.q (QS.callV rfl rfl eg (fun w hw => hc _ _ w (hI _ _ _ hIw (HpOK.mutOwn hw (.head _) rfl).1 (HpOK.mutOwn hw (.head _) rfl).2))) rfl ?_
        refine TrQ.q (QS.lss rfl rfl) rfl ?_
        refine TrQ.q (QS.not rfl) rfl ?_
        refine TrQ.nil ?_
        refine Tr.thenN ?_
        refine Tr.cond rfl (fun h9 => ?_) (fun h9 => ?_)
        · try simp only [bs] at h9
          refine Tr.region ?_
          refine Tr.q (QS.move rfl) rfl ?_
          refine Tr.q (QS.addI rfl rfl (by omega)) rfl ?_
          refine Tr.q (QS.assign rfl) rfl ?_
          refine Tr.nil ?_
          refine Tr.inN ?_
          refine Tr.thenN ?_
          have hx : ltCI cmp (l.getD md default) (l.getD h default) = false := by simp only [ltCI, decide_eq_false_iff_not]; assumption
          have hn : ∀ q, a ≤ q → q < h + 1 → ltCI cmp (l.getD md default) (l.getD q default) = false := fun q x y => hO.ntr _ _ _ hx (h1s.le hO x (by omega) (by omega))
          apply Tr.again (h + 1, j)
          · exact rfl
          · exact (.cons (by first | rfl | exact lookI rfl (by omega) | exact lookI rfl (by simp) | exact lookB rfl (by simp)) (.cons (by first | rfl | exact lookI rfl (by omega) | exact lookI rfl (by simp) | exact lookB rfl (by simp)) Front.nil))
          · exact SubX.dropN 27 (by kernel_rfl) rfl
          · exact (by repeat' (first | exact Pick.nil _ | exact Del.here _ | apply Pick.cons | apply Del.there))
          · exact ⟨by omega, by omega, hi3, hn, hi5⟩
          · exact (by (try dsimp only); omega)
        · try simp only [bs] at h9
          refine Tr.region ?_
          refine Tr.q (QS.move rfl) rfl ?_
          refine Tr.q (QS.assign rfl) rfl ?_
          refine Tr.nil ?_
          refine Tr.inN ?_
          refine Tr.thenN ?_
          have hx : ltCI cmp (l.getD md default) (l.getD h default) = true := by simp only [ltCI, decide_eq_true_eq]; assumption
          have hn : ∀ q, h ≤ q → q < md → ltCI cmp (l.getD md default) (l.getD q default) = true := fun q x y => hO.lt_le hx (h1s.le hO (by omega) x y)
          apply Tr.again (i, h)
          · exact rfl
          · exact (.cons (by first | rfl | exact lookI rfl (by omega) | exact lookI rfl (by simp) | exact lookB rfl (by simp)) (.cons (by first | rfl | exact lookI rfl (by omega) | exact lookI rfl (by simp) | exact lookB rfl (by simp)) Front.nil))
          · exact SubX.dropN 26 (by kernel_rfl) rfl
          · exact (by repeat' (first | exact Pick.nil _ | exact Del.here _ | apply Pick.cons | apply Del.there))
          · exact ⟨hi1, by omega, by omega, hi4, hn⟩
          · exact (by (try dsimp only); omega)
      · try simp only [bs] at h8
        refine Tr.exit ?_
        refine Tr.thenE ?_
        refine Tr.thenE ?_
        refine Tr.inHit ?_
        refine Tr.thenN ?_
        refine Tr.seq ?_
        refine Tr.seq ?_
        refine Tr.region ?_
        refine Tr.q (QS.move rfl) rfl ?_
        refine Tr.q (QS.assign rfl) rfl ?_
        refine Tr.nil ?_
        refine Tr.thenN ?_
        refine Tr.block ?_
        have e0 : mp (rotF md md (md + 1)) l = l := rot_none (.inl rfl) (Nat.le_refl _) (by omega)
        refine Tr.rowEq e0.symm ?_
        refine Tr.loop (ι := Nat) (fun k => i ≤ k ∧ k ≤ md) (fun _ => _) (fun k => [rowE V 35 encIns (mp (rotF k md (md + 1)) l)]) (fun k => [(17, .int .i64 (k : Nat))]) (fun k => k) md ⟨by omega, Nat.le_refl _⟩ (.cons (by first | rfl | exact lookI rfl (by omega) | exact lookI rfl (by simp) | exact lookB rfl (by simp)) Front.nil) (by repeat' (first | exact Pick.nil _ | exact Del.here _ | apply Pick.cons | apply Del.there)) rfl (fun k hi m hm => ?_)
        replace hi : i ≤ k ∧ k ≤ md := hi
        replace hm : m = k := hm
        change Tr _ _ [rowE V 35 encIns (mp (rotF k md (md + 1)) l)] ([(17, .int .i64 (k : Nat))] ++ _) _
        obtain ⟨hk1, hk2⟩ := hi
        have hml : (mp (rotF k md (md + 1)) l).length = l.length := mp_len _ _
        have ej : ((k : Int) - 1).toNat = k - 1 := by omega
        refine Tr.seq ?_
        refine Tr.seq ?_
        refine Tr.region ?_
        refine Tr.q (QS.move rfl) rfl ?_
        refine Tr.q (QS.move rfl) rfl ?_
        refine Tr.q (QS.gtr rfl rfl) rfl ?_
        refine Tr.nil ?_
        refine Tr.thenN ?_
        refine Tr.cond rfl (fun h10 => ?_) (fun h10 => ?_)
        · try simp only [bs] at h10
          refine Tr.skip ?_
          refine Tr.thenN ?_
          refine Tr.seq ?_
          refine Tr.block ?_
          refine Tr.regionT 5 15 HLF.mixed (by kernel_rfl) (panicIn (panicThen (panicThen (panicIn (panicThen (panicThen panicBody)))))) ?_
          refine TrQ.pureMove rfl rfl ?_
          refine TrQ.pureMove rfl rfl ?_
          refine TrQ.pureMove rfl rfl ?_
          refine TrQ.pureMove rfl rfl ?_
          refine TrQ.pureQ (fun _ => QS.subI rfl rfl (by omega)) (by rfl) rfl ?_
          refine TrQ.pureNil ?_
          refine TrQ.q (QS.move rfl) rfl ?_
          refine TrQ.q (QS.move rfl) rfl ?_
          refine TrQ.q (QS.subI rfl rfl (by omega)) rfl ?_
          refine TrQ.q (QS.idxRow rfl rfl (by repeat (first | exact List.Mem.head _ | apply List.Mem.tail)) Tryz.underlying22 Tryz.sizeOf35 (by rfl) (by omega)) rfl ?_
          refine TrQ.q (QS.elRA rfl (by repeat (first | exact List.Mem.head _ | apply List.Mem.tail)) Tryz.isAgg35 Tryz.sizeOf35 (by rfl) (by omega)) rfl ?_
          refine TrQ.q (QS.move rfl) rfl ?_
          refine TrQ.q (QS.move rfl) rfl ?_
          refine TrQ.q (QS.idxRowN rfl rfl (by repeat (first | exact List.Mem.head _ | apply List.Mem.tail)) Tryz.underlying22 Tryz.sizeOf35 (by rfl) (by omega)) rfl ?_
          refine TrQ.q (QS.elRA rfl (by repeat (first | exact List.Mem.head _ | apply List.Mem.tail)) Tryz.isAgg35 Tryz.sizeOf35 (by rfl) (by omega)) rfl ?_
          refine TrQ.q (QS.idxRowN rfl rfl (by repeat (first | exact List.Mem.head _ | apply List.Mem.tail)) Tryz.underlying22 Tryz.sizeOf35 (by rfl) (by omega)) rfl ?_
          refine TrQ.nil ?_
          refine Tr.storeEl (l := (mp (rotF k md (md + 1)) l)) (i := k) ((mp (rotF k md (md + 1)) l).getD (((k : Int) - 1).toNat) default) rfl rfl Tryz.sizeOf35 (by repeat (first | exact Put.here _ | apply Put.there)) (by (try simp only [List.length_set]); omega) (by rfl) rfl ?_
          have hls11 : (List.set (mp (rotF k md (md + 1)) l) (k) ((mp (rotF k md (md + 1)) l).getD (((k : Int) - 1).toNat) default)).length = ((mp (rotF k md (md + 1)) l)).length := List.length_set
          refine Tr.q (QS.idxRow rfl rfl (by repeat (first | exact List.Mem.head _ | apply List.Mem.tail)) Tryz.underlying22 Tryz.sizeOf35 (by rfl) (by omega)) rfl ?_
          refine Tr.storeEl (l := ((mp (rotF k md (md + 1)) l).set (k) ((mp (rotF k md (md + 1)) l).getD (((k : Int) - 1).toNat) default))) (i := ((k : Int) - 1).toNat) ((mp (rotF k md (md + 1)) l).getD (k) default) rfl rfl Tryz.sizeOf35 (by repeat (first | exact Put.here _ | apply Put.there)) (by (try simp only [List.length_set]); omega) (by rfl) rfl ?_
          have hls12 : (List.set ((mp (rotF k md (md + 1)) l).set (k) ((mp (rotF k md (md + 1)) l).getD (((k : Int) - 1).toNat) default)) (((k : Int) - 1).toNat) ((mp (rotF k md (md + 1)) l).getD (k) default)).length = (((mp (rotF k md (md + 1)) l).set (k) ((mp (rotF k md (md + 1)) l).getD (((k : Int) - 1).toNat) default))).length := List.length_set
          refine Tr.nil ?_
          refine Tr.inN ?_
          refine Tr.thenN ?_
          refine Tr.region ?_
          refine Tr.q (QS.move rfl) rfl ?_
          refine Tr.q (QS.subI rfl rfl (by omega)) rfl ?_
          refine Tr.q (QS.assign rfl) rfl ?_
          refine Tr.nil ?_
          refine Tr.thenN ?_
          have hsw := mp_sw (l := (mp (rotF k md (md + 1)) l)) (p := k) (q := k - 1) (by omega) (by omega)
          rw [rot_down (by omega) hk2 (by omega)] at hsw
          rw [ej, hsw]
          apply Tr.again (k - 1)
          · exact rfl
          · exact (.cons (by first | rfl | exact lookI rfl (by omega) | exact lookI rfl (by simp) | exact lookB rfl (by simp)) Front.nil)
          · exact SubX.dropN 23 (by kernel_rfl) rfl
          · exact (by repeat' (first | exact Pick.nil _ | exact Del.here _ | apply Pick.cons | apply Del.there))
          · exact ⟨by omega, by omega⟩
          · exact (by (try dsimp only); omega)
        · try simp only [bs] at h10
          refine Tr.exit ?_
          refine Tr.thenE ?_
          refine Tr.thenE ?_
          refine Tr.inHit ?_
          refine Tr.thenN ?_
          refine Tr.ret ?_
          refine Tr.thenR ?_
          refine Tr.ret0 Tryz.results93 (fun w' hw => ?_)
          obtain rfl : i = k := by omega
          have hin := srt_ins hO (l := l) (a := a) (i := md) (j := i) h1s (by omega) (by omega) (by omega) (fun q x y => hi5 q (by omega) y) (if q : i = a then .inl q else .inr (hi4 _ (by omega) (by omega)))
          obtain rfl : b = md + 1 := by omega
          exact ⟨rfl, _, ⟨hin.1, Fram.rot (by omega) (Nat.le_refl _) (by omega) (by omega), hin.2⟩, HpOK.mutOwn hw (.head _) rfl⟩
    · try simp only [bs] at h7
      refine Tr.skip ?_
      refine Tr.thenN ?_
      refine Tr.seq ?_
      refine Tr.region ?_
      refine Tr.q (QS.move rfl) rfl ?_
      refine Tr.q (QS.move rfl) rfl ?_
      refine Tr.q (QS.addI rfl rfl (by omega)) rfl ?_
      refine Tr.q (QS.cvtIn rfl Tryz.underlying3 Tryz.underlying97 (IntWalk.u64_in _ (by omega))) rfl ?_
      refine Tr.q (QS.shr1 rfl rfl (by omega)) rfl ?_
      refine Tr.q (QS.cvtIn rfl Tryz.underlying97 Tryz.underlying3 (IntWalk.i64_in _ (by omega))) rfl ?_
      refine Tr.q (QS.assign rfl) rfl ?_
      refine Tr.nil ?_
      refine Tr.thenN ?_
      refine Tr.seq ?_
      obtain ⟨mid, hhmid⟩ : ∃ mid, mid = (a + b) / 2 := ⟨_, rfl⟩
      rw [show (((a : Nat) : Int) + ((b : Nat) : Int)) / 2 = ((mid : Nat) : Int) by omega]
      refine Tr.region ?_
      refine Tr.q (QS.move rfl) rfl ?_
      refine Tr.q (QS.move rfl) rfl ?_
      refine Tr.q (QS.addI rfl rfl (by omega)) rfl ?_
      refine Tr.q (QS.assign rfl) rfl ?_
      refine Tr.nil ?_
      refine Tr.thenN ?_
      refine Tr.seq ?_
      refine Tr.region ?_
      refine Tr.q (QS.assign rfl) rfl ?_
      refine Tr.q (QS.assign rfl) rfl ?_
      refine Tr.nil ?_
      refine Tr.thenN ?_
      refine Tr.seqJ (ι := Nat × Nat) (fun ⟨s0, r0⟩ => (mid < md ∧ s0 + b = mid + md ∧ r0 = mid) ∨ (md ≤ mid ∧ s0 = a ∧ r0 = md)) (fun _ => Bg.less w V) (fun ⟨s0, r0⟩ => [rowE V 35 encIns l]) (fun ⟨s0, r0⟩ => [(20, .int .i64 (s0 : Nat)), (21, .int .i64 (r0 : Nat))]) ?_ (fun i hi => ?_)
      · skip
        refine Tr.seq ?_
        refine Tr.region ?_
        refine Tr.q (QS.move rfl) rfl ?_
        refine Tr.q (QS.move rfl) rfl ?_
        refine Tr.q (QS.gtr rfl rfl) rfl ?_
        refine Tr.nil ?_
        refine Tr.thenN ?_
        refine Tr.cond rfl (fun h13 => ?_) (fun h13 => ?_)
        · try simp only [bs] at h13
          refine Tr.seq ?_
          refine Tr.region ?_
          refine Tr.q (QS.move rfl) rfl ?_
          refine Tr.q (QS.move rfl) rfl ?_
          refine Tr.q (QS.subI rfl rfl (by omega)) rfl ?_
          refine Tr.q (QS.assign rfl) rfl ?_
          refine Tr.nil ?_
          refine Tr.thenN ?_
          refine Tr.region ?_
          refine Tr.q (QS.move rfl) rfl ?_
          refine Tr.q (QS.assign rfl) rfl ?_
          refine Tr.nil ?_
          refine Tr.thenN ?_
          apply Tr.joined (mid + md - b, mid)
          · exact rfl
          · exact (.cons (by first | rfl | exact lookI rfl (by omega) | exact lookI rfl (by simp) | exact lookB rfl (by simp)) (.cons (by first | rfl | exact lookI rfl (by omega) | exact lookI rfl (by simp) | exact lookB rfl (by simp)) Front.nil))
          · exact SubX.dropN 9 (by kernel_rfl) rfl
          · exact (by repeat' (first | exact Pick.nil _ | exact Del.here _ | apply Pick.cons | apply Del.there))
          · exact .inl ⟨by omega, by omega, rfl⟩
        · try simp only [bs] at h13
          refine Tr.seq ?_
          refine Tr.region ?_
          refine Tr.q (QS.move rfl) rfl ?_
          refine Tr.q (QS.assign rfl) rfl ?_
          refine Tr.nil ?_
          refine Tr.thenN ?_
          refine Tr.region ?_
          refine Tr.q (QS.move rfl) rfl ?_
          refine Tr.q (QS.assign rfl) rfl ?_
          refine Tr.nil ?_
          refine Tr.thenN ?_
          apply Tr.joined (a, md)
          · exact rfl
          · exact (.cons (by first | rfl | exact lookI rfl (by omega) | exact lookI rfl (by simp) | exact lookB rfl (by simp)) (.cons (by first | rfl | exact lookI rfl (by omega) | exact lookI rfl (by simp) | exact lookB rfl (by simp)) Front.nil))
          · exact SubX.dropN 7 (by kernel_rfl) rfl
          · exact (by repeat' (first | exact Pick.nil _ | exact Del.here _ | apply Pick.cons | apply Del.there))
          · exact .inr ⟨by omega, rfl, rfl⟩
      · obtain ⟨s0, r0⟩ := i
        replace hi : (mid < md ∧ s0 + b = mid + md ∧ r0 = mid) ∨ (md ≤ mid ∧ s0 = a ∧ r0 = md) := hi
        change Tr _ _ [rowE V 35 encIns l] ([(20, .int .i64 (s0 : Nat)), (21, .int .i64 (r0 : Nat))] ++ _) _
        have hs0 : a ≤ s0 ∧ s0 ≤ r0 ∧ r0 ≤ md := by omega
        refine Tr.seq ?_
        refine Tr.region ?_
        refine Tr.q (QS.move rfl) rfl ?_
        refine Tr.q (QS.subI rfl rfl (by omega)) rfl ?_
        refine Tr.q (QS.assign rfl) rfl ?_
        refine Tr.nil ?_
        refine Tr.thenN ?_
        refine Tr.seq ?_
        refine Tr.block ?_
        refine Tr.loop (ι := Nat × Nat) (fun ⟨st, r⟩ => s0 ≤ st ∧ st ≤ r ∧ r ≤ r0 ∧ (st = s0 ∨ ltCI cmp (l.getD (mid + md - st) default) (l.getD (st - 1) default) = false) ∧ (r = r0 ∨ ltCI cmp (l.getD (mid + md - 1 - r) default) (l.getD r default) = true)) (fun _ => _) (fun ⟨st, r⟩ => [rowE V 35 encIns l]) (fun ⟨st, r⟩ => [(20, .int .i64 (st : Nat)), (21, .int .i64 (r : Nat))]) (fun ⟨st, r⟩ => r - st) (s0, r0) ⟨Nat.le_refl _, by omega, Nat.le_refl _, .inl rfl, .inl rfl⟩ (.cons (by first | rfl | exact lookI rfl (by omega) | exact lookI rfl (by simp) | exact lookB rfl (by simp)) (.cons (by first | rfl | exact lookI rfl (by omega) | exact lookI rfl (by simp) | exact lookB rfl (by simp)) Front.nil)) (by repeat' (first | exact Pick.nil _ | exact Del.here _ | apply Pick.cons | apply Del.there)) rfl (fun i hi m hm => ?_)
        obtain ⟨st, r⟩ := i
        replace hi : s0 ≤ st ∧ st ≤ r ∧ r ≤ r0 ∧ (st = s0 ∨ ltCI cmp (l.getD (mid + md - st) default) (l.getD (st - 1) default) = false) ∧ (r = r0 ∨ ltCI cmp (l.getD (mid + md - 1 - r) default) (l.getD r default) = true) := hi
        replace hm : m = r - st := hm
        change Tr _ _ [rowE V 35 encIns l] ([(20, .int .i64 (st : Nat)), (21, .int .i64 (r : Nat))] ++ _) _
        obtain ⟨hi1, hi2, hi3, hi4, hi5⟩ := hi
        refine Tr.seq ?_
        refine Tr.seq ?_
        refine Tr.region ?_
        refine Tr.q (QS.move rfl) rfl ?_
        refine Tr.q (QS.move rfl) rfl ?_
        refine Tr.q (QS.lss rfl rfl) rfl ?_
        refine Tr.nil ?_
        refine Tr.thenN ?_
        refine Tr.cond rfl (fun h14 => ?_) (fun h14 => ?_)
        · try simp only [bs] at h14
          refine Tr.skip ?_
          refine Tr.thenN ?_
          refine Tr.block ?_
          refine Tr.seq ?_
          refine Tr.region ?_
          refine Tr.q (QS.move rfl) rfl ?_
          refine Tr.q (QS.move rfl) rfl ?_
          refine Tr.q (QS.addI rfl rfl (by omega)) rfl ?_
          refine Tr.q (QS.cvtIn rfl Tryz.underlying3 Tryz.underlying97 (IntWalk.u64_in _ (by omega))) rfl ?_
          refine Tr.q (QS.shr1 rfl rfl (by omega)) rfl ?_
          refine Tr.q (QS.cvtIn rfl Tryz.underlying97 Tryz.underlying3 (IntWalk.i64_in _ (by omega))) rfl ?_
          refine Tr.q (QS.assign rfl) rfl ?_
          refine Tr.nil ?_
          refine Tr.thenN ?_
          refine Tr.seq ?_
          obtain ⟨c, hhc⟩ : ∃ c, c = (st + r) / 2 := ⟨_, rfl⟩
          rw [show (((st : Nat) : Int) + ((r : Nat) : Int)) / 2 = ((c : Nat) : Int) by omega]
          refine Tr.regionQ HLF.mixed (by kernel_rfl) ?_
          refine TrQ.q (QS.move rfl) rfl ?_
          refine TrQ.q (QS.move rfl) rfl ?_
          refine TrQ.q (QS.move rfl) rfl ?_
          refine TrQ.q (QS.move rfl) rfl ?_
          refine TrQ.q (QS.subI rfl rfl (by omega)) rfl ?_
          refine TrQ.q (QS.idxRow rfl rfl (by repeat (first | exact List.Mem.head _ | apply List.Mem.tail)) Tryz.underlying22 Tryz.sizeOf35 (by rfl) (by omega)) rfl ?_
          refine TrQ.q (QS.elRA rfl (by repeat (first | exact List.Mem.head _ | apply List.Mem.tail)) Tryz.isAgg35 Tryz.sizeOf35 (by rfl) (by omega)) rfl ?_
          refine TrQ.q (QS.move rfl) rfl ?_
          refine TrQ.q (QS.move rfl) rfl ?_
          refine TrQ.q (QS.idxRowN rfl rfl (by repeat (first | exact List.Mem.head _ | apply List.Mem.tail)) Tryz.underlying22 Tryz.sizeOf35 (by rfl) (by omega)) rfl ?_
          refine TrQ.q (QS.elRA rfl (by repeat (first | exact List.Mem.head _ | apply List.Mem.tail)) Tryz.isAgg35 Tryz.sizeOf35 (by rfl) (by omega)) rfl ?_
          refine TrQ.q (QS.callV rfl rfl eg (fun w hw => hc _ _ w (hI _ _ _ hIw (HpOK.mutOwn hw (.head _) rfl).1 (HpOK.mutOwn hw (.head _) rfl).2))) rfl ?_
          refine TrQ.q (QS.lss rfl rfl) rfl ?_
          refine TrQ.q (QS.not rfl) rfl ?_
          refine TrQ.nil ?_
          refine Tr.thenN ?_
          refine Tr.cond rfl (fun h15 => ?_) (fun h15 => ?_)
          · try simp only [bs] at h15
            refine Tr.region ?_
            refine Tr.q (QS.move rfl) rfl ?_
            refine Tr.q (QS.addI rfl rfl (by omega)) rfl ?_
            refine Tr.q (QS.assign rfl) rfl ?_
            refine Tr.nil ?_
            refine Tr.inN ?_
            refine Tr.thenN ?_
            have ec : ((((mid : Nat) : Int) + ((md : Nat) : Int)) - 1 - ((c : Nat) : Int)).toNat = mid + md - 1 - c := by omega
            have hx : ltCI cmp (l.getD (mid + md - 1 - c) default) (l.getD c default) = false := by rw [← ec]; simp only [ltCI, decide_eq_false_iff_not]; assumption
            apply Tr.again (c + 1, r)
            · exact rfl
            · exact (.cons (by first | rfl | exact lookI rfl (by omega) | exact lookI rfl (by simp) | exact lookB rfl (by simp)) (.cons (by first | rfl | exact lookI rfl (by omega) | exact lookI rfl (by simp) | exact lookB rfl (by simp)) Front.nil))
            · exact SubX.dropN 29 (by kernel_rfl) rfl
            · exact (by repeat' (first | exact Pick.nil _ | exact Del.here _ | apply Pick.cons | apply Del.there))
            · exact ⟨by omega, by omega, hi3, .inr (by rw [show mid + md - (c + 1) = mid + md - 1 - c by omega]; exact hx), hi5⟩
            · exact (by (try dsimp only); omega)
          · try simp only [bs] at h15
            refine Tr.region ?_
            refine Tr.q (QS.move rfl) rfl ?_
            refine Tr.q (QS.assign rfl) rfl ?_
            refine Tr.nil ?_
            refine Tr.inN ?_
            refine Tr.thenN ?_
            have ec : ((((mid : Nat) : Int) + ((md : Nat) : Int)) - 1 - ((c : Nat) : Int)).toNat = mid + md - 1 - c := by omega
            have hx : ltCI cmp (l.getD (mid + md - 1 - c) default) (l.getD c default) = true := by rw [← ec]; simp only [ltCI, decide_eq_true_eq]; assumption
            apply Tr.again (st, c)
            · exact rfl
            · exact (.cons (by first | rfl | exact lookI rfl (by omega) | exact lookI rfl (by simp) | exact lookB rfl (by simp)) (.cons (by first | rfl | exact lookI rfl (by omega) | exact lookI rfl (by simp) | exact lookB rfl (by simp)) Front.nil))
            · exact SubX.dropN 28 (by kernel_rfl) rfl
            · exact (by repeat' (first | exact Pick.nil _ | exact Del.here _ | apply Pick.cons | apply Del.there))
            · exact ⟨hi1, by omega, by omega, hi4, .inr hx⟩
            · exact (by (try dsimp only); omega)
        · try simp only [bs] at h14
          refine Tr.exit ?_
          refine Tr.thenE ?_
          refine Tr.thenE ?_
          refine Tr.inHit ?_
          refine Tr.thenN ?_
          refine Tr.seq ?_
          refine Tr.region ?_
          refine Tr.q (QS.move rfl) rfl ?_
          refine Tr.q (QS.move rfl) rfl ?_
          refine Tr.q (QS.subI rfl rfl (by omega)) rfl ?_
          refine Tr.q (QS.assign rfl) rfl ?_
          refine Tr.nil ?_
          refine Tr.thenN ?_
          obtain rfl : r = st := by omega
          obtain ⟨e, he⟩ : ∃ e, e = mid + md - r := ⟨_, rfl⟩
          rw [show (((mid : Nat) : Int) + ((md : Nat) : Int)) - ((r : Nat) : Int) = ((e : Nat) : Int) by omega]
          have hme : md ≤ e := by omega
          have heb : e ≤ b := by omega
          have hmm : mid = r + (e - md) := by omega
          have hd : r = md ∨ md = e ∨ ltCI cmp (l.getD (e - 1) default) (l.getD r default) = true := by
            rcases hi5 with q | q
            · omega
            · exact .inr (.inr (by rw [show e - 1 = mid + md - 1 - r by omega]; exact q))
          have hg : r = a ∨ e = b ∨ ltCI cmp (l.getD e default) (l.getD (r - 1) default) = false := by
            rcases hi4 with q | q
            · omega
            · exact .inr (.inr (by rw [he]; exact q))
          have hf := half_rot hO h1s h2s hb (by omega) (by omega) hme heb hmm hd hg
          have hml : (mp (rotF r md e) l).length = l.length := mp_len _ _
          refine Tr.seqJ (ι := Unit) (fun _u => True) (fun _ => Bg.less w V) (fun _u => [rowE V 35 encIns (mp (rotF r md e) l)]) (fun _u => []) ?_ (fun _u hi => ?_)
          · skip
            refine Tr.seq ?_
            refine Tr.region ?_
            refine Tr.q (QS.move rfl) rfl ?_
            refine Tr.q (QS.move rfl) rfl ?_
            refine Tr.q (QS.lss rfl rfl) rfl ?_
            refine Tr.q (QS.move rfl) rfl ?_
            apply Tr.andP
            · exact (rfl : _ = (4, 181, 185))
            · exact rfl
            · intro hT16; have hT16' := hT16
              try simp only [bs] at hT16'
              refine Tr.gq rfl rfl hT16 (QS.move rfl) rfl ?_
              refine Tr.gq rfl rfl hT16 (QS.move rfl) rfl ?_
              refine Tr.gq rfl rfl hT16 (QS.lss rfl rfl) rfl ?_
              refine Tr.q (QS.pickT rfl hT16 rfl) rfl ?_
              refine Tr.nil (Tr.thenN ?_)
              exact Tr.endX (Sub.cons rfl (Sub.dropN 4 (by kernel_rfl) rfl))
            · intro hF16
              refine Tr.gskip rfl rfl hF16 rfl ?_
              refine Tr.gskip rfl rfl hF16 rfl ?_
              refine Tr.gskip rfl rfl hF16 rfl ?_
              refine Tr.q (QS.pickF rfl hF16 rfl) rfl ?_
              refine Tr.nil (Tr.thenN ?_)
              exact Tr.endX (Sub.cons rfl (Sub.dropN 4 (by kernel_rfl) rfl))
            refine Tr.nil ?_
            refine Tr.thenN ?_
            refine Tr.cond rfl (fun h17 => ?_) (fun h17 => ?_)
            · try simp only [bs] at h17
              refine Tr.region ?_
              refine Tr.q (QS.move rfl) rfl ?_
              refine Tr.q (QS.move rfl) rfl ?_
              refine Tr.q (QS.move rfl) rfl ?_
              refine Tr.q (QS.move rfl) rfl ?_
              refine Tr.q (QS.move rfl) rfl ?_
              refine Tr.callMut rfl Tryz.call118 (by repeat (first | exact Put.here _ | apply Put.there)) (fun w hw => rotate_ins l V r md e _ _ _ (by omega) (by omega) (by omega) _ w (hw.ent _ (.head _)) hl (by omega) (by omega) (by omega)) rfl ?_
              refine Tr.nil ?_
              refine Tr.thenN ?_
              apply Tr.joined ()
              · exact rfl
              · exact Front.nil
              · exact SubX.dropN 11 (by kernel_rfl) rfl
              · exact (by repeat' (first | exact Pick.nil _ | exact Del.here _ | apply Pick.cons | apply Del.there))
              · exact trivial
            · try simp only [bs] at h17
              refine Tr.skip ?_
              refine Tr.thenN ?_
              refine Tr.rowEq (l' := mp (rotF r md e) l) (rot_none (by omega) (by omega) (by omega)).symm ?_
              apply Tr.joined ()
              · exact rfl
              · exact Front.nil
              · exact SubX.dropN 5 (by kernel_rfl) rfl
              · exact (by repeat' (first | exact Pick.nil _ | exact Del.here _ | apply Pick.cons | apply Del.there))
              · exact trivial
          · skip
            replace hi : True := hi
            change Tr _ _ [rowE V 35 encIns (mp (rotF r md e) l)] ([] ++ _) _
            refine Tr.seqJ (ι := List Ins) (fun c2 => Half (ltCI cmp) l c2 a mid mid e b) (fun _ => Bg.less w V) (fun c2 => [rowE V 35 encIns c2]) (fun c2 => []) ?_ (fun c2 hi => ?_)
            · skip
              refine Tr.seq ?_
              refine Tr.region ?_
              refine Tr.q (QS.move rfl) rfl ?_
              refine Tr.q (QS.move rfl) rfl ?_
              refine Tr.q (QS.lss rfl rfl) rfl ?_
              refine Tr.q (QS.move rfl) rfl ?_
              apply Tr.andP
              · exact (rfl : _ = (4, 195, 199))
              · exact rfl
              · intro hT18; have hT18' := hT18
                try simp only [bs] at hT18'
                refine Tr.gq rfl rfl hT18 (QS.move rfl) rfl ?_
                refine Tr.gq rfl rfl hT18 (QS.move rfl) rfl ?_
                refine Tr.gq rfl rfl hT18 (QS.lss rfl rfl) rfl ?_
                refine Tr.q (QS.pickT rfl hT18 rfl) rfl ?_
                refine Tr.nil (Tr.thenN ?_)
                exact Tr.endX (Sub.cons rfl (Sub.dropN 4 (by kernel_rfl) rfl))
              · intro hF18
                refine Tr.gskip rfl rfl hF18 rfl ?_
                refine Tr.gskip rfl rfl hF18 rfl ?_
                refine Tr.gskip rfl rfl hF18 rfl ?_
                refine Tr.q (QS.pickF rfl hF18 rfl) rfl ?_
                refine Tr.nil (Tr.thenN ?_)
                exact Tr.endX (Sub.cons rfl (Sub.dropN 4 (by kernel_rfl) rfl))
              refine Tr.nil ?_
              refine Tr.thenN ?_
              refine Tr.cond rfl (fun h19 => ?_) (fun h19 => ?_)
              · try simp only [bs] at h19
                refine Tr.region ?_
                refine Tr.q (QS.move rfl) rfl ?_
                refine Tr.q (QS.move rfl) rfl ?_
                refine Tr.q (QS.move rfl) rfl ?_
                refine Tr.q (QS.move rfl) rfl ?_
                refine Tr.q (QS.move rfl) rfl ?_
                refine Tr.callMutR (fun c => Stab (ltCI cmp) (mp (rotF r md e) l) c ∧ Fram a mid (mp (rotF r md e) l) c ∧ Srt (ltCI cmp) c a mid) rfl Tryz.call93 (fun w hw => ih (mid - a) (by omega) (mp (rotF r md e) l) a r mid _ _ _ w (by omega) (by omega) (by omega) (Nat.le_refl _) (by omega) (by omega) (by omega) (by omega) hf.s1 hf.s2 (hI _ _ _ hIw (HpOK.mutOwn hw (.head _) rfl).1 (HpOK.mutOwn hw (.head _) rfl).2) (hw.ent _ (.head _))) rfl (fun c2 hc2 => ?_)
                refine Tr.nil ?_
                refine Tr.thenN ?_
                apply Tr.joined c2
                · exact rfl
                · exact Front.nil
                · exact SubX.dropN 11 (by kernel_rfl) rfl
                · exact (by repeat' (first | exact Pick.nil _ | exact Del.here _ | apply Pick.cons | apply Del.there))
                · exact hf.left hb (by omega) (by omega) hc2.1 hc2.2.1 hc2.2.2
              · try simp only [bs] at h19
                refine Tr.skip ?_
                refine Tr.thenN ?_
                apply Tr.joined _
                · exact rfl
                · exact Front.nil
                · exact SubX.dropN 5 (by kernel_rfl) rfl
                · exact (by repeat' (first | exact Pick.nil _ | exact Del.here _ | apply Pick.cons | apply Del.there))
                · exact hf.left0 (by omega) (by omega) (by omega)
            · skip
              replace hi : Half (ltCI cmp) l c2 a mid mid e b := hi
              change Tr _ _ [rowE V 35 encIns c2] ([] ++ _) _
              have hl2 := hi.fr.1
              refine Tr.seq ?_
              refine Tr.region ?_
              refine Tr.q (QS.move rfl) rfl ?_
              refine Tr.q (QS.move rfl) rfl ?_
              refine Tr.q (QS.lss rfl rfl) rfl ?_
              refine Tr.q (QS.move rfl) rfl ?_
              apply Tr.andP
              · exact (rfl : _ = (4, 209, 213))
              · exact rfl
              · intro hT20; have hT20' := hT20
                try simp only [bs] at hT20'
                refine Tr.gq rfl rfl hT20 (QS.move rfl) rfl ?_
                refine Tr.gq rfl rfl hT20 (QS.move rfl) rfl ?_
                refine Tr.gq rfl rfl hT20 (QS.lss rfl rfl) rfl ?_
                refine Tr.q (QS.pickT rfl hT20 rfl) rfl ?_
                refine Tr.nil (Tr.thenN ?_)
                exact Tr.endX (Sub.cons rfl (Sub.dropN 4 (by kernel_rfl) rfl))
              · intro hF20
                refine Tr.gskip rfl rfl hF20 rfl ?_
                refine Tr.gskip rfl rfl hF20 rfl ?_
                refine Tr.gskip rfl rfl hF20 rfl ?_
                refine Tr.q (QS.pickF rfl hF20 rfl) rfl ?_
                refine Tr.nil (Tr.thenN ?_)
                exact Tr.endX (Sub.cons rfl (Sub.dropN 4 (by kernel_rfl) rfl))
              refine Tr.nil ?_
              refine Tr.thenN ?_
              refine Tr.cond rfl (fun h21 => ?_) (fun h21 => ?_)
              · try simp only [bs] at h21
                refine Tr.region ?_
                refine Tr.q (QS.move rfl) rfl ?_
                refine Tr.q (QS.move rfl) rfl ?_
                refine Tr.q (QS.move rfl) rfl ?_
                refine Tr.q (QS.move rfl) rfl ?_
                refine Tr.q (QS.move rfl) rfl ?_
                refine Tr.callMutR (fun c => Stab (ltCI cmp) c2 c ∧ Fram mid b c2 c ∧ Srt (ltCI cmp) c mid b) rfl Tryz.call93 (fun w hw => ih (b - mid) (by omega) c2 mid e b _ _ _ w (by omega) (by omega) (by omega) (Nat.le_refl _) (by omega) (by omega) (by omega) (by omega) hi.s3 hi.s4 (hI _ _ _ hIw (HpOK.mutOwn hw (.head _) rfl).1 (HpOK.mutOwn hw (.head _) rfl).2) (hw.ent _ (.head _))) rfl (fun c3 hc3 => ?_)
                refine Tr.nil ?_
                refine Tr.ret0n Tryz.results93 (fun w' hw => ?_)
                exact ⟨rfl, c3, hi.right hb (by omega) (by omega) hc3.1 hc3.2.1 hc3.2.2, HpOK.mutOwn hw (.head _) rfl⟩
              · try simp only [bs] at h21
                refine Tr.skip ?_
                refine Tr.ret0n Tryz.results93 (fun w' hw => ?_)
                exact ⟨rfl, c2, hi.right0 (by omega) (by omega) (by omega), HpOK.mutOwn hw (.head _) rfl⟩
theorem symMerge_ins (V : Value) (g : FuncId) (cb : List Value) (cmp : Ins → Ins → Int) (I : World → Prop) (hI : ∀ w w' l', I w → Mut w w' V → (rowE V 35 encIns l').holds w' → I w') (eg : ∀ args w, (callFunc g args).run Tryz.prog w = .ok (.enter g args) w) (hc : ∀ x y w', I w' → Calls Tryz.prog g ([Value.agg (encIns.enc x).toArray, Value.agg (encIns.enc y).toArray] ++ cb).toArray w' fun e w'' => e = .returned (.int .i64 (cmp x y)) ∧ Ext w' w'') (hO : WO (ltCI cmp)) : ∀ n, SymForI g cb cmp I V n := by
  intro n
  induction n using Nat.strongRecOn with
  | ind n ih =>
    intro l a md b ai mdi bi w ea emd eb hn ham hmb hb hl h1s h2s hIw hr
    exact sym_stepI l V a md b ai mdi bi ea emd eb g cb cmp I hI eg hc hO w hIw hr hl (fun k hk => ih k (by omega)) ham hmb hb h1s h2s
theorem getD_geI {l : List Ins} {k : Nat} (h : l.length ≤ k) : l.getD k default = default := by simp [List.getD_eq_getElem?_getD, List.getElem?_eq_none h]
set_option maxRecDepth 100000 in
set_option maxHeartbeats 8000000 in
theorem stable_ins (l : List Ins) (V : Value) (n : Nat) (ni : Int) (en : ni = ((n : Nat) : Int)) (g : FuncId) (cb : List Value) (cmp : Ins → Ins → Int) (I : World → Prop) (hI : ∀ w w' l', I w → Mut w w' V → (rowE V 35 encIns l').holds w' → I w') (eg : ∀ args w, (callFunc g args).run Tryz.prog w = .ok (.enter g args) w) (hc : ∀ x y w', I w' → Calls Tryz.prog g ([Value.agg (encIns.enc x).toArray, Value.agg (encIns.enc y).toArray] ++ cb).toArray w' fun e w'' => e = .returned (.int .i64 (cmp x y)) ∧ Ext w' w'') (hO : WO (ltCI cmp)) (w : World) (hIw : I w) (hr : (rowE V 35 encIns l).holds w) (hl : l.length ≤ 1000000) (hn : n = l.length) :
    Calls Tryz.prog 72 #[V, .int .i64 ni, .func (.func g) #[] cb.toArray] w (srtPI cmp V l 0 n w) := by
  subst en
  refine enterOwn (l := l) (E := encIns) (T := 35) hr Tryz.func72 rfl Tryz.ntmps72 rfl ?_
  refine Tr.seq ?_
  refine Tr.region ?_
  refine Tr.q (QS.assign rfl) rfl ?_
  refine Tr.nil ?_
  refine Tr.thenN ?_
  refine Tr.seq ?_
  refine Tr.region ?_
  refine Tr.q (QS.move rfl) rfl ?_
  refine Tr.q (QS.assign rfl) rfl ?_
  refine Tr.q (QS.assign rfl) rfl ?_
  refine Tr.nil ?_
  refine Tr.thenN ?_
  refine Tr.seq ?_
  refine Tr.block ?_
  refine Tr.loop (ι := Nat × List Ins) (fun ⟨t, cur⟩ => t * 20 ≤ n ∧ Stab (ltCI cmp) l cur ∧ Blk (ltCI cmp) cur 20 (t * 20)) (fun _ => _) (fun ⟨t, cur⟩ => [rowE V 35 encIns cur]) (fun ⟨t, cur⟩ => [(7, .int .i64 ((t * 20 : Nat) : Int)), (8, .int .i64 ((t * 20 + 20 : Nat) : Int))]) (fun ⟨t, cur⟩ => n - t * 20) (0, l) ⟨by omega, .refl _ _, fun t p q a1 a2 a3 a4 => by omega⟩ (.cons (by first | rfl | exact lookI rfl (by omega) | exact lookI rfl (by simp) | exact lookB rfl (by simp)) (.cons (by first | rfl | exact lookI rfl (by omega) | exact lookI rfl (by simp) | exact lookB rfl (by simp)) Front.nil)) (by repeat' (first | exact Pick.nil _ | exact Del.here _ | apply Pick.cons | apply Del.there)) rfl (fun i hi m hm => ?_)
  obtain ⟨t, cur⟩ := i
  replace hi : t * 20 ≤ n ∧ Stab (ltCI cmp) l cur ∧ Blk (ltCI cmp) cur 20 (t * 20) := hi
  replace hm : m = n - t * 20 := hm
  change Tr _ _ [rowE V 35 encIns cur] ([(7, .int .i64 ((t * 20 : Nat) : Int)), (8, .int .i64 ((t * 20 + 20 : Nat) : Int))] ++ _) _
  obtain ⟨ht1, ht2, ht3⟩ := hi
  have hcl := ht2.len
  refine Tr.seq ?_
  refine Tr.seq ?_
  refine Tr.region ?_
  refine Tr.q (QS.move rfl) rfl ?_
  refine Tr.q (QS.move rfl) rfl ?_
  refine Tr.q (QS.leq rfl rfl) rfl ?_
  refine Tr.nil ?_
  refine Tr.thenN ?_
  refine Tr.cond rfl (fun h1 => ?_) (fun h1 => ?_)
  · try simp only [bs] at h1
    refine Tr.skip ?_
    refine Tr.thenN ?_
    refine Tr.block ?_
    refine Tr.seq ?_
    refine Tr.region ?_
    refine Tr.q (QS.move rfl) rfl ?_
    refine Tr.q (QS.move rfl) rfl ?_
    refine Tr.q (QS.move rfl) rfl ?_
    refine Tr.q (QS.move rfl) rfl ?_
    refine Tr.callMutR (fun c => Stab (ltCI cmp) cur c ∧ Fram (t * 20) (t * 20 + 20) cur c ∧ Srt (ltCI cmp) c (t * 20) (t * 20 + 20)) rfl Tryz.call92 (fun w hw => insertion_ins cur V (t * 20) (t * 20 + 20) _ _ (by omega) (by omega) g cb cmp I hI eg hc hO w (hI _ _ _ hIw (HpOK.mutOwn hw (.head _) rfl).1 (HpOK.mutOwn hw (.head _) rfl).2) (hw.ent _ (.head _)) (by omega) (by omega) (by omega)) rfl (fun c2 hc2 => ?_)
    refine Tr.nil ?_
    refine Tr.thenN ?_
    refine Tr.seq ?_
    refine Tr.region ?_
    refine Tr.q (QS.move rfl) rfl ?_
    refine Tr.q (QS.assign rfl) rfl ?_
    refine Tr.nil ?_
    refine Tr.thenN ?_
    refine Tr.region ?_
    refine Tr.q (QS.move rfl) rfl ?_
    refine Tr.q (QS.move rfl) rfl ?_
    refine Tr.q (QS.addI rfl rfl (by omega)) rfl ?_
    refine Tr.q (QS.assign rfl) rfl ?_
    refine Tr.nil ?_
    refine Tr.inN ?_
    refine Tr.thenN ?_
    have hcl2 := hc2.1.len
    have hb2 : Blk (ltCI cmp) c2 20 ((t + 1) * 20) := by rw [show (t + 1) * 20 = t * 20 + 20 by omega]; exact blk_ins ht3 hc2.2.1 hc2.2.2 (by omega)
    apply Tr.again (t + 1, c2)
    · exact rfl
    · exact (.cons (by first | rfl | exact lookI rfl (by omega) | exact lookI rfl (by simp) | exact lookB rfl (by simp)) (.cons (by first | rfl | exact lookI rfl (by omega) | exact lookI rfl (by simp) | exact lookB rfl (by simp)) Front.nil))
    · exact SubX.dropN 16 (by kernel_rfl) rfl
    · exact (by repeat' (first | exact Pick.nil _ | exact Del.here _ | apply Pick.cons | apply Del.there))
    · exact ⟨by omega, ht2.trans hc2.1, hb2⟩
    · exact (by (try dsimp only); omega)
  · try simp only [bs] at h1
    refine Tr.exit ?_
    refine Tr.thenE ?_
    refine Tr.thenE ?_
    refine Tr.inHit ?_
    refine Tr.thenN ?_
    refine Tr.seq ?_
    refine Tr.region ?_
    refine Tr.q (QS.move rfl) rfl ?_
    refine Tr.q (QS.move rfl) rfl ?_
    refine Tr.q (QS.move rfl) rfl ?_
    refine Tr.q (QS.move rfl) rfl ?_
    refine Tr.callMutR (fun c => Stab (ltCI cmp) cur c ∧ Fram (t * 20) n cur c ∧ Srt (ltCI cmp) c (t * 20) n) rfl Tryz.call92 (fun w hw => insertion_ins cur V (t * 20) n _ _ (by omega) (by omega) g cb cmp I hI eg hc hO w (hI _ _ _ hIw (HpOK.mutOwn hw (.head _) rfl).1 (HpOK.mutOwn hw (.head _) rfl).2) (hw.ent _ (.head _)) (by omega) (by omega) (by omega)) rfl (fun c3 hc3 => ?_)
    refine Tr.nil ?_
    refine Tr.thenN ?_
    refine Tr.block ?_
    have hcl3 := hc3.1.len
    have hb3 : Blk (ltCI cmp) c3 20 n := blk_ins ht3 hc3.2.1 hc3.2.2 (by omega)
    have hst3 := ht2.trans hc3.1
    clear hc3 ht3 ht2
    refine Tr.loop (ι := Nat × Int × Int × List Ins) (fun ⟨bz, xa, xb, cur⟩ => 1 ≤ bz ∧ bz ≤ 2 * n + 20 ∧ Stab (ltCI cmp) l cur ∧ Blk (ltCI cmp) cur bz n) (fun _ => _) (fun ⟨bz, xa, xb, cur⟩ => [rowE V 35 encIns cur]) (fun ⟨bz, xa, xb, cur⟩ => [(6, .int .i64 (bz : Nat)), (7, .int .i64 xa), (8, .int .i64 xb)]) (fun ⟨bz, xa, xb, cur⟩ => n - bz) (20, _, _, c3) ⟨by omega, by omega, hst3, hb3⟩ (.cons (by first | rfl | exact lookI rfl (by omega) | exact lookI rfl (by simp) | exact lookB rfl (by simp)) (.cons (by first | rfl | exact lookI rfl (by omega) | exact lookI rfl (by simp) | exact lookB rfl (by simp)) (.cons (by first | rfl | exact lookI rfl (by omega) | exact lookI rfl (by simp) | exact lookB rfl (by simp)) Front.nil))) (by repeat' (first | exact Pick.nil _ | exact Del.here _ | apply Pick.cons | apply Del.there)) rfl (fun i hi m hm => ?_)
    obtain ⟨bz, xa, xb, cur⟩ := i
    replace hi : 1 ≤ bz ∧ bz ≤ 2 * n + 20 ∧ Stab (ltCI cmp) l cur ∧ Blk (ltCI cmp) cur bz n := hi
    replace hm : m = n - bz := hm
    change Tr _ _ [rowE V 35 encIns cur] ([(6, .int .i64 (bz : Nat)), (7, .int .i64 xa), (8, .int .i64 xb)] ++ _) _
    obtain ⟨hb1, hb2, hb4, hb5⟩ := hi
    have hcl4 := hb4.len
    refine Tr.seq ?_
    refine Tr.seq ?_
    refine Tr.region ?_
    refine Tr.q (QS.move rfl) rfl ?_
    refine Tr.q (QS.move rfl) rfl ?_
    refine Tr.q (QS.lss rfl rfl) rfl ?_
    refine Tr.nil ?_
    refine Tr.thenN ?_
    refine Tr.cond rfl (fun h2 => ?_) (fun h2 => ?_)
    · try simp only [bs] at h2
      refine Tr.skip ?_
      refine Tr.thenN ?_
      refine Tr.block ?_
      refine Tr.seq ?_
      refine Tr.region ?_
      refine Tr.q (QS.move rfl) rfl ?_
      refine Tr.q (QS.mulI rfl rfl (by omega)) rfl ?_
      refine Tr.q (QS.assign rfl) rfl ?_
      refine Tr.q (QS.assign rfl) rfl ?_
      refine Tr.nil ?_
      refine Tr.thenN ?_
      refine Tr.seq ?_
      refine Tr.block ?_
      refine Tr.loop (ι := Nat × Nat × List Ins) (fun ⟨t, x, c4⟩ => x = t * (2 * bz) ∧ x ≤ n ∧ Stab (ltCI cmp) l c4 ∧ Mix (ltCI cmp) c4 bz x n) (fun _ => _) (fun ⟨t, x, c4⟩ => [rowE V 35 encIns c4]) (fun ⟨t, x, c4⟩ => [(7, .int .i64 (x : Nat)), (8, .int .i64 ((x + 2 * bz : Nat) : Int))]) (fun ⟨t, x, c4⟩ => n - x) (0, 0, cur) ⟨by omega, by omega, hb4, mix_0 hb5⟩ (.cons (by first | rfl | exact lookI rfl (by omega) | exact lookI rfl (by simp) | exact lookB rfl (by simp)) (.cons (by first | rfl | exact lookI rfl (by omega) | exact lookI rfl (by simp) | exact lookB rfl (by simp)) Front.nil)) (by repeat' (first | exact Pick.nil _ | exact Del.here _ | apply Pick.cons | apply Del.there)) rfl (fun i hi m hm => ?_)
      obtain ⟨t, x, c4⟩ := i
      replace hi : x = t * (2 * bz) ∧ x ≤ n ∧ Stab (ltCI cmp) l c4 ∧ Mix (ltCI cmp) c4 bz x n := hi
      replace hm : m = n - x := hm
      change Tr _ _ [rowE V 35 encIns c4] ([(7, .int .i64 (x : Nat)), (8, .int .i64 ((x + 2 * bz : Nat) : Int))] ++ _) _
      obtain ⟨ht1, ht2, ht3, ht4⟩ := hi
      have hcl5 := ht3.len
      refine Tr.seq ?_
      refine Tr.seq ?_
      refine Tr.region ?_
      refine Tr.q (QS.move rfl) rfl ?_
      refine Tr.q (QS.move rfl) rfl ?_
      refine Tr.q (QS.leq rfl rfl) rfl ?_
      refine Tr.nil ?_
      refine Tr.thenN ?_
      refine Tr.cond rfl (fun h3 => ?_) (fun h3 => ?_)
      · try simp only [bs] at h3
        refine Tr.skip ?_
        refine Tr.thenN ?_
        refine Tr.block ?_
        refine Tr.seq ?_
        have hs1 : Srt (ltCI cmp) c4 x (x + bz) := by subst ht1; exact mix_left ht4 (Nat.le_refl _) (by omega)
        have hs2 : Srt (ltCI cmp) c4 (x + bz) (x + 2 * bz) := by subst ht1; exact mix_right ht4 (Nat.le_refl _) (by omega)
        refine Tr.region ?_
        refine Tr.q (QS.move rfl) rfl ?_
        refine Tr.q (QS.move rfl) rfl ?_
        refine Tr.q (QS.move rfl) rfl ?_
        refine Tr.q (QS.move rfl) rfl ?_
        refine Tr.q (QS.addI rfl rfl (by omega)) rfl ?_
        refine Tr.q (QS.move rfl) rfl ?_
        refine Tr.q (QS.move rfl) rfl ?_
        refine Tr.callMutR (fun c => Stab (ltCI cmp) c4 c ∧ Fram x (x + 2 * bz) c4 c ∧ Srt (ltCI cmp) c x (x + 2 * bz)) rfl Tryz.call93 (fun w hw => symMerge_ins V g cb cmp I hI eg hc hO _ c4 x (x + bz) (x + 2 * bz) _ _ _ w (by omega) (by omega) (by omega) (Nat.le_refl _) (by omega) (by omega) (by omega) (by omega) hs1 hs2 (hI _ _ _ hIw (HpOK.mutOwn hw (.head _) rfl).1 (HpOK.mutOwn hw (.head _) rfl).2) (hw.ent _ (.head _))) rfl (fun c5 hc5 => ?_)
        refine Tr.nil ?_
        refine Tr.thenN ?_
        refine Tr.seq ?_
        refine Tr.region ?_
        refine Tr.q (QS.move rfl) rfl ?_
        refine Tr.q (QS.assign rfl) rfl ?_
        refine Tr.nil ?_
        refine Tr.thenN ?_
        refine Tr.region ?_
        refine Tr.q (QS.move rfl) rfl ?_
        refine Tr.q (QS.move rfl) rfl ?_
        refine Tr.q (QS.mulI rfl rfl (by omega)) rfl ?_
        refine Tr.q (QS.addI rfl rfl (by omega)) rfl ?_
        refine Tr.q (QS.assign rfl) rfl ?_
        refine Tr.nil ?_
        refine Tr.inN ?_
        refine Tr.thenN ?_
        have hm2 : Mix (ltCI cmp) c5 bz (x + 2 * bz) n := by
          have f := hc5.2.1
          have so := hc5.2.2
          subst ht1
          exact mix_step ht4 f so (Nat.le_refl _) (by omega)
        apply Tr.again (t + 1, x + 2 * bz, c5)
        · exact rfl
        · exact (.cons (by first | rfl | exact lookI rfl (by omega) | exact lookI rfl (by simp) | exact lookB rfl (by simp)) (.cons (by first | rfl | exact lookI rfl (by omega) | exact lookI rfl (by simp) | exact lookB rfl (by simp)) Front.nil))
        · exact SubX.dropN 20 (by kernel_rfl) rfl
        · exact (by repeat' (first | exact Pick.nil _ | exact Del.here _ | apply Pick.cons | apply Del.there))
        · exact ⟨by rw [Nat.add_mul, ht1]; omega, by omega, ht3.trans hc5.1, hm2⟩
        · exact (by (try dsimp only); omega)
      · try simp only [bs] at h3
        refine Tr.exit ?_
        refine Tr.thenE ?_
        refine Tr.thenE ?_
        refine Tr.inHit ?_
        refine Tr.thenN ?_
        refine Tr.seqJ (ι := List Ins) (fun c6 => Stab (ltCI cmp) l c6 ∧ Blk (ltCI cmp) c6 (2 * bz) n) (fun _ => Bg.less w V) (fun c6 => [rowE V 35 encIns c6]) (fun c6 => []) ?_ (fun c6 hi => ?_)
        · skip
          refine Tr.seq ?_
          refine Tr.region ?_
          refine Tr.q (QS.move rfl) rfl ?_
          refine Tr.q (QS.move rfl) rfl ?_
          refine Tr.q (QS.addI rfl rfl (by omega)) rfl ?_
          refine Tr.q (QS.assign rfl) rfl ?_
          refine Tr.nil ?_
          refine Tr.thenN ?_
          refine Tr.seq ?_
          refine Tr.region ?_
          refine Tr.q (QS.move rfl) rfl ?_
          refine Tr.q (QS.move rfl) rfl ?_
          refine Tr.q (QS.lss rfl rfl) rfl ?_
          refine Tr.nil ?_
          refine Tr.thenN ?_
          refine Tr.cond rfl (fun h4 => ?_) (fun h4 => ?_)
          · try simp only [bs] at h4
            have hs1 : Srt (ltCI cmp) c4 x (x + bz) := by subst ht1; exact mix_left ht4 (Nat.le_refl _) (by omega)
            have hs2 : Srt (ltCI cmp) c4 (x + bz) n := by subst ht1; exact mix_right ht4 (by omega) (Nat.le_refl _)
            refine Tr.region ?_
            refine Tr.q (QS.move rfl) rfl ?_
            refine Tr.q (QS.move rfl) rfl ?_
            refine Tr.q (QS.move rfl) rfl ?_
            refine Tr.q (QS.move rfl) rfl ?_
            refine Tr.q (QS.move rfl) rfl ?_
            refine Tr.callMutR (fun c => Stab (ltCI cmp) c4 c ∧ Fram x n c4 c ∧ Srt (ltCI cmp) c x n) rfl Tryz.call93 (fun w hw => symMerge_ins V g cb cmp I hI eg hc hO _ c4 x (x + bz) n _ _ _ w (by omega) (by omega) (by omega) (Nat.le_refl _) (by omega) (by omega) (by omega) (by omega) hs1 hs2 (hI _ _ _ hIw (HpOK.mutOwn hw (.head _) rfl).1 (HpOK.mutOwn hw (.head _) rfl).2) (hw.ent _ (.head _))) rfl (fun c5 hc5 => ?_)
            refine Tr.nil ?_
            refine Tr.thenN ?_
            have hm2 : Blk (ltCI cmp) c5 (2 * bz) n := by
              have f := hc5.2.1
              have so := hc5.2.2
              subst ht1
              exact blk_ins ht4.1 f so (by rw [Nat.add_mul]; omega)
            apply Tr.joined c5
            · exact rfl
            · exact Front.nil
            · exact SubX.dropN 13 (by kernel_rfl) rfl
            · exact (by repeat' (first | exact Pick.nil _ | exact Del.here _ | apply Pick.cons | apply Del.there))
            · exact ⟨ht3.trans hc5.1, hm2⟩
          · try simp only [bs] at h4
            refine Tr.skip ?_
            refine Tr.thenN ?_
            have hm2 : Blk (ltCI cmp) c4 (2 * bz) n := by
              subst ht1
              exact mix_end ht4 (by omega)
            apply Tr.joined c4
            · exact rfl
            · exact Front.nil
            · exact SubX.dropN 7 (by kernel_rfl) rfl
            · exact (by repeat' (first | exact Pick.nil _ | exact Del.here _ | apply Pick.cons | apply Del.there))
            · exact ⟨ht3, hm2⟩
        · skip
          replace hi : Stab (ltCI cmp) l c6 ∧ Blk (ltCI cmp) c6 (2 * bz) n := hi
          change Tr _ _ [rowE V 35 encIns c6] ([] ++ _) _
          refine Tr.region ?_
          refine Tr.q (QS.move rfl) rfl ?_
          refine Tr.q (QS.mulI rfl rfl (by omega)) rfl ?_
          refine Tr.q (QS.assign rfl) rfl ?_
          refine Tr.nil ?_
          refine Tr.inN ?_
          refine Tr.thenN ?_
          apply Tr.again (2 * bz, _, _, c6)
          · exact rfl
          · exact (.cons (by first | rfl | exact lookI rfl (by omega) | exact lookI rfl (by simp) | exact lookB rfl (by simp)) (.cons (by first | rfl | exact lookI rfl (by omega) | exact lookI rfl (by simp) | exact lookB rfl (by simp)) (.cons (by first | rfl | exact lookI rfl (by omega) | exact lookI rfl (by simp) | exact lookB rfl (by simp)) Front.nil)))
          · exact SubX.dropN 18 (by kernel_rfl) rfl
          · exact (by repeat' (first | exact Pick.nil _ | exact Del.here _ | apply Pick.cons | apply Del.there))
          · exact ⟨by omega, by omega, hi.1, hi.2⟩
          · exact (by (try dsimp only); omega)
    · try simp only [bs] at h2
      refine Tr.exit ?_
      refine Tr.thenE ?_
      refine Tr.thenE ?_
      refine Tr.inHit ?_
      refine Tr.ret0n Tryz.results72 (fun w' hw => ?_)
      exact ⟨rfl, cur, ⟨hb4, ⟨hb4.len, fun k hk => by rw [getD_geI (by omega), getD_geI (by omega)]⟩, hb5.all (by omega)⟩, HpOK.mutOwn hw (.head _) rfl⟩
set_option maxRecDepth 100000 in
set_option maxHeartbeats 2000000 in
theorem sortStable_ins (l : List Ins) (V : Value) (g : FuncId) (cb : List Value) (cmp : Ins → Ins → Int) (I : World → Prop) (hI : ∀ w w' l', I w → Mut w w' V → (rowE V 35 encIns l').holds w' → I w') (eg : ∀ args w, (callFunc g args).run Tryz.prog w = .ok (.enter g args) w) (hc : ∀ x y w', I w' → Calls Tryz.prog g ([Value.agg (encIns.enc x).toArray, Value.agg (encIns.enc y).toArray] ++ cb).toArray w' fun e w'' => e = .returned (.int .i64 (cmp x y)) ∧ Ext w' w'') (hO : WO (ltCI cmp)) (w : World) (hIw : I w) (hr : (rowE V 35 encIns l).holds w) (hl : l.length ≤ 1000000) :
    Calls Tryz.prog 39 #[V, .func (.func g) #[] cb.toArray] w (srtPI cmp V l 0 l.length w) := by
  refine enterOwn (l := l) (E := encIns) (T := 35) hr Tryz.func39 rfl Tryz.ntmps39 rfl ?_
  refine Tr.region ?_
  refine Tr.q (QS.move rfl) rfl ?_
  refine Tr.q (QS.move rfl) rfl ?_
  refine Tr.q (QS.lenRow rfl (by repeat (first | exact List.Mem.head _ | apply List.Mem.tail)) Tryz.underlying22) rfl ?_
  refine Tr.q (QS.move rfl) rfl ?_
  refine Tr.callMutR (fun c => Stab (ltCI cmp) l c ∧ Fram 0 l.length l c ∧ Srt (ltCI cmp) c 0 l.length) rfl Tryz.call72 (fun w hw => stable_ins l V l.length _ rfl g cb cmp I hI eg hc hO w (hI _ _ _ hIw (HpOK.mutOwn hw (.head _) rfl).1 (HpOK.mutOwn hw (.head _) rfl).2) (hw.ent _ (.head _)) hl rfl) rfl (fun c2 hc2 => ?_)
  refine Tr.nil ?_
  refine Tr.ret0n Tryz.results39 (fun w' hw => ?_)
  exact ⟨rfl, c2, hc2, HpOK.mutOwn hw (.head _) rfl⟩
end Go.Proofs.YtmhbfelnjkhepaaGreat
namespace Go.HL
open Go
/-- A section, and where its bytes lie. -/
structure SecV where
  name : ByteArray
  addr : UInt32
  data : List UInt8
  dp : Option Addr
  dc : Nat
  wr : Bool
  ex : Bool
  deriving Inhabited
def encSec : Enc SecV := ⟨5, fun s => [.string s.name, .int .u32 s.addr.toNat, .slice s.dp s.data.length s.dc, .bool s.wr, .bool s.ex], fun _ => rfl,
  fun x v h => by simp at h; rcases h with h | h | h | h | h <;> subst h <;> rfl⟩
structure Sec where
  name : ByteArray
  addr : UInt32
  data : List UInt8
  wr : Bool
  ex : Bool
  deriving DecidableEq, Inhabited
def SecV.pl (s : SecV) : Sec := ⟨s.name, s.addr, s.data, s.wr, s.ex⟩
/-- The sections' bytes read. -/
def DataIn (h : Hp) (l : List SecV) : Prop := ∀ s ∈ l, Sl h encU8 s.data (.slice s.dp s.data.length s.dc)
theorem DataIn.mono {h h' : Hp} {l : List SecV} (d : DataIn h l) (hh : Hp.le h h') : DataIn h' l := fun s hs => (d s hs).mono hh
/-- Not too much. -/
def SecB (l : List SecV) : Prop := l.length ≤ 1000 ∧ ∀ s ∈ l, s.data.length ≤ 200000
theorem SecB.at {l : List SecV} (h : SecB l) {k : Nat} (hk : k < l.length) : (l.getD k default).data.length ≤ 200000 := h.2 _ (mem_getD hk)
def endP (s : SecV) : Int := min ((s.addr.toNat : Int) + s.data.length) 4294967295
/-- A list of sections made anew. -/
def SecsAt (h : Hp) (ls : List Sec) (V : Value) : Prop := ∃ l, Sl h encSec l V ∧ DataIn h l ∧ l.map SecV.pl = ls
theorem SecsAt.mono {h h' : Hp} {ls : List Sec} {V : Value} (s : SecsAt h ls V) (hh : Hp.le h h') : SecsAt h' ls V := let ⟨l, a, b, c⟩ := s; ⟨l, a.mono hh, b.mono hh, c⟩
theorem any_take_succ {α : Type} [Inhabited α] {p : α → Bool} {l : List α} {k : Nat} (h : k < l.length) : (l.take (k + 1)).any p = ((l.take k).any p || p (l.getD k default)) := by
  rw [take_succ h, List.any_append]; simp
theorem SecsAt.nil {h : Hp} : SecsAt h [] (.slice none 0 0) := ⟨[], Sl.nil _ _, fun s hs => (by simp at hs), rfl⟩
end Go.HL
namespace Go.HL
open Go
def bl (a b : ByteArray) : Bool := Op.bytesLess a.toList b.toList
def ltS (x y : Sec) : Bool := decide (x.addr < y.addr) || (decide (x.addr = y.addr) && bl x.name y.name)
def ltP (x y : SecV) : Bool := ltS x.pl y.pl
def cmpU (a b : UInt32) : Int := if a < b then -1 else if b < a then 1 else 0
theorem Stab.pl {xs ys : List SecV} (h : Stab ltP xs ys) : Stab ltS (xs.map SecV.pl) (ys.map SecV.pl) :=
  ⟨h.1.map _, fun z => by
    rw [List.filter_map, List.filter_map]
    have := h.2 ⟨z.name, z.addr, z.data, none, 0, z.wr, z.ex⟩
    exact congrArg (List.map SecV.pl) this⟩
theorem Stab.append {α : Type} {lt : α → α → Bool} {a b : List α} (h : Stab lt a b) (c : List α) : Stab lt (a ++ c) (b ++ c) :=
  ⟨h.1.append_right c, fun z => by rw [List.filter_append, List.filter_append, h.2 z]⟩
/-- ys is ls sorted. -/
def SortedOf (ls ys : List Sec) : Prop := Stab ltS ls ys ∧ ys.Pairwise fun x y => ltS y x = false
def SrtAt (ls : List Sec) (h : Hp) (i : Value × List Sec) : Prop := SecsAt h i.2 i.1 ∧ SortedOf ls i.2
theorem SrtAt.mono {ls : List Sec} {h h' : Hp} {i : Value × List Sec} (s : SrtAt ls h i) (hh : Hp.le h h') : SrtAt ls h' i := ⟨s.1.mono hh, s.2⟩
end Go.HL
namespace Go.HL
open Go Go.RowKit Go.MapKept
section
variable {α : Type}
def mget : List (UInt32 × α) → UInt32 → Option α
  | [], _ => none
  | p :: t, k => if k = p.1 then some p.2 else mget t k
def mput : List (UInt32 × α) → UInt32 → α → List (UInt32 × α)
  | [], k, x => [(k, x)]
  | p :: t, k, x => if k = p.1 then (k, x) :: t else p :: mput t k x
theorem mget_put (l : List (UInt32 × α)) (k j : UInt32) (x : α) : mget (mput l k x) j = if j = k then some x else mget l j := by
  induction l with
  | nil => simp [mput, mget]
  | cons p t ih =>
    unfold mput
    by_cases h : k = p.1
    · rw [if_pos h]
      unfold mget
      subst h
      by_cases c : j = p.1 <;> simp [c]
    · rw [if_neg h]
      by_cases c : j = p.1
      · have : ¬ j = k := fun q => h (q.symm.trans c)
        simp [mget, c, this]
        intro q; exact absurd q.symm h
      · simp [mget, c, ih]
theorem mget_mem {l : List (UInt32 × α)} {k : UInt32} : (mget l k).isSome = true ↔ k ∈ l.map (·.1) := by
  induction l with
  | nil => simp [mget]
  | cons p t ih =>
    unfold mget
    by_cases h : k = p.1
    · simp [h]
    · rw [if_neg h, ih]; simp [h]
theorem mem_of_mget {l : List (UInt32 × α)} {k : UInt32} {x : α} (h : mget l k = some x) : (k, x) ∈ l := by
  induction l with
  | nil => simp [mget] at h
  | cons p t ih =>
    unfold mget at h
    split at h
    · rename_i e; cases h; subst e; exact .head _
    · exact .tail _ (ih h)
/-- What stands at a key's place. -/
theorem mget_at : ∀ (l : List (UInt32 × α)) {j : Nat} {p : UInt32 × α}, (l.map (·.1)).Nodup → l[j]? = some p → mget l p.1 = some p.2 ∧ ∀ x, mput l p.1 x = l.set j (p.1, x)
  | [], j, p, _, h => by simp at h
  | q :: t, 0, p, _, h => by
    simp only [List.getElem?_cons_zero, Option.some.injEq] at h
    subst h
    exact ⟨by simp [mget], fun x => by simp [mput]⟩
  | q :: t, j + 1, p, hn, h => by
    rw [List.map_cons, List.nodup_cons] at hn
    simp only [List.getElem?_cons_succ] at h
    have hne : ¬ p.1 = q.1 := fun e => hn.1 (List.mem_map.2 ⟨p, List.mem_of_getElem? h, e⟩)
    obtain ⟨h1, h2⟩ := mget_at t hn.2 h
    exact ⟨by rw [mget, if_neg hne]; exact h1, fun x => by rw [mput, if_neg hne, h2 x]; rfl⟩
theorem mput_new {l : List (UInt32 × α)} {k : UInt32} (h : mget l k = none) (x : α) : mput l k x = l ++ [(k, x)] := by
  induction l with
  | nil => rfl
  | cons p t ih =>
    unfold mget at h
    split at h
    · cases h
    · rename_i hk; rw [mput, if_neg hk, ih h]; rfl
end
def keyV (k : UInt32) : Value := .int .u32 (k.toNat : Int)
theorem keyV_inj {a b : UInt32} (h : keyV a = keyV b) : a = b := by
  unfold keyV at h
  injection h with _ h
  exact UInt32.toNat_inj.1 (by omega)
theorem keyV_key (k : UInt32) : IsKey (.int .u32) (keyV k) := by simp [IsKey, keyV]
structure MapIs {α : Type} (f : α → Value) (l : List (UInt32 × α)) (es : Array MapEntry) (ck : Nat) : Prop where
  st : Stamped es ck
  ents : es.toList.map (fun e => (e.key, e.val)) = l.map fun p => (keyV p.1, f p.2)
section
variable {α : Type} {f : α → Value} {l : List (UInt32 × α)} {es : Array MapEntry} {ck : Nat}
theorem MapIs.made : MapIs f [] #[] 0 := ⟨stamped_empty 0, rfl⟩
theorem MapIs.len (h : MapIs f l es ck) : es.size = l.length := by
  have := congrArg List.length h.ents
  simpa using this
theorem MapIs.keys (h : MapIs f l es ck) : es.toList.map (·.key) = l.map fun p => keyV p.1 := by
  have := congrArg (List.map Prod.fst) h.ents
  rw [List.map_map, List.map_map] at this
  exact this
theorem MapIs.nodup (h : MapIs f l es ck) : (l.map (·.1)).Nodup := by
  have h1 := h.st.2.2
  rw [h.keys] at h1
  have e : (l.map fun p => keyV p.1) = (l.map (·.1)).map keyV := by rw [List.map_map]; rfl
  rw [e] at h1
  exact List.Pairwise.imp (fun {a b} hne q => hne (by rw [q])) (List.pairwise_map.1 h1)
theorem MapIs.isKey (h : MapIs f l es ck) : ∀ x ∈ es.toList, IsKey (.int .u32) x.key := by
  intro x hx
  have : x.key ∈ es.toList.map (·.key) := List.mem_map.2 ⟨x, hx, rfl⟩
  rw [h.keys] at this
  obtain ⟨p, _, e⟩ := List.mem_map.1 this
  rw [← e]; exact keyV_key _
theorem MapIs.at_ (h : MapIs f l es ck) {j : Nat} {e : MapEntry} (he : es.toList[j]? = some e) : ∃ p, l[j]? = some p ∧ e.key = keyV p.1 ∧ e.val = f p.2 := by
  have h1 : (es.toList.map (fun e => (e.key, e.val)))[j]? = some (e.key, e.val) := by rw [List.getElem?_map, he]; rfl
  rw [h.ents, List.getElem?_map] at h1
  cases hl : l[j]? with
  | none => rw [hl] at h1; cases h1
  | some p =>
    rw [hl] at h1
    simp only [Option.map_some, Option.some.injEq, Prod.mk.injEq] at h1
    exact ⟨p, rfl, h1.1.symm, h1.2.symm⟩
/-- Looking for a key. -/
theorem MapIs.find (h : MapIs f l es ck) (k : UInt32) :
    (Instr.findNow (.int .u32) (keyV k) es.toList 0 = some none ∧ mget l k = none ∧ ∀ x ∈ es.toList, x.key ≠ keyV k) ∨
    ∃ (j : Nat) (e : MapEntry) (x : α), Instr.findNow (.int .u32) (keyV k) es.toList 0 = some (some (j, f x)) ∧ es.toList[j]? = some e ∧ e.key = keyV k ∧ l[j]? = some (k, x) ∧ mget l k = some x := by
  rcases findNow_spec (keyV_key k) es.toList 0 h.isKey with ⟨h1, h2⟩ | ⟨j, e, h1, h2, h3⟩
  · refine .inl ⟨h1, ?_, h2⟩
    cases hg : mget l k with
    | none => rfl
    | some x =>
      exfalso
      have hm := mem_of_mget hg
      have : keyV k ∈ es.toList.map (·.key) := by rw [h.keys]; exact List.mem_map.2 ⟨_, hm, rfl⟩
      obtain ⟨e, he, hk⟩ := List.mem_map.1 this
      exact h2 e he hk
  · obtain ⟨p, p1, p2, p3⟩ := h.at_ h2
    have hk : p.1 = k := keyV_inj (p2.symm.trans h3)
    obtain ⟨pk, px⟩ := p
    simp only at hk p3
    subst hk
    exact .inr ⟨j, e, px, by rw [h1, p3]; simp, h2, h3, p1, (mget_at l h.nodup p1).1⟩
theorem MapIs.push (h : MapIs f l es ck) {k : UInt32} (hk : mget l k = none) (x : α) : MapIs f (mput l k x) (es.push { key := keyV k, val := f x, born := ck }) (ck + 1) := by
  refine ⟨stamped_push h.st ?_, ?_⟩
  · intro e he q
    have : keyV k ∈ es.toList.map (·.key) := List.mem_map.2 ⟨e, he, q⟩
    rw [h.keys] at this
    obtain ⟨p, hp, e⟩ := List.mem_map.1 this
    have h1 := mget_mem.2 (List.mem_map.2 ⟨p, hp, keyV_inj e⟩ : k ∈ l.map (·.1))
    rw [hk] at h1; cases h1
  · rw [mput_new hk, Array.toList_push, List.map_append, List.map_append, h.ents]; rfl
theorem MapIs.modify (h : MapIs f l es ck) {k : UInt32} {j : Nat} {e : MapEntry} {x0 : α} (he : es.toList[j]? = some e) (hk : e.key = keyV k) (hl : l[j]? = some (k, x0)) (x : α) :
    MapIs f (mput l k x) (es.modify j fun e => { e with key := keyV k, val := f x }) ck := by
  have hj : es[j]? = some e := by simpa using he
  refine ⟨stamped_modify h.st _ _ (fun _ _ => rfl) (fun e' _ he' => by rw [hj] at he'; cases he'; exact hk.symm), ?_⟩
  rw [(mget_at l h.nodup hl).2 x]
  have hes := h.ents
  apply List.ext_getElem?
  intro i
  rw [List.getElem?_map, List.getElem?_map, Array.getElem?_toList, Array.getElem?_modify, List.getElem?_set]
  have hi : (es.toList.map (fun e => (e.key, e.val)))[i]? = (l.map fun p => (keyV p.1, f p.2))[i]? := by rw [hes]
  rw [List.getElem?_map, List.getElem?_map, Array.getElem?_toList] at hi
  by_cases c : j = i
  · subst c
    have hlt : j < l.length := (List.getElem?_eq_some_iff.1 hl).1
    simp [hj, hlt]
  · simp only [c, if_false]; exact hi
end
/-- A map of one's own. -/
def mapE {α : Type} (b : Nat) (f : α → Value) (l : List (UInt32 × α)) : Ent := ⟨some b, fun o => ∃ es ck, o = some (.map es ck) ∧ MapIs f l es ck⟩
/-- A map that is only read. -/
def MapIn {α : Type} (h : Hp) (b : Nat) (f : α → Value) (l : List (UInt32 × α)) : Prop := ∃ es ck, h b = some (.map es ck) ∧ MapIs f l es ck
theorem MapIn.mono {α : Type} {h k : Hp} {b : Nat} {f : α → Value} {l : List (UInt32 × α)} (m : MapIn h b f l) (hk : Hp.le h k) : MapIn k b f l := by
  obtain ⟨es, ck, h1, h2⟩ := m
  exact ⟨es, ck, hk _ _ h1, h2⟩
theorem mapE.in_ {α : Type} {b : Nat} {f : α → Value} {l : List (UInt32 × α)} {w : World} (h : (mapE b f l).holds w) : MapIn (hp w) b f l := by
  obtain ⟨es, ck, h1, h2⟩ := h
  exact ⟨es, ck, h1, h2⟩
/-- What a look-up gives. -/
def mval {α : Type} (f : α → Value) (z : Value) : Option α → Value
  | some x => f x
  | none => z
section
variable {P : Program} {ops : Array Oper} {Q : Exit → Act → World → Prop} {N : Nat} {F : Bg} {L : List Ent} {M : Fr} {dst : Option Tmp} {ty : TypeId} {pos : String} {after : Array Edge} {g : Option (Nat × Bool)} {rest : List Oper} {d : Nat}
theorem lookup_run {α : Type} {f : α → Value} {l : List (UInt32 × α)} {w : World} {t K e : TypeId} {z : Value} {b : Nat} (ht : P.underlying t = some (.map K e)) (hK : P.underlying K = some (.int .u32)) (hz : ∀ w, (zeroValue e).run P w = .ok z w)
    (hm : MapIn (HL.hp w) b f l) (k : UInt32) (c : Bool) : (Instr.lookup t (.map (some b)) (keyV k) c).run P w = .ok (if c then .tuple #[mval f z (mget l k), .bool (mget l k).isSome] else mval f z (mget l k)) w := by
  obtain ⟨es, ck, hb, hm⟩ := hm
  replace hb : w.heap[b]? = some (.map es ck) := hb
  rcases hm.find k with ⟨h1, h2, _⟩ | ⟨j, e0, x, h1, _, _, _, h2⟩
  · cases c <;> simp [Instr.lookup, run_underlying ht, Go.MapKept.run_getObj_map hb, run_checkKey hK (keyV_key k), run_findKey hK h1, hz, Result.andThen, h2, mval]
  · cases c <;> simp [Instr.lookup, run_underlying ht, Go.MapKept.run_getObj_map hb, run_checkKey hK (keyV_key k), run_findKey hK h1, hz, Result.andThen, h2, mval]
theorem QS.look {α : Type} {f : α → Value} {l : List (UInt32 × α)} {x y : Operand} {t K e : TypeId} {z : Value} {b : Nat} {k : UInt32} (hx : opv M x = some (.map (some b))) (hy : opv M y = some (.int .u32 k.toNat)) (hm : mapE b f l ∈ L)
    (ht : P.underlying t = some (.map K e)) (hK : P.underlying K = some (.int .u32)) (hz : ∀ w, (zeroValue e).run P w = .ok z w) : QS P N F L M ⟨dst, .lookup t x y false, ty, pos, after, g⟩ (mval f z (mget l k)) :=
  QS.of_run fun a w ha hw => by
    have hr := lookup_run (P := P) ht hK hz (mapE.in_ (hw.ent _ hm)) k false
    simp only [keyV] at hr
    simp [execOp, ha.eval hx, ha.eval hy, hr]
theorem QS.lookB {α : Type} {f : α → Value} {l : List (UInt32 × α)} {x y : Operand} {t K e : TypeId} {z : Value} {b : Nat} {k : UInt32} (hx : opv M x = some (.map (some b))) (hy : opv M y = some (.int .u32 k.toNat)) (hm : MapIn F.blk b f l)
    (ht : P.underlying t = some (.map K e)) (hK : P.underlying K = some (.int .u32)) (hz : ∀ w, (zeroValue e).run P w = .ok z w) : QS P N F L M ⟨dst, .lookup t x y false, ty, pos, after, g⟩ (mval f z (mget l k)) :=
  QS.of_run fun a w ha hw => by
    have hr := lookup_run (P := P) ht hK hz (hm.mono hw.bg) k false
    simp only [keyV] at hr
    simp [execOp, ha.eval hx, ha.eval hy, hr]
def boolV (x : Bool) : Value := .bool x
theorem mval_bool (o : Option Bool) : mval boolV (.bool false) o = .bool (o.getD false) := by cases o <;> rfl
theorem QS.lookT {l : List (UInt32 × Bool)} {x y : Operand} {t K e : TypeId} {b : Nat} {k : UInt32} (hx : opv M x = some (.map (some b))) (hy : opv M y = some (.int .u32 k.toNat)) (hm : mapE b boolV l ∈ L)
    (ht : P.underlying t = some (.map K e)) (hK : P.underlying K = some (.int .u32)) (hz : ∀ w, (zeroValue e).run P w = .ok (.bool false) w) : QS P N F L M ⟨dst, .lookup t x y false, ty, pos, after, g⟩ (.bool ((mget l k).getD false)) := by
  have h := QS.look (P := P) (N := N) (F := F) (L := L) (M := M) (dst := dst) (ty := ty) (pos := pos) (after := after) (g := g) hx hy hm ht hK hz
  rw [mval_bool] at h; exact h
theorem QS.lookBT {l : List (UInt32 × Bool)} {x y : Operand} {t K e : TypeId} {b : Nat} {k : UInt32} (hx : opv M x = some (.map (some b))) (hy : opv M y = some (.int .u32 k.toNat)) (hm : MapIn F.blk b boolV l)
    (ht : P.underlying t = some (.map K e)) (hK : P.underlying K = some (.int .u32)) (hz : ∀ w, (zeroValue e).run P w = .ok (.bool false) w) : QS P N F L M ⟨dst, .lookup t x y false, ty, pos, after, g⟩ (.bool ((mget l k).getD false)) := by
  have h := QS.lookB (P := P) (N := N) (F := F) (L := L) (M := M) (dst := dst) (ty := ty) (pos := pos) (after := after) (g := g) hx hy hm ht hK hz
  rw [mval_bool] at h; exact h
theorem Tr.makeMap {α : Type} (f : α → Value) {t : TypeId} (hd : Nat.ble (d + 1) N = true)
    (k : ∀ b, Tr N F (mapE b f [] :: L) ((d, .map (some b)) :: M) (wpList P ops Q rest)) : Tr N F L M (wpList P ops Q (⟨some d, .makeMap t none, ty, pos, after, none⟩ :: rest)) := by
  intro a w ha hw
  refine wpList_plain rfl fun K hK => ?_
  unfold Oper.wp
  have hr : (execOp a.eval ⟨some d, .makeMap t none, ty, pos, after, none⟩).run P w = .ok (.value (.map (some w.heap.size))) (w.alloc (.map #[] 0)) := by simp [execOp, Instr.makeMap]
  rw [hr]
  exact hK _ _ (k w.heap.size _ _ (ha.put (Nat.le_of_ble_eq_true hd)) (hw.alloc _ _ ⟨#[], 0, rfl, MapIs.made⟩))
theorem update_run {α : Type} {f : α → Value} {l : List (UInt32 × α)} {w : World} {t K e : TypeId} {b : Nat} (ht : P.underlying t = some (.map K e)) (hK : P.underlying K = some (.int .u32)) (hm : MapIn (HL.hp w) b f l) (k : UInt32) (x : α) :
    ∃ es ck, (Instr.mapUpdate t (.map (some b)) (keyV k) (f x)).run P w = .ok () { w with heap := w.heap.setIfInBounds b (.map es ck) } ∧ MapIs f (mput l k x) es ck := by
  obtain ⟨es, ck, hb, hm⟩ := hm
  replace hb : w.heap[b]? = some (.map es ck) := hb
  rcases hm.find k with ⟨h1, h2, h3⟩ | ⟨j, e0, x0, h1, h2, h3, h4, h5⟩
  · exact ⟨_, _, by simp [Instr.mapUpdate, run_underlying ht, Go.MapKept.run_getObj_map hb, run_checkKey hK (keyV_key k), run_findKey hK h1, run_setObj_map _ hb, Result.andThen], hm.push h2 x⟩
  · have hj : es[j]? = some e0 := by simpa using h2
    exact ⟨_, _, by simp [Instr.mapUpdate, run_underlying ht, Go.MapKept.run_getObj_map hb, run_checkKey hK (keyV_key k), run_findKey hK h1, hj, h3, run_keyThatStays (keyV_key k), run_setObj_map _ hb, Result.andThen], hm.modify h2 h3 h4 x⟩
theorem Tr.mapUpdate {α : Type} {f : α → Value} {l : List (UInt32 × α)} (x0 : α) {x y v : Operand} {t K e : TypeId} {b : Nat} {k : UInt32} {L' : List Ent} {dst : Option Tmp} (hx : opv M x = some (.map (some b))) (hy : opv M y = some (.int .u32 k.toNat)) (hv : opv M v = some (f x0))
    (hput : Put (mapE b f l) (mapE b f (mput l k x0)) L L') (ht : P.underlying t = some (.map K e)) (hK : P.underlying K = some (.int .u32)) (hdst : dst = none)
    (Kk : Tr N F L' M (wpList P ops Q rest)) : Tr N F L M (wpList P ops Q (⟨dst, .mapUpdate t x y v, ty, pos, after, none⟩ :: rest)) := by
  subst hdst
  intro a w ha hw
  refine wpList_plain rfl fun K' hK' => ?_
  have hent := hw.ent _ hput.mem
  have hin : MapIn (HL.hp w) b f l := mapE.in_ hent
  obtain ⟨es0, ck0, hb, _⟩ := hin
  have hb' : w.heap[b]? = some (.map es0 ck0) := hb
  obtain ⟨es, ck, hr, hM⟩ := update_run (P := P) ht hK (mapE.in_ hent) k x0
  simp only [keyV] at hr
  unfold Oper.wp
  simp only [execOp, ha.eval hx, ha.eval hy, ha.eval hv, Sem.run_bind, hr, Result.andThen_ok, Sem.run_pure, Oper.upon, Act.put]
  refine hK' _ _ (Kk _ _ ha ?_)
  have hset := heap_set (o' := .map es ck) hb'
  exact HpOK.set hw hput rfl rfl rfl (by simp) (Nat.le_refl _) (fun k _ hkb => hset.2 k hkb) ⟨es, ck, hset.1, hM⟩
end
end Go.HL
namespace Go.HL
open Go Go.Sort
open Go.Proofs (ltOf)
def cmpI (a b : Int) : Int := if a < b then -1 else if b < a then 1 else 0
def cmpA (x y : Ins) : Int := cmpU x.addr y.addr
theorem cmpU_lt (a b : UInt32) : cmpU a b < 0 ↔ a < b := by
  unfold cmpU
  split
  · rename_i h; simp [h]
  · rename_i h
    split
    · simp [h]
    · simp [h]
theorem cmpU_0 {a b : UInt32} : cmpU a b = 0 ↔ a = b := by
  unfold cmpU
  rw [← UInt32.toNat_inj]
  split
  · rename_i h; rw [UInt32.lt_iff_toNat_lt] at h; constructor <;> intro q <;> omega
  · rename_i h
    rw [UInt32.lt_iff_toNat_lt] at h
    split
    · rename_i h2; rw [UInt32.lt_iff_toNat_lt] at h2; constructor <;> intro q <;> omega
    · rename_i h2; rw [UInt32.lt_iff_toNat_lt] at h2; constructor <;> intro q <;> omega
theorem ltOf_cmpA (x y : Ins) : ltOf cmpA x y = decide (x.addr < y.addr) := by
  unfold ltOf cmpA
  congr 1
  exact propext (cmpU_lt _ _)
theorem swo_cmpA : SWO (ltOf cmpA) where
  irrefl x := by simp [ltOf_cmpA]
  trans x y z h1 h2 := by
    simp only [ltOf_cmpA, decide_eq_true_eq, UInt32.lt_iff_toNat_lt] at *; omega
  ntrans x y z h1 h2 := by
    simp only [ltOf_cmpA, decide_eq_false_iff_not, UInt32.lt_iff_toNat_lt] at *; omega
def cmpPr (x y : Rng) : Int := if cmpU x.lo y.lo ≠ 0 then cmpU x.lo y.lo else cmpU x.hi y.hi
def ltPr (x y : Rng) : Prop := x.lo.toNat < y.lo.toNat ∨ (x.lo.toNat = y.lo.toNat ∧ x.hi.toNat < y.hi.toNat)
theorem ltOf_cmpPr (x y : Rng) : ltOf cmpPr x y = true ↔ ltPr x y := by
  unfold ltOf cmpPr ltPr
  rw [decide_eq_true_eq]
  by_cases h : cmpU x.lo y.lo = 0
  · rw [if_neg (by simpa using h), cmpU_lt, UInt32.lt_iff_toNat_lt]
    have := cmpU_0.1 h
    rw [this]; omega
  · rw [if_pos h, cmpU_lt, UInt32.lt_iff_toNat_lt]
    have h2 : ¬ x.lo.toNat = y.lo.toNat := fun q => h (cmpU_0.2 (UInt32.toNat_inj.1 q))
    omega
theorem swo_cmpPr : SWO (ltOf cmpPr) where
  irrefl x := by
    cases h : ltOf cmpPr x x
    · rfl
    · have := (ltOf_cmpPr x x).1 h; unfold ltPr at this; omega
  trans x y z h1 h2 := by
    rw [ltOf_cmpPr] at *; unfold ltPr at *; omega
  ntrans x y z h1 h2 := by
    cases h : ltOf cmpPr x z
    · rfl
    · have h3 : ¬ ltPr x y := fun q => by rw [(ltOf_cmpPr x y).2 q] at h1; cases h1
      have h4 : ¬ ltPr y z := fun q => by rw [(ltOf_cmpPr y z).2 q] at h2; cases h2
      have := (ltOf_cmpPr x z).1 h
      unfold ltPr at *; omega
theorem len_rng (i : Ins) : 0 ≤ lengthPI i ∧ lengthPI i ≤ 6 := by
  unfold lengthPI sizeP
  split
  · repeat' split
    all_goals omega
  · omega
def endI (i : Ins) : Int := (i.addr.toNat : Int) + lengthPI i
theorem endI_rng (i : Ins) : 0 ≤ endI i ∧ endI i ≤ 4294967302 := by
  have := i.addr.toNat_lt
  have := len_rng i
  unfold endI; omega
def mxU (a b : UInt32) : UInt32 := if a < b then b else a
def mnU (a b : UInt32) : UInt32 := if b < a then b else a
theorem mxU_val (a b : UInt32) : (mxU a b).toNat = max a.toNat b.toNat := by
  unfold mxU
  split
  · rename_i h; rw [UInt32.lt_iff_toNat_lt] at h; omega
  · rename_i h; rw [UInt32.lt_iff_toNat_lt] at h; omega
theorem mnU_val (a b : UInt32) : (mnU a b).toNat = min a.toNat b.toNat := by
  unfold mnU
  split
  · rename_i h; rw [UInt32.lt_iff_toNat_lt] at h; omega
  · rename_i h; rw [UInt32.lt_iff_toNat_lt] at h; omega
def conflP (a b : Ins) : Bool := ((decide (a.addr ≠ b.addr) && decide (0 < lengthPI a)) && decide (0 < lengthPI b)) && decide (((mxU a.addr b.addr).toNat : Int) < min (endI a) (endI b))
def pairR (a b : Ins) : Rng := ⟨mnU a.addr b.addr, mxU a.addr b.addr⟩
def shareR (a b : Ins) : Rng := ⟨mxU a.addr b.addr, u32 (min (min (endI a) (endI b)) 4294967295)⟩
def inner (f : Ins → Ins → Rng) (a : Ins) (xs : List Ins) : List Rng := (xs.filter (conflP a)).map (f a)
def outer (f : Ins → Ins → Rng) (l : List Ins) (k : Nat) : List Rng := (List.range k).flatMap fun j => inner f (l.getD j default) (l.take j)
theorem outer_succ (f : Ins → Ins → Rng) (l : List Ins) (k : Nat) : outer f l (k + 1) = outer f l k ++ inner f (l.getD k default) (l.take k) := by
  unfold outer
  rw [List.range_succ, List.flatMap_append]; simp
theorem inner_yes {f : Ins → Ins → Rng} {a : Ins} {xs : List Ins} {k : Nat} (h : k < xs.length) (hc : conflP a (xs.getD k default) = true) : inner f a (xs.take (k + 1)) = inner f a (xs.take k) ++ [f a (xs.getD k default)] := by
  unfold inner
  rw [filter_take_pos h hc, List.map_append]; rfl
theorem inner_no {f : Ins → Ins → Rng} {a : Ins} {xs : List Ins} {k : Nat} (h : k < xs.length) (hc : conflP a (xs.getD k default) = false) : inner f a (xs.take (k + 1)) = inner f a (xs.take k) := by
  unfold inner
  rw [filter_take_neg h hc]
theorem inner_len (f : Ins → Ins → Rng) (a : Ins) (xs : List Ins) : (inner f a xs).length ≤ xs.length := by unfold inner; rw [List.length_map]; exact List.length_filter_le _ _
theorem outer_len (f : Ins → Ins → Rng) (l : List Ins) : ∀ k, (outer f l k).length ≤ k * l.length
  | 0 => by simp [outer]
  | k + 1 => by
    rw [outer_succ, List.length_append, Nat.add_mul]
    have h1 := outer_len f l k
    have h2 := inner_len f (l.getD k default) (l.take k)
    rw [List.length_take] at h2
    omega
theorem outer_le {f : Ins → Ins → Rng} {l : List Ins} (h : l.length ≤ 200) {k : Nat} (hk : k ≤ l.length) : (outer f l k).length ≤ 40000 := by
  have h1 := outer_len f l k
  have h2 : k * l.length ≤ 200 * 200 := Nat.mul_le_mul (by omega) h
  omega
def compF {α : Type} [DecidableEq α] : α → List α → List α
  | _, [] => []
  | x, y :: t => if y = x then compF x t else y :: compF y t
def compactP {α : Type} [DecidableEq α] : List α → List α
  | [] => []
  | x :: t => x :: compF x t
theorem compF_snoc {α : Type} [DecidableEq α] : ∀ (x : α) (l : List α) (y : α), compF x (l ++ [y]) = if y = (x :: l).getLast (by simp) then compF x l else compF x l ++ [y]
  | x, [], y => by simp only [List.nil_append, compF, List.getLast_singleton]; by_cases h : y = x <;> simp [h]
  | x, z :: t, y => by
    have ih1 := compF_snoc z t y
    have ih2 := compF_snoc x t y
    have e : (x :: z :: t).getLast (by simp) = (z :: t).getLast (by simp) := by simp
    rw [e]
    by_cases h : z = x
    · subst h
      simp only [List.cons_append, compF, if_true, ih1]
    · simp only [List.cons_append, compF, h, if_false, ih1]
      split <;> rfl
theorem compact_snoc {α : Type} [DecidableEq α] [Inhabited α] {l : List α} {k : Nat} (h0 : 0 < k) (h : k < l.length) : compactP (l.take (k + 1)) = if l.getD k default = l.getD (k - 1) default then compactP (l.take k) else compactP (l.take k) ++ [l.getD k default] := by
  rw [take_succ h]
  cases l with
  | nil => simp at h
  | cons x t =>
    obtain ⟨j, rfl⟩ : ∃ j, k = j + 1 := ⟨k - 1, by omega⟩
    simp only [List.take_succ_cons, List.cons_append, compactP]
    rw [compF_snoc]
    have e : (x :: t.take j).getLast (by simp) = (x :: t).getD (j + 1 - 1) default := by
      rw [List.getLast_eq_getElem]
      simp only [List.length_cons, List.length_take, Nat.add_sub_cancel]
      have hj : j ≤ t.length := by simp at h; omega
      simp only [Nat.min_eq_left hj]
      cases j with
      | zero => simp
      | succ j => simp [List.getD_eq_getElem?_getD, show j < t.length by omega]
    rw [e]
    split <;> rfl
/-- No two neighbours alike. -/
theorem compact_same {α : Type} [DecidableEq α] [Inhabited α] {l : List α} : ∀ {k : Nat}, k ≤ l.length → (∀ j, 0 < j → j < k → l.getD j default ≠ l.getD (j - 1) default) → compactP (l.take k) = l.take k
  | 0, _, _ => by simp [compactP]
  | k + 1, h, hne => by
    by_cases h0 : k = 0
    · subst h0
      cases l with
      | nil => simp at h
      | cons x t => simp [compactP, compF]
    · rw [compact_snoc (by omega) (by omega), if_neg (hne k (by omega) (by omega)), compact_same (by omega) (fun j a b => hne j a (by omega)), take_succ (by omega)]
def confP (l : List Ins) : List Rng := compactP (sortP (ltOf cmpPr) (outer pairR l l.length))
def sharP (l : List Ins) : List Rng := normalP (outer shareR l l.length)
def inK (l : List Ins) (a : UInt32) : Bool := l.any fun x => decide (x.addr = a)
def cntStep (out : List Ins) (i : Ins) : List Ins := if (!inK out i.addr && decide (errP i = 0)) = true then out ++ [i] else out
def cntL (l : List Ins) : List Ins := l.foldl cntStep []
def cntM (out : List Ins) : List (UInt32 × Bool) := out.map fun i => (i.addr, true)
theorem cntM_get (out : List Ins) (a : UInt32) : (mget (cntM out) a).getD false = inK out a := by
  induction out with
  | nil => rfl
  | cons x t ih =>
    unfold cntM at ih ⊢
    simp only [List.map_cons, mget, inK, List.any_cons]
    by_cases h : a = x.addr
    · simp [h]
    · have h' : ¬ x.addr = a := fun q => h q.symm
      rw [if_neg h, decide_eq_false h', Bool.false_or]; exact ih
theorem cntM_put {out : List Ins} {i : Ins} (h : inK out i.addr = false) : mput (cntM out) i.addr true = cntM (out ++ [i]) := by
  have : mget (cntM out) i.addr = none := by
    cases hg : mget (cntM out) i.addr with
    | none => rfl
    | some b =>
      exfalso
      have hm := mem_of_mget hg
      obtain ⟨x, hx, e⟩ := List.mem_map.1 hm
      have : inK out i.addr = true := List.any_eq_true.2 ⟨x, hx, by simp at e; simp [e.1]⟩
      rw [h] at this; cases this
  rw [mput_new this]
  simp [cntM]
theorem cnt_succ {l : List Ins} {k : Nat} (h : k < l.length) : cntL (l.take (k + 1)) = cntStep (cntL (l.take k)) (l.getD k default) := by
  unfold cntL; rw [take_succ h, List.foldl_append]; rfl
theorem cnt_len : ∀ (l out : List Ins), (l.foldl cntStep out).length ≤ out.length + l.length
  | [], out => by simp
  | i :: t, out => by
    have h1 := cnt_len t (cntStep out i)
    have h2 : (cntStep out i).length ≤ out.length + 1 := by unfold cntStep; split <;> simp
    simp only [List.foldl_cons, List.length_cons]; omega
theorem cntL_len (l : List Ins) : (cntL l).length ≤ l.length := by have := cnt_len l []; simpa [cntL] using this
def countP (l : List Ins) : List Ins := sortP (ltOf cmpA) (cntL l)
theorem countP_len (l : List Ins) : (countP l).length ≤ l.length := by unfold countP; rw [sortP_length swo_cmpA]; exact cntL_len l
def tgtStep (m : List (UInt32 × Bool)) (i : Ins) : List (UInt32 × Bool) := if (targetP i).2 = true then mput m (targetP i).1 true else m
def tgtM (l : List Ins) : List (UInt32 × Bool) := l.foldl tgtStep []
theorem tgt_succ {l : List Ins} {k : Nat} (h : k < l.length) : tgtM (l.take (k + 1)) = tgtStep (tgtM (l.take k)) (l.getD k default) := by
  unfold tgtM; rw [take_succ h, List.foldl_append]; rfl
def hasU (l : List UInt32) (a : UInt32) : Bool := l.any fun x => decide (a = x)
def grpP (ents : List UInt32) (tm : List (UInt32 × Bool)) (i : Ins) : Int := if hasU ents i.addr = true then 0 else if (mget tm i.addr).getD false = true then 1 else 2
def cmpG (ents : List UInt32) (tm : List (UInt32 × Bool)) (x y : Ins) : Int := cmpI (grpP ents tm x) (grpP ents tm y)
def keepStep (kept : List Ins) (i : Ins) : List Ins := if kept.any (conflP i) = true then kept else kept ++ [i]
def keepF (order : List Ins) : List Ins := order.foldl keepStep []
theorem keep_succ {l : List Ins} {k : Nat} (h : k < l.length) : keepF (l.take (k + 1)) = keepStep (keepF (l.take k)) (l.getD k default) := by
  unfold keepF; rw [take_succ h, List.foldl_append]; rfl
theorem keep_len : ∀ (l out : List Ins), (l.foldl keepStep out).length ≤ out.length + l.length
  | [], out => by simp
  | i :: t, out => by
    have h1 := keep_len t (keepStep out i)
    have h2 : (keepStep out i).length ≤ out.length + 1 := by unfold keepStep; split <;> simp
    simp only [List.foldl_cons, List.length_cons]; omega
theorem keepF_len (l : List Ins) : (keepF l).length ≤ l.length := by have := keep_len l []; simpa [keepF] using this
theorem keep_sub0 : ∀ (l out : List Ins) (x : Ins), x ∈ l.foldl keepStep out → x ∈ out ∨ x ∈ l
  | [], out, x, h => .inl h
  | i :: t, out, x, h => by
    rcases keep_sub0 t (keepStep out i) x h with h | h
    · unfold keepStep at h
      split at h
      · exact .inl h
      · rcases List.mem_append.1 h with h | h
        · exact .inl h
        · simp at h; subst h; exact .inr (.head _)
    · exact .inr (.tail _ h)
theorem keep_sub {l : List Ins} {x : Ins} (h : x ∈ keepF l) : x ∈ l := by
  rcases keep_sub0 l [] x h with h | h
  · cases h
  · exact h
def remP (l kept : List Ins) : List UInt32 := (l.filter fun i => !inK kept i.addr).map (·.addr)
def ordOf (g : Ins → Int) (l : List Ins) : List Ins := l.filter (fun i => decide (g i = 0)) ++ (l.filter (fun i => decide (g i = 1)) ++ l.filter (fun i => decide (g i = 2)))
theorem cmpI_lt (a b : Int) : cmpI a b < 0 ↔ a < b := by
  unfold cmpI
  split
  · rename_i h; simp [h]
  · split <;> simp_all
def ltG (g : Ins → Int) (x y : Ins) : Bool := decide (g x < g y)
theorem wo_ltG (g : Ins → Int) : WO (ltG g) where
  irr x := by simp [ltG]
  tr x y z h1 h2 := by simp only [ltG, decide_eq_true_eq] at *; omega
  ntr x y z h1 h2 := by simp only [ltG, decide_eq_false_iff_not] at *; omega
theorem eqv_ltG (g : Ins → Int) (z x : Ins) : eqv (ltG g) z x = decide (g x = g z) := by
  unfold eqv ltG
  by_cases h : g x = g z
  · simp [h]
  · rw [decide_eq_false h]
    by_cases c : g z < g x
    · simp [c]
    · have : g x < g z := by omega
      simp [c, this]
theorem grp_range (ents : List UInt32) (tm : List (UInt32 × Bool)) (i : Ins) : grpP ents tm i = 0 ∨ grpP ents tm i = 1 ∨ grpP ents tm i = 2 := by
  unfold grpP
  repeat' split
  all_goals simp
theorem ord_stab {g : Ins → Int} (hg : ∀ i, g i = 0 ∨ g i = 1 ∨ g i = 2) (l : List Ins) : Stab (ltG g) l (ordOf g l) ∧ (ordOf g l).Pairwise fun x y => ltG g y x = false := by
  refine ⟨⟨?_, fun z => ?_⟩, ?_⟩
  · induction l with
    | nil => exact List.Perm.refl _
    | cons x t ih =>
      rcases hg x with h | h | h
      · have e : ordOf g (x :: t) = x :: ordOf g t := by simp [ordOf, h]
        rw [e]; exact ih.cons x
      · have e : ordOf g (x :: t) = t.filter (fun i => decide (g i = 0)) ++ x :: (t.filter (fun i => decide (g i = 1)) ++ t.filter (fun i => decide (g i = 2))) := by simp [ordOf, h]
        rw [e]; exact (ih.cons x).trans List.perm_middle.symm
      · have e : ordOf g (x :: t) = (t.filter (fun i => decide (g i = 0)) ++ t.filter (fun i => decide (g i = 1))) ++ x :: t.filter (fun i => decide (g i = 2)) := by simp [ordOf, h]
        rw [e]
        refine (ih.cons x).trans ?_
        refine List.Perm.trans ?_ List.perm_middle.symm
        rw [List.append_assoc]; exact List.Perm.refl _
  · have e : (fun x => eqv (ltG g) z x) = fun x => decide (g x = g z) := by funext x; exact eqv_ltG g z x
    show l.filter (fun x => eqv (ltG g) z x) = (ordOf g l).filter (fun x => eqv (ltG g) z x)
    rw [e]
    unfold ordOf
    rw [List.filter_append, List.filter_append, List.filter_filter, List.filter_filter, List.filter_filter]
    have hn : ∀ c : Int, c ≠ g z → l.filter (fun x => decide (g x = g z) && decide (g x = c)) = [] := fun c hc => by
      rw [List.filter_eq_nil_iff]
      intro x _
      simp only [Bool.and_eq_true, decide_eq_true_eq, not_and]
      intro q1 q2; exact hc (q2.symm.trans q1)
    have hy : ∀ c : Int, c = g z → l.filter (fun x => decide (g x = g z) && decide (g x = c)) = l.filter (fun x => decide (g x = g z)) := fun c hc => by subst hc; simp
    rcases hg z with h | h | h
    · rw [hy 0 h.symm, hn 1 (by omega), hn 2 (by omega)]; simp
    · rw [hn 0 (by omega), hy 1 h.symm, hn 2 (by omega)]; simp
    · rw [hn 0 (by omega), hn 1 (by omega), hy 2 h.symm]; simp
  · have hc : ∀ c : Int, (l.filter (fun i => decide (g i = c))).Pairwise fun x y => ltG g y x = false := fun c => by
      rw [List.pairwise_iff_forall_sublist]
      intro a b hab
      have ha : a ∈ l.filter (fun i => decide (g i = c)) := hab.subset (by simp)
      have hb : b ∈ l.filter (fun i => decide (g i = c)) := hab.subset (by simp)
      have := of_decide_eq_true (List.mem_filter.1 ha).2
      have := of_decide_eq_true (List.mem_filter.1 hb).2
      simp only [ltG, decide_eq_false_iff_not]; omega
    have hx : ∀ (c d : Int), c ≤ d → ∀ x ∈ l.filter (fun i => decide (g i = c)), ∀ y ∈ l.filter (fun i => decide (g i = d)), ltG g y x = false := fun c d h x hx y hy => by
      have := of_decide_eq_true (List.mem_filter.1 hx).2
      have := of_decide_eq_true (List.mem_filter.1 hy).2
      simp only [ltG, decide_eq_false_iff_not]; omega
    unfold ordOf
    refine List.pairwise_append.2 ⟨hc 0, List.pairwise_append.2 ⟨hc 1, hc 2, hx 1 2 (by omega)⟩, fun x h1 y h2 => ?_⟩
    rcases List.mem_append.1 h2 with h2 | h2
    · exact hx 0 1 (by omega) x h1 y h2
    · exact hx 0 2 (by omega) x h1 y h2
/-- The stable sort by groups. -/
theorem ord_of {g : Ins → Int} (hg : ∀ i, g i = 0 ∨ g i = 1 ∨ g i = 2) {l c : List Ins} (h1 : Stab (ltG g) l c) (h2 : c.Pairwise fun x y => ltG g y x = false) : c = ordOf g l := by
  obtain ⟨k1, k2⟩ := ord_stab hg l
  exact stab_uniq (wo_ltG g) _ _ (h1.symm.trans k1) h2 k2
theorem cnt_sub : ∀ (l out : List Ins) (x : Ins), x ∈ l.foldl cntStep out → x ∈ out ∨ x ∈ l
  | [], out, x, h => .inl h
  | i :: t, out, x, h => by
    rcases cnt_sub t (cntStep out i) x h with h | h
    · unfold cntStep at h
      split at h
      · rcases List.mem_append.1 h with h | h
        · exact .inl h
        · simp at h; subst h; exact .inr (.head _)
      · exact .inl h
    · exact .inr (.tail _ h)
theorem countP_sub {l : List Ins} {x : Ins} (h : x ∈ countP l) : x ∈ l := by
  have h1 := (sortP_perm swo_cmpA (cntL l)).subset h
  rcases cnt_sub l [] x h1 with h | h
  · cases h
  · exact h
theorem ord_len {g : Ins → Int} (hg : ∀ i, g i = 0 ∨ g i = 1 ∨ g i = 2) (l : List Ins) : (ordOf g l).length = l.length := (ord_stab hg l).1.len
theorem ord_sub {g : Ins → Int} {l : List Ins} {x : Ins} (h : x ∈ ordOf g l) : x ∈ l := by
  unfold ordOf at h
  simp only [List.mem_append, List.mem_filter] at h
  rcases h with h | h | h <;> exact h.1
theorem rem_yes {l kept : List Ins} {k : Nat} (h : k < l.length) (hc : inK kept (l.getD k default).addr = false) : remP (l.take (k + 1)) kept = remP (l.take k) kept ++ [(l.getD k default).addr] := by
  unfold remP
  rw [filter_take_pos h (by rw [hc]; rfl), List.map_append]; rfl
theorem rem_no {l kept : List Ins} {k : Nat} (h : k < l.length) (hc : inK kept (l.getD k default).addr = true) : remP (l.take (k + 1)) kept = remP (l.take k) kept := by
  unfold remP
  rw [filter_take_neg h (by rw [hc]; rfl)]
theorem rem_len (l kept : List Ins) : (remP l kept).length ≤ l.length := by unfold remP; rw [List.length_map]; exact List.length_filter_le _ _
structure ResV where
  kept : List Ins
  ents : List UInt32
  unk : List UInt32
  bad : List UInt32
  rem : List UInt32
def resP (ins : List Ins) (ents unk bad : List UInt32) : ResV :=
  let l := countP ins
  let kept := sortP (ltOf cmpA) (keepF (ordOf (grpP ents (tgtM l)) l))
  ⟨kept, ents.filter (inK kept), unk.filter (inK kept), bad, remP l kept⟩
end Go.HL
namespace Go.HL
open Go Go.RowKit
variable {P : Program} {N : Nat} {F : Bg} {L : List Ent} {M : Fr} {dst : Option Tmp} {ty : TypeId} {pos : String} {after : Array Edge} {g : Option (Nat × Bool)}
theorem QS.sliceRow {α : Type} {E : Enc α} {xs : List α} {x : Operand} {lo hi : Option Operand} {lv hv : Option (IntKind × Int)} {t e : TypeId} {V : Value} {T : TypeId} {k : Nat} (hx : opv M x = some V) (hs : rowE V T E xs ∈ L)
    (hlo : lo.map (opv M) = lv.map fun p => some (.int p.1 p.2)) (hhi : hi.map (opv M) = hv.map fun p => some (.int p.1 p.2))
    (ht : P.underlying t = some (.slice e)) (hz : ∀ w, (sizeOf e).run P w = .ok k w) (hk : k = E.k) (h0 : 0 ≤ loOf lv) (h1 : loOf lv ≤ hiOf xs.length hv) (h2 : hiOf xs.length hv ≤ xs.length) :
    QS P N F L M ⟨dst, .slice t x lo hi none, ty, pos, after, g⟩ (HL.resl V (loOf lv).toNat (hiOf xs.length hv).toNat E.k) :=
  QS.of_run fun A w ha hw => by
    obtain ⟨a, c, rfl, hc1, hc2, _⟩ := (hw.row hs).shape
    have e1 : lo.map A.eval = lv.map fun p => Value.int p.1 p.2 := by
      cases lo with
      | none => cases lv <;> simp_all
      | some o =>
        cases lv with
        | none => simp at hlo
        | some p => simp only [Option.map_some, Option.some.injEq] at hlo ⊢; exact ha.eval hlo
    have e2 : hi.map A.eval = hv.map fun p => Value.int p.1 p.2 := by
      cases hi with
      | none => cases hv <;> simp_all
      | some o =>
        cases hv with
        | none => simp at hhi
        | some p => simp only [Option.map_some, Option.some.injEq] at hhi ⊢; exact ha.eval hhi
    have hr := sliceRun (P := P) ht hz w (a := a) (n := xs.length) (c := c) (fun w => boundsRun (P := P) w h0 h1 (by omega) hc1)
    subst hk
    simp only [execOp, ha.eval hx, e1, e2, Option.map_none, Sem.run_bind, hr, Result.andThen_ok, Sem.run_pure]
    rfl
end Go.HL
namespace Go.HL
open Go Go.RowKit
section
variable {P : Program} {ops : Array Oper} {Q : Exit → Act → World → Prop} {N : Nat} {F : Bg} {L : List Ent} {M : Fr} {dst : Option Tmp} {ty : TypeId} {pos : String} {after : Array Edge} {g : Option (Nat × Bool)} {rest : List Oper} {d : Nat}
/-- An element's address in an array behind a pointer. -/
theorem QS.idxArr {x y : Operand} {t e : TypeId} {b o n k : Nat} {kk : IntKind} {i : Int} (hx : opv M x = some (.pointer (some ⟨b, o, none⟩))) (hy : opv M y = some (.int kk i)) (ht : P.underlying t = some (.array n e)) (hz : ∀ w, (sizeOf e).run P w = .ok k w)
    (hi : 0 ≤ i ∧ i < n) : QS P N F L M ⟨dst, .indexAddr t x y, ty, pos, after, g⟩ (.pointer (some ⟨b, o + i.toNat * k, none⟩)) :=
  QS.of_run fun A w ha hw => by
    simp [execOp, ha.eval hx, ha.eval hy, Instr.indexAt, asIntOf, run_underlying ht, Instr.sureAddr, hz, hi.1, hi.2, Addr.add_lit]
theorem QS.min3 {x y z : Operand} {ts : Array TypeId} {k : IntKind} {m n p : Int} (hx : opv M x = some (.int k m)) (hy : opv M y = some (.int k n)) (hz : opv M z = some (.int k p)) :
    QS P N F L M ⟨dst, .call { callee := .builtin .min, args := #[x, y, z], argTypes := ts }, ty, pos, after, g⟩ (.int k (min (min m n) p)) :=
  QS.of_run fun A w ha hw => by
    have h1 : (if n < m then n else m) = min m n := by omega
    have h2 : (if p < min m n then p else min m n) = min (min m n) p := by omega
    simp [execOp, resolve, invoke, builtin, ha.eval hx, ha.eval hy, ha.eval hz, Builtin.min_, Builtin.min2, h1, h2]
/-- Pairs compared. -/
theorem QS.eqlP {x y : Operand} {t u e : TypeId} {p q : Rng} (hx : opv M x = some (.agg (encRng.enc p).toArray)) (hy : opv M y = some (.agg (encRng.enc q).toArray))
    (ht : P.underlying t = some (.array 2 e)) (he : P.underlying e = some (.int .u32)) (hz : ∀ w, (sizeOf e).run P w = .ok 1 w) (hag : ∀ w, (isAgg e).run P w = .ok false w) (hg : P.eqGuardType P.depth t = false) :
    QS P N F L M ⟨dst, .binOp .eql t x y u, ty, pos, after, g⟩ (.bool (decide (p = q))) := by
  have h := QS.eqlA2 (P := P) (N := N) (F := F) (L := L) (M := M) (dst := dst) (u := u) (ty := ty) (pos := pos) (after := after) (g := g) (x := x) (y := y) (a := p.lo.toNat) (b := p.hi.toNat) (c := q.lo.toNat) (d := q.hi.toNat) hx hy ht he hz hag hg
  have e1 : decide (((p.lo.toNat : Int) = q.lo.toNat) ∧ ((p.hi.toNat : Int) = q.hi.toNat)) = decide (p = q) := by
    congr 1
    apply propext
    constructor
    · rintro ⟨h1, h2⟩; exact rng_ext (UInt32.toNat_inj.1 (by omega)) (UInt32.toNat_inj.1 (by omega))
    · rintro rfl; exact ⟨rfl, rfl⟩
  rw [e1] at h; exact h
theorem QS.neqOf {x y : Operand} {t u : TypeId} {V W : Array Value} {c : Bool} (hx : opv M x = some (.agg V)) (hy : opv M y = some (.agg W)) (hG : ∀ w, (eqGuard .neq t x y (.agg V) (.agg W)).run P w = .ok () w) (h : ∀ w, (Op.equal t (.agg V) (.agg W)).run P w = .ok c w) :
    QS P N F L M ⟨dst, .binOp .neq t x y u, ty, pos, after, g⟩ (.bool (!c)) :=
  QS.of_run fun A w ha _ => by simp [execOp, ha.eval hx, ha.eval hy, hG, binOp, h]
theorem equalP_run {t e : TypeId} {p q : Rng} (ht : P.underlying t = some (.array 2 e)) (he : P.underlying e = some (.int .u32)) (hz : ∀ w, (sizeOf e).run P w = .ok 1 w) (hag : ∀ w, (isAgg e).run P w = .ok false w) (w : World) :
    (Op.equal t (.agg (encRng.enc p).toArray) (.agg (encRng.enc q).toArray)).run P w = .ok (decide (p = q)) w := by
  have e1 : decide (((p.lo.toNat : Int) = q.lo.toNat) ∧ ((p.hi.toNat : Int) = q.hi.toNat)) = decide (p = q) := by
    congr 1
    apply propext
    constructor
    · rintro ⟨h1, h2⟩; exact rng_ext (UInt32.toNat_inj.1 (by omega)) (UInt32.toNat_inj.1 (by omega))
    · rintro rfl; exact ⟨rfl, rfl⟩
  rw [← e1]
  show (Op.equal t (.agg #[.int .u32 p.lo.toNat, .int .u32 p.hi.toNat]) (.agg #[.int .u32 q.lo.toNat, .int .u32 q.hi.toNat])).run P w = _
  unfold Op.equal
  show (Op.equalIn (9998 + 1 + 1) t _ _).run P w = _
  have r : ∀ xs : Array Value, ∀ v i, xs[i]? = some v → (part e xs i).run P w = .ok v w := fun xs v i h => part_word hag h
  have p0 := fun (p q : Int) => r #[.int .u32 p, .int .u32 q] _ 0 rfl
  have p1 := fun (p q : Int) => r #[.int .u32 p, .int .u32 q] _ 1 rfl
  rw [Op.equalIn]
  simp only [Sem.run_bind, run_underlying ht, Result.andThen_ok, hz, Std.Legacy.Range.forIn_eq_forIn_range', Std.Legacy.Range.size]
  simp [List.range', p0, p1, run_equalIn_int w _ _ _ _ _ _ he]
  by_cases h1 : (p.lo.toNat : Int) = q.lo.toNat <;> by_cases h2 : (p.hi.toNat : Int) = q.hi.toNat <;> simp [h1, h2]
theorem QS.neqP {x y : Operand} {t u e : TypeId} {p q : Rng} (hx : opv M x = some (.agg (encRng.enc p).toArray)) (hy : opv M y = some (.agg (encRng.enc q).toArray))
    (ht : P.underlying t = some (.array 2 e)) (he : P.underlying e = some (.int .u32)) (hz : ∀ w, (sizeOf e).run P w = .ok 1 w) (hag : ∀ w, (isAgg e).run P w = .ok false w) (hg : P.eqGuardType P.depth t = false) :
    QS P N F L M ⟨dst, .binOp .neq t x y u, ty, pos, after, g⟩ (.bool (!decide (p = q))) :=
  QS.neqOf hx hy (fun w => eqGuard_agg w hg) (fun w => equalP_run ht he hz hag w)
theorem resl_row {α : Type} {E : Enc α} {xs : List α} {V : Value} {T : TypeId} {w : World} (h : (rowE V T E xs).holds w) {l m : Nat} (hl : l < m) (hm : m ≤ xs.length) :
    ∃ gb cap, V = .slice (some ⟨gb, 0, none⟩) xs.length cap ∧ HL.resl V l m E.k = .slice (some ⟨gb, l * E.k, none⟩) (m - l) (cap - l) := by
  have hV' : RowOK V T E xs (V.ownBlock.bind (w.heap[·]?)) := h
  rcases hV' with ⟨rfl, rfl⟩ | ⟨gb, cap, cur, rfl, ho, k1, k2, k3, k4⟩
  · simp at hm; omega
  · refine ⟨gb, cap, rfl, ?_⟩
    have : cap ≠ l := by omega
    simp only [HL.resl, this, if_false, Option.map_some, Addr.add_lit, Nat.zero_add]
theorem QS.idxResl {α : Type} {E : Enc α} {xs : List α} {x y : Operand} {t e T : TypeId} {V : Value} {k l m : Nat} {kk : IntKind} {i : Int} (hx : opv M x = some (HL.resl V l m E.k)) (hy : opv M y = some (.int kk i)) (hs : rowE V T E xs ∈ L)
    (ht : P.underlying t = some (.slice e)) (hz : ∀ w, (sizeOf e).run P w = .ok k w) (hk : k = E.k) (hi : 0 ≤ i ∧ (l : Int) + i < m) (hm : m ≤ xs.length) :
    QS P N F L M ⟨dst, .indexAddr t x y, ty, pos, after, g⟩ (.pointer (some ⟨bk V, ofs V + (l + i.toNat) * E.k, none⟩)) :=
  QS.of_run fun A w ha hw => by
    obtain ⟨gb, cap, hV, hr⟩ := resl_row (hw.ent _ hs) (l := l) (m := m) (by omega) hm
    have h := indexAt_run (P := P) (V := V) (c := cap - l) (n := m - l) (kk := kk) (i := i) ht hz w (by omega) gb (l * E.k) rfl
    subst hk
    rw [hr] at hx
    have e1 : bk V = gb := by rw [hV]; rfl
    have e2 : ofs V = 0 := by rw [hV]; rfl
    rw [e1, e2]
    simp [execOp, ha.eval hx, ha.eval hy, h, Nat.add_mul]
theorem QS.lenResl {α : Type} {E : Enc α} {xs : List α} {x : Operand} {t e T : TypeId} {V : Value} {l m k : Nat} (hx : opv M x = some (HL.resl V l m k)) (hs : rowE V T E xs ∈ L) (ht : P.underlying t = some (.slice e)) :
    QS P N F L M ⟨dst, .call { callee := .builtin .len, args := #[x], argTypes := #[t] }, ty, pos, after, g⟩ (.int .i64 ((m - l : Nat) : Int)) :=
  QS.lenOf (a := none) (c := 0) hx (fun w hw => by
    have hV' : RowOK V T E xs (V.ownBlock.bind (w.heap[·]?)) := hw.ent _ hs
    rcases hV' with ⟨rfl, rfl⟩ | ⟨gb, cap, cur, rfl, _⟩
    · exact ⟨_, _, rfl⟩
    · exact ⟨_, _, rfl⟩) ht
theorem QS.sliceFrom {α : Type} {E : Enc α} {xs : List α} {x y : Operand} {t e T : TypeId} {V : Value} {k n : Nat} (hx : opv M x = some V) (hs : rowE V T E xs ∈ L) (hy : opv M y = some (.int .i64 (n : Nat)))
    (ht : P.underlying t = some (.slice e)) (hz : ∀ w, (sizeOf e).run P w = .ok k w) (hk : k = E.k) (hn : n ≤ xs.length) : QS P N F L M ⟨dst, .slice t x (some y) none none, ty, pos, after, g⟩ (HL.resl V n xs.length E.k) :=
  QS.sliceRow (lv := some (.i64, (n : Int))) (hv := none) hx hs (by simp [hy]) rfl ht hz hk (by simp [loOf]) (by simp [loOf, hiOf]; omega) (by simp [hiOf])
theorem QS.sliceTo {α : Type} {E : Enc α} {xs : List α} {x y : Operand} {t e T : TypeId} {V : Value} {k n : Nat} (hx : opv M x = some V) (hs : rowE V T E xs ∈ L) (hy : opv M y = some (.int .i64 (n : Nat)))
    (ht : P.underlying t = some (.slice e)) (hz : ∀ w, (sizeOf e).run P w = .ok k w) (hk : k = E.k) (hn : n ≤ xs.length) : QS P N F L M ⟨dst, .slice t x none (some y) none, ty, pos, after, g⟩ (HL.resl V 0 n E.k) :=
  QS.sliceRow (lv := none) (hv := some (.i64, (n : Int))) hx hs rfl (by simp [hy]) ht hz hk (by simp [loOf]) (by simp [loOf, hiOf]) (by simp [hiOf]; omega)
theorem rowE.resl0 {α : Type} {E : Enc α} {xs : List α} {V : Value} {T : TypeId} {w : World} (h : (rowE V T E xs).holds w) {k : Nat} (hk : k ≤ xs.length) : (rowE (HL.resl V 0 k E.k) T E (xs.take k)).holds w ∧ (HL.resl V 0 k E.k).ownBlock = V.ownBlock := by
  have hV' : RowOK V T E xs (V.ownBlock.bind (w.heap[·]?)) := h
  rcases hV' with ⟨rfl, rfl⟩ | ⟨gb, cap, cur, rfl, ho, k1, k2, k3, k4⟩
  · have : k = 0 := by simpa using hk
    subst this
    exact ⟨.inl ⟨rfl, rfl⟩, rfl⟩
  · have e : HL.resl (.slice (some ⟨gb, 0, none⟩) xs.length cap) 0 k E.k = .slice (some ⟨gb, 0, none⟩) k cap := by
      simp only [HL.resl, Nat.zero_mul, Nat.sub_zero]
      split
      · rfl
      · simp [Addr.add_lit]
    rw [e]
    refine ⟨.inr ⟨gb, cap, cur, ?_, ho, ?_, k2, k3, ?_⟩, rfl⟩
    · rw [List.length_take, Nat.min_eq_left hk]
    · rw [List.length_take]; omega
    · rw [List.length_take, Nat.min_eq_left hk]
      have e2 : k * E.k ≤ xs.length * E.k := Nat.mul_le_mul_right _ hk
      have : cur.toList.take (k * E.k) = (cur.toList.take (xs.length * E.k)).take (k * E.k) := by rw [List.take_take, Nat.min_eq_left e2]
      rw [this, k4]
      have h3 : xs.flatMap E.enc = (xs.take k).flatMap E.enc ++ (xs.drop k).flatMap E.enc := by rw [← List.flatMap_append, List.take_append_drop]
      have h4 : ((xs.take k).flatMap E.enc).length = k * E.k := by rw [flatMap_length, List.length_take, Nat.min_eq_left hk]
      rw [h3, ← h4, List.take_left]
theorem zeroCells_toList (z : Array Value) : ∀ n, (Builtin.zeroCells z n).toList = (List.replicate n z.toList).flatten
  | 0 => by simp [Builtin.zeroCells]
  | n + 1 => by
    have ih := zeroCells_toList z n
    rw [List.replicate_succ', List.flatten_append, ← ih]
    simp only [Builtin.zeroCells, Array.toList_map, Array.toList_range, Nat.add_mul, Nat.one_mul, List.range_add, List.map_append, List.map_map, List.flatten_cons, List.flatten_nil, List.append_nil]
    congr 1
    apply List.ext_getElem (by simp)
    intro i h1 h2
    simp only [List.length_map, List.length_range] at h1
    simp [Nat.mul_add_mod_self_right, Nat.mod_eq_of_lt h1, h1]
theorem flat_replicate {α : Type} (E : Enc α) (z : α) : ∀ n, (List.replicate n z).flatMap E.enc = (List.replicate n (E.enc z)).flatten
  | 0 => rfl
  | n + 1 => by rw [List.replicate_succ, List.replicate_succ, List.flatMap_cons, List.flatten_cons, flat_replicate E z n]
/-- clear(s[k:]) of one's own slice. -/
theorem Tr.clearResl {α : Type} {E : Enc α} {xs : List α} (z : α) {x : Operand} {V zv : Value} {t e : TypeId} {k kk : Nat} {L' : List Ent} {dst : Option Tmp} (hx : opv M x = some (HL.resl V k xs.length E.k)) (hput : Put (rowE V e E xs) (rowE V e E (xs.take k ++ List.replicate (xs.length - k) z)) L L')
    (hk : k < xs.length) (ht : P.underlying t = some (.slice e)) (hz : ∀ w, (zeroValue e).run P w = .ok zv w) (hzc : zv.cells.toList = E.enc z) (hk0 : kk = E.k) (hdst : dst = none)
    (K : Tr N F L' M (wpList P ops Q rest)) : Tr N F L M (wpList P ops Q (⟨dst, .call { callee := .builtin .clear, args := #[x], argTypes := #[t] }, ty, pos, after, none⟩ :: rest)) := by
  subst hdst
  intro a w ha hw
  refine wpList_plain rfl fun K' hK => ?_
  have hV := hw.ent _ hput.mem
  obtain ⟨gb, cap, hVe, hr⟩ := resl_row hV hk (Nat.le_refl _)
  have hV' : RowOK V e E xs (V.ownBlock.bind (w.heap[·]?)) := hV
  rcases hV' with ⟨rfl, rfl⟩ | ⟨gb', cap', cur, hVe', ho, k1, k2, k3, k4⟩
  · simp at hk
  · rw [hVe] at hVe'
    injection hVe' with q1 q2 q3
    injection q1 with q1
    injection q1 with q1
    subst q1 q3
    have ho' : w.heap[gb]? = some (.cells cur e (0, 0)) := by rw [hVe] at ho; exact ho
    obtain ⟨m, hm⟩ : ∃ m, xs.length - k = m + 1 := ⟨xs.length - k - 1, by omega⟩
    have hvs : (Builtin.zeroCells zv.cells (m + 1)).toList = (List.replicate (m + 1) z).flatMap E.enc := by rw [zeroCells_toList, hzc, flat_replicate]
    have hlen : ((List.replicate (m + 1) z).flatMap E.enc).length = (m + 1) * E.k := by rw [flatMap_length, List.length_replicate]
    have hkm : k * E.k + (m + 1) * E.k = xs.length * E.k := by rw [← Nat.add_mul, ← hm]; congr 1; omega
    have hxc : xs.length * E.k ≤ cap * E.k := Nat.mul_le_mul_right _ k1
    have hst := run_storeCells_at P gb (k * E.k) e ((List.replicate (m + 1) z).flatMap E.enc) 0 cur w ho' (by rw [hlen]; omega) (fun v hv => by
      obtain ⟨y, _, hy⟩ := List.mem_flatMap.1 hv
      exact E.one y v hy)
    rw [Nat.add_zero] at hst
    have hrun : (Builtin.clear_ #[t] ty #[HL.resl V k xs.length E.k]).run P w = .ok (.tuple #[]) (w.setRow gb (cur.toList.take (k * E.k) ++ (List.replicate (m + 1) z).flatMap E.enc ++ cur.toList.drop (k * E.k + ((List.replicate (m + 1) z).flatMap E.enc).length)).toArray) := by
      rw [hr, hm]
      simp only [Builtin.clear_]
      simp [run_underlying ht, hz, hvs, hst, Result.andThen]
    unfold Oper.wp execOp
    simp only [resolve, invoke, builtin, Sem.run_bind, Sem.run_pure, Result.andThen_ok, List.map_toArray, List.map_cons, List.map_nil, ha.eval hx, hrun]
    refine hK _ _ (K _ _ ha (hw.mut hput ⟨rfl, rfl, rfl, by simp, Nat.le_refl _, fun j hj hne => setRow_other w gb j _ (fun q => hne (by rw [hVe, q]; rfl))⟩ ?_))
    refine .inr ⟨gb, cap, (cur.toList.take (k * E.k) ++ (List.replicate (m + 1) z).flatMap E.enc ++ cur.toList.drop (k * E.k + ((List.replicate (m + 1) z).flatMap E.enc).length)).toArray, ?_, ?_, ?_, k2, ?_, ?_⟩
    · rw [hVe, List.length_append, List.length_take, List.length_replicate]; congr 1; omega
    · rw [hVe]; exact setRow_heap w gb _ _ e (0, 0) ho'
    · rw [List.length_append, List.length_take, List.length_replicate]; omega
    · rw [List.size_toArray, List.length_append, List.length_append, List.length_take, List.length_drop, hlen, Array.length_toList]; omega
    · rw [hm, List.length_append, List.length_take, List.length_replicate, Nat.min_eq_left (by omega), Nat.add_mul, List.flatMap_append]
      have e1 : cur.toList.take (k * E.k) = (xs.take k).flatMap E.enc := by
        have e2 : k * E.k ≤ xs.length * E.k := Nat.mul_le_mul_right _ (by omega)
        have : cur.toList.take (k * E.k) = (cur.toList.take (xs.length * E.k)).take (k * E.k) := by rw [List.take_take, Nat.min_eq_left e2]
        rw [this, k4]
        have h3 : xs.flatMap E.enc = (xs.take k).flatMap E.enc ++ (xs.drop k).flatMap E.enc := by rw [← List.flatMap_append, List.take_append_drop]
        have h4 : ((xs.take k).flatMap E.enc).length = k * E.k := by rw [flatMap_length, List.length_take, Nat.min_eq_left (by omega)]
        rw [h3, ← h4, List.take_left]
      have e5 : (cur.toList.take (k * E.k)).length = k * E.k := by rw [e1, flatMap_length, List.length_take, Nat.min_eq_left (by omega)]
      rw [← hlen, List.append_assoc]
      show ((cur.toList.take (k * E.k) ++ _).take _) = _
      rw [show k * E.k + ((List.replicate (m + 1) z).flatMap E.enc).length = (cur.toList.take (k * E.k) ++ (List.replicate (m + 1) z).flatMap E.enc).length by rw [List.length_append, e5], ← List.append_assoc, List.take_left, e1]
end
end Go.HL
