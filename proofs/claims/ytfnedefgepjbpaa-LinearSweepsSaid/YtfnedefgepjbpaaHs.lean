/- The kit's contract of slices.SortFunc, in the words of XHm. -/
import Derived.Test.YtfnedefgepjbpaaHb
import Derived.Shelf.SlGeneric
import Derived.Shelf.SlSortCmp.WholeK
set_option linter.unusedSimpArgs false
set_option linter.unusedVariables false
namespace Go.HL
open Go Go.RowKit Go.Sort
open Go.Shelf (Ren)
open Go.Proofs (SlLaysF0.n6 CmpLays ltOf)

theorem Ext.grown {w w' : World} (h : Ext w w') : ∃ q os', w' = grow (w.drewN q) os' := by
  refine ⟨w'.drawn - w.drawn, w'.heap.extract w.heap.size w'.heap.size, ?_⟩
  obtain ⟨⟨h1, h2, h3, h4, h5⟩, h6⟩ := h
  obtain ⟨hp', t', d', o', u'⟩ := w'
  simp only at h1 h2 h3 h4 h5 h6 ⊢
  subst h1; subst h2; subst h3
  simp only [grow, World.drewN, World.mk.injEq, true_and, and_true]
  refine ⟨?_, by omega⟩
  apply Array.ext_getElem?
  intro k
  rw [Array.getElem?_append]
  by_cases hk : k < w.heap.size
  · rw [if_pos hk, h5 k hk]
  · rw [if_neg hk]
    simp only [Array.getElem?_extract]
    by_cases hk2 : k < hp'.size
    · rw [if_pos (by omega), show w.heap.size + (k - w.heap.size) = k by omega]
    · rw [if_neg (by omega), Array.getElem?_eq_none (by omega)]

theorem flatK_toList {α : Type} [Inhabited α] (E : Enc α) (d : Array α) : (flatK E.enc E.k d).toList = d.toList.flatMap E.enc := by
  apply List.ext_getElem?
  intro t
  by_cases ht : t < d.size * E.k
  · have k0 : 0 < E.k := by rcases Nat.eq_zero_or_pos E.k with h | h
                            · rw [h] at ht; simp at ht
                            · exact h
    have hi : t / E.k < d.size := by rw [Nat.div_lt_iff_lt_mul k0]; exact ht
    have hj : t % E.k < E.k := Nat.mod_lt _ k0
    have hl : t % E.k < (E.enc d[t / E.k]!).length := by rw [E.len]; exact hj
    have h1 := get_flatK E.enc E.k d t ht
    have h2 := flatMap_get E d.toList (t / E.k) (d[t / E.k]!) (by rw [getElem!_pos d _ hi]; simp [hi]) (t % E.k) _ (List.getElem?_eq_getElem hl)
    rw [show t / E.k * E.k + t % E.k = t from Nat.div_add_mod' t E.k] at h2
    rw [h2, Array.getElem?_toList, Array.getElem?_eq_getElem (by rw [size_flatK]; exact ht)]
    rw [getElem!_pos (flatK E.enc E.k d) t (by rw [size_flatK]; exact ht), getElem!_pos (E.enc d[t / E.k]!) _ hl] at h1
    rw [h1]
  · rw [List.getElem?_eq_none (by simp; omega), List.getElem?_eq_none (by rw [flatMap_length]; simp; omega)]

theorem holdsK_row {α : Type} [Inhabited α] {E : Enc α} {l : List α} {w : World} {g : Nat} {cur : Array Value} {T : TypeId} (ho : w.heap[g]? = some (.cells cur T (0, 0))) (hs : l.length * E.k ≤ cur.size) (hc : cur.toList.take (l.length * E.k) = l.flatMap E.enc) :
    HoldsK E.enc E.k w g 0 l.toArray := by
  intro j hj
  rw [size_flatK] at hj
  have hj' : j < l.length * E.k := by simpa using hj
  have e : (flatK E.enc E.k l.toArray).toList = l.flatMap E.enc := flatK_toList E l.toArray
  refine ⟨?_, by simp [World.frozen?, ho]⟩
  rw [getElem!_pos (flatK E.enc E.k l.toArray) j (by rw [size_flatK]; exact hj)]
  have h2 : (flatK E.enc E.k l.toArray)[j]? = cur[j]? := by
    rw [← Array.getElem?_toList, e, ← hc, List.getElem?_take, if_pos hj', Array.getElem?_toList]
  rw [Array.getElem?_eq_getElem (by rw [size_flatK]; exact hj)] at h2
  simp [World.cell?, ho, ← h2]

theorem putK_heap {w : World} {g : Nat} {cur : Array Value} {T : TypeId} (ho : w.heap[g]? = some (.cells cur T (0, 0))) (F : Array Value) (os : Array Obj) (m : Nat) :
    (grow (putRow id (Sort.ahead w m) g 0 F) os).heap[g]? = some (.cells (putCells id 0 F cur) T (0, 0)) := by
  have hg : g < w.heap.size := (Array.getElem?_eq_some_iff.1 ho).1
  rw [heap_grow_old _ _ (by simpa using hg)]
  simp [putRow, mapBlock, Sort.ahead, Array.getElem?_modify, ho, onCells]

theorem putCells_take (F cur : Array Value) (h : F.size ≤ cur.size) : (putCells id 0 F cur).toList.take F.size = F.toList := by
  apply List.ext_getElem?
  intro j
  rw [List.getElem?_take, Array.getElem?_toList, Array.getElem?_toList]
  by_cases hj : j < F.size
  · rw [if_pos hj]
    simp [putCells, Array.getElem?_mapIdx, hj, Array.getElem?_eq_getElem (show j < cur.size by omega)]
  · rw [if_neg hj, Array.getElem?_eq_none (by omega)]

theorem sortK_mut {w : World} {V : Value} {g : Nat} {cur F : Array Value} {T : TypeId} (hV : V.ownBlock = some g) (ho : w.heap[g]? = some (.cells cur T (0, 0))) (os : Array Obj) (m : Nat) : Mut w (grow (putRow id (Sort.ahead w m) g 0 F) os) V := by
  refine ⟨rfl, rfl, rfl, by simp [putRow, mapBlock, Sort.ahead], by simp [grow, putRow, mapBlock, Sort.ahead], fun k hk hne => ?_⟩
  rw [heap_grow_old _ _ (by simpa [putRow, mapBlock, Sort.ahead] using hk)]
  have : g ≠ k := by rintro rfl; exact hne hV.symm
  simp [putRow, mapBlock, Sort.ahead, Array.getElem?_modify, this]

/-- What slices.SortFunc makes of a list. -/
def sortP {α : Type} [Inhabited α] (lt : α → α → Bool) (l : List α) : List α := (pdq lt l.toArray 0 l.length (Lib.bitLen l.length) true true).toList

theorem sortP_perm {α : Type} [Inhabited α] {lt : α → α → Bool} (h : SWO lt) (l : List α) : (sortP lt l).Perm l := by
  have hs := (pdq_sorts lt h l.toArray 0 l.length (Lib.bitLen l.length) true true (Nat.zero_le _) (by simp) (Or.inl rfl)).1
  obtain ⟨h1, _, h3⟩ := hs
  have hsz : (pdq lt l.toArray 0 l.length (Lib.bitLen l.length) true true).size = l.length := by simpa using h1
  unfold sortP
  generalize hd : pdq lt l.toArray 0 l.length (Lib.bitLen l.length) true true = d at h3 hsz
  have e1 : d.extract 0 l.length = d := by rw [← hsz]; simp
  have e2 : l.toArray.extract 0 l.length = l.toArray := by simp
  rw [e1, e2] at h3
  simpa using h3

theorem sortP_sorted {α : Type} [Inhabited α] {lt : α → α → Bool} (h : SWO lt) (l : List α) : (sortP lt l).Pairwise fun x y => lt y x = false := by
  have hs := (pdq_sorts lt h l.toArray 0 l.length (Lib.bitLen l.length) true true (Nat.zero_le _) (by simp) (Or.inl rfl))
  have hsz : (pdq lt l.toArray 0 l.length (Lib.bitLen l.length) true true).size = l.length := by simpa using hs.1.1
  rw [List.pairwise_iff_getElem]
  intro i j hi hj hij
  unfold sortP at hi hj ⊢
  simp only [Array.length_toList] at hi hj
  have := hs.2 i j (Nat.zero_le _) hij (by omega)
  rw [getElem!_pos (pdq lt l.toArray 0 l.length (Lib.bitLen l.length) true true) j hj, getElem!_pos (pdq lt l.toArray 0 l.length (Lib.bitLen l.length) true true) i hi] at this
  simpa using this

theorem sortP_length {α : Type} [Inhabited α] {lt : α → α → Bool} (h : SWO lt) (l : List α) : (sortP lt l).length = l.length := (sortP_perm h l).length_eq

theorem sortFunc_any {P : Program} {ρ : Ren} (L : SlLaysF0.n6 P ρ) {α : Type} [Inhabited α] (E : Enc α) (T : TypeId) (aE : ∀ w, (isAgg (ρ.t 24)).run P w = .ok true w) (zE : ∀ w, (Go.sizeOf (ρ.t 24)).run P w = .ok E.k w) (cf : α → α → Int) (hO : SWO (ltOf cf))
    (g : Nat) (cb : List Value) (l : List α) (V : Value) (w : World) (eg : ∀ args w, (callFunc g args).run P w = .ok (.enter g args) w) (hr : (rowE V T E l).holds w) (hl : l.length < 2305843009213693952)
    (hcmp : ∀ x y w', Mut w w' V → Calls P g ([Value.agg (E.enc x).toArray, .agg (E.enc y).toArray] ++ cb).toArray w' fun e w'' => e = .returned (.int .i64 (cf x y)) ∧ Ext w' w'')
    (hnil : Calls P (ρ.f 6) #[.slice none 0 0, .func (.func g) #[] cb.toArray] w fun e w' => e = .returned (.tuple #[]) ∧ Ext w w') :
    Calls P (ρ.f 6) #[V, .func (.func g) #[] cb.toArray] w fun e w' => e = .returned (.tuple #[]) ∧ Mut w w' V ∧ (rowE V T E (sortP (ltOf cf) l)).holds w' := by
  have hr' : RowOK V T E l (V.ownBlock.bind (w.heap[·]?)) := hr
  rcases hr' with ⟨rfl, rfl⟩ | ⟨b, cap, cur, rfl, ho, hc1, hc2, hc3, hc4⟩
  · refine hnil.mono fun e w' ⟨h1, h2⟩ => ⟨h1, ⟨h2.below.os, h2.below.tape, h2.below.output, h2.below.size, h2.dr, fun k hk _ => h2.below.block k hk⟩, ?_⟩
    refine .inl ⟨rfl, ?_⟩
    have := sortP_length hO ([] : List α)
    exact List.length_eq_zero_iff.1 this
  · have ho' : w.heap[b]? = some (.cells cur T (0, 0)) := ho
    have hb : b < w.heap.size := (Array.getElem?_eq_some_iff.1 ho').1
    have hsz : l.length * E.k ≤ cur.size := Nat.le_trans (Nat.mul_le_mul_right _ hc1) hc3
    have hH := holdsK_row (E := E) (l := l) ho' hsz hc4
    have hm := Go.Proofs.AnyQ.slices_SortFunc_eq L E.k aE zE E.enc E.len E.one cf hO g cb.toArray b 0 cap l.toArray w eg
      (fun m os dk hdk x y => by
        have e : (#[Value.agg (E.enc x).toArray, .agg (E.enc y).toArray] ++ cb.toArray) = ([Value.agg (E.enc x).toArray, .agg (E.enc y).toArray] ++ cb).toArray := by simp
        rw [e]
        exact (hcmp x y _ (sortK_mut (V := .slice (some ⟨b, 0, none⟩) l.length cap) rfl ho' os m)).mono fun e w' ⟨h1, h2⟩ => ⟨h1, h2.grown⟩) hH hb (by simp; omega)
    have e0 : (l.toArray.size : Nat) = l.length := by simp
    rw [e0] at hm
    refine hm.mono fun e w' ⟨h1, m, os, h2⟩ => ⟨h1, ?_⟩
    subst h2
    refine ⟨sortK_mut rfl ho' os m, ?_⟩
    have hlen := sortP_length hO l
    have hF : (flatK E.enc E.k (pdq (ltOf cf) l.toArray 0 l.length (Lib.bitLen l.length) true true)).toList = (sortP (ltOf cf) l).flatMap E.enc := flatK_toList E _
    have hFs : (flatK E.enc E.k (pdq (ltOf cf) l.toArray 0 l.length (Lib.bitLen l.length) true true)).size = l.length * E.k := by
      rw [← Array.length_toList, hF, flatMap_length, hlen]
    refine .inr ⟨b, cap, _, by rw [hlen], putK_heap ho' _ os m, by rw [hlen]; exact hc1, hc2, by simpa [putCells] using hc3, ?_⟩
    rw [hlen, ← hF, ← hFs]
    exact putCells_take _ _ (by rw [hFs]; exact hsz)
end Go.HL
