/- The kit's contracts of slices.Sort and slices.Compact in the words of XHm; functions that change a slice handed in. -/
import Derived.Test.YtfnedefgepjbpaaHe
import Derived.Sort.Row
import Derived.Sort.Grow
import Derived.Lib.SlicesCompact
set_option linter.unusedSimpArgs false
set_option linter.unusedVariables false
namespace Go.HL
open Go Go.RowKit Go.Sort

section
variable {α : Type} {E : Enc α} {f : α → Value}
theorem flat1 (hf : ∀ x, E.enc x = [f x]) (l : List α) : l.flatMap E.enc = l.map f := by
  induction l with
  | nil => rfl
  | cons x l ih => simp [List.flatMap_cons, hf, ih]
theorem enc1_k [Inhabited α] (hf : ∀ x, E.enc x = [f x]) : E.k = 1 := by
  have := E.len default
  rw [hf] at this
  exact this.symm
theorem holds1_row [Inhabited α] (hf : ∀ x, E.enc x = [f x]) {l : List α} {w : World} {g : Nat} {cur : Array Value} {T : TypeId} (ho : w.heap[g]? = some (.cells cur T (0, 0))) (hs : l.length ≤ cur.size) (hc : cur.toList.take l.length = l.map f) : Holds f w g 0 l.toArray := by
  intro j hj
  have hj' : j < l.length := by simpa using hj
  refine ⟨?_, by simp [World.frozen?, ho]⟩
  have h1 : cur[j]? = some (f l[j]) := by
    have : (cur.toList.take l.length)[j]? = some (f l[j]) := by rw [hc]; simp [hj']
    rw [List.getElem?_take, if_pos hj'] at this
    simpa using this
  rw [getElem!_pos l.toArray j hj]
  simp [World.cell?, ho, h1]
theorem putRow_heap [Inhabited α] {w : World} {g : Nat} {cur : Array Value} {T : TypeId} (ho : w.heap[g]? = some (.cells cur T (0, 0))) (d : Array α) (os : Array Obj) (m : Nat) :
    (grow (putRow f (Sort.ahead w m) g 0 d) os).heap[g]? = some (.cells (putCells f 0 d cur) T (0, 0)) := by
  have hg : g < w.heap.size := (Array.getElem?_eq_some_iff.1 ho).1
  show ((putRow f (Sort.ahead w m) g 0 d).heap ++ os)[g]? = _
  rw [Array.getElem?_append, if_pos (by simpa [putRow, mapBlock, Sort.ahead] using hg)]
  simp [putRow, mapBlock, Sort.ahead, Array.getElem?_modify, ho, onCells]
theorem put1_take [Inhabited α] (d : List α) (cur : Array Value) (h : d.length ≤ cur.size) : (putCells f 0 d.toArray cur).toList.take d.length = d.map f := by
  apply List.ext_getElem?
  intro j
  rw [List.getElem?_take, Array.getElem?_toList]
  by_cases hj : j < d.length
  · rw [if_pos hj]
    simp [putCells, Array.getElem?_mapIdx, hj, Array.getElem?_eq_getElem (show j < cur.size by omega)]
  · rw [if_neg hj, List.getElem?_eq_none (by simp; omega)]
theorem put1_mut [Inhabited α] {w : World} {V : Value} {g : Nat} {cur : Array Value} {T : TypeId} (hV : V.ownBlock = some g) (ho : w.heap[g]? = some (.cells cur T (0, 0))) (d : Array α) (os : Array Obj) (m : Nat) : Mut w (grow (putRow f (Sort.ahead w m) g 0 d) os) V := by
  refine ⟨rfl, rfl, rfl, by simp [grow, putRow, mapBlock, Sort.ahead], by simp [grow, putRow, mapBlock, Sort.ahead], fun k hk hne => ?_⟩
  show ((putRow f (Sort.ahead w m) g 0 d).heap ++ os)[k]? = _
  rw [Array.getElem?_append, if_pos (by simpa [putRow, mapBlock, Sort.ahead] using hk)]
  have : g ≠ k := by rintro rfl; exact hne hV.symm
  simp [putRow, mapBlock, Sort.ahead, Array.getElem?_modify, this]
theorem Mut.refl (w : World) (V : Value) : Mut w w V := ⟨rfl, rfl, rfl, Nat.le_refl _, Nat.le_refl _, fun _ _ _ => rfl⟩

/-- slices.Sort of a row of one's own. -/
theorem sort1_any [Inhabited α] {P : Program} {fn : FuncId} (hf : ∀ x, E.enc x = [f x]) (srt : List α → List α) (hlen : ∀ l, (srt l).length = l.length)
    (hS : ∀ (blk off cap : Nat) (zs : List α) (w : World), Holds f w blk off zs.toArray → blk < w.heap.size → zs.length < 4611686018427387904 →
      Calls P fn #[.slice (some ⟨blk, off, none⟩) zs.length cap] w fun e w' => e = .returned (.tuple #[]) ∧ ∃ n os, w' = grow (putRow f (Sort.ahead w n) blk off (srt zs).toArray) os)
    (hN : ∀ (p : Option Addr) (cap : Nat) (w : World), Calls P fn #[.slice p 0 cap] w fun e w' => e = .returned (.tuple #[]) ∧ w' = w)
    (T : TypeId) (l : List α) (V : Value) (w : World) (hr : (rowE V T E l).holds w) (hl : l.length < 4611686018427387904) :
    Calls P fn #[V] w fun e w' => e = .returned (.tuple #[]) ∧ Mut w w' V ∧ (rowE V T E (srt l)).holds w' := by
  have hr' : RowOK V T E l (V.ownBlock.bind (w.heap[·]?)) := hr
  have hk := enc1_k hf
  rcases hr' with ⟨rfl, rfl⟩ | ⟨b, cap, cur, rfl, ho, hc1, hc2, hc3, hc4⟩
  · refine (hN none 0 w).mono fun e w' ⟨h1, h2⟩ => ⟨h1, by subst h2; exact Mut.refl _ _, ?_⟩
    exact .inl ⟨rfl, List.length_eq_zero_iff.1 (by rw [hlen]; rfl)⟩
  · have ho' : w.heap[b]? = some (.cells cur T (0, 0)) := ho
    have hb : b < w.heap.size := (Array.getElem?_eq_some_iff.1 ho').1
    rw [hk, Nat.mul_one] at hc3 hc4
    rw [flat1 hf] at hc4
    refine (hS b 0 cap l w (holds1_row hf ho' (by omega) hc4) hb hl).mono fun e w' ⟨h1, n, os, h2⟩ => ⟨h1, ?_⟩
    subst h2
    refine ⟨put1_mut rfl ho' _ os n, .inr ⟨b, cap, _, by rw [hlen], putRow_heap ho' _ os n, by rw [hlen]; exact hc1, hc2, by rw [hk]; simpa [putCells] using hc3, ?_⟩⟩
    rw [hk, Nat.mul_one, flat1 hf]
    exact put1_take _ _ (by rw [hlen]; omega)

/-- slices.Compact of a row of one's own. -/
theorem compact1_any [Inhabited α] {P : Program} {fn : FuncId} [DecidableEq α] (z : α) (hf : ∀ x, E.enc x = [f x])
    (hC : ∀ (blk off cap : Nat) (zs : List α) (w : World), Holds f w blk off zs.toArray → zs.length ≤ 9223372036854775807 → zs.length ≤ cap →
      Calls P fn #[.slice (some ⟨blk, off, none⟩) zs.length cap] w fun e w' => e = .returned (.slice (some ⟨blk, off, none⟩) (Lib.compact zs).length cap) ∧
        ∃ q, w' = putRow f (Sort.ahead w q) blk off (Lib.compact zs ++ List.replicate (zs.length - (Lib.compact zs).length) z).toArray)
    (hN : ∀ (p : Option Addr) (cap : Nat) (w : World), Calls P fn #[.slice p 0 cap] w fun e w' => e = .returned (.slice p 0 cap) ∧ w' = w)
    (hcl : ∀ l : List α, (Lib.compact l).length ≤ l.length)
    (T : TypeId) (l : List α) (V : Value) (w : World) (hr : (rowE V T E l).holds w) (hl : l.length < 4611686018427387904) :
    Calls P fn #[V] w fun e w' => ∃ V', e = .returned V' ∧ V'.ownBlock = V.ownBlock ∧ Mut w w' V ∧ (rowE V' T E (Lib.compact l)).holds w' := by
  have hr' : RowOK V T E l (V.ownBlock.bind (w.heap[·]?)) := hr
  have hk := enc1_k hf
  have hcl' := hcl l
  rcases hr' with ⟨rfl, rfl⟩ | ⟨b, cap, cur, rfl, ho, hc1, hc2, hc3, hc4⟩
  · refine (hN none 0 w).mono fun e w' ⟨h1, h2⟩ => ⟨_, h1, rfl, by subst h2; exact Mut.refl _ _, ?_⟩
    exact .inl ⟨rfl, List.length_eq_zero_iff.1 (by simpa using hcl')⟩
  · have ho' : w.heap[b]? = some (.cells cur T (0, 0)) := ho
    rw [hk, Nat.mul_one] at hc3 hc4
    rw [flat1 hf] at hc4
    refine (hC b 0 cap l w (holds1_row hf ho' (by omega) hc4) (by omega) hc1).mono fun e w' ⟨h1, n, h2⟩ => ?_
    have h2' : w' = grow (putRow f (Sort.ahead w n) b 0 (Lib.compact l ++ List.replicate (l.length - (Lib.compact l).length) z).toArray) #[] := by rw [h2]; simp
    subst h2'
    refine ⟨_, h1, rfl, put1_mut rfl ho' _ #[] n, .inr ⟨b, cap, _, rfl, putRow_heap ho' _ #[] n, by omega, hc2, by rw [hk]; simpa [putCells] using hc3, ?_⟩⟩
    rw [hk, Nat.mul_one, flat1 hf]
    have h3 := put1_take (f := f) (Lib.compact l ++ List.replicate (l.length - (Lib.compact l).length) z) cur (by simp; omega)
    have h4 := congrArg (List.take (Lib.compact l).length) h3
    rw [List.take_take, Nat.min_eq_left (by simp), List.map_append, ← List.length_map (f := f), List.take_left] at h4
    rw [List.length_map] at h4
    exact h4
end

/-! ### a slice of the caller's that may be changed -/
def Bg.less (w : World) (V : Value) : Bg := ⟨fun b => if some b = V.ownBlock then none else w.heap[b]?, 0, w.drawn, w.os, w.tape, w.output, 0, Nat.le_refl _⟩
theorem HpOK.startOwn {α : Type} {V : Value} {T : TypeId} {E : Enc α} {l : List α} {w : World} (h : (rowE V T E l).holds w) : HpOK (Bg.less w V) [rowE V T E l] w := by
  have hlt : ∀ b, V.ownBlock = some b → b < w.heap.size := fun b hV => by
    have h' : RowOK V T E l (V.ownBlock.bind (w.heap[·]?)) := h
    rcases h' with ⟨rfl, _⟩ | ⟨g, cap, cur, rfl, ho, _⟩
    · simp [Value.ownBlock] at hV
    · simp only [Value.ownBlock, Option.some.injEq] at hV
      subst hV
      exact (Array.getElem?_eq_some_iff.1 ho).1
  have hb : blks [rowE V T E l] = V.ownBlock.toList := by
    cases hV : V.ownBlock <;> simp [blks, rowE, hV]
  refine ⟨rfl, rfl, rfl, Nat.zero_le _, Nat.le_refl _, fun b o e => ?_, fun e he => ?_, ?_, fun b hm => ?_, fun b hm => ?_⟩
  · simp only [Bg.less] at e
    split at e
    · cases e
    · exact e
  · obtain rfl := List.mem_singleton.1 he; exact h
  · rw [hb]; cases V.ownBlock <;> simp
  · rw [hb] at hm; exact hlt b (by simpa using hm)
  · rw [hb] at hm
    have hm' : V.ownBlock = some b := by simpa using hm
    exact ⟨by simp only [Bg.less]; rw [if_pos hm'.symm], Nat.zero_le _⟩
theorem HpOK.mutOwn {α : Type} {V V' : Value} {T : TypeId} {E : Enc α} {l : List α} {L : List Ent} {w w' : World} (h : HpOK (Bg.less w V) L w') (hm : rowE V' T E l ∈ L) (hb : V'.ownBlock = V.ownBlock) : Mut w w' V ∧ (rowE V' T E l).holds w' := by
  have key : ∀ k, k < w.heap.size → some k ≠ V.ownBlock → w'.heap[k]? = w.heap[k]? := fun k hk hne => by
    have e : (Bg.less w V).blk k = some w.heap[k] := by simp only [Bg.less]; rw [if_neg hne]; simp [hk]
    rw [h.bg k _ e]; simp [hk]
  refine ⟨⟨h.os, h.tape, h.out, ?_, h.dr, key⟩, h.ent _ hm⟩
  rcases Nat.eq_zero_or_pos w.heap.size with h0 | h0
  · omega
  · have hk : w.heap.size - 1 < w.heap.size := by omega
    by_cases hne : some (w.heap.size - 1) = V.ownBlock
    · have : w.heap.size - 1 ∈ blks L := List.mem_filterMap.2 ⟨_, hm, by show V'.ownBlock = _; rw [hb, ← hne]⟩
      have := h.lt _ this
      omega
    · have h1 := key _ hk hne
      rw [Array.getElem?_eq_getElem hk] at h1
      have := (Array.getElem?_eq_some_iff.1 h1).1
      omega
theorem enterOwn {α : Type} {T : TypeId} {E : Enc α} {l : List α} {V : Value} {P : Program} {f : FuncId} {fn : Func} {c : Code} {N : Nat} {args : List Value} {w : World} {R : Ending → World → Prop} (hr : (rowE V T E l).holds w) (hf : P.funcs[f]? = some fn) (hb : fn.body = some c) (hN : fn.ntmps = N) (hle : Nat.ble args.length N = true)
    (h : Tr N (Bg.less w V) [rowE V T E l] (frameOf 0 args) (c.wp P (bodyPost P fn R))) (hN0 : Nat.ble N mk0 = true := by rfl) : Calls P f args.toArray w R :=
  calls_of_wp hf hb (h _ w (frameOf_ok (by rw [hN]; simp) hle hN0) (HpOK.startOwn hr))

section
variable {P : Program} {ops : Array Oper} {Q : Exit → Act → World → Prop} {N : Nat} {F : Bg} {L : List Ent} {M : Fr} {ty : TypeId} {pos : String} {after : Array Edge} {rest : List Oper} {d : Nat}
/-- A call that changes one's own slice and hands it back, maybe shorter. -/
theorem Tr.callMutRow {α : Type} {E : Enc α} {l l' : List α} {V : Value} {T : TypeId} {f : FuncId} {xs : List Operand} {vs : List Value} {ts : Array TypeId} {L1 : List Ent} (hx : opvs M xs = some vs)
    (he : ∀ (args : Array Value) (w : World), (callFunc f args).run P w = .ok (.enter f args) w) (hV : Del (rowE V T E l) L L1)
    (hc : ∀ w, HpOK F L w → Calls P f vs.toArray w fun e w' => ∃ V', e = .returned V' ∧ V'.ownBlock = V.ownBlock ∧ Mut w w' V ∧ (rowE V' T E l').holds w') (hd : Nat.ble (d + 1) N = true)
    (K : ∀ V', V'.ownBlock = V.ownBlock → Tr N F (rowE V' T E l' :: L1) ((d, V') :: M) (wpList P ops Q rest)) :
    Tr N F L M (wpList P ops Q (⟨some d, .call { callee := .value (.func f), args := xs.toArray, argTypes := ts }, ty, pos, after, none⟩ :: rest)) := by
  intro a w ha hw
  refine wpList_plain rfl fun K' hK => ?_
  have hr : (execOp a.eval ⟨some d, .call { callee := .value (.func f), args := xs.toArray, argTypes := ts }, ty, pos, after, none⟩).run P w = .ok (.enter f vs.toArray) w := by
    have := ha.evals hx
    simp [execOp, resolve, Deferred.ofValue, Act.eval, invoke, he, this]
  unfold Oper.wp
  rw [hr]
  refine (hc w hw).mono fun e w' ⟨V', h1, h2, h3, h4⟩ => ?_
  subst h1
  refine hK _ _ (K V' h2 _ _ (ha.put (Nat.le_of_ble_eq_true hd)) ?_)
  have hf := hw.front hV
  cases hO : V.ownBlock with
  | none =>
    have hx : Ext w w' := ⟨⟨h3.os, h3.tape, h3.output, h3.size, fun k hk => h3.block k hk (by rw [hO]; simp)⟩, h3.dr⟩
    have hg := hf.grow hx
    have hbl : blks (rowE V' T E l' :: L1) = blks (rowE V T E l :: L1) := by simp only [blks, rowE, h2, List.filterMap_cons, hO]
    refine ⟨hg.os, hg.tape, hg.out, hg.n, hg.dr, hg.bg, fun e he => ?_, by rw [hbl]; exact hg.nodup, by rw [hbl]; exact hg.lt, by rw [hbl]; exact hg.sep⟩
    rcases List.mem_cons.1 he with rfl | he
    · exact h4
    · exact hg.ent e (.tail _ he)
  | some b =>
    have e1 : rowE V T E l = ⟨some b, RowOK V T E l⟩ := by simp [rowE, hO]
    have e2 : rowE V' T E l' = ⟨some b, RowOK V' T E l'⟩ := by simp [rowE, h2, hO]
    rw [e1] at hf
    rw [e2] at h4 ⊢
    exact HpOK.set hf (.here _) h3.os h3.tape h3.output h3.size h3.dr (fun k hk hkb => h3.block k hk (by rw [hO]; simpa using hkb)) h4
end
end Go.HL
