/- Rules for slices that the function makes: a literal, append, a clone; calls that hand back such a slice; entering and leaving a function; regions that draw. -/
import Derived.Test.YtfnedefgepjbpaaHm
set_option linter.unusedSimpArgs false
set_option linter.unusedVariables false
namespace Go.HL
open Go Go.RowKit

theorem fold_set : ∀ (l : List Value) (o : Nat) (c : Array Value), o + l.length ≤ c.size → ∀ j, ((l.zipIdx o).foldl (fun (cs : Array Value) (x : Value × Nat) => cs.setIfInBounds (0 + x.2) x.1) c)[j]? = if o ≤ j ∧ j < o + l.length then l[j - o]? else c[j]?
  | [], o, c, _, j => by simp; omega
  | x :: l, o, c, h, j => by
    simp only [List.length_cons] at h
    simp only [List.zipIdx_cons, List.foldl_cons, Nat.zero_add, List.length_cons]
    have ih := fold_set l (o + 1) (c.setIfInBounds o x) (by simp; omega) j
    simp only [Nat.zero_add] at ih
    rw [ih]
    by_cases h1 : o + 1 ≤ j ∧ j < o + 1 + l.length
    · rw [if_pos h1, if_pos (by omega), show j - o = (j - (o + 1)) + 1 by omega, List.getElem?_cons_succ]
    · rw [if_neg h1]
      by_cases h2 : j = o
      · subst h2
        rw [if_pos (by omega), Nat.sub_self]
        have hj : j < c.size := by omega
        simp [hj]
      · rw [if_neg (by omega), Array.getElem?_setIfInBounds_ne (by omega)]

theorem fill_one (k : Nat) (zero : Array Value) (v : Value) (hz : zero.size = k) (hv : v.cells.size = k) : Instr.fill (fun i => some (i * k, k)) zero [(0, v)] = some v.cells := by
  have h := fold_set v.cells.toList 0 zero (by simp; omega)
  have h1 : ¬ (v.cells.size ≠ k || decide (0 * k + v.cells.size > zero.size)) = true := by simp; omega
  simp only [Instr.fill]
  rw [if_neg h1]
  simp only [Nat.zero_mul, Option.some.injEq]
  apply Array.ext_getElem?
  intro j
  rw [← Array.foldl_toList, Array.toList_zipIdx, h j]
  simp only [Nat.zero_le, true_and, Nat.zero_add, Array.length_toList, Nat.sub_zero, Array.getElem?_toList]
  by_cases hj : j < v.cells.size
  · rw [if_pos hj]
  · rw [if_neg hj]
    rw [Array.getElem?_eq_none (by omega), Array.getElem?_eq_none (by omega)]

section
variable {P : Program} {ops : Array Oper} {Q : Exit → Act → World → Prop} {N : Nat} {F : Bg} {L : List Ent} {M : Fr} {dst : Option Tmp} {ty : TypeId} {pos : String} {after : Array Edge} {g : Option (Nat × Bool)} {rest : List Oper} {d : Nat}

theorem run_buildSliceOf (w : World) {t e : TypeId} {k n : Nat} {z : Value} {parts : Array (Nat × Value)} {cells : Array Value} (ht : P.underlying t = some (.slice e)) (hz : ∀ w, (sizeOf e).run P w = .ok k w) (hzero : ∀ w, (zeroValue e).run P w = .ok z w)
    (hn : n * k ≠ 0) (hs : n * k ≤ 16777216) (hfill : Instr.fill (fun i => some (i * k, k)) ((Array.range (n * k)).map (z.cells[· % z.cells.size]!)) parts.toList = some cells) :
    (Instr.buildSlice t n parts).run P w = .ok (.slice (some ⟨w.heap.size, 0, none⟩) n n) (w.alloc (.cells cells e)) := by
  have h1 : ¬ n * k > 2 ^ 24 := by omega
  simp only [Instr.buildSlice, Sem.run_bind, run_underlying ht, hz, hzero, Result.andThen_ok, Sem.run_ite, if_neg h1, if_neg hn, hfill, newRow, Sem.run_pure]
  rfl

theorem rowOK_new {α : Type} {E : Enc α} {l : List α} {T : TypeId} {b cap : Nat} {cells : Array Value} (hl : l.length ≤ cap) (hc : cap ≤ maxLen) (hsz : cap * E.k ≤ cells.size) (hcells : cells.toList.take (l.length * E.k) = l.flatMap E.enc) :
    RowOK (.slice (some ⟨b, 0, none⟩) l.length cap) T E l (some (.cells cells T (0, 0))) :=
  .inr ⟨b, cap, cells, rfl, rfl, hl, hc, hsz, hcells⟩

/-- A slice literal of one element: the operand of append. -/
theorem Tr.lit1 {α : Type} {E : Enc α} (x : α) {t e : TypeId} {o : Operand} {v z : Value} {k : Nat} (hx : opv M o = some v) (hv : v.cells.toList = E.enc x) (ht : P.underlying t = some (.slice e)) (hz : ∀ w, (sizeOf e).run P w = .ok k w)
    (hzero : ∀ w, (zeroValue e).run P w = .ok z w) (hk : k = E.k) (h0 : (Nat.ble 1 k && Nat.ble k 16777216) = true) (hd : Nat.ble (d + 1) N = true)
    (K : ∀ V, Tr N F (rowE V e E [x] :: L) ((d, V) :: M) (wpList P ops Q rest)) : Tr N F L M (wpList P ops Q (⟨some d, .buildSlice t 1 #[(0, o)], ty, pos, after, none⟩ :: rest)) := by
  intro a w ha hw
  refine wpList_plain rfl fun K' hK => ?_
  have hsz : v.cells.size = k := by
    have := congrArg List.length hv
    rw [E.len] at this
    simpa [hk] using this
  simp only [Bool.and_eq_true] at h0
  have h01 := Nat.le_of_ble_eq_true h0.1
  have h02 := Nat.le_of_ble_eq_true h0.2
  have hr := run_buildSliceOf (P := P) w (n := 1) (parts := #[(0, v)]) (cells := v.cells) ht hz hzero (by omega) (by omega) (by
    have := fill_one k ((Array.range (1 * k)).map (z.cells[· % z.cells.size]!)) v (by simp) hsz
    simpa using this)
  unfold Oper.wp
  have he : (execOp a.eval ⟨some d, .buildSlice t 1 #[(0, o)], ty, pos, after, none⟩).run P w = .ok (.value (.slice (some ⟨w.heap.size, 0, none⟩) 1 1)) (w.alloc (.cells v.cells e)) := by
    have hx' := ha.eval hx
    simp only [execOp, List.map_toArray, List.map_cons, List.map_nil, hx', Sem.run_bind, hr, Result.andThen_ok, Sem.run_pure]
  rw [he]
  refine hK _ _ (K _ _ _ (ha.put (Nat.le_of_ble_eq_true hd)) ?_)
  refine hw.alloc _ _ ?_
  exact rowOK_new (l := [x]) (Nat.le_refl _) (by simp [maxLen]) (by simp; omega) (by
    rw [List.flatMap_cons, List.flatMap_nil, List.append_nil, ← hv]
    refine List.take_of_length_le ?_
    simp only [List.length_cons, List.length_nil, Array.length_toList]; omega)

theorem info_parts' {e : TypeId} {z : Value} {k bytes : Nat} (h : (P.info? e).map (fun i => (i.zero, i.size, i.bytes)) = some (some z, k, bytes)) : ∃ i, P.info? e = some i ∧ i.zero = some z ∧ i.size = k ∧ i.bytes = bytes := by
  cases hi : P.info? e with
  | none => simp [hi] at h
  | some i => simp only [hi, Option.map_some, Option.some.injEq, Prod.mk.injEq] at h; exact ⟨i, rfl, h.1, h.2.1, h.2.2⟩

/-- append of one's own slice and another one of one's own. -/
theorem append_own {α : Type} {E : Enc α} {xs ys : List α} {t ty e : TypeId} {i : TypeInfo} {z : Value} {bytes : Nat} (ht : P.underlying t = some (.slice e)) (hi : P.info? e = some i) (hz : i.zero = some z)
    (hsize : i.size = E.k) (hby : i.bytes = bytes) (hzs : z.cells.size = E.k) {V W : Value} {w : World} (hV : (rowE V e E xs).holds w) (hW : Sl (HL.hp w) E ys W)
    (hbytes : (xs.length + ys.length) * bytes ≤ 140737488355328) (h63 : xs.length + ys.length ≤ maxLen) :
    ∃ V' w', (Builtin.append_ #[t, t] ty #[V, W]).run P w = .ok V' w' ∧ (rowE V' e E (xs ++ ys)).holds w' ∧ w'.os = w.os ∧ w'.tape = w.tape ∧ w'.output = w.output ∧ (w.heap.size ≤ w'.heap.size ∧ w.drawn ≤ w'.drawn) ∧
      ((V'.ownBlock = V.ownBlock ∧ V.ownBlock ≠ none ∧ (∀ k, k < w.heap.size → some k ≠ V.ownBlock → w'.heap[k]? = w.heap[k]?)) ∨
       (V'.ownBlock = some w.heap.size ∧ w.heap.size < w'.heap.size ∧ ∀ k, k < w.heap.size → w'.heap[k]? = w.heap[k]?) ∨
       (V' = V ∧ w' = w ∧ ys = [])) := by
  by_cases hne : 0 < ys.length
  case neg =>
    obtain rfl : ys = [] := List.eq_nil_of_length_eq_zero (by omega)
    obtain ⟨aW, cW, rfl, _, _, _⟩ := hW.shape
    refine ⟨V, w, ?_, by simpa using hV, rfl, rfl, rfl, ⟨Nat.le_refl _, Nat.le_refl _⟩, .inr (.inr ⟨rfl, rfl, rfl⟩)⟩
    have hf : (Builtin.firstCells i.size 0 (.slice aW 0 cW)).run P w = .ok #[] w := by
      cases aW <;> simp [Builtin.firstCells, loadCells, loadCellsFrom]
    rcases hV with ⟨rfl, rfl⟩ | ⟨gb, cap, cur, rfl, ho, hc1, hc2, hc3, hc4⟩
    · simp [Builtin.append_, run_underlying ht, sizeOf, typeInfo, hi, Builtin.lenOf, hf]
    · simp [Builtin.append_, run_underlying ht, sizeOf, typeInfo, hi, Builtin.lenOf, hf, hc1, storeCells]
  have hsmall : xs.length + ys.length ≤ 9223372036854775807 := by simp only [maxLen] at h63; omega
  obtain ⟨aW, cW, hWs, _, _, hWa⟩ := hW.shape
  have hWa' := hWa (by intro h; subst h; simp at hne)
  have hnews : ∀ j u, (ys.flatMap E.enc)[j]? = some u → w.cell? ((⟨bk W, ofs W, none⟩ : Addr).add j) = some u := by
    intro j u hu
    rw [Addr.add_lit]
    by_cases hk0 : E.k = 0
    · have : (ys.flatMap E.enc).length = 0 := by rw [flatMap_length, hk0]; simp
      have h0 := List.eq_nil_of_length_eq_zero this
      rw [h0] at hu; simp at hu
    · have hj : j < ys.length * E.k := by rw [← flatMap_length]; exact (List.getElem?_eq_some_iff.1 hu).1
      have hq : j / E.k < ys.length := Nat.div_lt_of_lt_mul (by rw [Nat.mul_comm]; exact hj)
      have hx : ys[j / E.k]? = some ys[j / E.k] := by simp [hq]
      have hm : j % E.k < (E.enc ys[j / E.k]).length := by rw [E.len]; exact Nat.mod_lt _ (Nat.pos_of_ne_zero hk0)
      have hv : (E.enc ys[j / E.k])[j % E.k]? = some (E.enc ys[j / E.k])[j % E.k] := by simp [hm]
      have h1 := flatMap_get E ys _ _ hx _ _ hv
      have hdm : j / E.k * E.k + j % E.k = j := by rw [Nat.mul_comm]; exact Nat.div_add_mod j E.k
      rw [hdm, hu] at h1
      have h2 := hW.cell hx hv
      rw [Nat.add_assoc, hdm] at h2
      rw [h2, ← Option.some.inj h1]
  have hl : (ys.flatMap E.enc).length = ys.length * i.size := by rw [flatMap_length, hsize]
  have h1 : ∀ u ∈ ys.flatMap E.enc, u.oneCell' = true := by
    intro u hu
    obtain ⟨y, _, hy⟩ := List.mem_flatMap.1 hu
    exact E.one y u hy
  rw [hWs, hWa']
  have newRow : ∀ old, old < xs.length + ys.length → ∀ w' : World, w'.heap[w.heap.size]? = some (.cells ((xs.flatMap E.enc).toArray ++ (ys.flatMap E.enc).toArray ++ Builtin.zeroCells z.cells (grownCap w (xs.length + ys.length) old e - (xs.length + ys.length))) e) →
      (rowE (.slice (some ⟨w.heap.size, 0, none⟩) (xs.length + ys.length) (grownCap w (xs.length + ys.length) old e)) e E (xs ++ ys)).holds w' := by
    intro old _ w' hw'
    have hge := grownCap_ge w (xs.length + ys.length) old e
    have hcm : grownCap w (xs.length + ys.length) old e ≤ maxLen := grownCap_le_maxLen w _ old e h63
    unfold rowE Ent.holds
    simp only [Value.ownBlock, Option.bind_some, hw']
    have := rowOK_new (E := E) (l := xs ++ ys) (T := e) (b := w.heap.size) (cap := grownCap w (xs.length + ys.length) old e) (cells := ((xs.flatMap E.enc).toArray ++ (ys.flatMap E.enc).toArray ++ Builtin.zeroCells z.cells (grownCap w (xs.length + ys.length) old e - (xs.length + ys.length)))) (by simpa using hge) hcm
      (by
        simp only [Array.size_append, List.size_toArray, size_zeroCells, hzs, flatMap_length, ← Nat.add_mul]
        exact Nat.mul_le_mul_right _ (by omega))
      (by
        have hll : (xs ++ ys).length * E.k = ((xs ++ ys).flatMap E.enc).length := by rw [flatMap_length]
        rw [hll]
        simp only [Array.toList_append, List.flatMap_append, List.append_assoc]
        rw [← List.append_assoc]
        exact List.take_left)
    simpa using this
  rcases hV with ⟨rfl, rfl⟩ | ⟨gb, cap, cur, rfl, ho, hc1, hc2, hc3, hc4⟩
  · have hr := run_append_nil (P := P) w t ty e i z ht hi hz ⟨bk W, ofs W, none⟩ ys.length cW (ys.flatMap E.enc) hl hnews hne (by simp at hsmall; omega) (by simp at hbytes; rw [hby]; omega)
    refine ⟨_, _, hr, ?_, rfl, rfl, rfl, ⟨(by simp), (by simp)⟩, .inr (.inl ⟨rfl, (by simp), fun k hk => heap_alloc_old w.drew _ hk⟩)⟩
    have := newRow 0 (by simpa using hne) (w.drew.alloc (.cells ((ys.flatMap E.enc).toArray ++ Builtin.zeroCells z.cells (grownCap w ys.length 0 e - ys.length)) e)) (by
      have := heap_alloc_new w.drew (.cells ((ys.flatMap E.enc).toArray ++ Builtin.zeroCells z.cells (grownCap w ys.length 0 e - ys.length)) e)
      simpa using this)
    simpa using this
  · change w.heap[gb]? = _ at ho
    by_cases hroom : xs.length + ys.length ≤ cap
    · have hfit : xs.length * i.size + (ys.flatMap E.enc).length ≤ cur.size := by
        rw [hl, hsize, ← Nat.add_mul]
        exact Nat.le_trans (Nat.mul_le_mul_right _ hroom) hc3
      have hr := run_append_room (P := P) w t ty e i ht hi gb xs.length cap cur ho ⟨bk W, ofs W, none⟩ ys.length cW (ys.flatMap E.enc) hl hnews h1 hroom hfit
      refine ⟨_, _, hr, ?_, rfl, rfl, rfl, ⟨(by simp), (by simp)⟩, .inl ⟨rfl, (by simp [Value.ownBlock]), fun k _ hk => setRow_other w gb k _ (fun h => hk (by simp [Value.ownBlock, h]))⟩⟩
      unfold rowE Ent.holds
      simp only [Value.ownBlock, Option.bind_some, setRow_heap w gb cur _ e _ ho]
      have := rowOK_new (E := E) (l := xs ++ ys) (T := e) (b := gb) (cap := cap) (cells := (cur.toList.take (xs.length * i.size) ++ (ys.flatMap E.enc) ++ cur.toList.drop (xs.length * i.size + (ys.flatMap E.enc).length)).toArray) (by simpa using hroom) hc2
        (by simp only [List.size_toArray, List.length_append, List.length_take, List.length_drop, Array.length_toList]; omega)
        (by
          have hll : (xs ++ ys).length * E.k = ((xs ++ ys).flatMap E.enc).length := by rw [flatMap_length]
          rw [hll, hsize, hc4]
          simp only [List.flatMap_append]
          exact List.take_left)
      simpa using this
    · have holds : ∀ j u, (xs.flatMap E.enc)[j]? = some u → w.cell? ((⟨gb, 0, none⟩ : Addr).add j) = some u := by
        intro j u hu
        rw [Addr.add_lit]
        have hb : HL.hp w gb = some (.cells cur e (0, 0)) := ho
        rw [cell_of hb, Nat.zero_add]
        rw [← hc4, List.getElem?_take] at hu
        split at hu
        · simpa using hu
        · cases hu
      have hr := run_append_grow (P := P) w t ty e i z ht hi hz ⟨gb, 0, none⟩ xs.length cap (xs.flatMap E.enc) (by rw [flatMap_length, hsize]) holds ⟨bk W, ofs W, none⟩ ys.length cW (ys.flatMap E.enc) hl hnews (by omega) (by omega) (growslice_fits (by omega) (by rw [hby]; exact hbytes))
      exact ⟨_, _, hr, newRow cap (by omega) _ (heap_alloc_new w.drew _), rfl, rfl, rfl, ⟨(by simp), (by simp)⟩, .inr (.inl ⟨rfl, (by simp), fun k hk => heap_alloc_old w.drew _ hk⟩)⟩

/-- The slice in front has grown: where it lies, or anew. -/
theorem HpOK.regrow {α : Type} {V V' : Value} {e : TypeId} {E : Enc α} {xs zs : List α} {w w' : World} (h : HpOK F (rowE V e E xs :: L) w) (h' : (rowE V' e E zs).holds w') (hos : w'.os = w.os) (ht : w'.tape = w.tape) (ho : w'.output = w.output) (hs : w.heap.size ≤ w'.heap.size ∧ w.drawn ≤ w'.drawn)
    (hc : (V'.ownBlock = V.ownBlock ∧ V.ownBlock ≠ none ∧ (∀ k, k < w.heap.size → some k ≠ V.ownBlock → w'.heap[k]? = w.heap[k]?)) ∨
       (V'.ownBlock = some w.heap.size ∧ w.heap.size < w'.heap.size ∧ ∀ k, k < w.heap.size → w'.heap[k]? = w.heap[k]?) ∨
       (V' = V ∧ w' = w ∧ zs = xs)) : HpOK F (rowE V' e E zs :: L) w' := by
  rcases hc with ⟨hb, hn, hk⟩ | ⟨hb, hlt, hk⟩ | ⟨rfl, rfl, rfl⟩
  · cases hV : V.ownBlock with
    | none => exact absurd hV hn
    | some b =>
      have e1 : rowE V e E xs = ⟨some b, RowOK V e E xs⟩ := by simp [rowE, hV]
      have e2 : rowE V' e E zs = ⟨some b, RowOK V' e E zs⟩ := by simp [rowE, hb, hV]
      rw [e1] at h
      rw [e2] at h' ⊢
      exact HpOK.set h (.here _) hos ht ho hs.1 hs.2 (fun k hk1 hkb => hk k hk1 (by rw [hV]; simpa using hkb)) h'
  · have hL : HpOK F L w := h.mem (List.sublist_cons_self _ _)
    have hg : HpOK F L w' := hL.grow ⟨⟨hos, ht, ho, hs.1, hk⟩, hs.2⟩
    have e2 : rowE V' e E zs = ⟨some w.heap.size, RowOK V' e E zs⟩ := by simp [rowE, hb]
    rw [e2] at h' ⊢
    have hbl : blks (⟨some w.heap.size, RowOK V' e E zs⟩ :: L) = w.heap.size :: blks L := rfl
    refine ⟨hg.os, hg.tape, hg.out, hg.n, hg.dr, hg.bg, fun x hx => ?_, ?_, fun b hb => ?_, fun b hb => ?_⟩
    · rcases List.mem_cons.1 hx with rfl | hx
      · exact h'
      · exact hg.ent x hx
    · rw [hbl, List.nodup_cons]
      exact ⟨fun hm => Nat.lt_irrefl _ (hL.lt _ hm), hL.nodup⟩
    · rw [hbl] at hb
      rcases List.mem_cons.1 hb with rfl | hb
      · exact hlt
      · exact hg.lt b hb
    · rw [hbl] at hb
      rcases List.mem_cons.1 hb with rfl | hb
      · refine ⟨?_, Nat.le_trans F.lo_le hL.n⟩
        cases hF : F.blk w.heap.size with
        | none => rfl
        | some o' =>
          have := hL.bg _ _ hF
          have := (Array.getElem?_eq_some_iff.1 this).1
          omega
      · exact hg.sep b hb
  · exact h

theorem own_nil {α : Type} (e : TypeId) (E : Enc α) {w : World} (h : HpOK F L w) : HpOK F (rowE (.slice none 0 0) e E ([] : List α) :: L) w := by
  have hbl : blks (rowE (.slice none 0 0) e E ([] : List α) :: L) = blks L := rfl
  refine ⟨h.os, h.tape, h.out, h.n, h.dr, h.bg, fun x hx => ?_, by rw [hbl]; exact h.nodup, by rw [hbl]; exact h.lt, by rw [hbl]; exact h.sep⟩
  rcases List.mem_cons.1 hx with rfl | hx
  · exact .inl ⟨rfl, rfl⟩
  · exact h.ent x hx

/-- The nil slice is one's own. -/
theorem Tr.ownNil {α : Type} (e : TypeId) (E : Enc α) {X : Act → World → Prop} (h : Tr N F (rowE (.slice none 0 0) e E ([] : List α) :: L) M X) : Tr N F L M X :=
  fun a w ha hw => h a w ha (own_nil e E hw)

theorem Tr.appendOf {α : Type} {E : Enc α} {xs ys : List α} {x y : Operand} {V W : Value} {t e : TypeId} {z : Value} {k bytes : Nat} {L1 : List Ent} (hx : opv M x = some V) (hy : opv M y = some W)
    (hV : Del (rowE V e E xs) L L1) (hW : ∀ w, HpOK F L w → Sl (HL.hp w) E ys W) (ht : P.underlying t = some (.slice e)) (hinfo : (P.info? e).map (fun i => (i.zero, i.size, i.bytes)) = some (some z, k, bytes)) (hk : k = E.k) (hzs : z.cells.size = k)
    (hbytes : (xs.length + ys.length) * bytes ≤ 140737488355328) (h63 : xs.length + ys.length ≤ maxLen) (hd : Nat.ble (d + 1) N = true)
    (K : ∀ V', Tr N F (rowE V' e E (xs ++ ys) :: L1) ((d, V') :: M) (wpList P ops Q rest)) : Tr N F L M (wpList P ops Q (⟨some d, .call { callee := .builtin .append, args := #[x, y], argTypes := #[t, t] }, ty, pos, after, none⟩ :: rest)) := by
  intro a w ha hw
  refine wpList_plain rfl fun K' hK => ?_
  obtain ⟨i, hi, hz, hsize, hby⟩ := info_parts' hinfo
  rw [hk] at hsize hzs
  have hf := hw.front hV
  obtain ⟨V', w', hr, h1, h2, h3, h4, h5, h6⟩ := append_own (P := P) (ty := ty) ht hi hz hsize hby hzs (hf.ent _ (.head _)) (hW w hw) hbytes h63
  unfold Oper.wp execOp
  simp only [resolve, invoke, builtin, Sem.run_bind, Sem.run_pure, Result.andThen_ok, List.map_toArray, List.map_cons, List.map_nil, ha.eval hx, ha.eval hy, hr]
  exact hK _ _ (K V' _ _ (ha.put (Nat.le_of_ble_eq_true hd)) (hf.regrow h1 h2 h3 h4 h5 (h6.imp id (Or.imp id fun ⟨q1, q2, q3⟩ => ⟨q1, q2, by rw [q3, List.append_nil]⟩))))

/-- append of one's own slice and a literal of one's own, which is forgotten. -/
theorem Tr.append1 {α : Type} {E : Enc α} {xs ys : List α} {x y : Operand} {V W : Value} {t e : TypeId} {z : Value} {k bytes : Nat} {L1 L2 : List Ent} (hx : opv M x = some V) (hy : opv M y = some W)
    (hW : Del (rowE W e E ys) L L1) (hV : Del (rowE V e E xs) L1 L2) (ht : P.underlying t = some (.slice e)) (hinfo : (P.info? e).map (fun i => (i.zero, i.size, i.bytes)) = some (some z, k, bytes)) (hk : k = E.k) (hzs : z.cells.size = k)
    (hbytes : (xs.length + ys.length) * bytes ≤ 140737488355328) (h63 : xs.length + ys.length ≤ maxLen) (hd : Nat.ble (d + 1) N = true)
    (K : ∀ V', Tr N F (rowE V' e E (xs ++ ys) :: L2) ((d, V') :: M) (wpList P ops Q rest)) : Tr N F L M (wpList P ops Q (⟨some d, .call { callee := .builtin .append, args := #[x, y], argTypes := #[t, t] }, ty, pos, after, none⟩ :: rest)) := by
  have hp : L.Perm (rowE V e E xs :: rowE W e E ys :: L2) := hW.perm.trans ((hV.perm.cons _).trans (.swap _ _ _))
  refine Tr.perm hp.symm (Tr.appendOf hx hy (.here _) (fun w hw => hw.row (.tail _ (.head _))) ht hinfo hk hzs hbytes h63 hd fun V' => ?_)
  exact Tr.drop ((List.sublist_cons_self _ _).cons_cons _) (K V')

/-! ### calls that hand back something made anew -/
/-- A row made by a callee: the world has grown, the slice is one of its new blocks (or nil). -/
def NewRow {α : Type} (w w' : World) (T : TypeId) (E : Enc α) (l : List α) (V : Value) : Prop := (rowE V T E l).holds w' ∧ ∀ b, V.ownBlock = some b → w.heap.size ≤ b

theorem HpOK.newRow {α : Type} {w w' : World} {T : TypeId} {E : Enc α} {l : List α} {V : Value} (h : HpOK F L w) (hb : Ext w w') (hr : NewRow w w' T E l V) : HpOK F (rowE V T E l :: L) w' := by
  have hg := h.grow hb
  obtain ⟨h1, h2⟩ := hr
  cases hV : V.ownBlock with
  | none =>
    have hbl : blks (rowE V T E l :: L) = blks L := by simp [blks, rowE, hV]
    refine ⟨hg.os, hg.tape, hg.out, hg.n, hg.dr, hg.bg, fun x hx => ?_, by rw [hbl]; exact hg.nodup, by rw [hbl]; exact hg.lt, by rw [hbl]; exact hg.sep⟩
    rcases List.mem_cons.1 hx with rfl | hx
    · exact h1
    · exact hg.ent x hx
  | some b =>
    have hbl : blks (rowE V T E l :: L) = b :: blks L := by simp [blks, rowE, hV]
    have hge := h2 b hV
    have hlt : b < w'.heap.size := by
      rcases h1 with ⟨rfl, _⟩ | ⟨gb, cap, cur, rfl, ho, _⟩
      · simp [Value.ownBlock] at hV
      · simp only [rowE, Value.ownBlock, Option.bind_some] at ho
        simp only [Value.ownBlock, Option.some.injEq] at hV
        subst hV
        exact (Array.getElem?_eq_some_iff.1 ho).1
    refine ⟨hg.os, hg.tape, hg.out, hg.n, hg.dr, hg.bg, fun x hx => ?_, ?_, fun c hc => ?_, fun c hc => ?_⟩
    · rcases List.mem_cons.1 hx with rfl | hx
      · exact h1
      · exact hg.ent x hx
    · rw [hbl, List.nodup_cons]
      exact ⟨fun hm => by have := h.lt _ hm; omega, hg.nodup⟩
    · rw [hbl] at hc
      rcases List.mem_cons.1 hc with rfl | hc
      · exact hlt
      · exact hg.lt c hc
    · rw [hbl] at hc
      rcases List.mem_cons.1 hc with rfl | hc
      · refine ⟨?_, Nat.le_trans (Nat.le_trans F.lo_le h.n) hge⟩
        cases hF : F.blk c with
        | none => rfl
        | some o' =>
          have := h.bg _ _ hF
          have := (Array.getElem?_eq_some_iff.1 this).1
          omega
      · exact hg.sep c hc

theorem Tr.callRow {α : Type} {E : Enc α} {l : List α} {T : TypeId} {f : FuncId} {xs : List Operand} {vs : List Value} {ts : Array TypeId} (hx : opvs M xs = some vs)
    (he : ∀ (args : Array Value) (w : World), (callFunc f args).run P w = .ok (.enter f args) w)
    (hc : ∀ w, HpOK F L w → Calls P f vs.toArray w fun e w' => ∃ V, e = .returned V ∧ Ext w w' ∧ NewRow w w' T E l V) (hd : Nat.ble (d + 1) N = true)
    (K : ∀ V, Tr N F (rowE V T E l :: L) ((d, V) :: M) (wpList P ops Q rest)) :
    Tr N F L M (wpList P ops Q (⟨some d, .call { callee := .value (.func f), args := xs.toArray, argTypes := ts }, ty, pos, after, none⟩ :: rest)) := by
  intro a w ha hw
  refine wpList_plain rfl fun K' hK => ?_
  have hr : (execOp a.eval ⟨some d, .call { callee := .value (.func f), args := xs.toArray, argTypes := ts }, ty, pos, after, none⟩).run P w = .ok (.enter f vs.toArray) w := by
    have := ha.evals hx
    simp [execOp, resolve, Deferred.ofValue, Act.eval, invoke, he, this]
  unfold Oper.wp
  rw [hr]
  refine (hc w hw).mono fun e w' ⟨V, h1, h2, h3⟩ => ?_
  subst h1
  exact hK _ _ (K V _ _ (ha.put (Nat.le_of_ble_eq_true hd)) (hw.newRow h2 h3))

/-- Any call by its contract. -/
theorem Tr.callAny {f : FuncId} {xs : List Operand} {vs : List Value} {ts : Array TypeId} {R : World → Ending → World → Prop} {dst : Option Tmp} (hx : opvs M xs = some vs)
    (he : ∀ (args : Array Value) (w : World), (callFunc f args).run P w = .ok (.enter f args) w)
    (hc : ∀ w, HpOK F L w → Calls P f vs.toArray w (R w))
    (K : ∀ a w e w', FrOK N M a → HpOK F L w → R w e w' → ∃ v, e = .returned v ∧ wpList P ops Q rest (a.put dst v) w') :
    Tr N F L M (wpList P ops Q (⟨dst, .call { callee := .value (.func f), args := xs.toArray, argTypes := ts }, ty, pos, after, none⟩ :: rest)) := by
  intro a w ha hw
  refine wpList_plain rfl fun K' hK => ?_
  have hr : (execOp a.eval ⟨dst, .call { callee := .value (.func f), args := xs.toArray, argTypes := ts }, ty, pos, after, none⟩).run P w = .ok (.enter f vs.toArray) w := by
    have := ha.evals hx
    simp [execOp, resolve, Deferred.ofValue, Act.eval, invoke, he, this]
  unfold Oper.wp
  rw [hr]
  refine (hc w hw).mono fun e w' hR => ?_
  obtain ⟨v, h1, h2⟩ := K a w e w' ha hw hR
  subst h1
  exact hK _ _ h2
end

/-! ### entering and leaving -/
def frameOf : Nat → List Value → Fr
  | _, [] => [(mk0, undef)]
  | n, v :: vs => (n, v) :: frameOf (n + 1) vs
theorem look_frameOf : ∀ (vs : List Value) (n t : Nat) (v : Value), look (frameOf n vs) t = some v → (n ≤ t ∧ vs[t - n]? = some v) ∨ (t = mk0 ∧ v = undef)
  | [], n, t, v, h => by
    simp only [frameOf, look_cons] at h
    by_cases e : mk0 = t
    · simp only [e, if_true] at h; cases h; exact .inr ⟨e.symm, rfl⟩
    · simp only [e, if_false] at h; simp [look] at h
  | u :: vs, n, t, v, h => by
    simp only [frameOf, look_cons] at h
    by_cases e : n = t
    · subst e; simp only [if_true] at h; cases h; simp
    · simp only [e, if_false] at h
      rcases look_frameOf vs (n + 1) t v h with this | this
      · refine .inl ⟨by omega, ?_⟩
        rw [show t - n = (t - (n + 1)) + 1 by omega]
        simpa using this.2
      · exact .inr this
theorem frameOf_ok {args : List Value} {N : Nat} {tmps : Array Value} (ht : tmps = args.toArray ++ Array.replicate (N - args.length) undef) (hle : Nat.ble args.length N = true) (hN : Nat.ble N mk0 = true) : FrOK N (frameOf 0 args) { tmps := tmps, defers := [] } := by
  subst ht
  have h1 := Nat.le_of_ble_eq_true hle
  have h2 := Nat.le_of_ble_eq_true hN
  refine ⟨fun _ => rfl, fun D hD => ?_, by simp; omega, h2, fun t v hv => ?_⟩
  · rcases look_frameOf args 0 _ _ hD with h | ⟨h, _⟩
    · have := (List.getElem?_eq_some_iff.1 h.2).1
      omega
    · omega
  rcases look_frameOf args 0 t v hv with h | ⟨rfl, rfl⟩
  · have h3 := h.2
    simp only [Nat.sub_zero] at h3
    rw [Array.getD_eq_getD_getElem?, Array.getElem?_append_left (by simpa using (List.getElem?_eq_some_iff.1 h3).1)]
    simp [h3]
  · rw [Array.getD_eq_getD_getElem?, Array.getElem?_eq_none (by simp; omega)]; rfl

section
variable {P : Program}
theorem enter {f : FuncId} {fn : Func} {c : Code} {N : Nat} {args : List Value} {w : World} {R : Ending → World → Prop} (hf : P.funcs[f]? = some fn) (hb : fn.body = some c) (hN : fn.ntmps = N) (hle : Nat.ble args.length N = true)
    (h : Tr N (Bg.of w) [] (frameOf 0 args) (c.wp P (bodyPost P fn R))) (hN0 : Nat.ble N mk0 = true := by rfl) : Calls P f args.toArray w R :=
  calls_of_wp hf hb (h _ w (frameOf_ok (by rw [hN]; simp) hle hN0) (HpOK.start w))

/-- What a result variable holds. -/
def resv (M : Fr) : ResultVar → Option Value
  | .tmp t => look M t
  | .cell _ _ => none

theorem Tr.ret1 {N : Nat} {F : Bg} {L : List Ent} {M : Fr} {fn : Func} {R : Ending → World → Prop} {t : Tmp} {v : Value} (hr : fn.results = #[.tmp t]) (hv : look M t = some v) (h : ∀ w, HpOK F L w → R (.returned v) w) (hD : look M mk0 = some undef := by rfl) :
    Tr N F L M (bodyPost P fn R .ret) := fun a w ha hw => ⟨ha.defers0 hD, v, by rw [results_tmp hr, ha.val t v hv], h w hw⟩
theorem Tr.ret2 {N : Nat} {F : Bg} {L : List Ent} {M : Fr} {fn : Func} {R : Ending → World → Prop} {t u : Tmp} {v v' : Value} (hr : fn.results = #[.tmp t, .tmp u]) (hv : look M t = some v) (hv' : look M u = some v') (h : ∀ w, HpOK F L w → R (.returned (.tuple #[v, v'])) w) (hD : look M mk0 = some undef := by rfl) :
    Tr N F L M (bodyPost P fn R .ret) := fun a w ha hw => ⟨ha.defers0 hD, _, results_tmp2 hr a.tmps P w, by rw [ha.val t v hv, ha.val u v' hv']; exact h w hw⟩
theorem Tr.ret3 {N : Nat} {F : Bg} {L : List Ent} {M : Fr} {fn : Func} {R : Ending → World → Prop} {t u s : Tmp} {v v' v'' : Value} (hr : fn.results = #[.tmp t, .tmp u, .tmp s]) (hv : look M t = some v) (hv' : look M u = some v') (hv'' : look M s = some v'') (h : ∀ w, HpOK F L w → R (.returned (.tuple #[v, v', v''])) w) (hD : look M mk0 = some undef := by rfl) :
    Tr N F L M (bodyPost P fn R .ret) := fun a w ha hw => ⟨ha.defers0 hD, _, (by simp [results, hr]; rfl), by
      have h1 := ha.val t v hv; have h2 := ha.val u v' hv'; have h3 := ha.val s v'' hv''
      simp only [Array.getD_eq_getD_getElem?] at h1 h2 h3
      first
        | (simp only [h1, h2, h3]; exact h w hw)
        | (rw [h1, h2, h3]; exact h w hw)⟩
theorem Tr.ret0 {N : Nat} {F : Bg} {L : List Ent} {M : Fr} {fn : Func} {R : Ending → World → Prop} (hr : fn.results = #[]) (h : ∀ w, HpOK F L w → R (.returned (.tuple #[])) w) (hD : look M mk0 = some undef := by rfl) :
    Tr N F L M (bodyPost P fn R .ret) := fun a w ha hw => ⟨ha.defers0 hD, _, results_none hr a.tmps P w, h w hw⟩
theorem Tr.ret0n {N : Nat} {F : Bg} {L : List Ent} {M : Fr} {fn : Func} {R : Ending → World → Prop} (hr : fn.results = #[]) (h : ∀ w, HpOK F L w → R (.returned (.tuple #[])) w) (hD : look M mk0 = some undef := by rfl) :
    Tr N F L M (bodyPost P fn R .normal) := fun a w ha hw => ⟨ha.defers0 hD, _, results_none hr a.tmps P w, h w hw⟩
end
end Go.HL
