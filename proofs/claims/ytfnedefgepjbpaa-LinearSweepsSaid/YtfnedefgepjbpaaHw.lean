/- More rules: what was made becomes something that is only read; lists of rows; make; a text's bytes; copy; structs behind pointers. -/
import Derived.Test.YtfnedefgepjbpaaHc
import Derived.Test.YtfnedefgepjbpaaHe
import Derived.Laws.CopyRow
import Derived.Laws.MakeOwn
import Derived.Lib.ConvBytes
set_option linter.unusedSimpArgs false
set_option linter.unusedVariables false
namespace Go.HL
open Go Go.RowKit

/-! ### what is only read from now on -/
theorem HpOK.freeze {F : Bg} {L : List Ent} {w : World} (h : HpOK F L w) : ∃ F', F.le F' ∧ HpOK F' L w ∧ ∀ b o, b ∉ blks L → w.heap[b]? = some o → F'.blk b = some o := by
  refine ⟨{ F with blk := fun b => if b ∈ blks L then none else w.heap[b]? }, ⟨fun b o e => ?_, Nat.le_refl _, rfl, rfl, rfl, rfl, rfl⟩, ⟨h.os, h.tape, h.out, h.n, h.dr, fun b o e => ?_, h.ent, h.nodup, h.lt, fun b hb => ⟨?_, (h.sep b hb).2⟩⟩, fun b o hb e => ?_⟩
  · have hn : b ∉ blks L := fun hb => by rw [(h.sep b hb).1] at e; cases e
    show (if b ∈ blks L then none else w.heap[b]?) = some o
    rw [if_neg hn]; exact h.bg b o e
  · have e' : (if b ∈ blks L then none else w.heap[b]?) = some o := e
    split at e'
    · cases e'
    · exact e'
  · show (if b ∈ blks L then none else w.heap[b]?) = none
    rw [if_pos hb]
  · show (if b ∈ blks L then none else w.heap[b]?) = some o
    rw [if_neg hb]; exact e
/-- What lies in blocks that the world did not have before. -/
def newHp (w w' : World) : Hp := fun b => if b < w.heap.size then none else w'.heap[b]?
theorem newHp_le (w w' : World) : Hp.le (newHp w w') (hp w') := fun b o e => by
  unfold newHp at e; split at e
  · cases e
  · exact e
theorem newHp_bg {F F' : Bg} {L : List Ent} {w w' : World} (h : HpOK F L w) (hb : ∀ b o, b ∉ blks L → w'.heap[b]? = some o → F'.blk b = some o) : Hp.le (newHp w w') F'.blk := fun b o e => by
  unfold newHp at e; split at e
  · cases e
  · exact hb b o (fun hm => by have := h.lt b hm; omega) e
theorem newHp_ext {w w1 w' : World} (h : w.heap.size ≤ w1.heap.size) : Hp.le (newHp w1 w') (newHp w w') := fun b o e => by
  unfold newHp at e ⊢; split at e
  · cases e
  · rw [if_neg (by omega)]; exact e
/-- A row made in a call reads in the new blocks. -/
theorem NewRow.sl {α : Type} {w w' : World} {T : TypeId} {E : Enc α} {l : List α} {V : Value} (h : NewRow w w' T E l V) : Sl (newHp w w') E l V := by
  obtain ⟨h1, h2⟩ := h
  rcases h1 with ⟨rfl, rfl⟩ | ⟨g, cap, cur, rfl, ho, k1, k2, k3, k4⟩
  · exact Sl.nil _ _
  · refine RowOK.sl (T := T) (.inr ⟨g, cap, cur, rfl, ?_, k1, k2, k3, k4⟩)
    have hg := h2 g rfl
    show newHp w w' g = _
    unfold newHp; rw [if_neg (by omega)]; exact ho
section
variable {P : Program} {ops : Array Oper} {Q : Exit → Act → World → Prop} {N : Nat} {F : Bg} {L : List Ent} {M : Fr} {dst : Option Tmp} {ty : TypeId} {pos : String} {after : Array Edge} {g : Option (Nat × Bool)} {rest : List Oper} {d : Nat}

/-- A row of one's own is only read from now on. -/
theorem Tr.frozen {α : Type} {V : Value} {T : TypeId} {E : Enc α} {l : List α} {L1 : List Ent} {X : Act → World → Prop} (hV : Del (rowE V T E l) L L1) (K : ∀ F', F.le F' → Sl F'.blk E l V → Tr N F' L1 M X) : Tr N F L M X := by
  intro a w ha hw
  have hf := hw.front hV
  have h1 : HpOK F L1 w := hf.mem (List.sublist_cons_self _ _)
  obtain ⟨F', e1, e2, e3⟩ := h1.freeze
  refine K F' e1 ?_ a w ha e2
  have hr : RowOK V T E l (V.ownBlock.bind (w.heap[·]?)) := hf.ent _ (.head _)
  rcases hr with ⟨rfl, rfl⟩ | ⟨gb, cap, cur, rfl, ho, k1, k2, k3, k4⟩
  · exact Sl.nil _ _
  · refine RowOK.sl (T := T) (.inr ⟨gb, cap, cur, rfl, ?_, k1, k2, k3, k4⟩)
    refine e3 gb _ ?_ ho
    have := hf.nodup
    rw [blks_some (b := gb) rfl, List.nodup_cons] at this
    exact this.1
/-- A call that hands back something new, which is only read from then on. -/
theorem Tr.callBg {ι : Type} {R : Hp → ι → Prop} (φ : ι → Value) {f : FuncId} {xs : List Operand} {vs : List Value} {ts : Array TypeId} (hR : ∀ h h' i, Hp.le h h' → R h i → R h' i) (hx : opvs M xs = some vs)
    (he : ∀ (args : Array Value) (w : World), (callFunc f args).run P w = .ok (.enter f args) w)
    (hc : ∀ w, HpOK F L w → Calls P f vs.toArray w fun e w' => ∃ i, e = .returned (φ i) ∧ Ext w w' ∧ R (newHp w w') i) (hd : Nat.ble (d + 1) N = true)
    (K : ∀ i F', F.le F' → R F'.blk i → Tr N F' L ((d, φ i) :: M) (wpList P ops Q rest)) :
    Tr N F L M (wpList P ops Q (⟨some d, .call { callee := .value (.func f), args := xs.toArray, argTypes := ts }, ty, pos, after, none⟩ :: rest)) := by
  intro a w ha hw
  refine wpList_plain rfl fun K' hK => ?_
  have hr : (execOp a.eval ⟨some d, .call { callee := .value (.func f), args := xs.toArray, argTypes := ts }, ty, pos, after, none⟩).run P w = .ok (.enter f vs.toArray) w := by
    have := ha.evals hx
    simp [execOp, resolve, Deferred.ofValue, Act.eval, invoke, he, this]
  unfold Oper.wp
  rw [hr]
  refine (hc w hw).mono fun e w' ⟨i, h1, h2, h3⟩ => ?_
  subst h1
  obtain ⟨F', e1, e2, e3⟩ := (hw.grow h2).freeze
  exact hK _ _ (K i F' e1 (hR _ _ _ (newHp_bg hw e3) h3) _ _ (ha.put (Nat.le_of_ble_eq_true hd)) e2)

/-! ### many new blocks -/
structure NewEnts (w w' : World) (Ls : List Ent) : Prop where
  ent : ∀ e ∈ Ls, e.holds w'
  nodup : (blks Ls).Nodup
  lt : ∀ b ∈ blks Ls, b < w'.heap.size
  ge : ∀ b ∈ blks Ls, w.heap.size ≤ b
theorem HpOK.newEnts {w w' : World} {Ls : List Ent} (h : HpOK F L w) (hx : Ext w w') (hn : NewEnts w w' Ls) : HpOK F (Ls ++ L) w' := by
  have hg := h.grow hx
  have hbl : blks (Ls ++ L) = blks Ls ++ blks L := List.filterMap_append
  refine ⟨hg.os, hg.tape, hg.out, hg.n, hg.dr, hg.bg, fun e he => ?_, ?_, fun b hb => ?_, fun b hb => ?_⟩
  · rcases List.mem_append.1 he with he | he
    · exact hn.ent e he
    · exact hg.ent e he
  · rw [hbl, List.nodup_append]
    exact ⟨hn.nodup, hg.nodup, fun a ha b hb => by have := hn.ge a ha; have := h.lt b hb; omega⟩
  · rw [hbl] at hb
    rcases List.mem_append.1 hb with hb | hb
    · exact hn.lt b hb
    · exact hg.lt b hb
  · rw [hbl] at hb
    rcases List.mem_append.1 hb with hb | hb
    · have hge := hn.ge b hb
      refine ⟨?_, Nat.le_trans (Nat.le_trans F.lo_le h.n) hge⟩
      cases hF : F.blk b with
      | none => rfl
      | some o =>
        have := h.bg _ _ hF
        have := (Array.getElem?_eq_some_iff.1 this).1
        omega
    · exact hg.sep b hb
theorem HpOK.ents {w w' : World} {Ls : List Ent} (h : HpOK F L w') (hF : (Bg.of w).le F) (hs : Pick L Ls) : NewEnts w w' Ls := by
  have h' := hs.heap h
  refine ⟨h'.ent, h'.nodup, h'.lt, fun b hb => ?_⟩
  have := (h'.sep b hb).2
  rw [hF.lo] at this; exact this
/-- A call that hands back a value with many new rows in it. -/
theorem Tr.callEnts {ι : Type} (φ : ι → Value) (Ls : ι → List Ent) {ok : ι → Prop} {f : FuncId} {xs : List Operand} {vs : List Value} {ts : Array TypeId} (hx : opvs M xs = some vs)
    (he : ∀ (args : Array Value) (w : World), (callFunc f args).run P w = .ok (.enter f args) w)
    (hc : ∀ w, HpOK F L w → Calls P f vs.toArray w fun e w' => ∃ i, e = .returned (φ i) ∧ Ext w w' ∧ NewEnts w w' (Ls i) ∧ ok i) (hd : Nat.ble (d + 1) N = true)
    (K : ∀ i, ok i → Tr N F (Ls i ++ L) ((d, φ i) :: M) (wpList P ops Q rest)) :
    Tr N F L M (wpList P ops Q (⟨some d, .call { callee := .value (.func f), args := xs.toArray, argTypes := ts }, ty, pos, after, none⟩ :: rest)) := by
  intro a w ha hw
  refine wpList_plain rfl fun K' hK => ?_
  have hr : (execOp a.eval ⟨some d, .call { callee := .value (.func f), args := xs.toArray, argTypes := ts }, ty, pos, after, none⟩).run P w = .ok (.enter f vs.toArray) w := by
    have := ha.evals hx
    simp [execOp, resolve, Deferred.ofValue, Act.eval, invoke, he, this]
  unfold Oper.wp
  rw [hr]
  refine (hc w hw).mono fun e w' ⟨i, h1, h2, h3, h4⟩ => ?_
  subst h1
  exact hK _ _ (K i h4 _ _ (ha.put (Nat.le_of_ble_eq_true hd)) (hw.newEnts h2 h3))

/-! ### make -/
theorem madeCells_toList (z : Array Value) (k : Nat) (hz : z.size = 1) : (madeCells z k).toList = List.replicate k (z[0]!) := by
  apply List.ext_getElem?
  intro j
  by_cases hj : j < k
  · simp [madeCells, hj, hz, Nat.mod_one]
  · simp [madeCells, hj]
theorem flatMap_replicate1 {α : Type} (E : Enc α) (x : α) (v : Value) (hv : E.enc x = [v]) : ∀ n, (List.replicate n x).flatMap E.enc = List.replicate n v
  | 0 => rfl
  | n + 1 => by simp only [List.replicate_succ, List.flatMap_cons, hv, flatMap_replicate1 E x v hv n]; rfl
theorem Tr.make {α : Type} {E : Enc α} (x : α) {x0 y : Operand} {t e : TypeId} {z v : Value} {n bytes : Nat} {k k' : IntKind} (hx : opv M x0 = some (.int k n)) (hy : opv M y = some (.int k' n)) (ht : P.underlying t = some (.slice e))
    (hinfo : (P.info? e).map (fun i => (i.zero, i.size, i.bytes)) = some (some z, 1, bytes)) (hz : z.cells = #[v]) (hE : E.enc x = [v]) (hk : E.k = 1) (hb : n ≤ 16777216 ∧ n * bytes ≤ 281474976710656) (hd : Nat.ble (d + 1) N = true)
    (K : ∀ b, Tr N F (rowE (.slice (some ⟨b, 0, none⟩) (List.replicate n x).length n) e E (List.replicate n x) :: L) ((d, .slice (some ⟨b, 0, none⟩) (List.replicate n x).length n) :: M) (wpList P ops Q rest)) :
    Tr N F L M (wpList P ops Q (⟨some d, .makeSlice t x0 y, ty, pos, after, none⟩ :: rest)) := by
  intro a w ha hw
  refine wpList_plain rfl fun K' hK => ?_
  obtain ⟨i, hi, hz', hsize, hby⟩ := info_parts' hinfo
  have hb2 : (i.bytes : Int) * (n : Int) ≤ 281474976710656 := by
    rw [hby, ← Int.natCast_mul, Nat.mul_comm]
    have := hb.2; omega
  have hr := run_make (P := P) w t e i z ht hi hz' k k' (n : Int) (n : Int) (by omega) (by omega) hb2 (by omega)
  have he : (execOp a.eval ⟨some d, .makeSlice t x0 y, ty, pos, after, none⟩).run P w = .ok (.value (.slice (some ⟨w.heap.size, 0, none⟩) n n)) (w.alloc (.cells (madeCells z.cells (n * i.size)) e)) := by
    simp only [execOp, ha.eval hx, ha.eval hy, Sem.run_bind, hr, Result.andThen_ok, Sem.run_pure, Int.toNat_natCast]
  unfold Oper.wp
  rw [he]
  have hl : (List.replicate n x).length = n := List.length_replicate
  have := K w.heap.size
  rw [hl] at this
  refine hK _ _ (this _ _ (ha.put (Nat.le_of_ble_eq_true hd)) ?_)
  refine hw.alloc _ _ ?_
  have hm : (madeCells z.cells (n * i.size)).toList = List.replicate n v := by
    rw [hz, madeCells_toList _ _ rfl, hsize, Nat.mul_one]; rfl
  have hs : (madeCells z.cells (n * i.size)).size = n := by rw [← Array.length_toList, hm]; simp
  have := rowOK_new (E := E) (l := List.replicate n x) (T := e) (b := w.heap.size) (cap := n) (cells := madeCells z.cells (n * i.size)) (by rw [hl]; exact Nat.le_refl _) (by unfold maxLen; omega) (by rw [hk, hs]; omega)
    (by rw [hm, hl, hk, Nat.mul_one, flatMap_replicate1 E x v hE, List.take_of_length_le (by simp)])
  rwa [hl] at this

/-! ### a text's bytes -/
open Go.Lib in
theorem Tr.strBytes {x : Operand} {s t e : TypeId} {u : TypeDesc} {b : ByteArray} (hx : opv M x = some (.string b)) (hs : P.underlying s = some u) (ht : P.underlying t = some (.slice e)) (he : P.underlying e = some (.int .u8)) (hb : b.size ≤ maxLen) (hd : Nat.ble (d + 1) N = true)
    (K : ∀ V F', F.le F' → Sl F'.blk encU8 (bts b) V → Tr N F' L ((d, V) :: M) (wpList P ops Q rest)) : Tr N F L M (wpList P ops Q (⟨some d, .convert s t x, ty, pos, after, none⟩ :: rest)) := by
  intro a w ha hw
  refine wpList_plain rfl fun K' hK => ?_
  have hr := Go.Lib.run_convert_string_bytes (P := P) w s t e b hs ht he
  have hge := grownCap_ge w b.size 0 e
  have hx2 : Ext w (bytesWorld w e b) := ⟨⟨rfl, rfl, rfl, by rw [bytesWorld_size]; omega, fun k hk => bytesWorld_at_old w e b k hk⟩, by simp [bytesWorld, World.freeze]⟩
  obtain ⟨F', e1, e2, e3⟩ := (hw.grow hx2).freeze
  have hnew := e3 w.heap.size _ (fun hm => by have := hw.lt _ hm; omega) (bytesWorld_at_new w e b)
  unfold Oper.wp
  simp only [execOp, ha.eval hx, Sem.run_bind, hr, Result.andThen_ok, Sem.run_pure, Oper.upon]
  refine hK _ _ (K _ F' e1 ?_ _ _ (ha.put (Nat.le_of_ble_eq_true hd)) e2)
  have hl := bts_len b
  refine ⟨⟨some ⟨w.heap.size, 0, none⟩, grownCap w b.size 0 e, by rw [hl], by rw [hl]; exact hge, grownCap_le_maxLen w _ 0 e hb, fun _ => rfl⟩, fun i x hi => ⟨_, _, _, hnew, fun j v hj => ?_⟩⟩
  have hi' : i < b.size := by rw [← hl]; exact (List.getElem?_eq_some_iff.1 hi).1
  have hj' : j = 0 := by have := (List.getElem?_eq_some_iff.1 hj).1; simp [encU8] at this; exact this
  subst hj'
  simp only [encU8, List.getElem?_cons_zero, Option.some.injEq] at hj
  subst hj
  have hi2 : b.data[i]? = some x := by
    rw [← Array.getElem?_toList]; exact hi
  have hi3 : i < b.data.size := hi'
  simp [bytesCells, ofs, encU8, Array.getElem?_append, hi2, hi3]
  intro h; omega

/-! ### structs behind pointers -/
def CellsIn (h : Hp) (b : Nat) (vs : List Value) : Prop := ∃ (cs : Array Value) (T : TypeId) (fz : Nat × Nat), h b = some (.cells cs T fz) ∧ ∀ (j : Nat) (v : Value), vs[j]? = some v → cs[j]? = some v
theorem CellsIn.mono {h k : Hp} {b : Nat} {vs : List Value} (c : CellsIn h b vs) (hk : Hp.le h k) : CellsIn k b vs := let ⟨cs, T, fz, h1, h2⟩ := c; ⟨cs, T, fz, hk _ _ h1, h2⟩
theorem cellE.cellsIn {b : Nat} {cs : List Value} {T : TypeId} {w w' : World} (h : (cellE b cs T).holds w) (hx : Ext w w') : CellsIn (HL.hp w') b cs :=
  CellsIn.mono (h := HL.hp w) ⟨cs.toArray, T, (0, 0), h, fun j v hv => by simpa using hv⟩ hx.hp
theorem CellsIn.cell {h : Hp} {b : Nat} {vs : List Value} (c : CellsIn h b vs) {j : Nat} {v : Value} (hv : vs[j]? = some v) : Cell h b j v := let ⟨cs, T, fz, h1, h2⟩ := c; ⟨cs, T, fz, h1, h2 j v hv⟩
theorem QS.loadCA {x : Operand} {t : TypeId} {b k : Nat} {vs : List Value} (hx : opv M x = some (.pointer (some ⟨b, 0, none⟩))) (hc : CellsIn F.blk b vs) (hagg : ∀ w, (isAgg t).run P w = .ok true w) (hz : ∀ w, (sizeOf t).run P w = .ok k w) (hl : vs.length = k) :
    QS P N F L M ⟨dst, .load t x, ty, pos, after, g⟩ (.agg vs.toArray) :=
  QS.loadA hx hagg hz hl fun w hw j v hj => by
    rw [Nat.zero_add]; exact ((hc.mono hw.bg).cell hj).at
theorem QS.loadCF {x : Operand} {t : TypeId} {b o : Nat} {v : Value} {vs : List Value} (hx : opv M x = some (.pointer (some ⟨b, o, none⟩))) (hc : CellsIn F.blk b vs) (hagg : ∀ w, (isAgg t).run P w = .ok false w) (hv : vs[o]? = some v) :
    QS P N F L M ⟨dst, .load t x, ty, pos, after, g⟩ v :=
  QS.load1 hx hagg fun w hw => ((hc.mono hw.bg).cell hv).at

/-! ### copy -/
theorem run_copy_bytes {t t2 e ty : TypeId} {xs ys : List UInt8} {V W : Value} {n0 : Nat} {w : World} (ht : P.underlying t = some (.slice e)) (hs : (P.info? e).map (·.size) = some 1) (hV : (rowE V e encU8 xs).holds w) (hW : Sl (HL.hp w) encU8 ys W) (hat : n0 + ys.length ≤ xs.length) (hne : 0 < ys.length) :
    ∃ w', (Builtin.copy_ #[t, t2] ty #[HL.resl V n0 xs.length encU8.k, W]).run P w = .ok (goInt ys.length) w' ∧ Mut w w' V ∧ (rowE V e encU8 (xs.take n0 ++ ys ++ xs.drop (n0 + ys.length))).holds w' := by
  obtain ⟨aW, cW, hWs, hc1, hc2, hWa⟩ := hW.shape
  have hWa' := hWa (by intro h; subst h; simp at hne)
  rw [hWa'] at hWs
  have hV' : RowOK V e encU8 xs (V.ownBlock.bind (w.heap[·]?)) := hV
  rcases hV' with ⟨rfl, rfl⟩ | ⟨gb, cap', cur, rfl, ho, k1, k2, k3, k4⟩
  · simp only [List.length_nil] at hat; omega
  · have ho' : w.heap[gb]? = some (.cells cur e (0, 0)) := ho
    have hres : HL.resl (.slice (some ⟨gb, 0, none⟩) xs.length cap') n0 xs.length encU8.k = .slice (some ⟨gb, n0, none⟩) (xs.length - n0) (cap' - n0) := by
      have : cap' ≠ n0 := by omega
      simp only [HL.resl, this, if_false, Option.map_some, Addr.add_lit, encU8, Nat.mul_one, Nat.zero_add]
    have k3' : cap' ≤ cur.size := by simpa [encU8] using k3
    have k4' : cur.toList.take xs.length = xs.flatMap encU8.enc := by simpa [encU8] using k4
    have hyl : (ys.flatMap encU8.enc).length = ys.length := by rw [flatMap_length]; exact Nat.mul_one _
    have hr := run_copy_row (P := P) w t t2 ty e gb n0 (xs.length - n0) (cap' - n0) ⟨bk W, ofs W, none⟩ ys.length cW cur e (ys.flatMap encU8.enc) ht hs ho' (by rw [hyl]; show _ = min _ _; omega)
      (fun j v hj => by
        have hj' : j < ys.length := by rw [← hyl]; exact (List.getElem?_eq_some_iff.1 hj).1
        have hy : ys[j]? = some ys[j] := by simp [hj']
        have h1 := flatMap_get encU8 ys j _ hy 0 _ rfl
        simp only [encU8, Nat.mul_one, Nat.add_zero] at h1
        rw [show (ys.flatMap encU8.enc)[j]? = some (Value.int .u8 (ys[j].toNat)) from h1] at hj
        cases hj
        have h2 := hW.cell hy (j := 0) (v := .int .u8 ys[j].toNat) rfl
        rw [Addr.add_lit]
        simpa [encU8] using h2) (by rw [hyl]; omega) (by
        intro u hu
        obtain ⟨y, _, hy⟩ := List.mem_flatMap.1 hu
        exact encU8.one y u hy)
    rw [hres, hWs]
    rw [hyl] at hr
    refine ⟨_, hr, ⟨rfl, rfl, rfl, by simp, Nat.le_refl _, fun k _ hk => setRow_other w gb k _ (fun h => hk (by simp [Value.ownBlock, h]))⟩, ?_⟩
    have hlen : (xs.take n0 ++ ys ++ xs.drop (n0 + ys.length)).length = xs.length := by simp; omega
    unfold rowE Ent.holds
    simp only [Value.ownBlock, Option.bind_some, setRow_heap w gb cur _ e _ ho']
    refine .inr ⟨gb, cap', _, by rw [hlen], rfl, by rw [hlen]; exact k1, k2, ?_, ?_⟩
    · show cap' * 1 ≤ _
      simp only [List.size_toArray, List.length_append, List.length_take, List.length_drop, Array.length_toList, hyl]; omega
    · rw [hlen]
      show List.take (xs.length * 1) _ = _
      have e1 : ∀ l : List UInt8, l.flatMap encU8.enc = l.map fun x => Value.int .u8 (x.toNat : Int) := fun l => by rw [List.map_eq_flatMap]; rfl
      rw [Nat.mul_one, e1, e1]
      rw [e1] at k4'
      apply List.ext_getElem?
      intro j
      have k5 : ∀ q, q < xs.length → cur[q]? = (xs[q]?).map fun x => Value.int .u8 (x.toNat : Int) := fun q hq => by
        have := congrArg (·[q]?) k4'
        simp only [List.getElem?_take, if_pos hq, Array.getElem?_toList, List.getElem?_map] at this
        exact this
      simp only [List.getElem?_take, List.getElem?_append, List.length_append, List.length_take, List.length_map, Array.length_toList, List.getElem?_drop, List.getElem?_map, Array.getElem?_toList, List.map_append, List.map_take, List.map_drop, List.toList_toArray]
      have m1 : min n0 cur.size = n0 := by omega
      have m2 : min n0 xs.length = n0 := by omega
      rw [m1, m2]
      by_cases c1 : j < xs.length
      · rw [if_pos c1]
        by_cases c2 : j < n0
        · rw [if_pos (by omega), if_pos c2, if_pos c2, if_pos (by omega), if_pos c2, if_pos c2, k5 j (by omega)]
        · by_cases c3 : j < n0 + ys.length
          · rw [if_pos c3, if_neg c2, if_pos c3, if_neg c2]
          · rw [if_neg c3, if_neg c3, k5 _ (by omega)]
      · rw [if_neg c1]
        rw [if_neg (by omega)]
        rw [List.getElem?_eq_none (by omega)]; rfl
theorem Tr.sliceFullN {α : Type} {E : Enc α} {xs : List α} {x hi mx : Operand} {t e T : TypeId} {V : Value} {k : Nat} {n : Int} {L1 : List Ent} (hx : opv M x = some V) (hV : Del (rowE V T E xs) L L1) (hhi : opv M hi = some (.int .i64 n)) (hmx : opv M mx = some (.int .i64 n)) (hn : n = (xs.length : Nat))
    (ht : P.underlying t = some (.slice e)) (hz : ∀ w, (sizeOf e).run P w = .ok k w) (hd : Nat.ble (d + 1) N = true)
    (K : ∀ V', Tr N F (rowE V' T E xs :: L1) ((d, V') :: M) (wpList P ops Q rest)) : Tr N F L M (wpList P ops Q (⟨some d, .slice t x none (some hi) (some mx), ty, pos, after, none⟩ :: rest)) := by
  subst hn; exact Tr.sliceFull hx hV hhi hmx ht hz hd K
theorem Pick.refl : ∀ L : List Ent, Pick L L
  | [] => .nil _
  | e :: L => .cons (.here _) (Pick.refl L)
theorem NewEnts.row {α : Type} {w w' : World} {Ls : List Ent} {V : Value} {T : TypeId} {E : Enc α} {l : List α} (h : NewEnts w w' Ls) (hm : rowE V T E l ∈ Ls) : NewRow w w' T E l V :=
  ⟨h.ent _ hm, fun b hb => h.ge b (List.mem_filterMap.2 ⟨_, hm, hb⟩)⟩
/-- What a row's slice value is like. -/
theorem Tr.rowShape {α : Type} {V : Value} {T : TypeId} {E : Enc α} {l : List α} {X : Act → World → Prop} (hm : rowE V T E l ∈ L) (K : ∀ a c, V = .slice a l.length c → Tr N F L M X) : Tr N F L M X := by
  intro a w ha hw
  have hr : RowOK V T E l (V.ownBlock.bind (w.heap[·]?)) := hw.ent _ hm
  rcases hr with ⟨h1, h2⟩ | ⟨gb, cap, cur, h1, _⟩
  · exact K none 0 (by rw [h1, h2]; rfl) a w ha hw
  · exact K _ _ h1 a w ha hw
theorem Tr.copyRow {xs ys : List UInt8} {x y : Operand} {V W : Value} {t t2 e : TypeId} {n0 : Nat} {L' : List Ent} (hx : opv M x = some (HL.resl V n0 xs.length encU8.k)) (hy : opv M y = some W) (hput : Put (rowE V e encU8 xs) (rowE V e encU8 (xs.take n0 ++ ys ++ xs.drop (n0 + ys.length))) L L')
    (hW : ∀ w, HpOK F L w → Sl (HL.hp w) encU8 ys W) (ht : P.underlying t = some (.slice e)) (hs : (P.info? e).map (·.size) = some 1) (hat : n0 + ys.length ≤ xs.length) (hne : 0 < ys.length) (hd : Nat.ble (d + 1) N = true)
    (K : Tr N F L' ((d, .int .i64 (ys.length : Nat)) :: M) (wpList P ops Q rest)) : Tr N F L M (wpList P ops Q (⟨some d, .call { callee := .builtin .copy, args := #[x, y], argTypes := #[t, t2] }, ty, pos, after, none⟩ :: rest)) := by
  intro a w ha hw
  refine wpList_plain rfl fun K' hK => ?_
  obtain ⟨w', hr, hm, hrow⟩ := run_copy_bytes (P := P) (t2 := t2) (ty := ty) ht hs (hw.ent _ hput.mem) (hW w hw) hat hne (w := w)
  unfold Oper.wp execOp
  simp only [resolve, invoke, builtin, Sem.run_bind, Sem.run_pure, Result.andThen_ok, List.map_toArray, List.map_cons, List.map_nil, ha.eval hx, ha.eval hy, hr]
  exact hK _ _ (K _ _ (ha.put (Nat.le_of_ble_eq_true hd)) (hw.mut hput hm hrow))
end
end Go.HL
