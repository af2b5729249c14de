/- Own rules and walks, part 2. -/
import Derived.Test.YtfnedefgepjbpaaB1
set_option linter.unusedSimpArgs false
set_option linter.unusedVariables false
set_option linter.unusedSectionVars false
namespace Go.HL
open Go Go.RowKit Go.Sort
section
variable {α : Type} {E : Enc α} {f : α → Value}
theorem Mut.refl (w : World) (V : Value) : Mut w w V := ⟨rfl, rfl, rfl, Nat.le_refl _, Nat.le_refl _, fun _ _ _ => rfl⟩
end
def Bg.less (w : World) (V : Value) : Bg := ⟨fun b => if some b = V.ownBlock then none else w.heap[b]?, 0, w.drawn, w.os, w.tape, w.output, 0, Nat.le_refl _⟩
theorem HpOK.startOwn {α : Type} {V : Value} {T : TypeId} {E : Enc α} {l : List α} {w : World} (h : (rowE V T E l).holds w) : HpOK (Bg.less w V) [rowE V T E l] w := by
  have hlt : ∀ b, V.ownBlock = some b → b < w.heap.size := fun b hV => by
    have h' : RowOK V T E l (V.ownBlock.bind (w.heap[·]?)) := h
    rcases h' with ⟨rfl, _⟩ | ⟨g, cap, cur, rfl, ho, _⟩
    · simp [Value.ownBlock] at hV
    · simp only [Value.ownBlock, Option.some.injEq] at hV
      subst hV
      exact (Array.getElem?_eq_some_iff.1 ho).1
  have hb : blks [rowE V T E l] = V.ownBlock.toList := by
    cases hV : V.ownBlock <;> simp [blks, rowE, hV]
  refine ⟨rfl, rfl, rfl, Nat.zero_le _, Nat.le_refl _, fun b o e => ?_, fun e he => ?_, ?_, fun b hm => ?_, fun b hm => ?_⟩
  · simp only [Bg.less] at e
    split at e
    · cases e
    · exact e
  · obtain rfl := List.mem_singleton.1 he; exact h
  · rw [hb]; cases V.ownBlock <;> simp
  · rw [hb] at hm; exact hlt b (by simpa using hm)
  · rw [hb] at hm
    have hm' : V.ownBlock = some b := by simpa using hm
    exact ⟨by simp only [Bg.less]; rw [if_pos hm'.symm], Nat.zero_le _⟩
theorem HpOK.mutOwn {α : Type} {V V' : Value} {T : TypeId} {E : Enc α} {l : List α} {L : List Ent} {w w' : World} (h : HpOK (Bg.less w V) L w') (hm : rowE V' T E l ∈ L) (hb : V'.ownBlock = V.ownBlock) : Mut w w' V ∧ (rowE V' T E l).holds w' := by
  have key : ∀ k, k < w.heap.size → some k ≠ V.ownBlock → w'.heap[k]? = w.heap[k]? := fun k hk hne => by
    have e : (Bg.less w V).blk k = some w.heap[k] := by simp only [Bg.less]; rw [if_neg hne]; simp [hk]
    rw [h.bg k _ e]; simp [hk]
  refine ⟨⟨h.os, h.tape, h.out, ?_, h.dr, key⟩, h.ent _ hm⟩
  rcases Nat.eq_zero_or_pos w.heap.size with h0 | h0
  · omega
  · have hk : w.heap.size - 1 < w.heap.size := by omega
    by_cases hne : some (w.heap.size - 1) = V.ownBlock
    · have : w.heap.size - 1 ∈ blks L := List.mem_filterMap.2 ⟨_, hm, by show V'.ownBlock = _; rw [hb, ← hne]⟩
      have := h.lt _ this
      omega
    · have h1 := key _ hk hne
      rw [Array.getElem?_eq_getElem hk] at h1
      have := (Array.getElem?_eq_some_iff.1 h1).1
      omega
theorem enterOwn {α : Type} {T : TypeId} {E : Enc α} {l : List α} {V : Value} {P : Program} {f : FuncId} {fn : Func} {c : Code} {N : Nat} {args : List Value} {w : World} {R : Ending → World → Prop} (hr : (rowE V T E l).holds w) (hf : P.funcs[f]? = some fn) (hb : fn.body = some c) (hN : fn.ntmps = N) (hle : Nat.ble args.length N = true)
    (h : Tr N (Bg.less w V) [rowE V T E l] (frameOf 0 args) (c.wp P (bodyPost P fn R))) (hN0 : Nat.ble N mk0 = true := by rfl) : Calls P f args.toArray w R :=
  calls_of_wp hf hb (h _ w (frameOf_ok (by rw [hN]; simp) hle hN0) (HpOK.startOwn hr))
section
variable {P : Program} {ops : Array Oper} {Q : Exit → Act → World → Prop} {N : Nat} {F : Bg} {L : List Ent} {M : Fr} {ty : TypeId} {pos : String} {after : Array Edge} {rest : List Oper} {d : Nat}
end
end Go.HL
namespace Go.HL
open Go Go.RowKit
section
variable {P : Program} {ops : Array Oper} {Q : Exit → Act → World → Prop} {N : Nat} {F : Bg} {L : List Ent} {M : Fr} {ty : TypeId} {pos : String} {after : Array Edge} {rest : List Oper} {d : Nat} {dst : Option Tmp} {g : Option (Nat × Bool)}
open Go.Lib (strCells strCells_length run_append_room_string run_append_grow_string)
/-- The bytes of a text. -/
def bts (s : ByteArray) : List UInt8 := s.data.toList
theorem bts_len (s : ByteArray) : (bts s).length = s.size := by rw [bts, Array.length_toList]; rfl
/-- A call that hands back a value with a new row in it. -/
theorem Tr.callRowF {α : Type} {E : Enc α} {l : List α} {T : TypeId} {f : FuncId} {xs : List Operand} {vs : List Value} {ts : Array TypeId} (φ : Value → Value) (hx : opvs M xs = some vs)
    (he : ∀ (args : Array Value) (w : World), (callFunc f args).run P w = .ok (.enter f args) w)
    (hc : ∀ w, HpOK F L w → Calls P f vs.toArray w fun e w' => ∃ V, e = .returned (φ V) ∧ Ext w w' ∧ NewRow w w' T E l V) (hd : Nat.ble (d + 1) N = true)
    (K : ∀ V, Tr N F (rowE V T E l :: L) ((d, φ V) :: M) (wpList P ops Q rest)) :
    Tr N F L M (wpList P ops Q (⟨some d, .call { callee := .value (.func f), args := xs.toArray, argTypes := ts }, ty, pos, after, none⟩ :: rest)) := by
  intro a w ha hw
  refine wpList_plain rfl fun K' hK => ?_
  have hr : (execOp a.eval ⟨some d, .call { callee := .value (.func f), args := xs.toArray, argTypes := ts }, ty, pos, after, none⟩).run P w = .ok (.enter f vs.toArray) w := by
    have := ha.evals hx
    simp [execOp, resolve, Deferred.ofValue, Act.eval, invoke, he, this]
  unfold Oper.wp
  rw [hr]
  refine (hc w hw).mono fun e w' ⟨V, h1, h2, h3⟩ => ?_
  subst h1
  exact hK _ _ (K V _ _ (ha.put (Nat.le_of_ble_eq_true hd)) (hw.newRow h2 h3))
end
end Go.HL
namespace Go.HL
open Go Go.RowKit
theorem HpOK.freeze {F : Bg} {L : List Ent} {w : World} (h : HpOK F L w) : ∃ F', F.le F' ∧ HpOK F' L w ∧ ∀ b o, b ∉ blks L → w.heap[b]? = some o → F'.blk b = some o := by
  refine ⟨{ F with blk := fun b => if b ∈ blks L then none else w.heap[b]? }, ⟨fun b o e => ?_, Nat.le_refl _, rfl, rfl, rfl, rfl, rfl⟩, ⟨h.os, h.tape, h.out, h.n, h.dr, fun b o e => ?_, h.ent, h.nodup, h.lt, fun b hb => ⟨?_, (h.sep b hb).2⟩⟩, fun b o hb e => ?_⟩
  · have hn : b ∉ blks L := fun hb => by rw [(h.sep b hb).1] at e; cases e
    show (if b ∈ blks L then none else w.heap[b]?) = some o
    rw [if_neg hn]; exact h.bg b o e
  · have e' : (if b ∈ blks L then none else w.heap[b]?) = some o := e
    split at e'
    · cases e'
    · exact e'
  · show (if b ∈ blks L then none else w.heap[b]?) = none
    rw [if_pos hb]
  · show (if b ∈ blks L then none else w.heap[b]?) = some o
    rw [if_neg hb]; exact e
/-- What lies in blocks that the world did not have before. -/
def newHp (w w' : World) : Hp := fun b => if b < w.heap.size then none else w'.heap[b]?
theorem newHp_bg {F F' : Bg} {L : List Ent} {w w' : World} (h : HpOK F L w) (hb : ∀ b o, b ∉ blks L → w'.heap[b]? = some o → F'.blk b = some o) : Hp.le (newHp w w') F'.blk := fun b o e => by
  unfold newHp at e; split at e
  · cases e
  · exact hb b o (fun hm => by have := h.lt b hm; omega) e
/-- A row made in a call reads in the new blocks. -/
theorem NewRow.sl {α : Type} {w w' : World} {T : TypeId} {E : Enc α} {l : List α} {V : Value} (h : NewRow w w' T E l V) : Sl (newHp w w') E l V := by
  obtain ⟨h1, h2⟩ := h
  rcases h1 with ⟨rfl, rfl⟩ | ⟨g, cap, cur, rfl, ho, k1, k2, k3, k4⟩
  · exact Sl.nil _ _
  · refine RowOK.sl (T := T) (.inr ⟨g, cap, cur, rfl, ?_, k1, k2, k3, k4⟩)
    have hg := h2 g rfl
    show newHp w w' g = _
    unfold newHp; rw [if_neg (by omega)]; exact ho
section
variable {P : Program} {ops : Array Oper} {Q : Exit → Act → World → Prop} {N : Nat} {F : Bg} {L : List Ent} {M : Fr} {dst : Option Tmp} {ty : TypeId} {pos : String} {after : Array Edge} {g : Option (Nat × Bool)} {rest : List Oper} {d : Nat}
/-- A row of one's own is only read from now on. -/
theorem Tr.frozen {α : Type} {V : Value} {T : TypeId} {E : Enc α} {l : List α} {L1 : List Ent} {X : Act → World → Prop} (hV : Del (rowE V T E l) L L1) (K : ∀ F', F.le F' → Sl F'.blk E l V → Tr N F' L1 M X) : Tr N F L M X := by
  intro a w ha hw
  have hf := hw.front hV
  have h1 : HpOK F L1 w := hf.mem (List.sublist_cons_self _ _)
  obtain ⟨F', e1, e2, e3⟩ := h1.freeze
  refine K F' e1 ?_ a w ha e2
  have hr : RowOK V T E l (V.ownBlock.bind (w.heap[·]?)) := hf.ent _ (.head _)
  rcases hr with ⟨rfl, rfl⟩ | ⟨gb, cap, cur, rfl, ho, k1, k2, k3, k4⟩
  · exact Sl.nil _ _
  · refine RowOK.sl (T := T) (.inr ⟨gb, cap, cur, rfl, ?_, k1, k2, k3, k4⟩)
    refine e3 gb _ ?_ ho
    have := hf.nodup
    rw [blks_some (b := gb) rfl, List.nodup_cons] at this
    exact this.1
/-- A call that hands back something new, which is only read from then on. -/
theorem Tr.callBg {ι : Type} {R : Hp → ι → Prop} (φ : ι → Value) {f : FuncId} {xs : List Operand} {vs : List Value} {ts : Array TypeId} (hR : ∀ h h' i, Hp.le h h' → R h i → R h' i) (hx : opvs M xs = some vs)
    (he : ∀ (args : Array Value) (w : World), (callFunc f args).run P w = .ok (.enter f args) w)
    (hc : ∀ w, HpOK F L w → Calls P f vs.toArray w fun e w' => ∃ i, e = .returned (φ i) ∧ Ext w w' ∧ R (newHp w w') i) (hd : Nat.ble (d + 1) N = true)
    (K : ∀ i F', F.le F' → R F'.blk i → Tr N F' L ((d, φ i) :: M) (wpList P ops Q rest)) :
    Tr N F L M (wpList P ops Q (⟨some d, .call { callee := .value (.func f), args := xs.toArray, argTypes := ts }, ty, pos, after, none⟩ :: rest)) := by
  intro a w ha hw
  refine wpList_plain rfl fun K' hK => ?_
  have hr : (execOp a.eval ⟨some d, .call { callee := .value (.func f), args := xs.toArray, argTypes := ts }, ty, pos, after, none⟩).run P w = .ok (.enter f vs.toArray) w := by
    have := ha.evals hx
    simp [execOp, resolve, Deferred.ofValue, Act.eval, invoke, he, this]
  unfold Oper.wp
  rw [hr]
  refine (hc w hw).mono fun e w' ⟨i, h1, h2, h3⟩ => ?_
  subst h1
  obtain ⟨F', e1, e2, e3⟩ := (hw.grow h2).freeze
  exact hK _ _ (K i F' e1 (hR _ _ _ (newHp_bg hw e3) h3) _ _ (ha.put (Nat.le_of_ble_eq_true hd)) e2)
structure NewEnts (w w' : World) (Ls : List Ent) : Prop where
  ent : ∀ e ∈ Ls, e.holds w'
  nodup : (blks Ls).Nodup
  lt : ∀ b ∈ blks Ls, b < w'.heap.size
  ge : ∀ b ∈ blks Ls, w.heap.size ≤ b
theorem HpOK.newEnts {w w' : World} {Ls : List Ent} (h : HpOK F L w) (hx : Ext w w') (hn : NewEnts w w' Ls) : HpOK F (Ls ++ L) w' := by
  have hg := h.grow hx
  have hbl : blks (Ls ++ L) = blks Ls ++ blks L := List.filterMap_append
  refine ⟨hg.os, hg.tape, hg.out, hg.n, hg.dr, hg.bg, fun e he => ?_, ?_, fun b hb => ?_, fun b hb => ?_⟩
  · rcases List.mem_append.1 he with he | he
    · exact hn.ent e he
    · exact hg.ent e he
  · rw [hbl, List.nodup_append]
    exact ⟨hn.nodup, hg.nodup, fun a ha b hb => by have := hn.ge a ha; have := h.lt b hb; omega⟩
  · rw [hbl] at hb
    rcases List.mem_append.1 hb with hb | hb
    · exact hn.lt b hb
    · exact hg.lt b hb
  · rw [hbl] at hb
    rcases List.mem_append.1 hb with hb | hb
    · have hge := hn.ge b hb
      refine ⟨?_, Nat.le_trans (Nat.le_trans F.lo_le h.n) hge⟩
      cases hF : F.blk b with
      | none => rfl
      | some o =>
        have := h.bg _ _ hF
        have := (Array.getElem?_eq_some_iff.1 this).1
        omega
    · exact hg.sep b hb
theorem HpOK.ents {w w' : World} {Ls : List Ent} (h : HpOK F L w') (hF : (Bg.of w).le F) (hs : Pick L Ls) : NewEnts w w' Ls := by
  have h' := hs.heap h
  refine ⟨h'.ent, h'.nodup, h'.lt, fun b hb => ?_⟩
  have := (h'.sep b hb).2
  rw [hF.lo] at this; exact this
/-- A call that hands back a value with many new rows in it. -/
theorem Tr.callEnts {ι : Type} (φ : ι → Value) (Ls : ι → List Ent) {ok : ι → Prop} {f : FuncId} {xs : List Operand} {vs : List Value} {ts : Array TypeId} (hx : opvs M xs = some vs)
    (he : ∀ (args : Array Value) (w : World), (callFunc f args).run P w = .ok (.enter f args) w)
    (hc : ∀ w, HpOK F L w → Calls P f vs.toArray w fun e w' => ∃ i, e = .returned (φ i) ∧ Ext w w' ∧ NewEnts w w' (Ls i) ∧ ok i) (hd : Nat.ble (d + 1) N = true)
    (K : ∀ i, ok i → Tr N F (Ls i ++ L) ((d, φ i) :: M) (wpList P ops Q rest)) :
    Tr N F L M (wpList P ops Q (⟨some d, .call { callee := .value (.func f), args := xs.toArray, argTypes := ts }, ty, pos, after, none⟩ :: rest)) := by
  intro a w ha hw
  refine wpList_plain rfl fun K' hK => ?_
  have hr : (execOp a.eval ⟨some d, .call { callee := .value (.func f), args := xs.toArray, argTypes := ts }, ty, pos, after, none⟩).run P w = .ok (.enter f vs.toArray) w := by
    have := ha.evals hx
    simp [execOp, resolve, Deferred.ofValue, Act.eval, invoke, he, this]
  unfold Oper.wp
  rw [hr]
  refine (hc w hw).mono fun e w' ⟨i, h1, h2, h3, h4⟩ => ?_
  subst h1
  exact hK _ _ (K i h4 _ _ (ha.put (Nat.le_of_ble_eq_true hd)) (hw.newEnts h2 h3))
open Go.Lib in
theorem Tr.strBytes {x : Operand} {s t e : TypeId} {u : TypeDesc} {b : ByteArray} (hx : opv M x = some (.string b)) (hs : P.underlying s = some u) (ht : P.underlying t = some (.slice e)) (he : P.underlying e = some (.int .u8)) (hb : b.size ≤ maxLen) (hd : Nat.ble (d + 1) N = true)
    (K : ∀ V F', F.le F' → Sl F'.blk encU8 (bts b) V → Tr N F' L ((d, V) :: M) (wpList P ops Q rest)) : Tr N F L M (wpList P ops Q (⟨some d, .convert s t x, ty, pos, after, none⟩ :: rest)) := by
  intro a w ha hw
  refine wpList_plain rfl fun K' hK => ?_
  have hr := Go.Lib.run_convert_string_bytes (P := P) w s t e b hs ht he
  have hge := grownCap_ge w b.size 0 e
  have hx2 : Ext w (bytesWorld w e b) := ⟨⟨rfl, rfl, rfl, by rw [bytesWorld_size]; omega, fun k hk => bytesWorld_at_old w e b k hk⟩, by simp [bytesWorld, World.freeze]⟩
  obtain ⟨F', e1, e2, e3⟩ := (hw.grow hx2).freeze
  have hnew := e3 w.heap.size _ (fun hm => by have := hw.lt _ hm; omega) (bytesWorld_at_new w e b)
  unfold Oper.wp
  simp only [execOp, ha.eval hx, Sem.run_bind, hr, Result.andThen_ok, Sem.run_pure, Oper.upon]
  refine hK _ _ (K _ F' e1 ?_ _ _ (ha.put (Nat.le_of_ble_eq_true hd)) e2)
  have hl := bts_len b
  refine ⟨⟨some ⟨w.heap.size, 0, none⟩, grownCap w b.size 0 e, by rw [hl], by rw [hl]; exact hge, grownCap_le_maxLen w _ 0 e hb, fun _ => rfl⟩, fun i x hi => ⟨_, _, _, hnew, fun j v hj => ?_⟩⟩
  have hi' : i < b.size := by rw [← hl]; exact (List.getElem?_eq_some_iff.1 hi).1
  have hj' : j = 0 := by have := (List.getElem?_eq_some_iff.1 hj).1; simp [encU8] at this; exact this
  subst hj'
  simp only [encU8, List.getElem?_cons_zero, Option.some.injEq] at hj
  subst hj
  have hi2 : b.data[i]? = some x := by
    rw [← Array.getElem?_toList]; exact hi
  have hi3 : i < b.data.size := hi'
  simp [bytesCells, ofs, encU8, Array.getElem?_append, hi2, hi3]
  intro h; omega
def CellsIn (h : Hp) (b : Nat) (vs : List Value) : Prop := ∃ (cs : Array Value) (T : TypeId) (fz : Nat × Nat), h b = some (.cells cs T fz) ∧ ∀ (j : Nat) (v : Value), vs[j]? = some v → cs[j]? = some v
theorem CellsIn.mono {h k : Hp} {b : Nat} {vs : List Value} (c : CellsIn h b vs) (hk : Hp.le h k) : CellsIn k b vs := let ⟨cs, T, fz, h1, h2⟩ := c; ⟨cs, T, fz, hk _ _ h1, h2⟩
theorem cellE.cellsIn {b : Nat} {cs : List Value} {T : TypeId} {w w' : World} (h : (cellE b cs T).holds w) (hx : Ext w w') : CellsIn (HL.hp w') b cs :=
  CellsIn.mono (h := HL.hp w) ⟨cs.toArray, T, (0, 0), h, fun j v hv => by simpa using hv⟩ hx.hp
theorem CellsIn.cell {h : Hp} {b : Nat} {vs : List Value} (c : CellsIn h b vs) {j : Nat} {v : Value} (hv : vs[j]? = some v) : Cell h b j v := let ⟨cs, T, fz, h1, h2⟩ := c; ⟨cs, T, fz, h1, h2 j v hv⟩
theorem QS.loadCA {x : Operand} {t : TypeId} {b k : Nat} {vs : List Value} (hx : opv M x = some (.pointer (some ⟨b, 0, none⟩))) (hc : CellsIn F.blk b vs) (hagg : ∀ w, (isAgg t).run P w = .ok true w) (hz : ∀ w, (sizeOf t).run P w = .ok k w) (hl : vs.length = k) :
    QS P N F L M ⟨dst, .load t x, ty, pos, after, g⟩ (.agg vs.toArray) :=
  QS.loadA hx hagg hz hl fun w hw j v hj => by
    rw [Nat.zero_add]; exact ((hc.mono hw.bg).cell hj).at
theorem QS.loadCF {x : Operand} {t : TypeId} {b o : Nat} {v : Value} {vs : List Value} (hx : opv M x = some (.pointer (some ⟨b, o, none⟩))) (hc : CellsIn F.blk b vs) (hagg : ∀ w, (isAgg t).run P w = .ok false w) (hv : vs[o]? = some v) :
    QS P N F L M ⟨dst, .load t x, ty, pos, after, g⟩ v :=
  QS.load1 hx hagg fun w hw => ((hc.mono hw.bg).cell hv).at
theorem Tr.sliceFullN {α : Type} {E : Enc α} {xs : List α} {x hi mx : Operand} {t e T : TypeId} {V : Value} {k : Nat} {n : Int} {L1 : List Ent} (hx : opv M x = some V) (hV : Del (rowE V T E xs) L L1) (hhi : opv M hi = some (.int .i64 n)) (hmx : opv M mx = some (.int .i64 n)) (hn : n = (xs.length : Nat))
    (ht : P.underlying t = some (.slice e)) (hz : ∀ w, (sizeOf e).run P w = .ok k w) (hd : Nat.ble (d + 1) N = true)
    (K : ∀ V', Tr N F (rowE V' T E xs :: L1) ((d, V') :: M) (wpList P ops Q rest)) : Tr N F L M (wpList P ops Q (⟨some d, .slice t x none (some hi) (some mx), ty, pos, after, none⟩ :: rest)) := by
  subst hn; exact Tr.sliceFull hx hV hhi hmx ht hz hd K
theorem Pick.refl : ∀ L : List Ent, Pick L L
  | [] => .nil _
  | e :: L => .cons (.here _) (Pick.refl L)
theorem NewEnts.row {α : Type} {w w' : World} {Ls : List Ent} {V : Value} {T : TypeId} {E : Enc α} {l : List α} (h : NewEnts w w' Ls) (hm : rowE V T E l ∈ Ls) : NewRow w w' T E l V :=
  ⟨h.ent _ hm, fun b hb => h.ge b (List.mem_filterMap.2 ⟨_, hm, hb⟩)⟩
/-- What a row's slice value is like. -/
theorem Tr.rowShape {α : Type} {V : Value} {T : TypeId} {E : Enc α} {l : List α} {X : Act → World → Prop} (hm : rowE V T E l ∈ L) (K : ∀ a c, V = .slice a l.length c → Tr N F L M X) : Tr N F L M X := by
  intro a w ha hw
  have hr : RowOK V T E l (V.ownBlock.bind (w.heap[·]?)) := hw.ent _ hm
  rcases hr with ⟨h1, h2⟩ | ⟨gb, cap, cur, h1, _⟩
  · exact K none 0 (by rw [h1, h2]; rfl) a w ha hw
  · exact K _ _ h1 a w ha hw
end
end Go.HL
namespace Go.HL
open Go
/-- A section, and where its bytes lie. -/
structure SecV where
  name : ByteArray
  addr : UInt32
  data : List UInt8
  dp : Option Addr
  dc : Nat
  wr : Bool
  ex : Bool
  deriving Inhabited
def encSec : Enc SecV := ⟨5, fun s => [.string s.name, .int .u32 s.addr.toNat, .slice s.dp s.data.length s.dc, .bool s.wr, .bool s.ex], fun _ => rfl,
  fun x v h => by simp at h; rcases h with h | h | h | h | h <;> subst h <;> rfl⟩
structure Sec where
  name : ByteArray
  addr : UInt32
  data : List UInt8
  wr : Bool
  ex : Bool
  deriving DecidableEq, Inhabited
def SecV.pl (s : SecV) : Sec := ⟨s.name, s.addr, s.data, s.wr, s.ex⟩
/-- The sections' bytes read. -/
def DataIn (h : Hp) (l : List SecV) : Prop := ∀ s ∈ l, Sl h encU8 s.data (.slice s.dp s.data.length s.dc)
theorem DataIn.mono {h h' : Hp} {l : List SecV} (d : DataIn h l) (hh : Hp.le h h') : DataIn h' l := fun s hs => (d s hs).mono hh
/-- Not too much. -/
def SecB (l : List SecV) : Prop := l.length ≤ 1000 ∧ ∀ s ∈ l, s.data.length ≤ 200000
theorem SecB.at {l : List SecV} (h : SecB l) {k : Nat} (hk : k < l.length) : (l.getD k default).data.length ≤ 200000 := h.2 _ (mem_getD hk)
def lowB (c : UInt8) : Bool := decide (c < 97) || decide (122 < c)
def uppB (c : UInt8) : Bool := decide (c < 65) || decide (90 < c)
def digB (c : UInt8) : Bool := decide (c < 48) || decide (57 < c)
/-- No sign of a name. -/
def badB (c : UInt8) : Bool := (((lowB c && uppB c) && digB c) && decide (c ≠ 95)) && decide (c ≠ 46)
def nameP (s : ByteArray) : Bool := !(bts s).any badB && (decide (1 ≤ (s.size : Int)) && decide ((s.size : Int) ≤ 32))
def endP (s : SecV) : Int := min ((s.addr.toNat : Int) + s.data.length) 4294967295
def spaceP (s : SecV) : Rng := ⟨s.addr, u32 (endP s)⟩
theorem endP_rng (s : SecV) : 0 ≤ endP s ∧ endP s ≤ 4294967295 := by unfold endP; omega
theorem u32_val {n : Int} (h : 0 ≤ n ∧ n ≤ 4294967295) : ((u32 n).toNat : Int) = n := by
  unfold u32; rw [UInt32.toNat_ofNat']; omega
theorem space_hi (s : SecV) : ((spaceP s).hi.toNat : Int) = endP s := u32_val (endP_rng s)
def inS (a : UInt32) (s : SecV) : Bool := inR a (spaceP s)
theorem inS_iff {a : UInt32} {s : SecV} : inS a s = true ↔ s.addr.toNat ≤ a.toNat ∧ (a.toNat : Int) < endP s := by
  have h := space_hi s
  simp only [inS, inR, Bool.and_eq_true, decide_eq_true_eq, UInt32.le_iff_toNat_le, UInt32.lt_iff_toNat_lt]
  have : (spaceP s).lo = s.addr := rfl
  rw [this]; omega
def findP (l : List SecV) (a : UInt32) : Int := idxP (inS a) 0 l
theorem idxP_bound {α : Type} (p : α → Bool) : ∀ (l : List α) (k : Nat), -1 ≤ idxP p k l ∧ idxP p k l < (k : Int) + l.length
  | [], k => by simp [idxP]; omega
  | x :: l, k => by
    unfold idxP
    split
    · simp; omega
    · have := idxP_bound p l (k + 1); simp; omega
theorem findP_lt {l : List SecV} {a : UInt32} : -1 ≤ findP l a ∧ findP l a < l.length := by
  have := idxP_bound (inS a) l 0; unfold findP; omega
theorem idxP_at {α : Type} [Inhabited α] (p : α → Bool) : ∀ (l : List α) (k : Nat), 0 ≤ idxP p k l → (k : Int) ≤ idxP p k l ∧ p (l.getD (idxP p k l - k).toNat default) = true
  | [], k, h => by simp [idxP] at h
  | x :: l, k, h => by
    unfold idxP at h ⊢
    split
    · rename_i hx; simp [hx]
    · rename_i hx
      rw [if_neg hx] at h
      obtain ⟨h1, h2⟩ := idxP_at p l (k + 1) h
      refine ⟨by omega, ?_⟩
      rw [show (idxP p (k + 1) l - (k : Int)).toNat = (idxP p (k + 1) l - ((k + 1 : Nat) : Int)).toNat + 1 by omega, List.getD_cons_succ]
      exact h2
theorem findP_in {l : List SecV} {a : UInt32} (h : 0 ≤ findP l a) : inS a (l.getD (findP l a).toNat default) = true := by
  have := (idxP_at (inS a) l 0 h).2
  rwa [Int.natCast_zero, Int.sub_zero] at this
/-- The section that findP says, and how far a lies in it. -/
def placeP (l : List SecV) (a : UInt32) (n : Int) : Int × Int × Int :=
  if findP l a < 0 then (0, 0, 11) else if endP (l.getD (findP l a).toNat default) - a.toNat < n then (0, 0, 11) else (findP l a, (a.toNat : Int) - (l.getD (findP l a).toNat default).addr.toNat, 0)
theorem placeP_1 {l : List SecV} {a : UInt32} {n : Int} (h : findP l a < 0) : placeP l a n = (0, 0, 11) := by unfold placeP; rw [if_pos h]
theorem placeP_2 {l : List SecV} {a : UInt32} {n : Int} (h : ¬ findP l a < 0) (h2 : endP (l.getD (findP l a).toNat default) - a.toNat < n) : placeP l a n = (0, 0, 11) := by unfold placeP; rw [if_neg h, if_pos h2]
theorem placeP_3 {l : List SecV} {a : UInt32} {n : Int} (h : ¬ findP l a < 0) (h2 : ¬ endP (l.getD (findP l a).toNat default) - a.toNat < n) : placeP l a n = (findP l a, (a.toNat : Int) - (l.getD (findP l a).toNat default).addr.toNat, 0) := by unfold placeP; rw [if_neg h, if_neg h2]
theorem place_left {l : List SecV} {a : UInt32} (h : ¬ findP l a < 0) : (((spaceP (l.getD (findP l a).toNat default)).hi - a).toNat : Int) = endP (l.getD (findP l a).toNat default) - a.toNat := by
  have h1 := inS_iff.1 (findP_in (l := l) (a := a) (by omega))
  have h2 := space_hi (l.getD (findP l a).toNat default)
  rw [UInt32.toNat_sub_of_le]
  · omega
  · rw [UInt32.le_iff_toNat_le]; omega
theorem place_at {l : List SecV} {a : UInt32} (h : ¬ findP l a < 0) : ((a - (l.getD (findP l a).toNat default).addr).toNat : Int) = (a.toNat : Int) - (l.getD (findP l a).toNat default).addr.toNat := by
  have h1 := inS_iff.1 (findP_in (l := l) (a := a) (by omega))
  rw [UInt32.toNat_sub_of_le]
  · omega
  · rw [UInt32.le_iff_toNat_le]; omega
/-- What place hands back lies in the section. -/
theorem placeP_ok {l : List SecV} {a : UInt32} {n : Int} (h : (placeP l a n).2.2 = 0) : 0 ≤ (placeP l a n).1 ∧ (placeP l a n).1 < l.length ∧ (placeP l a n).1 = findP l a ∧ 0 ≤ (placeP l a n).2.1 ∧ (placeP l a n).2.1 + n ≤ (l.getD (placeP l a n).1.toNat default).data.length := by
  unfold placeP at h ⊢
  split at h
  · cases h
  · rename_i h1
    split at h
    · cases h
    · rename_i h2
      rw [if_neg h1, if_neg h2]
      have h3 := inS_iff.1 (findP_in (l := l) (a := a) (by omega))
      have h4 := findP_lt (l := l) (a := a)
      refine ⟨by omega, by omega, rfl, by dsimp only; omega, ?_⟩
      dsimp only
      unfold endP at h2 h3; omega
def readP (l : List SecV) (a : UInt32) (n : Int) : List UInt8 × Int :=
  if n < 0 then ([], 2) else if n = 0 then ([], 0) else if (placeP l a n).2.2 ≠ 0 then ([], (placeP l a n).2.2)
  else (((l.getD (placeP l a n).1.toNat default).data.take ((placeP l a n).2.1 + n).toNat).drop (placeP l a n).2.1.toNat, 0)
/-- A list of sections made anew. -/
def SecsAt (h : Hp) (ls : List Sec) (V : Value) : Prop := ∃ l, Sl h encSec l V ∧ DataIn h l ∧ l.map SecV.pl = ls
theorem SecsAt.mono {h h' : Hp} {ls : List Sec} {V : Value} (s : SecsAt h ls V) (hh : Hp.le h h') : SecsAt h' ls V := let ⟨l, a, b, c⟩ := s; ⟨l, a.mono hh, b.mono hh, c⟩
def meetP (a b : Rng) : Bool := decide ((if a.lo < b.lo then b.lo else a.lo) < (if b.hi < a.hi then b.hi else a.hi))
def stackP : Rng := ⟨978944, 983040⟩
/-- The first error of a section after others. -/
def oneP (l : List SecV) (i : Nat) : Int :=
  let s := l.getD i default
  if (s.data.length : Int) > 65536 then 6 else if nameP s.name = false then 3 else if (l.take i).any (fun x => decide (x.name = s.name)) = true then 8
  else if (s.addr.toNat : Int) + s.data.length > 4294967295 ∨ meetP (spaceP s) stackP = true then 7 else 0
def firstP (f : Nat → Int) : Nat → Nat → Int
  | _, 0 => 0
  | i, n + 1 => if f i ≠ 0 then f i else firstP f (i + 1) n
def overP (l : List SecV) (i : Nat) : Bool := (l.take i).any fun x => meetP (spaceP x) (spaceP (l.getD i default))
def checkS (l : List SecV) : Int :=
  if (l.length : Int) > 16 then 6 else if firstP (oneP l) 0 l.length ≠ 0 then firstP (oneP l) 0 l.length
  else firstP (fun i => if overP l i = true then 10 else 0) 0 l.length
theorem any_take_succ {α : Type} [Inhabited α] {p : α → Bool} {l : List α} {k : Nat} (h : k < l.length) : (l.take (k + 1)).any p = ((l.take k).any p || p (l.getD k default)) := by
  rw [take_succ h, List.any_append]; simp
theorem any_take_all {α : Type} {p : α → Bool} {l : List α} {k : Nat} (h : l.length ≤ k) : (l.take k).any p = l.any p := by rw [List.take_of_length_le h]
theorem nameP_bad {s : ByteArray} {k : Nat} (hk : k < s.size) (hb : badB ((bts s).getD k default) = true) : nameP s = false := by
  have h1 : (bts s).any badB = true := List.any_eq_true.2 ⟨_, mem_getD (by rw [bts_len]; exact hk), hb⟩
  unfold nameP; rw [h1]; rfl
theorem nameP_end {s : ByteArray} {k : Nat} (hk : s.size ≤ k) (h : ((bts s).take k).any badB = false) : nameP s = (decide (1 ≤ (s.size : Int)) && decide ((s.size : Int) ≤ 32)) := by
  rw [any_take_all (by rw [bts_len]; exact hk)] at h
  unfold nameP; rw [h]; rfl
theorem firstP_hit {f : Nat → Int} {k n : Nat} (hn : 0 < n) (h : f k ≠ 0) : firstP f k n = f k := by
  obtain ⟨m, rfl⟩ : ∃ m, n = m + 1 := ⟨n - 1, by omega⟩
  unfold firstP; rw [if_pos h]
theorem firstP_next {f : Nat → Int} {k n : Nat} (hk : k < n) (h : f k = 0) : firstP f (k + 1) (n - (k + 1)) = firstP f k (n - k) := by
  obtain ⟨m, hm⟩ : ∃ m, n - k = m + 1 := ⟨n - k - 1, by omega⟩
  rw [hm, show n - (k + 1) = m by omega]
  conv => rhs; unfold firstP
  rw [if_neg (by simp [h])]
theorem check_0 {l : List SecV} (h : (16 : Int) < l.length) : checkS l = 6 := by unfold checkS; rw [if_pos h]
theorem check_1 {l : List SecV} {k : Nat} {v : Int} (hl : ¬ (16 : Int) < l.length) (hk : k < l.length) (hi : firstP (oneP l) k (l.length - k) = firstP (oneP l) 0 l.length) (h : oneP l k = v) (hv : v ≠ 0) : checkS l = v := by
  rw [firstP_hit (by omega) (by rw [h]; exact hv), h] at hi
  unfold checkS; rw [if_neg hl, ← hi, if_pos hv]
theorem check_2 {l : List SecV} {k : Nat} (hl : ¬ (16 : Int) < l.length) (h1 : firstP (oneP l) 0 l.length = 0) (hk : k < l.length) (hi : firstP (fun i => if overP l i = true then 10 else 0) k (l.length - k) = firstP (fun i => if overP l i = true then 10 else 0) 0 l.length) (h : overP l k = true) : checkS l = 10 := by
  rw [firstP_hit (by omega) (by rw [if_pos h]; decide), if_pos h] at hi
  unfold checkS; rw [if_neg hl, if_neg (by simp [h1]), ← hi]
theorem check_3 {l : List SecV} (hl : ¬ (16 : Int) < l.length) (h1 : firstP (oneP l) 0 l.length = 0) (h2 : firstP (fun i => if overP l i = true then 10 else 0) 0 l.length = 0) : checkS l = 0 := by
  unfold checkS; rw [if_neg hl, if_neg (by simp [h1]), h2]
theorem firstP_zero {f : Nat → Int} {k n : Nat} (hk : n ≤ k) : firstP f k (n - k) = 0 := by rw [show n - k = 0 by omega]; rfl
def dRow (U : TypeId) (s : SecV) : Ent := rowE (.slice s.dp s.data.length s.dc) U encU8 s.data
def secEnts (T U : TypeId) (V : Value) (l : List SecV) : List Ent := rowE V T encSec l :: l.reverse.map (dRow U)
theorem SecsAt.nil {h : Hp} : SecsAt h [] (.slice none 0 0) := ⟨[], Sl.nil _ _, fun s hs => (by simp at hs), rfl⟩
theorem drow_step {U : TypeId} {xs : List SecV} {k : Nat} {x : SecV} (h : k < xs.length) : ((xs.set k x).take (k + 1)).reverse.map (dRow U) = dRow U x :: (xs.take k).reverse.map (dRow U) := by
  rw [List.take_succ_eq_append_getElem (by simpa using h)]
  simp [List.reverse_append, List.take_set]
  exact List.set_eq_of_length_le (by simp; omega)
theorem map_set_pl {xs : List SecV} {k : Nat} {x : SecV} (h : k < xs.length) (hx : x.pl = (xs.getD k default).pl) : (xs.set k x).map SecV.pl = xs.map SecV.pl := by
  rw [List.map_set, hx]
  apply List.ext_getElem?
  intro j
  rw [List.getElem?_set]
  split
  · rename_i e; subst e
    simp [h, List.getD_eq_getElem?_getD]
  · rfl
theorem map_pl_len {xs ys : List SecV} (h : xs.map SecV.pl = ys.map SecV.pl) : xs.length = ys.length := by simpa using congrArg List.length h
theorem getD_set_ne' {xs : List SecV} {k j : Nat} {x : SecV} (h : k ≠ j) : (xs.set k x).getD j default = xs.getD j default := by
  simp [List.getD_eq_getElem?_getD, List.getElem?_set_ne h]
end Go.HL
namespace Go.Proofs.Ytfnedefgepjbpaa
open Go Go.HL Go.RowKit
set_option maxRecDepth 100000 in
set_option maxHeartbeats 2000000 in
theorem name_any (s : ByteArray) (w : World) (hs : s.size ≤ 9223372036854775807) :
    Calls Try.prog 41 #[.string s] w (fun e w' => e = .returned (.bool (nameP s)) ∧ Ext w w') := by
  have hbl := bts_len s
  refine enter Try.func41 rfl Try.ntmps41 rfl ?_
  refine Tr.seq ?_
  refine Tr.region ?_
  refine Tr.q (QS.assign rfl) rfl ?_
  refine Tr.nil ?_
  refine Tr.thenN ?_
  refine Tr.seq ?_
  refine Tr.seq ?_
  refine Tr.region ?_
  refine Tr.q (QS.move rfl) rfl ?_
  refine Tr.strBytes rfl Try.underlying9 Try.underlying54 Try.underlying5 (by unfold maxLen; omega) rfl (fun V1 F1 hF1 hV1 => ?_)
  refine Tr.q (QS.len rfl (by assumption) Try.underlying54) rfl ?_
  refine Tr.q (QS.move rfl) rfl ?_
  refine Tr.nil ?_
  refine Tr.thenN ?_
  refine Tr.block ?_
  refine Tr.loop (ι := Nat) (fun k => k ≤ s.size ∧ ((bts s).take k).any badB = false) (fun _ => _) (fun k => []) (fun k => [(8, .int .i64 (k : Nat))]) (fun k => s.size - k) 0 ⟨Nat.zero_le _, rfl⟩ (.cons (by first | rfl | exact lookI rfl (by omega) | exact lookI rfl (by simp) | exact lookB rfl (by simp)) Front.nil) (by repeat' (first | exact Pick.nil _ | exact Del.here _ | apply Pick.cons | apply Del.there)) rfl (fun k hi m hm => ?_)
  replace hi : k ≤ s.size ∧ ((bts s).take k).any badB = false := hi
  replace hm : m = s.size - k := hm
  change Tr _ _ [] ([(8, .int .i64 (k : Nat))] ++ _) _
  obtain ⟨hk1, hk2⟩ := hi
  refine Tr.seq ?_
  refine Tr.region ?_
  refine Tr.q (QS.lss rfl rfl) rfl ?_
  refine Tr.nil ?_
  refine Tr.thenN ?_
  refine Tr.seq ?_
  refine Tr.cond rfl (fun h2 => ?_) (fun h2 => ?_)
  · try simp only [bs] at h2
    refine Tr.skip ?_
    refine Tr.thenN ?_
    refine Tr.seq ?_
    refine Tr.block ?_
    refine Tr.seq ?_
    refine Tr.region ?_
    refine Tr.q (QS.idxN rfl rfl (by assumption) Try.underlying54 Try.sizeOf5 (by rfl) (by omega)) rfl ?_
    refine Tr.q (QS.el1 rfl (by assumption) Try.isAgg5 (by omega) (by rfl)) rfl ?_
    refine Tr.q (QS.assign rfl) rfl ?_
    refine Tr.nil ?_
    refine Tr.thenN ?_
    refine Tr.seq ?_
    refine Tr.region ?_
    refine Tr.q (QS.move rfl) rfl ?_
    refine Tr.q (QS.lss8 (n := 97) rfl rfl) rfl ?_
    refine Tr.q (QS.move rfl) rfl ?_
    apply Tr.orP
    · exact (rfl : _ = (3, 14, 17))
    · exact rfl
    · intro hF3; have hF3' := hF3
      try simp only [bs] at hF3'
      refine Tr.gq rfl rfl hF3 (QS.move rfl) rfl ?_
      refine Tr.gq rfl rfl hF3 (QS.gtr8 (n := 122) rfl rfl) rfl ?_
      refine Tr.q (QS.pickF rfl hF3 rfl) rfl ?_
      refine Tr.nil (Tr.thenN ?_)
      exact Tr.endX (Sub.cons rfl (Sub.dropN 3 (by kernel_rfl) rfl))
    · intro hT3
      refine Tr.gskip rfl rfl hT3 rfl ?_
      refine Tr.gskip rfl rfl hT3 rfl ?_
      refine Tr.q (QS.pickT rfl hT3 rfl) rfl ?_
      refine Tr.nil (Tr.thenN ?_)
      exact Tr.endX (Sub.cons rfl (Sub.dropN 3 (by kernel_rfl) rfl))
    refine Tr.q (QS.move rfl) rfl ?_
    apply Tr.andP
    · exact (rfl : _ = (7, 18, 25))
    · exact rfl
    · intro hT4; have hT4' := hT4
      try simp only [bs] at hT4'
      refine Tr.gq rfl rfl hT4 (QS.move rfl) rfl ?_
      refine Tr.gq rfl rfl hT4 (QS.lss8 (n := 65) rfl rfl) rfl ?_
      refine Tr.gq rfl rfl hT4 (QS.move rfl) rfl ?_
      apply Tr.orP
      · exact (rfl : _ = (3, 21, 24))
      · exact rfl
      · intro hF5; have hF5' := hF5
        try simp only [bs] at hF5'
        refine Tr.gq rfl rfl hF5 (QS.move rfl) rfl ?_
        refine Tr.gq rfl rfl hF5 (QS.gtr8 (n := 90) rfl rfl) rfl ?_
        refine Tr.gq rfl rfl hT4 (QS.pickF rfl hF5 rfl) rfl ?_
        refine Tr.nil (Tr.thenN ?_)
        exact Tr.endX (Sub.cons rfl (Sub.dropN 3 (by kernel_rfl) rfl))
      · intro hT5
        refine Tr.gskip rfl rfl hT5 rfl ?_
        refine Tr.gskip rfl rfl hT5 rfl ?_
        refine Tr.gq rfl rfl hT4 (QS.pickT rfl hT5 rfl) rfl ?_
        refine Tr.nil (Tr.thenN ?_)
        exact Tr.endX (Sub.cons rfl (Sub.dropN 3 (by kernel_rfl) rfl))
      refine Tr.q (QS.pickT rfl hT4 rfl) rfl ?_
      refine Tr.nil (Tr.thenN ?_)
      exact Tr.endX (Sub.cons rfl (Sub.dropN 5 (by kernel_rfl) rfl))
    · intro hF4
      refine Tr.gskip rfl rfl hF4 rfl ?_
      refine Tr.gskip rfl rfl hF4 rfl ?_
      refine Tr.gskip rfl rfl hF4 rfl ?_
      refine Tr.gskipU rfl rfl rfl ?_
      refine Tr.gskipU rfl rfl rfl ?_
      refine Tr.gskip rfl rfl hF4 rfl ?_
      refine Tr.q (QS.pickF rfl hF4 rfl) rfl ?_
      refine Tr.nil (Tr.thenN ?_)
      exact Tr.endX (Sub.cons rfl (Sub.dropN 7 (by kernel_rfl) rfl))
    refine Tr.q (QS.move rfl) rfl ?_
    apply Tr.andP
    · exact (rfl : _ = (7, 26, 33))
    · exact rfl
    · intro hT6; have hT6' := hT6
      try simp only [bs] at hT6'
      refine Tr.gq rfl rfl hT6 (QS.move rfl) rfl ?_
      refine Tr.gq rfl rfl hT6 (QS.lss8 (n := 48) rfl rfl) rfl ?_
      refine Tr.gq rfl rfl hT6 (QS.move rfl) rfl ?_
      apply Tr.orP
      · exact (rfl : _ = (3, 29, 32))
      · exact rfl
      · intro hF7; have hF7' := hF7
        try simp only [bs] at hF7'
        refine Tr.gq rfl rfl hF7 (QS.move rfl) rfl ?_
        refine Tr.gq rfl rfl hF7 (QS.gtr8 (n := 57) rfl rfl) rfl ?_
        refine Tr.gq rfl rfl hT6 (QS.pickF rfl hF7 rfl) rfl ?_
        refine Tr.nil (Tr.thenN ?_)
        exact Tr.endX (Sub.cons rfl (Sub.dropN 3 (by kernel_rfl) rfl))
      · intro hT7
        refine Tr.gskip rfl rfl hT7 rfl ?_
        refine Tr.gskip rfl rfl hT7 rfl ?_
        refine Tr.gq rfl rfl hT6 (QS.pickT rfl hT7 rfl) rfl ?_
        refine Tr.nil (Tr.thenN ?_)
        exact Tr.endX (Sub.cons rfl (Sub.dropN 3 (by kernel_rfl) rfl))
      refine Tr.q (QS.pickT rfl hT6 rfl) rfl ?_
      refine Tr.nil (Tr.thenN ?_)
      exact Tr.endX (Sub.cons rfl (Sub.dropN 5 (by kernel_rfl) rfl))
    · intro hF6
      refine Tr.gskip rfl rfl hF6 rfl ?_
      refine Tr.gskip rfl rfl hF6 rfl ?_
      refine Tr.gskip rfl rfl hF6 rfl ?_
      refine Tr.gskipU rfl rfl rfl ?_
      refine Tr.gskipU rfl rfl rfl ?_
      refine Tr.gskip rfl rfl hF6 rfl ?_
      refine Tr.q (QS.pickF rfl hF6 rfl) rfl ?_
      refine Tr.nil (Tr.thenN ?_)
      exact Tr.endX (Sub.cons rfl (Sub.dropN 7 (by kernel_rfl) rfl))
    refine Tr.q (QS.move rfl) rfl ?_
    apply Tr.andP
    · exact (rfl : _ = (3, 34, 37))
    · exact rfl
    · intro hT8; have hT8' := hT8
      try simp only [bs] at hT8'
      refine Tr.gq rfl rfl hT8 (QS.move rfl) rfl ?_
      refine Tr.gq rfl rfl hT8 (QS.neq8 (n := 95) rfl rfl) rfl ?_
      refine Tr.q (QS.pickT rfl hT8 rfl) rfl ?_
      refine Tr.nil (Tr.thenN ?_)
      exact Tr.endX (Sub.cons rfl (Sub.dropN 3 (by kernel_rfl) rfl))
    · intro hF8
      refine Tr.gskip rfl rfl hF8 rfl ?_
      refine Tr.gskip rfl rfl hF8 rfl ?_
      refine Tr.q (QS.pickF rfl hF8 rfl) rfl ?_
      refine Tr.nil (Tr.thenN ?_)
      exact Tr.endX (Sub.cons rfl (Sub.dropN 3 (by kernel_rfl) rfl))
    refine Tr.q (QS.move rfl) rfl ?_
    apply Tr.andP
    · exact (rfl : _ = (3, 38, 41))
    · exact rfl
    · intro hT9; have hT9' := hT9
      try simp only [bs] at hT9'
      refine Tr.gq rfl rfl hT9 (QS.move rfl) rfl ?_
      refine Tr.gq rfl rfl hT9 (QS.neq8 (n := 46) rfl rfl) rfl ?_
      refine Tr.q (QS.pickT rfl hT9 rfl) rfl ?_
      refine Tr.nil (Tr.thenN ?_)
      exact Tr.endX (Sub.cons rfl (Sub.dropN 3 (by kernel_rfl) rfl))
    · intro hF9
      refine Tr.gskip rfl rfl hF9 rfl ?_
      refine Tr.gskip rfl rfl hF9 rfl ?_
      refine Tr.q (QS.pickF rfl hF9 rfl) rfl ?_
      refine Tr.nil (Tr.thenN ?_)
      exact Tr.endX (Sub.cons rfl (Sub.dropN 3 (by kernel_rfl) rfl))
    refine Tr.nil ?_
    refine Tr.thenN ?_
    refine Tr.cond rfl (fun h10 => ?_) (fun h10 => ?_)
    · try simp only [bs] at h10
      refine Tr.seq ?_
      refine Tr.region ?_
      refine Tr.q (QS.assign rfl) rfl ?_
      refine Tr.nil ?_
      refine Tr.thenN ?_
      refine Tr.ret ?_
      refine Tr.inR ?_
      refine Tr.thenR ?_
      refine Tr.thenR ?_
      refine Tr.inR ?_
      refine Tr.thenR ?_
      refine Tr.ret1 Try.results41 rfl (fun w' hw => ?_)
      have hbad : badB ((bts s).getD k default) = true := by simp only [badB, lowB, uppB, digB, bs]; assumption
      exact ⟨by rw [nameP_bad (by omega) hbad], hw.below hF1⟩
    · try simp only [bs] at h10
      refine Tr.skip ?_
      refine Tr.inN ?_
      refine Tr.thenN ?_
      refine Tr.region ?_
      refine Tr.q (QS.addI rfl rfl (by omega)) rfl ?_
      refine Tr.q (QS.move rfl) rfl ?_
      refine Tr.nil ?_
      refine Tr.thenN ?_
      have hbad : badB ((bts s).getD k default) = false := by simp only [badB, lowB, uppB, digB, bs]; assumption
      apply Tr.again (k + 1)
      · exact rfl
      · exact (.cons (by first | rfl | exact lookI rfl (by omega) | exact lookI rfl (by simp) | exact lookB rfl (by simp)) Front.nil)
      · exact SubX.dropN 19 (by kernel_rfl) rfl
      · exact (by repeat' (first | exact Pick.nil _ | exact Del.here _ | apply Pick.cons | apply Del.there))
      · exact ⟨by omega, by rw [any_take_succ (by omega), hk2, hbad]; rfl⟩
      · exact (by (try dsimp only); omega)
  · try simp only [bs] at h2
    refine Tr.exit ?_
    refine Tr.thenE ?_
    refine Tr.thenE ?_
    refine Tr.inHit ?_
    refine Tr.thenN ?_
    refine Tr.seq ?_
    refine Tr.region ?_
    refine Tr.q (QS.move rfl) rfl ?_
    refine Tr.q (QS.lenStr rfl Try.underlying9) rfl ?_
    refine Tr.q (QS.geq rfl rfl) rfl ?_
    refine Tr.q (QS.move rfl) rfl ?_
    apply Tr.andP
    · exact (rfl : _ = (4, 46, 50))
    · exact rfl
    · intro hT11; have hT11' := hT11
      try simp only [bs] at hT11'
      refine Tr.gq rfl rfl hT11 (QS.move rfl) rfl ?_
      refine Tr.gq rfl rfl hT11 (QS.lenStr rfl Try.underlying9) rfl ?_
      refine Tr.gq rfl rfl hT11 (QS.leq rfl rfl) rfl ?_
      refine Tr.q (QS.pickT rfl hT11 rfl) rfl ?_
      refine Tr.nil (Tr.thenN ?_)
      exact Tr.endX (Sub.cons rfl (Sub.dropN 4 (by kernel_rfl) rfl))
    · intro hF11
      refine Tr.gskip rfl rfl hF11 rfl ?_
      refine Tr.gskip rfl rfl hF11 rfl ?_
      refine Tr.gskip rfl rfl hF11 rfl ?_
      refine Tr.q (QS.pickF rfl hF11 rfl) rfl ?_
      refine Tr.nil (Tr.thenN ?_)
      exact Tr.endX (Sub.cons rfl (Sub.dropN 4 (by kernel_rfl) rfl))
    refine Tr.q (QS.assign rfl) rfl ?_
    refine Tr.nil ?_
    refine Tr.thenN ?_
    refine Tr.ret ?_
    refine Tr.ret1 Try.results41 rfl (fun w' hw => ?_)
    exact ⟨by rw [nameP_end (by omega) hk2], hw.below hF1⟩
set_option maxRecDepth 100000 in
set_option maxHeartbeats 2000000 in
theorem space_any (s : SecV) (w : World) (hs : s.data.length ≤ 200000) :
    Calls Try.prog 43 #[.agg (encSec.enc s).toArray] w (fun e w' => e = .returned (.agg (encRng.enc (spaceP s)).toArray) ∧ Ext w w') := by
  have hadr := s.addr.toNat_lt
  refine enter Try.func43 rfl Try.ntmps43 rfl ?_
  refine Tr.seq ?_
  refine Tr.region ?_
  refine Tr.box rfl rfl rfl (fun b1 => ?_)
  refine Tr.alloc Try.zeroValue61 rfl rfl (fun b2 => ?_)
  refine Tr.nil ?_
  refine Tr.thenN ?_
  refine Tr.seq ?_
  refine Tr.region ?_
  refine Tr.q (QS.fieldAddr (off := 1) (ft := 23) rfl Try.underlying59 rfl rfl Try.sizeOf23 (by decide)) rfl ?_
  refine Tr.q (QS.lV rfl Try.isAgg23) rfl ?_
  refine Tr.q (QS.cvt32toU rfl Try.underlying23 Try.underlying76) rfl ?_
  refine Tr.q (QS.fieldAddr (off := 2) (ft := 54) rfl Try.underlying59 rfl rfl Try.sizeOf54 (by decide)) rfl ?_
  refine Tr.q (QS.lV rfl Try.isAgg54) rfl ?_
  refine Tr.q (QS.lenNil rfl Try.underlying54) rfl ?_
  refine Tr.q (QS.cvtIn rfl Try.underlying3 Try.underlying76 (IntWalk.u64_in _ (by omega))) rfl ?_
  refine Tr.q (QS.addU rfl rfl (by omega)) rfl ?_
  refine Tr.q (QS.assign rfl) rfl ?_
  refine Tr.nil ?_
  refine Tr.thenN ?_
  refine Tr.seq ?_
  refine Tr.region ?_
  refine Tr.q (QS.fieldAddr (off := 1) (ft := 23) rfl Try.underlying59 rfl rfl Try.sizeOf23 (by decide)) rfl ?_
  refine Tr.q (QS.lV rfl Try.isAgg23) rfl ?_
  refine Tr.q (QS.move rfl) rfl ?_
  refine Tr.q (QS.min2 rfl rfl) rfl ?_
  refine Tr.q (QS.cvtTo32 rfl Try.underlying76 Try.underlying23) rfl ?_
  refine Tr.q (QS.build (vs := [(0, _), (1, _)]) rfl rfl (HLF.built61_0_1 _ _)) rfl ?_
  refine Tr.storeW rfl rfl Try.sizeOf61 (by repeat (first | exact Put.here _ | apply Put.there)) (by rfl) (by rfl) (by first | exact List.all_eq_true.1 rfl | exact Enc.one _ _ | exact Enc.one encRng _) rfl ?_
  refine Tr.nil ?_
  refine Tr.thenN ?_
  refine Tr.ret ?_
  refine Tr.retC1 Try.results43 rfl (by repeat (first | exact List.Mem.head _ | apply List.Mem.tail)) Try.isAgg61 Try.sizeOf61 (by rfl) (fun w' hw => ?_)
  exact ⟨rfl, hw.below (Bg.le.refl _)⟩
set_option maxRecDepth 100000 in
set_option maxHeartbeats 2000000 in
theorem stack_any (w : World) :
    Calls Try.prog 44 #[] w (fun e w' => e = .returned (.agg (encRng.enc stackP).toArray) ∧ Ext w w') := by
  refine enter Try.func44 rfl Try.ntmps44 rfl ?_
  refine Tr.seq ?_
  refine Tr.region ?_
  refine Tr.alloc Try.zeroValue61 rfl rfl (fun b1 => ?_)
  refine Tr.nil ?_
  refine Tr.thenN ?_
  refine Tr.seq ?_
  refine Tr.region ?_
  refine Tr.q (QS.build (vs := [(0, _), (1, _)]) rfl rfl (HLF.built61_0_1 _ _)) rfl ?_
  refine Tr.storeW rfl rfl Try.sizeOf61 (by repeat (first | exact Put.here _ | apply Put.there)) (by rfl) (by rfl) (by first | exact List.all_eq_true.1 rfl | exact Enc.one _ _ | exact Enc.one encRng _) rfl ?_
  refine Tr.nil ?_
  refine Tr.thenN ?_
  refine Tr.ret ?_
  refine Tr.retC1 Try.results44 rfl (by repeat (first | exact List.Mem.head _ | apply List.Mem.tail)) Try.isAgg61 Try.sizeOf61 (by rfl) (fun w' hw => ?_)
  exact ⟨rfl, hw.below (Bg.le.refl _)⟩
set_option maxRecDepth 100000 in
set_option maxHeartbeats 2000000 in
theorem meet_any (a b : Rng) (w : World) :
    Calls Try.prog 42 #[.agg (encRng.enc a).toArray, .agg (encRng.enc b).toArray] w (fun e w' => e = .returned (.bool (meetP a b)) ∧ Ext w w') := by
  refine enter Try.func42 rfl Try.ntmps42 rfl ?_
  refine Tr.seq ?_
  refine Tr.region ?_
  refine Tr.box rfl rfl rfl (fun b1 => ?_)
  refine Tr.box rfl rfl rfl (fun b2 => ?_)
  refine Tr.q (QS.assign rfl) rfl ?_
  refine Tr.nil ?_
  refine Tr.thenN ?_
  refine Tr.seq ?_
  refine Tr.region ?_
  refine Tr.q (QS.fieldAddr (off := 0) (ft := 23) rfl Try.underlying61 rfl rfl Try.sizeOf23 (by decide)) rfl ?_
  refine Tr.q (QS.lV rfl Try.isAgg23) rfl ?_
  refine Tr.q (QS.fieldAddr (off := 0) (ft := 23) rfl Try.underlying61 rfl rfl Try.sizeOf23 (by decide)) rfl ?_
  refine Tr.q (QS.lV rfl Try.isAgg23) rfl ?_
  refine Tr.q (QS.max32 rfl rfl) rfl ?_
  refine Tr.q (QS.fieldAddr (off := 1) (ft := 23) rfl Try.underlying61 rfl rfl Try.sizeOf23 (by decide)) rfl ?_
  refine Tr.q (QS.lV rfl Try.isAgg23) rfl ?_
  refine Tr.q (QS.fieldAddr (off := 1) (ft := 23) rfl Try.underlying61 rfl rfl Try.sizeOf23 (by decide)) rfl ?_
  refine Tr.q (QS.lV rfl Try.isAgg23) rfl ?_
  refine Tr.q (QS.min32 rfl rfl) rfl ?_
  refine Tr.q (QS.lss32 rfl rfl) rfl ?_
  refine Tr.q (QS.assign rfl) rfl ?_
  refine Tr.nil ?_
  refine Tr.thenN ?_
  refine Tr.ret ?_
  refine Tr.ret1 Try.results42 rfl (fun w' hw => ?_)
  exact ⟨rfl, hw.below (Bg.le.refl _)⟩
set_option maxRecDepth 100000 in
set_option maxHeartbeats 2000000 in
theorem find1_any (s : SecV) (a : UInt32) (b : Nat) (w : World) (hc : Cell (hp w) b 0 (.int .u32 a.toNat)) (hs : s.data.length ≤ 200000) :
    Calls Try.prog 48 #[.agg (encSec.enc s).toArray, .pointer (some ⟨b, 0, none⟩)] w (fun e w' => e = .returned (.bool (inS a s)) ∧ Ext w w') := by
  have hc' : Cell (Bg.of w).blk b 0 (.int .u32 a.toNat) := hc
  refine enter Try.func48 rfl Try.ntmps48 rfl ?_
  refine Tr.seq ?_
  refine Tr.region ?_
  refine Tr.box rfl rfl rfl (fun b1 => ?_)
  refine Tr.q (QS.assign rfl) rfl ?_
  refine Tr.nil ?_
  refine Tr.thenN ?_
  refine Tr.seq ?_
  refine Tr.region ?_
  refine Tr.q (QS.lW rfl Try.isAgg59 Try.sizeOf59) rfl ?_
  refine Tr.q (QS.call rfl Try.call43 (fun w hw => space_any s w hs)) rfl ?_
  refine Tr.alloc Try.zeroValue61 rfl rfl (fun b2 => ?_)
  refine Tr.storeW rfl rfl Try.sizeOf61 (by repeat (first | exact Put.here _ | apply Put.there)) (by rfl) (by rfl) (by first | exact List.all_eq_true.1 rfl | exact Enc.one _ _ | exact Enc.one encRng _) rfl ?_
  refine Tr.nil ?_
  refine Tr.thenN ?_
  refine Tr.seq ?_
  refine Tr.region ?_
  refine Tr.q (QS.fieldAddr (off := 0) (ft := 23) rfl Try.underlying61 rfl rfl Try.sizeOf23 (by decide)) rfl ?_
  refine Tr.q (QS.lV rfl Try.isAgg23) rfl ?_
  refine Tr.q (QS.loadC rfl (by assumption) Try.isAgg23) rfl ?_
  refine Tr.q (QS.leq32 rfl rfl) rfl ?_
  refine Tr.q (QS.move rfl) rfl ?_
  apply Tr.andP
  · exact (rfl : _ = (5, 11, 16))
  · exact rfl
  · intro hT3; have hT3' := hT3
    try simp only [bs] at hT3'
    refine Tr.gq rfl rfl hT3 (QS.loadC rfl (by assumption) Try.isAgg23) rfl ?_
    refine Tr.gq rfl rfl hT3 (QS.fieldAddr (off := 1) (ft := 23) rfl Try.underlying61 rfl rfl Try.sizeOf23 (by decide)) rfl ?_
    refine Tr.gq rfl rfl hT3 (QS.lV rfl Try.isAgg23) rfl ?_
    refine Tr.gq rfl rfl hT3 (QS.lss32 rfl rfl) rfl ?_
    refine Tr.q (QS.pickT rfl hT3 rfl) rfl ?_
    refine Tr.nil (Tr.thenN ?_)
    exact Tr.endX (Sub.cons rfl (Sub.dropN 5 (by kernel_rfl) rfl))
  · intro hF3
    refine Tr.gskip rfl rfl hF3 rfl ?_
    refine Tr.gskip rfl rfl hF3 rfl ?_
    refine Tr.gskip rfl rfl hF3 rfl ?_
    refine Tr.gskip rfl rfl hF3 rfl ?_
    refine Tr.q (QS.pickF rfl hF3 rfl) rfl ?_
    refine Tr.nil (Tr.thenN ?_)
    exact Tr.endX (Sub.cons rfl (Sub.dropN 5 (by kernel_rfl) rfl))
  refine Tr.q (QS.assign rfl) rfl ?_
  refine Tr.nil ?_
  refine Tr.thenN ?_
  refine Tr.ret ?_
  refine Tr.ret1 Try.results48 rfl (fun w' hw => ?_)
  exact ⟨rfl, hw.below (Bg.le.refl _)⟩
set_option maxRecDepth 100000 in
set_option maxHeartbeats 2000000 in
theorem check1_any (x s : SecV) (b : Nat) (w : World) (hc : CellsIn (hp w) b (encSec.enc s)) :
    Calls Try.prog 40 #[.agg (encSec.enc x).toArray, .pointer (some ⟨b, 0, none⟩)] w (fun e w' => e = .returned (.bool (decide (x.name = s.name))) ∧ Ext w w') := by
  have hc' : CellsIn (Bg.of w).blk b (encSec.enc s) := hc
  refine enter Try.func40 rfl Try.ntmps40 rfl ?_
  refine Tr.seq ?_
  refine Tr.region ?_
  refine Tr.box rfl rfl rfl (fun b1 => ?_)
  refine Tr.q (QS.assign rfl) rfl ?_
  refine Tr.nil ?_
  refine Tr.thenN ?_
  refine Tr.seq ?_
  refine Tr.region ?_
  refine Tr.q (QS.fieldAddr (off := 0) (ft := 9) rfl Try.underlying59 rfl rfl Try.sizeOf9 (by decide)) rfl ?_
  refine Tr.q (QS.lV rfl Try.isAgg9) rfl ?_
  refine Tr.q (QS.fieldAddr (off := 0) (ft := 9) rfl Try.underlying59 rfl rfl Try.sizeOf9 (by decide)) rfl ?_
  refine Tr.q (QS.loadCF rfl (by assumption) Try.isAgg9 (by rfl)) rfl ?_
  refine Tr.q (QS.str_eql rfl rfl) rfl ?_
  refine Tr.q (QS.assign rfl) rfl ?_
  refine Tr.nil ?_
  refine Tr.thenN ?_
  refine Tr.ret ?_
  refine Tr.ret1 Try.results40 rfl (fun w' hw => ?_)
  exact ⟨rfl, hw.below (Bg.le.refl _)⟩
set_option maxRecDepth 100000 in
set_option maxHeartbeats 2000000 in
theorem check2_any (x s : SecV) (b : Nat) (w : World) (hc : CellsIn (hp w) b (encSec.enc s)) (hx : x.data.length ≤ 200000) (hs : s.data.length ≤ 200000) :
    Calls Try.prog 45 #[.agg (encSec.enc x).toArray, .pointer (some ⟨b, 0, none⟩)] w (fun e w' => e = .returned (.bool (meetP (spaceP x) (spaceP s))) ∧ Ext w w') := by
  have hc' : CellsIn (Bg.of w).blk b (encSec.enc s) := hc
  refine enter Try.func45 rfl Try.ntmps45 rfl ?_
  refine Tr.seq ?_
  refine Tr.region ?_
  refine Tr.box rfl rfl rfl (fun b1 => ?_)
  refine Tr.q (QS.assign rfl) rfl ?_
  refine Tr.nil ?_
  refine Tr.thenN ?_
  refine Tr.seq ?_
  refine Tr.regionQ HLF.mixed (by kernel_rfl) ?_
  refine TrQ.q (QS.lW rfl Try.isAgg59 Try.sizeOf59) rfl ?_
  refine TrQ.q (QS.call rfl Try.call43 (fun w hw => space_any x w hx)) rfl ?_
  refine TrQ.q (QS.loadCA rfl (by assumption) Try.isAgg59 Try.sizeOf59 (by rfl)) rfl ?_
  refine TrQ.q (QS.call rfl Try.call43 (fun w hw => space_any s w hs)) rfl ?_
  refine TrQ.q (QS.call rfl Try.call42 (fun w hw => meet_any (spaceP x) (spaceP s) w)) rfl ?_
  refine TrQ.q (QS.assign rfl) rfl ?_
  refine TrQ.nil ?_
  refine Tr.thenN ?_
  refine Tr.ret ?_
  refine Tr.ret1 Try.results45 rfl (fun w' hw => ?_)
  exact ⟨rfl, hw.below (Bg.le.refl _)⟩
set_option maxRecDepth 100000 in
set_option maxHeartbeats 2000000 in
theorem indexFunc_sec (l : List SecV) (V : Value) (g : FuncId) (cb : List Value) (w : World) (hV : Sl (hp w) encSec l V) (eg : ∀ args w, (callFunc g args).run Try.prog w = .ok (.enter g args) w) (p : SecV → Bool) (hp : ∀ x, x ∈ l → ∀ w', Ext w w' → Calls Try.prog g ([Value.agg (encSec.enc x).toArray] ++ cb).toArray w' fun e w'' => e = .returned (.bool (p x)) ∧ Ext w' w'') :
    Calls Try.prog 47 #[V, .func (.func g) #[] cb.toArray] w (fun e w' => e = .returned (.int .i64 (idxP p 0 l)) ∧ Ext w w') := by
  have hV' : Sl (Bg.of w).blk encSec l V := hV
  have hlen := hV.len_le
  refine enter Try.func47 rfl Try.ntmps47 rfl ?_
  refine Tr.seq ?_
  refine Tr.region ?_
  refine Tr.q (QS.assign rfl) rfl ?_
  refine Tr.nil ?_
  refine Tr.thenN ?_
  refine Tr.seq ?_
  refine Tr.seq ?_
  refine Tr.region ?_
  refine Tr.q (QS.move rfl) rfl ?_
  refine Tr.q (QS.len rfl (by assumption) Try.underlying22) rfl ?_
  refine Tr.q (QS.move rfl) rfl ?_
  refine Tr.nil ?_
  refine Tr.thenN ?_
  refine Tr.block ?_
  refine Tr.loop (ι := Nat) (fun k => k ≤ l.length ∧ idxP p k (l.drop k) = idxP p 0 l) (fun _ => _) (fun k => []) (fun k => [(8, .int .i64 (k : Nat))]) (fun k => l.length - k) 0 ⟨Nat.zero_le _, rfl⟩ (.cons (by first | rfl | exact lookI rfl (by omega) | exact lookI rfl (by simp) | exact lookB rfl (by simp)) Front.nil) (by repeat' (first | exact Pick.nil _ | exact Del.here _ | apply Pick.cons | apply Del.there)) rfl (fun k hi m hm => ?_)
  replace hi : k ≤ l.length ∧ idxP p k (l.drop k) = idxP p 0 l := hi
  replace hm : m = l.length - k := hm
  change Tr _ _ [] ([(8, .int .i64 (k : Nat))] ++ _) _
  obtain ⟨hk1, hk2⟩ := hi
  refine Tr.seq ?_
  refine Tr.region ?_
  refine Tr.q (QS.lss rfl rfl) rfl ?_
  refine Tr.nil ?_
  refine Tr.thenN ?_
  refine Tr.seq ?_
  refine Tr.cond rfl (fun h1 => ?_) (fun h1 => ?_)
  · try simp only [bs] at h1
    refine Tr.skip ?_
    refine Tr.thenN ?_
    refine Tr.seq ?_
    refine Tr.block ?_
    refine Tr.seq ?_
    refine Tr.region ?_
    refine Tr.q (QS.move rfl) rfl ?_
    refine Tr.q (QS.assign rfl) rfl ?_
    refine Tr.nil ?_
    refine Tr.thenN ?_
    refine Tr.seq ?_
    refine Tr.region ?_
    refine Tr.q (QS.move rfl) rfl ?_
    refine Tr.q (QS.move rfl) rfl ?_
    refine Tr.q (QS.move rfl) rfl ?_
    refine Tr.q (QS.idxN rfl rfl (by assumption) Try.underlying22 Try.sizeOf59 (by rfl) (by omega)) rfl ?_
    refine Tr.q (QS.elA rfl (by assumption) Try.isAgg59 Try.sizeOf59 (by rfl) (by omega)) rfl ?_
    refine Tr.q (QS.callV rfl rfl eg (fun w hw => hp _ (mem_getD (by omega)) w (hw.below (Bg.le.refl _)))) rfl ?_
    refine Tr.nil ?_
    refine Tr.thenN ?_
    refine Tr.cond rfl (fun h2 => ?_) (fun h2 => ?_)
    · try simp only [bs] at h2
      refine Tr.seq ?_
      refine Tr.region ?_
      refine Tr.q (QS.move rfl) rfl ?_
      refine Tr.q (QS.assign rfl) rfl ?_
      refine Tr.nil ?_
      refine Tr.thenN ?_
      refine Tr.ret ?_
      refine Tr.inR ?_
      refine Tr.thenR ?_
      refine Tr.thenR ?_
      refine Tr.inR ?_
      refine Tr.thenR ?_
      refine Tr.ret1 Try.results47 rfl (fun w' hw => ?_)
      exact ⟨by rw [← hk2, drop_cons (k := k) (by omega), idxP, if_pos (by assumption)], hw.below (Bg.le.refl _)⟩
    · try simp only [bs] at h2
      refine Tr.skip ?_
      refine Tr.inN ?_
      refine Tr.thenN ?_
      refine Tr.region ?_
      refine Tr.q (QS.addI rfl rfl (by omega)) rfl ?_
      refine Tr.q (QS.move rfl) rfl ?_
      refine Tr.nil ?_
      refine Tr.thenN ?_
      apply Tr.again (k + 1)
      · exact rfl
      · exact (.cons (by first | rfl | exact lookI rfl (by omega) | exact lookI rfl (by simp) | exact lookB rfl (by simp)) Front.nil)
      · exact SubX.dropN 12 (by kernel_rfl) rfl
      · exact (by repeat' (first | exact Pick.nil _ | exact Del.here _ | apply Pick.cons | apply Del.there))
      · exact ⟨by omega, by rw [← hk2, drop_cons (k := k) (by omega), idxP, if_neg (by simp_all)]⟩
      · exact (by (try dsimp only); omega)
  · try simp only [bs] at h1
    refine Tr.exit ?_
    refine Tr.thenE ?_
    refine Tr.thenE ?_
    refine Tr.inHit ?_
    refine Tr.thenN ?_
    refine Tr.seq ?_
    refine Tr.region ?_
    refine Tr.q (QS.assign rfl) rfl ?_
    refine Tr.nil ?_
    refine Tr.thenN ?_
    refine Tr.ret ?_
    refine Tr.ret1 Try.results47 rfl (fun w' hw => ?_)
    exact ⟨by rw [← hk2, List.drop_of_length_le (by omega)]; rfl, hw.below (Bg.le.refl _)⟩
set_option maxRecDepth 100000 in
set_option maxHeartbeats 2000000 in
theorem containsFunc_sec (l : List SecV) (V : Value) (g : FuncId) (cb : List Value) (w : World) (hV : Sl (hp w) encSec l V) (eg : ∀ args w, (callFunc g args).run Try.prog w = .ok (.enter g args) w) (p : SecV → Bool) (hp : ∀ x, x ∈ l → ∀ w', Ext w w' → Calls Try.prog g ([Value.agg (encSec.enc x).toArray] ++ cb).toArray w' fun e w'' => e = .returned (.bool (p x)) ∧ Ext w' w'') :
    Calls Try.prog 39 #[V, .func (.func g) #[] cb.toArray] w (fun e w' => e = .returned (.bool (l.any p)) ∧ Ext w w') := by
  refine enter Try.func39 rfl Try.ntmps39 rfl ?_
  refine Tr.seq ?_
  refine Tr.region ?_
  refine Tr.q (QS.assign rfl) rfl ?_
  refine Tr.nil ?_
  refine Tr.thenN ?_
  refine Tr.seq ?_
  refine Tr.region ?_
  refine Tr.q (QS.move rfl) rfl ?_
  refine Tr.q (QS.move rfl) rfl ?_
  refine Tr.q (QS.call rfl Try.call47 (fun w hw => indexFunc_sec l V g cb w (hw.slF hV) eg p (fun x hx w'' h => hp x hx w'' ((hw.below (Bg.le.refl _)).trans h)))) rfl ?_
  refine Tr.q (QS.geq rfl rfl) rfl ?_
  refine Tr.q (QS.assign rfl) rfl ?_
  refine Tr.nil ?_
  refine Tr.thenN ?_
  refine Tr.ret ?_
  refine Tr.ret1 Try.results39 rfl (fun w' hw => ?_)
  exact ⟨by rw [idxP_any], hw.below (Bg.le.refl _)⟩
set_option maxRecDepth 100000 in
set_option maxHeartbeats 2000000 in
theorem find_any (l : List SecV) (V : Value) (a : UInt32) (w : World) (hV : Sl (hp w) encSec l V) (hB : SecB l) :
    Calls Try.prog 20 #[V, .int .u32 a.toNat] w (fun e w' => e = .returned (.int .i64 (findP l a)) ∧ Ext w w') := by
  have hV' : Sl (Bg.of w).blk encSec l V := hV
  have hlen := hB.1
  refine enter Try.func20 rfl Try.ntmps20 rfl ?_
  refine Tr.seq ?_
  refine Tr.region ?_
  refine Tr.box rfl rfl rfl (fun b1 => ?_)
  refine Tr.q (QS.assign rfl) rfl ?_
  refine Tr.nil ?_
  refine Tr.thenN ?_
  refine Tr.seq ?_
  refine Tr.region ?_
  refine Tr.q (QS.move rfl) rfl ?_
  refine Tr.q (QS.makeFunc rfl rfl) rfl ?_
  refine Tr.q (QS.call rfl Try.call47 (fun w hw => indexFunc_sec l V _ _ w (hw.slF hV) Try.call48 (inS a) (fun x hx w'' h => find1_any x a _ w'' (cellE.cell (hw.ent _ (.head _)) h rfl) (hB.2 x hx)))) rfl ?_
  refine Tr.q (QS.assign rfl) rfl ?_
  refine Tr.nil ?_
  refine Tr.thenN ?_
  refine Tr.ret ?_
  refine Tr.ret1 Try.results20 rfl (fun w' hw => ?_)
  exact ⟨rfl, hw.below (Bg.le.refl _)⟩
set_option maxRecDepth 100000 in
set_option maxHeartbeats 2000000 in
theorem place_any (l : List SecV) (V : Value) (a : UInt32) (n : Int) (w : World) (hV : Sl (hp w) encSec l V) (hB : SecB l) (hn : 0 ≤ n ∧ n ≤ 9223372036854775807) :
    Calls Try.prog 57 #[V, .int .u32 a.toNat, .int .i64 n] w (fun e w' => e = .returned (.tuple #[.int .i64 (placeP l a n).1, .int .i64 (placeP l a n).2.1, .int .i64 (placeP l a n).2.2]) ∧ Ext w w') := by
  have hV' : Sl (Bg.of w).blk encSec l V := hV
  have hlen := hB.1
  have hf := findP_lt (l := l) (a := a)
  refine enter Try.func57 rfl Try.ntmps57 rfl ?_
  refine Tr.seq ?_
  refine Tr.region ?_
  refine Tr.q (QS.assign rfl) rfl ?_
  refine Tr.q (QS.assign rfl) rfl ?_
  refine Tr.q (QS.assign rfl) rfl ?_
  refine Tr.nil ?_
  refine Tr.thenN ?_
  refine Tr.seq ?_
  refine Tr.region ?_
  refine Tr.q (QS.move rfl) rfl ?_
  refine Tr.q (QS.move rfl) rfl ?_
  refine Tr.q (QS.call rfl Try.call20 (fun w hw => find_any l V a w (hw.slF hV) hB)) rfl ?_
  refine Tr.q (QS.assign rfl) rfl ?_
  refine Tr.nil ?_
  refine Tr.thenN ?_
  refine Tr.seq ?_
  refine Tr.seq ?_
  refine Tr.region ?_
  refine Tr.q (QS.move rfl) rfl ?_
  refine Tr.q (QS.lss rfl rfl) rfl ?_
  refine Tr.nil ?_
  refine Tr.thenN ?_
  refine Tr.cond rfl (fun h1 => ?_) (fun h1 => ?_)
  · try simp only [bs] at h1
    refine Tr.seq ?_
    refine Tr.region ?_
    refine Tr.q (QS.assign rfl) rfl ?_
    refine Tr.q (QS.assign rfl) rfl ?_
    refine Tr.q (QS.assign rfl) rfl ?_
    refine Tr.nil ?_
    refine Tr.thenN ?_
    refine Tr.ret ?_
    refine Tr.thenR ?_
    refine Tr.ret3 Try.results57 rfl rfl rfl (fun w' hw => ?_)
    exact ⟨by rw [placeP_1 (by assumption)], hw.below (Bg.le.refl _)⟩
  · try simp only [bs] at h1
    refine Tr.skip ?_
    refine Tr.thenN ?_
    refine Tr.seq ?_
    refine Tr.region ?_
    refine Tr.q (QS.move rfl) rfl ?_
    refine Tr.q (QS.move rfl) rfl ?_
    refine Tr.q (QS.idx rfl rfl (by assumption) Try.underlying22 Try.sizeOf59 (by rfl) (by omega)) rfl ?_
    refine Tr.q (QS.elA rfl (by assumption) Try.isAgg59 Try.sizeOf59 (by rfl) (by omega)) rfl ?_
    refine Tr.q (QS.call rfl Try.call43 (fun w hw => space_any (l.getD (findP l a).toNat default) w (hB.at (by omega)))) rfl ?_
    refine Tr.alloc Try.zeroValue61 rfl rfl (fun b2 => ?_)
    refine Tr.storeW rfl rfl Try.sizeOf61 (by repeat (first | exact Put.here _ | apply Put.there)) (by rfl) (by rfl) (by first | exact List.all_eq_true.1 rfl | exact Enc.one _ _ | exact Enc.one encRng _) rfl ?_
    refine Tr.nil ?_
    refine Tr.thenN ?_
    refine Tr.seq ?_
    refine Tr.seq ?_
    refine Tr.region ?_
    refine Tr.q (QS.move rfl) rfl ?_
    refine Tr.q (QS.cvtIn rfl Try.underlying3 Try.underlying76 (IntWalk.u64_in _ (by omega))) rfl ?_
    refine Tr.q (QS.fieldAddr (off := 1) (ft := 23) rfl Try.underlying61 rfl rfl Try.sizeOf23 (by decide)) rfl ?_
    refine Tr.q (QS.lV rfl Try.isAgg23) rfl ?_
    refine Tr.q (QS.move rfl) rfl ?_
    refine Tr.q (QS.sub32 rfl rfl) rfl ?_
    refine Tr.q (QS.cvt32toU rfl Try.underlying23 Try.underlying76) rfl ?_
    refine Tr.q (QS.gtr rfl rfl) rfl ?_
    refine Tr.nil ?_
    refine Tr.thenN ?_
    refine Tr.cond rfl (fun h3 => ?_) (fun h3 => ?_)
    · try simp only [bs] at h3
      refine Tr.seq ?_
      refine Tr.region ?_
      refine Tr.q (QS.assign rfl) rfl ?_
      refine Tr.q (QS.assign rfl) rfl ?_
      refine Tr.q (QS.assign rfl) rfl ?_
      refine Tr.nil ?_
      refine Tr.thenN ?_
      refine Tr.ret ?_
      refine Tr.thenR ?_
      refine Tr.ret3 Try.results57 rfl rfl rfl (fun w' hw => ?_)
      have hpl := place_left (l := l) (a := a) (by assumption)
      exact ⟨by rw [placeP_2 (by assumption) (by rw [← hpl]; assumption)], hw.below (Bg.le.refl _)⟩
    · try simp only [bs] at h3
      refine Tr.skip ?_
      refine Tr.thenN ?_
      refine Tr.seq ?_
      refine Tr.regionQ HLF.mixed (by kernel_rfl) ?_
      refine TrQ.q (QS.move rfl) rfl ?_
      refine TrQ.q (QS.move rfl) rfl ?_
      refine TrQ.q (QS.fieldAddr (off := 0) (ft := 23) rfl Try.underlying61 rfl rfl Try.sizeOf23 (by decide)) rfl ?_
      refine TrQ.q (QS.lV rfl Try.isAgg23) rfl ?_
      refine TrQ.q (QS.sub32 rfl rfl) rfl ?_
      refine TrQ.q (QS.cvt32toI rfl Try.underlying23 Try.underlying3) rfl ?_
      refine TrQ.q (QS.assign rfl) rfl ?_
      refine TrQ.q (QS.assign rfl) rfl ?_
      refine TrQ.q (QS.assign rfl) rfl ?_
      refine TrQ.nil ?_
      refine Tr.thenN ?_
      refine Tr.ret ?_
      refine Tr.ret3 Try.results57 rfl rfl rfl (fun w' hw => ?_)
      have hpl := place_left (l := l) (a := a) (by assumption)
      have hpa := place_at (l := l) (a := a) (by assumption)
      exact ⟨by rw [placeP_3 (by assumption) (by rw [← hpl]; assumption), ← hpa]; rfl, hw.below (Bg.le.refl _)⟩
set_option maxRecDepth 100000 in
set_option maxHeartbeats 2000000 in
theorem read_any (l : List SecV) (V : Value) (a : UInt32) (n : Int) (w : World) (hV : Sl (hp w) encSec l V) (hB : SecB l) (hD : DataIn (hp w) l) (hn : n ≤ 9223372036854775807) :
    Calls Try.prog 26 #[V, .int .u32 a.toNat, .int .i64 n] w (fun e w' => ∃ V', e = .returned (.tuple #[V', .int .i64 (readP l a n).2]) ∧ Ext w w' ∧ NewRow w w' 5 encU8 (readP l a n).1 V') := by
  have hV' : Sl (Bg.of w).blk encSec l V := hV
  have hlen := hB.1
  refine enter Try.func26 rfl Try.ntmps26 rfl ?_
  refine Tr.seq ?_
  refine Tr.region ?_
  refine Tr.q (QS.assign rfl) rfl ?_
  refine Tr.q (QS.assign rfl) rfl ?_
  refine Tr.nil ?_
  refine Tr.thenN ?_
  refine Tr.seq ?_
  refine Tr.seq ?_
  refine Tr.region ?_
  refine Tr.q (QS.move rfl) rfl ?_
  refine Tr.q (QS.lss rfl rfl) rfl ?_
  refine Tr.nil ?_
  refine Tr.thenN ?_
  refine Tr.cond rfl (fun h1 => ?_) (fun h1 => ?_)
  · try simp only [bs] at h1
    refine Tr.seq ?_
    refine Tr.region ?_
    refine Tr.q (QS.assign rfl) rfl ?_
    refine Tr.q (QS.assign rfl) rfl ?_
    refine Tr.nil ?_
    refine Tr.thenN ?_
    refine Tr.ret ?_
    refine Tr.thenR ?_
    refine Tr.ret2 Try.results26 rfl rfl (fun w' hw => ?_)
    exact ⟨_, by rw [readP, if_pos (by assumption)], hw.below (Bg.le.refl _), newRow_nil (by rw [readP, if_pos (by assumption)])⟩
  · try simp only [bs] at h1
    refine Tr.skip ?_
    refine Tr.thenN ?_
    refine Tr.seq ?_
    refine Tr.seq ?_
    refine Tr.region ?_
    refine Tr.q (QS.move rfl) rfl ?_
    refine Tr.q (QS.eql rfl rfl) rfl ?_
    refine Tr.nil ?_
    refine Tr.thenN ?_
    refine Tr.cond rfl (fun h2 => ?_) (fun h2 => ?_)
    · try simp only [bs] at h2
      refine Tr.seq ?_
      refine Tr.region ?_
      refine Tr.q (QS.assign rfl) rfl ?_
      refine Tr.q (QS.assign rfl) rfl ?_
      refine Tr.nil ?_
      refine Tr.thenN ?_
      refine Tr.ret ?_
      refine Tr.thenR ?_
      refine Tr.ret2 Try.results26 rfl rfl (fun w' hw => ?_)
      exact ⟨_, by rw [readP, if_neg (by assumption), if_pos (by assumption)], hw.below (Bg.le.refl _), newRow_nil (by rw [readP, if_neg (by assumption), if_pos (by assumption)])⟩
    · try simp only [bs] at h2
      refine Tr.skip ?_
      refine Tr.thenN ?_
      refine Tr.seq ?_
      refine Tr.region ?_
      refine Tr.q (QS.move rfl) rfl ?_
      refine Tr.q (QS.move rfl) rfl ?_
      refine Tr.q (QS.move rfl) rfl ?_
      refine Tr.q (QS.call rfl Try.call57 (fun w hw => place_any l V a n w (hw.slF hV) hB (by omega))) rfl ?_
      refine Tr.q (QS.move rfl) rfl ?_
      refine Tr.q (QS.extract rfl rfl) rfl ?_
      refine Tr.q (QS.extract rfl rfl) rfl ?_
      refine Tr.q (QS.extract rfl rfl) rfl ?_
      refine Tr.q (QS.assign rfl) rfl ?_
      refine Tr.q (QS.assign rfl) rfl ?_
      refine Tr.q (QS.assign rfl) rfl ?_
      refine Tr.nil ?_
      refine Tr.thenN ?_
      refine Tr.seq ?_
      refine Tr.seq ?_
      refine Tr.region ?_
      refine Tr.q (QS.move rfl) rfl ?_
      refine Tr.q (QS.neq rfl rfl) rfl ?_
      refine Tr.nil ?_
      refine Tr.thenN ?_
      refine Tr.cond rfl (fun h3 => ?_) (fun h3 => ?_)
      · try simp only [bs] at h3
        refine Tr.seq ?_
        refine Tr.region ?_
        refine Tr.q (QS.move rfl) rfl ?_
        refine Tr.q (QS.assign rfl) rfl ?_
        refine Tr.q (QS.assign rfl) rfl ?_
        refine Tr.nil ?_
        refine Tr.thenN ?_
        refine Tr.ret ?_
        refine Tr.thenR ?_
        refine Tr.ret2 Try.results26 rfl rfl (fun w' hw => ?_)
        exact ⟨_, by rw [readP, if_neg (by assumption), if_neg (by assumption), if_pos (by assumption)]; rfl, hw.below (Bg.le.refl _), newRow_nil (by rw [readP, if_neg (by assumption), if_neg (by assumption), if_pos (by assumption)])⟩
      · try simp only [bs] at h3
        refine Tr.skip ?_
        refine Tr.thenN ?_
        refine Tr.seq ?_
        obtain ⟨p1, p2, p3, p4, p5⟩ := placeP_ok (l := l) (a := a) (n := n) (by simp_all)
        have p6 : (placeP l a n).2.1 ≤ (placeP l a n).2.1 + n := by omega
        have hdl := hB.at (k := (placeP l a n).1.toNat) (by omega)
        have hDk : Sl (Bg.of w).blk encU8 (l.getD (placeP l a n).1.toNat default).data (.slice (l.getD (placeP l a n).1.toNat default).dp (l.getD (placeP l a n).1.toNat default).data.length (l.getD (placeP l a n).1.toNat default).dc) := hD _ (mem_getD (by omega))
        refine Tr.region ?_
        refine Tr.q (QS.move rfl) rfl ?_
        refine Tr.q (QS.move rfl) rfl ?_
        refine Tr.q (QS.idx rfl rfl (by assumption) Try.underlying22 Try.sizeOf59 (by rfl) (by omega)) rfl ?_
        refine Tr.q (QS.fieldAddr (off := 2) (ft := 54) rfl Try.underlying59 rfl rfl Try.sizeOf54 (by decide)) rfl ?_
        refine Tr.q (QS.elF rfl (by assumption) Try.isAgg54 (by omega) (by rfl)) rfl ?_
        refine Tr.q (QS.move rfl) rfl ?_
        refine Tr.q (QS.move rfl) rfl ?_
        refine Tr.q (QS.move rfl) rfl ?_
        refine Tr.q (QS.addI rfl rfl (by omega)) rfl ?_
        refine Tr.q (QS.slice (lv := some (_, _)) (hv := some (_, _)) rfl (by assumption) rfl rfl Try.underlying54 Try.sizeOf5 (by rfl) (by simp only [loOf, hiOf] <;> first | omega | assumption | (simp only [NatCast.natCast, Int.ofNat_eq_natCast]; omega)) (by simp only [loOf, hiOf] <;> first | omega | assumption | (simp only [NatCast.natCast, Int.ofNat_eq_natCast]; omega)) (by simp only [loOf, hiOf] <;> first | omega | assumption | (simp only [NatCast.natCast, Int.ofNat_eq_natCast]; omega))) rfl ?_
        refine Tr.callRow rfl Try.call58 (fun w hw => clone_u8 (((l.getD (placeP l a n).1.toNat default).data.take ((placeP l a n).2.1 + n).toNat).drop (placeP l a n).2.1.toNat) _ w (Sl.resl (l := (placeP l a n).2.1.toNat) (h := ((placeP l a n).2.1 + n).toNat) (hw.slF hDk) (by omega) (by omega)) (by simp only [List.length_drop, List.length_take]; omega)) rfl (fun V4 => ?_)
        refine Tr.q (QS.assign rfl) rfl ?_
        refine Tr.nil ?_
        refine Tr.thenN ?_
        refine Tr.seq ?_
        refine Tr.region ?_
        refine Tr.q (QS.move rfl) rfl ?_
        refine Tr.q (QS.move rfl) rfl ?_
        refine Tr.q (QS.move rfl) rfl ?_
        refine Tr.sliceFullN rfl (by repeat (first | exact Del.here _ | apply Del.there)) rfl rfl (by simp only [List.length_drop, List.length_take]; omega) Try.underlying54 Try.sizeOf5 rfl (fun V90 => ?_)
        refine Tr.q (QS.assign rfl) rfl ?_
        refine Tr.q (QS.assign rfl) rfl ?_
        refine Tr.nil ?_
        refine Tr.thenN ?_
        refine Tr.ret ?_
        refine Tr.ret2 Try.results26 rfl rfl (fun w' hw => ?_)
        exact ⟨_, by rw [readP, if_neg (by assumption), if_neg (by assumption), if_neg (by simp_all)], hw.below (Bg.le.refl _), by rw [readP, if_neg (by assumption), if_neg (by assumption), if_neg (by simp_all)]; exact hw.new (.head _)⟩
set_option maxRecDepth 100000 in
set_option maxHeartbeats 2000000 in
theorem ranges_any (l : List SecV) (V : Value) (w : World) (hV : Sl (hp w) encSec l V) (hB : SecB l) :
    Calls Try.prog 65 #[V] w (fun e w' => ∃ V', e = .returned V' ∧ Ext w w' ∧ NewRow w w' 61 encRng (normalP (l.map spaceP)) V') := by
  have hV' : Sl (Bg.of w).blk encSec l V := hV
  have hlen := hB.1
  refine enter Try.func65 rfl Try.ntmps65 rfl ?_
  refine Tr.seq ?_
  refine Tr.region ?_
  refine Tr.q (QS.assign rfl) rfl ?_
  refine Tr.nil ?_
  refine Tr.thenN ?_
  refine Tr.seq ?_
  refine Tr.region ?_
  refine Tr.q (QS.assign rfl) rfl ?_
  refine Tr.nil ?_
  refine Tr.thenN ?_
  refine Tr.seq ?_
  refine Tr.seq ?_
  refine Tr.region ?_
  refine Tr.q (QS.move rfl) rfl ?_
  refine Tr.q (QS.len rfl (by assumption) Try.underlying22) rfl ?_
  refine Tr.q (QS.move rfl) rfl ?_
  refine Tr.nil ?_
  refine Tr.thenN ?_
  refine Tr.block ?_
  refine Tr.ownNil 61 encRng ?_
  refine Tr.loop (ι := Nat × Value) (fun ⟨k, V'⟩ => k ≤ l.length) (fun _ => _) (fun ⟨k, V'⟩ => [rowE V' 61 encRng ((l.take k).map spaceP)]) (fun ⟨k, V'⟩ => [(8, .int .i64 (k : Nat)), (3, V')]) (fun ⟨k, V'⟩ => l.length - k) (0, _) (Nat.zero_le _) (.cons (by first | rfl | exact lookI rfl (by omega) | exact lookI rfl (by simp) | exact lookB rfl (by simp)) (.cons (by first | rfl | exact lookI rfl (by omega) | exact lookI rfl (by simp) | exact lookB rfl (by simp)) Front.nil)) (by repeat' (first | exact Pick.nil _ | exact Del.here _ | apply Pick.cons | apply Del.there)) rfl (fun i hi m hm => ?_)
  obtain ⟨k, V'⟩ := i
  replace hi : k ≤ l.length := hi
  replace hm : m = l.length - k := hm
  change Tr _ _ [rowE V' 61 encRng ((l.take k).map spaceP)] ([(8, .int .i64 (k : Nat)), (3, V')] ++ _) _
  have hml : ((l.take k).map spaceP).length ≤ l.length := by simp only [List.length_map, List.length_take]; omega
  refine Tr.seq ?_
  refine Tr.region ?_
  refine Tr.q (QS.lss rfl rfl) rfl ?_
  refine Tr.nil ?_
  refine Tr.thenN ?_
  refine Tr.seq ?_
  refine Tr.cond rfl (fun h1 => ?_) (fun h1 => ?_)
  · try simp only [bs] at h1
    refine Tr.skip ?_
    refine Tr.thenN ?_
    refine Tr.seq ?_
    refine Tr.block ?_
    refine Tr.seq ?_
    refine Tr.region ?_
    refine Tr.q (QS.idxN rfl rfl (by assumption) Try.underlying22 Try.sizeOf59 (by rfl) (by omega)) rfl ?_
    refine Tr.q (QS.elA rfl (by assumption) Try.isAgg59 Try.sizeOf59 (by rfl) (by omega)) rfl ?_
    refine Tr.alloc Try.zeroValue59 rfl rfl (fun b2 => ?_)
    refine Tr.storeW rfl rfl Try.sizeOf59 (by repeat (first | exact Put.here _ | apply Put.there)) (by rfl) (by rfl) (by first | exact List.all_eq_true.1 rfl | exact Enc.one _ _ | exact Enc.one encSec _) rfl ?_
    refine Tr.nil ?_
    refine Tr.thenN ?_
    refine Tr.region ?_
    refine Tr.q (QS.move rfl) rfl ?_
    refine Tr.q (QS.lW rfl Try.isAgg59 Try.sizeOf59) rfl ?_
    refine Tr.q (QS.call rfl Try.call43 (fun w hw => space_any (l.getD k default) w (hB.at (by omega)))) rfl ?_
    refine Tr.lit1 (E := encRng) _ rfl rfl Try.underlying27 Try.sizeOf61 Try.zeroValue61 (by rfl) (by rfl) rfl (fun V3 => ?_)
    refine Tr.append1 rfl rfl (by repeat (first | exact Del.here _ | apply Del.there)) (by repeat (first | exact Del.here _ | apply Del.there)) Try.underlying27 HLF.info61 (by rfl) (by rfl) (by (try simp only [List.length_cons, List.length_nil, List.length_append, List.length_take]); omega) (by unfold maxLen; (try simp only [List.length_cons, List.length_nil, List.length_append, List.length_take]); omega) rfl (fun V4 => ?_)
    refine Tr.q (QS.assign rfl) rfl ?_
    refine Tr.nil ?_
    refine Tr.inN ?_
    refine Tr.thenN ?_
    refine Tr.region ?_
    refine Tr.q (QS.addI rfl rfl (by omega)) rfl ?_
    refine Tr.q (QS.move rfl) rfl ?_
    refine Tr.nil ?_
    refine Tr.thenN ?_
    have htk : (l.take (k + 1)).map spaceP = (l.take k).map spaceP ++ [spaceP (l.getD k default)] := by rw [take_succ (by omega), List.map_append]; rfl
    rw [← htk]
    apply Tr.again (k + 1, _)
    · exact rfl
    · exact (.cons (by first | rfl | exact lookI rfl (by omega) | exact lookI rfl (by simp) | exact lookB rfl (by simp)) (.cons (by first | rfl | exact lookI rfl (by omega) | exact lookI rfl (by simp) | exact lookB rfl (by simp)) Front.nil))
    · exact SubX.dropN 14 (by kernel_rfl) rfl
    · exact (by repeat' (first | exact Pick.nil _ | exact Del.here _ | apply Pick.cons | apply Del.there))
    · exact (by show k + 1 ≤ _; omega)
    · exact (by (try dsimp only); omega)
  · try simp only [bs] at h1
    refine Tr.exit ?_
    refine Tr.thenE ?_
    refine Tr.thenE ?_
    refine Tr.inHit ?_
    refine Tr.thenN ?_
    refine Tr.seq ?_
    rw [show l.take k = l from List.take_of_length_le (by omega)]
    refine Tr.region ?_
    refine Tr.q (QS.move rfl) rfl ?_
    refine Tr.callRow rfl Try.call32 (fun w hw => normal_any (l.map spaceP) _ w (hw.row (.head _)) (by rw [List.length_map]; omega)) rfl (fun V5 => ?_)
    refine Tr.q (QS.assign rfl) rfl ?_
    refine Tr.nil ?_
    refine Tr.thenN ?_
    refine Tr.ret ?_
    refine Tr.ret1 Try.results65 rfl (fun w' hw => ?_)
    exact ⟨_, rfl, hw.below (Bg.le.refl _), hw.new (.head _)⟩
set_option maxRecDepth 100000 in
set_option maxHeartbeats 2000000 in
theorem check_sec (l : List SecV) (V : Value) (w : World) (hV : Sl (hp w) encSec l V) (hB : SecB l) (hN : ∀ s ∈ l, s.name.size ≤ 9223372036854775807) :
    Calls Try.prog 18 #[V] w (fun e w' => e = .returned (.int .i64 (checkS l)) ∧ Ext w w') := by
  have hV' : Sl (Bg.of w).blk encSec l V := hV
  have hlen := hB.1
  refine enter Try.func18 rfl Try.ntmps18 rfl ?_
  refine Tr.seq ?_
  refine Tr.region ?_
  refine Tr.q (QS.assign rfl) rfl ?_
  refine Tr.nil ?_
  refine Tr.thenN ?_
  refine Tr.seq ?_
  refine Tr.seq ?_
  refine Tr.region ?_
  refine Tr.q (QS.move rfl) rfl ?_
  refine Tr.q (QS.len rfl (by assumption) Try.underlying22) rfl ?_
  refine Tr.q (QS.gtr rfl rfl) rfl ?_
  refine Tr.nil ?_
  refine Tr.thenN ?_
  refine Tr.cond rfl (fun h1 => ?_) (fun h1 => ?_)
  · try simp only [bs] at h1
    refine Tr.seq ?_
    refine Tr.region ?_
    refine Tr.q (QS.assign rfl) rfl ?_
    refine Tr.nil ?_
    refine Tr.thenN ?_
    refine Tr.ret ?_
    refine Tr.thenR ?_
    refine Tr.ret1 Try.results18 rfl (fun w' hw => ?_)
    exact ⟨by rw [check_0 (by assumption)], hw.below (Bg.le.refl _)⟩
  · try simp only [bs] at h1
    refine Tr.skip ?_
    refine Tr.thenN ?_
    refine Tr.seq ?_
    refine Tr.seq ?_
    refine Tr.region ?_
    refine Tr.q (QS.move rfl) rfl ?_
    refine Tr.q (QS.len rfl (by assumption) Try.underlying22) rfl ?_
    refine Tr.q (QS.move rfl) rfl ?_
    refine Tr.nil ?_
    refine Tr.thenN ?_
    refine Tr.block ?_
    refine Tr.loop (ι := Nat) (fun k => k ≤ l.length ∧ firstP (oneP l) k (l.length - k) = firstP (oneP l) 0 l.length) (fun _ => _) (fun k => []) (fun k => [(13, .int .i64 (k : Nat))]) (fun k => l.length - k) 0 ⟨Nat.zero_le _, rfl⟩ (.cons (by first | rfl | exact lookI rfl (by omega) | exact lookI rfl (by simp) | exact lookB rfl (by simp)) Front.nil) (by repeat' (first | exact Pick.nil _ | exact Del.here _ | apply Pick.cons | apply Del.there)) rfl (fun k hi m hm => ?_)
    replace hi : k ≤ l.length ∧ firstP (oneP l) k (l.length - k) = firstP (oneP l) 0 l.length := hi
    replace hm : m = l.length - k := hm
    change Tr _ _ [] ([(13, .int .i64 (k : Nat))] ++ _) _
    obtain ⟨hk1, hk2⟩ := hi
    have hadr := (l.getD k default).addr.toNat_lt
    have hdk : k < l.length → (l.getD k default).data.length ≤ 200000 := fun q => hB.at q
    refine Tr.seq ?_
    refine Tr.region ?_
    refine Tr.q (QS.lss rfl rfl) rfl ?_
    refine Tr.nil ?_
    refine Tr.thenN ?_
    refine Tr.seq ?_
    refine Tr.cond rfl (fun h2 => ?_) (fun h2 => ?_)
    · try simp only [bs] at h2
      refine Tr.skip ?_
      refine Tr.thenN ?_
      refine Tr.seq ?_
      refine Tr.block ?_
      refine Tr.seq ?_
      refine Tr.region ?_
      refine Tr.q (QS.move rfl) rfl ?_
      refine Tr.q (QS.idxN rfl rfl (by assumption) Try.underlying22 Try.sizeOf59 (by rfl) (by omega)) rfl ?_
      refine Tr.q (QS.elA rfl (by assumption) Try.isAgg59 Try.sizeOf59 (by rfl) (by omega)) rfl ?_
      refine Tr.alloc Try.zeroValue59 rfl rfl (fun b3 => ?_)
      refine Tr.q (QS.assign rfl) rfl ?_
      refine Tr.storeW rfl rfl Try.sizeOf59 (by repeat (first | exact Put.here _ | apply Put.there)) (by rfl) (by rfl) (by first | exact List.all_eq_true.1 rfl | exact Enc.one _ _ | exact Enc.one encSec _) rfl ?_
      refine Tr.nil ?_
      refine Tr.thenN ?_
      refine Tr.seq ?_
      refine Tr.region ?_
      refine Tr.q (QS.move rfl) rfl ?_
      refine Tr.q (QS.move rfl) rfl ?_
      refine Tr.q (QS.slice (lv := none) (hv := some (_, _)) rfl (by assumption) rfl rfl Try.underlying22 Try.sizeOf59 (by rfl) (by simp only [loOf, hiOf] <;> first | omega | assumption | (simp only [NatCast.natCast, Int.ofNat_eq_natCast]; omega)) (by simp only [loOf, hiOf] <;> first | omega | assumption | (simp only [NatCast.natCast, Int.ofNat_eq_natCast]; omega)) (by simp only [loOf, hiOf] <;> first | omega | assumption | (simp only [NatCast.natCast, Int.ofNat_eq_natCast]; omega))) rfl ?_
      refine Tr.q (QS.makeFunc rfl rfl) rfl ?_
      refine Tr.q (QS.call rfl Try.call39 (fun w hw => containsFunc_sec (l.take k) _ _ _ w (Sl.resl (l := 0) (h := k) (hw.slF hV) (by omega) (by omega)) Try.call40 (fun x => decide (x.name = (l.getD k default).name)) (fun x hx w'' h => check1_any x (l.getD k default) _ w'' (cellE.cellsIn (hw.ent _ (.head _)) h)))) rfl ?_
      refine Tr.q (QS.assign rfl) rfl ?_
      refine Tr.nil ?_
      refine Tr.thenN ?_
      refine Tr.block ?_
      refine Tr.seq ?_
      refine Tr.region ?_
      refine Tr.q (QS.fieldAddr (off := 2) (ft := 54) rfl Try.underlying59 rfl rfl Try.sizeOf54 (by decide)) rfl ?_
      refine Tr.q (QS.lV rfl Try.isAgg54) rfl ?_
      refine Tr.q (QS.lenNil rfl Try.underlying54) rfl ?_
      refine Tr.q (QS.gtr rfl rfl) rfl ?_
      refine Tr.q (QS.assign rfl) rfl ?_
      refine Tr.nil ?_
      refine Tr.thenN ?_
      refine Tr.cond rfl (fun h4 => ?_) (fun h4 => ?_)
      · try simp only [bs] at h4
        refine Tr.seq ?_
        refine Tr.region ?_
        refine Tr.q (QS.assign rfl) rfl ?_
        refine Tr.nil ?_
        refine Tr.thenN ?_
        refine Tr.ret ?_
        refine Tr.inR ?_
        refine Tr.inR ?_
        refine Tr.thenR ?_
        refine Tr.thenR ?_
        refine Tr.inR ?_
        refine Tr.thenR ?_
        refine Tr.ret1 Try.results18 rfl (fun w' hw => ?_)
        exact ⟨by rw [check_1 (v := 6) (by assumption) (by omega) hk2 (by unfold oneP; dsimp only; rw [if_pos (by assumption)]) (by decide)], hw.below (Bg.le.refl _)⟩
      · try simp only [bs] at h4
        refine Tr.seq ?_
        refine Tr.region ?_
        refine Tr.q (QS.fieldAddr (off := 0) (ft := 9) rfl Try.underlying59 rfl rfl Try.sizeOf9 (by decide)) rfl ?_
        refine Tr.q (QS.lV rfl Try.isAgg9) rfl ?_
        refine Tr.q (QS.call rfl Try.call41 (fun w hw => name_any (l.getD k default).name w (hN _ (mem_getD (by omega))))) rfl ?_
        refine Tr.q (QS.not rfl) rfl ?_
        refine Tr.q (QS.assign rfl) rfl ?_
        refine Tr.nil ?_
        refine Tr.thenN ?_
        refine Tr.cond rfl (fun h5 => ?_) (fun h5 => ?_)
        · try simp only [bs] at h5
          refine Tr.seq ?_
          refine Tr.region ?_
          refine Tr.q (QS.assign rfl) rfl ?_
          refine Tr.nil ?_
          refine Tr.thenN ?_
          refine Tr.ret ?_
          refine Tr.inR ?_
          refine Tr.inR ?_
          refine Tr.thenR ?_
          refine Tr.thenR ?_
          refine Tr.inR ?_
          refine Tr.thenR ?_
          refine Tr.ret1 Try.results18 rfl (fun w' hw => ?_)
          exact ⟨by rw [check_1 (v := 3) (by assumption) (by omega) hk2 (by unfold oneP; dsimp only; rw [if_neg (by assumption), if_pos (by assumption)]) (by decide)], hw.below (Bg.le.refl _)⟩
        · try simp only [bs] at h5
          refine Tr.seq ?_
          refine Tr.region ?_
          refine Tr.q (QS.move rfl) rfl ?_
          refine Tr.q (QS.assign rfl) rfl ?_
          refine Tr.nil ?_
          refine Tr.thenN ?_
          refine Tr.cond rfl (fun h6 => ?_) (fun h6 => ?_)
          · try simp only [bs] at h6
            refine Tr.seq ?_
            refine Tr.region ?_
            refine Tr.q (QS.assign rfl) rfl ?_
            refine Tr.nil ?_
            refine Tr.thenN ?_
            refine Tr.ret ?_
            refine Tr.inR ?_
            refine Tr.inR ?_
            refine Tr.thenR ?_
            refine Tr.thenR ?_
            refine Tr.inR ?_
            refine Tr.thenR ?_
            refine Tr.ret1 Try.results18 rfl (fun w' hw => ?_)
            exact ⟨by rw [check_1 (v := 8) (by assumption) (by omega) hk2 (by unfold oneP; dsimp only; rw [if_neg (by assumption), if_neg (by simp_all), if_pos (by assumption)]) (by decide)], hw.below (Bg.le.refl _)⟩
          · try simp only [bs] at h6
            refine Tr.seq ?_
            refine Tr.region ?_
            refine Tr.q (QS.fieldAddr (off := 1) (ft := 23) rfl Try.underlying59 rfl rfl Try.sizeOf23 (by decide)) rfl ?_
            refine Tr.q (QS.lV rfl Try.isAgg23) rfl ?_
            refine Tr.q (QS.cvt32toU rfl Try.underlying23 Try.underlying76) rfl ?_
            refine Tr.q (QS.fieldAddr (off := 2) (ft := 54) rfl Try.underlying59 rfl rfl Try.sizeOf54 (by decide)) rfl ?_
            refine Tr.q (QS.lV rfl Try.isAgg54) rfl ?_
            refine Tr.q (QS.lenNil rfl Try.underlying54) rfl ?_
            refine Tr.q (QS.cvtIn rfl Try.underlying3 Try.underlying76 (IntWalk.u64_in _ (by omega))) rfl ?_
            refine Tr.q (QS.addU rfl rfl (by omega)) rfl ?_
            refine Tr.q (QS.gtr rfl rfl) rfl ?_
            refine Tr.q (QS.move rfl) rfl ?_
            apply Tr.orP
            · exact (rfl : _ = (5, 45, 50))
            · exact rfl
            · intro hF7; have hF7' := hF7
              try simp only [bs] at hF7'
              refine Tr.gq rfl rfl hF7 (QS.lW rfl Try.isAgg59 Try.sizeOf59) rfl ?_
              refine Tr.gq rfl rfl hF7 (QS.call rfl Try.call43 (fun w hw => space_any (l.getD k default) w (hB.at (by omega)))) rfl ?_
              refine Tr.gq rfl rfl hF7 (QS.call rfl Try.call44 (fun w hw => stack_any w)) rfl ?_
              refine Tr.gq rfl rfl hF7 (QS.call rfl Try.call42 (fun w hw => meet_any (spaceP (l.getD k default)) stackP w)) rfl ?_
              refine Tr.q (QS.pickF rfl hF7 rfl) rfl ?_
              refine Tr.nil (Tr.thenN ?_)
              exact Tr.endX (Sub.cons rfl (Sub.dropN 5 (by kernel_rfl) rfl))
            · intro hT7
              refine Tr.gskip rfl rfl hT7 rfl ?_
              refine Tr.gskip rfl rfl hT7 rfl ?_
              refine Tr.gskip rfl rfl hT7 rfl ?_
              refine Tr.gskip rfl rfl hT7 rfl ?_
              refine Tr.q (QS.pickT rfl hT7 rfl) rfl ?_
              refine Tr.nil (Tr.thenN ?_)
              exact Tr.endX (Sub.cons rfl (Sub.dropN 5 (by kernel_rfl) rfl))
            refine Tr.q (QS.assign rfl) rfl ?_
            refine Tr.nil ?_
            refine Tr.thenN ?_
            refine Tr.cond rfl (fun h8 => ?_) (fun h8 => ?_)
            · try simp only [bs] at h8
              refine Tr.seq ?_
              refine Tr.region ?_
              refine Tr.q (QS.assign rfl) rfl ?_
              refine Tr.nil ?_
              refine Tr.thenN ?_
              refine Tr.ret ?_
              refine Tr.inR ?_
              refine Tr.inR ?_
              refine Tr.thenR ?_
              refine Tr.thenR ?_
              refine Tr.inR ?_
              refine Tr.thenR ?_
              refine Tr.ret1 Try.results18 rfl (fun w' hw => ?_)
              exact ⟨by rw [check_1 (v := 7) (by assumption) (by omega) hk2 (by unfold oneP; dsimp only; rw [if_neg (by assumption), if_neg (by simp_all), if_neg (by simp_all), if_pos (by assumption)]) (by decide)], hw.below (Bg.le.refl _)⟩
            · try simp only [bs] at h8
              refine Tr.skip ?_
              refine Tr.inN ?_
              refine Tr.inN ?_
              refine Tr.thenN ?_
              refine Tr.region ?_
              refine Tr.q (QS.addI rfl rfl (by omega)) rfl ?_
              refine Tr.q (QS.move rfl) rfl ?_
              refine Tr.nil ?_
              refine Tr.thenN ?_
              have hz : oneP l k = 0 := by unfold oneP; dsimp only; rw [if_neg (by assumption), if_neg (by simp_all), if_neg (by simp_all), if_neg (by simp_all)]
              apply Tr.again (k + 1)
              · exact rfl
              · exact (.cons (by first | rfl | exact lookI rfl (by omega) | exact lookI rfl (by simp) | exact lookB rfl (by simp)) Front.nil)
              · exact SubX.dropN 39 (by kernel_rfl) rfl
              · exact (by repeat' (first | exact Pick.nil _ | exact Del.here _ | apply Pick.cons | apply Del.there))
              · exact ⟨by omega, by rw [firstP_next (by omega) hz, hk2]⟩
              · exact (by (try dsimp only); omega)
    · try simp only [bs] at h2
      refine Tr.exit ?_
      refine Tr.thenE ?_
      refine Tr.thenE ?_
      refine Tr.inHit ?_
      refine Tr.thenN ?_
      refine Tr.seq ?_
      refine Tr.seq ?_
      refine Tr.region ?_
      refine Tr.q (QS.move rfl) rfl ?_
      refine Tr.q (QS.len rfl (by assumption) Try.underlying22) rfl ?_
      refine Tr.q (QS.move rfl) rfl ?_
      refine Tr.nil ?_
      refine Tr.thenN ?_
      refine Tr.block ?_
      have hz1 : firstP (oneP l) 0 l.length = 0 := by rw [← hk2]; exact firstP_zero (by omega)
      clear hk2 hk1 hm hadr hdk
      refine Tr.loop (ι := Nat) (fun k => k ≤ l.length ∧ firstP (fun i => if overP l i = true then 10 else 0) k (l.length - k) = firstP (fun i => if overP l i = true then 10 else 0) 0 l.length) (fun _ => _) (fun k => []) (fun k => [(54, .int .i64 (k : Nat))]) (fun k => l.length - k) 0 ⟨Nat.zero_le _, rfl⟩ (.cons (by first | rfl | exact lookI rfl (by omega) | exact lookI rfl (by simp) | exact lookB rfl (by simp)) Front.nil) (by repeat' (first | exact Pick.nil _ | exact Del.here _ | apply Pick.cons | apply Del.there)) rfl (fun k hi m hm => ?_)
      replace hi : k ≤ l.length ∧ firstP (fun i => if overP l i = true then 10 else 0) k (l.length - k) = firstP (fun i => if overP l i = true then 10 else 0) 0 l.length := hi
      replace hm : m = l.length - k := hm
      change Tr _ _ [] ([(54, .int .i64 (k : Nat))] ++ _) _
      obtain ⟨hk1, hk2⟩ := hi
      refine Tr.seq ?_
      refine Tr.region ?_
      refine Tr.q (QS.lss rfl rfl) rfl ?_
      refine Tr.nil ?_
      refine Tr.thenN ?_
      refine Tr.seq ?_
      refine Tr.cond rfl (fun h9 => ?_) (fun h9 => ?_)
      · try simp only [bs] at h9
        refine Tr.skip ?_
        refine Tr.thenN ?_
        refine Tr.seq ?_
        refine Tr.block ?_
        refine Tr.seq ?_
        refine Tr.region ?_
        refine Tr.q (QS.move rfl) rfl ?_
        refine Tr.q (QS.idxN rfl rfl (by assumption) Try.underlying22 Try.sizeOf59 (by rfl) (by omega)) rfl ?_
        refine Tr.q (QS.elA rfl (by assumption) Try.isAgg59 Try.sizeOf59 (by rfl) (by omega)) rfl ?_
        refine Tr.alloc Try.zeroValue59 rfl rfl (fun b10 => ?_)
        refine Tr.q (QS.assign rfl) rfl ?_
        refine Tr.storeW rfl rfl Try.sizeOf59 (by repeat (first | exact Put.here _ | apply Put.there)) (by rfl) (by rfl) (by first | exact List.all_eq_true.1 rfl | exact Enc.one _ _ | exact Enc.one encSec _) rfl ?_
        refine Tr.nil ?_
        refine Tr.thenN ?_
        refine Tr.seq ?_
        refine Tr.region ?_
        refine Tr.q (QS.move rfl) rfl ?_
        refine Tr.q (QS.move rfl) rfl ?_
        refine Tr.q (QS.slice (lv := none) (hv := some (_, _)) rfl (by assumption) rfl rfl Try.underlying22 Try.sizeOf59 (by rfl) (by simp only [loOf, hiOf] <;> first | omega | assumption | (simp only [NatCast.natCast, Int.ofNat_eq_natCast]; omega)) (by simp only [loOf, hiOf] <;> first | omega | assumption | (simp only [NatCast.natCast, Int.ofNat_eq_natCast]; omega)) (by simp only [loOf, hiOf] <;> first | omega | assumption | (simp only [NatCast.natCast, Int.ofNat_eq_natCast]; omega))) rfl ?_
        refine Tr.q (QS.makeFunc rfl rfl) rfl ?_
        refine Tr.q (QS.call rfl Try.call39 (fun w hw => containsFunc_sec (l.take k) _ _ _ w (Sl.resl (l := 0) (h := k) (hw.slF hV) (by omega) (by omega)) Try.call45 (fun x => meetP (spaceP x) (spaceP (l.getD k default))) (fun x hx w'' h => check2_any x (l.getD k default) _ w'' (cellE.cellsIn (hw.ent _ (.head _)) h) (hB.2 x (List.mem_of_mem_take hx)) (hB.at (by omega))))) rfl ?_
        refine Tr.nil ?_
        refine Tr.thenN ?_
        refine Tr.cond rfl (fun h11 => ?_) (fun h11 => ?_)
        · try simp only [bs] at h11
          refine Tr.seq ?_
          refine Tr.region ?_
          refine Tr.q (QS.assign rfl) rfl ?_
          refine Tr.nil ?_
          refine Tr.thenN ?_
          refine Tr.ret ?_
          refine Tr.inR ?_
          refine Tr.thenR ?_
          refine Tr.thenR ?_
          refine Tr.inR ?_
          refine Tr.thenR ?_
          refine Tr.ret1 Try.results18 rfl (fun w' hw => ?_)
          exact ⟨by rw [check_2 (k := k) (by assumption) hz1 (by omega) hk2 (by assumption)], hw.below (Bg.le.refl _)⟩
        · try simp only [bs] at h11
          refine Tr.skip ?_
          refine Tr.inN ?_
          refine Tr.thenN ?_
          refine Tr.region ?_
          refine Tr.q (QS.addI rfl rfl (by omega)) rfl ?_
          refine Tr.q (QS.move rfl) rfl ?_
          refine Tr.nil ?_
          refine Tr.thenN ?_
          have hz : overP l k = false := by assumption
          apply Tr.again (k + 1)
          · exact rfl
          · exact (.cons (by first | rfl | exact lookI rfl (by omega) | exact lookI rfl (by simp) | exact lookB rfl (by simp)) Front.nil)
          · exact SubX.dropN 14 (by kernel_rfl) rfl
          · exact (by repeat' (first | exact Pick.nil _ | exact Del.here _ | apply Pick.cons | apply Del.there))
          · exact ⟨by omega, by rw [firstP_next (by omega) (by rw [if_neg (by rw [hz]; decide)]), hk2]⟩
          · exact (by (try dsimp only); omega)
      · try simp only [bs] at h9
        refine Tr.exit ?_
        refine Tr.thenE ?_
        refine Tr.thenE ?_
        refine Tr.inHit ?_
        refine Tr.thenN ?_
        refine Tr.seq ?_
        refine Tr.region ?_
        refine Tr.q (QS.assign rfl) rfl ?_
        refine Tr.nil ?_
        refine Tr.thenN ?_
        refine Tr.ret ?_
        refine Tr.ret1 Try.results18 rfl (fun w' hw => ?_)
        exact ⟨by rw [check_3 (by assumption) hz1 (by rw [← hk2]; exact firstP_zero (by omega))], hw.below (Bg.le.refl _)⟩
set_option maxRecDepth 100000 in
set_option maxHeartbeats 2000000 in
theorem clone_sec (l : List SecV) (V : Value) (w : World) (hV : Sl (hp w) encSec l V) (hB : SecB l) :
    Calls Try.prog 97 #[V] w (fun e w' => ∃ V', e = .returned V' ∧ Ext w w' ∧ NewRow w w' 59 encSec l V') := by
  have hV' : Sl (Bg.of w).blk encSec l V := hV
  have hlen := hB.1
  refine enter Try.func97 rfl Try.ntmps97 rfl ?_
  refine Tr.seq ?_
  refine Tr.region ?_
  refine Tr.q (QS.assign rfl) rfl ?_
  refine Tr.nil ?_
  refine Tr.thenN ?_
  refine Tr.seq ?_
  refine Tr.seq ?_
  refine Tr.region ?_
  refine Tr.q (QS.move rfl) rfl ?_
  refine Tr.q (QS.eqlNilS rfl (by assumption) Try.underlying22) rfl ?_
  refine Tr.nil ?_
  refine Tr.thenN ?_
  refine Tr.cond rfl (fun h1 => ?_) (fun h1 => ?_)
  · try simp only [bs] at h1
    refine Tr.seq ?_
    refine Tr.region ?_
    refine Tr.q (QS.assign rfl) rfl ?_
    refine Tr.nil ?_
    refine Tr.thenN ?_
    refine Tr.ret ?_
    refine Tr.thenR ?_
    refine Tr.ret1 Try.results97 rfl (fun w' hw => ?_)
    exact ⟨_, rfl, hw.below (Bg.le.refl _), newRow_nil (hV.isNil h1)⟩
  · try simp only [bs] at h1
    refine Tr.skip ?_
    refine Tr.thenN ?_
    refine Tr.seq ?_
    refine Tr.region ?_
    refine Tr.lit0 encSec Try.underlying22 Try.sizeOf59 rfl (fun V2 => ?_)
    refine Tr.q (QS.move rfl) rfl ?_
    refine Tr.appendOf rfl rfl (by repeat (first | exact Del.here _ | apply Del.there)) (fun w hw => hw.slF (by assumption)) Try.underlying22 HLF.info59 (by rfl) (by rfl) (by (try simp only [List.length_cons, List.length_nil, List.length_append, List.length_take]); omega) (by unfold maxLen; (try simp only [List.length_cons, List.length_nil, List.length_append, List.length_take]); omega) rfl (fun V3 => ?_)
    refine Tr.q (QS.assign rfl) rfl ?_
    refine Tr.nil ?_
    refine Tr.thenN ?_
    refine Tr.ret ?_
    refine Tr.ret1 Try.results97 rfl (fun w' hw => ?_)
    exact ⟨_, rfl, hw.below (Bg.le.refl _), hw.new (.head _)⟩
set_option maxRecDepth 100000 in
set_option maxHeartbeats 2000000 in
theorem own_sec (l : List SecV) (V : Value) (w : World) (hV : Sl (hp w) encSec l V) (hB : SecB l) (hD : DataIn (hp w) l) :
    Calls Try.prog 75 #[V] w (fun e w' => ∃ i : Value × List SecV, e = .returned i.1 ∧ Ext w w' ∧ NewEnts w w' (secEnts 59 5 i.1 i.2) ∧ i.2.map SecV.pl = l.map SecV.pl) := by
  have hV' : Sl (Bg.of w).blk encSec l V := hV
  have hlen := hB.1
  refine enter Try.func75 rfl Try.ntmps75 rfl ?_
  refine Tr.seq ?_
  refine Tr.region ?_
  refine Tr.q (QS.assign rfl) rfl ?_
  refine Tr.nil ?_
  refine Tr.thenN ?_
  refine Tr.seq ?_
  refine Tr.region ?_
  refine Tr.q (QS.move rfl) rfl ?_
  refine Tr.callRow rfl Try.call97 (fun w hw => clone_sec l V w (hw.slF hV) hB) rfl (fun V1 => ?_)
  refine Tr.q (QS.assign rfl) rfl ?_
  refine Tr.nil ?_
  refine Tr.thenN ?_
  refine Tr.seq ?_
  refine Tr.seq ?_
  refine Tr.region ?_
  refine Tr.q (QS.move rfl) rfl ?_
  refine Tr.q (QS.lenRow rfl (by repeat (first | exact List.Mem.head _ | apply List.Mem.tail)) Try.underlying22) rfl ?_
  refine Tr.q (QS.move rfl) rfl ?_
  refine Tr.nil ?_
  refine Tr.thenN ?_
  refine Tr.block ?_
  refine Tr.loop (ι := Nat × List SecV) (fun ⟨k, xs⟩ => k ≤ l.length ∧ xs.length = l.length ∧ xs.map SecV.pl = l.map SecV.pl ∧ ∀ j, k ≤ j → xs.getD j default = l.getD j default) (fun _ => _) (fun ⟨k, xs⟩ => (rowE V1 59 encSec xs :: (xs.take k).reverse.map (dRow 5))) (fun ⟨k, xs⟩ => [(9, .int .i64 (k : Nat))]) (fun ⟨k, xs⟩ => l.length - k) (0, l) ⟨Nat.zero_le _, rfl, rfl, fun _ _ => rfl⟩ (.cons (by first | rfl | exact lookI rfl (by omega) | exact lookI rfl (by simp) | exact lookB rfl (by simp)) Front.nil) (by repeat' (first | exact Pick.nil _ | exact Del.here _ | apply Pick.cons | apply Del.there)) rfl (fun i hi m hm => ?_)
  obtain ⟨k, xs⟩ := i
  replace hi : k ≤ l.length ∧ xs.length = l.length ∧ xs.map SecV.pl = l.map SecV.pl ∧ ∀ j, k ≤ j → xs.getD j default = l.getD j default := hi
  replace hm : m = l.length - k := hm
  change Tr _ _ (rowE V1 59 encSec xs :: (xs.take k).reverse.map (dRow 5)) ([(9, .int .i64 (k : Nat))] ++ _) _
  obtain ⟨hk1, hk2, hk3, hk4⟩ := hi
  have hxk := hk4 k (Nat.le_refl _)
  have hDk : k < l.length → Sl (Bg.of w).blk encU8 (xs.getD k default).data (.slice (xs.getD k default).dp (xs.getD k default).data.length (xs.getD k default).dc) := fun q => by rw [hxk]; exact hD _ (mem_getD q)
  have hdb : k < l.length → (xs.getD k default).data.length ≤ 140737488355328 := fun q => by rw [hxk]; have := hB.at q; omega
  refine Tr.seq ?_
  refine Tr.region ?_
  refine Tr.q (QS.lss rfl rfl) rfl ?_
  refine Tr.nil ?_
  refine Tr.thenN ?_
  refine Tr.seq ?_
  refine Tr.cond rfl (fun h2 => ?_) (fun h2 => ?_)
  · try simp only [bs] at h2
    refine Tr.skip ?_
    refine Tr.thenN ?_
    refine Tr.seq ?_
    refine Tr.block ?_
    refine Tr.seq ?_
    refine Tr.region ?_
    refine Tr.q (QS.move rfl) rfl ?_
    refine Tr.q (QS.assign rfl) rfl ?_
    refine Tr.nil ?_
    refine Tr.thenN ?_
    refine Tr.region ?_
    refine Tr.q (QS.move rfl) rfl ?_
    refine Tr.q (QS.move rfl) rfl ?_
    refine Tr.q (QS.move rfl) rfl ?_
    refine Tr.q (QS.move rfl) rfl ?_
    refine Tr.q (QS.idxRowN rfl rfl (by repeat (first | exact List.Mem.head _ | apply List.Mem.tail)) Try.underlying22 Try.sizeOf59 (by rfl) (by omega)) rfl ?_
    refine Tr.q (QS.fieldAddr (off := 2) (ft := 54) rfl Try.underlying59 rfl rfl Try.sizeOf54 (by decide)) rfl ?_
    refine Tr.q (QS.elRF rfl (by repeat (first | exact List.Mem.head _ | apply List.Mem.tail)) Try.isAgg54 (by omega) (by rfl)) rfl ?_
    refine Tr.callRow rfl Try.call58 (fun w hw => clone_u8 (xs.getD k default).data _ w (hw.slF (hDk (by omega))) (hdb (by omega))) rfl (fun V3 => ?_)
    refine Tr.rowShape (.head _) (fun pa pc hpv => ?_)
    subst hpv
    refine Tr.q (QS.idxRowN rfl rfl (by repeat (first | exact List.Mem.head _ | apply List.Mem.tail)) Try.underlying22 Try.sizeOf59 (by rfl) (by omega)) rfl ?_
    refine Tr.q (QS.fieldAddr (off := 2) (ft := 54) rfl Try.underlying59 rfl rfl Try.sizeOf54 (by decide)) rfl ?_
    refine Tr.storeRow ({ xs.getD k default with dp := pa, dc := pc }) rfl rfl Try.sizeOf54 (by repeat (first | exact Put.here _ | apply Put.there)) (by omega) (by decide) (by rfl) rfl rfl rfl ?_
    refine Tr.nil ?_
    refine Tr.inN ?_
    refine Tr.thenN ?_
    refine Tr.region ?_
    refine Tr.q (QS.addI rfl rfl (by omega)) rfl ?_
    refine Tr.q (QS.move rfl) rfl ?_
    refine Tr.nil ?_
    refine Tr.thenN ?_
    apply Tr.again (k + 1, xs.set k { xs.getD k default with dp := pa, dc := pc })
    · exact rfl
    · exact (.cons (by first | rfl | exact lookI rfl (by omega) | exact lookI rfl (by simp) | exact lookB rfl (by simp)) Front.nil)
    · exact SubX.dropN 16 (by kernel_rfl) rfl
    · exact (by show Pick _ (rowE V1 _ _ _ :: ((xs.set k { xs.getD k default with dp := pa, dc := pc }).take (k + 1)).reverse.map (dRow 5)); rw [drow_step (by omega)]; exact .cons (.there _ (.here _)) (.cons (.here _) (Pick.refl _)))
    · exact ⟨by omega, by simp [hk2], by have q := map_set_pl (k := k) (x := { xs.getD k default with dp := pa, dc := pc }) (show k < xs.length by omega) rfl; rw [q]; exact hk3, fun j hj => by rw [getD_set_ne' (by omega)]; exact hk4 j (by omega)⟩
    · exact (by (try dsimp only); omega)
  · try simp only [bs] at h2
    refine Tr.exit ?_
    refine Tr.thenE ?_
    refine Tr.thenE ?_
    refine Tr.inHit ?_
    refine Tr.thenN ?_
    refine Tr.seq ?_
    refine Tr.region ?_
    refine Tr.q (QS.move rfl) rfl ?_
    refine Tr.q (QS.assign rfl) rfl ?_
    refine Tr.nil ?_
    refine Tr.thenN ?_
    refine Tr.ret ?_
    refine Tr.ret1 Try.results75 rfl (fun w' hw => ?_)
    have e : xs.take k = xs := List.take_of_length_le (by omega)
    rw [e] at hw
    exact ⟨(V1, xs), rfl, hw.below (Bg.le.refl _), hw.ents (Bg.le.refl _) (Pick.refl _), hk3⟩
end Go.Proofs.Ytfnedefgepjbpaa
namespace Go.HL.W
open Go
theorem u32_extI {a b : UInt32} (h : a.toNat = b.toNat) : a = b := UInt32.toNat_inj.1 h
theorem shl_orI (m : UInt32) (x : UInt8) : (shl32 m 8 ||| x.toUInt32) = m * 256 + x.toUInt32 := by
  apply u32_extI
  have hx := x.toNat_lt
  have hm := m.toNat_lt
  rw [UInt32.toNat_or, shl32_toNat, UInt32.toNat_add, UInt32.toNat_mul]
  have e1 : m.toNat * 2 ^ 8 % 4294967296 = (m.toNat % 16777216) <<< 8 := by rw [Nat.shiftLeft_eq]; omega
  have e2 : x.toUInt32.toNat = x.toNat := by simp
  rw [e1, e2, ← Nat.shiftLeft_add_eq_or_of_lt (by omega : x.toNat < 2 ^ 8), Nat.shiftLeft_eq]
  have e3 : (256 : UInt32).toNat = 256 := rfl
  rw [e3]; omega
end Go.HL.W
namespace Go.HL
open Go
structure Ins where
  addr : UInt32
  imm : UInt32
  op : Int
  form : Int
  width : Int
  cc : Int
  a : Int
  b : Int
  size : Int
  deriving DecidableEq, Inhabited
def encIns : Enc Ins := ⟨9, fun i => [.int .u32 i.addr.toNat, .int .u32 i.imm.toNat, .int .i64 i.op, .int .i64 i.form, .int .i64 i.width, .int .i64 i.cc, .int .i64 i.a, .int .i64 i.b, .int .i64 i.size], fun _ => rfl,
  fun x v h => by simp at h; rcases h with h | h | h | h | h | h | h | h | h <;> subst h <;> rfl⟩
def I64 (x : Int) : Prop := -9223372036854775808 ≤ x ∧ x ≤ 9223372036854775807
structure InsOK (i : Ins) : Prop where
  op : I64 i.op
  form : I64 i.form
  width : I64 i.width
  cc : I64 i.cc
  a : I64 i.a
  b : I64 i.b
  size : I64 i.size
def accessP (i : Ins) : UInt8 :=
  if i.op = 16 ∧ i.width = 4 then 80 else if i.op = 16 ∧ i.width = 1 then 81 else if i.op = 17 ∧ i.width = 1 then 82 else if i.op = 16 ∧ i.width = 2 then 83
  else if i.op = 17 ∧ i.width = 2 then 84 else if i.op = 18 ∧ i.width = 4 then 85 else if i.op = 18 ∧ i.width = 1 then 86 else if i.op = 18 ∧ i.width = 2 then 87 else 0
def condP (i : Ins) : UInt8 × Int × Bool :=
  if i.cc < 0 ∨ 14 < i.cc then (0, 0, false) else if i.op = 25 then (144 + u8 i.cc, 2, true) else if i.form = 1 then (96 + u8 i.cc, 7, true) else if i.form = 2 then (112 + u8 i.cc, 8, true) else (0, 0, false)
def opcodeP (i : Ins) : UInt8 × Int × Bool :=
  if i.op = 0 ∨ i.op = 1 ∨ i.op = 2 then (u8 i.op, 0, true)
  else if i.op = 3 then (8 + u8 (i.a % 8), 1, true)
  else if i.op = 4 then (16 + u8 (i.a % 8), 1, true)
  else if 5 ≤ i.op ∧ i.op ≤ 15 then
    if i.form = 0 then (32 + u8 (i.op - 5), 3, true) else if i.form = 1 then (48 + u8 (i.op - 5), 4, true) else if i.form = 2 then (64 + u8 (i.op - 5), 6, true) else (0, 0, false)
  else if i.op = 16 ∨ i.op = 17 ∨ i.op = 18 then (accessP i, 5, decide (accessP i ≠ 0))
  else if i.op = 19 then (90, 5, true)
  else if i.op = 20 ∨ i.op = 25 then condP i
  else if i.op = 23 then (128, 8, true)
  else if i.op = 24 then (129, 2, true)
  else if i.op = 21 then (130, 2, true)
  else if i.op = 22 then (131, 6, true)
  else if i.op = 26 then (160, 2, true)
  else if i.op = 27 then (161, 2, true)
  else (0, 0, false)
def keptP (i : Ins) (s : Int) : Ins :=
  ⟨i.addr, if s = 4 ∨ s = 5 ∨ s = 6 ∨ s = 7 ∨ s = 8 then i.imm else 0, i.op,
   if 5 ≤ i.op ∧ i.op ≤ 15 ∨ i.op = 20 then i.form else 0, if i.op = 16 ∨ i.op = 17 ∨ i.op = 18 then i.width else 0, if i.op = 20 ∨ i.op = 25 then i.cc else 0,
   if s = 1 ∨ s = 2 ∨ s = 3 ∨ s = 4 ∨ s = 5 ∨ s = 6 then i.a else 0, if s = 3 ∨ s = 5 then i.b else 0, i.size⟩
def regP (r : Int) : Bool := decide (0 ≤ r) && decide (r < 8)
theorem regP_iff {r : Int} : regP r = true ↔ 0 ≤ r ∧ r < 8 := by simp [regP]
def narrowP (n : UInt32) : Bool := decide (n ≤ 127) || decide (4294967168 ≤ n)
def errP (i : Ins) : Int :=
  if (opcodeP i).2.2 = false ∨ regP i.a = false ∨ regP i.b = false ∨ keptP i (opcodeP i).2.1 ≠ i then 2
  else if ((opcodeP i).2.1 = 4 ∨ (opcodeP i).2.1 = 5) ∧ narrowP i.imm = false ∨ (opcodeP i).2.1 = 7 ∧ narrowP (i.imm - i.addr - 2) = false then 7
  else 0
def checkP (i : Ins) : UInt8 × Int × Int := if errP i = 0 then ((opcodeP i).1, (opcodeP i).2.1, 0) else (0, 0, errP i)
theorem checkP_err (i : Ins) : (checkP i).2.2 = errP i := by
  unfold checkP
  split
  · rename_i h; rw [h]
  · rfl
theorem checkP_ok {i : Ins} (h : errP i = 0) : checkP i = ((opcodeP i).1, (opcodeP i).2.1, 0) := by unfold checkP; rw [if_pos h]
theorem checkP_no {i : Ins} (h : errP i ≠ 0) : checkP i = (0, 0, errP i) := by unfold checkP; rw [if_neg h]
def sizeP (s : Int) : Int := if s = 0 ∨ s = 1 then 1 else if s = 2 ∨ s = 3 ∨ s = 7 then 2 else if s = 4 ∨ s = 5 then 3 else if s = 6 then 6 else 5
def lengthPI (i : Ins) : Int := if errP i = 0 then sizeP (opcodeP i).2.1 else 0
def argsP (s : Int) (i : Ins) (next : UInt32) : List UInt8 :=
  if s = 2 then [u8 i.a] else if s = 3 then [u8 (i.a * 16 + i.b)] else if s = 4 then [u8 i.a, i.imm.toUInt8] else if s = 5 then [u8 (i.a * 16 + i.b), i.imm.toUInt8]
  else if s = 6 then u8 i.a :: putP [] i.imm 4 else if s = 7 then [(i.imm - next).toUInt8] else if s = 8 then putP [] (i.imm - next) 4 else []
def encodeP (i : Ins) : List UInt8 := if errP i = 0 then (opcodeP i).1 :: argsP (opcodeP i).2.1 i (i.addr + u32 (sizeP (opcodeP i).2.1)) else []
def rowsP : List Ins := [⟨0, 0, 16, 0, 4, 0, 0, 0, 0⟩, ⟨0, 0, 16, 0, 1, 0, 0, 0, 0⟩, ⟨0, 0, 17, 0, 1, 0, 0, 0, 0⟩, ⟨0, 0, 16, 0, 2, 0, 0, 0, 0⟩, ⟨0, 0, 17, 0, 2, 0, 0, 0, 0⟩,
  ⟨0, 0, 18, 0, 4, 0, 0, 0, 0⟩, ⟨0, 0, 18, 0, 1, 0, 0, 0, 0⟩, ⟨0, 0, 18, 0, 2, 0, 0, 0, 0⟩,
  ⟨0, 0, 19, 0, 0, 0, 0, 0, 0⟩, ⟨0, 0, 23, 0, 0, 0, 0, 0, 0⟩, ⟨0, 0, 24, 0, 0, 0, 0, 0, 0⟩, ⟨0, 0, 21, 0, 0, 0, 0, 0, 0⟩, ⟨0, 0, 22, 0, 0, 0, 0, 0, 0⟩, ⟨0, 0, 26, 0, 0, 0, 0, 0, 0⟩, ⟨0, 0, 27, 0, 0, 0, 0, 0, 0⟩]
def findPI (c : UInt8) : List Ins → Ins × Bool
  | [] => (⟨0, 0, 0, 0, 0, 0, 0, 0, 0⟩, false)
  | i :: l => if (opcodeP i).2.2 = true ∧ (opcodeP i).1 = c then (i, true) else findPI c l
def opIns (op form cc a : Int) : Ins := ⟨0, 0, op, form, 0, cc, a, 0, 0⟩
def rowP (c : UInt8) : Ins × Bool :=
  if c ≤ 2 then (opIns c.toNat 0 0 0, true)
  else if 8 ≤ c ∧ c < 16 then (opIns 3 0 0 ((c % 16).toNat - 8), true)
  else if 16 ≤ c ∧ c < 24 then (opIns 4 0 0 (c % 16).toNat, true)
  else if 2 ≤ ((c / 16).toNat : Int) ∧ ((c / 16).toNat : Int) ≤ 4 ∧ ((c % 16).toNat : Int) ≤ 10 then (opIns (5 + (c % 16).toNat) ((c / 16).toNat - 2) 0 0, true)
  else if ((c / 16).toNat : Int) = 6 ∧ ((c % 16).toNat : Int) ≤ 14 then (opIns 20 1 (c % 16).toNat 0, true)
  else if ((c / 16).toNat : Int) = 7 ∧ ((c % 16).toNat : Int) ≤ 14 then (opIns 20 2 (c % 16).toNat 0, true)
  else if ((c / 16).toNat : Int) = 9 ∧ ((c % 16).toNat : Int) ≤ 14 then (opIns 25 0 (c % 16).toNat 0, true)
  else findPI c rowsP
/-- A byte, sign-extended. -/
def sextP (x : UInt8) : UInt32 := if x < 128 then x.toUInt32 else x.toUInt32 + 4294967040
/-- Four bytes from k on. -/
def longP (b : List UInt8) (k : Nat) : UInt32 := (b.getD k default).toUInt32 + 256 * (b.getD (k + 1) default).toUInt32 + 65536 * (b.getD (k + 2) default).toUInt32 + 16777216 * (b.getD (k + 3) default).toUInt32
/-- The operands of a shape, put into k. -/
def applyP (s : Int) (k : Ins) (b : List UInt8) (next : UInt32) : Ins :=
  if s = 2 then { k with a := (b.getD 1 default).toNat }
  else if s = 3 then { k with a := (b.getD 1 default / 16).toNat, b := (b.getD 1 default % 16).toNat }
  else if s = 4 then { k with a := (b.getD 1 default).toNat, imm := sextP (b.getD 2 default) }
  else if s = 5 then { k with a := (b.getD 1 default / 16).toNat, b := (b.getD 1 default % 16).toNat, imm := sextP (b.getD 2 default) }
  else if s = 6 then { k with a := (b.getD 1 default).toNat, imm := longP b 2 }
  else if s = 7 then { k with imm := next + sextP (b.getD 1 default) }
  else if s = 8 then { k with imm := next + longP b 1 }
  else k
def zeroIns : Ins := ⟨0, 0, 0, 0, 0, 0, 0, 0, 0⟩
/-- What the row of an opcode makes of the bytes. -/
def bodyP (k : Ins) (s : Int) (b : List UInt8) (addr : UInt32) : Ins := applyP s { k with addr := addr, size := sizeP s } b (addr + u32 (sizeP s))
def decP (b : List UInt8) (addr : UInt32) : Ins × Int :=
  if b.length = 0 then (zeroIns, 5)
  else if (rowP (b.getD 0 default)).2 = false then (zeroIns, 13)
  else if (b.length : Int) < sizeP (opcodeP (rowP (b.getD 0 default)).1).2.1 then (zeroIns, 5)
  else
    let i := bodyP (rowP (b.getD 0 default)).1 (opcodeP (rowP (b.getD 0 default)).1).2.1 b addr
    if regP i.a = false ∨ regP i.b = false then (zeroIns, 13) else (i, 0)
end Go.HL
namespace Go.HL
open Go
theorem all_u8 {p : UInt8 → Prop} (h : ∀ n, n < 256 → p (UInt8.ofNat n)) (c : UInt8) : p c := by
  have h1 := h c.toNat c.toNat_lt
  rwa [UInt8.ofNat_toNat] at h1
end Go.HL
namespace Go.HL
open Go
theorem insEqEnc : EqEnc encIns [.int .u32, .int .u32, .int .i64, .int .i64, .int .i64, .int .i64, .int .i64, .int .i64, .int .i64] [0, 1, 2, 3, 4, 5, 6, 7, 8] := by
  intro x y
  refine ⟨fun j o e ho he => ?_, ?_⟩
  · rcases j with _ | _ | _ | _ | _ | _ | _ | _ | _ | j <;> simp at ho he <;> subst ho <;> subst he <;> rfl
  · obtain ⟨a0, a1, a2, a3, a4, a5, a6, a7, a8⟩ := x
    obtain ⟨c0, c1, c2, c3, c4, c5, c6, c7, c8⟩ := y
    rw [Bool.eq_iff_iff]
    simp [eqAt, encIns]
    simp only [← UInt32.toNat_inj]
    omega
end Go.HL
namespace Go.HL
open Go
def kept1 (i : Ins) (s : Int) : Ins :=
  ⟨i.addr, if s = 4 ∨ s = 5 ∨ s = 6 ∨ s = 7 ∨ s = 8 then i.imm else 0, i.op, 0, 0, 0,
   if s = 1 ∨ s = 2 ∨ s = 3 ∨ s = 4 ∨ s = 5 ∨ s = 6 then i.a else 0, if s = 3 ∨ s = 5 then i.b else 0, i.size⟩
theorem keptP_eq (i : Ins) (s : Int) : keptP i s = { kept1 i s with form := if 5 ≤ i.op ∧ i.op ≤ 15 ∨ i.op = 20 then i.form else 0, width := if i.op = 16 ∨ i.op = 17 ∨ i.op = 18 then i.width else 0, cc := if i.op = 20 ∨ i.op = 25 then i.cc else 0 } := rfl
theorem checkP_2 {i : Ins} (h : (opcodeP i).2.2 = false ∨ regP i.a = false ∨ regP i.b = false ∨ keptP i (opcodeP i).2.1 ≠ i) : checkP i = (0, 0, 2) := by
  have : errP i = 2 := by unfold errP; rw [if_pos h]
  rw [checkP_no (by rw [this]; decide), this]
theorem checkP_7 {i : Ins} (h : ¬ ((opcodeP i).2.2 = false ∨ regP i.a = false ∨ regP i.b = false ∨ keptP i (opcodeP i).2.1 ≠ i))
    (h2 : ((opcodeP i).2.1 = 4 ∨ (opcodeP i).2.1 = 5) ∧ narrowP i.imm = false ∨ (opcodeP i).2.1 = 7 ∧ narrowP (i.imm - i.addr - 2) = false) : checkP i = (0, 0, 7) := by
  have : errP i = 7 := by unfold errP; rw [if_neg h, if_pos h2]
  rw [checkP_no (by rw [this]; decide), this]
theorem errP_0 {i : Ins} (h : ¬ ((opcodeP i).2.2 = false ∨ regP i.a = false ∨ regP i.b = false ∨ keptP i (opcodeP i).2.1 ≠ i))
    (h2 : ¬ (((opcodeP i).2.1 = 4 ∨ (opcodeP i).2.1 = 5) ∧ narrowP i.imm = false ∨ (opcodeP i).2.1 = 7 ∧ narrowP (i.imm - i.addr - 2) = false)) : errP i = 0 := by
  unfold errP; rw [if_neg h, if_neg h2]
def ShapeR (x : UInt8 × Int × Bool) : Prop := 0 ≤ x.2.1 ∧ x.2.1 ≤ 8
theorem ite_shape {p : Prop} [Decidable p] {x y : UInt8 × Int × Bool} (hx : ShapeR x) (hy : ShapeR y) : ShapeR (if p then x else y) := by split <;> assumption
theorem opcodeP_shape (i : Ins) : 0 ≤ (opcodeP i).2.1 ∧ (opcodeP i).2.1 ≤ 8 := by
  show ShapeR (opcodeP i)
  unfold opcodeP condP
  repeat' (first | apply ite_shape | exact ⟨by simp, by simp⟩)
theorem checkP_shape (i : Ins) : 0 ≤ (checkP i).2.1 ∧ (checkP i).2.1 ≤ 8 := by
  unfold checkP
  split
  · exact opcodeP_shape i
  · simp
theorem errP_regs {i : Ins} (h : errP i = 0) : (opcodeP i).2.2 = true ∧ (0 ≤ i.a ∧ i.a < 8) ∧ (0 ≤ i.b ∧ i.b < 8) ∧ keptP i (opcodeP i).2.1 = i := by
  unfold errP at h
  split at h
  · cases h
  · rename_i h1
    simp only [not_or, Bool.not_eq_false, ne_eq, Decidable.not_not] at h1
    exact ⟨h1.1, regP_iff.1 h1.2.1, regP_iff.1 h1.2.2.1, h1.2.2.2⟩
theorem putP_app (b : List UInt8) (n : UInt32) (w : Int) : putP b n w = b ++ putP [] n w := by
  have key : ∀ (j k : Nat) (xs : List UInt8), putF n (b ++ xs) k j = b ++ putF n xs k j := by
    intro j
    induction j with
    | zero => intro k xs; rfl
    | succ j ih => intro k xs; simp only [putF, List.append_assoc]; exact ih _ _
  unfold putP
  split
  · have := key w.toNat 0 []
    rwa [List.append_nil] at this
  · simp
theorem rows_ok : ∀ k, k < 15 → InsOK (rowsP.getD k default) := by
  intro k hk
  have : ∀ x ∈ rowsP, InsOK x := by
    intro x hx
    simp only [rowsP, List.mem_cons, List.not_mem_nil, or_false] at hx
    rcases hx with h | h | h | h | h | h | h | h | h | h | h | h | h | h | h <;> subst h <;> exact ⟨by simp [I64], by simp [I64], by simp [I64], by simp [I64], by simp [I64], by simp [I64], by simp [I64]⟩
  exact this _ (by rw [List.getD_eq_getElem?_getD]; have : k < rowsP.length := hk; simp [this])
theorem row_ok (c : UInt8) : InsOK (rowP c).1 := by
  have key : ∀ c : UInt8, ((decide (0 ≤ (rowP c).1.op) && decide ((rowP c).1.op ≤ 100)) && (decide ((rowP c).1.form = 0) || decide ((rowP c).1.form = 1) || decide ((rowP c).1.form = 2)) && (decide (0 ≤ (rowP c).1.width) && decide ((rowP c).1.width ≤ 4)) &&
      (decide (0 ≤ (rowP c).1.cc) && decide ((rowP c).1.cc ≤ 100)) && (decide (0 ≤ (rowP c).1.a) && decide ((rowP c).1.a ≤ 100)) && decide ((rowP c).1.b = 0) && decide ((rowP c).1.size = 0)) = true := all_u8 (by decide +kernel)
  have h := key c
  simp only [Bool.and_eq_true, Bool.or_eq_true, decide_eq_true_eq] at h
  obtain ⟨⟨⟨⟨⟨⟨h1, h2⟩, h3⟩, h4⟩, h5⟩, h6⟩, h7⟩ := h
  exact ⟨by unfold I64; omega, by unfold I64; omega, by unfold I64; omega, by unfold I64; omega, by unfold I64; omega, by unfold I64; omega, by unfold I64; omega⟩
def extP (a : UInt32) (w : Int) : UInt32 := if w = 1 then u32 (IntKind.i8.wrap a.toNat) else if w = 2 then u32 (IntKind.i16.wrap a.toNat) else a
theorem ext_sext (x : UInt8) : extP x.toUInt32 1 = sextP x := by
  revert x
  exact all_u8 (by decide +kernel)
theorem get_long {b : List UInt8} {k : Nat} (h : k + 4 ≤ b.length) : (getP b k 4).1 = longP b k := by
  rw [getP_ok rfl (by omega)]
  show getF b k 0 4 = _
  simp only [getF, W.shl_orI, longP]
  rw [show ((k : Int) + ((0 : Nat) : Int)).toNat = k by omega, show ((k : Int) + ((1 : Nat) : Int)).toNat = k + 1 by omega, show ((k : Int) + ((2 : Nat) : Int)).toNat = k + 2 by omega, show ((k : Int) + ((3 : Nat) : Int)).toNat = k + 3 by omega]
  generalize (b.getD k default).toUInt32 = x0
  generalize (b.getD (k + 1) default).toUInt32 = x1
  generalize (b.getD (k + 2) default).toUInt32 = x2
  generalize (b.getD (k + 3) default).toUInt32 = x3
  apply W.u32_extI
  simp only [UInt32.toNat_add, UInt32.toNat_mul]
  have e1 : (256 : UInt32).toNat = 256 := rfl
  have e2 : (65536 : UInt32).toNat = 65536 := rfl
  have e3 : (16777216 : UInt32).toNat = 16777216 := rfl
  have e4 : (0 : UInt32).toNat = 0 := rfl
  rw [e1, e2, e3, e4]
  omega
def setAB (s : Int) (k : Ins) (b : List UInt8) : Ins :=
  if s = 2 ∨ s = 4 ∨ s = 6 then { k with a := (b.getD 1 default).toNat } else if s = 3 ∨ s = 5 then { k with a := (b.getD 1 default / 16).toNat, b := (b.getD 1 default % 16).toNat } else k
def setImm (s : Int) (k : Ins) (b : List UInt8) (next : UInt32) : Ins :=
  if s = 4 ∨ s = 5 then { k with imm := sextP (b.getD 2 default) } else if s = 6 then { k with imm := longP b 2 } else if s = 7 then { k with imm := next + sextP (b.getD 1 default) } else if s = 8 then { k with imm := next + longP b 1 } else k
theorem applyP_two (s : Int) (k : Ins) (b : List UInt8) (next : UInt32) : applyP s k b next = setImm s (setAB s k b) b next := by
  unfold applyP setImm setAB
  by_cases h2 : s = 2
  · simp [h2]
  by_cases h3 : s = 3
  · simp [h3]
  by_cases h4 : s = 4
  · simp [h4]
  by_cases h5 : s = 5
  · simp [h5]
  by_cases h6 : s = 6
  · simp [h6]
  by_cases h7 : s = 7
  · simp [h7]
  by_cases h8 : s = 8
  · simp [h8]
  simp [h2, h3, h4, h5, h6, h7, h8]
theorem sizeP_spec (s : Int) : ((s = 0 ∨ s = 1) → sizeP s = 1) ∧ ((s = 2 ∨ s = 3 ∨ s = 7) → sizeP s = 2) ∧ ((s = 4 ∨ s = 5) → sizeP s = 3) ∧ (s = 6 → sizeP s = 6) ∧ (s = 8 → sizeP s = 5) := by
  unfold sizeP
  refine ⟨fun h => ?_, fun h => ?_, fun h => ?_, fun h => ?_, fun h => ?_⟩ <;> (repeat' split) <;> omega
theorem decP_1 {b : List UInt8} {addr : UInt32} (h : b.length = 0) : decP b addr = (zeroIns, 5) := by unfold decP; rw [if_pos h]
theorem decP_2 {b : List UInt8} {addr : UInt32} (h : b.length ≠ 0) (h2 : (rowP (b.getD 0 default)).2 = false) : decP b addr = (zeroIns, 13) := by unfold decP; rw [if_neg h, if_pos h2]
theorem decP_3 {b : List UInt8} {addr : UInt32} (h : b.length ≠ 0) (h2 : (rowP (b.getD 0 default)).2 = true) (h3 : (b.length : Int) < sizeP (opcodeP (rowP (b.getD 0 default)).1).2.1) : decP b addr = (zeroIns, 5) := by
  unfold decP; rw [if_neg h, if_neg (by rw [h2]; simp), if_pos h3]
theorem decP_4 {b : List UInt8} {addr : UInt32} (h : b.length ≠ 0) (h2 : (rowP (b.getD 0 default)).2 = true) (h3 : ¬ (b.length : Int) < sizeP (opcodeP (rowP (b.getD 0 default)).1).2.1) {k : Ins}
    (hk : k = setImm (opcodeP (rowP (b.getD 0 default)).1).2.1 (setAB (opcodeP (rowP (b.getD 0 default)).1).2.1 { (rowP (b.getD 0 default)).1 with addr := addr, size := sizeP (opcodeP (rowP (b.getD 0 default)).1).2.1 } b) b (addr + u32 (sizeP (opcodeP (rowP (b.getD 0 default)).1).2.1))) :
    decP b addr = if regP k.a = false ∨ regP k.b = false then (zeroIns, 13) else (k, 0) := by
  unfold decP; rw [if_neg h, if_neg (by rw [h2]; simp), if_neg h3]
  simp only [bodyP, applyP_two, ← hk]
end Go.HL
namespace Go.Proofs.Ytfnedefgepjbpaa
open Go Go.HL Go.RowKit
set_option maxRecDepth 100000 in
set_option maxHeartbeats 2000000 in
theorem register_any (r : Int) (w : World) :
    Calls Try.prog 63 #[.int .i64 r] w (fun e w' => e = .returned (.bool (regP r)) ∧ Ext w w') := by
  refine enter Try.func63 rfl Try.ntmps63 rfl ?_
  refine Tr.seq ?_
  refine Tr.region ?_
  refine Tr.q (QS.assign rfl) rfl ?_
  refine Tr.nil ?_
  refine Tr.thenN ?_
  refine Tr.seq ?_
  refine Tr.region ?_
  refine Tr.q (QS.move rfl) rfl ?_
  refine Tr.q (QS.geq rfl rfl) rfl ?_
  refine Tr.q (QS.move rfl) rfl ?_
  apply Tr.andP
  · exact (rfl : _ = (3, 5, 8))
  · exact rfl
  · intro hT1; have hT1' := hT1
    try simp only [bs] at hT1'
    refine Tr.gq rfl rfl hT1 (QS.move rfl) rfl ?_
    refine Tr.gq rfl rfl hT1 (QS.lss rfl rfl) rfl ?_
    refine Tr.q (QS.pickT rfl hT1 rfl) rfl ?_
    refine Tr.nil (Tr.thenN ?_)
    exact Tr.endX (Sub.cons rfl (Sub.dropN 3 (by kernel_rfl) rfl))
  · intro hF1
    refine Tr.gskip rfl rfl hF1 rfl ?_
    refine Tr.gskip rfl rfl hF1 rfl ?_
    refine Tr.q (QS.pickF rfl hF1 rfl) rfl ?_
    refine Tr.nil (Tr.thenN ?_)
    exact Tr.endX (Sub.cons rfl (Sub.dropN 3 (by kernel_rfl) rfl))
  refine Tr.q (QS.assign rfl) rfl ?_
  refine Tr.nil ?_
  refine Tr.thenN ?_
  refine Tr.ret ?_
  refine Tr.ret1 Try.results63 rfl (fun w' hw => ?_)
  exact ⟨rfl, hw.below (Bg.le.refl _)⟩
set_option maxRecDepth 100000 in
set_option maxHeartbeats 2000000 in
theorem narrow_any (n : UInt32) (w : World) :
    Calls Try.prog 85 #[.int .u32 n.toNat] w (fun e w' => e = .returned (.bool (narrowP n)) ∧ Ext w w') := by
  refine enter Try.func85 rfl Try.ntmps85 rfl ?_
  refine Tr.seq ?_
  refine Tr.region ?_
  refine Tr.q (QS.assign rfl) rfl ?_
  refine Tr.nil ?_
  refine Tr.thenN ?_
  refine Tr.seq ?_
  refine Tr.region ?_
  refine Tr.q (QS.move rfl) rfl ?_
  refine Tr.q (QS.leq32 (n := 127) rfl rfl) rfl ?_
  refine Tr.q (QS.move rfl) rfl ?_
  apply Tr.orP
  · exact (rfl : _ = (3, 5, 8))
  · exact rfl
  · intro hF1; have hF1' := hF1
    try simp only [bs] at hF1'
    refine Tr.gq rfl rfl hF1 (QS.move rfl) rfl ?_
    refine Tr.gq rfl rfl hF1 (QS.geq32 (n := 4294967168) rfl rfl) rfl ?_
    refine Tr.q (QS.pickF rfl hF1 rfl) rfl ?_
    refine Tr.nil (Tr.thenN ?_)
    exact Tr.endX (Sub.cons rfl (Sub.dropN 3 (by kernel_rfl) rfl))
  · intro hT1
    refine Tr.gskip rfl rfl hT1 rfl ?_
    refine Tr.gskip rfl rfl hT1 rfl ?_
    refine Tr.q (QS.pickT rfl hT1 rfl) rfl ?_
    refine Tr.nil (Tr.thenN ?_)
    exact Tr.endX (Sub.cons rfl (Sub.dropN 3 (by kernel_rfl) rfl))
  refine Tr.q (QS.assign rfl) rfl ?_
  refine Tr.nil ?_
  refine Tr.thenN ?_
  refine Tr.ret ?_
  refine Tr.ret1 Try.results85 rfl (fun w' hw => ?_)
  exact ⟨rfl, hw.below (Bg.le.refl _)⟩
set_option maxRecDepth 100000 in
set_option maxHeartbeats 2000000 in
theorem access_any (i : Ins) (w : World) :
    Calls Try.prog 88 #[.agg (encIns.enc i).toArray] w (fun e w' => e = .returned ((.tuple #[.int .u8 (accessP i).toNat, .int .i64 5, .bool (decide (accessP i ≠ 0))])) ∧ Ext w w') := by
  refine enter Try.func88 rfl Try.ntmps88 rfl ?_
  refine Tr.seq ?_
  refine Tr.region ?_
  refine Tr.box rfl rfl rfl (fun b1 => ?_)
  refine Tr.q (QS.assign rfl) rfl ?_
  refine Tr.q (QS.assign rfl) rfl ?_
  refine Tr.q (QS.assign rfl) rfl ?_
  refine Tr.nil ?_
  refine Tr.thenN ?_
  refine Tr.seq ?_
  refine Tr.region ?_
  refine Tr.q (QS.assign rfl) rfl ?_
  refine Tr.nil ?_
  refine Tr.thenN ?_
  refine Tr.seqJ (ι := UInt8) (fun c => c = accessP i) (fun _ => Bg.of w) (fun c => [cellE b1 (encIns.enc i) 36]) (fun c => [(5, .int .u8 c.toNat)]) ?_ (fun c hi => ?_)
  · skip
    refine Tr.seq ?_
    refine Tr.region ?_
    refine Tr.q (QS.fieldAddr (off := 2) (ft := 3) rfl Try.underlying36 rfl rfl Try.sizeOf3 (by decide)) rfl ?_
    refine Tr.q (QS.lV rfl Try.isAgg3) rfl ?_
    refine Tr.q (QS.fieldAddr (off := 4) (ft := 3) rfl Try.underlying36 rfl rfl Try.sizeOf3 (by decide)) rfl ?_
    refine Tr.q (QS.lV rfl Try.isAgg3) rfl ?_
    refine Tr.q (QS.build (vs := [(0, _), (1, _)]) rfl rfl (HLF.built135_0_1 _ _)) rfl ?_
    refine Tr.nil ?_
    refine Tr.thenN ?_
    refine Tr.block ?_
    refine Tr.seq ?_
    refine Tr.region ?_
    refine Tr.q (QS.build (vs := [(0, _), (1, _)]) rfl rfl (HLF.built135_0_1 _ _)) rfl ?_
    refine Tr.q (QS.eqlA2 rfl rfl Try.underlying135 Try.underlying3 Try.sizeOf3 Try.isAgg3 HLF.eqg135) rfl ?_
    refine Tr.q (QS.assign rfl) rfl ?_
    refine Tr.nil ?_
    refine Tr.thenN ?_
    refine Tr.cond rfl (fun h2 => ?_) (fun h2 => ?_)
    · try simp only [bs] at h2
      refine Tr.region ?_
      refine Tr.q (QS.assign rfl) rfl ?_
      refine Tr.nil ?_
      refine Tr.inN ?_
      refine Tr.thenN ?_
      apply Tr.joined (80 : UInt8)
      · exact rfl
      · exact (.cons (by first | rfl | exact lookI rfl (by omega) | exact lookI rfl (by simp) | exact lookB rfl (by simp)) Front.nil)
      · exact SubX.dropN 9 (by kernel_rfl) rfl
      · exact (by repeat' (first | exact Pick.nil _ | exact Del.here _ | apply Pick.cons | apply Del.there))
      · exact (by unfold accessP; repeat (first | rw [if_pos (by omega)] | rw [if_neg (by omega)]))
    · try simp only [bs] at h2
      refine Tr.seq ?_
      refine Tr.region ?_
      refine Tr.q (QS.build (vs := [(0, _), (1, _)]) rfl rfl (HLF.built135_0_1 _ _)) rfl ?_
      refine Tr.q (QS.eqlA2 rfl rfl Try.underlying135 Try.underlying3 Try.sizeOf3 Try.isAgg3 HLF.eqg135) rfl ?_
      refine Tr.q (QS.assign rfl) rfl ?_
      refine Tr.nil ?_
      refine Tr.thenN ?_
      refine Tr.cond rfl (fun h3 => ?_) (fun h3 => ?_)
      · try simp only [bs] at h3
        refine Tr.region ?_
        refine Tr.q (QS.assign rfl) rfl ?_
        refine Tr.nil ?_
        refine Tr.inN ?_
        refine Tr.thenN ?_
        apply Tr.joined (81 : UInt8)
        · exact rfl
        · exact (.cons (by first | rfl | exact lookI rfl (by omega) | exact lookI rfl (by simp) | exact lookB rfl (by simp)) Front.nil)
        · exact SubX.dropN 12 (by kernel_rfl) rfl
        · exact (by repeat' (first | exact Pick.nil _ | exact Del.here _ | apply Pick.cons | apply Del.there))
        · exact (by unfold accessP; repeat (first | rw [if_pos (by omega)] | rw [if_neg (by omega)]))
      · try simp only [bs] at h3
        refine Tr.seq ?_
        refine Tr.region ?_
        refine Tr.q (QS.build (vs := [(0, _), (1, _)]) rfl rfl (HLF.built135_0_1 _ _)) rfl ?_
        refine Tr.q (QS.eqlA2 rfl rfl Try.underlying135 Try.underlying3 Try.sizeOf3 Try.isAgg3 HLF.eqg135) rfl ?_
        refine Tr.q (QS.assign rfl) rfl ?_
        refine Tr.nil ?_
        refine Tr.thenN ?_
        refine Tr.cond rfl (fun h4 => ?_) (fun h4 => ?_)
        · try simp only [bs] at h4
          refine Tr.region ?_
          refine Tr.q (QS.assign rfl) rfl ?_
          refine Tr.nil ?_
          refine Tr.inN ?_
          refine Tr.thenN ?_
          apply Tr.joined (82 : UInt8)
          · exact rfl
          · exact (.cons (by first | rfl | exact lookI rfl (by omega) | exact lookI rfl (by simp) | exact lookB rfl (by simp)) Front.nil)
          · exact SubX.dropN 15 (by kernel_rfl) rfl
          · exact (by repeat' (first | exact Pick.nil _ | exact Del.here _ | apply Pick.cons | apply Del.there))
          · exact (by unfold accessP; repeat (first | rw [if_pos (by omega)] | rw [if_neg (by omega)]))
        · try simp only [bs] at h4
          refine Tr.seq ?_
          refine Tr.region ?_
          refine Tr.q (QS.build (vs := [(0, _), (1, _)]) rfl rfl (HLF.built135_0_1 _ _)) rfl ?_
          refine Tr.q (QS.eqlA2 rfl rfl Try.underlying135 Try.underlying3 Try.sizeOf3 Try.isAgg3 HLF.eqg135) rfl ?_
          refine Tr.q (QS.assign rfl) rfl ?_
          refine Tr.nil ?_
          refine Tr.thenN ?_
          refine Tr.cond rfl (fun h5 => ?_) (fun h5 => ?_)
          · try simp only [bs] at h5
            refine Tr.region ?_
            refine Tr.q (QS.assign rfl) rfl ?_
            refine Tr.nil ?_
            refine Tr.inN ?_
            refine Tr.thenN ?_
            apply Tr.joined (83 : UInt8)
            · exact rfl
            · exact (.cons (by first | rfl | exact lookI rfl (by omega) | exact lookI rfl (by simp) | exact lookB rfl (by simp)) Front.nil)
            · exact SubX.dropN 18 (by kernel_rfl) rfl
            · exact (by repeat' (first | exact Pick.nil _ | exact Del.here _ | apply Pick.cons | apply Del.there))
            · exact (by unfold accessP; repeat (first | rw [if_pos (by omega)] | rw [if_neg (by omega)]))
          · try simp only [bs] at h5
            refine Tr.seq ?_
            refine Tr.region ?_
            refine Tr.q (QS.build (vs := [(0, _), (1, _)]) rfl rfl (HLF.built135_0_1 _ _)) rfl ?_
            refine Tr.q (QS.eqlA2 rfl rfl Try.underlying135 Try.underlying3 Try.sizeOf3 Try.isAgg3 HLF.eqg135) rfl ?_
            refine Tr.q (QS.assign rfl) rfl ?_
            refine Tr.nil ?_
            refine Tr.thenN ?_
            refine Tr.cond rfl (fun h6 => ?_) (fun h6 => ?_)
            · try simp only [bs] at h6
              refine Tr.region ?_
              refine Tr.q (QS.assign rfl) rfl ?_
              refine Tr.nil ?_
              refine Tr.inN ?_
              refine Tr.thenN ?_
              apply Tr.joined (84 : UInt8)
              · exact rfl
              · exact (.cons (by first | rfl | exact lookI rfl (by omega) | exact lookI rfl (by simp) | exact lookB rfl (by simp)) Front.nil)
              · exact SubX.dropN 21 (by kernel_rfl) rfl
              · exact (by repeat' (first | exact Pick.nil _ | exact Del.here _ | apply Pick.cons | apply Del.there))
              · exact (by unfold accessP; repeat (first | rw [if_pos (by omega)] | rw [if_neg (by omega)]))
            · try simp only [bs] at h6
              refine Tr.seq ?_
              refine Tr.region ?_
              refine Tr.q (QS.build (vs := [(0, _), (1, _)]) rfl rfl (HLF.built135_0_1 _ _)) rfl ?_
              refine Tr.q (QS.eqlA2 rfl rfl Try.underlying135 Try.underlying3 Try.sizeOf3 Try.isAgg3 HLF.eqg135) rfl ?_
              refine Tr.q (QS.assign rfl) rfl ?_
              refine Tr.nil ?_
              refine Tr.thenN ?_
              refine Tr.cond rfl (fun h7 => ?_) (fun h7 => ?_)
              · try simp only [bs] at h7
                refine Tr.region ?_
                refine Tr.q (QS.assign rfl) rfl ?_
                refine Tr.nil ?_
                refine Tr.inN ?_
                refine Tr.thenN ?_
                apply Tr.joined (85 : UInt8)
                · exact rfl
                · exact (.cons (by first | rfl | exact lookI rfl (by omega) | exact lookI rfl (by simp) | exact lookB rfl (by simp)) Front.nil)
                · exact SubX.dropN 24 (by kernel_rfl) rfl
                · exact (by repeat' (first | exact Pick.nil _ | exact Del.here _ | apply Pick.cons | apply Del.there))
                · exact (by unfold accessP; repeat (first | rw [if_pos (by omega)] | rw [if_neg (by omega)]))
              · try simp only [bs] at h7
                refine Tr.seq ?_
                refine Tr.region ?_
                refine Tr.q (QS.build (vs := [(0, _), (1, _)]) rfl rfl (HLF.built135_0_1 _ _)) rfl ?_
                refine Tr.q (QS.eqlA2 rfl rfl Try.underlying135 Try.underlying3 Try.sizeOf3 Try.isAgg3 HLF.eqg135) rfl ?_
                refine Tr.q (QS.assign rfl) rfl ?_
                refine Tr.nil ?_
                refine Tr.thenN ?_
                refine Tr.cond rfl (fun h8 => ?_) (fun h8 => ?_)
                · try simp only [bs] at h8
                  refine Tr.region ?_
                  refine Tr.q (QS.assign rfl) rfl ?_
                  refine Tr.nil ?_
                  refine Tr.inN ?_
                  refine Tr.thenN ?_
                  apply Tr.joined (86 : UInt8)
                  · exact rfl
                  · exact (.cons (by first | rfl | exact lookI rfl (by omega) | exact lookI rfl (by simp) | exact lookB rfl (by simp)) Front.nil)
                  · exact SubX.dropN 27 (by kernel_rfl) rfl
                  · exact (by repeat' (first | exact Pick.nil _ | exact Del.here _ | apply Pick.cons | apply Del.there))
                  · exact (by unfold accessP; repeat (first | rw [if_pos (by omega)] | rw [if_neg (by omega)]))
                · try simp only [bs] at h8
                  refine Tr.seq ?_
                  refine Tr.region ?_
                  refine Tr.q (QS.build (vs := [(0, _), (1, _)]) rfl rfl (HLF.built135_0_1 _ _)) rfl ?_
                  refine Tr.q (QS.eqlA2 rfl rfl Try.underlying135 Try.underlying3 Try.sizeOf3 Try.isAgg3 HLF.eqg135) rfl ?_
                  refine Tr.q (QS.assign rfl) rfl ?_
                  refine Tr.nil ?_
                  refine Tr.thenN ?_
                  refine Tr.cond rfl (fun h9 => ?_) (fun h9 => ?_)
                  · try simp only [bs] at h9
                    refine Tr.region ?_
                    refine Tr.q (QS.assign rfl) rfl ?_
                    refine Tr.nil ?_
                    refine Tr.inN ?_
                    refine Tr.thenN ?_
                    apply Tr.joined (87 : UInt8)
                    · exact rfl
                    · exact (.cons (by first | rfl | exact lookI rfl (by omega) | exact lookI rfl (by simp) | exact lookB rfl (by simp)) Front.nil)
                    · exact SubX.dropN 30 (by kernel_rfl) rfl
                    · exact (by repeat' (first | exact Pick.nil _ | exact Del.here _ | apply Pick.cons | apply Del.there))
                    · exact (by unfold accessP; repeat (first | rw [if_pos (by omega)] | rw [if_neg (by omega)]))
                  · try simp only [bs] at h9
                    refine Tr.skip ?_
                    refine Tr.inN ?_
                    refine Tr.thenN ?_
                    apply Tr.joined (0 : UInt8)
                    · exact rfl
                    · exact (.cons (by first | rfl | exact lookI rfl (by omega) | exact lookI rfl (by simp) | exact lookB rfl (by simp)) Front.nil)
                    · exact SubX.dropN 29 (by kernel_rfl) rfl
                    · exact (by repeat' (first | exact Pick.nil _ | exact Del.here _ | apply Pick.cons | apply Del.there))
                    · exact (by unfold accessP; repeat (first | rw [if_pos (by omega)] | rw [if_neg (by omega)]))
  · skip
    replace hi : c = accessP i := hi
    change Tr _ _ [cellE b1 (encIns.enc i) 36] ([(5, .int .u8 c.toNat)] ++ _) _
    refine Tr.seq ?_
    refine Tr.region ?_
    refine Tr.q (QS.move rfl) rfl ?_
    refine Tr.q (QS.move rfl) rfl ?_
    refine Tr.q (QS.neq8 (n := 0) rfl rfl) rfl ?_
    refine Tr.q (QS.assign rfl) rfl ?_
    refine Tr.q (QS.assign rfl) rfl ?_
    refine Tr.q (QS.assign rfl) rfl ?_
    refine Tr.nil ?_
    refine Tr.thenN ?_
    refine Tr.ret ?_
    refine Tr.ret3 Try.results88 rfl rfl rfl (fun w' hw => ?_)
    exact ⟨by subst hi; rfl, hw.below (Bg.le.refl _)⟩
set_option maxRecDepth 100000 in
set_option maxHeartbeats 2000000 in
theorem conditional_any (i : Ins) (w : World) :
    Calls Try.prog 89 #[.agg (encIns.enc i).toArray] w (fun e w' => e = .returned ((.tuple #[.int .u8 (condP i).1.toNat, .int .i64 (condP i).2.1, .bool (condP i).2.2])) ∧ Ext w w') := by
  refine enter Try.func89 rfl Try.ntmps89 rfl ?_
  refine Tr.seq ?_
  refine Tr.region ?_
  refine Tr.box rfl rfl rfl (fun b1 => ?_)
  refine Tr.q (QS.assign rfl) rfl ?_
  refine Tr.q (QS.assign rfl) rfl ?_
  refine Tr.q (QS.assign rfl) rfl ?_
  refine Tr.nil ?_
  refine Tr.thenN ?_
  refine Tr.seq ?_
  refine Tr.seq ?_
  refine Tr.region ?_
  refine Tr.q (QS.fieldAddr (off := 5) (ft := 3) rfl Try.underlying36 rfl rfl Try.sizeOf3 (by decide)) rfl ?_
  refine Tr.q (QS.lV rfl Try.isAgg3) rfl ?_
  refine Tr.q (QS.lss rfl rfl) rfl ?_
  refine Tr.q (QS.move rfl) rfl ?_
  apply Tr.orP
  · exact (rfl : _ = (4, 8, 12))
  · exact rfl
  · intro hF2; have hF2' := hF2
    try simp only [bs] at hF2'
    refine Tr.gq rfl rfl hF2 (QS.fieldAddr (off := 5) (ft := 3) rfl Try.underlying36 rfl rfl Try.sizeOf3 (by decide)) rfl ?_
    refine Tr.gq rfl rfl hF2 (QS.lV rfl Try.isAgg3) rfl ?_
    refine Tr.gq rfl rfl hF2 (QS.gtr rfl rfl) rfl ?_
    refine Tr.q (QS.pickF rfl hF2 rfl) rfl ?_
    refine Tr.nil (Tr.thenN ?_)
    exact Tr.endX (Sub.cons rfl (Sub.dropN 4 (by kernel_rfl) rfl))
  · intro hT2
    refine Tr.gskip rfl rfl hT2 rfl ?_
    refine Tr.gskip rfl rfl hT2 rfl ?_
    refine Tr.gskip rfl rfl hT2 rfl ?_
    refine Tr.q (QS.pickT rfl hT2 rfl) rfl ?_
    refine Tr.nil (Tr.thenN ?_)
    exact Tr.endX (Sub.cons rfl (Sub.dropN 4 (by kernel_rfl) rfl))
  refine Tr.nil ?_
  refine Tr.thenN ?_
  refine Tr.cond rfl (fun h3 => ?_) (fun h3 => ?_)
  · try simp only [bs] at h3
    refine Tr.seq ?_
    refine Tr.region ?_
    refine Tr.q (QS.assign rfl) rfl ?_
    refine Tr.q (QS.assign rfl) rfl ?_
    refine Tr.q (QS.assign rfl) rfl ?_
    refine Tr.nil ?_
    refine Tr.thenN ?_
    refine Tr.ret ?_
    refine Tr.thenR ?_
    refine Tr.ret3 Try.results89 rfl rfl rfl (fun w' hw => ?_)
    exact ⟨by unfold condP; (repeat (first | rw [if_pos (by omega)] | rw [if_neg (by omega)])) <;> rfl, hw.below (Bg.le.refl _)⟩
  · try simp only [bs] at h3
    refine Tr.skip ?_
    refine Tr.thenN ?_
    refine Tr.seq ?_
    refine Tr.block ?_
    refine Tr.seq ?_
    refine Tr.region ?_
    refine Tr.q (QS.fieldAddr (off := 2) (ft := 3) rfl Try.underlying36 rfl rfl Try.sizeOf3 (by decide)) rfl ?_
    refine Tr.q (QS.lV rfl Try.isAgg3) rfl ?_
    refine Tr.q (QS.eql rfl rfl) rfl ?_
    refine Tr.q (QS.assign rfl) rfl ?_
    refine Tr.nil ?_
    refine Tr.thenN ?_
    refine Tr.cond rfl (fun h4 => ?_) (fun h4 => ?_)
    · try simp only [bs] at h4
      refine Tr.seq ?_
      refine Tr.region ?_
      refine Tr.q (QS.fieldAddr (off := 5) (ft := 3) rfl Try.underlying36 rfl rfl Try.sizeOf3 (by decide)) rfl ?_
      refine Tr.q (QS.lV rfl Try.isAgg3) rfl ?_
      refine Tr.q (QS.cvtTo8 rfl Try.underlying3 Try.underlying5) rfl ?_
      refine Tr.q (QS.add8 (m := 144) rfl rfl) rfl ?_
      refine Tr.q (QS.assign rfl) rfl ?_
      refine Tr.q (QS.assign rfl) rfl ?_
      refine Tr.q (QS.assign rfl) rfl ?_
      refine Tr.nil ?_
      refine Tr.thenN ?_
      refine Tr.ret ?_
      refine Tr.inR ?_
      refine Tr.thenR ?_
      refine Tr.ret3 Try.results89 rfl rfl rfl (fun w' hw => ?_)
      exact ⟨by unfold condP; (repeat (first | rw [if_pos (by omega)] | rw [if_neg (by omega)])) <;> rfl, hw.below (Bg.le.refl _)⟩
    · try simp only [bs] at h4
      refine Tr.seq ?_
      refine Tr.region ?_
      refine Tr.q (QS.fieldAddr (off := 3) (ft := 3) rfl Try.underlying36 rfl rfl Try.sizeOf3 (by decide)) rfl ?_
      refine Tr.q (QS.lV rfl Try.isAgg3) rfl ?_
      refine Tr.q (QS.eql rfl rfl) rfl ?_
      refine Tr.q (QS.assign rfl) rfl ?_
      refine Tr.nil ?_
      refine Tr.thenN ?_
      refine Tr.cond rfl (fun h5 => ?_) (fun h5 => ?_)
      · try simp only [bs] at h5
        refine Tr.seq ?_
        refine Tr.region ?_
        refine Tr.q (QS.fieldAddr (off := 5) (ft := 3) rfl Try.underlying36 rfl rfl Try.sizeOf3 (by decide)) rfl ?_
        refine Tr.q (QS.lV rfl Try.isAgg3) rfl ?_
        refine Tr.q (QS.cvtTo8 rfl Try.underlying3 Try.underlying5) rfl ?_
        refine Tr.q (QS.add8 (m := 96) rfl rfl) rfl ?_
        refine Tr.q (QS.assign rfl) rfl ?_
        refine Tr.q (QS.assign rfl) rfl ?_
        refine Tr.q (QS.assign rfl) rfl ?_
        refine Tr.nil ?_
        refine Tr.thenN ?_
        refine Tr.ret ?_
        refine Tr.inR ?_
        refine Tr.thenR ?_
        refine Tr.ret3 Try.results89 rfl rfl rfl (fun w' hw => ?_)
        exact ⟨by unfold condP; (repeat (first | rw [if_pos (by omega)] | rw [if_neg (by omega)])) <;> rfl, hw.below (Bg.le.refl _)⟩
      · try simp only [bs] at h5
        refine Tr.seq ?_
        refine Tr.region ?_
        refine Tr.q (QS.fieldAddr (off := 3) (ft := 3) rfl Try.underlying36 rfl rfl Try.sizeOf3 (by decide)) rfl ?_
        refine Tr.q (QS.lV rfl Try.isAgg3) rfl ?_
        refine Tr.q (QS.eql rfl rfl) rfl ?_
        refine Tr.q (QS.assign rfl) rfl ?_
        refine Tr.nil ?_
        refine Tr.thenN ?_
        refine Tr.cond rfl (fun h6 => ?_) (fun h6 => ?_)
        · try simp only [bs] at h6
          refine Tr.seq ?_
          refine Tr.region ?_
          refine Tr.q (QS.fieldAddr (off := 5) (ft := 3) rfl Try.underlying36 rfl rfl Try.sizeOf3 (by decide)) rfl ?_
          refine Tr.q (QS.lV rfl Try.isAgg3) rfl ?_
          refine Tr.q (QS.cvtTo8 rfl Try.underlying3 Try.underlying5) rfl ?_
          refine Tr.q (QS.add8 (m := 112) rfl rfl) rfl ?_
          refine Tr.q (QS.assign rfl) rfl ?_
          refine Tr.q (QS.assign rfl) rfl ?_
          refine Tr.q (QS.assign rfl) rfl ?_
          refine Tr.nil ?_
          refine Tr.thenN ?_
          refine Tr.ret ?_
          refine Tr.inR ?_
          refine Tr.thenR ?_
          refine Tr.ret3 Try.results89 rfl rfl rfl (fun w' hw => ?_)
          exact ⟨by unfold condP; (repeat (first | rw [if_pos (by omega)] | rw [if_neg (by omega)])) <;> rfl, hw.below (Bg.le.refl _)⟩
        · try simp only [bs] at h6
          refine Tr.skip ?_
          refine Tr.inN ?_
          refine Tr.thenN ?_
          refine Tr.seq ?_
          refine Tr.region ?_
          refine Tr.q (QS.assign rfl) rfl ?_
          refine Tr.q (QS.assign rfl) rfl ?_
          refine Tr.q (QS.assign rfl) rfl ?_
          refine Tr.nil ?_
          refine Tr.thenN ?_
          refine Tr.ret ?_
          refine Tr.ret3 Try.results89 rfl rfl rfl (fun w' hw => ?_)
          exact ⟨by unfold condP; (repeat (first | rw [if_pos (by omega)] | rw [if_neg (by omega)])) <;> rfl, hw.below (Bg.le.refl _)⟩
set_option maxRecDepth 100000 in
set_option maxHeartbeats 2000000 in
theorem opcode_any (i : Ins) (w : World) (hI : InsOK i) :
    Calls Try.prog 60 #[.agg (encIns.enc i).toArray] w (fun e w' => e = .returned ((.tuple #[.int .u8 (opcodeP i).1.toNat, .int .i64 (opcodeP i).2.1, .bool (opcodeP i).2.2])) ∧ Ext w w') := by
  have hop := hI.op; unfold I64 at hop
  refine enter Try.func60 rfl Try.ntmps60 rfl ?_
  refine Tr.seq ?_
  refine Tr.region ?_
  refine Tr.box rfl rfl rfl (fun b1 => ?_)
  refine Tr.q (QS.assign rfl) rfl ?_
  refine Tr.q (QS.assign rfl) rfl ?_
  refine Tr.q (QS.assign rfl) rfl ?_
  refine Tr.nil ?_
  refine Tr.thenN ?_
  refine Tr.seq ?_
  refine Tr.block ?_
  refine Tr.seq ?_
  refine Tr.seq ?_
  refine Tr.region ?_
  refine Tr.q (QS.fieldAddr (off := 2) (ft := 3) rfl Try.underlying36 rfl rfl Try.sizeOf3 (by decide)) rfl ?_
  refine Tr.q (QS.lV rfl Try.isAgg3) rfl ?_
  refine Tr.q (QS.eql rfl rfl) rfl ?_
  refine Tr.q (QS.assign rfl) rfl ?_
  refine Tr.nil ?_
  refine Tr.thenN ?_
  apply Tr.condOr
  · exact rfl
  · intro hO2
    try simp only [bs] at hO2
    refine Tr.seq ?_
    refine Tr.region ?_
    refine Tr.q (QS.fieldAddr (off := 2) (ft := 3) rfl Try.underlying36 rfl rfl Try.sizeOf3 (by decide)) rfl ?_
    refine Tr.q (QS.lV rfl Try.isAgg3) rfl ?_
    refine Tr.q (QS.eql rfl rfl) rfl ?_
    refine Tr.q (QS.assign rfl) rfl ?_
    refine Tr.nil ?_
    refine Tr.thenN ?_
    apply Tr.condOr
    · exact rfl
    · intro hO3
      try simp only [bs] at hO3
      refine Tr.region ?_
      refine Tr.q (QS.fieldAddr (off := 2) (ft := 3) rfl Try.underlying36 rfl rfl Try.sizeOf3 (by decide)) rfl ?_
      refine Tr.q (QS.lV rfl Try.isAgg3) rfl ?_
      refine Tr.q (QS.eql rfl rfl) rfl ?_
      refine Tr.q (QS.assign rfl) rfl ?_
      refine Tr.nil ?_
      refine Tr.thenN ?_
      exact Tr.endOr rfl (SubX.dropN 4 (by kernel_rfl) rfl)
    refine Tr.thenN ?_
    exact Tr.endOr rfl (SubX.dropN 5 (by kernel_rfl) rfl)
  refine Tr.thenN ?_
  refine Tr.cond rfl (fun h4 => ?_) (fun h4 => ?_)
  · try simp only [bs] at h4
    refine Tr.seq ?_
    refine Tr.region ?_
    refine Tr.q (QS.fieldAddr (off := 2) (ft := 3) rfl Try.underlying36 rfl rfl Try.sizeOf3 (by decide)) rfl ?_
    refine Tr.q (QS.lV rfl Try.isAgg3) rfl ?_
    refine Tr.q (QS.cvtTo8 rfl Try.underlying3 Try.underlying5) rfl ?_
    refine Tr.q (QS.assign rfl) rfl ?_
    refine Tr.q (QS.assign rfl) rfl ?_
    refine Tr.q (QS.assign rfl) rfl ?_
    refine Tr.nil ?_
    refine Tr.thenN ?_
    refine Tr.ret ?_
    refine Tr.inR ?_
    refine Tr.thenR ?_
    refine Tr.ret3 Try.results60 rfl rfl rfl (fun w' hw => ?_)
    exact ⟨by unfold opcodeP; (repeat (first | rw [if_pos (by omega)] | rw [if_neg (by omega)])) <;> rfl, hw.below (Bg.le.refl _)⟩
  · try simp only [bs] at h4
    refine Tr.seq ?_
    refine Tr.region ?_
    refine Tr.q (QS.fieldAddr (off := 2) (ft := 3) rfl Try.underlying36 rfl rfl Try.sizeOf3 (by decide)) rfl ?_
    refine Tr.q (QS.lV rfl Try.isAgg3) rfl ?_
    refine Tr.q (QS.eql rfl rfl) rfl ?_
    refine Tr.q (QS.assign rfl) rfl ?_
    refine Tr.nil ?_
    refine Tr.thenN ?_
    refine Tr.cond rfl (fun h5 => ?_) (fun h5 => ?_)
    · try simp only [bs] at h5
      refine Tr.seq ?_
      refine Tr.region ?_
      refine Tr.q (QS.fieldAddr (off := 6) (ft := 3) rfl Try.underlying36 rfl rfl Try.sizeOf3 (by decide)) rfl ?_
      refine Tr.q (QS.lV rfl Try.isAgg3) rfl ?_
      refine Tr.q (QS.and7 rfl rfl) rfl ?_
      refine Tr.q (QS.cvtTo8 rfl Try.underlying3 Try.underlying5) rfl ?_
      refine Tr.q (QS.add8 (m := 8) rfl rfl) rfl ?_
      refine Tr.q (QS.assign rfl) rfl ?_
      refine Tr.q (QS.assign rfl) rfl ?_
      refine Tr.q (QS.assign rfl) rfl ?_
      refine Tr.nil ?_
      refine Tr.thenN ?_
      refine Tr.ret ?_
      refine Tr.inR ?_
      refine Tr.thenR ?_
      refine Tr.ret3 Try.results60 rfl rfl rfl (fun w' hw => ?_)
      exact ⟨by unfold opcodeP; (repeat (first | rw [if_pos (by omega)] | rw [if_neg (by omega)])) <;> rfl, hw.below (Bg.le.refl _)⟩
    · try simp only [bs] at h5
      refine Tr.seq ?_
      refine Tr.region ?_
      refine Tr.q (QS.fieldAddr (off := 2) (ft := 3) rfl Try.underlying36 rfl rfl Try.sizeOf3 (by decide)) rfl ?_
      refine Tr.q (QS.lV rfl Try.isAgg3) rfl ?_
      refine Tr.q (QS.eql rfl rfl) rfl ?_
      refine Tr.q (QS.assign rfl) rfl ?_
      refine Tr.nil ?_
      refine Tr.thenN ?_
      refine Tr.cond rfl (fun h6 => ?_) (fun h6 => ?_)
      · try simp only [bs] at h6
        refine Tr.seq ?_
        refine Tr.region ?_
        refine Tr.q (QS.fieldAddr (off := 6) (ft := 3) rfl Try.underlying36 rfl rfl Try.sizeOf3 (by decide)) rfl ?_
        refine Tr.q (QS.lV rfl Try.isAgg3) rfl ?_
        refine Tr.q (QS.and7 rfl rfl) rfl ?_
        refine Tr.q (QS.cvtTo8 rfl Try.underlying3 Try.underlying5) rfl ?_
        refine Tr.q (QS.add8 (m := 16) rfl rfl) rfl ?_
        refine Tr.q (QS.assign rfl) rfl ?_
        refine Tr.q (QS.assign rfl) rfl ?_
        refine Tr.q (QS.assign rfl) rfl ?_
        refine Tr.nil ?_
        refine Tr.thenN ?_
        refine Tr.ret ?_
        refine Tr.inR ?_
        refine Tr.thenR ?_
        refine Tr.ret3 Try.results60 rfl rfl rfl (fun w' hw => ?_)
        exact ⟨by unfold opcodeP; (repeat (first | rw [if_pos (by omega)] | rw [if_neg (by omega)])) <;> rfl, hw.below (Bg.le.refl _)⟩
      · try simp only [bs] at h6
        refine Tr.seq ?_
        refine Tr.region ?_
        refine Tr.q (QS.fieldAddr (off := 2) (ft := 3) rfl Try.underlying36 rfl rfl Try.sizeOf3 (by decide)) rfl ?_
        refine Tr.q (QS.lV rfl Try.isAgg3) rfl ?_
        refine Tr.q (QS.geq rfl rfl) rfl ?_
        refine Tr.q (QS.move rfl) rfl ?_
        apply Tr.andP
        · exact (rfl : _ = (4, 41, 45))
        · exact rfl
        · intro hT7; have hT7' := hT7
          try simp only [bs] at hT7'
          refine Tr.gq rfl rfl hT7 (QS.fieldAddr (off := 2) (ft := 3) rfl Try.underlying36 rfl rfl Try.sizeOf3 (by decide)) rfl ?_
          refine Tr.gq rfl rfl hT7 (QS.lV rfl Try.isAgg3) rfl ?_
          refine Tr.gq rfl rfl hT7 (QS.leq rfl rfl) rfl ?_
          refine Tr.q (QS.pickT rfl hT7 rfl) rfl ?_
          refine Tr.nil (Tr.thenN ?_)
          exact Tr.endX (Sub.cons rfl (Sub.dropN 4 (by kernel_rfl) rfl))
        · intro hF7
          refine Tr.gskip rfl rfl hF7 rfl ?_
          refine Tr.gskip rfl rfl hF7 rfl ?_
          refine Tr.gskip rfl rfl hF7 rfl ?_
          refine Tr.q (QS.pickF rfl hF7 rfl) rfl ?_
          refine Tr.nil (Tr.thenN ?_)
          exact Tr.endX (Sub.cons rfl (Sub.dropN 4 (by kernel_rfl) rfl))
        refine Tr.q (QS.assign rfl) rfl ?_
        refine Tr.nil ?_
        refine Tr.thenN ?_
        refine Tr.cond rfl (fun h8 => ?_) (fun h8 => ?_)
        · try simp only [bs] at h8
          refine Tr.seq ?_
          refine Tr.region ?_
          refine Tr.q (QS.fieldAddr (off := 2) (ft := 3) rfl Try.underlying36 rfl rfl Try.sizeOf3 (by decide)) rfl ?_
          refine Tr.q (QS.lV rfl Try.isAgg3) rfl ?_
          refine Tr.q (QS.subI rfl rfl (by omega)) rfl ?_
          refine Tr.q (QS.cvtTo8 rfl Try.underlying3 Try.underlying5) rfl ?_
          refine Tr.q (QS.assign rfl) rfl ?_
          refine Tr.nil ?_
          refine Tr.thenN ?_
          refine Tr.seq ?_
          refine Tr.region ?_
          refine Tr.q (QS.fieldAddr (off := 3) (ft := 3) rfl Try.underlying36 rfl rfl Try.sizeOf3 (by decide)) rfl ?_
          refine Tr.q (QS.lV rfl Try.isAgg3) rfl ?_
          refine Tr.nil ?_
          refine Tr.thenN ?_
          refine Tr.block ?_
          refine Tr.seq ?_
          refine Tr.region ?_
          refine Tr.q (QS.eql rfl rfl) rfl ?_
          refine Tr.q (QS.assign rfl) rfl ?_
          refine Tr.nil ?_
          refine Tr.thenN ?_
          refine Tr.cond rfl (fun h9 => ?_) (fun h9 => ?_)
          · try simp only [bs] at h9
            refine Tr.seq ?_
            refine Tr.region ?_
            refine Tr.q (QS.move rfl) rfl ?_
            refine Tr.q (QS.add8 (m := 32) rfl rfl) rfl ?_
            refine Tr.q (QS.assign rfl) rfl ?_
            refine Tr.q (QS.assign rfl) rfl ?_
            refine Tr.q (QS.assign rfl) rfl ?_
            refine Tr.nil ?_
            refine Tr.thenN ?_
            refine Tr.ret ?_
            refine Tr.inR ?_
            refine Tr.inR ?_
            refine Tr.thenR ?_
            refine Tr.ret3 Try.results60 rfl rfl rfl (fun w' hw => ?_)
            exact ⟨by unfold opcodeP; (repeat (first | rw [if_pos (by omega)] | rw [if_neg (by omega)])) <;> rfl, hw.below (Bg.le.refl _)⟩
          · try simp only [bs] at h9
            refine Tr.seq ?_
            refine Tr.region ?_
            refine Tr.q (QS.eql rfl rfl) rfl ?_
            refine Tr.q (QS.assign rfl) rfl ?_
            refine Tr.nil ?_
            refine Tr.thenN ?_
            refine Tr.cond rfl (fun h10 => ?_) (fun h10 => ?_)
            · try simp only [bs] at h10
              refine Tr.seq ?_
              refine Tr.region ?_
              refine Tr.q (QS.move rfl) rfl ?_
              refine Tr.q (QS.add8 (m := 48) rfl rfl) rfl ?_
              refine Tr.q (QS.assign rfl) rfl ?_
              refine Tr.q (QS.assign rfl) rfl ?_
              refine Tr.q (QS.assign rfl) rfl ?_
              refine Tr.nil ?_
              refine Tr.thenN ?_
              refine Tr.ret ?_
              refine Tr.inR ?_
              refine Tr.inR ?_
              refine Tr.thenR ?_
              refine Tr.ret3 Try.results60 rfl rfl rfl (fun w' hw => ?_)
              exact ⟨by unfold opcodeP; (repeat (first | rw [if_pos (by omega)] | rw [if_neg (by omega)])) <;> rfl, hw.below (Bg.le.refl _)⟩
            · try simp only [bs] at h10
              refine Tr.seq ?_
              refine Tr.region ?_
              refine Tr.q (QS.eql rfl rfl) rfl ?_
              refine Tr.q (QS.assign rfl) rfl ?_
              refine Tr.nil ?_
              refine Tr.thenN ?_
              refine Tr.cond rfl (fun h11 => ?_) (fun h11 => ?_)
              · try simp only [bs] at h11
                refine Tr.seq ?_
                refine Tr.region ?_
                refine Tr.q (QS.move rfl) rfl ?_
                refine Tr.q (QS.add8 (m := 64) rfl rfl) rfl ?_
                refine Tr.q (QS.assign rfl) rfl ?_
                refine Tr.q (QS.assign rfl) rfl ?_
                refine Tr.q (QS.assign rfl) rfl ?_
                refine Tr.nil ?_
                refine Tr.thenN ?_
                refine Tr.ret ?_
                refine Tr.inR ?_
                refine Tr.inR ?_
                refine Tr.thenR ?_
                refine Tr.ret3 Try.results60 rfl rfl rfl (fun w' hw => ?_)
                exact ⟨by unfold opcodeP; (repeat (first | rw [if_pos (by omega)] | rw [if_neg (by omega)])) <;> rfl, hw.below (Bg.le.refl _)⟩
              · try simp only [bs] at h11
                refine Tr.skip ?_
                refine Tr.inN ?_
                refine Tr.inN ?_
                refine Tr.thenN ?_
                refine Tr.seq ?_
                refine Tr.region ?_
                refine Tr.q (QS.assign rfl) rfl ?_
                refine Tr.q (QS.assign rfl) rfl ?_
                refine Tr.q (QS.assign rfl) rfl ?_
                refine Tr.nil ?_
                refine Tr.thenN ?_
                refine Tr.ret ?_
                refine Tr.ret3 Try.results60 rfl rfl rfl (fun w' hw => ?_)
                exact ⟨by unfold opcodeP; (repeat (first | rw [if_pos (by omega)] | rw [if_neg (by omega)])) <;> rfl, hw.below (Bg.le.refl _)⟩
        · try simp only [bs] at h8
          refine Tr.seq ?_
          refine Tr.seq ?_
          refine Tr.region ?_
          refine Tr.q (QS.fieldAddr (off := 2) (ft := 3) rfl Try.underlying36 rfl rfl Try.sizeOf3 (by decide)) rfl ?_
          refine Tr.q (QS.lV rfl Try.isAgg3) rfl ?_
          refine Tr.q (QS.eql rfl rfl) rfl ?_
          refine Tr.q (QS.assign rfl) rfl ?_
          refine Tr.nil ?_
          refine Tr.thenN ?_
          apply Tr.condOr
          · exact rfl
          · intro hO12
            try simp only [bs] at hO12
            refine Tr.seq ?_
            refine Tr.region ?_
            refine Tr.q (QS.fieldAddr (off := 2) (ft := 3) rfl Try.underlying36 rfl rfl Try.sizeOf3 (by decide)) rfl ?_
            refine Tr.q (QS.lV rfl Try.isAgg3) rfl ?_
            refine Tr.q (QS.eql rfl rfl) rfl ?_
            refine Tr.q (QS.assign rfl) rfl ?_
            refine Tr.nil ?_
            refine Tr.thenN ?_
            apply Tr.condOr
            · exact rfl
            · intro hO13
              try simp only [bs] at hO13
              refine Tr.region ?_
              refine Tr.q (QS.fieldAddr (off := 2) (ft := 3) rfl Try.underlying36 rfl rfl Try.sizeOf3 (by decide)) rfl ?_
              refine Tr.q (QS.lV rfl Try.isAgg3) rfl ?_
              refine Tr.q (QS.eql rfl rfl) rfl ?_
              refine Tr.q (QS.assign rfl) rfl ?_
              refine Tr.nil ?_
              refine Tr.thenN ?_
              exact Tr.endOr rfl (SubX.dropN 4 (by kernel_rfl) rfl)
            refine Tr.thenN ?_
            exact Tr.endOr rfl (SubX.dropN 5 (by kernel_rfl) rfl)
          refine Tr.thenN ?_
          refine Tr.cond rfl (fun h14 => ?_) (fun h14 => ?_)
          · try simp only [bs] at h14
            refine Tr.seq ?_
            refine Tr.region ?_
            refine Tr.q (QS.lW rfl Try.isAgg36 Try.sizeOf36) rfl ?_
            refine Tr.q (QS.call rfl Try.call88 (fun w hw => access_any i w)) rfl ?_
            refine Tr.q (QS.extract rfl rfl) rfl ?_
            refine Tr.q (QS.extract rfl rfl) rfl ?_
            refine Tr.q (QS.extract rfl rfl) rfl ?_
            refine Tr.q (QS.assign rfl) rfl ?_
            refine Tr.q (QS.assign rfl) rfl ?_
            refine Tr.q (QS.assign rfl) rfl ?_
            refine Tr.nil ?_
            refine Tr.thenN ?_
            refine Tr.ret ?_
            refine Tr.inR ?_
            refine Tr.thenR ?_
            refine Tr.ret3 Try.results60 rfl rfl rfl (fun w' hw => ?_)
            exact ⟨by unfold opcodeP; (repeat (first | rw [if_pos (by omega)] | rw [if_neg (by omega)])) <;> rfl, hw.below (Bg.le.refl _)⟩
          · try simp only [bs] at h14
            refine Tr.seq ?_
            refine Tr.region ?_
            refine Tr.q (QS.fieldAddr (off := 2) (ft := 3) rfl Try.underlying36 rfl rfl Try.sizeOf3 (by decide)) rfl ?_
            refine Tr.q (QS.lV rfl Try.isAgg3) rfl ?_
            refine Tr.q (QS.eql rfl rfl) rfl ?_
            refine Tr.q (QS.assign rfl) rfl ?_
            refine Tr.nil ?_
            refine Tr.thenN ?_
            refine Tr.cond rfl (fun h15 => ?_) (fun h15 => ?_)
            · try simp only [bs] at h15
              refine Tr.seq ?_
              refine Tr.region ?_
              refine Tr.q (QS.assign rfl) rfl ?_
              refine Tr.q (QS.assign rfl) rfl ?_
              refine Tr.q (QS.assign rfl) rfl ?_
              refine Tr.nil ?_
              refine Tr.thenN ?_
              refine Tr.ret ?_
              refine Tr.inR ?_
              refine Tr.thenR ?_
              refine Tr.ret3 Try.results60 rfl rfl rfl (fun w' hw => ?_)
              exact ⟨by unfold opcodeP; (repeat (first | rw [if_pos (by omega)] | rw [if_neg (by omega)])) <;> rfl, hw.below (Bg.le.refl _)⟩
            · try simp only [bs] at h15
              refine Tr.seq ?_
              refine Tr.region ?_
              refine Tr.q (QS.fieldAddr (off := 2) (ft := 3) rfl Try.underlying36 rfl rfl Try.sizeOf3 (by decide)) rfl ?_
              refine Tr.q (QS.lV rfl Try.isAgg3) rfl ?_
              refine Tr.q (QS.eql rfl rfl) rfl ?_
              refine Tr.q (QS.move rfl) rfl ?_
              apply Tr.orP
              · exact (rfl : _ = (4, 87, 91))
              · exact rfl
              · intro hF16; have hF16' := hF16
                try simp only [bs] at hF16'
                refine Tr.gq rfl rfl hF16 (QS.fieldAddr (off := 2) (ft := 3) rfl Try.underlying36 rfl rfl Try.sizeOf3 (by decide)) rfl ?_
                refine Tr.gq rfl rfl hF16 (QS.lV rfl Try.isAgg3) rfl ?_
                refine Tr.gq rfl rfl hF16 (QS.eql rfl rfl) rfl ?_
                refine Tr.q (QS.pickF rfl hF16 rfl) rfl ?_
                refine Tr.nil (Tr.thenN ?_)
                exact Tr.endX (Sub.cons rfl (Sub.dropN 4 (by kernel_rfl) rfl))
              · intro hT16
                refine Tr.gskip rfl rfl hT16 rfl ?_
                refine Tr.gskip rfl rfl hT16 rfl ?_
                refine Tr.gskip rfl rfl hT16 rfl ?_
                refine Tr.q (QS.pickT rfl hT16 rfl) rfl ?_
                refine Tr.nil (Tr.thenN ?_)
                exact Tr.endX (Sub.cons rfl (Sub.dropN 4 (by kernel_rfl) rfl))
              refine Tr.q (QS.assign rfl) rfl ?_
              refine Tr.nil ?_
              refine Tr.thenN ?_
              refine Tr.cond rfl (fun h17 => ?_) (fun h17 => ?_)
              · try simp only [bs] at h17
                refine Tr.seq ?_
                refine Tr.region ?_
                refine Tr.q (QS.lW rfl Try.isAgg36 Try.sizeOf36) rfl ?_
                refine Tr.q (QS.call rfl Try.call89 (fun w hw => conditional_any i w)) rfl ?_
                refine Tr.q (QS.extract rfl rfl) rfl ?_
                refine Tr.q (QS.extract rfl rfl) rfl ?_
                refine Tr.q (QS.extract rfl rfl) rfl ?_
                refine Tr.q (QS.assign rfl) rfl ?_
                refine Tr.q (QS.assign rfl) rfl ?_
                refine Tr.q (QS.assign rfl) rfl ?_
                refine Tr.nil ?_
                refine Tr.thenN ?_
                refine Tr.ret ?_
                refine Tr.inR ?_
                refine Tr.thenR ?_
                refine Tr.ret3 Try.results60 rfl rfl rfl (fun w' hw => ?_)
                exact ⟨by unfold opcodeP; (repeat (first | rw [if_pos (by omega)] | rw [if_neg (by omega)])) <;> rfl, hw.below (Bg.le.refl _)⟩
              · try simp only [bs] at h17
                refine Tr.seq ?_
                refine Tr.region ?_
                refine Tr.q (QS.fieldAddr (off := 2) (ft := 3) rfl Try.underlying36 rfl rfl Try.sizeOf3 (by decide)) rfl ?_
                refine Tr.q (QS.lV rfl Try.isAgg3) rfl ?_
                refine Tr.q (QS.eql rfl rfl) rfl ?_
                refine Tr.q (QS.assign rfl) rfl ?_
                refine Tr.nil ?_
                refine Tr.thenN ?_
                refine Tr.cond rfl (fun h18 => ?_) (fun h18 => ?_)
                · try simp only [bs] at h18
                  refine Tr.seq ?_
                  refine Tr.region ?_
                  refine Tr.q (QS.assign rfl) rfl ?_
                  refine Tr.q (QS.assign rfl) rfl ?_
                  refine Tr.q (QS.assign rfl) rfl ?_
                  refine Tr.nil ?_
                  refine Tr.thenN ?_
                  refine Tr.ret ?_
                  refine Tr.inR ?_
                  refine Tr.thenR ?_
                  refine Tr.ret3 Try.results60 rfl rfl rfl (fun w' hw => ?_)
                  exact ⟨by unfold opcodeP; (repeat (first | rw [if_pos (by omega)] | rw [if_neg (by omega)])) <;> rfl, hw.below (Bg.le.refl _)⟩
                · try simp only [bs] at h18
                  refine Tr.seq ?_
                  refine Tr.region ?_
                  refine Tr.q (QS.fieldAddr (off := 2) (ft := 3) rfl Try.underlying36 rfl rfl Try.sizeOf3 (by decide)) rfl ?_
                  refine Tr.q (QS.lV rfl Try.isAgg3) rfl ?_
                  refine Tr.q (QS.eql rfl rfl) rfl ?_
                  refine Tr.q (QS.assign rfl) rfl ?_
                  refine Tr.nil ?_
                  refine Tr.thenN ?_
                  refine Tr.cond rfl (fun h19 => ?_) (fun h19 => ?_)
                  · try simp only [bs] at h19
                    refine Tr.seq ?_
                    refine Tr.region ?_
                    refine Tr.q (QS.assign rfl) rfl ?_
                    refine Tr.q (QS.assign rfl) rfl ?_
                    refine Tr.q (QS.assign rfl) rfl ?_
                    refine Tr.nil ?_
                    refine Tr.thenN ?_
                    refine Tr.ret ?_
                    refine Tr.inR ?_
                    refine Tr.thenR ?_
                    refine Tr.ret3 Try.results60 rfl rfl rfl (fun w' hw => ?_)
                    exact ⟨by unfold opcodeP; (repeat (first | rw [if_pos (by omega)] | rw [if_neg (by omega)])) <;> rfl, hw.below (Bg.le.refl _)⟩
                  · try simp only [bs] at h19
                    refine Tr.seq ?_
                    refine Tr.region ?_
                    refine Tr.q (QS.fieldAddr (off := 2) (ft := 3) rfl Try.underlying36 rfl rfl Try.sizeOf3 (by decide)) rfl ?_
                    refine Tr.q (QS.lV rfl Try.isAgg3) rfl ?_
                    refine Tr.q (QS.eql rfl rfl) rfl ?_
                    refine Tr.q (QS.assign rfl) rfl ?_
                    refine Tr.nil ?_
                    refine Tr.thenN ?_
                    refine Tr.cond rfl (fun h20 => ?_) (fun h20 => ?_)
                    · try simp only [bs] at h20
                      refine Tr.seq ?_
                      refine Tr.region ?_
                      refine Tr.q (QS.assign rfl) rfl ?_
                      refine Tr.q (QS.assign rfl) rfl ?_
                      refine Tr.q (QS.assign rfl) rfl ?_
                      refine Tr.nil ?_
                      refine Tr.thenN ?_
                      refine Tr.ret ?_
                      refine Tr.inR ?_
                      refine Tr.thenR ?_
                      refine Tr.ret3 Try.results60 rfl rfl rfl (fun w' hw => ?_)
                      exact ⟨by unfold opcodeP; (repeat (first | rw [if_pos (by omega)] | rw [if_neg (by omega)])) <;> rfl, hw.below (Bg.le.refl _)⟩
                    · try simp only [bs] at h20
                      refine Tr.seq ?_
                      refine Tr.region ?_
                      refine Tr.q (QS.fieldAddr (off := 2) (ft := 3) rfl Try.underlying36 rfl rfl Try.sizeOf3 (by decide)) rfl ?_
                      refine Tr.q (QS.lV rfl Try.isAgg3) rfl ?_
                      refine Tr.q (QS.eql rfl rfl) rfl ?_
                      refine Tr.q (QS.assign rfl) rfl ?_
                      refine Tr.nil ?_
                      refine Tr.thenN ?_
                      refine Tr.cond rfl (fun h21 => ?_) (fun h21 => ?_)
                      · try simp only [bs] at h21
                        refine Tr.seq ?_
                        refine Tr.region ?_
                        refine Tr.q (QS.assign rfl) rfl ?_
                        refine Tr.q (QS.assign rfl) rfl ?_
                        refine Tr.q (QS.assign rfl) rfl ?_
                        refine Tr.nil ?_
                        refine Tr.thenN ?_
                        refine Tr.ret ?_
                        refine Tr.inR ?_
                        refine Tr.thenR ?_
                        refine Tr.ret3 Try.results60 rfl rfl rfl (fun w' hw => ?_)
                        exact ⟨by unfold opcodeP; (repeat (first | rw [if_pos (by omega)] | rw [if_neg (by omega)])) <;> rfl, hw.below (Bg.le.refl _)⟩
                      · try simp only [bs] at h21
                        refine Tr.seq ?_
                        refine Tr.region ?_
                        refine Tr.q (QS.fieldAddr (off := 2) (ft := 3) rfl Try.underlying36 rfl rfl Try.sizeOf3 (by decide)) rfl ?_
                        refine Tr.q (QS.lV rfl Try.isAgg3) rfl ?_
                        refine Tr.q (QS.eql rfl rfl) rfl ?_
                        refine Tr.q (QS.assign rfl) rfl ?_
                        refine Tr.nil ?_
                        refine Tr.thenN ?_
                        refine Tr.cond rfl (fun h22 => ?_) (fun h22 => ?_)
                        · try simp only [bs] at h22
                          refine Tr.seq ?_
                          refine Tr.region ?_
                          refine Tr.q (QS.assign rfl) rfl ?_
                          refine Tr.q (QS.assign rfl) rfl ?_
                          refine Tr.q (QS.assign rfl) rfl ?_
                          refine Tr.nil ?_
                          refine Tr.thenN ?_
                          refine Tr.ret ?_
                          refine Tr.inR ?_
                          refine Tr.thenR ?_
                          refine Tr.ret3 Try.results60 rfl rfl rfl (fun w' hw => ?_)
                          exact ⟨by unfold opcodeP; (repeat (first | rw [if_pos (by omega)] | rw [if_neg (by omega)])) <;> rfl, hw.below (Bg.le.refl _)⟩
                        · try simp only [bs] at h22
                          refine Tr.seq ?_
                          refine Tr.region ?_
                          refine Tr.q (QS.fieldAddr (off := 2) (ft := 3) rfl Try.underlying36 rfl rfl Try.sizeOf3 (by decide)) rfl ?_
                          refine Tr.q (QS.lV rfl Try.isAgg3) rfl ?_
                          refine Tr.q (QS.eql rfl rfl) rfl ?_
                          refine Tr.q (QS.assign rfl) rfl ?_
                          refine Tr.nil ?_
                          refine Tr.thenN ?_
                          refine Tr.cond rfl (fun h23 => ?_) (fun h23 => ?_)
                          · try simp only [bs] at h23
                            refine Tr.seq ?_
                            refine Tr.region ?_
                            refine Tr.q (QS.assign rfl) rfl ?_
                            refine Tr.q (QS.assign rfl) rfl ?_
                            refine Tr.q (QS.assign rfl) rfl ?_
                            refine Tr.nil ?_
                            refine Tr.thenN ?_
                            refine Tr.ret ?_
                            refine Tr.inR ?_
                            refine Tr.thenR ?_
                            refine Tr.ret3 Try.results60 rfl rfl rfl (fun w' hw => ?_)
                            exact ⟨by unfold opcodeP; (repeat (first | rw [if_pos (by omega)] | rw [if_neg (by omega)])) <;> rfl, hw.below (Bg.le.refl _)⟩
                          · try simp only [bs] at h23
                            refine Tr.skip ?_
                            refine Tr.inN ?_
                            refine Tr.thenN ?_
                            refine Tr.seq ?_
                            refine Tr.region ?_
                            refine Tr.q (QS.assign rfl) rfl ?_
                            refine Tr.q (QS.assign rfl) rfl ?_
                            refine Tr.q (QS.assign rfl) rfl ?_
                            refine Tr.nil ?_
                            refine Tr.thenN ?_
                            refine Tr.ret ?_
                            refine Tr.ret3 Try.results60 rfl rfl rfl (fun w' hw => ?_)
                            exact ⟨by unfold opcodeP; (repeat (first | rw [if_pos (by omega)] | rw [if_neg (by omega)])) <;> rfl, hw.below (Bg.le.refl _)⟩
set_option maxRecDepth 100000 in
set_option maxHeartbeats 2000000 in
theorem kept_any (i : Ins) (s : Int) (w : World) :
    Calls Try.prog 84 #[.agg (encIns.enc i).toArray, .int .i64 s] w (fun e w' => e = .returned (.agg (encIns.enc (keptP i s)).toArray) ∧ Ext w w') := by
  refine enter Try.func84 rfl Try.ntmps84 rfl ?_
  refine Tr.seq ?_
  refine Tr.region ?_
  refine Tr.box rfl rfl rfl (fun b1 => ?_)
  refine Tr.alloc Try.zeroValue36 rfl rfl (fun b2 => ?_)
  refine Tr.nil ?_
  refine Tr.thenN ?_
  refine Tr.seq ?_
  refine Tr.region ?_
  refine Tr.q (QS.fieldAddr (off := 0) (ft := 23) rfl Try.underlying36 rfl rfl Try.sizeOf23 (by decide)) rfl ?_
  refine Tr.q (QS.lV rfl Try.isAgg23) rfl ?_
  refine Tr.q (QS.fieldAddr (off := 2) (ft := 3) rfl Try.underlying36 rfl rfl Try.sizeOf3 (by decide)) rfl ?_
  refine Tr.q (QS.lV rfl Try.isAgg3) rfl ?_
  refine Tr.q (QS.fieldAddr (off := 8) (ft := 3) rfl Try.underlying36 rfl rfl Try.sizeOf3 (by decide)) rfl ?_
  refine Tr.q (QS.lV rfl Try.isAgg3) rfl ?_
  refine Tr.q (QS.build (vs := [(0, _), (2, _), (8, _)]) rfl rfl (HLF.built36_0_2_8 _ _ _)) rfl ?_
  refine Tr.alloc Try.zeroValue36 rfl rfl (fun b3 => ?_)
  refine Tr.storeW rfl rfl Try.sizeOf36 (by repeat (first | exact Put.here _ | apply Put.there)) (by rfl) (by rfl) (by first | exact List.all_eq_true.1 rfl | exact Enc.one _ _ | exact Enc.one encIns _) rfl ?_
  refine Tr.nil ?_
  refine Tr.thenN ?_
  refine Tr.seqJ (ι := Ins) (fun k1 => k1 = kept1 i s) (fun _ => Bg.of w) (fun k1 => [cellE b3 (encIns.enc k1) 36, cellE b2 (encIns.enc zeroIns) 36, cellE b1 (encIns.enc i) 36]) (fun k1 => []) ?_ (fun k1 hi => ?_)
  · skip
    refine Tr.seq ?_
    refine Tr.region ?_
    refine Tr.q (QS.move rfl) rfl ?_
    refine Tr.nil ?_
    refine Tr.thenN ?_
    refine Tr.block ?_
    refine Tr.seq ?_
    refine Tr.seq ?_
    refine Tr.region ?_
    refine Tr.q (QS.eql rfl rfl) rfl ?_
    refine Tr.q (QS.assign rfl) rfl ?_
    refine Tr.nil ?_
    refine Tr.thenN ?_
    apply Tr.condOr
    · exact rfl
    · intro hO4
      try simp only [bs] at hO4
      refine Tr.region ?_
      refine Tr.q (QS.eql rfl rfl) rfl ?_
      refine Tr.q (QS.assign rfl) rfl ?_
      refine Tr.nil ?_
      refine Tr.thenN ?_
      exact Tr.endOr rfl (SubX.dropN 2 (by kernel_rfl) rfl)
    refine Tr.thenN ?_
    refine Tr.cond rfl (fun h5 => ?_) (fun h5 => ?_)
    · try simp only [bs] at h5
      refine Tr.region ?_
      refine Tr.q (QS.fieldAddr (off := 6) (ft := 3) rfl Try.underlying36 rfl rfl Try.sizeOf3 (by decide)) rfl ?_
      refine Tr.q (QS.lV rfl Try.isAgg3) rfl ?_
      refine Tr.q (QS.fieldAddr (off := 6) (ft := 3) rfl Try.underlying36 rfl rfl Try.sizeOf3 (by decide)) rfl ?_
      refine Tr.storeV (cs' := [_, _, _, _, _, _, _, _, _]) rfl rfl Try.sizeOf3 (by repeat (first | exact Put.here _ | apply Put.there)) rfl (by rfl) (by first | exact Nat.le_of_ble_eq_true rfl | simp) (by first | exact List.all_eq_true.1 rfl | (intro u hu; simp [Value.cells] at hu; simp_all [Value.oneCell'])) rfl ?_
      refine Tr.nil ?_
      refine Tr.inN ?_
      refine Tr.thenN ?_
      apply Tr.joined ⟨i.addr, 0, i.op, 0, 0, 0, i.a, 0, i.size⟩
      · exact rfl
      · exact Front.nil
      · exact SubX.dropN 7 (by kernel_rfl) rfl
      · exact (by repeat' (first | exact Pick.nil _ | exact Del.here _ | apply Pick.cons | apply Del.there))
      · exact (by simp only [kept1]; congr 1 <;> first | rfl | (rw [if_pos (by omega)]) | (rw [if_neg (by omega)]))
    · try simp only [bs] at h5
      refine Tr.seq ?_
      refine Tr.region ?_
      refine Tr.q (QS.eql rfl rfl) rfl ?_
      refine Tr.q (QS.assign rfl) rfl ?_
      refine Tr.nil ?_
      refine Tr.thenN ?_
      refine Tr.cond rfl (fun h6 => ?_) (fun h6 => ?_)
      · try simp only [bs] at h6
        refine Tr.regionH ([cellE b1 (encIns.enc i) 36]) 8 rfl HLF.mixed ?_
        refine Tr.hT 0 rfl (by kernel_rfl) (panicIn (panicThen panicBody)) (QS.fieldAddr (off := 6) (ft := 3) rfl Try.underlying36 rfl rfl Try.sizeOf3 (by decide)) ?_
        refine Tr.hT 1 rfl (by kernel_rfl) (panicIn (panicThen panicBody)) (QS.lV rfl Try.isAgg3) ?_
        refine Tr.hT 2 rfl (by kernel_rfl) (panicIn (panicThen panicBody)) (QS.fieldAddr (off := 7) (ft := 3) rfl Try.underlying36 rfl rfl Try.sizeOf3 (by decide)) ?_
        refine Tr.hT 3 rfl (by kernel_rfl) (panicIn (panicThen panicBody)) (QS.lV rfl Try.isAgg3) ?_
        refine Tr.hT 4 rfl (by kernel_rfl) (panicIn (panicThen panicBody)) (QS.fieldAddr (off := 6) (ft := 3) rfl Try.underlying36 rfl rfl Try.sizeOf3 (by decide)) ?_
        refine Tr.hAll [5] (by kernel_rfl) (by simp) (fun iq hq => ?_)
        obtain rfl := List.mem_singleton.1 hq
        refine Tr.hOp rfl ?_
        refine Tr.storeV (cs' := [_, _, _, _, _, _, _, _, _]) rfl rfl Try.sizeOf3 (by repeat (first | exact Put.here _ | apply Put.there)) rfl (by rfl) (by first | exact Nat.le_of_ble_eq_true rfl | simp) (by first | exact List.all_eq_true.1 rfl | (intro u hu; simp [Value.cells] at hu; simp_all [Value.oneCell'])) rfl ?_
        refine Tr.hN ?_
        refine Tr.hT 6 rfl (by kernel_rfl) (panicIn (panicThen panicBody)) (QS.fieldAddr (off := 7) (ft := 3) rfl Try.underlying36 rfl rfl Try.sizeOf3 (by decide)) ?_
        refine Tr.hAll [7] (by kernel_rfl) (by simp) (fun iq hq => ?_)
        obtain rfl := List.mem_singleton.1 hq
        refine Tr.hOp rfl ?_
        refine Tr.storeV (cs' := [_, _, _, _, _, _, _, _, _]) rfl rfl Try.sizeOf3 (by repeat (first | exact Put.here _ | apply Put.there)) rfl (by rfl) (by first | exact Nat.le_of_ble_eq_true rfl | simp) (by first | exact List.all_eq_true.1 rfl | (intro u hu; simp [Value.cells] at hu; simp_all [Value.oneCell'])) rfl ?_
        refine Tr.hN ?_
        refine Tr.hDone (by kernel_rfl) ?_
        refine Tr.inN ?_
        refine Tr.thenN ?_
        apply Tr.joined ⟨i.addr, 0, i.op, 0, 0, 0, i.a, i.b, i.size⟩
        · exact rfl
        · exact Front.nil
        · exact SubX.dropN 12 (by kernel_rfl) rfl
        · exact (by repeat' (first | exact Pick.nil _ | exact Del.here _ | apply Pick.cons | apply Del.there))
        · exact (by simp only [kept1]; congr 1 <;> first | rfl | (rw [if_pos (by omega)]) | (rw [if_neg (by omega)]))
      · try simp only [bs] at h6
        refine Tr.seq ?_
        refine Tr.seq ?_
        refine Tr.region ?_
        refine Tr.q (QS.eql rfl rfl) rfl ?_
        refine Tr.q (QS.assign rfl) rfl ?_
        refine Tr.nil ?_
        refine Tr.thenN ?_
        apply Tr.condOr
        · exact rfl
        · intro hO7
          try simp only [bs] at hO7
          refine Tr.region ?_
          refine Tr.q (QS.eql rfl rfl) rfl ?_
          refine Tr.q (QS.assign rfl) rfl ?_
          refine Tr.nil ?_
          refine Tr.thenN ?_
          exact Tr.endOr rfl (SubX.dropN 2 (by kernel_rfl) rfl)
        refine Tr.thenN ?_
        refine Tr.cond rfl (fun h8 => ?_) (fun h8 => ?_)
        · try simp only [bs] at h8
          refine Tr.regionH ([cellE b1 (encIns.enc i) 36]) 8 rfl HLF.mixed ?_
          refine Tr.hT 0 rfl (by kernel_rfl) (panicIn (panicThen panicBody)) (QS.fieldAddr (off := 6) (ft := 3) rfl Try.underlying36 rfl rfl Try.sizeOf3 (by decide)) ?_
          refine Tr.hT 1 rfl (by kernel_rfl) (panicIn (panicThen panicBody)) (QS.lV rfl Try.isAgg3) ?_
          refine Tr.hT 2 rfl (by kernel_rfl) (panicIn (panicThen panicBody)) (QS.fieldAddr (off := 1) (ft := 23) rfl Try.underlying36 rfl rfl Try.sizeOf23 (by decide)) ?_
          refine Tr.hT 3 rfl (by kernel_rfl) (panicIn (panicThen panicBody)) (QS.lV rfl Try.isAgg23) ?_
          refine Tr.hT 4 rfl (by kernel_rfl) (panicIn (panicThen panicBody)) (QS.fieldAddr (off := 6) (ft := 3) rfl Try.underlying36 rfl rfl Try.sizeOf3 (by decide)) ?_
          refine Tr.hAll [5] (by kernel_rfl) (by simp) (fun iq hq => ?_)
          obtain rfl := List.mem_singleton.1 hq
          refine Tr.hOp rfl ?_
          refine Tr.storeV (cs' := [_, _, _, _, _, _, _, _, _]) rfl rfl Try.sizeOf3 (by repeat (first | exact Put.here _ | apply Put.there)) rfl (by rfl) (by first | exact Nat.le_of_ble_eq_true rfl | simp) (by first | exact List.all_eq_true.1 rfl | (intro u hu; simp [Value.cells] at hu; simp_all [Value.oneCell'])) rfl ?_
          refine Tr.hN ?_
          refine Tr.hT 6 rfl (by kernel_rfl) (panicIn (panicThen panicBody)) (QS.fieldAddr (off := 1) (ft := 23) rfl Try.underlying36 rfl rfl Try.sizeOf23 (by decide)) ?_
          refine Tr.hAll [7] (by kernel_rfl) (by simp) (fun iq hq => ?_)
          obtain rfl := List.mem_singleton.1 hq
          refine Tr.hOp rfl ?_
          refine Tr.storeV (cs' := [_, _, _, _, _, _, _, _, _]) rfl rfl Try.sizeOf23 (by repeat (first | exact Put.here _ | apply Put.there)) rfl (by rfl) (by first | exact Nat.le_of_ble_eq_true rfl | simp) (by first | exact List.all_eq_true.1 rfl | (intro u hu; simp [Value.cells] at hu; simp_all [Value.oneCell'])) rfl ?_
          refine Tr.hN ?_
          refine Tr.hDone (by kernel_rfl) ?_
          refine Tr.inN ?_
          refine Tr.thenN ?_
          apply Tr.joined ⟨i.addr, i.imm, i.op, 0, 0, 0, i.a, 0, i.size⟩
          · exact rfl
          · exact Front.nil
          · exact SubX.dropN 15 (by kernel_rfl) rfl
          · exact (by repeat' (first | exact Pick.nil _ | exact Del.here _ | apply Pick.cons | apply Del.there))
          · exact (by simp only [kept1]; congr 1 <;> first | rfl | (rw [if_pos (by omega)]) | (rw [if_neg (by omega)]))
        · try simp only [bs] at h8
          refine Tr.seq ?_
          refine Tr.region ?_
          refine Tr.q (QS.eql rfl rfl) rfl ?_
          refine Tr.q (QS.assign rfl) rfl ?_
          refine Tr.nil ?_
          refine Tr.thenN ?_
          refine Tr.cond rfl (fun h9 => ?_) (fun h9 => ?_)
          · try simp only [bs] at h9
            refine Tr.regionH ([cellE b1 (encIns.enc i) 36]) 12 rfl HLF.mixed ?_
            refine Tr.hT 0 rfl (by kernel_rfl) (panicIn (panicThen panicBody)) (QS.fieldAddr (off := 6) (ft := 3) rfl Try.underlying36 rfl rfl Try.sizeOf3 (by decide)) ?_
            refine Tr.hT 1 rfl (by kernel_rfl) (panicIn (panicThen panicBody)) (QS.lV rfl Try.isAgg3) ?_
            refine Tr.hT 2 rfl (by kernel_rfl) (panicIn (panicThen panicBody)) (QS.fieldAddr (off := 7) (ft := 3) rfl Try.underlying36 rfl rfl Try.sizeOf3 (by decide)) ?_
            refine Tr.hT 3 rfl (by kernel_rfl) (panicIn (panicThen panicBody)) (QS.lV rfl Try.isAgg3) ?_
            refine Tr.hT 4 rfl (by kernel_rfl) (panicIn (panicThen panicBody)) (QS.fieldAddr (off := 1) (ft := 23) rfl Try.underlying36 rfl rfl Try.sizeOf23 (by decide)) ?_
            refine Tr.hT 5 rfl (by kernel_rfl) (panicIn (panicThen panicBody)) (QS.lV rfl Try.isAgg23) ?_
            refine Tr.hT 6 rfl (by kernel_rfl) (panicIn (panicThen panicBody)) (QS.fieldAddr (off := 6) (ft := 3) rfl Try.underlying36 rfl rfl Try.sizeOf3 (by decide)) ?_
            refine Tr.hAll [7] (by kernel_rfl) (by simp) (fun iq hq => ?_)
            obtain rfl := List.mem_singleton.1 hq
            refine Tr.hOp rfl ?_
            refine Tr.storeV (cs' := [_, _, _, _, _, _, _, _, _]) rfl rfl Try.sizeOf3 (by repeat (first | exact Put.here _ | apply Put.there)) rfl (by rfl) (by first | exact Nat.le_of_ble_eq_true rfl | simp) (by first | exact List.all_eq_true.1 rfl | (intro u hu; simp [Value.cells] at hu; simp_all [Value.oneCell'])) rfl ?_
            refine Tr.hN ?_
            refine Tr.hT 8 rfl (by kernel_rfl) (panicIn (panicThen panicBody)) (QS.fieldAddr (off := 7) (ft := 3) rfl Try.underlying36 rfl rfl Try.sizeOf3 (by decide)) ?_
            refine Tr.hAll [9] (by kernel_rfl) (by simp) (fun iq hq => ?_)
            obtain rfl := List.mem_singleton.1 hq
            refine Tr.hOp rfl ?_
            refine Tr.storeV (cs' := [_, _, _, _, _, _, _, _, _]) rfl rfl Try.sizeOf3 (by repeat (first | exact Put.here _ | apply Put.there)) rfl (by rfl) (by first | exact Nat.le_of_ble_eq_true rfl | simp) (by first | exact List.all_eq_true.1 rfl | (intro u hu; simp [Value.cells] at hu; simp_all [Value.oneCell'])) rfl ?_
            refine Tr.hN ?_
            refine Tr.hT 10 rfl (by kernel_rfl) (panicIn (panicThen panicBody)) (QS.fieldAddr (off := 1) (ft := 23) rfl Try.underlying36 rfl rfl Try.sizeOf23 (by decide)) ?_
            refine Tr.hAll [11] (by kernel_rfl) (by simp) (fun iq hq => ?_)
            obtain rfl := List.mem_singleton.1 hq
            refine Tr.hOp rfl ?_
            refine Tr.storeV (cs' := [_, _, _, _, _, _, _, _, _]) rfl rfl Try.sizeOf23 (by repeat (first | exact Put.here _ | apply Put.there)) rfl (by rfl) (by first | exact Nat.le_of_ble_eq_true rfl | simp) (by first | exact List.all_eq_true.1 rfl | (intro u hu; simp [Value.cells] at hu; simp_all [Value.oneCell'])) rfl ?_
            refine Tr.hN ?_
            refine Tr.hDone (by kernel_rfl) ?_
            refine Tr.inN ?_
            refine Tr.thenN ?_
            apply Tr.joined ⟨i.addr, i.imm, i.op, 0, 0, 0, i.a, i.b, i.size⟩
            · exact rfl
            · exact Front.nil
            · exact SubX.dropN 20 (by kernel_rfl) rfl
            · exact (by repeat' (first | exact Pick.nil _ | exact Del.here _ | apply Pick.cons | apply Del.there))
            · exact (by simp only [kept1]; congr 1 <;> first | rfl | (rw [if_pos (by omega)]) | (rw [if_neg (by omega)]))
          · try simp only [bs] at h9
            refine Tr.seq ?_
            refine Tr.seq ?_
            refine Tr.region ?_
            refine Tr.q (QS.eql rfl rfl) rfl ?_
            refine Tr.q (QS.assign rfl) rfl ?_
            refine Tr.nil ?_
            refine Tr.thenN ?_
            apply Tr.condOr
            · exact rfl
            · intro hO10
              try simp only [bs] at hO10
              refine Tr.region ?_
              refine Tr.q (QS.eql rfl rfl) rfl ?_
              refine Tr.q (QS.assign rfl) rfl ?_
              refine Tr.nil ?_
              refine Tr.thenN ?_
              exact Tr.endOr rfl (SubX.dropN 2 (by kernel_rfl) rfl)
            refine Tr.thenN ?_
            refine Tr.cond rfl (fun h11 => ?_) (fun h11 => ?_)
            · try simp only [bs] at h11
              refine Tr.region ?_
              refine Tr.q (QS.fieldAddr (off := 1) (ft := 23) rfl Try.underlying36 rfl rfl Try.sizeOf23 (by decide)) rfl ?_
              refine Tr.q (QS.lV rfl Try.isAgg23) rfl ?_
              refine Tr.q (QS.fieldAddr (off := 1) (ft := 23) rfl Try.underlying36 rfl rfl Try.sizeOf23 (by decide)) rfl ?_
              refine Tr.storeV (cs' := [_, _, _, _, _, _, _, _, _]) rfl rfl Try.sizeOf23 (by repeat (first | exact Put.here _ | apply Put.there)) rfl (by rfl) (by first | exact Nat.le_of_ble_eq_true rfl | simp) (by first | exact List.all_eq_true.1 rfl | (intro u hu; simp [Value.cells] at hu; simp_all [Value.oneCell'])) rfl ?_
              refine Tr.nil ?_
              refine Tr.inN ?_
              refine Tr.thenN ?_
              apply Tr.joined ⟨i.addr, i.imm, i.op, 0, 0, 0, 0, 0, i.size⟩
              · exact rfl
              · exact Front.nil
              · exact SubX.dropN 17 (by kernel_rfl) rfl
              · exact (by repeat' (first | exact Pick.nil _ | exact Del.here _ | apply Pick.cons | apply Del.there))
              · exact (by simp only [kept1]; congr 1 <;> first | rfl | (rw [if_pos (by omega)]) | (rw [if_neg (by omega)]))
            · try simp only [bs] at h11
              refine Tr.skip ?_
              refine Tr.inN ?_
              refine Tr.thenN ?_
              apply Tr.joined ⟨i.addr, 0, i.op, 0, 0, 0, 0, 0, i.size⟩
              · exact rfl
              · exact Front.nil
              · exact SubX.dropN 14 (by kernel_rfl) rfl
              · exact (by repeat' (first | exact Pick.nil _ | exact Del.here _ | apply Pick.cons | apply Del.there))
              · exact (by simp only [kept1]; congr 1 <;> first | rfl | (rw [if_pos (by omega)]) | (rw [if_neg (by omega)]))
  · skip
    replace hi : k1 = kept1 i s := hi
    change Tr _ _ [cellE b3 (encIns.enc k1) 36, cellE b2 (encIns.enc zeroIns) 36, cellE b1 (encIns.enc i) 36] ([] ++ _) _
    refine Tr.seqJ (ι := Ins) (fun k2 => k2 = keptP i s) (fun _ => Bg.of w) (fun k2 => [cellE b3 (encIns.enc k2) 36, cellE b2 (encIns.enc zeroIns) 36, cellE b1 (encIns.enc i) 36]) (fun k2 => []) ?_ (fun k2 hi => ?_)
    · skip
      refine Tr.block ?_
      refine Tr.seq ?_
      refine Tr.region ?_
      refine Tr.q (QS.fieldAddr (off := 2) (ft := 3) rfl Try.underlying36 rfl rfl Try.sizeOf3 (by decide)) rfl ?_
      refine Tr.q (QS.lV rfl Try.isAgg3) rfl ?_
      refine Tr.q (QS.geq rfl rfl) rfl ?_
      refine Tr.q (QS.move rfl) rfl ?_
      apply Tr.andP
      · exact (rfl : _ = (4, 58, 62))
      · exact rfl
      · intro hT12; have hT12' := hT12
        try simp only [bs] at hT12'
        refine Tr.gq rfl rfl hT12 (QS.fieldAddr (off := 2) (ft := 3) rfl Try.underlying36 rfl rfl Try.sizeOf3 (by decide)) rfl ?_
        refine Tr.gq rfl rfl hT12 (QS.lV rfl Try.isAgg3) rfl ?_
        refine Tr.gq rfl rfl hT12 (QS.leq rfl rfl) rfl ?_
        refine Tr.q (QS.pickT rfl hT12 rfl) rfl ?_
        refine Tr.nil (Tr.thenN ?_)
        exact Tr.endX (Sub.cons rfl (Sub.dropN 4 (by kernel_rfl) rfl))
      · intro hF12
        refine Tr.gskip rfl rfl hF12 rfl ?_
        refine Tr.gskip rfl rfl hF12 rfl ?_
        refine Tr.gskip rfl rfl hF12 rfl ?_
        refine Tr.q (QS.pickF rfl hF12 rfl) rfl ?_
        refine Tr.nil (Tr.thenN ?_)
        exact Tr.endX (Sub.cons rfl (Sub.dropN 4 (by kernel_rfl) rfl))
      refine Tr.q (QS.assign rfl) rfl ?_
      refine Tr.nil ?_
      refine Tr.thenN ?_
      refine Tr.cond rfl (fun h13 => ?_) (fun h13 => ?_)
      · try simp only [bs] at h13
        refine Tr.region ?_
        refine Tr.q (QS.fieldAddr (off := 3) (ft := 3) rfl Try.underlying36 rfl rfl Try.sizeOf3 (by decide)) rfl ?_
        refine Tr.q (QS.lV rfl Try.isAgg3) rfl ?_
        refine Tr.q (QS.fieldAddr (off := 3) (ft := 3) rfl Try.underlying36 rfl rfl Try.sizeOf3 (by decide)) rfl ?_
        refine Tr.storeV (cs' := [_, _, _, _, _, _, _, _, _]) rfl rfl Try.sizeOf3 (by repeat (first | exact Put.here _ | apply Put.there)) rfl (by rfl) (by first | exact Nat.le_of_ble_eq_true rfl | simp) (by first | exact List.all_eq_true.1 rfl | (intro u hu; simp [Value.cells] at hu; simp_all [Value.oneCell'])) rfl ?_
        refine Tr.nil ?_
        refine Tr.inN ?_
        refine Tr.thenN ?_
        apply Tr.joined { k1 with form := i.form }
        · exact rfl
        · exact Front.nil
        · exact SubX.dropN 9 (by kernel_rfl) rfl
        · exact (by repeat' (first | exact Pick.nil _ | exact Del.here _ | apply Pick.cons | apply Del.there))
        · exact (by subst hi; rw [keptP_eq]; congr 1 <;> first | rfl | (rw [if_pos (by omega)]) | (rw [if_neg (by omega)]; rfl))
      · try simp only [bs] at h13
        refine Tr.seq ?_
        refine Tr.seq ?_
        refine Tr.region ?_
        refine Tr.q (QS.fieldAddr (off := 2) (ft := 3) rfl Try.underlying36 rfl rfl Try.sizeOf3 (by decide)) rfl ?_
        refine Tr.q (QS.lV rfl Try.isAgg3) rfl ?_
        refine Tr.q (QS.eql rfl rfl) rfl ?_
        refine Tr.q (QS.assign rfl) rfl ?_
        refine Tr.nil ?_
        refine Tr.thenN ?_
        apply Tr.condOr
        · exact rfl
        · intro hO14
          try simp only [bs] at hO14
          refine Tr.seq ?_
          refine Tr.region ?_
          refine Tr.q (QS.fieldAddr (off := 2) (ft := 3) rfl Try.underlying36 rfl rfl Try.sizeOf3 (by decide)) rfl ?_
          refine Tr.q (QS.lV rfl Try.isAgg3) rfl ?_
          refine Tr.q (QS.eql rfl rfl) rfl ?_
          refine Tr.q (QS.assign rfl) rfl ?_
          refine Tr.nil ?_
          refine Tr.thenN ?_
          apply Tr.condOr
          · exact rfl
          · intro hO15
            try simp only [bs] at hO15
            refine Tr.region ?_
            refine Tr.q (QS.fieldAddr (off := 2) (ft := 3) rfl Try.underlying36 rfl rfl Try.sizeOf3 (by decide)) rfl ?_
            refine Tr.q (QS.lV rfl Try.isAgg3) rfl ?_
            refine Tr.q (QS.eql rfl rfl) rfl ?_
            refine Tr.q (QS.assign rfl) rfl ?_
            refine Tr.nil ?_
            refine Tr.thenN ?_
            exact Tr.endOr rfl (SubX.dropN 4 (by kernel_rfl) rfl)
          refine Tr.thenN ?_
          exact Tr.endOr rfl (SubX.dropN 5 (by kernel_rfl) rfl)
        refine Tr.thenN ?_
        refine Tr.cond rfl (fun h16 => ?_) (fun h16 => ?_)
        · try simp only [bs] at h16
          refine Tr.region ?_
          refine Tr.q (QS.fieldAddr (off := 4) (ft := 3) rfl Try.underlying36 rfl rfl Try.sizeOf3 (by decide)) rfl ?_
          refine Tr.q (QS.lV rfl Try.isAgg3) rfl ?_
          refine Tr.q (QS.fieldAddr (off := 4) (ft := 3) rfl Try.underlying36 rfl rfl Try.sizeOf3 (by decide)) rfl ?_
          refine Tr.storeV (cs' := [_, _, _, _, _, _, _, _, _]) rfl rfl Try.sizeOf3 (by repeat (first | exact Put.here _ | apply Put.there)) rfl (by rfl) (by first | exact Nat.le_of_ble_eq_true rfl | simp) (by first | exact List.all_eq_true.1 rfl | (intro u hu; simp [Value.cells] at hu; simp_all [Value.oneCell'])) rfl ?_
          refine Tr.nil ?_
          refine Tr.inN ?_
          refine Tr.thenN ?_
          apply Tr.joined { k1 with width := i.width }
          · exact rfl
          · exact Front.nil
          · exact SubX.dropN 14 (by kernel_rfl) rfl
          · exact (by repeat' (first | exact Pick.nil _ | exact Del.here _ | apply Pick.cons | apply Del.there))
          · exact (by subst hi; rw [keptP_eq]; congr 1 <;> first | rfl | (rw [if_pos (by omega)]) | (rw [if_neg (by omega)]; rfl))
        · try simp only [bs] at h16
          refine Tr.seq ?_
          refine Tr.region ?_
          refine Tr.q (QS.fieldAddr (off := 2) (ft := 3) rfl Try.underlying36 rfl rfl Try.sizeOf3 (by decide)) rfl ?_
          refine Tr.q (QS.lV rfl Try.isAgg3) rfl ?_
          refine Tr.q (QS.eql rfl rfl) rfl ?_
          refine Tr.q (QS.assign rfl) rfl ?_
          refine Tr.nil ?_
          refine Tr.thenN ?_
          refine Tr.cond rfl (fun h17 => ?_) (fun h17 => ?_)
          · try simp only [bs] at h17
            refine Tr.regionH ([cellE b1 (encIns.enc i) 36]) 8 rfl HLF.mixed ?_
            refine Tr.hT 0 rfl (by kernel_rfl) (panicIn (panicThen panicBody)) (QS.fieldAddr (off := 3) (ft := 3) rfl Try.underlying36 rfl rfl Try.sizeOf3 (by decide)) ?_
            refine Tr.hT 1 rfl (by kernel_rfl) (panicIn (panicThen panicBody)) (QS.lV rfl Try.isAgg3) ?_
            refine Tr.hT 2 rfl (by kernel_rfl) (panicIn (panicThen panicBody)) (QS.fieldAddr (off := 5) (ft := 3) rfl Try.underlying36 rfl rfl Try.sizeOf3 (by decide)) ?_
            refine Tr.hT 3 rfl (by kernel_rfl) (panicIn (panicThen panicBody)) (QS.lV rfl Try.isAgg3) ?_
            refine Tr.hT 4 rfl (by kernel_rfl) (panicIn (panicThen panicBody)) (QS.fieldAddr (off := 3) (ft := 3) rfl Try.underlying36 rfl rfl Try.sizeOf3 (by decide)) ?_
            refine Tr.hAll [5] (by kernel_rfl) (by simp) (fun iq hq => ?_)
            obtain rfl := List.mem_singleton.1 hq
            refine Tr.hOp rfl ?_
            refine Tr.storeV (cs' := [_, _, _, _, _, _, _, _, _]) rfl rfl Try.sizeOf3 (by repeat (first | exact Put.here _ | apply Put.there)) rfl (by rfl) (by first | exact Nat.le_of_ble_eq_true rfl | simp) (by first | exact List.all_eq_true.1 rfl | (intro u hu; simp [Value.cells] at hu; simp_all [Value.oneCell'])) rfl ?_
            refine Tr.hN ?_
            refine Tr.hT 6 rfl (by kernel_rfl) (panicIn (panicThen panicBody)) (QS.fieldAddr (off := 5) (ft := 3) rfl Try.underlying36 rfl rfl Try.sizeOf3 (by decide)) ?_
            refine Tr.hAll [7] (by kernel_rfl) (by simp) (fun iq hq => ?_)
            obtain rfl := List.mem_singleton.1 hq
            refine Tr.hOp rfl ?_
            refine Tr.storeV (cs' := [_, _, _, _, _, _, _, _, _]) rfl rfl Try.sizeOf3 (by repeat (first | exact Put.here _ | apply Put.there)) rfl (by rfl) (by first | exact Nat.le_of_ble_eq_true rfl | simp) (by first | exact List.all_eq_true.1 rfl | (intro u hu; simp [Value.cells] at hu; simp_all [Value.oneCell'])) rfl ?_
            refine Tr.hN ?_
            refine Tr.hDone (by kernel_rfl) ?_
            refine Tr.inN ?_
            refine Tr.thenN ?_
            apply Tr.joined { k1 with form := i.form, cc := i.cc }
            · exact rfl
            · exact Front.nil
            · exact SubX.dropN 21 (by kernel_rfl) rfl
            · exact (by repeat' (first | exact Pick.nil _ | exact Del.here _ | apply Pick.cons | apply Del.there))
            · exact (by subst hi; rw [keptP_eq]; congr 1 <;> first | rfl | (rw [if_pos (by omega)]) | (rw [if_neg (by omega)]; rfl))
          · try simp only [bs] at h17
            refine Tr.seq ?_
            refine Tr.region ?_
            refine Tr.q (QS.fieldAddr (off := 2) (ft := 3) rfl Try.underlying36 rfl rfl Try.sizeOf3 (by decide)) rfl ?_
            refine Tr.q (QS.lV rfl Try.isAgg3) rfl ?_
            refine Tr.q (QS.eql rfl rfl) rfl ?_
            refine Tr.q (QS.assign rfl) rfl ?_
            refine Tr.nil ?_
            refine Tr.thenN ?_
            refine Tr.cond rfl (fun h18 => ?_) (fun h18 => ?_)
            · try simp only [bs] at h18
              refine Tr.region ?_
              refine Tr.q (QS.fieldAddr (off := 5) (ft := 3) rfl Try.underlying36 rfl rfl Try.sizeOf3 (by decide)) rfl ?_
              refine Tr.q (QS.lV rfl Try.isAgg3) rfl ?_
              refine Tr.q (QS.fieldAddr (off := 5) (ft := 3) rfl Try.underlying36 rfl rfl Try.sizeOf3 (by decide)) rfl ?_
              refine Tr.storeV (cs' := [_, _, _, _, _, _, _, _, _]) rfl rfl Try.sizeOf3 (by repeat (first | exact Put.here _ | apply Put.there)) rfl (by rfl) (by first | exact Nat.le_of_ble_eq_true rfl | simp) (by first | exact List.all_eq_true.1 rfl | (intro u hu; simp [Value.cells] at hu; simp_all [Value.oneCell'])) rfl ?_
              refine Tr.nil ?_
              refine Tr.inN ?_
              refine Tr.thenN ?_
              apply Tr.joined { k1 with cc := i.cc }
              · exact rfl
              · exact Front.nil
              · exact SubX.dropN 22 (by kernel_rfl) rfl
              · exact (by repeat' (first | exact Pick.nil _ | exact Del.here _ | apply Pick.cons | apply Del.there))
              · exact (by subst hi; rw [keptP_eq]; congr 1 <;> first | rfl | (rw [if_pos (by omega)]) | (rw [if_neg (by omega)]; rfl))
            · try simp only [bs] at h18
              refine Tr.skip ?_
              refine Tr.inN ?_
              refine Tr.thenN ?_
              apply Tr.joined k1
              · exact rfl
              · exact Front.nil
              · exact SubX.dropN 19 (by kernel_rfl) rfl
              · exact (by repeat' (first | exact Pick.nil _ | exact Del.here _ | apply Pick.cons | apply Del.there))
              · exact (by subst hi; rw [keptP_eq, if_neg (by omega), if_neg (by omega), if_neg (by omega)]; rfl)
    · skip
      replace hi : k2 = keptP i s := hi
      change Tr _ _ [cellE b3 (encIns.enc k2) 36, cellE b2 (encIns.enc zeroIns) 36, cellE b1 (encIns.enc i) 36] ([] ++ _) _
      refine Tr.seq ?_
      refine Tr.region ?_
      refine Tr.q (QS.lW rfl Try.isAgg36 Try.sizeOf36) rfl ?_
      refine Tr.storeW rfl rfl Try.sizeOf36 (by repeat (first | exact Put.here _ | apply Put.there)) (by rfl) (by rfl) (by first | exact List.all_eq_true.1 rfl | exact Enc.one _ _ | exact Enc.one encIns _) rfl ?_
      refine Tr.nil ?_
      refine Tr.thenN ?_
      refine Tr.ret ?_
      refine Tr.retC1 Try.results84 rfl (by repeat (first | exact List.Mem.head _ | apply List.Mem.tail)) Try.isAgg36 Try.sizeOf36 (by rfl) (fun w' hw => ?_)
      exact ⟨by subst hi; rfl, hw.below (Bg.le.refl _)⟩
set_option maxRecDepth 100000 in
set_option maxHeartbeats 2000000 in
theorem check_any (i : Ins) (w : World) (hI : InsOK i) :
    Calls Try.prog 54 #[.agg (encIns.enc i).toArray] w (fun e w' => e = .returned ((.tuple #[.int .u8 (checkP i).1.toNat, .int .i64 (checkP i).2.1, .int .i64 (checkP i).2.2])) ∧ Ext w w') := by
  refine enter Try.func54 rfl Try.ntmps54 rfl ?_
  refine Tr.seq ?_
  refine Tr.region ?_
  refine Tr.box rfl rfl rfl (fun b1 => ?_)
  refine Tr.q (QS.assign rfl) rfl ?_
  refine Tr.q (QS.assign rfl) rfl ?_
  refine Tr.q (QS.assign rfl) rfl ?_
  refine Tr.nil ?_
  refine Tr.thenN ?_
  refine Tr.seq ?_
  refine Tr.region ?_
  refine Tr.q (QS.lW rfl Try.isAgg36 Try.sizeOf36) rfl ?_
  refine Tr.q (QS.call rfl Try.call60 (fun w hw => opcode_any i w hI)) rfl ?_
  refine Tr.q (QS.move rfl) rfl ?_
  refine Tr.q (QS.extract rfl rfl) rfl ?_
  refine Tr.q (QS.extract rfl rfl) rfl ?_
  refine Tr.q (QS.extract rfl rfl) rfl ?_
  refine Tr.q (QS.assign rfl) rfl ?_
  refine Tr.q (QS.assign rfl) rfl ?_
  refine Tr.q (QS.assign rfl) rfl ?_
  refine Tr.nil ?_
  refine Tr.thenN ?_
  refine Tr.seq ?_
  refine Tr.seq ?_
  refine Tr.regionQ HLF.mixed (by kernel_rfl) ?_
  refine TrQ.q (QS.move rfl) rfl ?_
  refine TrQ.q (QS.not rfl) rfl ?_
  refine TrQ.q (QS.move rfl) rfl ?_
  apply TrQ.orP
  · exact (rfl : _ = (5, 16, 21))
  · exact rfl
  · intro hF2; have hF2' := hF2
    try simp only [bs] at hF2'
    refine TrQ.gq rfl rfl hF2 (QS.fieldAddr (off := 6) (ft := 3) rfl Try.underlying36 rfl rfl Try.sizeOf3 (by decide)) rfl ?_
    refine TrQ.gq rfl rfl hF2 (QS.lV rfl Try.isAgg3) rfl ?_
    refine TrQ.gq rfl rfl hF2 (QS.call rfl Try.call63 (fun w hw => register_any i.a w)) rfl ?_
    refine TrQ.gq rfl rfl hF2 (QS.not rfl) rfl ?_
    refine TrQ.q (QS.pickF rfl hF2 rfl) rfl ?_
    exact TrQ.end (Sub.cons rfl (Sub.dropN 5 (by kernel_rfl) rfl))
  · intro hT2
    refine TrQ.gskip rfl rfl hT2 rfl ?_
    refine TrQ.gskip rfl rfl hT2 rfl ?_
    refine TrQ.gskip rfl rfl hT2 rfl ?_
    refine TrQ.gskip rfl rfl hT2 rfl ?_
    refine TrQ.q (QS.pickT rfl hT2 rfl) rfl ?_
    exact TrQ.end (Sub.cons rfl (Sub.dropN 5 (by kernel_rfl) rfl))
  refine TrQ.q (QS.move rfl) rfl ?_
  apply TrQ.orP
  · exact (rfl : _ = (5, 22, 27))
  · exact rfl
  · intro hF3; have hF3' := hF3
    try simp only [bs] at hF3'
    refine TrQ.gq rfl rfl hF3 (QS.fieldAddr (off := 7) (ft := 3) rfl Try.underlying36 rfl rfl Try.sizeOf3 (by decide)) rfl ?_
    refine TrQ.gq rfl rfl hF3 (QS.lV rfl Try.isAgg3) rfl ?_
    refine TrQ.gq rfl rfl hF3 (QS.call rfl Try.call63 (fun w hw => register_any i.b w)) rfl ?_
    refine TrQ.gq rfl rfl hF3 (QS.not rfl) rfl ?_
    refine TrQ.q (QS.pickF rfl hF3 rfl) rfl ?_
    exact TrQ.end (Sub.cons rfl (Sub.dropN 5 (by kernel_rfl) rfl))
  · intro hT3
    refine TrQ.gskip rfl rfl hT3 rfl ?_
    refine TrQ.gskip rfl rfl hT3 rfl ?_
    refine TrQ.gskip rfl rfl hT3 rfl ?_
    refine TrQ.gskip rfl rfl hT3 rfl ?_
    refine TrQ.q (QS.pickT rfl hT3 rfl) rfl ?_
    exact TrQ.end (Sub.cons rfl (Sub.dropN 5 (by kernel_rfl) rfl))
  refine TrQ.q (QS.move rfl) rfl ?_
  apply TrQ.orP
  · exact (rfl : _ = (6, 28, 34))
  · exact rfl
  · intro hF4; have hF4' := hF4
    try simp only [bs] at hF4'
    refine TrQ.gq rfl rfl hF4 (QS.lW rfl Try.isAgg36 Try.sizeOf36) rfl ?_
    refine TrQ.gq rfl rfl hF4 (QS.move rfl) rfl ?_
    refine TrQ.gq rfl rfl hF4 (QS.call rfl Try.call84 (fun w hw => kept_any i (opcodeP i).2.1 w)) rfl ?_
    refine TrQ.gq rfl rfl hF4 (QS.lW rfl Try.isAgg36 Try.sizeOf36) rfl ?_
    refine TrQ.gq rfl rfl hF4 (QS.neqE rfl rfl insEqEnc Try.underlying36 (HLF.words36 _ Try.underlying36) rfl HLF.held36 HLF.eqg36) rfl ?_
    refine TrQ.q (QS.pickF rfl hF4 rfl) rfl ?_
    exact TrQ.end (Sub.cons rfl (Sub.dropN 6 (by kernel_rfl) rfl))
  · intro hT4
    refine TrQ.gskip rfl rfl hT4 rfl ?_
    refine TrQ.gskip rfl rfl hT4 rfl ?_
    refine TrQ.gskip rfl rfl hT4 rfl ?_
    refine TrQ.gskip rfl rfl hT4 rfl ?_
    refine TrQ.gskip rfl rfl hT4 rfl ?_
    refine TrQ.q (QS.pickT rfl hT4 rfl) rfl ?_
    exact TrQ.end (Sub.cons rfl (Sub.dropN 6 (by kernel_rfl) rfl))
  refine TrQ.nil ?_
  refine Tr.thenN ?_
  refine Tr.cond rfl (fun h5 => ?_) (fun h5 => ?_)
  · try simp only [bs] at h5
    refine Tr.seq ?_
    refine Tr.region ?_
    refine Tr.q (QS.assign rfl) rfl ?_
    refine Tr.q (QS.assign rfl) rfl ?_
    refine Tr.q (QS.assign rfl) rfl ?_
    refine Tr.nil ?_
    refine Tr.thenN ?_
    refine Tr.ret ?_
    refine Tr.thenR ?_
    refine Tr.ret3 Try.results54 rfl rfl rfl (fun w' hw => ?_)
    exact ⟨by rw [checkP_2 (by simp_all [or_assoc])]; rfl, hw.below (Bg.le.refl _)⟩
  · try simp only [bs] at h5
    refine Tr.skip ?_
    refine Tr.thenN ?_
    refine Tr.seq ?_
    refine Tr.seq ?_
    refine Tr.region ?_
    refine Tr.q (QS.move rfl) rfl ?_
    refine Tr.q (QS.eql rfl rfl) rfl ?_
    refine Tr.q (QS.move rfl) rfl ?_
    apply Tr.orP
    · exact (rfl : _ = (3, 37, 40))
    · exact rfl
    · intro hF6; have hF6' := hF6
      try simp only [bs] at hF6'
      refine Tr.gq rfl rfl hF6 (QS.move rfl) rfl ?_
      refine Tr.gq rfl rfl hF6 (QS.eql rfl rfl) rfl ?_
      refine Tr.q (QS.pickF rfl hF6 rfl) rfl ?_
      refine Tr.nil (Tr.thenN ?_)
      exact Tr.endX (Sub.cons rfl (Sub.dropN 3 (by kernel_rfl) rfl))
    · intro hT6
      refine Tr.gskip rfl rfl hT6 rfl ?_
      refine Tr.gskip rfl rfl hT6 rfl ?_
      refine Tr.q (QS.pickT rfl hT6 rfl) rfl ?_
      refine Tr.nil (Tr.thenN ?_)
      exact Tr.endX (Sub.cons rfl (Sub.dropN 3 (by kernel_rfl) rfl))
    refine Tr.q (QS.move rfl) rfl ?_
    apply Tr.andP
    · exact (rfl : _ = (5, 41, 46))
    · exact rfl
    · intro hT7; have hT7' := hT7
      try simp only [bs] at hT7'
      refine Tr.gq rfl rfl hT7 (QS.fieldAddr (off := 1) (ft := 23) rfl Try.underlying36 rfl rfl Try.sizeOf23 (by decide)) rfl ?_
      refine Tr.gq rfl rfl hT7 (QS.lV rfl Try.isAgg23) rfl ?_
      refine Tr.gq rfl rfl hT7 (QS.call rfl Try.call85 (fun w hw => narrow_any i.imm w)) rfl ?_
      refine Tr.gq rfl rfl hT7 (QS.not rfl) rfl ?_
      refine Tr.q (QS.pickT rfl hT7 rfl) rfl ?_
      refine Tr.nil (Tr.thenN ?_)
      exact Tr.endX (Sub.cons rfl (Sub.dropN 5 (by kernel_rfl) rfl))
    · intro hF7
      refine Tr.gskip rfl rfl hF7 rfl ?_
      refine Tr.gskip rfl rfl hF7 rfl ?_
      refine Tr.gskip rfl rfl hF7 rfl ?_
      refine Tr.gskip rfl rfl hF7 rfl ?_
      refine Tr.q (QS.pickF rfl hF7 rfl) rfl ?_
      refine Tr.nil (Tr.thenN ?_)
      exact Tr.endX (Sub.cons rfl (Sub.dropN 5 (by kernel_rfl) rfl))
    refine Tr.q (QS.move rfl) rfl ?_
    apply Tr.orP
    · exact (rfl : _ = (13, 47, 60))
    · exact rfl
    · intro hF8; have hF8' := hF8
      try simp only [bs] at hF8'
      refine Tr.gq rfl rfl hF8 (QS.move rfl) rfl ?_
      refine Tr.gq rfl rfl hF8 (QS.eql rfl rfl) rfl ?_
      refine Tr.gq rfl rfl hF8 (QS.move rfl) rfl ?_
      apply Tr.andP
      · exact (rfl : _ = (9, 50, 59))
      · exact rfl
      · intro hT9; have hT9' := hT9
        try simp only [bs] at hT9'
        refine Tr.gq rfl rfl hT9 (QS.fieldAddr (off := 1) (ft := 23) rfl Try.underlying36 rfl rfl Try.sizeOf23 (by decide)) rfl ?_
        refine Tr.gq rfl rfl hT9 (QS.lV rfl Try.isAgg23) rfl ?_
        refine Tr.gq rfl rfl hT9 (QS.fieldAddr (off := 0) (ft := 23) rfl Try.underlying36 rfl rfl Try.sizeOf23 (by decide)) rfl ?_
        refine Tr.gq rfl rfl hT9 (QS.lV rfl Try.isAgg23) rfl ?_
        refine Tr.gq rfl rfl hT9 (QS.sub32 rfl rfl) rfl ?_
        refine Tr.gq rfl rfl hT9 (QS.sub32 (n := 2) rfl rfl) rfl ?_
        refine Tr.gq rfl rfl hT9 (QS.call rfl Try.call85 (fun w hw => narrow_any (i.imm - i.addr - 2) w)) rfl ?_
        refine Tr.gq rfl rfl hT9 (QS.not rfl) rfl ?_
        refine Tr.gq rfl rfl hF8 (QS.pickT rfl hT9 rfl) rfl ?_
        refine Tr.nil (Tr.thenN ?_)
        exact Tr.endX (Sub.cons rfl (Sub.dropN 9 (by kernel_rfl) rfl))
      · intro hF9
        refine Tr.gskip rfl rfl hF9 rfl ?_
        refine Tr.gskip rfl rfl hF9 rfl ?_
        refine Tr.gskip rfl rfl hF9 rfl ?_
        refine Tr.gskip rfl rfl hF9 rfl ?_
        refine Tr.gskip rfl rfl hF9 rfl ?_
        refine Tr.gskip rfl rfl hF9 rfl ?_
        refine Tr.gskip rfl rfl hF9 rfl ?_
        refine Tr.gskip rfl rfl hF9 rfl ?_
        refine Tr.gq rfl rfl hF8 (QS.pickF rfl hF9 rfl) rfl ?_
        refine Tr.nil (Tr.thenN ?_)
        exact Tr.endX (Sub.cons rfl (Sub.dropN 9 (by kernel_rfl) rfl))
      refine Tr.q (QS.pickF rfl hF8 rfl) rfl ?_
      refine Tr.nil (Tr.thenN ?_)
      exact Tr.endX (Sub.cons rfl (Sub.dropN 5 (by kernel_rfl) rfl))
    · intro hT8
      refine Tr.gskip rfl rfl hT8 rfl ?_
      refine Tr.gskip rfl rfl hT8 rfl ?_
      refine Tr.gskip rfl rfl hT8 rfl ?_
      refine Tr.gskipU rfl rfl rfl ?_
      refine Tr.gskipU rfl rfl rfl ?_
      refine Tr.gskipU rfl rfl rfl ?_
      refine Tr.gskipU rfl rfl rfl ?_
      refine Tr.gskipU rfl rfl rfl ?_
      refine Tr.gskipU rfl rfl rfl ?_
      refine Tr.gskipU rfl rfl rfl ?_
      refine Tr.gskipU rfl rfl rfl ?_
      refine Tr.gskip rfl rfl hT8 rfl ?_
      refine Tr.q (QS.pickT rfl hT8 rfl) rfl ?_
      refine Tr.nil (Tr.thenN ?_)
      exact Tr.endX (Sub.cons rfl (Sub.dropN 13 (by kernel_rfl) rfl))
    refine Tr.nil ?_
    refine Tr.thenN ?_
    refine Tr.cond rfl (fun h10 => ?_) (fun h10 => ?_)
    · try simp only [bs] at h10
      refine Tr.seq ?_
      refine Tr.region ?_
      refine Tr.q (QS.assign rfl) rfl ?_
      refine Tr.q (QS.assign rfl) rfl ?_
      refine Tr.q (QS.assign rfl) rfl ?_
      refine Tr.nil ?_
      refine Tr.thenN ?_
      refine Tr.ret ?_
      refine Tr.thenR ?_
      refine Tr.ret3 Try.results54 rfl rfl rfl (fun w' hw => ?_)
      exact ⟨by rw [checkP_7 (by simp_all) (by simp_all)]; rfl, hw.below (Bg.le.refl _)⟩
    · try simp only [bs] at h10
      refine Tr.skip ?_
      refine Tr.thenN ?_
      refine Tr.seq ?_
      refine Tr.region ?_
      refine Tr.q (QS.move rfl) rfl ?_
      refine Tr.q (QS.move rfl) rfl ?_
      refine Tr.q (QS.assign rfl) rfl ?_
      refine Tr.q (QS.assign rfl) rfl ?_
      refine Tr.q (QS.assign rfl) rfl ?_
      refine Tr.nil ?_
      refine Tr.thenN ?_
      refine Tr.ret ?_
      refine Tr.ret3 Try.results54 rfl rfl rfl (fun w' hw => ?_)
      exact ⟨by rw [checkP_ok (errP_0 (by simp_all) (by intro hc; rcases hc with ⟨h1 | h1, h2⟩ | ⟨h1, h2⟩ <;> simp_all))]; rfl, hw.below (Bg.le.refl _)⟩
set_option maxRecDepth 100000 in
set_option maxHeartbeats 2000000 in
theorem size_any (s : Int) (w : World) (hs : 0 ≤ s ∧ s ≤ 8) :
    Calls Try.prog 55 #[.int .i64 s] w (fun e w' => e = .returned (.int .i64 (sizeP s)) ∧ Ext w w') := by
  refine enter Try.func55 rfl Try.ntmps55 rfl ?_
  refine Tr.seq ?_
  refine Tr.region ?_
  refine Tr.q (QS.assign rfl) rfl ?_
  refine Tr.nil ?_
  refine Tr.thenN ?_
  refine Tr.seq ?_
  refine Tr.region ?_
  refine Tr.q (QS.move rfl) rfl ?_
  refine Tr.q (QS.strIdx rfl rfl Try.underlying9 (by refine ⟨by omega, ?_⟩; show s < 9; omega)) rfl ?_
  refine Tr.q (QS.sub8 (n := 48) rfl rfl) rfl ?_
  refine Tr.q (QS.cvt8toI rfl Try.underlying5 Try.underlying3) rfl ?_
  refine Tr.q (QS.assign rfl) rfl ?_
  refine Tr.nil ?_
  refine Tr.thenN ?_
  refine Tr.ret ?_
  refine Tr.ret1 Try.results55 rfl (fun w' hw => ?_)
  exact ⟨by obtain rfl | rfl | rfl | rfl | rfl | rfl | rfl | rfl | rfl : s = 0 ∨ s = 1 ∨ s = 2 ∨ s = 3 ∨ s = 4 ∨ s = 5 ∨ s = 6 ∨ s = 7 ∨ s = 8 := (by omega) <;> rfl, hw.below (Bg.le.refl _)⟩
set_option maxRecDepth 100000 in
set_option maxHeartbeats 2000000 in
theorem extend_any (a : UInt32) (k : Int) (w : World) :
    Calls Try.prog 61 #[.int .u32 a.toNat, .int .i64 k] w (fun e w' => e = .returned (.int .u32 (extP a k).toNat) ∧ Ext w w') := by
  refine enter Try.func61 rfl Try.ntmps61 rfl ?_
  refine Tr.seq ?_
  refine Tr.region ?_
  refine Tr.q (QS.assign rfl) rfl ?_
  refine Tr.nil ?_
  refine Tr.thenN ?_
  refine Tr.seq ?_
  refine Tr.seq ?_
  refine Tr.region ?_
  refine Tr.q (QS.move rfl) rfl ?_
  refine Tr.nil ?_
  refine Tr.thenN ?_
  refine Tr.block ?_
  refine Tr.seq ?_
  refine Tr.region ?_
  refine Tr.q (QS.eql rfl rfl) rfl ?_
  refine Tr.q (QS.assign rfl) rfl ?_
  refine Tr.nil ?_
  refine Tr.thenN ?_
  refine Tr.cond rfl (fun h1 => ?_) (fun h1 => ?_)
  · try simp only [bs] at h1
    refine Tr.seq ?_
    refine Tr.region ?_
    refine Tr.q (QS.move rfl) rfl ?_
    refine Tr.q (QS.cvt rfl Try.underlying23 Try.underlying123) rfl ?_
    refine Tr.q (QS.cvtTo32 rfl Try.underlying123 Try.underlying23) rfl ?_
    refine Tr.q (QS.assign rfl) rfl ?_
    refine Tr.nil ?_
    refine Tr.thenN ?_
    refine Tr.ret ?_
    refine Tr.inR ?_
    refine Tr.thenR ?_
    refine Tr.ret1 Try.results61 rfl (fun w' hw => ?_)
    exact ⟨by unfold extP; (repeat (first | rw [if_pos (by omega)] | rw [if_neg (by omega)])) <;> rfl, hw.below (Bg.le.refl _)⟩
  · try simp only [bs] at h1
    refine Tr.seq ?_
    refine Tr.region ?_
    refine Tr.q (QS.eql rfl rfl) rfl ?_
    refine Tr.q (QS.assign rfl) rfl ?_
    refine Tr.nil ?_
    refine Tr.thenN ?_
    refine Tr.cond rfl (fun h2 => ?_) (fun h2 => ?_)
    · try simp only [bs] at h2
      refine Tr.seq ?_
      refine Tr.region ?_
      refine Tr.q (QS.move rfl) rfl ?_
      refine Tr.q (QS.cvt rfl Try.underlying23 Try.underlying124) rfl ?_
      refine Tr.q (QS.cvtTo32 rfl Try.underlying124 Try.underlying23) rfl ?_
      refine Tr.q (QS.assign rfl) rfl ?_
      refine Tr.nil ?_
      refine Tr.thenN ?_
      refine Tr.ret ?_
      refine Tr.inR ?_
      refine Tr.thenR ?_
      refine Tr.ret1 Try.results61 rfl (fun w' hw => ?_)
      exact ⟨by unfold extP; (repeat (first | rw [if_pos (by omega)] | rw [if_neg (by omega)])) <;> rfl, hw.below (Bg.le.refl _)⟩
    · try simp only [bs] at h2
      refine Tr.skip ?_
      refine Tr.inN ?_
      refine Tr.thenN ?_
      refine Tr.seq ?_
      refine Tr.region ?_
      refine Tr.q (QS.move rfl) rfl ?_
      refine Tr.q (QS.assign rfl) rfl ?_
      refine Tr.nil ?_
      refine Tr.thenN ?_
      refine Tr.ret ?_
      refine Tr.ret1 Try.results61 rfl (fun w' hw => ?_)
      exact ⟨by unfold extP; (repeat (first | rw [if_pos (by omega)] | rw [if_neg (by omega)])) <;> rfl, hw.below (Bg.le.refl _)⟩
end Go.Proofs.Ytfnedefgepjbpaa
