/- A range over a func: a round's body, the statement, the iterator's side. -/
import Derived.Test.YtfnedefgepjbpaaHx
import Derived.RangeFuncNested
import Derived.RangeFuncBound
import Derived.RangeFuncCalls
import Derived.RangeFuncLeaves
set_option linter.unusedSimpArgs false
set_option linter.unusedVariables false
set_option linter.unusedSectionVars false
namespace Go.HL
open Go Go.RowKit

/-! ### backgrounds that do not count what has been drawn -/
def Bg.of0 (w : World) : Bg := { Bg.of w with dr := 0 }
theorem HpOK.start0 (w : World) : HpOK (Bg.of0 w) [] w :=
  ⟨rfl, rfl, rfl, Nat.le_refl _, Nat.zero_le _, fun _ _ h => h, fun _ h => (by cases h), (by simp [blks]), fun _ h => (by simp [blks] at h), fun _ h => (by simp [blks] at h)⟩
theorem HpOK.below0 {w0 w : World} {F : Bg} {L : List Ent} (h : HpOK F L w) (hF : (Bg.of0 w0).le F) : Below w0.heap.size w0 w :=
  ⟨h.os.trans hF.os, h.tape.trans hF.tape, h.out.trans hF.out, Nat.le_trans hF.n h.n, fun k hk => by
    have e : (Bg.of0 w0).blk k = some w0.heap[k] := by simp [Bg.of0, Bg.of, hk]
    rw [h.bg k _ (hF.blk k _ e)]; simp [hk]⟩
def CellsOnly (L : List Ent) : Prop := ∀ e ∈ L, ∀ b, e.blk = some b → ∀ o, e.ok (some o) → o.isCells = true
theorem CellsOnly.nil : CellsOnly [] := fun _ h => by cases h
theorem CellsOnly.cell {b : Nat} {cs : List Value} {T : TypeId} {L : List Ent} (h : CellsOnly L) : CellsOnly (cellE b cs T :: L) := fun e he => by
  rcases List.mem_cons.1 he with rfl | he
  · intro _ _ o ho; cases ho; rfl
  · exact h e he
theorem CellsOnly.row {α : Type} {V : Value} {T : TypeId} {E : Enc α} {l : List α} {L : List Ent} (h : CellsOnly L) : CellsOnly (rowE V T E l :: L) := fun e he => by
  rcases List.mem_cons.1 he with rfl | he
  · intro b hb o ho
    rcases ho with ⟨rfl, _⟩ | ⟨g, cap, cur, _, ho, _⟩
    · cases hb
    · cases ho; rfl
  · exact h e he
theorem ent_obj {F : Bg} {L : List Ent} {w : World} (h : HpOK F L w) (hc : CellsOnly L) {b : Nat} (hb : b ∈ blks L) : ∃ o, w.heap[b]? = some o ∧ o.isCells = true := by
  obtain ⟨e, he, hk⟩ := List.mem_filterMap.1 hb
  have hlt := h.lt b hb
  have hh := h.ent e he
  unfold Ent.holds at hh
  rw [hk, Option.bind_some, Array.getElem?_eq_getElem hlt] at hh
  exact ⟨_, Array.getElem?_eq_getElem hlt, hc e he b hk _ hh⟩
/-- What lies there stays, but for a block that is no cells. -/
theorem HpOK.turned {F : Bg} {L : List Ent} {w w' : World} {row : Option Nat} {B : Nat} (h : HpOK F L w) (hc : CellsOnly L) (h0 : F.dr = 0) (hB : ∀ b o, F.blk b = some o → b < B) (hg : w.grownBy w' row)
    (hr : ∀ r, row = some r → B ≤ r ∧ ∃ o : Obj, w.heap[r]? = some o ∧ o.isCells = false) : HpOK F L w' := by
  refine ⟨hg.os.trans h.os, hg.tape.trans h.tape, hg.output.trans h.out, Nat.le_trans h.n hg.size, by rw [h0]; exact Nat.zero_le _, fun b o e => ?_, fun e he => ?_, h.nodup, fun b hm => Nat.lt_of_lt_of_le (h.lt b hm) hg.size, h.sep⟩
  · have := h.bg b o e
    rw [hg.block b (Array.getElem?_eq_some_iff.1 this).1 (fun e2 => by have := (hr b e2.symm).1; have := hB b o e; omega)]; exact this
  · have hh := h.ent e he
    unfold Ent.holds at *
    cases hk : e.blk with
    | none => rw [hk] at hh; exact hh
    | some b =>
      rw [hk] at hh
      simp only [Option.bind_some] at *
      have hb : b ∈ blks L := List.mem_filterMap.2 ⟨e, he, hk⟩
      obtain ⟨o, ho, hoc⟩ := ent_obj h hc hb
      rw [hg.block b (h.lt b hb) (fun e2 => by
        obtain ⟨_, o2, ho2, hn⟩ := hr b e2.symm
        rw [ho] at ho2; cases ho2; rw [hoc] at hn; cases hn)]
      exact hh
theorem HpOK.weaken {F G : Bg} {L : List Ent} {w : World} (h : HpOK G L w) (hF : F.le G) : HpOK F L w :=
  ⟨h.os.trans hF.os, h.tape.trans hF.tape, h.out.trans hF.out, Nat.le_trans hF.n h.n, by rw [← hF.dr]; exact h.dr, fun b o e => h.bg b o (hF.blk b o e), h.ent, h.nodup, h.lt, fun b hb => by
    refine ⟨?_, by rw [← hF.lo]; exact (h.sep b hb).2⟩
    cases e : F.blk b with
    | none => rfl
    | some o =>
      have h2 := hF.blk b o e
      rw [(h.sep b hb).1] at h2
      cases h2⟩
/-- What is not one's own becomes background, and the heap's size is known. -/
theorem HpOK.freezeN {F : Bg} {L : List Ent} {w : World} (h : HpOK F L w) : ∃ F', F.le F' ∧ HpOK F' L w ∧ F'.n = w.heap.size ∧ ∀ b o, b ∉ blks L → w.heap[b]? = some o → F'.blk b = some o := by
  refine ⟨{ F with blk := fun b => if b ∈ blks L then none else w.heap[b]?, n := w.heap.size, lo_le := Nat.le_trans F.lo_le h.n }, ⟨fun b o e => ?_, h.n, rfl, rfl, rfl, rfl, rfl⟩, ⟨h.os, h.tape, h.out, Nat.le_refl _, h.dr, fun b o e => ?_, h.ent, h.nodup, h.lt, fun b hb => ⟨?_, (h.sep b hb).2⟩⟩, rfl, fun b o hb e => ?_⟩
  · have hn : b ∉ blks L := fun hb => by rw [(h.sep b hb).1] at e; cases e
    show (if b ∈ blks L then none else w.heap[b]?) = some o
    rw [if_neg hn]; exact h.bg b o e
  · have e' : (if b ∈ blks L then none else w.heap[b]?) = some o := e
    split at e'
    · cases e'
    · exact e'
  · show (if b ∈ blks L then none else w.heap[b]?) = none
    rw [if_pos hb]
  · show (if b ∈ blks L then none else w.heap[b]?) = some o
    rw [if_neg hb]; exact e

/-! ### what a round must keep -/
def ownW (bs : List Nat) (W : World) (k : Nat) : Prop := k ∈ bs ∨ ∃ b ∈ bs, ∃ V, W.cell? ⟨b, 0, none⟩ = some V ∧ V.ownBlock = some k
structure KpW (bs : List Nat) (W W' : World) : Prop where
  size : W.heap.size ≤ W'.heap.size
  same : ∀ (k : Nat) (o : Obj), W.heap[k]? = some o → o.isCells = true → ¬ ownW bs W k → W'.heap[k]? = some o
  own : ∀ k, ownW bs W' k → ownW bs W k ∨ W.heap.size ≤ k
theorem ownW_same {bs : List Nat} {w w' : World} (h : ∀ b ∈ bs, w'.heap[b]? = w.heap[b]?) (k : Nat) : ownW bs w' k ↔ ownW bs w k := by
  constructor
  · rintro (h1 | ⟨b, hb, V, h1, h2⟩)
    · exact .inl h1
    · exact .inr ⟨b, hb, V, by rw [← h1]; exact (World.cell?_of_block (a := ⟨b, 0, none⟩) (h b hb)).symm, h2⟩
  · rintro (h1 | ⟨b, hb, V, h1, h2⟩)
    · exact .inl h1
    · exact .inr ⟨b, hb, V, by rw [← h1]; exact World.cell?_of_block (a := ⟨b, 0, none⟩) (h b hb), h2⟩
theorem KpW.trans {bs : List Nat} {A B C : World} (h : KpW bs A B) (k : KpW bs B C) : KpW bs A C :=
  ⟨Nat.le_trans h.size k.size, fun i o hi ho hn => k.same i o (h.same i o hi ho hn) ho fun hb => by
      rcases h.own i hb with h1 | h1
      · exact hn h1
      · have := (Array.getElem?_eq_some_iff.1 hi).1; omega,
    fun i hi => by
      rcases k.own i hi with h1 | h1
      · exact h.own i h1
      · exact .inr (Nat.le_trans h.size h1)⟩
theorem KpW.turn {bs : List Nat} {B : Nat} (hbs : ∀ b ∈ bs, b < B) (W : World) (l : Nat) (o o' : Obj) (hl : B ≤ l) (ho : W.heap[l]? = some o) (hc : o.isCells = false) : KpW bs W (W.putObj l o') := by
  have hg := grownBy_putObj' W l o'
  refine ⟨hg.size, fun k u hk hu hn => ?_, fun k hk => .inl ?_⟩
  · rw [hg.block k (Array.getElem?_eq_some_iff.1 hk).1 (fun e => by cases e; rw [ho] at hk; cases hk; rw [hc] at hu; cases hu)]; exact hk
  · rcases hk with hk | ⟨b, hb, V, hV, hV2⟩
    · exact .inl hk
    · refine .inr ⟨b, hb, V, ?_, hV2⟩
      rw [← hV]
      exact (World.cell?_of_block (World.putObj_heap_other (fun e => by have := hbs b hb; have e2 : b = l := e; omega))).symm

/-! ### a round's body -/
section
variable {P : Program} {ops : Array Oper} {Q : Exit → Act → World → Prop} {N : Nat} {F : Bg} {L : List Ent} {M : Fr} {l0 n : Nat}
def noDefer (l : List Oper) : Bool := l.all fun o => match o.op with | .defer _ => false | _ => true
theorem Oper.wp_in {o : Oper} {a : Act} {w : World} {K K' : Act → World → Prop} (hd : ∀ c, o.op ≠ .defer c) (hK : ∀ a w, K a w → K' a w) (h : o.wp P a w K Q) : o.wpIn (Fence.wide.inRound l0) n P a w K' Q := by
  have h := Oper.wp_mono hK h
  refine ⟨fun _ _ => trivial, ?_⟩
  rw [Oper.semAt_eq _ _ _ hd]
  unfold Oper.wp at h
  cases hr : (execOp a.eval o).run P w with
  | ok nx w' =>
    rw [hr] at h
    cases nx with
    | value v => exact h
    | skip => exact h
    | defer d => exact h
    | enter f args =>
      refine ⟨fun h => ?_, CallsIn.inRound l0 (callsIn_wide.2 h)⟩
      cases h
    | row r args =>
      refine ⟨fun h => ?_, fun c cs _ => ?_⟩
      · cases h
      · obtain ⟨v, w', r, s⟩ := h c cs
        exact ⟨v, w', r, (stepsIn_wide.2 s : StepsIn (Machine.fenced P Fence.wide) P _ _)⟩
    | _ => exact h.elim
  | halt e w' =>
    rw [hr] at h
    cases e <;> first | exact h | exact h.elim
theorem wpListIn_of (hno : ¬ LetsOut Q) : ∀ (l : List Oper) (a : Act) (w : World), noDefer l = true → wpList P ops Q l a w → wpListIn (Fence.wide.inRound l0) n P ops Q l a w
  | [], _, _, _, h => h
  | o :: rest, a, w, hd, h => by
    have hd1 : (∀ c, o.op ≠ .defer c) ∧ noDefer rest = true := by
      simp only [noDefer, List.all_cons, Bool.and_eq_true] at hd ⊢
      refine ⟨fun c e => ?_, hd.2⟩
      rw [e] at hd; simp at hd
    unfold wpList at h
    unfold wpListIn
    split
    · rename_i hw
      rw [if_pos hw] at h
      rcases h with h | h
      · exact Oper.wp_in hd1.1 (fun a w k => wpListIn_of hno rest a w hd1.2 k) h
      · exact absurd h.2 hno
    · rename_i hw
      rw [if_neg hw] at h
      exact ⟨fun _ _ => trivial, wpListIn_of hno rest _ w hd1.2 h⟩
theorem noThen {K : Act → World → Prop} (h : ¬ LetsOut Q) : ¬ LetsOut (Exit.then K Q) := h
theorem noIn {id : Nat} (h : ¬ LetsOut Q) : ¬ LetsOut (Exit.inBlock id Q) := h
theorem noNormal {K : Act → World → Prop} : ¬ LetsOut (fun e a w => e = Exit.normal ∧ K a w) := fun ⟨_, _, h, _⟩ => by cases h
theorem Tr.regionI {id : Nat} {l : List Oper} (hno : ¬ LetsOut Q) (hd : noDefer l = true) (h : Tr N F L M (wpList P l.toArray Q l)) : Tr N F L M ((Code.region id l.toArray false).wpIn (Fence.wide.inRound l0) n P Q) :=
  fun a w ha hw => wpIn_region_lit (wpListIn_of hno l a w hd (h a w ha hw))
theorem Tr.seqIn {x y : Code} (h : Tr N F L M (x.wpIn (Fence.wide.inRound l0) n P (Exit.then (y.wpIn (Fence.wide.inRound l0) n P Q) Q))) : Tr N F L M ((Code.seq x y).wpIn (Fence.wide.inRound l0) n P Q) := fun a w ha hw => wpIn_seq (h a w ha hw)
theorem Tr.skipIn (h : Tr N F L M (Q .normal)) : Tr N F L M (Code.skip.wpIn (Fence.wide.inRound l0) n P Q) := fun a w ha hw => wpIn_skip (h a w ha hw)
theorem Tr.blockIn {id : Nat} {c : Code} (h : Tr N F L M (c.wpIn (Fence.wide.inRound l0) n P (Exit.inBlock id Q))) : Tr N F L M ((Code.block id c).wpIn (Fence.wide.inRound l0) n P Q) := fun a w ha hw => wpIn_block (h a w ha hw)
theorem Tr.condIn {c : Operand} {x y : Code} {b : Bool} (hc : opv M c = some (.bool b)) (ht : b = true → Tr N F L M (x.wpIn (Fence.wide.inRound l0) n P Q)) (hf : b = false → Tr N F L M (y.wpIn (Fence.wide.inRound l0) n P Q)) :
    Tr N F L M ((Code.cond c x y).wpIn (Fence.wide.inRound l0) n P Q) := fun a w ha hw => wpIn_cond_split (ha.eval hc) (fun h => ht h a w ha hw) (fun h => hf h a w ha hw)
end

/-! ### the statement -/
def dropMk (M : Fr) : Fr := M.filter fun e => Nat.blt e.1 mk0
theorem look_dropMk : ∀ (M : Fr) (t : Nat), look (dropMk M) t = if t < mk0 then look M t else none
  | [], t => by simp [dropMk, look]
  | (d, v) :: M, t => by
    have ih := look_dropMk M t
    unfold dropMk at *
    rw [List.filter_cons]
    by_cases h : d < mk0
    · rw [if_pos (by simp only [Nat.blt, Nat.ble_eq]; omega), look_cons, look_cons, ih]
      by_cases e : d = t
      · subst e; simp [h]
      · simp [e]
    · rw [if_neg (by simp only [Nat.blt, Nat.ble_eq]; omega), ih, look_cons]
      by_cases e : d = t
      · subst e; simp [h]
      · simp [e]
def markE (D : Nat) : Ent := ⟨some D, fun o => o = some (.deferred (some []))⟩
theorem FrOK.marked {N D : Nat} {M : Fr} {a : Act} (h : FrOK N M a) (h0 : a.defers = []) : FrOK N ((mk0 + 1 + D, undef) :: dropMk M) { a with defers := { target := .collected D, args := #[] } :: a.defers } := by
  refine ⟨fun e => ?_, fun D' e => ?_, h.size, h.lt, fun t v e => ?_⟩
  · rw [look_cons, if_neg (by omega), look_dropMk, if_neg (by omega)] at e; cases e
  · rw [look_cons, look_dropMk, if_neg (c := mk0 + 1 + D' < mk0) (by omega)] at e
    split at e
    · obtain rfl : D = D' := by omega
      show _ :: a.defers = _
      rw [h0]
    · cases e
  · rw [look_cons, look_dropMk] at e
    split at e
    · rename_i e2
      cases e
      rw [← e2, Array.getD_eq_getD_getElem?, Array.getElem?_eq_none (by have h1 : a.tmps.size = N := h.size; have := h.lt; show a.tmps.size ≤ _; omega)]; rfl
    · split at e
      · exact h.val t v e
      · cases e

theorem look_append : ∀ (A B : Fr) (t : Nat), look (A ++ B) t = match look A t with | some v => some v | none => look B t
  | [], B, t => by simp [look]
  | (d, v) :: A, B, t => by
    rw [List.cons_append, look_cons, look_cons]
    split
    · rfl
    · exact look_append A B t
theorem look_mark {M : Fr} {D : Nat} : look (dropMk M ++ [(mk0 + 1 + D, undef)]) (mk0 + 1 + D) = some undef := by
  rw [look_append, look_dropMk, if_neg (by omega)]
  show look [(mk0 + 1 + D, undef)] (mk0 + 1 + D) = _
  rw [look_cons, if_pos rfl]
theorem FrOK.marked' {N D : Nat} {M : Fr} {a : Act} (h : FrOK N M a) (h0 : a.defers = []) : FrOK N (dropMk M ++ [(mk0 + 1 + D, undef)]) { a with defers := { target := .collected D, args := #[] } :: a.defers } :=
  (h.marked h0).sub fun t v e => by
    rw [look_append, look_dropMk] at e
    rw [look_cons, look_dropMk]
    by_cases ht : t < mk0
    · rw [if_pos ht] at e ⊢
      rw [if_neg (by omega)]
      cases hl : look M t with
      | some u => rw [hl] at e; exact e
      | none =>
        rw [hl] at e
        have e' : look [(mk0 + 1 + D, undef)] t = some v := e
        rw [look_cons, if_neg (by omega)] at e'
        cases e'
    · rw [if_neg ht] at e
      have e' : look [(mk0 + 1 + D, undef)] t = some v := e
      rw [look_cons] at e'
      split at e'
      · rename_i q
        rw [if_pos q]; exact e'
      · cases e'
section
variable {P : Program} {Q : Exit → Act → World → Prop} {N : Nat} {F : Bg} {L : List Ent} {M : Fr}
theorem Tr.rangeF {α ι : Type} {gO : Operand} {p d rid : Nat} {ty : TypeId} {pos : String} {after : Array Edge} {body : Code} {gf : Nat} {lb : List Value} (enc : α → Value) (bs : List Nat) (S : List α → Prop) (okI : List α → ι → Prop) (L' : ι → List Ent) (Nm : Nat) (j0 : ι)
    (hF0 : F.dr = 0) (hM : look M mk0 = some undef) (hg : opv M gO = some (.func (.func gf) #[] lb.toArray)) (eg : ∀ (args : Array Value) (w : World), (callFunc gf args).run P w = .ok (.enter gf args) w)
    (hp : Nat.ble (p + 1) N = true) (hd : Nat.ble (d + 1) N = true) (hL : Pick L (L' j0)) (h0 : okI [] j0) (hc : ∀ j, CellsOnly (L' j)) (hbs : ∀ b ∈ bs, b ∈ blks (L' j0))
    (hown : ∀ F' j W, HpOK F' (L' j) W → ∀ k, ownW bs W k ↔ k ∈ blks (L' j))
    (hseq : ∀ w F1, F.le F1 → HpOK F1 (L' j0) w → (∀ b o, b ∉ blks (L' j0) → w.heap[b]? = some o → F1.blk b = some o) → SeqStopsK Fence.wide 2 P gf lb.toArray (fun x => #[enc x]) (KpW bs) S (fun _ => True) Nm w)
    (hbody : ∀ pre x j l0 F1, F.le F1 → okI pre j → pre.length < Nm → Tr N F1 (L' j) ((d, enc x) :: (p, enc x) :: M) (body.wpIn (Fence.wide.inRound l0) 1 P (fun e a W' => e = .normal ∧ ∃ j', okI (pre ++ [x]) j' ∧ HpOK F1 (L' j') W')))
    (hdone : ∀ xs j D F1, F.le F1 → S xs → okI xs j → Tr N F1 (markE D :: L' j) (dropMk M ++ [(mk0 + 1 + D, undef)]) (Q .normal)) :
    Tr N F L M ((Code.rangeFunc gO #[p] (Code.region rid #[⟨some d, .assign (.tmp p), ty, pos, after, none⟩] false) body).wp P Q) := by
  intro a w ha hw
  have ha0 := ha.defers0 hM
  obtain ⟨F1, e1, h1, full1⟩ := (hL.heap hw).freeze
  have hF1 : F1.dr = 0 := e1.dr.trans hF0
  have hB : ∀ b o, F1.blk b = some o → b < w.heap.size := fun b o e => (Array.getElem?_eq_some_iff.1 (h1.bg b o e)).1
  refine (wpIn_wide (n := 3)).1 ?_
  refine wpIn_rangeFunc_ownF (n := 3) rfl (by omega) (ha.eval hg) trivial eg (hseq w F1 e1 h1 full1) KpW.trans (fun W l o o' hl ho hc _ => KpW.turn (fun b hb => h1.lt b (hbs b hb)) W l o o' hl ho hc) (Below.refl _ _) (fun _ => rfl)
    (fun pre W => ∃ j, okI pre j ∧ HpOK F1 (L' j) W) (fun _ _ _ => False) (fun pre W W' row ⟨j, k1, k2⟩ hgr hr => ⟨j, k1, k2.turned (hc j) hF1 hB hgr hr⟩) (fun _ _ _ _ _ h _ _ => h) ⟨j0, h0, h1⟩
    (fun x => { tmps := (a.tmps.setIfInBounds p (enc x)).setIfInBounds d (enc x), defers := [] }) ?_ ?_ ?_ (fun _ _ _ _ _ _ h _ => h.elim)
  · intro l x W K hK
    refine wpIn_region_lit (l := [⟨some d, .assign (.tmp p), ty, pos, after, none⟩]) (wpListIn_plain rfl fun K' hK' => ?_)
    refine ⟨fun _ _ => trivial, ?_⟩
    rw [Oper.semAt_eq _ _ _ (fun c h => by cases h)]
    have hpN : p < a.tmps.size := by rw [ha.size]; exact Nat.le_of_ble_eq_true hp
    simp only [execOp, Sem.run_pure, Oper.uponIn, Act.put, Act.eval]
    refine hK' _ _ ?_
    show wpListIn _ _ _ _ _ [] _ W
    unfold wpListIn
    show K _ W
    have e : ((#[p].zip #[enc x]).foldl (fun t (pv : Nat × Value) => t.setIfInBounds pv.1 pv.2) a.tmps) = a.tmps.setIfInBounds p (enc x) := by simp
    have e2 : (a.tmps.setIfInBounds p (enc x)).getD p undef = enc x := by simp [Array.getD_eq_getD_getElem?, hpN]
    have e3 : ((#[p].zip #[enc x]).foldl (fun t (pv : Nat × Value) => t.setIfInBounds pv.1 pv.2) a.tmps).getD p undef = enc x := by rw [e]; exact e2
    simp only [e] at e3 ⊢
    first
      | (rw [e3]; exact hK)
      | (simp only [e2]; exact hK)
      | (simpa [e2] using hK)
  · rintro l pre x W ⟨j, k1, k2⟩ hlen
    obtain ⟨F2, e2, h2, hn2, full2⟩ := k2.freezeN
    have ht := hbody pre x j l F2 (e1.trans e2) k1 hlen
    have hfr : FrOK N ((d, enc x) :: (p, enc x) :: M) { tmps := (a.tmps.setIfInBounds p (enc x)).setIfInBounds d (enc x), defers := [] } := by
      have hz := (ha.put (v := enc x) (Nat.le_of_ble_eq_true hp)).put (v := enc x) (Nat.le_of_ble_eq_true hd)
      have hz' : ((a.put (some p) (enc x)).put (some d) (enc x)) = { tmps := (a.tmps.setIfInBounds p (enc x)).setIfInBounds d (enc x), defers := a.defers } := rfl
      rw [hz', ha0] at hz
      exact hz
    refine wpIn_mono (ht _ W hfr h2) fun e a' W' hq => ?_
    obtain ⟨rfl, j', k3, k4⟩ := hq
    have keep : ∀ k o, W.heap[k]? = some o → k ∉ blks (L' j) → W'.heap[k]? = some o := fun k o hk hn => k4.bg k o (full2 k o hn hk)
    have hsz : W.heap.size ≤ W'.heap.size := by rw [← hn2]; exact k4.n
    refine ⟨⟨hsz, fun k o hk ho => keep k o hk fun hm => ?_⟩, ⟨hsz, fun k o hk ho hn => keep k o hk fun hm => ?_, fun k hk => ?_⟩, ⟨j', k3, k4.weaken e2⟩⟩
    · obtain ⟨o2, ho2, hc2⟩ := ent_obj h2 (hc j) hm
      rw [hk] at ho2; cases ho2; rw [ho] at hc2; cases hc2
    · exact hn ((hown _ _ _ h2 k).2 hm)
    · have hk2 := (hown _ _ _ k4 k).1 hk
      by_cases hlt : k < W.heap.size
      · left
        refine (hown _ _ _ h2 k).2 (Decidable.byContradiction fun hm => ?_)
        have := full2 k _ hm (Array.getElem?_eq_getElem hlt)
        rw [(k4.sep k hk2).1] at this
        cases this
      · exact .inr (by omega)
  · rintro D xs W hD hS ⟨j, k1, k2⟩ hK
    have hDl : D < W.heap.size := (Array.getElem?_eq_some_iff.1 hK).1
    have hDn : D ∉ blks (L' j) := fun hm => by
      obtain ⟨o, ho, hcc⟩ := ent_obj k2 (hc j) hm
      rw [hK] at ho; cases ho; cases hcc
    refine hdone xs j D F1 e1 hS k1 _ W (ha.marked' ha0) ⟨k2.os, k2.tape, k2.out, k2.n, k2.dr, k2.bg, fun e he => ?_, ?_, ?_, ?_⟩
    · rcases List.mem_cons.1 he with rfl | he
      · exact hK
      · exact k2.ent e he
    · exact List.nodup_cons.2 ⟨hDn, k2.nodup⟩
    · intro b hb
      rcases List.mem_cons.1 hb with rfl | hb
      · exact hDl
      · exact k2.lt b hb
    · intro b hb
      rcases List.mem_cons.1 hb with rfl | hb
      · refine ⟨?_, Nat.le_trans (Nat.le_trans F1.lo_le h1.n) hD⟩
        cases e : F1.blk b with
        | none => rfl
        | some o => have := hB b o e; omega
      · exact k2.sep b hb
end

section
variable {P : Program} {N : Nat} {F : Bg} {L : List Ent} {M : Fr}
theorem QS.min4 {dst : Option Tmp} {ty : TypeId} {pos : String} {after : Array Edge} {g : Option (Nat × Bool)} {x y z u : Operand} {ts : Array TypeId} {k : IntKind} {m n o p : Int} (hx : opv M x = some (.int k m)) (hy : opv M y = some (.int k n)) (hz : opv M z = some (.int k o)) (hu : opv M u = some (.int k p)) :
    QS P N F L M ⟨dst, .call { callee := .builtin .min, args := #[x, y, z, u], argTypes := ts }, ty, pos, after, g⟩ (.int k (min (min (min m n) o) p)) :=
  QS.of_run fun A w ha hw => by
    have e : ∀ a b : Int, (if b < a then b else a) = min a b := fun a b => by omega
    simp [execOp, resolve, invoke, builtin, ha.eval hx, ha.eval hy, ha.eval hz, ha.eval hu, Builtin.min_, Builtin.min2, e]
end
/-! ### entering and leaving a function that ranges over a func -/
section
variable {P : Program} {Q : Exit → Act → World → Prop} {N : Nat} {F : Bg} {L : List Ent} {M : Fr}
/-- Left by 'return' alone. -/
def retOnly (Q : Exit → Act → World → Prop) : Exit → Act → World → Prop := fun e a w => e = .ret ∧ Q .ret a w
theorem panicRet {Q : Exit → Act → World → Prop} : ∀ c a d v w, retOnly Q (.panic c) (a.put d v) w → retOnly Q (.panic c) a w := fun c a d v w h => by cases h.1
theorem enterM {f : FuncId} {fn : Func} {c : Code} {args : List Value} {w : World} {R : Ending → World → Prop} (hf : P.funcs[f]? = some fn) (hb : fn.body = some c) (hN : fn.ntmps = N) (hle : Nat.ble args.length N = true)
    (h : Tr N (Bg.of0 w) [] (frameOf 0 args) (c.wp P (retOnly (bodyPostM Fence.wide 3 P fn R)))) (hN0 : Nat.ble N mk0 = true := by rfl) : Calls P f args.toArray w R :=
  (callsIn_wide (n := 3)).1 (callsIn_of_wp_marks hf hb trivial (wpIn_wide.2 (Code.wp_mono (fun e a w q => by obtain ⟨rfl, q⟩ := q; exact q) (h _ w (frameOf_ok (by rw [hN]; simp) hle hN0) (HpOK.start0 w)))))
theorem enter0 {f : FuncId} {fn : Func} {c : Code} {args : List Value} {w : World} {R : Ending → World → Prop} (hf : P.funcs[f]? = some fn) (hb : fn.body = some c) (hN : fn.ntmps = N) (hle : Nat.ble args.length N = true)
    (h : Tr N (Bg.of0 w) [] (frameOf 0 args) (c.wp P (bodyPost P fn R))) (hN0 : Nat.ble N mk0 = true := by rfl) : Calls P f args.toArray w R :=
  calls_of_wp hf hb (h _ w (frameOf_ok (by rw [hN]; simp) hle hN0) (HpOK.start0 w))
theorem Tr.retM2 {D : Nat} {fn : Func} {R : Ending → World → Prop} {t u : Tmp} {v v' : Value} {L1 : List Ent} (hr : fn.results = #[.tmp t, .tmp u]) (hv : look M t = some v) (hv' : look M u = some v') (hD : look M (mk0 + 1 + D) = some undef) (hm : Del (markE D) L L1)
    (h : ∀ w, HpOK F L1 w → R (.returned (.tuple #[v, v'])) w) : Tr N F L M (retOnly (bodyPostM Fence.wide 3 P fn R) .ret) := by
  intro a w ha hw
  refine ⟨rfl, ?_⟩
  have hf := hw.front hm
  have hK : w.heap[D]? = some (.deferred (some [])) := hf.ent _ (.head _)
  show LeavesInM Fence.wide 3 P fn a.tmps R a.defers .returning w
  rw [ha.defersD D hD]
  refine ⟨by simp, .inl ⟨_, _, rfl, run_takeDeferred hK, ?_⟩⟩
  have h2 : HpOK F (⟨some D, fun _ => True⟩ :: L1) (w.putObj D (.deferred none)) :=
    HpOK.set (p := fun o => o = some (.deferred (some []))) (p' := fun _ => True) hf (.here _) rfl rfl rfl (grownBy_putObj' w D _).size (Nat.le_refl _) (fun k hk hkb => (grownBy_putObj' w D _).block k hk (fun e => hkb (Option.some.inj e))) trivial
  have h3 : HpOK F L1 (w.putObj D (.deferred none)) := h2.mem (List.sublist_cons_self _ _)
  exact ⟨_, results_tmp2 hr a.tmps P _, by rw [ha.val t v hv, ha.val u v' hv']; exact h _ h3⟩
theorem HpOK.cellNew {F : Bg} {L : List Ent} {w w' : World} {b : Nat} {cs : List Value} {T : TypeId} (h : HpOK F L w') (hl : F.lo = w.heap.size) (hm : cellE b cs T ∈ L) : CellsIn (newHp w w') b cs := by
  have he : w'.heap[b]? = some (.cells cs.toArray T (0, 0)) := h.ent _ hm
  have hb := (h.sep b (List.mem_filterMap.2 ⟨_, hm, rfl⟩)).2
  refine ⟨cs.toArray, T, (0, 0), ?_, fun j v hv => by simpa using hv⟩
  show (if b < w.heap.size then none else w'.heap[b]?) = _
  rw [if_neg (by omega)]; exact he
theorem HpOK.new0 {α : Type} {F : Bg} {L : List Ent} {w w' : World} {T : TypeId} {E : Enc α} {l : List α} {V : Value} (h : HpOK F L w') (hl : F.lo = w.heap.size) (hm : rowE V T E l ∈ L) : NewRow w w' T E l V :=
  ⟨h.ent _ hm, fun b hb => by rw [← hl]; exact (h.sep b (List.mem_filterMap.2 ⟨_, hm, hb⟩)).2⟩
/-- The present world becomes the background. -/
theorem Tr.now {X : Act → World → Prop} (K : ∀ W1, HpOK F L W1 → Tr N (Bg.of0 W1) [] M X) : Tr N F L M X := fun a w ha hw => K w hw a w ha (HpOK.start0 w)
theorem HpOK.grown {Ws w : World} (h : HpOK (Bg.of0 Ws) [] w) : Ws.grownBy w none :=
  have b := h.below0 (Bg.le.refl _)
  ⟨b.os, b.tape, b.output, b.size, fun k hk _ => b.block k hk⟩
theorem wpListIn_value {n : Nat} {ops : Array Oper} {o : Oper} {rest : List Oper} {a : Act} {w : World} {v : Value} (hg : o.guard = none) (hr : (execOp a.eval o).run P w = .ok (.value v) w) (h : wpListIn Fence.wide n P ops Q rest (a.put o.dst v) w) : wpListIn Fence.wide n P ops Q (o :: rest) a w :=
  wpListIn_plain hg fun K hK => by
    refine ⟨fun _ _ => trivial, ?_⟩
    show o.uponIn _ _ _ _ _ _ ((execOp a.eval o).run P w)
    rw [hr]; exact hK _ _ h
/-- 'if !yield(x)': the round comes back with yes, or no. -/
theorem Tr.yield {α : Type} (enc : α → Value) {J Jx : List α → World → Prop} {Kp : World → World → Prop} {l B : Nat} {Ws : World} {pre : List α} {x : α} {id f y d0 d1 d2 d3 : Nat} {t0 t1 t2 t3 : TypeId} {p0 p1 p2 p3 : String} {a0 a1 a2 a3 : Array Edge} {ts : Array TypeId}
    (hf : look M f = some (.func (.yield l) #[] #[])) (hy : look M y = some (enc x)) (hne : Nat.beq d0 y = false) (h01 : Nat.beq d1 d0 = false) (hJ : J pre Ws) (hA : AbidesFrom B J)
    (hY : ∀ W1, J pre W1 → YieldAt Fence.wide 1 P l #[enc x] W1 fun e W' => (e = .returned (.bool true) ∧ J (pre ++ [x]) W' ∧ Kp W1 W') ∨ (e = .returned (.bool false) ∧ Jx (pre ++ [x]) W'))
    (hd0 : Nat.ble (d0 + 1) N = true) (hd1 : Nat.ble (d1 + 1) N = true) (hd2 : Nat.ble (d2 + 1) N = true) (hd3 : Nat.ble (d3 + 1) N = true)
    (K1 : ∀ W1 W', HpOK (Bg.of0 Ws) [] W1 → Kp W1 W' → J (pre ++ [x]) W' → Tr N (Bg.of0 W') [] ((d3, .bool false) :: (d2, .bool true) :: (d1, enc x) :: (d0, .func (.yield l) #[] #[]) :: M) (Q .normal))
    (K2 : ∀ W', Jx (pre ++ [x]) W' → Tr N (Bg.of0 W') [] ((d3, .bool true) :: (d2, .bool false) :: (d1, enc x) :: (d0, .func (.yield l) #[] #[]) :: M) (Q .normal)) :
    Tr N (Bg.of0 Ws) [] M ((Code.region id #[⟨some d0, .move (.tmp f), t0, p0, a0, none⟩, ⟨some d1, .move (.tmp y), t1, p1, a1, none⟩, ⟨some d2, .call { callee := .value (.tmp d0), args := #[.tmp d1], argTypes := ts }, t2, p2, a2, none⟩, ⟨some d3, .unOp .not 4 (.tmp d2), t3, p3, a3, none⟩] false).wp P Q) := by
  intro a w ha hw
  have hj : J pre w := hA pre Ws w none hJ hw.grown (fun r e => by cases e)
  obtain ⟨fn, tmps, assign, body, hy1, hR⟩ := hY w hj
  have ne1 : d0 ≠ y := Nat.ne_of_beq_eq_false hne
  have ne2 : d1 ≠ d0 := Nat.ne_of_beq_eq_false h01
  have b0 := Nat.le_of_ble_eq_true hd0
  have b1 := Nat.le_of_ble_eq_true hd1
  have b2 := Nat.le_of_ble_eq_true hd2
  have b3 := Nat.le_of_ble_eq_true hd3
  have ha1 := ha.put (v := .func (.yield l) #[] #[]) b0
  have ha2 := ha1.put (v := enc x) b1
  refine (wpIn_wide (n := 2)).1 (wpIn_region_lit (l := [_, _, _, _]) ?_)
  refine wpListIn_value rfl (QS.run (QS.move (N := N) (F := Bg.of0 w) (L := []) (M := M) (x := .tmp f) (v := .func (.yield l) #[] #[]) (by show look _ f = _; exact hf)) rfl ha (HpOK.start0 w)) ?_
  refine wpListIn_value rfl (QS.run (QS.move (N := N) (F := Bg.of0 w) (L := []) (M := (d0, .func (.yield l) #[] #[]) :: M) (x := .tmp y) (v := enc x) (by show look _ y = _; rw [look_cons, if_neg ne1]; exact hy)) rfl ha1 (HpOK.start0 w)) ?_
  have hv0 : ((a.put (some d0) (.func (.yield l) #[] #[])).put (some d1) (enc x)).eval (.tmp d0) = .func (.yield l) #[] #[] := ha2.eval (x := .tmp d0) (by show look _ d0 = _; rw [look_cons, if_neg ne2, look_cons, if_pos rfl])
  have hv1 : ((a.put (some d0) (.func (.yield l) #[] #[])).put (some d1) (enc x)).eval (.tmp d1) = enc x := ha2.eval (x := .tmp d1) (by show look _ d1 = _; rw [look_cons, if_pos rfl])
  refine wpListIn_plain rfl fun K hK => ?_
  refine ⟨fun _ _ => trivial, ?_⟩
  have hcall : (execOp ((a.put (some d0) (.func (.yield l) #[] #[])).put (some d1) (enc x)).eval ⟨some d2, .call { callee := .value (.tmp d0), args := #[.tmp d1], argTypes := ts }, t2, p2, a2, none⟩).run P w = .ok (.round l fn tmps assign body) w := by
    simp [execOp, resolve, Deferred.ofValue, hv0, hv1, invoke, hy1]
  rw [show ∀ ρ o, Oper.semAt Fence.wide.round ρ o = execOp ρ o from fun _ _ => rfl, hcall]
  refine ⟨fun h => ?_, hR.mono ?_⟩
  · cases h
  · rintro e W' (⟨rfl, hJ', hk⟩ | ⟨rfl, hJx⟩)
    · have ha3 := ha2.put (v := .bool true) b2
      refine hK _ _ (wpListIn_value (v := .bool false) rfl ?_ ?_)
      · exact QS.run (QS.not (N := N) (F := Bg.of0 W') (L := []) (M := (d2, .bool true) :: (d1, enc x) :: (d0, .func (.yield l) #[] #[]) :: M) (x := .tmp d2) (b := true) (by show look _ d2 = _; rw [look_cons, if_pos rfl])) rfl ha3 (HpOK.start0 W')
      · exact K1 w W' hw hk hJ' _ W' (ha3.put b3) (HpOK.start0 W')
    · have ha3 := ha2.put (v := .bool false) b2
      refine hK _ _ (wpListIn_value (v := .bool true) rfl ?_ ?_)
      · exact QS.run (QS.not (N := N) (F := Bg.of0 W') (L := []) (M := (d2, .bool false) :: (d1, enc x) :: (d0, .func (.yield l) #[] #[]) :: M) (x := .tmp d2) (b := false) (by show look _ d2 = _; rw [look_cons, if_pos rfl])) rfl ha3 (HpOK.start0 W')
      · exact K2 W' hJx _ W' (ha3.put b3) (HpOK.start0 W')
end

/-! ### what an iterator has read -/
section
open Classical
/-- The cells in W1, but for what the caller owned at w. -/
noncomputable def keptHp (bs : List Nat) (w W1 : World) : Hp := fun k => match W1.heap[k]? with
  | some o => if o.isCells = true ∧ ¬ ownW bs w k then some o else none
  | none => none
theorem keptHp_some {bs : List Nat} {w W1 : World} {k : Nat} {o : Obj} (h : keptHp bs w W1 k = some o) : W1.heap[k]? = some o ∧ o.isCells = true ∧ ¬ ownW bs w k := by
  unfold keptHp at h
  split at h
  · rename_i o' ho
    split at h
    · rename_i hq
      cases h; exact ⟨ho, hq⟩
    · cases h
  · cases h
theorem keptHp_le {bs : List Nat} {w W1 : World} : Hp.le (keptHp bs w W1) (hp W1) := fun b o e => (keptHp_some e).1
theorem keptHp_of {bs : List Nat} {w W1 : World} {H : Hp} (hH : Hp.le H (hp W1)) (hc : ∀ k o, H k = some o → o.isCells = true) (hn : ∀ k, ownW bs w k → H k = none) : Hp.le H (keptHp bs w W1) := fun b o e => by
  have h1 : W1.heap[b]? = some o := hH b o e
  unfold keptHp
  rw [h1]
  show (if o.isCells = true ∧ ¬ ownW bs w b then some o else none) = some o
  rw [if_pos ⟨hc b o e, fun h => by rw [hn b h] at e; cases e⟩]
/-- The cells alone. -/
def cellsHp (H : Hp) : Hp := fun k => match H k with
  | some (.cells c T f) => some (.cells c T f)
  | _ => none
theorem cellsHp_of {H : Hp} {k : Nat} {c : Array Value} {T : TypeId} {f : Nat × Nat} (h : H k = some (.cells c T f)) : cellsHp H k = some (.cells c T f) := by unfold cellsHp; rw [h]
theorem cellsHp_some {H : Hp} {k : Nat} {o : Obj} (h : cellsHp H k = some o) : H k = some o ∧ o.isCells = true := by
  unfold cellsHp at h
  split at h
  · rename_i c T f hq
    cases h; exact ⟨hq, rfl⟩
  · cases h
theorem Sl.cellsHp {α : Type} {H : Hp} {E : Enc α} {l : List α} {V : Value} (s : Sl H E l V) : Sl (HL.cellsHp H) E l V :=
  ⟨s.shape, fun i x hx => let ⟨cs, T, fz, hb, hc⟩ := s.cells i x hx; ⟨cs, T, fz, cellsHp_of hb, hc⟩⟩
theorem CellsIn.cellsHp {H : Hp} {b : Nat} {vs : List Value} (c : CellsIn H b vs) : CellsIn (HL.cellsHp H) b vs := let ⟨cs, T, fz, h1, h2⟩ := c; ⟨cs, T, fz, cellsHp_of h1, h2⟩
theorem newHp_kept {bs : List Nat} {w W1 : World} (hn : ∀ k, ownW bs w k → k < w.heap.size) : Hp.le (cellsHp (newHp w W1)) (keptHp bs w W1) := fun k o e => by
  obtain ⟨h1, h2⟩ := cellsHp_some e
  unfold newHp at h1
  split at h1
  · cases h1
  · rename_i hk
    unfold keptHp
    rw [h1]
    show (if o.isCells = true ∧ ¬ ownW bs w k then some o else none) = some o
    rw [if_pos ⟨h2, fun h => hk (hn k h)⟩]
/-- The kept heap stands a round. -/
theorem keptHp_round {bs : List Nat} {w W1 Ws W2 W' : World} (h1 : Hp.le (keptHp bs w W1) (hp Ws)) (hb : W1.heap.size ≤ Ws.heap.size) (ho : ∀ k, ownW bs Ws k → ownW bs w k ∨ W1.heap.size ≤ k) (hbs : ∀ b ∈ bs, b < Ws.heap.size) (hg : Ws.grownBy W2 none) (hk : KpW bs W2 W') :
    Hp.le (keptHp bs w W1) (hp W') ∧ W1.heap.size ≤ W'.heap.size ∧ (∀ k, ownW bs W' k → ownW bs w k ∨ W1.heap.size ≤ k) ∧ ∀ b ∈ bs, b < W'.heap.size := by
  have same : ∀ k, ownW bs W2 k ↔ ownW bs Ws k := ownW_same fun b hb => hg.block b (hbs b hb) (by simp)
  refine ⟨fun k o e => ?_, by have := hg.size; have := hk.size; omega, fun k h => ?_, fun b hb' => by have := hbs b hb'; have := hg.size; have := hk.size; omega⟩
  · have h2 := h1 k o e
    have h3 : W2.heap[k]? = some o := (hg.block k (Array.getElem?_eq_some_iff.1 h2).1 (by simp)).trans h2
    obtain ⟨q1, q2, q3⟩ := keptHp_some e
    refine hk.same k o h3 q2 fun hn => ?_
    have := (Array.getElem?_eq_some_iff.1 q1).1
    rcases ho k ((same k).1 hn) with q | q
    · exact q3 q
    · omega
  · rcases hk.own k h with q | q
    · exact ho k ((same k).1 q)
    · exact .inr (by have := hg.size; omega)
end
section
variable {P : Program} {N : Nat} {F : Bg} {L : List Ent} {M : Fr}
/-- A variable of one's own is only read from then on. -/
theorem Tr.frozenC {b : Nat} {cs : List Value} {T : TypeId} {L1 : List Ent} {X : Act → World → Prop} (hm : Del (cellE b cs T) L L1) (K : ∀ F', F.le F' → CellsIn F'.blk b cs → Tr N F' L1 M X) : Tr N F L M X := by
  intro a w ha hw
  have hf := hw.front hm
  have h1 : HpOK F L1 w := hf.mem (List.sublist_cons_self _ _)
  obtain ⟨F', e1, e2, e3⟩ := h1.freeze
  refine K F' e1 ?_ a w ha e2
  have he : w.heap[b]? = some (.cells cs.toArray T (0, 0)) := hf.ent _ (.head _)
  refine ⟨cs.toArray, T, (0, 0), e3 b _ ?_ he, fun j v hv => by simpa using hv⟩
  have := hf.nodup
  rw [blks_some (b := b) rfl, List.nodup_cons] at this
  exact this.1
theorem own_two {α β : Type} {F : Bg} {W : World} {bf bb : Nat} {Vf Vb : Value} {T1 T2 T3 T4 : TypeId} {E : Enc α} {G : Enc β} {xs : List α} {ys : List β} (h : HpOK F [cellE bf [Vf] T1, cellE bb [Vb] T2, rowE Vf T3 E xs, rowE Vb T4 G ys] W) (k : Nat) :
    ownW [bf, bb] W k ↔ k ∈ blks [cellE bf [Vf] T1, cellE bb [Vb] T2, rowE Vf T3 E xs, rowE Vb T4 G ys] := by
  have e1 : W.heap[bf]? = some (.cells [Vf].toArray T1 (0, 0)) := h.ent _ (.head _)
  have e2 : W.heap[bb]? = some (.cells [Vb].toArray T2 (0, 0)) := h.ent _ (.tail _ (.head _))
  have c1 : W.cell? ⟨bf, 0, none⟩ = some Vf := by simp [World.cell?, e1]
  have c2 : W.cell? ⟨bb, 0, none⟩ = some Vb := by simp [World.cell?, e2]
  have hb : blks [cellE bf [Vf] T1, cellE bb [Vb] T2, rowE Vf T3 E xs, rowE Vb T4 G ys] = bf :: bb :: (Vf.ownBlock.toList ++ Vb.ownBlock.toList) := by
    cases h1 : Vf.ownBlock <;> cases h2 : Vb.ownBlock <;> simp [blks, cellE, rowE, h1, h2]
  rw [hb]
  simp only [ownW, List.mem_cons, List.not_mem_nil, or_false, List.mem_append, Option.mem_toList, Option.mem_def]
  constructor
  · rintro ((rfl | rfl) | ⟨b, rfl | rfl, V, hV, hk⟩)
    · exact .inl rfl
    · exact .inr (.inl rfl)
    · rw [c1] at hV; cases hV; exact .inr (.inr (.inl hk))
    · rw [c2] at hV; cases hV; exact .inr (.inr (.inr hk))
  · rintro (rfl | rfl | hk | hk)
    · exact .inl (.inl rfl)
    · exact .inl (.inr rfl)
    · exact .inr ⟨bf, .inl rfl, Vf, c1, hk⟩
    · exact .inr ⟨bb, .inr rfl, Vb, c2, hk⟩
end
theorem HpOK.ents0 {F : Bg} {L : List Ent} {w w' : World} {Ls : List Ent} (h : HpOK F L w') (hl : F.lo = w.heap.size) (hs : Pick L Ls) : NewEnts w w' Ls := by
  have h' := hs.heap h
  refine ⟨h'.ent, h'.nodup, h'.lt, fun b hb => ?_⟩
  rw [← hl]; exact (h'.sep b hb).2
end Go.HL
