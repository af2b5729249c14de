/- Own rules and walks, part 2. -/
import Derived.Test.YtfnedefgepjbpaaB1
set_option linter.unusedSimpArgs false
set_option linter.unusedVariables false
set_option linter.unusedSectionVars false
namespace Go.HL
open Go Go.RowKit
theorem HpOK.freeze {F : Bg} {L : List Ent} {w : World} (h : HpOK F L w) : ∃ F', F.le F' ∧ HpOK F' L w ∧ ∀ b o, b ∉ blks L → w.heap[b]? = some o → F'.blk b = some o := by
  refine ⟨{ F with blk := fun b => if b ∈ blks L then none else w.heap[b]? }, ⟨fun b o e => ?_, Nat.le_refl _, rfl, rfl, rfl, rfl, rfl⟩, ⟨h.os, h.tape, h.out, h.n, h.dr, fun b o e => ?_, h.ent, h.nodup, h.lt, fun b hb => ⟨?_, (h.sep b hb).2⟩⟩, fun b o hb e => ?_⟩
  · have hn : b ∉ blks L := fun hb => by rw [(h.sep b hb).1] at e; cases e
    show (if b ∈ blks L then none else w.heap[b]?) = some o
    rw [if_neg hn]; exact h.bg b o e
  · have e' : (if b ∈ blks L then none else w.heap[b]?) = some o := e
    split at e'
    · cases e'
    · exact e'
  · show (if b ∈ blks L then none else w.heap[b]?) = none
    rw [if_pos hb]
  · show (if b ∈ blks L then none else w.heap[b]?) = some o
    rw [if_neg hb]; exact e
/-- What lies in blocks that the world did not have before. -/
def newHp (w w' : World) : Hp := fun b => if b < w.heap.size then none else w'.heap[b]?
theorem newHp_bg {F F' : Bg} {L : List Ent} {w w' : World} (h : HpOK F L w) (hb : ∀ b o, b ∉ blks L → w'.heap[b]? = some o → F'.blk b = some o) : Hp.le (newHp w w') F'.blk := fun b o e => by
  unfold newHp at e; split at e
  · cases e
  · exact hb b o (fun hm => by have := h.lt b hm; omega) e
/-- A row made in a call reads in the new blocks. -/
theorem NewRow.sl {α : Type} {w w' : World} {T : TypeId} {E : Enc α} {l : List α} {V : Value} (h : NewRow w w' T E l V) : Sl (newHp w w') E l V := by
  obtain ⟨h1, h2⟩ := h
  rcases h1 with ⟨rfl, rfl⟩ | ⟨g, cap, cur, rfl, ho, k1, k2, k3, k4⟩
  · exact Sl.nil _ _
  · refine RowOK.sl (T := T) (.inr ⟨g, cap, cur, rfl, ?_, k1, k2, k3, k4⟩)
    have hg := h2 g rfl
    show newHp w w' g = _
    unfold newHp; rw [if_neg (by omega)]; exact ho
section
variable {P : Program} {ops : Array Oper} {Q : Exit → Act → World → Prop} {N : Nat} {F : Bg} {L : List Ent} {M : Fr} {dst : Option Tmp} {ty : TypeId} {pos : String} {after : Array Edge} {g : Option (Nat × Bool)} {rest : List Oper} {d : Nat}
/-- A row of one's own is only read from now on. -/
theorem Tr.frozen {α : Type} {V : Value} {T : TypeId} {E : Enc α} {l : List α} {L1 : List Ent} {X : Act → World → Prop} (hV : Del (rowE V T E l) L L1) (K : ∀ F', F.le F' → Sl F'.blk E l V → Tr N F' L1 M X) : Tr N F L M X := by
  intro a w ha hw
  have hf := hw.front hV
  have h1 : HpOK F L1 w := hf.mem (List.sublist_cons_self _ _)
  obtain ⟨F', e1, e2, e3⟩ := h1.freeze
  refine K F' e1 ?_ a w ha e2
  have hr : RowOK V T E l (V.ownBlock.bind (w.heap[·]?)) := hf.ent _ (.head _)
  rcases hr with ⟨rfl, rfl⟩ | ⟨gb, cap, cur, rfl, ho, k1, k2, k3, k4⟩
  · exact Sl.nil _ _
  · refine RowOK.sl (T := T) (.inr ⟨gb, cap, cur, rfl, ?_, k1, k2, k3, k4⟩)
    refine e3 gb _ ?_ ho
    have := hf.nodup
    rw [blks_some (b := gb) rfl, List.nodup_cons] at this
    exact this.1
/-- A call that hands back something new, which is only read from then on. -/
theorem Tr.callBg {ι : Type} {R : Hp → ι → Prop} (φ : ι → Value) {f : FuncId} {xs : List Operand} {vs : List Value} {ts : Array TypeId} (hR : ∀ h h' i, Hp.le h h' → R h i → R h' i) (hx : opvs M xs = some vs)
    (he : ∀ (args : Array Value) (w : World), (callFunc f args).run P w = .ok (.enter f args) w)
    (hc : ∀ w, HpOK F L w → Calls P f vs.toArray w fun e w' => ∃ i, e = .returned (φ i) ∧ Ext w w' ∧ R (newHp w w') i) (hd : Nat.ble (d + 1) N = true)
    (K : ∀ i F', F.le F' → R F'.blk i → Tr N F' L ((d, φ i) :: M) (wpList P ops Q rest)) :
    Tr N F L M (wpList P ops Q (⟨some d, .call { callee := .value (.func f), args := xs.toArray, argTypes := ts }, ty, pos, after, none⟩ :: rest)) := by
  intro a w ha hw
  refine wpList_plain rfl fun K' hK => ?_
  have hr : (execOp a.eval ⟨some d, .call { callee := .value (.func f), args := xs.toArray, argTypes := ts }, ty, pos, after, none⟩).run P w = .ok (.enter f vs.toArray) w := by
    have := ha.evals hx
    simp [execOp, resolve, Deferred.ofValue, Act.eval, invoke, he, this]
  unfold Oper.wp
  rw [hr]
  refine (hc w hw).mono fun e w' ⟨i, h1, h2, h3⟩ => ?_
  subst h1
  obtain ⟨F', e1, e2, e3⟩ := (hw.grow h2).freeze
  exact hK _ _ (K i F' e1 (hR _ _ _ (newHp_bg hw e3) h3) _ _ (ha.put (Nat.le_of_ble_eq_true hd)) e2)
structure NewEnts (w w' : World) (Ls : List Ent) : Prop where
  ent : ∀ e ∈ Ls, e.holds w'
  nodup : (blks Ls).Nodup
  lt : ∀ b ∈ blks Ls, b < w'.heap.size
  ge : ∀ b ∈ blks Ls, w.heap.size ≤ b
theorem HpOK.newEnts {w w' : World} {Ls : List Ent} (h : HpOK F L w) (hx : Ext w w') (hn : NewEnts w w' Ls) : HpOK F (Ls ++ L) w' := by
  have hg := h.grow hx
  have hbl : blks (Ls ++ L) = blks Ls ++ blks L := List.filterMap_append
  refine ⟨hg.os, hg.tape, hg.out, hg.n, hg.dr, hg.bg, fun e he => ?_, ?_, fun b hb => ?_, fun b hb => ?_⟩
  · rcases List.mem_append.1 he with he | he
    · exact hn.ent e he
    · exact hg.ent e he
  · rw [hbl, List.nodup_append]
    exact ⟨hn.nodup, hg.nodup, fun a ha b hb => by have := hn.ge a ha; have := h.lt b hb; omega⟩
  · rw [hbl] at hb
    rcases List.mem_append.1 hb with hb | hb
    · exact hn.lt b hb
    · exact hg.lt b hb
  · rw [hbl] at hb
    rcases List.mem_append.1 hb with hb | hb
    · have hge := hn.ge b hb
      refine ⟨?_, Nat.le_trans (Nat.le_trans F.lo_le h.n) hge⟩
      cases hF : F.blk b with
      | none => rfl
      | some o =>
        have := h.bg _ _ hF
        have := (Array.getElem?_eq_some_iff.1 this).1
        omega
    · exact hg.sep b hb
theorem HpOK.ents {w w' : World} {Ls : List Ent} (h : HpOK F L w') (hF : (Bg.of w).le F) (hs : Pick L Ls) : NewEnts w w' Ls := by
  have h' := hs.heap h
  refine ⟨h'.ent, h'.nodup, h'.lt, fun b hb => ?_⟩
  have := (h'.sep b hb).2
  rw [hF.lo] at this; exact this
/-- A call that hands back a value with many new rows in it. -/
theorem Tr.callEnts {ι : Type} (φ : ι → Value) (Ls : ι → List Ent) {ok : ι → Prop} {f : FuncId} {xs : List Operand} {vs : List Value} {ts : Array TypeId} (hx : opvs M xs = some vs)
    (he : ∀ (args : Array Value) (w : World), (callFunc f args).run P w = .ok (.enter f args) w)
    (hc : ∀ w, HpOK F L w → Calls P f vs.toArray w fun e w' => ∃ i, e = .returned (φ i) ∧ Ext w w' ∧ NewEnts w w' (Ls i) ∧ ok i) (hd : Nat.ble (d + 1) N = true)
    (K : ∀ i, ok i → Tr N F (Ls i ++ L) ((d, φ i) :: M) (wpList P ops Q rest)) :
    Tr N F L M (wpList P ops Q (⟨some d, .call { callee := .value (.func f), args := xs.toArray, argTypes := ts }, ty, pos, after, none⟩ :: rest)) := by
  intro a w ha hw
  refine wpList_plain rfl fun K' hK => ?_
  have hr : (execOp a.eval ⟨some d, .call { callee := .value (.func f), args := xs.toArray, argTypes := ts }, ty, pos, after, none⟩).run P w = .ok (.enter f vs.toArray) w := by
    have := ha.evals hx
    simp [execOp, resolve, Deferred.ofValue, Act.eval, invoke, he, this]
  unfold Oper.wp
  rw [hr]
  refine (hc w hw).mono fun e w' ⟨i, h1, h2, h3, h4⟩ => ?_
  subst h1
  exact hK _ _ (K i h4 _ _ (ha.put (Nat.le_of_ble_eq_true hd)) (hw.newEnts h2 h3))
open Go.Lib in
theorem Tr.strBytes {x : Operand} {s t e : TypeId} {u : TypeDesc} {b : ByteArray} (hx : opv M x = some (.string b)) (hs : P.underlying s = some u) (ht : P.underlying t = some (.slice e)) (he : P.underlying e = some (.int .u8)) (hb : b.size ≤ maxLen) (hd : Nat.ble (d + 1) N = true)
    (K : ∀ V F', F.le F' → Sl F'.blk encU8 (bts b) V → Tr N F' L ((d, V) :: M) (wpList P ops Q rest)) : Tr N F L M (wpList P ops Q (⟨some d, .convert s t x, ty, pos, after, none⟩ :: rest)) := by
  intro a w ha hw
  refine wpList_plain rfl fun K' hK => ?_
  have hr := Go.Lib.run_convert_string_bytes (P := P) w s t e b hs ht he
  have hge := grownCap_ge w b.size 0 e
  have hx2 : Ext w (bytesWorld w e b) := ⟨⟨rfl, rfl, rfl, by rw [bytesWorld_size]; omega, fun k hk => bytesWorld_at_old w e b k hk⟩, by simp [bytesWorld, World.freeze]⟩
  obtain ⟨F', e1, e2, e3⟩ := (hw.grow hx2).freeze
  have hnew := e3 w.heap.size _ (fun hm => by have := hw.lt _ hm; omega) (bytesWorld_at_new w e b)
  unfold Oper.wp
  simp only [execOp, ha.eval hx, Sem.run_bind, hr, Result.andThen_ok, Sem.run_pure, Oper.upon]
  refine hK _ _ (K _ F' e1 ?_ _ _ (ha.put (Nat.le_of_ble_eq_true hd)) e2)
  have hl := bts_len b
  refine ⟨⟨some ⟨w.heap.size, 0, none⟩, grownCap w b.size 0 e, by rw [hl], by rw [hl]; exact hge, grownCap_le_maxLen w _ 0 e hb, fun _ => rfl⟩, fun i x hi => ⟨_, _, _, hnew, fun j v hj => ?_⟩⟩
  have hi' : i < b.size := by rw [← hl]; exact (List.getElem?_eq_some_iff.1 hi).1
  have hj' : j = 0 := by have := (List.getElem?_eq_some_iff.1 hj).1; simp [encU8] at this; exact this
  subst hj'
  simp only [encU8, List.getElem?_cons_zero, Option.some.injEq] at hj
  subst hj
  have hi2 : b.data[i]? = some x := by
    rw [← Array.getElem?_toList]; exact hi
  have hi3 : i < b.data.size := hi'
  simp [bytesCells, ofs, encU8, Array.getElem?_append, hi2, hi3]
  intro h; omega
def CellsIn (h : Hp) (b : Nat) (vs : List Value) : Prop := ∃ (cs : Array Value) (T : TypeId) (fz : Nat × Nat), h b = some (.cells cs T fz) ∧ ∀ (j : Nat) (v : Value), vs[j]? = some v → cs[j]? = some v
theorem CellsIn.mono {h k : Hp} {b : Nat} {vs : List Value} (c : CellsIn h b vs) (hk : Hp.le h k) : CellsIn k b vs := let ⟨cs, T, fz, h1, h2⟩ := c; ⟨cs, T, fz, hk _ _ h1, h2⟩
theorem cellE.cellsIn {b : Nat} {cs : List Value} {T : TypeId} {w w' : World} (h : (cellE b cs T).holds w) (hx : Ext w w') : CellsIn (HL.hp w') b cs :=
  CellsIn.mono (h := HL.hp w) ⟨cs.toArray, T, (0, 0), h, fun j v hv => by simpa using hv⟩ hx.hp
theorem CellsIn.cell {h : Hp} {b : Nat} {vs : List Value} (c : CellsIn h b vs) {j : Nat} {v : Value} (hv : vs[j]? = some v) : Cell h b j v := let ⟨cs, T, fz, h1, h2⟩ := c; ⟨cs, T, fz, h1, h2 j v hv⟩
theorem QS.loadCA {x : Operand} {t : TypeId} {b k : Nat} {vs : List Value} (hx : opv M x = some (.pointer (some ⟨b, 0, none⟩))) (hc : CellsIn F.blk b vs) (hagg : ∀ w, (isAgg t).run P w = .ok true w) (hz : ∀ w, (sizeOf t).run P w = .ok k w) (hl : vs.length = k) :
    QS P N F L M ⟨dst, .load t x, ty, pos, after, g⟩ (.agg vs.toArray) :=
  QS.loadA hx hagg hz hl fun w hw j v hj => by
    rw [Nat.zero_add]; exact ((hc.mono hw.bg).cell hj).at
theorem QS.loadCF {x : Operand} {t : TypeId} {b o : Nat} {v : Value} {vs : List Value} (hx : opv M x = some (.pointer (some ⟨b, o, none⟩))) (hc : CellsIn F.blk b vs) (hagg : ∀ w, (isAgg t).run P w = .ok false w) (hv : vs[o]? = some v) :
    QS P N F L M ⟨dst, .load t x, ty, pos, after, g⟩ v :=
  QS.load1 hx hagg fun w hw => ((hc.mono hw.bg).cell hv).at
theorem Pick.refl : ∀ L : List Ent, Pick L L
  | [] => .nil _
  | e :: L => .cons (.here _) (Pick.refl L)
theorem NewEnts.row {α : Type} {w w' : World} {Ls : List Ent} {V : Value} {T : TypeId} {E : Enc α} {l : List α} (h : NewEnts w w' Ls) (hm : rowE V T E l ∈ Ls) : NewRow w w' T E l V :=
  ⟨h.ent _ hm, fun b hb => h.ge b (List.mem_filterMap.2 ⟨_, hm, hb⟩)⟩
/-- What a row's slice value is like. -/
theorem Tr.rowShape {α : Type} {V : Value} {T : TypeId} {E : Enc α} {l : List α} {X : Act → World → Prop} (hm : rowE V T E l ∈ L) (K : ∀ a c, V = .slice a l.length c → Tr N F L M X) : Tr N F L M X := by
  intro a w ha hw
  have hr : RowOK V T E l (V.ownBlock.bind (w.heap[·]?)) := hw.ent _ hm
  rcases hr with ⟨h1, h2⟩ | ⟨gb, cap, cur, h1, _⟩
  · exact K none 0 (by rw [h1, h2]; rfl) a w ha hw
  · exact K _ _ h1 a w ha hw
end
end Go.HL
namespace Go.HL
open Go
/-- A section, and where its bytes lie. -/
structure SecV where
  name : ByteArray
  addr : UInt32
  data : List UInt8
  dp : Option Addr
  dc : Nat
  wr : Bool
  ex : Bool
  deriving Inhabited
def encSec : Enc SecV := ⟨5, fun s => [.string s.name, .int .u32 s.addr.toNat, .slice s.dp s.data.length s.dc, .bool s.wr, .bool s.ex], fun _ => rfl,
  fun x v h => by simp at h; rcases h with h | h | h | h | h <;> subst h <;> rfl⟩
structure Sec where
  name : ByteArray
  addr : UInt32
  data : List UInt8
  wr : Bool
  ex : Bool
  deriving DecidableEq, Inhabited
def SecV.pl (s : SecV) : Sec := ⟨s.name, s.addr, s.data, s.wr, s.ex⟩
/-- The sections' bytes read. -/
def DataIn (h : Hp) (l : List SecV) : Prop := ∀ s ∈ l, Sl h encU8 s.data (.slice s.dp s.data.length s.dc)
theorem DataIn.mono {h h' : Hp} {l : List SecV} (d : DataIn h l) (hh : Hp.le h h') : DataIn h' l := fun s hs => (d s hs).mono hh
/-- Not too much. -/
def SecB (l : List SecV) : Prop := l.length ≤ 1000 ∧ ∀ s ∈ l, s.data.length ≤ 200000
theorem SecB.at {l : List SecV} (h : SecB l) {k : Nat} (hk : k < l.length) : (l.getD k default).data.length ≤ 200000 := h.2 _ (mem_getD hk)
def lowB (c : UInt8) : Bool := decide (c < 97) || decide (122 < c)
def uppB (c : UInt8) : Bool := decide (c < 65) || decide (90 < c)
def digB (c : UInt8) : Bool := decide (c < 48) || decide (57 < c)
/-- No sign of a name. -/
def badB (c : UInt8) : Bool := (((lowB c && uppB c) && digB c) && decide (c ≠ 95)) && decide (c ≠ 46)
def nameP (s : ByteArray) : Bool := !(bts s).any badB && (decide (1 ≤ (s.size : Int)) && decide ((s.size : Int) ≤ 32))
def endP (s : SecV) : Int := min ((s.addr.toNat : Int) + s.data.length) 4294967295
def spaceP (s : SecV) : Rng := ⟨s.addr, u32 (endP s)⟩
theorem endP_rng (s : SecV) : 0 ≤ endP s ∧ endP s ≤ 4294967295 := by unfold endP; omega
theorem u32_val {n : Int} (h : 0 ≤ n ∧ n ≤ 4294967295) : ((u32 n).toNat : Int) = n := by
  unfold u32; rw [UInt32.toNat_ofNat']; omega
theorem space_hi (s : SecV) : ((spaceP s).hi.toNat : Int) = endP s := u32_val (endP_rng s)
def inS (a : UInt32) (s : SecV) : Bool := inR a (spaceP s)
theorem inS_iff {a : UInt32} {s : SecV} : inS a s = true ↔ s.addr.toNat ≤ a.toNat ∧ (a.toNat : Int) < endP s := by
  have h := space_hi s
  simp only [inS, inR, Bool.and_eq_true, decide_eq_true_eq, UInt32.le_iff_toNat_le, UInt32.lt_iff_toNat_lt]
  have : (spaceP s).lo = s.addr := rfl
  rw [this]; omega
def findP (l : List SecV) (a : UInt32) : Int := idxP (inS a) 0 l
theorem idxP_bound {α : Type} (p : α → Bool) : ∀ (l : List α) (k : Nat), -1 ≤ idxP p k l ∧ idxP p k l < (k : Int) + l.length
  | [], k => by simp [idxP]; omega
  | x :: l, k => by
    unfold idxP
    split
    · simp; omega
    · have := idxP_bound p l (k + 1); simp; omega
theorem findP_lt {l : List SecV} {a : UInt32} : -1 ≤ findP l a ∧ findP l a < l.length := by
  have := idxP_bound (inS a) l 0; unfold findP; omega
theorem idxP_at {α : Type} [Inhabited α] (p : α → Bool) : ∀ (l : List α) (k : Nat), 0 ≤ idxP p k l → (k : Int) ≤ idxP p k l ∧ p (l.getD (idxP p k l - k).toNat default) = true
  | [], k, h => by simp [idxP] at h
  | x :: l, k, h => by
    unfold idxP at h ⊢
    split
    · rename_i hx; simp [hx]
    · rename_i hx
      rw [if_neg hx] at h
      obtain ⟨h1, h2⟩ := idxP_at p l (k + 1) h
      refine ⟨by omega, ?_⟩
      rw [show (idxP p (k + 1) l - (k : Int)).toNat = (idxP p (k + 1) l - ((k + 1 : Nat) : Int)).toNat + 1 by omega, List.getD_cons_succ]
      exact h2
theorem findP_in {l : List SecV} {a : UInt32} (h : 0 ≤ findP l a) : inS a (l.getD (findP l a).toNat default) = true := by
  have := (idxP_at (inS a) l 0 h).2
  rwa [Int.natCast_zero, Int.sub_zero] at this
/-- A list of sections made anew. -/
def SecsAt (h : Hp) (ls : List Sec) (V : Value) : Prop := ∃ l, Sl h encSec l V ∧ DataIn h l ∧ l.map SecV.pl = ls
theorem SecsAt.mono {h h' : Hp} {ls : List Sec} {V : Value} (s : SecsAt h ls V) (hh : Hp.le h h') : SecsAt h' ls V := let ⟨l, a, b, c⟩ := s; ⟨l, a.mono hh, b.mono hh, c⟩
def meetP (a b : Rng) : Bool := decide ((if a.lo < b.lo then b.lo else a.lo) < (if b.hi < a.hi then b.hi else a.hi))
def stackP : Rng := ⟨978944, 983040⟩
/-- The first error of a section after others. -/
def oneP (l : List SecV) (i : Nat) : Int :=
  let s := l.getD i default
  if (s.data.length : Int) > 65536 then 6 else if nameP s.name = false then 3 else if (l.take i).any (fun x => decide (x.name = s.name)) = true then 8
  else if (s.addr.toNat : Int) + s.data.length > 4294967295 ∨ meetP (spaceP s) stackP = true then 7 else 0
def firstP (f : Nat → Int) : Nat → Nat → Int
  | _, 0 => 0
  | i, n + 1 => if f i ≠ 0 then f i else firstP f (i + 1) n
def overP (l : List SecV) (i : Nat) : Bool := (l.take i).any fun x => meetP (spaceP x) (spaceP (l.getD i default))
def checkS (l : List SecV) : Int :=
  if (l.length : Int) > 16 then 6 else if firstP (oneP l) 0 l.length ≠ 0 then firstP (oneP l) 0 l.length
  else firstP (fun i => if overP l i = true then 10 else 0) 0 l.length
theorem any_take_succ {α : Type} [Inhabited α] {p : α → Bool} {l : List α} {k : Nat} (h : k < l.length) : (l.take (k + 1)).any p = ((l.take k).any p || p (l.getD k default)) := by
  rw [take_succ h, List.any_append]; simp
theorem any_take_all {α : Type} {p : α → Bool} {l : List α} {k : Nat} (h : l.length ≤ k) : (l.take k).any p = l.any p := by rw [List.take_of_length_le h]
theorem nameP_bad {s : ByteArray} {k : Nat} (hk : k < s.size) (hb : badB ((bts s).getD k default) = true) : nameP s = false := by
  have h1 : (bts s).any badB = true := List.any_eq_true.2 ⟨_, mem_getD (by rw [bts_len]; exact hk), hb⟩
  unfold nameP; rw [h1]; rfl
theorem nameP_end {s : ByteArray} {k : Nat} (hk : s.size ≤ k) (h : ((bts s).take k).any badB = false) : nameP s = (decide (1 ≤ (s.size : Int)) && decide ((s.size : Int) ≤ 32)) := by
  rw [any_take_all (by rw [bts_len]; exact hk)] at h
  unfold nameP; rw [h]; rfl
theorem firstP_hit {f : Nat → Int} {k n : Nat} (hn : 0 < n) (h : f k ≠ 0) : firstP f k n = f k := by
  obtain ⟨m, rfl⟩ : ∃ m, n = m + 1 := ⟨n - 1, by omega⟩
  unfold firstP; rw [if_pos h]
theorem firstP_next {f : Nat → Int} {k n : Nat} (hk : k < n) (h : f k = 0) : firstP f (k + 1) (n - (k + 1)) = firstP f k (n - k) := by
  obtain ⟨m, hm⟩ : ∃ m, n - k = m + 1 := ⟨n - k - 1, by omega⟩
  rw [hm, show n - (k + 1) = m by omega]
  conv => rhs; unfold firstP
  rw [if_neg (by simp [h])]
theorem check_0 {l : List SecV} (h : (16 : Int) < l.length) : checkS l = 6 := by unfold checkS; rw [if_pos h]
theorem check_1 {l : List SecV} {k : Nat} {v : Int} (hl : ¬ (16 : Int) < l.length) (hk : k < l.length) (hi : firstP (oneP l) k (l.length - k) = firstP (oneP l) 0 l.length) (h : oneP l k = v) (hv : v ≠ 0) : checkS l = v := by
  rw [firstP_hit (by omega) (by rw [h]; exact hv), h] at hi
  unfold checkS; rw [if_neg hl, ← hi, if_pos hv]
theorem check_2 {l : List SecV} {k : Nat} (hl : ¬ (16 : Int) < l.length) (h1 : firstP (oneP l) 0 l.length = 0) (hk : k < l.length) (hi : firstP (fun i => if overP l i = true then 10 else 0) k (l.length - k) = firstP (fun i => if overP l i = true then 10 else 0) 0 l.length) (h : overP l k = true) : checkS l = 10 := by
  rw [firstP_hit (by omega) (by rw [if_pos h]; decide), if_pos h] at hi
  unfold checkS; rw [if_neg hl, if_neg (by simp [h1]), ← hi]
theorem check_3 {l : List SecV} (hl : ¬ (16 : Int) < l.length) (h1 : firstP (oneP l) 0 l.length = 0) (h2 : firstP (fun i => if overP l i = true then 10 else 0) 0 l.length = 0) : checkS l = 0 := by
  unfold checkS; rw [if_neg hl, if_neg (by simp [h1]), h2]
theorem firstP_zero {f : Nat → Int} {k n : Nat} (hk : n ≤ k) : firstP f k (n - k) = 0 := by rw [show n - k = 0 by omega]; rfl
def dRow (U : TypeId) (s : SecV) : Ent := rowE (.slice s.dp s.data.length s.dc) U encU8 s.data
def secEnts (T U : TypeId) (V : Value) (l : List SecV) : List Ent := rowE V T encSec l :: l.reverse.map (dRow U)
theorem SecsAt.nil {h : Hp} : SecsAt h [] (.slice none 0 0) := ⟨[], Sl.nil _ _, fun s hs => (by simp at hs), rfl⟩
theorem drow_step {U : TypeId} {xs : List SecV} {k : Nat} {x : SecV} (h : k < xs.length) : ((xs.set k x).take (k + 1)).reverse.map (dRow U) = dRow U x :: (xs.take k).reverse.map (dRow U) := by
  rw [List.take_succ_eq_append_getElem (by simpa using h)]
  simp [List.reverse_append, List.take_set]
  exact List.set_eq_of_length_le (by simp; omega)
theorem map_set_pl {xs : List SecV} {k : Nat} {x : SecV} (h : k < xs.length) (hx : x.pl = (xs.getD k default).pl) : (xs.set k x).map SecV.pl = xs.map SecV.pl := by
  rw [List.map_set, hx]
  apply List.ext_getElem?
  intro j
  rw [List.getElem?_set]
  split
  · rename_i e; subst e
    simp [h, List.getD_eq_getElem?_getD]
  · rfl
theorem map_pl_len {xs ys : List SecV} (h : xs.map SecV.pl = ys.map SecV.pl) : xs.length = ys.length := by simpa using congrArg List.length h
theorem getD_set_ne' {xs : List SecV} {k j : Nat} {x : SecV} (h : k ≠ j) : (xs.set k x).getD j default = xs.getD j default := by
  simp [List.getD_eq_getElem?_getD, List.getElem?_set_ne h]
end Go.HL
namespace Go.Proofs.Ytfnedefgepjbpaa
open Go Go.HL Go.RowKit
set_option maxRecDepth 100000 in
set_option maxHeartbeats 2000000 in
theorem name_any (s : ByteArray) (w : World) (hs : s.size ≤ 9223372036854775807) :
    Calls Try.prog 41 #[.string s] w (fun e w' => e = .returned (.bool (nameP s)) ∧ Ext w w') := by
  have hbl := bts_len s
  refine enter Try.func41 rfl Try.ntmps41 rfl ?_
  refine Tr.seq ?_
  refine Tr.region ?_
  refine Tr.q (QS.assign rfl) rfl ?_
  refine Tr.nil ?_
  refine Tr.thenN ?_
  refine Tr.seq ?_
  refine Tr.seq ?_
  refine Tr.region ?_
  refine Tr.q (QS.move rfl) rfl ?_
  refine Tr.strBytes rfl Try.underlying9 Try.underlying54 Try.underlying5 (by unfold maxLen; omega) rfl (fun V1 F1 hF1 hV1 => ?_)
  refine Tr.q (QS.len rfl (by assumption) Try.underlying54) rfl ?_
  refine Tr.q (QS.move rfl) rfl ?_
  refine Tr.nil ?_
  refine Tr.thenN ?_
  refine Tr.block ?_
  refine Tr.loop (ι := Nat) (fun k => k ≤ s.size ∧ ((bts s).take k).any badB = false) (fun _ => _) (fun k => []) (fun k => [(8, .int .i64 (k : Nat))]) (fun k => s.size - k) 0 ⟨Nat.zero_le _, rfl⟩ (.cons (by first | rfl | exact lookI rfl (by omega) | exact lookI rfl (by simp) | exact lookB rfl (by simp)) Front.nil) (by repeat' (first | exact Pick.nil _ | exact Del.here _ | apply Pick.cons | apply Del.there)) rfl (fun k hi m hm => ?_)
  replace hi : k ≤ s.size ∧ ((bts s).take k).any badB = false := hi
  replace hm : m = s.size - k := hm
  change Tr _ _ [] ([(8, .int .i64 (k : Nat))] ++ _) _
  obtain ⟨hk1, hk2⟩ := hi
  refine Tr.seq ?_
  refine Tr.region ?_
  refine Tr.q (QS.lss rfl rfl) rfl ?_
  refine Tr.nil ?_
  refine Tr.thenN ?_
  refine Tr.seq ?_
  refine Tr.cond rfl (fun h2 => ?_) (fun h2 => ?_)
  · try simp only [bs] at h2
    refine Tr.skip ?_
    refine Tr.thenN ?_
    refine Tr.seq ?_
    refine Tr.block ?_
    refine Tr.seq ?_
    refine Tr.region ?_
    refine Tr.q (QS.idxN rfl rfl (by assumption) Try.underlying54 Try.sizeOf5 (by rfl) (by omega)) rfl ?_
    refine Tr.q (QS.el1 rfl (by assumption) Try.isAgg5 (by omega) (by rfl)) rfl ?_
    refine Tr.q (QS.assign rfl) rfl ?_
    refine Tr.nil ?_
    refine Tr.thenN ?_
    refine Tr.seq ?_
    refine Tr.region ?_
    refine Tr.q (QS.move rfl) rfl ?_
    refine Tr.q (QS.lss8 (n := 97) rfl rfl) rfl ?_
    refine Tr.q (QS.move rfl) rfl ?_
    apply Tr.orP
    · exact (rfl : _ = (3, 14, 17))
    · exact rfl
    · intro hF3; have hF3' := hF3
      try simp only [bs] at hF3'
      refine Tr.gq rfl rfl hF3 (QS.move rfl) rfl ?_
      refine Tr.gq rfl rfl hF3 (QS.gtr8 (n := 122) rfl rfl) rfl ?_
      refine Tr.q (QS.pickF rfl hF3 rfl) rfl ?_
      refine Tr.nil (Tr.thenN ?_)
      exact Tr.endX (Sub.cons rfl (Sub.dropN 3 (by kernel_rfl) rfl))
    · intro hT3
      refine Tr.gskip rfl rfl hT3 rfl ?_
      refine Tr.gskip rfl rfl hT3 rfl ?_
      refine Tr.q (QS.pickT rfl hT3 rfl) rfl ?_
      refine Tr.nil (Tr.thenN ?_)
      exact Tr.endX (Sub.cons rfl (Sub.dropN 3 (by kernel_rfl) rfl))
    refine Tr.q (QS.move rfl) rfl ?_
    apply Tr.andP
    · exact (rfl : _ = (7, 18, 25))
    · exact rfl
    · intro hT4; have hT4' := hT4
      try simp only [bs] at hT4'
      refine Tr.gq rfl rfl hT4 (QS.move rfl) rfl ?_
      refine Tr.gq rfl rfl hT4 (QS.lss8 (n := 65) rfl rfl) rfl ?_
      refine Tr.gq rfl rfl hT4 (QS.move rfl) rfl ?_
      apply Tr.orP
      · exact (rfl : _ = (3, 21, 24))
      · exact rfl
      · intro hF5; have hF5' := hF5
        try simp only [bs] at hF5'
        refine Tr.gq rfl rfl hF5 (QS.move rfl) rfl ?_
        refine Tr.gq rfl rfl hF5 (QS.gtr8 (n := 90) rfl rfl) rfl ?_
        refine Tr.gq rfl rfl hT4 (QS.pickF rfl hF5 rfl) rfl ?_
        refine Tr.nil (Tr.thenN ?_)
        exact Tr.endX (Sub.cons rfl (Sub.dropN 3 (by kernel_rfl) rfl))
      · intro hT5
        refine Tr.gskip rfl rfl hT5 rfl ?_
        refine Tr.gskip rfl rfl hT5 rfl ?_
        refine Tr.gq rfl rfl hT4 (QS.pickT rfl hT5 rfl) rfl ?_
        refine Tr.nil (Tr.thenN ?_)
        exact Tr.endX (Sub.cons rfl (Sub.dropN 3 (by kernel_rfl) rfl))
      refine Tr.q (QS.pickT rfl hT4 rfl) rfl ?_
      refine Tr.nil (Tr.thenN ?_)
      exact Tr.endX (Sub.cons rfl (Sub.dropN 5 (by kernel_rfl) rfl))
    · intro hF4
      refine Tr.gskip rfl rfl hF4 rfl ?_
      refine Tr.gskip rfl rfl hF4 rfl ?_
      refine Tr.gskip rfl rfl hF4 rfl ?_
      refine Tr.gskipU rfl rfl rfl ?_
      refine Tr.gskipU rfl rfl rfl ?_
      refine Tr.gskip rfl rfl hF4 rfl ?_
      refine Tr.q (QS.pickF rfl hF4 rfl) rfl ?_
      refine Tr.nil (Tr.thenN ?_)
      exact Tr.endX (Sub.cons rfl (Sub.dropN 7 (by kernel_rfl) rfl))
    refine Tr.q (QS.move rfl) rfl ?_
    apply Tr.andP
    · exact (rfl : _ = (7, 26, 33))
    · exact rfl
    · intro hT6; have hT6' := hT6
      try simp only [bs] at hT6'
      refine Tr.gq rfl rfl hT6 (QS.move rfl) rfl ?_
      refine Tr.gq rfl rfl hT6 (QS.lss8 (n := 48) rfl rfl) rfl ?_
      refine Tr.gq rfl rfl hT6 (QS.move rfl) rfl ?_
      apply Tr.orP
      · exact (rfl : _ = (3, 29, 32))
      · exact rfl
      · intro hF7; have hF7' := hF7
        try simp only [bs] at hF7'
        refine Tr.gq rfl rfl hF7 (QS.move rfl) rfl ?_
        refine Tr.gq rfl rfl hF7 (QS.gtr8 (n := 57) rfl rfl) rfl ?_
        refine Tr.gq rfl rfl hT6 (QS.pickF rfl hF7 rfl) rfl ?_
        refine Tr.nil (Tr.thenN ?_)
        exact Tr.endX (Sub.cons rfl (Sub.dropN 3 (by kernel_rfl) rfl))
      · intro hT7
        refine Tr.gskip rfl rfl hT7 rfl ?_
        refine Tr.gskip rfl rfl hT7 rfl ?_
        refine Tr.gq rfl rfl hT6 (QS.pickT rfl hT7 rfl) rfl ?_
        refine Tr.nil (Tr.thenN ?_)
        exact Tr.endX (Sub.cons rfl (Sub.dropN 3 (by kernel_rfl) rfl))
      refine Tr.q (QS.pickT rfl hT6 rfl) rfl ?_
      refine Tr.nil (Tr.thenN ?_)
      exact Tr.endX (Sub.cons rfl (Sub.dropN 5 (by kernel_rfl) rfl))
    · intro hF6
      refine Tr.gskip rfl rfl hF6 rfl ?_
      refine Tr.gskip rfl rfl hF6 rfl ?_
      refine Tr.gskip rfl rfl hF6 rfl ?_
      refine Tr.gskipU rfl rfl rfl ?_
      refine Tr.gskipU rfl rfl rfl ?_
      refine Tr.gskip rfl rfl hF6 rfl ?_
      refine Tr.q (QS.pickF rfl hF6 rfl) rfl ?_
      refine Tr.nil (Tr.thenN ?_)
      exact Tr.endX (Sub.cons rfl (Sub.dropN 7 (by kernel_rfl) rfl))
    refine Tr.q (QS.move rfl) rfl ?_
    apply Tr.andP
    · exact (rfl : _ = (3, 34, 37))
    · exact rfl
    · intro hT8; have hT8' := hT8
      try simp only [bs] at hT8'
      refine Tr.gq rfl rfl hT8 (QS.move rfl) rfl ?_
      refine Tr.gq rfl rfl hT8 (QS.neq8 (n := 95) rfl rfl) rfl ?_
      refine Tr.q (QS.pickT rfl hT8 rfl) rfl ?_
      refine Tr.nil (Tr.thenN ?_)
      exact Tr.endX (Sub.cons rfl (Sub.dropN 3 (by kernel_rfl) rfl))
    · intro hF8
      refine Tr.gskip rfl rfl hF8 rfl ?_
      refine Tr.gskip rfl rfl hF8 rfl ?_
      refine Tr.q (QS.pickF rfl hF8 rfl) rfl ?_
      refine Tr.nil (Tr.thenN ?_)
      exact Tr.endX (Sub.cons rfl (Sub.dropN 3 (by kernel_rfl) rfl))
    refine Tr.q (QS.move rfl) rfl ?_
    apply Tr.andP
    · exact (rfl : _ = (3, 38, 41))
    · exact rfl
    · intro hT9; have hT9' := hT9
      try simp only [bs] at hT9'
      refine Tr.gq rfl rfl hT9 (QS.move rfl) rfl ?_
      refine Tr.gq rfl rfl hT9 (QS.neq8 (n := 46) rfl rfl) rfl ?_
      refine Tr.q (QS.pickT rfl hT9 rfl) rfl ?_
      refine Tr.nil (Tr.thenN ?_)
      exact Tr.endX (Sub.cons rfl (Sub.dropN 3 (by kernel_rfl) rfl))
    · intro hF9
      refine Tr.gskip rfl rfl hF9 rfl ?_
      refine Tr.gskip rfl rfl hF9 rfl ?_
      refine Tr.q (QS.pickF rfl hF9 rfl) rfl ?_
      refine Tr.nil (Tr.thenN ?_)
      exact Tr.endX (Sub.cons rfl (Sub.dropN 3 (by kernel_rfl) rfl))
    refine Tr.nil ?_
    refine Tr.thenN ?_
    refine Tr.cond rfl (fun h10 => ?_) (fun h10 => ?_)
    · try simp only [bs] at h10
      refine Tr.seq ?_
      refine Tr.region ?_
      refine Tr.q (QS.assign rfl) rfl ?_
      refine Tr.nil ?_
      refine Tr.thenN ?_
      refine Tr.ret ?_
      refine Tr.inR ?_
      refine Tr.thenR ?_
      refine Tr.thenR ?_
      refine Tr.inR ?_
      refine Tr.thenR ?_
      refine Tr.ret1 Try.results41 rfl (fun w' hw => ?_)
      have hbad : badB ((bts s).getD k default) = true := by simp only [badB, lowB, uppB, digB, bs]; assumption
      exact ⟨by rw [nameP_bad (by omega) hbad], hw.below hF1⟩
    · try simp only [bs] at h10
      refine Tr.skip ?_
      refine Tr.inN ?_
      refine Tr.thenN ?_
      refine Tr.region ?_
      refine Tr.q (QS.addI rfl rfl (by omega)) rfl ?_
      refine Tr.q (QS.move rfl) rfl ?_
      refine Tr.nil ?_
      refine Tr.thenN ?_
      have hbad : badB ((bts s).getD k default) = false := by simp only [badB, lowB, uppB, digB, bs]; assumption
      apply Tr.again (k + 1)
      · exact rfl
      · exact (.cons (by first | rfl | exact lookI rfl (by omega) | exact lookI rfl (by simp) | exact lookB rfl (by simp)) Front.nil)
      · exact SubX.dropN 19 (by kernel_rfl) rfl
      · exact (by repeat' (first | exact Pick.nil _ | exact Del.here _ | apply Pick.cons | apply Del.there))
      · exact ⟨by omega, by rw [any_take_succ (by omega), hk2, hbad]; rfl⟩
      · exact (by (try dsimp only); omega)
  · try simp only [bs] at h2
    refine Tr.exit ?_
    refine Tr.thenE ?_
    refine Tr.thenE ?_
    refine Tr.inHit ?_
    refine Tr.thenN ?_
    refine Tr.seq ?_
    refine Tr.region ?_
    refine Tr.q (QS.move rfl) rfl ?_
    refine Tr.q (QS.lenStr rfl Try.underlying9) rfl ?_
    refine Tr.q (QS.geq rfl rfl) rfl ?_
    refine Tr.q (QS.move rfl) rfl ?_
    apply Tr.andP
    · exact (rfl : _ = (4, 46, 50))
    · exact rfl
    · intro hT11; have hT11' := hT11
      try simp only [bs] at hT11'
      refine Tr.gq rfl rfl hT11 (QS.move rfl) rfl ?_
      refine Tr.gq rfl rfl hT11 (QS.lenStr rfl Try.underlying9) rfl ?_
      refine Tr.gq rfl rfl hT11 (QS.leq rfl rfl) rfl ?_
      refine Tr.q (QS.pickT rfl hT11 rfl) rfl ?_
      refine Tr.nil (Tr.thenN ?_)
      exact Tr.endX (Sub.cons rfl (Sub.dropN 4 (by kernel_rfl) rfl))
    · intro hF11
      refine Tr.gskip rfl rfl hF11 rfl ?_
      refine Tr.gskip rfl rfl hF11 rfl ?_
      refine Tr.gskip rfl rfl hF11 rfl ?_
      refine Tr.q (QS.pickF rfl hF11 rfl) rfl ?_
      refine Tr.nil (Tr.thenN ?_)
      exact Tr.endX (Sub.cons rfl (Sub.dropN 4 (by kernel_rfl) rfl))
    refine Tr.q (QS.assign rfl) rfl ?_
    refine Tr.nil ?_
    refine Tr.thenN ?_
    refine Tr.ret ?_
    refine Tr.ret1 Try.results41 rfl (fun w' hw => ?_)
    exact ⟨by rw [nameP_end (by omega) hk2], hw.below hF1⟩
set_option maxRecDepth 100000 in
set_option maxHeartbeats 2000000 in
theorem space_any (s : SecV) (w : World) (hs : s.data.length ≤ 200000) :
    Calls Try.prog 43 #[.agg (encSec.enc s).toArray] w (fun e w' => e = .returned (.agg (encRng.enc (spaceP s)).toArray) ∧ Ext w w') := by
  have hadr := s.addr.toNat_lt
  refine enter Try.func43 rfl Try.ntmps43 rfl ?_
  refine Tr.seq ?_
  refine Tr.region ?_
  refine Tr.box rfl rfl rfl (fun b1 => ?_)
  refine Tr.alloc Try.zeroValue61 rfl rfl (fun b2 => ?_)
  refine Tr.nil ?_
  refine Tr.thenN ?_
  refine Tr.seq ?_
  refine Tr.region ?_
  refine Tr.q (QS.fieldAddr (off := 1) (ft := 23) rfl Try.underlying59 rfl rfl Try.sizeOf23 (by decide)) rfl ?_
  refine Tr.q (QS.lV rfl Try.isAgg23) rfl ?_
  refine Tr.q (QS.cvt32toU rfl Try.underlying23 Try.underlying76) rfl ?_
  refine Tr.q (QS.fieldAddr (off := 2) (ft := 54) rfl Try.underlying59 rfl rfl Try.sizeOf54 (by decide)) rfl ?_
  refine Tr.q (QS.lV rfl Try.isAgg54) rfl ?_
  refine Tr.q (QS.lenNil rfl Try.underlying54) rfl ?_
  refine Tr.q (QS.cvtIn rfl Try.underlying3 Try.underlying76 (IntWalk.u64_in _ (by omega))) rfl ?_
  refine Tr.q (QS.addU rfl rfl (by omega)) rfl ?_
  refine Tr.q (QS.assign rfl) rfl ?_
  refine Tr.nil ?_
  refine Tr.thenN ?_
  refine Tr.seq ?_
  refine Tr.region ?_
  refine Tr.q (QS.fieldAddr (off := 1) (ft := 23) rfl Try.underlying59 rfl rfl Try.sizeOf23 (by decide)) rfl ?_
  refine Tr.q (QS.lV rfl Try.isAgg23) rfl ?_
  refine Tr.q (QS.move rfl) rfl ?_
  refine Tr.q (QS.min2 rfl rfl) rfl ?_
  refine Tr.q (QS.cvtTo32 rfl Try.underlying76 Try.underlying23) rfl ?_
  refine Tr.q (QS.build (vs := [(0, _), (1, _)]) rfl rfl (HLF.built61_0_1 _ _)) rfl ?_
  refine Tr.storeW rfl rfl Try.sizeOf61 (by repeat (first | exact Put.here _ | apply Put.there)) (by rfl) (by rfl) (by first | exact List.all_eq_true.1 rfl | exact Enc.one _ _ | exact Enc.one encRng _) rfl ?_
  refine Tr.nil ?_
  refine Tr.thenN ?_
  refine Tr.ret ?_
  refine Tr.retC1 Try.results43 rfl (by repeat (first | exact List.Mem.head _ | apply List.Mem.tail)) Try.isAgg61 Try.sizeOf61 (by rfl) (fun w' hw => ?_)
  exact ⟨rfl, hw.below (Bg.le.refl _)⟩
set_option maxRecDepth 100000 in
set_option maxHeartbeats 2000000 in
theorem stack_any (w : World) :
    Calls Try.prog 44 #[] w (fun e w' => e = .returned (.agg (encRng.enc stackP).toArray) ∧ Ext w w') := by
  refine enter Try.func44 rfl Try.ntmps44 rfl ?_
  refine Tr.seq ?_
  refine Tr.region ?_
  refine Tr.alloc Try.zeroValue61 rfl rfl (fun b1 => ?_)
  refine Tr.nil ?_
  refine Tr.thenN ?_
  refine Tr.seq ?_
  refine Tr.region ?_
  refine Tr.q (QS.build (vs := [(0, _), (1, _)]) rfl rfl (HLF.built61_0_1 _ _)) rfl ?_
  refine Tr.storeW rfl rfl Try.sizeOf61 (by repeat (first | exact Put.here _ | apply Put.there)) (by rfl) (by rfl) (by first | exact List.all_eq_true.1 rfl | exact Enc.one _ _ | exact Enc.one encRng _) rfl ?_
  refine Tr.nil ?_
  refine Tr.thenN ?_
  refine Tr.ret ?_
  refine Tr.retC1 Try.results44 rfl (by repeat (first | exact List.Mem.head _ | apply List.Mem.tail)) Try.isAgg61 Try.sizeOf61 (by rfl) (fun w' hw => ?_)
  exact ⟨rfl, hw.below (Bg.le.refl _)⟩
set_option maxRecDepth 100000 in
set_option maxHeartbeats 2000000 in
theorem meet_any (a b : Rng) (w : World) :
    Calls Try.prog 42 #[.agg (encRng.enc a).toArray, .agg (encRng.enc b).toArray] w (fun e w' => e = .returned (.bool (meetP a b)) ∧ Ext w w') := by
  refine enter Try.func42 rfl Try.ntmps42 rfl ?_
  refine Tr.seq ?_
  refine Tr.region ?_
  refine Tr.box rfl rfl rfl (fun b1 => ?_)
  refine Tr.box rfl rfl rfl (fun b2 => ?_)
  refine Tr.q (QS.assign rfl) rfl ?_
  refine Tr.nil ?_
  refine Tr.thenN ?_
  refine Tr.seq ?_
  refine Tr.region ?_
  refine Tr.q (QS.fieldAddr (off := 0) (ft := 23) rfl Try.underlying61 rfl rfl Try.sizeOf23 (by decide)) rfl ?_
  refine Tr.q (QS.lV rfl Try.isAgg23) rfl ?_
  refine Tr.q (QS.fieldAddr (off := 0) (ft := 23) rfl Try.underlying61 rfl rfl Try.sizeOf23 (by decide)) rfl ?_
  refine Tr.q (QS.lV rfl Try.isAgg23) rfl ?_
  refine Tr.q (QS.max32 rfl rfl) rfl ?_
  refine Tr.q (QS.fieldAddr (off := 1) (ft := 23) rfl Try.underlying61 rfl rfl Try.sizeOf23 (by decide)) rfl ?_
  refine Tr.q (QS.lV rfl Try.isAgg23) rfl ?_
  refine Tr.q (QS.fieldAddr (off := 1) (ft := 23) rfl Try.underlying61 rfl rfl Try.sizeOf23 (by decide)) rfl ?_
  refine Tr.q (QS.lV rfl Try.isAgg23) rfl ?_
  refine Tr.q (QS.min32 rfl rfl) rfl ?_
  refine Tr.q (QS.lss32 rfl rfl) rfl ?_
  refine Tr.q (QS.assign rfl) rfl ?_
  refine Tr.nil ?_
  refine Tr.thenN ?_
  refine Tr.ret ?_
  refine Tr.ret1 Try.results42 rfl (fun w' hw => ?_)
  exact ⟨rfl, hw.below (Bg.le.refl _)⟩
set_option maxRecDepth 100000 in
set_option maxHeartbeats 2000000 in
theorem find1_any (s : SecV) (a : UInt32) (b : Nat) (w : World) (hc : Cell (hp w) b 0 (.int .u32 a.toNat)) (hs : s.data.length ≤ 200000) :
    Calls Try.prog 48 #[.agg (encSec.enc s).toArray, .pointer (some ⟨b, 0, none⟩)] w (fun e w' => e = .returned (.bool (inS a s)) ∧ Ext w w') := by
  have hc' : Cell (Bg.of w).blk b 0 (.int .u32 a.toNat) := hc
  refine enter Try.func48 rfl Try.ntmps48 rfl ?_
  refine Tr.seq ?_
  refine Tr.region ?_
  refine Tr.box rfl rfl rfl (fun b1 => ?_)
  refine Tr.q (QS.assign rfl) rfl ?_
  refine Tr.nil ?_
  refine Tr.thenN ?_
  refine Tr.seq ?_
  refine Tr.region ?_
  refine Tr.q (QS.lW rfl Try.isAgg59 Try.sizeOf59) rfl ?_
  refine Tr.q (QS.call rfl Try.call43 (fun w hw => space_any s w hs)) rfl ?_
  refine Tr.alloc Try.zeroValue61 rfl rfl (fun b2 => ?_)
  refine Tr.storeW rfl rfl Try.sizeOf61 (by repeat (first | exact Put.here _ | apply Put.there)) (by rfl) (by rfl) (by first | exact List.all_eq_true.1 rfl | exact Enc.one _ _ | exact Enc.one encRng _) rfl ?_
  refine Tr.nil ?_
  refine Tr.thenN ?_
  refine Tr.seq ?_
  refine Tr.region ?_
  refine Tr.q (QS.fieldAddr (off := 0) (ft := 23) rfl Try.underlying61 rfl rfl Try.sizeOf23 (by decide)) rfl ?_
  refine Tr.q (QS.lV rfl Try.isAgg23) rfl ?_
  refine Tr.q (QS.loadC rfl (by assumption) Try.isAgg23) rfl ?_
  refine Tr.q (QS.leq32 rfl rfl) rfl ?_
  refine Tr.q (QS.move rfl) rfl ?_
  apply Tr.andP
  · exact (rfl : _ = (5, 11, 16))
  · exact rfl
  · intro hT3; have hT3' := hT3
    try simp only [bs] at hT3'
    refine Tr.gq rfl rfl hT3 (QS.loadC rfl (by assumption) Try.isAgg23) rfl ?_
    refine Tr.gq rfl rfl hT3 (QS.fieldAddr (off := 1) (ft := 23) rfl Try.underlying61 rfl rfl Try.sizeOf23 (by decide)) rfl ?_
    refine Tr.gq rfl rfl hT3 (QS.lV rfl Try.isAgg23) rfl ?_
    refine Tr.gq rfl rfl hT3 (QS.lss32 rfl rfl) rfl ?_
    refine Tr.q (QS.pickT rfl hT3 rfl) rfl ?_
    refine Tr.nil (Tr.thenN ?_)
    exact Tr.endX (Sub.cons rfl (Sub.dropN 5 (by kernel_rfl) rfl))
  · intro hF3
    refine Tr.gskip rfl rfl hF3 rfl ?_
    refine Tr.gskip rfl rfl hF3 rfl ?_
    refine Tr.gskip rfl rfl hF3 rfl ?_
    refine Tr.gskip rfl rfl hF3 rfl ?_
    refine Tr.q (QS.pickF rfl hF3 rfl) rfl ?_
    refine Tr.nil (Tr.thenN ?_)
    exact Tr.endX (Sub.cons rfl (Sub.dropN 5 (by kernel_rfl) rfl))
  refine Tr.q (QS.assign rfl) rfl ?_
  refine Tr.nil ?_
  refine Tr.thenN ?_
  refine Tr.ret ?_
  refine Tr.ret1 Try.results48 rfl (fun w' hw => ?_)
  exact ⟨rfl, hw.below (Bg.le.refl _)⟩
set_option maxRecDepth 100000 in
set_option maxHeartbeats 2000000 in
theorem check1_any (x s : SecV) (b : Nat) (w : World) (hc : CellsIn (hp w) b (encSec.enc s)) :
    Calls Try.prog 40 #[.agg (encSec.enc x).toArray, .pointer (some ⟨b, 0, none⟩)] w (fun e w' => e = .returned (.bool (decide (x.name = s.name))) ∧ Ext w w') := by
  have hc' : CellsIn (Bg.of w).blk b (encSec.enc s) := hc
  refine enter Try.func40 rfl Try.ntmps40 rfl ?_
  refine Tr.seq ?_
  refine Tr.region ?_
  refine Tr.box rfl rfl rfl (fun b1 => ?_)
  refine Tr.q (QS.assign rfl) rfl ?_
  refine Tr.nil ?_
  refine Tr.thenN ?_
  refine Tr.seq ?_
  refine Tr.region ?_
  refine Tr.q (QS.fieldAddr (off := 0) (ft := 9) rfl Try.underlying59 rfl rfl Try.sizeOf9 (by decide)) rfl ?_
  refine Tr.q (QS.lV rfl Try.isAgg9) rfl ?_
  refine Tr.q (QS.fieldAddr (off := 0) (ft := 9) rfl Try.underlying59 rfl rfl Try.sizeOf9 (by decide)) rfl ?_
  refine Tr.q (QS.loadCF rfl (by assumption) Try.isAgg9 (by rfl)) rfl ?_
  refine Tr.q (QS.str_eql rfl rfl) rfl ?_
  refine Tr.q (QS.assign rfl) rfl ?_
  refine Tr.nil ?_
  refine Tr.thenN ?_
  refine Tr.ret ?_
  refine Tr.ret1 Try.results40 rfl (fun w' hw => ?_)
  exact ⟨rfl, hw.below (Bg.le.refl _)⟩
set_option maxRecDepth 100000 in
set_option maxHeartbeats 2000000 in
theorem check2_any (x s : SecV) (b : Nat) (w : World) (hc : CellsIn (hp w) b (encSec.enc s)) (hx : x.data.length ≤ 200000) (hs : s.data.length ≤ 200000) :
    Calls Try.prog 45 #[.agg (encSec.enc x).toArray, .pointer (some ⟨b, 0, none⟩)] w (fun e w' => e = .returned (.bool (meetP (spaceP x) (spaceP s))) ∧ Ext w w') := by
  have hc' : CellsIn (Bg.of w).blk b (encSec.enc s) := hc
  refine enter Try.func45 rfl Try.ntmps45 rfl ?_
  refine Tr.seq ?_
  refine Tr.region ?_
  refine Tr.box rfl rfl rfl (fun b1 => ?_)
  refine Tr.q (QS.assign rfl) rfl ?_
  refine Tr.nil ?_
  refine Tr.thenN ?_
  refine Tr.seq ?_
  refine Tr.regionQ HLF.mixed (by kernel_rfl) ?_
  refine TrQ.q (QS.lW rfl Try.isAgg59 Try.sizeOf59) rfl ?_
  refine TrQ.q (QS.call rfl Try.call43 (fun w hw => space_any x w hx)) rfl ?_
  refine TrQ.q (QS.loadCA rfl (by assumption) Try.isAgg59 Try.sizeOf59 (by rfl)) rfl ?_
  refine TrQ.q (QS.call rfl Try.call43 (fun w hw => space_any s w hs)) rfl ?_
  refine TrQ.q (QS.call rfl Try.call42 (fun w hw => meet_any (spaceP x) (spaceP s) w)) rfl ?_
  refine TrQ.q (QS.assign rfl) rfl ?_
  refine TrQ.nil ?_
  refine Tr.thenN ?_
  refine Tr.ret ?_
  refine Tr.ret1 Try.results45 rfl (fun w' hw => ?_)
  exact ⟨rfl, hw.below (Bg.le.refl _)⟩
set_option maxRecDepth 100000 in
set_option maxHeartbeats 2000000 in
theorem indexFunc_sec (l : List SecV) (V : Value) (g : FuncId) (cb : List Value) (w : World) (hV : Sl (hp w) encSec l V) (eg : ∀ args w, (callFunc g args).run Try.prog w = .ok (.enter g args) w) (p : SecV → Bool) (hp : ∀ x, x ∈ l → ∀ w', Ext w w' → Calls Try.prog g ([Value.agg (encSec.enc x).toArray] ++ cb).toArray w' fun e w'' => e = .returned (.bool (p x)) ∧ Ext w' w'') :
    Calls Try.prog 47 #[V, .func (.func g) #[] cb.toArray] w (fun e w' => e = .returned (.int .i64 (idxP p 0 l)) ∧ Ext w w') := by
  have hV' : Sl (Bg.of w).blk encSec l V := hV
  have hlen := hV.len_le
  refine enter Try.func47 rfl Try.ntmps47 rfl ?_
  refine Tr.seq ?_
  refine Tr.region ?_
  refine Tr.q (QS.assign rfl) rfl ?_
  refine Tr.nil ?_
  refine Tr.thenN ?_
  refine Tr.seq ?_
  refine Tr.seq ?_
  refine Tr.region ?_
  refine Tr.q (QS.move rfl) rfl ?_
  refine Tr.q (QS.len rfl (by assumption) Try.underlying22) rfl ?_
  refine Tr.q (QS.move rfl) rfl ?_
  refine Tr.nil ?_
  refine Tr.thenN ?_
  refine Tr.block ?_
  refine Tr.loop (ι := Nat) (fun k => k ≤ l.length ∧ idxP p k (l.drop k) = idxP p 0 l) (fun _ => _) (fun k => []) (fun k => [(8, .int .i64 (k : Nat))]) (fun k => l.length - k) 0 ⟨Nat.zero_le _, rfl⟩ (.cons (by first | rfl | exact lookI rfl (by omega) | exact lookI rfl (by simp) | exact lookB rfl (by simp)) Front.nil) (by repeat' (first | exact Pick.nil _ | exact Del.here _ | apply Pick.cons | apply Del.there)) rfl (fun k hi m hm => ?_)
  replace hi : k ≤ l.length ∧ idxP p k (l.drop k) = idxP p 0 l := hi
  replace hm : m = l.length - k := hm
  change Tr _ _ [] ([(8, .int .i64 (k : Nat))] ++ _) _
  obtain ⟨hk1, hk2⟩ := hi
  refine Tr.seq ?_
  refine Tr.region ?_
  refine Tr.q (QS.lss rfl rfl) rfl ?_
  refine Tr.nil ?_
  refine Tr.thenN ?_
  refine Tr.seq ?_
  refine Tr.cond rfl (fun h1 => ?_) (fun h1 => ?_)
  · try simp only [bs] at h1
    refine Tr.skip ?_
    refine Tr.thenN ?_
    refine Tr.seq ?_
    refine Tr.block ?_
    refine Tr.seq ?_
    refine Tr.region ?_
    refine Tr.q (QS.move rfl) rfl ?_
    refine Tr.q (QS.assign rfl) rfl ?_
    refine Tr.nil ?_
    refine Tr.thenN ?_
    refine Tr.seq ?_
    refine Tr.region ?_
    refine Tr.q (QS.move rfl) rfl ?_
    refine Tr.q (QS.move rfl) rfl ?_
    refine Tr.q (QS.move rfl) rfl ?_
    refine Tr.q (QS.idxN rfl rfl (by assumption) Try.underlying22 Try.sizeOf59 (by rfl) (by omega)) rfl ?_
    refine Tr.q (QS.elA rfl (by assumption) Try.isAgg59 Try.sizeOf59 (by rfl) (by omega)) rfl ?_
    refine Tr.q (QS.callV rfl rfl eg (fun w hw => hp _ (mem_getD (by omega)) w (hw.below (Bg.le.refl _)))) rfl ?_
    refine Tr.nil ?_
    refine Tr.thenN ?_
    refine Tr.cond rfl (fun h2 => ?_) (fun h2 => ?_)
    · try simp only [bs] at h2
      refine Tr.seq ?_
      refine Tr.region ?_
      refine Tr.q (QS.move rfl) rfl ?_
      refine Tr.q (QS.assign rfl) rfl ?_
      refine Tr.nil ?_
      refine Tr.thenN ?_
      refine Tr.ret ?_
      refine Tr.inR ?_
      refine Tr.thenR ?_
      refine Tr.thenR ?_
      refine Tr.inR ?_
      refine Tr.thenR ?_
      refine Tr.ret1 Try.results47 rfl (fun w' hw => ?_)
      exact ⟨by rw [← hk2, drop_cons (k := k) (by omega), idxP, if_pos (by assumption)], hw.below (Bg.le.refl _)⟩
    · try simp only [bs] at h2
      refine Tr.skip ?_
      refine Tr.inN ?_
      refine Tr.thenN ?_
      refine Tr.region ?_
      refine Tr.q (QS.addI rfl rfl (by omega)) rfl ?_
      refine Tr.q (QS.move rfl) rfl ?_
      refine Tr.nil ?_
      refine Tr.thenN ?_
      apply Tr.again (k + 1)
      · exact rfl
      · exact (.cons (by first | rfl | exact lookI rfl (by omega) | exact lookI rfl (by simp) | exact lookB rfl (by simp)) Front.nil)
      · exact SubX.dropN 12 (by kernel_rfl) rfl
      · exact (by repeat' (first | exact Pick.nil _ | exact Del.here _ | apply Pick.cons | apply Del.there))
      · exact ⟨by omega, by rw [← hk2, drop_cons (k := k) (by omega), idxP, if_neg (by simp_all)]⟩
      · exact (by (try dsimp only); omega)
  · try simp only [bs] at h1
    refine Tr.exit ?_
    refine Tr.thenE ?_
    refine Tr.thenE ?_
    refine Tr.inHit ?_
    refine Tr.thenN ?_
    refine Tr.seq ?_
    refine Tr.region ?_
    refine Tr.q (QS.assign rfl) rfl ?_
    refine Tr.nil ?_
    refine Tr.thenN ?_
    refine Tr.ret ?_
    refine Tr.ret1 Try.results47 rfl (fun w' hw => ?_)
    exact ⟨by rw [← hk2, List.drop_of_length_le (by omega)]; rfl, hw.below (Bg.le.refl _)⟩
set_option maxRecDepth 100000 in
set_option maxHeartbeats 2000000 in
theorem containsFunc_sec (l : List SecV) (V : Value) (g : FuncId) (cb : List Value) (w : World) (hV : Sl (hp w) encSec l V) (eg : ∀ args w, (callFunc g args).run Try.prog w = .ok (.enter g args) w) (p : SecV → Bool) (hp : ∀ x, x ∈ l → ∀ w', Ext w w' → Calls Try.prog g ([Value.agg (encSec.enc x).toArray] ++ cb).toArray w' fun e w'' => e = .returned (.bool (p x)) ∧ Ext w' w'') :
    Calls Try.prog 39 #[V, .func (.func g) #[] cb.toArray] w (fun e w' => e = .returned (.bool (l.any p)) ∧ Ext w w') := by
  refine enter Try.func39 rfl Try.ntmps39 rfl ?_
  refine Tr.seq ?_
  refine Tr.region ?_
  refine Tr.q (QS.assign rfl) rfl ?_
  refine Tr.nil ?_
  refine Tr.thenN ?_
  refine Tr.seq ?_
  refine Tr.region ?_
  refine Tr.q (QS.move rfl) rfl ?_
  refine Tr.q (QS.move rfl) rfl ?_
  refine Tr.q (QS.call rfl Try.call47 (fun w hw => indexFunc_sec l V g cb w (hw.slF hV) eg p (fun x hx w'' h => hp x hx w'' ((hw.below (Bg.le.refl _)).trans h)))) rfl ?_
  refine Tr.q (QS.geq rfl rfl) rfl ?_
  refine Tr.q (QS.assign rfl) rfl ?_
  refine Tr.nil ?_
  refine Tr.thenN ?_
  refine Tr.ret ?_
  refine Tr.ret1 Try.results39 rfl (fun w' hw => ?_)
  exact ⟨by rw [idxP_any], hw.below (Bg.le.refl _)⟩
set_option maxRecDepth 100000 in
set_option maxHeartbeats 2000000 in
theorem find_any (l : List SecV) (V : Value) (a : UInt32) (w : World) (hV : Sl (hp w) encSec l V) (hB : SecB l) :
    Calls Try.prog 20 #[V, .int .u32 a.toNat] w (fun e w' => e = .returned (.int .i64 (findP l a)) ∧ Ext w w') := by
  have hV' : Sl (Bg.of w).blk encSec l V := hV
  have hlen := hB.1
  refine enter Try.func20 rfl Try.ntmps20 rfl ?_
  refine Tr.seq ?_
  refine Tr.region ?_
  refine Tr.box rfl rfl rfl (fun b1 => ?_)
  refine Tr.q (QS.assign rfl) rfl ?_
  refine Tr.nil ?_
  refine Tr.thenN ?_
  refine Tr.seq ?_
  refine Tr.region ?_
  refine Tr.q (QS.move rfl) rfl ?_
  refine Tr.q (QS.makeFunc rfl rfl) rfl ?_
  refine Tr.q (QS.call rfl Try.call47 (fun w hw => indexFunc_sec l V _ _ w (hw.slF hV) Try.call48 (inS a) (fun x hx w'' h => find1_any x a _ w'' (cellE.cell (hw.ent _ (.head _)) h rfl) (hB.2 x hx)))) rfl ?_
  refine Tr.q (QS.assign rfl) rfl ?_
  refine Tr.nil ?_
  refine Tr.thenN ?_
  refine Tr.ret ?_
  refine Tr.ret1 Try.results20 rfl (fun w' hw => ?_)
  exact ⟨rfl, hw.below (Bg.le.refl _)⟩
set_option maxRecDepth 100000 in
set_option maxHeartbeats 2000000 in
theorem ranges_any (l : List SecV) (V : Value) (w : World) (hV : Sl (hp w) encSec l V) (hB : SecB l) :
    Calls Try.prog 65 #[V] w (fun e w' => ∃ V', e = .returned V' ∧ Ext w w' ∧ NewRow w w' 61 encRng (normalP (l.map spaceP)) V') := by
  have hV' : Sl (Bg.of w).blk encSec l V := hV
  have hlen := hB.1
  refine enter Try.func65 rfl Try.ntmps65 rfl ?_
  refine Tr.seq ?_
  refine Tr.region ?_
  refine Tr.q (QS.assign rfl) rfl ?_
  refine Tr.nil ?_
  refine Tr.thenN ?_
  refine Tr.seq ?_
  refine Tr.region ?_
  refine Tr.q (QS.assign rfl) rfl ?_
  refine Tr.nil ?_
  refine Tr.thenN ?_
  refine Tr.seq ?_
  refine Tr.seq ?_
  refine Tr.region ?_
  refine Tr.q (QS.move rfl) rfl ?_
  refine Tr.q (QS.len rfl (by assumption) Try.underlying22) rfl ?_
  refine Tr.q (QS.move rfl) rfl ?_
  refine Tr.nil ?_
  refine Tr.thenN ?_
  refine Tr.block ?_
  refine Tr.ownNil 61 encRng ?_
  refine Tr.loop (ι := Nat × Value) (fun ⟨k, V'⟩ => k ≤ l.length) (fun _ => _) (fun ⟨k, V'⟩ => [rowE V' 61 encRng ((l.take k).map spaceP)]) (fun ⟨k, V'⟩ => [(8, .int .i64 (k : Nat)), (3, V')]) (fun ⟨k, V'⟩ => l.length - k) (0, _) (Nat.zero_le _) (.cons (by first | rfl | exact lookI rfl (by omega) | exact lookI rfl (by simp) | exact lookB rfl (by simp)) (.cons (by first | rfl | exact lookI rfl (by omega) | exact lookI rfl (by simp) | exact lookB rfl (by simp)) Front.nil)) (by repeat' (first | exact Pick.nil _ | exact Del.here _ | apply Pick.cons | apply Del.there)) rfl (fun i hi m hm => ?_)
  obtain ⟨k, V'⟩ := i
  replace hi : k ≤ l.length := hi
  replace hm : m = l.length - k := hm
  change Tr _ _ [rowE V' 61 encRng ((l.take k).map spaceP)] ([(8, .int .i64 (k : Nat)), (3, V')] ++ _) _
  have hml : ((l.take k).map spaceP).length ≤ l.length := by simp only [List.length_map, List.length_take]; omega
  refine Tr.seq ?_
  refine Tr.region ?_
  refine Tr.q (QS.lss rfl rfl) rfl ?_
  refine Tr.nil ?_
  refine Tr.thenN ?_
  refine Tr.seq ?_
  refine Tr.cond rfl (fun h1 => ?_) (fun h1 => ?_)
  · try simp only [bs] at h1
    refine Tr.skip ?_
    refine Tr.thenN ?_
    refine Tr.seq ?_
    refine Tr.block ?_
    refine Tr.seq ?_
    refine Tr.region ?_
    refine Tr.q (QS.idxN rfl rfl (by assumption) Try.underlying22 Try.sizeOf59 (by rfl) (by omega)) rfl ?_
    refine Tr.q (QS.elA rfl (by assumption) Try.isAgg59 Try.sizeOf59 (by rfl) (by omega)) rfl ?_
    refine Tr.alloc Try.zeroValue59 rfl rfl (fun b2 => ?_)
    refine Tr.storeW rfl rfl Try.sizeOf59 (by repeat (first | exact Put.here _ | apply Put.there)) (by rfl) (by rfl) (by first | exact List.all_eq_true.1 rfl | exact Enc.one _ _ | exact Enc.one encSec _) rfl ?_
    refine Tr.nil ?_
    refine Tr.thenN ?_
    refine Tr.region ?_
    refine Tr.q (QS.move rfl) rfl ?_
    refine Tr.q (QS.lW rfl Try.isAgg59 Try.sizeOf59) rfl ?_
    refine Tr.q (QS.call rfl Try.call43 (fun w hw => space_any (l.getD k default) w (hB.at (by omega)))) rfl ?_
    refine Tr.lit1 (E := encRng) _ rfl rfl Try.underlying27 Try.sizeOf61 Try.zeroValue61 (by rfl) (by rfl) rfl (fun V3 => ?_)
    refine Tr.append1 rfl rfl (by repeat (first | exact Del.here _ | apply Del.there)) (by repeat (first | exact Del.here _ | apply Del.there)) Try.underlying27 HLF.info61 (by rfl) (by rfl) (by (try simp only [List.length_cons, List.length_nil, List.length_append, List.length_take]); omega) (by unfold maxLen; (try simp only [List.length_cons, List.length_nil, List.length_append, List.length_take]); omega) rfl (fun V4 => ?_)
    refine Tr.q (QS.assign rfl) rfl ?_
    refine Tr.nil ?_
    refine Tr.inN ?_
    refine Tr.thenN ?_
    refine Tr.region ?_
    refine Tr.q (QS.addI rfl rfl (by omega)) rfl ?_
    refine Tr.q (QS.move rfl) rfl ?_
    refine Tr.nil ?_
    refine Tr.thenN ?_
    have htk : (l.take (k + 1)).map spaceP = (l.take k).map spaceP ++ [spaceP (l.getD k default)] := by rw [take_succ (by omega), List.map_append]; rfl
    rw [← htk]
    apply Tr.again (k + 1, _)
    · exact rfl
    · exact (.cons (by first | rfl | exact lookI rfl (by omega) | exact lookI rfl (by simp) | exact lookB rfl (by simp)) (.cons (by first | rfl | exact lookI rfl (by omega) | exact lookI rfl (by simp) | exact lookB rfl (by simp)) Front.nil))
    · exact SubX.dropN 14 (by kernel_rfl) rfl
    · exact (by repeat' (first | exact Pick.nil _ | exact Del.here _ | apply Pick.cons | apply Del.there))
    · exact (by show k + 1 ≤ _; omega)
    · exact (by (try dsimp only); omega)
  · try simp only [bs] at h1
    refine Tr.exit ?_
    refine Tr.thenE ?_
    refine Tr.thenE ?_
    refine Tr.inHit ?_
    refine Tr.thenN ?_
    refine Tr.seq ?_
    rw [show l.take k = l from List.take_of_length_le (by omega)]
    refine Tr.region ?_
    refine Tr.q (QS.move rfl) rfl ?_
    refine Tr.callRow rfl Try.call32 (fun w hw => normal_any (l.map spaceP) _ w (hw.row (.head _)) (by rw [List.length_map]; omega)) rfl (fun V5 => ?_)
    refine Tr.q (QS.assign rfl) rfl ?_
    refine Tr.nil ?_
    refine Tr.thenN ?_
    refine Tr.ret ?_
    refine Tr.ret1 Try.results65 rfl (fun w' hw => ?_)
    exact ⟨_, rfl, hw.below (Bg.le.refl _), hw.new (.head _)⟩
set_option maxRecDepth 100000 in
set_option maxHeartbeats 2000000 in
theorem check_sec (l : List SecV) (V : Value) (w : World) (hV : Sl (hp w) encSec l V) (hB : SecB l) (hN : ∀ s ∈ l, s.name.size ≤ 9223372036854775807) :
    Calls Try.prog 18 #[V] w (fun e w' => e = .returned (.int .i64 (checkS l)) ∧ Ext w w') := by
  have hV' : Sl (Bg.of w).blk encSec l V := hV
  have hlen := hB.1
  refine enter Try.func18 rfl Try.ntmps18 rfl ?_
  refine Tr.seq ?_
  refine Tr.region ?_
  refine Tr.q (QS.assign rfl) rfl ?_
  refine Tr.nil ?_
  refine Tr.thenN ?_
  refine Tr.seq ?_
  refine Tr.seq ?_
  refine Tr.region ?_
  refine Tr.q (QS.move rfl) rfl ?_
  refine Tr.q (QS.len rfl (by assumption) Try.underlying22) rfl ?_
  refine Tr.q (QS.gtr rfl rfl) rfl ?_
  refine Tr.nil ?_
  refine Tr.thenN ?_
  refine Tr.cond rfl (fun h1 => ?_) (fun h1 => ?_)
  · try simp only [bs] at h1
    refine Tr.seq ?_
    refine Tr.region ?_
    refine Tr.q (QS.assign rfl) rfl ?_
    refine Tr.nil ?_
    refine Tr.thenN ?_
    refine Tr.ret ?_
    refine Tr.thenR ?_
    refine Tr.ret1 Try.results18 rfl (fun w' hw => ?_)
    exact ⟨by rw [check_0 (by assumption)], hw.below (Bg.le.refl _)⟩
  · try simp only [bs] at h1
    refine Tr.skip ?_
    refine Tr.thenN ?_
    refine Tr.seq ?_
    refine Tr.seq ?_
    refine Tr.region ?_
    refine Tr.q (QS.move rfl) rfl ?_
    refine Tr.q (QS.len rfl (by assumption) Try.underlying22) rfl ?_
    refine Tr.q (QS.move rfl) rfl ?_
    refine Tr.nil ?_
    refine Tr.thenN ?_
    refine Tr.block ?_
    refine Tr.loop (ι := Nat) (fun k => k ≤ l.length ∧ firstP (oneP l) k (l.length - k) = firstP (oneP l) 0 l.length) (fun _ => _) (fun k => []) (fun k => [(13, .int .i64 (k : Nat))]) (fun k => l.length - k) 0 ⟨Nat.zero_le _, rfl⟩ (.cons (by first | rfl | exact lookI rfl (by omega) | exact lookI rfl (by simp) | exact lookB rfl (by simp)) Front.nil) (by repeat' (first | exact Pick.nil _ | exact Del.here _ | apply Pick.cons | apply Del.there)) rfl (fun k hi m hm => ?_)
    replace hi : k ≤ l.length ∧ firstP (oneP l) k (l.length - k) = firstP (oneP l) 0 l.length := hi
    replace hm : m = l.length - k := hm
    change Tr _ _ [] ([(13, .int .i64 (k : Nat))] ++ _) _
    obtain ⟨hk1, hk2⟩ := hi
    have hadr := (l.getD k default).addr.toNat_lt
    have hdk : k < l.length → (l.getD k default).data.length ≤ 200000 := fun q => hB.at q
    refine Tr.seq ?_
    refine Tr.region ?_
    refine Tr.q (QS.lss rfl rfl) rfl ?_
    refine Tr.nil ?_
    refine Tr.thenN ?_
    refine Tr.seq ?_
    refine Tr.cond rfl (fun h2 => ?_) (fun h2 => ?_)
    · try simp only [bs] at h2
      refine Tr.skip ?_
      refine Tr.thenN ?_
      refine Tr.seq ?_
      refine Tr.block ?_
      refine Tr.seq ?_
      refine Tr.region ?_
      refine Tr.q (QS.move rfl) rfl ?_
      refine Tr.q (QS.idxN rfl rfl (by assumption) Try.underlying22 Try.sizeOf59 (by rfl) (by omega)) rfl ?_
      refine Tr.q (QS.elA rfl (by assumption) Try.isAgg59 Try.sizeOf59 (by rfl) (by omega)) rfl ?_
      refine Tr.alloc Try.zeroValue59 rfl rfl (fun b3 => ?_)
      refine Tr.q (QS.assign rfl) rfl ?_
      refine Tr.storeW rfl rfl Try.sizeOf59 (by repeat (first | exact Put.here _ | apply Put.there)) (by rfl) (by rfl) (by first | exact List.all_eq_true.1 rfl | exact Enc.one _ _ | exact Enc.one encSec _) rfl ?_
      refine Tr.nil ?_
      refine Tr.thenN ?_
      refine Tr.seq ?_
      refine Tr.region ?_
      refine Tr.q (QS.move rfl) rfl ?_
      refine Tr.q (QS.move rfl) rfl ?_
      refine Tr.q (QS.slice (lv := none) (hv := some (_, _)) rfl (by assumption) rfl rfl Try.underlying22 Try.sizeOf59 (by rfl) (by simp only [loOf, hiOf] <;> first | omega | assumption | (simp only [NatCast.natCast, Int.ofNat_eq_natCast]; omega)) (by simp only [loOf, hiOf] <;> first | omega | assumption | (simp only [NatCast.natCast, Int.ofNat_eq_natCast]; omega)) (by simp only [loOf, hiOf] <;> first | omega | assumption | (simp only [NatCast.natCast, Int.ofNat_eq_natCast]; omega))) rfl ?_
      refine Tr.q (QS.makeFunc rfl rfl) rfl ?_
      refine Tr.q (QS.call rfl Try.call39 (fun w hw => containsFunc_sec (l.take k) _ _ _ w (Sl.resl (l := 0) (h := k) (hw.slF hV) (by omega) (by omega)) Try.call40 (fun x => decide (x.name = (l.getD k default).name)) (fun x hx w'' h => check1_any x (l.getD k default) _ w'' (cellE.cellsIn (hw.ent _ (.head _)) h)))) rfl ?_
      refine Tr.q (QS.assign rfl) rfl ?_
      refine Tr.nil ?_
      refine Tr.thenN ?_
      refine Tr.block ?_
      refine Tr.seq ?_
      refine Tr.region ?_
      refine Tr.q (QS.fieldAddr (off := 2) (ft := 54) rfl Try.underlying59 rfl rfl Try.sizeOf54 (by decide)) rfl ?_
      refine Tr.q (QS.lV rfl Try.isAgg54) rfl ?_
      refine Tr.q (QS.lenNil rfl Try.underlying54) rfl ?_
      refine Tr.q (QS.gtr rfl rfl) rfl ?_
      refine Tr.q (QS.assign rfl) rfl ?_
      refine Tr.nil ?_
      refine Tr.thenN ?_
      refine Tr.cond rfl (fun h4 => ?_) (fun h4 => ?_)
      · try simp only [bs] at h4
        refine Tr.seq ?_
        refine Tr.region ?_
        refine Tr.q (QS.assign rfl) rfl ?_
        refine Tr.nil ?_
        refine Tr.thenN ?_
        refine Tr.ret ?_
        refine Tr.inR ?_
        refine Tr.inR ?_
        refine Tr.thenR ?_
        refine Tr.thenR ?_
        refine Tr.inR ?_
        refine Tr.thenR ?_
        refine Tr.ret1 Try.results18 rfl (fun w' hw => ?_)
        exact ⟨by rw [check_1 (v := 6) (by assumption) (by omega) hk2 (by unfold oneP; dsimp only; rw [if_pos (by assumption)]) (by decide)], hw.below (Bg.le.refl _)⟩
      · try simp only [bs] at h4
        refine Tr.seq ?_
        refine Tr.region ?_
        refine Tr.q (QS.fieldAddr (off := 0) (ft := 9) rfl Try.underlying59 rfl rfl Try.sizeOf9 (by decide)) rfl ?_
        refine Tr.q (QS.lV rfl Try.isAgg9) rfl ?_
        refine Tr.q (QS.call rfl Try.call41 (fun w hw => name_any (l.getD k default).name w (hN _ (mem_getD (by omega))))) rfl ?_
        refine Tr.q (QS.not rfl) rfl ?_
        refine Tr.q (QS.assign rfl) rfl ?_
        refine Tr.nil ?_
        refine Tr.thenN ?_
        refine Tr.cond rfl (fun h5 => ?_) (fun h5 => ?_)
        · try simp only [bs] at h5
          refine Tr.seq ?_
          refine Tr.region ?_
          refine Tr.q (QS.assign rfl) rfl ?_
          refine Tr.nil ?_
          refine Tr.thenN ?_
          refine Tr.ret ?_
          refine Tr.inR ?_
          refine Tr.inR ?_
          refine Tr.thenR ?_
          refine Tr.thenR ?_
          refine Tr.inR ?_
          refine Tr.thenR ?_
          refine Tr.ret1 Try.results18 rfl (fun w' hw => ?_)
          exact ⟨by rw [check_1 (v := 3) (by assumption) (by omega) hk2 (by unfold oneP; dsimp only; rw [if_neg (by assumption), if_pos (by assumption)]) (by decide)], hw.below (Bg.le.refl _)⟩
        · try simp only [bs] at h5
          refine Tr.seq ?_
          refine Tr.region ?_
          refine Tr.q (QS.move rfl) rfl ?_
          refine Tr.q (QS.assign rfl) rfl ?_
          refine Tr.nil ?_
          refine Tr.thenN ?_
          refine Tr.cond rfl (fun h6 => ?_) (fun h6 => ?_)
          · try simp only [bs] at h6
            refine Tr.seq ?_
            refine Tr.region ?_
            refine Tr.q (QS.assign rfl) rfl ?_
            refine Tr.nil ?_
            refine Tr.thenN ?_
            refine Tr.ret ?_
            refine Tr.inR ?_
            refine Tr.inR ?_
            refine Tr.thenR ?_
            refine Tr.thenR ?_
            refine Tr.inR ?_
            refine Tr.thenR ?_
            refine Tr.ret1 Try.results18 rfl (fun w' hw => ?_)
            exact ⟨by rw [check_1 (v := 8) (by assumption) (by omega) hk2 (by unfold oneP; dsimp only; rw [if_neg (by assumption), if_neg (by simp_all), if_pos (by assumption)]) (by decide)], hw.below (Bg.le.refl _)⟩
          · try simp only [bs] at h6
            refine Tr.seq ?_
            refine Tr.region ?_
            refine Tr.q (QS.fieldAddr (off := 1) (ft := 23) rfl Try.underlying59 rfl rfl Try.sizeOf23 (by decide)) rfl ?_
            refine Tr.q (QS.lV rfl Try.isAgg23) rfl ?_
            refine Tr.q (QS.cvt32toU rfl Try.underlying23 Try.underlying76) rfl ?_
            refine Tr.q (QS.fieldAddr (off := 2) (ft := 54) rfl Try.underlying59 rfl rfl Try.sizeOf54 (by decide)) rfl ?_
            refine Tr.q (QS.lV rfl Try.isAgg54) rfl ?_
            refine Tr.q (QS.lenNil rfl Try.underlying54) rfl ?_
            refine Tr.q (QS.cvtIn rfl Try.underlying3 Try.underlying76 (IntWalk.u64_in _ (by omega))) rfl ?_
            refine Tr.q (QS.addU rfl rfl (by omega)) rfl ?_
            refine Tr.q (QS.gtr rfl rfl) rfl ?_
            refine Tr.q (QS.move rfl) rfl ?_
            apply Tr.orP
            · exact (rfl : _ = (5, 45, 50))
            · exact rfl
            · intro hF7; have hF7' := hF7
              try simp only [bs] at hF7'
              refine Tr.gq rfl rfl hF7 (QS.lW rfl Try.isAgg59 Try.sizeOf59) rfl ?_
              refine Tr.gq rfl rfl hF7 (QS.call rfl Try.call43 (fun w hw => space_any (l.getD k default) w (hB.at (by omega)))) rfl ?_
              refine Tr.gq rfl rfl hF7 (QS.call rfl Try.call44 (fun w hw => stack_any w)) rfl ?_
              refine Tr.gq rfl rfl hF7 (QS.call rfl Try.call42 (fun w hw => meet_any (spaceP (l.getD k default)) stackP w)) rfl ?_
              refine Tr.q (QS.pickF rfl hF7 rfl) rfl ?_
              refine Tr.nil (Tr.thenN ?_)
              exact Tr.endX (Sub.cons rfl (Sub.dropN 5 (by kernel_rfl) rfl))
            · intro hT7
              refine Tr.gskip rfl rfl hT7 rfl ?_
              refine Tr.gskip rfl rfl hT7 rfl ?_
              refine Tr.gskip rfl rfl hT7 rfl ?_
              refine Tr.gskip rfl rfl hT7 rfl ?_
              refine Tr.q (QS.pickT rfl hT7 rfl) rfl ?_
              refine Tr.nil (Tr.thenN ?_)
              exact Tr.endX (Sub.cons rfl (Sub.dropN 5 (by kernel_rfl) rfl))
            refine Tr.q (QS.assign rfl) rfl ?_
            refine Tr.nil ?_
            refine Tr.thenN ?_
            refine Tr.cond rfl (fun h8 => ?_) (fun h8 => ?_)
            · try simp only [bs] at h8
              refine Tr.seq ?_
              refine Tr.region ?_
              refine Tr.q (QS.assign rfl) rfl ?_
              refine Tr.nil ?_
              refine Tr.thenN ?_
              refine Tr.ret ?_
              refine Tr.inR ?_
              refine Tr.inR ?_
              refine Tr.thenR ?_
              refine Tr.thenR ?_
              refine Tr.inR ?_
              refine Tr.thenR ?_
              refine Tr.ret1 Try.results18 rfl (fun w' hw => ?_)
              exact ⟨by rw [check_1 (v := 7) (by assumption) (by omega) hk2 (by unfold oneP; dsimp only; rw [if_neg (by assumption), if_neg (by simp_all), if_neg (by simp_all), if_pos (by assumption)]) (by decide)], hw.below (Bg.le.refl _)⟩
            · try simp only [bs] at h8
              refine Tr.skip ?_
              refine Tr.inN ?_
              refine Tr.inN ?_
              refine Tr.thenN ?_
              refine Tr.region ?_
              refine Tr.q (QS.addI rfl rfl (by omega)) rfl ?_
              refine Tr.q (QS.move rfl) rfl ?_
              refine Tr.nil ?_
              refine Tr.thenN ?_
              have hz : oneP l k = 0 := by unfold oneP; dsimp only; rw [if_neg (by assumption), if_neg (by simp_all), if_neg (by simp_all), if_neg (by simp_all)]
              apply Tr.again (k + 1)
              · exact rfl
              · exact (.cons (by first | rfl | exact lookI rfl (by omega) | exact lookI rfl (by simp) | exact lookB rfl (by simp)) Front.nil)
              · exact SubX.dropN 39 (by kernel_rfl) rfl
              · exact (by repeat' (first | exact Pick.nil _ | exact Del.here _ | apply Pick.cons | apply Del.there))
              · exact ⟨by omega, by rw [firstP_next (by omega) hz, hk2]⟩
              · exact (by (try dsimp only); omega)
    · try simp only [bs] at h2
      refine Tr.exit ?_
      refine Tr.thenE ?_
      refine Tr.thenE ?_
      refine Tr.inHit ?_
      refine Tr.thenN ?_
      refine Tr.seq ?_
      refine Tr.seq ?_
      refine Tr.region ?_
      refine Tr.q (QS.move rfl) rfl ?_
      refine Tr.q (QS.len rfl (by assumption) Try.underlying22) rfl ?_
      refine Tr.q (QS.move rfl) rfl ?_
      refine Tr.nil ?_
      refine Tr.thenN ?_
      refine Tr.block ?_
      have hz1 : firstP (oneP l) 0 l.length = 0 := by rw [← hk2]; exact firstP_zero (by omega)
      clear hk2 hk1 hm hadr hdk
      refine Tr.loop (ι := Nat) (fun k => k ≤ l.length ∧ firstP (fun i => if overP l i = true then 10 else 0) k (l.length - k) = firstP (fun i => if overP l i = true then 10 else 0) 0 l.length) (fun _ => _) (fun k => []) (fun k => [(54, .int .i64 (k : Nat))]) (fun k => l.length - k) 0 ⟨Nat.zero_le _, rfl⟩ (.cons (by first | rfl | exact lookI rfl (by omega) | exact lookI rfl (by simp) | exact lookB rfl (by simp)) Front.nil) (by repeat' (first | exact Pick.nil _ | exact Del.here _ | apply Pick.cons | apply Del.there)) rfl (fun k hi m hm => ?_)
      replace hi : k ≤ l.length ∧ firstP (fun i => if overP l i = true then 10 else 0) k (l.length - k) = firstP (fun i => if overP l i = true then 10 else 0) 0 l.length := hi
      replace hm : m = l.length - k := hm
      change Tr _ _ [] ([(54, .int .i64 (k : Nat))] ++ _) _
      obtain ⟨hk1, hk2⟩ := hi
      refine Tr.seq ?_
      refine Tr.region ?_
      refine Tr.q (QS.lss rfl rfl) rfl ?_
      refine Tr.nil ?_
      refine Tr.thenN ?_
      refine Tr.seq ?_
      refine Tr.cond rfl (fun h9 => ?_) (fun h9 => ?_)
      · try simp only [bs] at h9
        refine Tr.skip ?_
        refine Tr.thenN ?_
        refine Tr.seq ?_
        refine Tr.block ?_
        refine Tr.seq ?_
        refine Tr.region ?_
        refine Tr.q (QS.move rfl) rfl ?_
        refine Tr.q (QS.idxN rfl rfl (by assumption) Try.underlying22 Try.sizeOf59 (by rfl) (by omega)) rfl ?_
        refine Tr.q (QS.elA rfl (by assumption) Try.isAgg59 Try.sizeOf59 (by rfl) (by omega)) rfl ?_
        refine Tr.alloc Try.zeroValue59 rfl rfl (fun b10 => ?_)
        refine Tr.q (QS.assign rfl) rfl ?_
        refine Tr.storeW rfl rfl Try.sizeOf59 (by repeat (first | exact Put.here _ | apply Put.there)) (by rfl) (by rfl) (by first | exact List.all_eq_true.1 rfl | exact Enc.one _ _ | exact Enc.one encSec _) rfl ?_
        refine Tr.nil ?_
        refine Tr.thenN ?_
        refine Tr.seq ?_
        refine Tr.region ?_
        refine Tr.q (QS.move rfl) rfl ?_
        refine Tr.q (QS.move rfl) rfl ?_
        refine Tr.q (QS.slice (lv := none) (hv := some (_, _)) rfl (by assumption) rfl rfl Try.underlying22 Try.sizeOf59 (by rfl) (by simp only [loOf, hiOf] <;> first | omega | assumption | (simp only [NatCast.natCast, Int.ofNat_eq_natCast]; omega)) (by simp only [loOf, hiOf] <;> first | omega | assumption | (simp only [NatCast.natCast, Int.ofNat_eq_natCast]; omega)) (by simp only [loOf, hiOf] <;> first | omega | assumption | (simp only [NatCast.natCast, Int.ofNat_eq_natCast]; omega))) rfl ?_
        refine Tr.q (QS.makeFunc rfl rfl) rfl ?_
        refine Tr.q (QS.call rfl Try.call39 (fun w hw => containsFunc_sec (l.take k) _ _ _ w (Sl.resl (l := 0) (h := k) (hw.slF hV) (by omega) (by omega)) Try.call45 (fun x => meetP (spaceP x) (spaceP (l.getD k default))) (fun x hx w'' h => check2_any x (l.getD k default) _ w'' (cellE.cellsIn (hw.ent _ (.head _)) h) (hB.2 x (List.mem_of_mem_take hx)) (hB.at (by omega))))) rfl ?_
        refine Tr.nil ?_
        refine Tr.thenN ?_
        refine Tr.cond rfl (fun h11 => ?_) (fun h11 => ?_)
        · try simp only [bs] at h11
          refine Tr.seq ?_
          refine Tr.region ?_
          refine Tr.q (QS.assign rfl) rfl ?_
          refine Tr.nil ?_
          refine Tr.thenN ?_
          refine Tr.ret ?_
          refine Tr.inR ?_
          refine Tr.thenR ?_
          refine Tr.thenR ?_
          refine Tr.inR ?_
          refine Tr.thenR ?_
          refine Tr.ret1 Try.results18 rfl (fun w' hw => ?_)
          exact ⟨by rw [check_2 (k := k) (by assumption) hz1 (by omega) hk2 (by assumption)], hw.below (Bg.le.refl _)⟩
        · try simp only [bs] at h11
          refine Tr.skip ?_
          refine Tr.inN ?_
          refine Tr.thenN ?_
          refine Tr.region ?_
          refine Tr.q (QS.addI rfl rfl (by omega)) rfl ?_
          refine Tr.q (QS.move rfl) rfl ?_
          refine Tr.nil ?_
          refine Tr.thenN ?_
          have hz : overP l k = false := by assumption
          apply Tr.again (k + 1)
          · exact rfl
          · exact (.cons (by first | rfl | exact lookI rfl (by omega) | exact lookI rfl (by simp) | exact lookB rfl (by simp)) Front.nil)
          · exact SubX.dropN 14 (by kernel_rfl) rfl
          · exact (by repeat' (first | exact Pick.nil _ | exact Del.here _ | apply Pick.cons | apply Del.there))
          · exact ⟨by omega, by rw [firstP_next (by omega) (by rw [if_neg (by rw [hz]; decide)]), hk2]⟩
          · exact (by (try dsimp only); omega)
      · try simp only [bs] at h9
        refine Tr.exit ?_
        refine Tr.thenE ?_
        refine Tr.thenE ?_
        refine Tr.inHit ?_
        refine Tr.thenN ?_
        refine Tr.seq ?_
        refine Tr.region ?_
        refine Tr.q (QS.assign rfl) rfl ?_
        refine Tr.nil ?_
        refine Tr.thenN ?_
        refine Tr.ret ?_
        refine Tr.ret1 Try.results18 rfl (fun w' hw => ?_)
        exact ⟨by rw [check_3 (by assumption) hz1 (by rw [← hk2]; exact firstP_zero (by omega))], hw.below (Bg.le.refl _)⟩
set_option maxRecDepth 100000 in
set_option maxHeartbeats 2000000 in
theorem clone_sec (l : List SecV) (V : Value) (w : World) (hV : Sl (hp w) encSec l V) (hB : SecB l) :
    Calls Try.prog 97 #[V] w (fun e w' => ∃ V', e = .returned V' ∧ Ext w w' ∧ NewRow w w' 59 encSec l V') := by
  have hV' : Sl (Bg.of w).blk encSec l V := hV
  have hlen := hB.1
  refine enter Try.func97 rfl Try.ntmps97 rfl ?_
  refine Tr.seq ?_
  refine Tr.region ?_
  refine Tr.q (QS.assign rfl) rfl ?_
  refine Tr.nil ?_
  refine Tr.thenN ?_
  refine Tr.seq ?_
  refine Tr.seq ?_
  refine Tr.region ?_
  refine Tr.q (QS.move rfl) rfl ?_
  refine Tr.q (QS.eqlNilS rfl (by assumption) Try.underlying22) rfl ?_
  refine Tr.nil ?_
  refine Tr.thenN ?_
  refine Tr.cond rfl (fun h1 => ?_) (fun h1 => ?_)
  · try simp only [bs] at h1
    refine Tr.seq ?_
    refine Tr.region ?_
    refine Tr.q (QS.assign rfl) rfl ?_
    refine Tr.nil ?_
    refine Tr.thenN ?_
    refine Tr.ret ?_
    refine Tr.thenR ?_
    refine Tr.ret1 Try.results97 rfl (fun w' hw => ?_)
    exact ⟨_, rfl, hw.below (Bg.le.refl _), newRow_nil (hV.isNil h1)⟩
  · try simp only [bs] at h1
    refine Tr.skip ?_
    refine Tr.thenN ?_
    refine Tr.seq ?_
    refine Tr.region ?_
    refine Tr.lit0 encSec Try.underlying22 Try.sizeOf59 rfl (fun V2 => ?_)
    refine Tr.q (QS.move rfl) rfl ?_
    refine Tr.appendOf rfl rfl (by repeat (first | exact Del.here _ | apply Del.there)) (fun w hw => hw.slF (by assumption)) Try.underlying22 HLF.info59 (by rfl) (by rfl) (by (try simp only [List.length_cons, List.length_nil, List.length_append, List.length_take]); omega) (by unfold maxLen; (try simp only [List.length_cons, List.length_nil, List.length_append, List.length_take]); omega) rfl (fun V3 => ?_)
    refine Tr.q (QS.assign rfl) rfl ?_
    refine Tr.nil ?_
    refine Tr.thenN ?_
    refine Tr.ret ?_
    refine Tr.ret1 Try.results97 rfl (fun w' hw => ?_)
    exact ⟨_, rfl, hw.below (Bg.le.refl _), hw.new (.head _)⟩
set_option maxRecDepth 100000 in
set_option maxHeartbeats 2000000 in
theorem own_sec (l : List SecV) (V : Value) (w : World) (hV : Sl (hp w) encSec l V) (hB : SecB l) (hD : DataIn (hp w) l) :
    Calls Try.prog 75 #[V] w (fun e w' => ∃ i : Value × List SecV, e = .returned i.1 ∧ Ext w w' ∧ NewEnts w w' (secEnts 59 5 i.1 i.2) ∧ i.2.map SecV.pl = l.map SecV.pl) := by
  have hV' : Sl (Bg.of w).blk encSec l V := hV
  have hlen := hB.1
  refine enter Try.func75 rfl Try.ntmps75 rfl ?_
  refine Tr.seq ?_
  refine Tr.region ?_
  refine Tr.q (QS.assign rfl) rfl ?_
  refine Tr.nil ?_
  refine Tr.thenN ?_
  refine Tr.seq ?_
  refine Tr.region ?_
  refine Tr.q (QS.move rfl) rfl ?_
  refine Tr.callRow rfl Try.call97 (fun w hw => clone_sec l V w (hw.slF hV) hB) rfl (fun V1 => ?_)
  refine Tr.q (QS.assign rfl) rfl ?_
  refine Tr.nil ?_
  refine Tr.thenN ?_
  refine Tr.seq ?_
  refine Tr.seq ?_
  refine Tr.region ?_
  refine Tr.q (QS.move rfl) rfl ?_
  refine Tr.q (QS.lenRow rfl (by repeat (first | exact List.Mem.head _ | apply List.Mem.tail)) Try.underlying22) rfl ?_
  refine Tr.q (QS.move rfl) rfl ?_
  refine Tr.nil ?_
  refine Tr.thenN ?_
  refine Tr.block ?_
  refine Tr.loop (ι := Nat × List SecV) (fun ⟨k, xs⟩ => k ≤ l.length ∧ xs.length = l.length ∧ xs.map SecV.pl = l.map SecV.pl ∧ ∀ j, k ≤ j → xs.getD j default = l.getD j default) (fun _ => _) (fun ⟨k, xs⟩ => (rowE V1 59 encSec xs :: (xs.take k).reverse.map (dRow 5))) (fun ⟨k, xs⟩ => [(9, .int .i64 (k : Nat))]) (fun ⟨k, xs⟩ => l.length - k) (0, l) ⟨Nat.zero_le _, rfl, rfl, fun _ _ => rfl⟩ (.cons (by first | rfl | exact lookI rfl (by omega) | exact lookI rfl (by simp) | exact lookB rfl (by simp)) Front.nil) (by repeat' (first | exact Pick.nil _ | exact Del.here _ | apply Pick.cons | apply Del.there)) rfl (fun i hi m hm => ?_)
  obtain ⟨k, xs⟩ := i
  replace hi : k ≤ l.length ∧ xs.length = l.length ∧ xs.map SecV.pl = l.map SecV.pl ∧ ∀ j, k ≤ j → xs.getD j default = l.getD j default := hi
  replace hm : m = l.length - k := hm
  change Tr _ _ (rowE V1 59 encSec xs :: (xs.take k).reverse.map (dRow 5)) ([(9, .int .i64 (k : Nat))] ++ _) _
  obtain ⟨hk1, hk2, hk3, hk4⟩ := hi
  have hxk := hk4 k (Nat.le_refl _)
  have hDk : k < l.length → Sl (Bg.of w).blk encU8 (xs.getD k default).data (.slice (xs.getD k default).dp (xs.getD k default).data.length (xs.getD k default).dc) := fun q => by rw [hxk]; exact hD _ (mem_getD q)
  have hdb : k < l.length → (xs.getD k default).data.length ≤ 140737488355328 := fun q => by rw [hxk]; have := hB.at q; omega
  refine Tr.seq ?_
  refine Tr.region ?_
  refine Tr.q (QS.lss rfl rfl) rfl ?_
  refine Tr.nil ?_
  refine Tr.thenN ?_
  refine Tr.seq ?_
  refine Tr.cond rfl (fun h2 => ?_) (fun h2 => ?_)
  · try simp only [bs] at h2
    refine Tr.skip ?_
    refine Tr.thenN ?_
    refine Tr.seq ?_
    refine Tr.block ?_
    refine Tr.seq ?_
    refine Tr.region ?_
    refine Tr.q (QS.move rfl) rfl ?_
    refine Tr.q (QS.assign rfl) rfl ?_
    refine Tr.nil ?_
    refine Tr.thenN ?_
    refine Tr.region ?_
    refine Tr.q (QS.move rfl) rfl ?_
    refine Tr.q (QS.move rfl) rfl ?_
    refine Tr.q (QS.move rfl) rfl ?_
    refine Tr.q (QS.move rfl) rfl ?_
    refine Tr.q (QS.idxRowN rfl rfl (by repeat (first | exact List.Mem.head _ | apply List.Mem.tail)) Try.underlying22 Try.sizeOf59 (by rfl) (by omega)) rfl ?_
    refine Tr.q (QS.fieldAddr (off := 2) (ft := 54) rfl Try.underlying59 rfl rfl Try.sizeOf54 (by decide)) rfl ?_
    refine Tr.q (QS.elRF rfl (by repeat (first | exact List.Mem.head _ | apply List.Mem.tail)) Try.isAgg54 (by omega) (by rfl)) rfl ?_
    refine Tr.callRow rfl Try.call58 (fun w hw => clone_u8 (xs.getD k default).data _ w (hw.slF (hDk (by omega))) (hdb (by omega))) rfl (fun V3 => ?_)
    refine Tr.rowShape (.head _) (fun pa pc hpv => ?_)
    subst hpv
    refine Tr.q (QS.idxRowN rfl rfl (by repeat (first | exact List.Mem.head _ | apply List.Mem.tail)) Try.underlying22 Try.sizeOf59 (by rfl) (by omega)) rfl ?_
    refine Tr.q (QS.fieldAddr (off := 2) (ft := 54) rfl Try.underlying59 rfl rfl Try.sizeOf54 (by decide)) rfl ?_
    refine Tr.storeRow ({ xs.getD k default with dp := pa, dc := pc }) rfl rfl Try.sizeOf54 (by repeat (first | exact Put.here _ | apply Put.there)) (by omega) (by decide) (by rfl) rfl rfl rfl ?_
    refine Tr.nil ?_
    refine Tr.inN ?_
    refine Tr.thenN ?_
    refine Tr.region ?_
    refine Tr.q (QS.addI rfl rfl (by omega)) rfl ?_
    refine Tr.q (QS.move rfl) rfl ?_
    refine Tr.nil ?_
    refine Tr.thenN ?_
    apply Tr.again (k + 1, xs.set k { xs.getD k default with dp := pa, dc := pc })
    · exact rfl
    · exact (.cons (by first | rfl | exact lookI rfl (by omega) | exact lookI rfl (by simp) | exact lookB rfl (by simp)) Front.nil)
    · exact SubX.dropN 16 (by kernel_rfl) rfl
    · exact (by show Pick _ (rowE V1 _ _ _ :: ((xs.set k { xs.getD k default with dp := pa, dc := pc }).take (k + 1)).reverse.map (dRow 5)); rw [drow_step (by omega)]; exact .cons (.there _ (.here _)) (.cons (.here _) (Pick.refl _)))
    · exact ⟨by omega, by simp [hk2], by have q := map_set_pl (k := k) (x := { xs.getD k default with dp := pa, dc := pc }) (show k < xs.length by omega) rfl; rw [q]; exact hk3, fun j hj => by rw [getD_set_ne' (by omega)]; exact hk4 j (by omega)⟩
    · exact (by (try dsimp only); omega)
  · try simp only [bs] at h2
    refine Tr.exit ?_
    refine Tr.thenE ?_
    refine Tr.thenE ?_
    refine Tr.inHit ?_
    refine Tr.thenN ?_
    refine Tr.seq ?_
    refine Tr.region ?_
    refine Tr.q (QS.move rfl) rfl ?_
    refine Tr.q (QS.assign rfl) rfl ?_
    refine Tr.nil ?_
    refine Tr.thenN ?_
    refine Tr.ret ?_
    refine Tr.ret1 Try.results75 rfl (fun w' hw => ?_)
    have e : xs.take k = xs := List.take_of_length_le (by omega)
    rw [e] at hw
    exact ⟨(V1, xs), rfl, hw.below (Bg.le.refl _), hw.ents (Bg.le.refl _) (Pick.refl _), hk3⟩
end Go.Proofs.Ytfnedefgepjbpaa
namespace Go.HL.W
open Go
theorem u32_extI {a b : UInt32} (h : a.toNat = b.toNat) : a = b := UInt32.toNat_inj.1 h
theorem shl_orI (m : UInt32) (x : UInt8) : (shl32 m 8 ||| x.toUInt32) = m * 256 + x.toUInt32 := by
  apply u32_extI
  have hx := x.toNat_lt
  have hm := m.toNat_lt
  rw [UInt32.toNat_or, shl32_toNat, UInt32.toNat_add, UInt32.toNat_mul]
  have e1 : m.toNat * 2 ^ 8 % 4294967296 = (m.toNat % 16777216) <<< 8 := by rw [Nat.shiftLeft_eq]; omega
  have e2 : x.toUInt32.toNat = x.toNat := by simp
  rw [e1, e2, ← Nat.shiftLeft_add_eq_or_of_lt (by omega : x.toNat < 2 ^ 8), Nat.shiftLeft_eq]
  have e3 : (256 : UInt32).toNat = 256 := rfl
  rw [e3]; omega
end Go.HL.W
namespace Go.HL
open Go
structure Ins where
  addr : UInt32
  imm : UInt32
  op : Int
  form : Int
  width : Int
  cc : Int
  a : Int
  b : Int
  size : Int
  deriving DecidableEq, Inhabited
def encIns : Enc Ins := ⟨9, fun i => [.int .u32 i.addr.toNat, .int .u32 i.imm.toNat, .int .i64 i.op, .int .i64 i.form, .int .i64 i.width, .int .i64 i.cc, .int .i64 i.a, .int .i64 i.b, .int .i64 i.size], fun _ => rfl,
  fun x v h => by simp at h; rcases h with h | h | h | h | h | h | h | h | h <;> subst h <;> rfl⟩
def I64 (x : Int) : Prop := -9223372036854775808 ≤ x ∧ x ≤ 9223372036854775807
structure InsOK (i : Ins) : Prop where
  op : I64 i.op
  form : I64 i.form
  width : I64 i.width
  cc : I64 i.cc
  a : I64 i.a
  b : I64 i.b
  size : I64 i.size
def accessP (i : Ins) : UInt8 :=
  if i.op = 16 ∧ i.width = 4 then 80 else if i.op = 16 ∧ i.width = 1 then 81 else if i.op = 17 ∧ i.width = 1 then 82 else if i.op = 16 ∧ i.width = 2 then 83
  else if i.op = 17 ∧ i.width = 2 then 84 else if i.op = 18 ∧ i.width = 4 then 85 else if i.op = 18 ∧ i.width = 1 then 86 else if i.op = 18 ∧ i.width = 2 then 87 else 0
def condP (i : Ins) : UInt8 × Int × Bool :=
  if i.cc < 0 ∨ 14 < i.cc then (0, 0, false) else if i.op = 25 then (144 + u8 i.cc, 2, true) else if i.form = 1 then (96 + u8 i.cc, 7, true) else if i.form = 2 then (112 + u8 i.cc, 8, true) else (0, 0, false)
def opcodeP (i : Ins) : UInt8 × Int × Bool :=
  if i.op = 0 ∨ i.op = 1 ∨ i.op = 2 then (u8 i.op, 0, true)
  else if i.op = 3 then (8 + u8 (i.a % 8), 1, true)
  else if i.op = 4 then (16 + u8 (i.a % 8), 1, true)
  else if 5 ≤ i.op ∧ i.op ≤ 15 then
    if i.form = 0 then (32 + u8 (i.op - 5), 3, true) else if i.form = 1 then (48 + u8 (i.op - 5), 4, true) else if i.form = 2 then (64 + u8 (i.op - 5), 6, true) else (0, 0, false)
  else if i.op = 16 ∨ i.op = 17 ∨ i.op = 18 then (accessP i, 5, decide (accessP i ≠ 0))
  else if i.op = 19 then (90, 5, true)
  else if i.op = 20 ∨ i.op = 25 then condP i
  else if i.op = 23 then (128, 8, true)
  else if i.op = 24 then (129, 2, true)
  else if i.op = 21 then (130, 2, true)
  else if i.op = 22 then (131, 6, true)
  else if i.op = 26 then (160, 2, true)
  else if i.op = 27 then (161, 2, true)
  else (0, 0, false)
def regP (r : Int) : Bool := decide (0 ≤ r) && decide (r < 8)
def sizeP (s : Int) : Int := if s = 0 ∨ s = 1 then 1 else if s = 2 ∨ s = 3 ∨ s = 7 then 2 else if s = 4 ∨ s = 5 then 3 else if s = 6 then 6 else 5
def rowsP : List Ins := [⟨0, 0, 16, 0, 4, 0, 0, 0, 0⟩, ⟨0, 0, 16, 0, 1, 0, 0, 0, 0⟩, ⟨0, 0, 17, 0, 1, 0, 0, 0, 0⟩, ⟨0, 0, 16, 0, 2, 0, 0, 0, 0⟩, ⟨0, 0, 17, 0, 2, 0, 0, 0, 0⟩,
  ⟨0, 0, 18, 0, 4, 0, 0, 0, 0⟩, ⟨0, 0, 18, 0, 1, 0, 0, 0, 0⟩, ⟨0, 0, 18, 0, 2, 0, 0, 0, 0⟩,
  ⟨0, 0, 19, 0, 0, 0, 0, 0, 0⟩, ⟨0, 0, 23, 0, 0, 0, 0, 0, 0⟩, ⟨0, 0, 24, 0, 0, 0, 0, 0, 0⟩, ⟨0, 0, 21, 0, 0, 0, 0, 0, 0⟩, ⟨0, 0, 22, 0, 0, 0, 0, 0, 0⟩, ⟨0, 0, 26, 0, 0, 0, 0, 0, 0⟩, ⟨0, 0, 27, 0, 0, 0, 0, 0, 0⟩]
def findPI (c : UInt8) : List Ins → Ins × Bool
  | [] => (⟨0, 0, 0, 0, 0, 0, 0, 0, 0⟩, false)
  | i :: l => if (opcodeP i).2.2 = true ∧ (opcodeP i).1 = c then (i, true) else findPI c l
def opIns (op form cc a : Int) : Ins := ⟨0, 0, op, form, 0, cc, a, 0, 0⟩
def rowP (c : UInt8) : Ins × Bool :=
  if c ≤ 2 then (opIns c.toNat 0 0 0, true)
  else if 8 ≤ c ∧ c < 16 then (opIns 3 0 0 ((c % 16).toNat - 8), true)
  else if 16 ≤ c ∧ c < 24 then (opIns 4 0 0 (c % 16).toNat, true)
  else if 2 ≤ ((c / 16).toNat : Int) ∧ ((c / 16).toNat : Int) ≤ 4 ∧ ((c % 16).toNat : Int) ≤ 10 then (opIns (5 + (c % 16).toNat) ((c / 16).toNat - 2) 0 0, true)
  else if ((c / 16).toNat : Int) = 6 ∧ ((c % 16).toNat : Int) ≤ 14 then (opIns 20 1 (c % 16).toNat 0, true)
  else if ((c / 16).toNat : Int) = 7 ∧ ((c % 16).toNat : Int) ≤ 14 then (opIns 20 2 (c % 16).toNat 0, true)
  else if ((c / 16).toNat : Int) = 9 ∧ ((c % 16).toNat : Int) ≤ 14 then (opIns 25 0 (c % 16).toNat 0, true)
  else findPI c rowsP
/-- A byte, sign-extended. -/
def sextP (x : UInt8) : UInt32 := if x < 128 then x.toUInt32 else x.toUInt32 + 4294967040
/-- Four bytes from k on. -/
def longP (b : List UInt8) (k : Nat) : UInt32 := (b.getD k default).toUInt32 + 256 * (b.getD (k + 1) default).toUInt32 + 65536 * (b.getD (k + 2) default).toUInt32 + 16777216 * (b.getD (k + 3) default).toUInt32
/-- The operands of a shape, put into k. -/
def applyP (s : Int) (k : Ins) (b : List UInt8) (next : UInt32) : Ins :=
  if s = 2 then { k with a := (b.getD 1 default).toNat }
  else if s = 3 then { k with a := (b.getD 1 default / 16).toNat, b := (b.getD 1 default % 16).toNat }
  else if s = 4 then { k with a := (b.getD 1 default).toNat, imm := sextP (b.getD 2 default) }
  else if s = 5 then { k with a := (b.getD 1 default / 16).toNat, b := (b.getD 1 default % 16).toNat, imm := sextP (b.getD 2 default) }
  else if s = 6 then { k with a := (b.getD 1 default).toNat, imm := longP b 2 }
  else if s = 7 then { k with imm := next + sextP (b.getD 1 default) }
  else if s = 8 then { k with imm := next + longP b 1 }
  else k
def zeroIns : Ins := ⟨0, 0, 0, 0, 0, 0, 0, 0, 0⟩
/-- What the row of an opcode makes of the bytes. -/
def bodyP (k : Ins) (s : Int) (b : List UInt8) (addr : UInt32) : Ins := applyP s { k with addr := addr, size := sizeP s } b (addr + u32 (sizeP s))
def decP (b : List UInt8) (addr : UInt32) : Ins × Int :=
  if b.length = 0 then (zeroIns, 5)
  else if (rowP (b.getD 0 default)).2 = false then (zeroIns, 13)
  else if (b.length : Int) < sizeP (opcodeP (rowP (b.getD 0 default)).1).2.1 then (zeroIns, 5)
  else
    let i := bodyP (rowP (b.getD 0 default)).1 (opcodeP (rowP (b.getD 0 default)).1).2.1 b addr
    if regP i.a = false ∨ regP i.b = false then (zeroIns, 13) else (i, 0)
end Go.HL
namespace Go.HL
open Go
def sizedP (c : Int) : Int :=
  if c ≤ 2 ∨ 8 ≤ c ∧ c ≤ 23 then 1
  else if 32 ≤ c ∧ c ≤ 42 ∨ 96 ≤ c ∧ c ≤ 110 ∨ c = 129 ∨ c = 130 ∨ 144 ≤ c ∧ c ≤ 158 ∨ c = 160 ∨ c = 161 then 2
  else if 48 ≤ c ∧ c ≤ 58 ∨ 80 ≤ c ∧ c ≤ 87 ∨ c = 90 then 3
  else if 112 ≤ c ∧ c ≤ 126 ∨ c = 128 then 5
  else if 64 ≤ c ∧ c ≤ 74 ∨ c = 131 then 6
  else 0
theorem sizedP_spec {c : Int} : (c ≤ 2 ∨ 8 ≤ c ∧ c ≤ 23 → sizedP c = 1) ∧ (32 ≤ c ∧ c ≤ 42 ∨ 96 ≤ c ∧ c ≤ 110 ∨ c = 129 ∨ c = 130 ∨ 144 ≤ c ∧ c ≤ 158 ∨ c = 160 ∨ c = 161 → sizedP c = 2) ∧
    (48 ≤ c ∧ c ≤ 58 ∨ 80 ≤ c ∧ c ≤ 87 ∨ c = 90 → sizedP c = 3) ∧ (112 ≤ c ∧ c ≤ 126 ∨ c = 128 → sizedP c = 5) ∧ (64 ≤ c ∧ c ≤ 74 ∨ c = 131 → sizedP c = 6) := by
  unfold sizedP
  refine ⟨fun h => ?_, fun h => ?_, fun h => ?_, fun h => ?_, fun h => ?_⟩ <;> (repeat' split) <;> omega
def refAccP (c : Int) : Int × Int :=
  if c = 80 then (16, 4) else if c = 81 then (16, 1) else if c = 82 then (17, 1) else if c = 83 then (16, 2) else if c = 84 then (17, 2) else if c = 85 then (18, 4) else if c = 86 then (18, 1) else (18, 2)
/-- What an opcode stands for: the instruction without operands, and the shape of these. -/
def kindP (c : Int) : Ins × Int :=
  if 32 ≤ c ∧ c ≤ 42 then (opIns (5 + c - 32) 0 0 0, 3)
  else if 48 ≤ c ∧ c ≤ 58 then (opIns (5 + c - 48) 1 0 0, 4)
  else if 64 ≤ c ∧ c ≤ 74 then (opIns (5 + c - 64) 2 0 0, 6)
  else if c ≤ 2 then (opIns c 0 0 0, 0)
  else if c ≤ 15 then (opIns 3 0 0 (c - 8), 1)
  else if c ≤ 23 then (opIns 4 0 0 (c - 16), 1)
  else if c ≤ 87 then (⟨0, 0, (refAccP c).1, 0, (refAccP c).2, 0, 0, 0, 0⟩, 5)
  else if c = 90 then (opIns 19 0 0 0, 5)
  else if c ≤ 110 then (opIns 20 1 (c - 96) 0, 7)
  else if c ≤ 126 then (opIns 20 2 (c - 112) 0, 8)
  else if c = 128 then (opIns 23 0 0 0, 8)
  else if c = 129 then (opIns 24 0 0 0, 2)
  else if c = 130 then (opIns 21 0 0 0, 2)
  else if c = 131 then (opIns 22 0 0 0, 6)
  else if c ≤ 158 then (opIns 25 0 (c - 144) 0, 2)
  else if c = 160 then (opIns 26 0 0 0, 2)
  else (opIns 27 0 0 0, 2)
def refBodyP (c : Int) (b : List UInt8) (i : Ins) : Ins := applyP (kindP c).2 { (kindP c).1 with addr := i.addr, size := i.size } b (i.addr + u32 i.size)
def refDecP (b : List UInt8) (addr : UInt32) : Ins × Int :=
  if b.length = 0 then (zeroIns, 5)
  else if sizedP (b.getD 0 default).toNat = 0 then (zeroIns, 13)
  else if (b.length : Int) < sizedP (b.getD 0 default).toNat then (zeroIns, 5)
  else
    let i := refBodyP (b.getD 0 default).toNat (b.take (sizedP (b.getD 0 default).toNat).toNat) ⟨addr, 0, 0, 0, 0, 0, 0, 0, sizedP (b.getD 0 default).toNat⟩
    if regP i.a = false ∨ regP i.b = false then (zeroIns, 13) else (i, 0)
theorem all_u8 {p : UInt8 → Prop} (h : ∀ n, n < 256 → p (UInt8.ofNat n)) (c : UInt8) : p c := by
  have h1 := h c.toNat c.toNat_lt
  rwa [UInt8.ofNat_toNat] at h1
theorem row_kind (c : UInt8) : (if (rowP c).2 = true then (rowP c).1 = (kindP c.toNat).1 ∧ (opcodeP (rowP c).1).2.1 = (kindP c.toNat).2 ∧ sizeP (opcodeP (rowP c).1).2.1 = sizedP c.toNat ∧ sizedP c.toNat ≠ 0 else sizedP c.toNat = 0) := by
  revert c
  exact all_u8 (by decide +kernel)
theorem getD_take {b : List UInt8} {n k : Nat} (h : k < n) : (b.take n).getD k default = b.getD k default := by
  simp only [List.getD_eq_getElem?_getD, List.getElem?_take, if_pos h]
theorem applyP_take {s : Int} {k : Ins} {b : List UInt8} {n : Nat} {next : UInt32} (h : sizeP s ≤ n) : applyP s k (b.take n) next = applyP s k b next := by
  unfold applyP longP
  by_cases h2 : s = 2
  · subst h2; have : (2 : Int) ≤ n := h
    simp only [if_true]; rw [getD_take (by omega)]
  by_cases h3 : s = 3
  · subst h3; have : (2 : Int) ≤ n := h
    simp only [if_true, if_neg h2]; rw [getD_take (by omega)]
  by_cases h4 : s = 4
  · subst h4; have : (3 : Int) ≤ n := h
    simp only [if_true, if_neg h2, if_neg h3]; rw [getD_take (by omega), getD_take (by omega)]
  by_cases h5 : s = 5
  · subst h5; have : (3 : Int) ≤ n := h
    simp only [if_true, if_neg h2, if_neg h3, if_neg h4]; rw [getD_take (by omega), getD_take (by omega)]
  by_cases h6 : s = 6
  · subst h6; have : (6 : Int) ≤ n := h
    simp only [if_true, if_neg h2, if_neg h3, if_neg h4, if_neg h5]; rw [getD_take (by omega), getD_take (by omega), getD_take (by omega), getD_take (by omega), getD_take (by omega)]
  by_cases h7 : s = 7
  · subst h7; have : (2 : Int) ≤ n := h
    simp only [if_true, if_neg h2, if_neg h3, if_neg h4, if_neg h5, if_neg h6]; rw [getD_take (by omega)]
  by_cases h8 : s = 8
  · subst h8; have : (5 : Int) ≤ n := h
    simp only [if_true, if_neg h2, if_neg h3, if_neg h4, if_neg h5, if_neg h6, if_neg h7]; rw [getD_take (by omega), getD_take (by omega), getD_take (by omega), getD_take (by omega)]
  simp only [if_neg h2, if_neg h3, if_neg h4, if_neg h5, if_neg h6, if_neg h7, if_neg h8]
theorem dec_ref (b : List UInt8) (addr : UInt32) : refDecP b addr = decP b addr := by
  unfold refDecP decP
  split
  · rfl
  have h := row_kind (b.getD 0 default)
  generalize b.getD 0 default = c at *
  cases hr : (rowP c).2
  · simp only [hr, Bool.false_eq_true, if_false] at h
    rw [if_pos h, if_pos rfl]
  · simp only [hr, if_true] at h
    obtain ⟨h1, h2, h3, h4⟩ := h
    rw [if_neg h4, if_neg (show ¬ (true = false) by simp), h3]
    split
    · rfl
    · have e : refBodyP c.toNat (b.take (sizedP c.toNat).toNat) ⟨addr, 0, 0, 0, 0, 0, 0, 0, sizedP c.toNat⟩ = bodyP (rowP c).1 (opcodeP (rowP c).1).2.1 b addr := by
        simp only [refBodyP, bodyP]
        rw [applyP_take (by rw [← h2, h3]; omega)]
        simp only [h3]
        rw [h2, h1]
      rw [e]
end Go.HL
namespace Go.HL
open Go
theorem insEqEnc : EqEnc encIns [.int .u32, .int .u32, .int .i64, .int .i64, .int .i64, .int .i64, .int .i64, .int .i64, .int .i64] [0, 1, 2, 3, 4, 5, 6, 7, 8] := by
  intro x y
  refine ⟨fun j o e ho he => ?_, ?_⟩
  · rcases j with _ | _ | _ | _ | _ | _ | _ | _ | _ | j <;> simp at ho he <;> subst ho <;> subst he <;> rfl
  · obtain ⟨a0, a1, a2, a3, a4, a5, a6, a7, a8⟩ := x
    obtain ⟨c0, c1, c2, c3, c4, c5, c6, c7, c8⟩ := y
    rw [Bool.eq_iff_iff]
    simp [eqAt, encIns]
    simp only [← UInt32.toNat_inj]
    omega
end Go.HL
namespace Go.HL
open Go
def ShapeR (x : UInt8 × Int × Bool) : Prop := 0 ≤ x.2.1 ∧ x.2.1 ≤ 8
theorem ite_shape {p : Prop} [Decidable p] {x y : UInt8 × Int × Bool} (hx : ShapeR x) (hy : ShapeR y) : ShapeR (if p then x else y) := by split <;> assumption
theorem opcodeP_shape (i : Ins) : 0 ≤ (opcodeP i).2.1 ∧ (opcodeP i).2.1 ≤ 8 := by
  show ShapeR (opcodeP i)
  unfold opcodeP condP
  repeat' (first | apply ite_shape | exact ⟨by simp, by simp⟩)
theorem rows_ok : ∀ k, k < 15 → InsOK (rowsP.getD k default) := by
  intro k hk
  have : ∀ x ∈ rowsP, InsOK x := by
    intro x hx
    simp only [rowsP, List.mem_cons, List.not_mem_nil, or_false] at hx
    rcases hx with h | h | h | h | h | h | h | h | h | h | h | h | h | h | h <;> subst h <;> exact ⟨by simp [I64], by simp [I64], by simp [I64], by simp [I64], by simp [I64], by simp [I64], by simp [I64]⟩
  exact this _ (by rw [List.getD_eq_getElem?_getD]; have : k < rowsP.length := hk; simp [this])
theorem row_ok (c : UInt8) : InsOK (rowP c).1 := by
  have key : ∀ c : UInt8, ((decide (0 ≤ (rowP c).1.op) && decide ((rowP c).1.op ≤ 100)) && (decide ((rowP c).1.form = 0) || decide ((rowP c).1.form = 1) || decide ((rowP c).1.form = 2)) && (decide (0 ≤ (rowP c).1.width) && decide ((rowP c).1.width ≤ 4)) &&
      (decide (0 ≤ (rowP c).1.cc) && decide ((rowP c).1.cc ≤ 100)) && (decide (0 ≤ (rowP c).1.a) && decide ((rowP c).1.a ≤ 100)) && decide ((rowP c).1.b = 0) && decide ((rowP c).1.size = 0)) = true := all_u8 (by decide +kernel)
  have h := key c
  simp only [Bool.and_eq_true, Bool.or_eq_true, decide_eq_true_eq] at h
  obtain ⟨⟨⟨⟨⟨⟨h1, h2⟩, h3⟩, h4⟩, h5⟩, h6⟩, h7⟩ := h
  exact ⟨by unfold I64; omega, by unfold I64; omega, by unfold I64; omega, by unfold I64; omega, by unfold I64; omega, by unfold I64; omega, by unfold I64; omega⟩
def extP (a : UInt32) (w : Int) : UInt32 := if w = 1 then u32 (IntKind.i8.wrap a.toNat) else if w = 2 then u32 (IntKind.i16.wrap a.toNat) else a
theorem ext_sext (x : UInt8) : extP x.toUInt32 1 = sextP x := by
  revert x
  exact all_u8 (by decide +kernel)
theorem get_long {b : List UInt8} {k : Nat} (h : k + 4 ≤ b.length) : (getP b k 4).1 = longP b k := by
  rw [getP_ok rfl (by omega)]
  show getF b k 0 4 = _
  simp only [getF, W.shl_orI, longP]
  rw [show ((k : Int) + ((0 : Nat) : Int)).toNat = k by omega, show ((k : Int) + ((1 : Nat) : Int)).toNat = k + 1 by omega, show ((k : Int) + ((2 : Nat) : Int)).toNat = k + 2 by omega, show ((k : Int) + ((3 : Nat) : Int)).toNat = k + 3 by omega]
  generalize (b.getD k default).toUInt32 = x0
  generalize (b.getD (k + 1) default).toUInt32 = x1
  generalize (b.getD (k + 2) default).toUInt32 = x2
  generalize (b.getD (k + 3) default).toUInt32 = x3
  apply W.u32_extI
  simp only [UInt32.toNat_add, UInt32.toNat_mul]
  have e1 : (256 : UInt32).toNat = 256 := rfl
  have e2 : (65536 : UInt32).toNat = 65536 := rfl
  have e3 : (16777216 : UInt32).toNat = 16777216 := rfl
  have e4 : (0 : UInt32).toNat = 0 := rfl
  rw [e1, e2, e3, e4]
  omega
def setAB (s : Int) (k : Ins) (b : List UInt8) : Ins :=
  if s = 2 ∨ s = 4 ∨ s = 6 then { k with a := (b.getD 1 default).toNat } else if s = 3 ∨ s = 5 then { k with a := (b.getD 1 default / 16).toNat, b := (b.getD 1 default % 16).toNat } else k
def setImm (s : Int) (k : Ins) (b : List UInt8) (next : UInt32) : Ins :=
  if s = 4 ∨ s = 5 then { k with imm := sextP (b.getD 2 default) } else if s = 6 then { k with imm := longP b 2 } else if s = 7 then { k with imm := next + sextP (b.getD 1 default) } else if s = 8 then { k with imm := next + longP b 1 } else k
theorem applyP_two (s : Int) (k : Ins) (b : List UInt8) (next : UInt32) : applyP s k b next = setImm s (setAB s k b) b next := by
  unfold applyP setImm setAB
  by_cases h2 : s = 2
  · simp [h2]
  by_cases h3 : s = 3
  · simp [h3]
  by_cases h4 : s = 4
  · simp [h4]
  by_cases h5 : s = 5
  · simp [h5]
  by_cases h6 : s = 6
  · simp [h6]
  by_cases h7 : s = 7
  · simp [h7]
  by_cases h8 : s = 8
  · simp [h8]
  simp [h2, h3, h4, h5, h6, h7, h8]
theorem sizeP_spec (s : Int) : ((s = 0 ∨ s = 1) → sizeP s = 1) ∧ ((s = 2 ∨ s = 3 ∨ s = 7) → sizeP s = 2) ∧ ((s = 4 ∨ s = 5) → sizeP s = 3) ∧ (s = 6 → sizeP s = 6) ∧ (s = 8 → sizeP s = 5) := by
  unfold sizeP
  refine ⟨fun h => ?_, fun h => ?_, fun h => ?_, fun h => ?_, fun h => ?_⟩ <;> (repeat' split) <;> omega
theorem decP_1 {b : List UInt8} {addr : UInt32} (h : b.length = 0) : decP b addr = (zeroIns, 5) := by unfold decP; rw [if_pos h]
theorem decP_2 {b : List UInt8} {addr : UInt32} (h : b.length ≠ 0) (h2 : (rowP (b.getD 0 default)).2 = false) : decP b addr = (zeroIns, 13) := by unfold decP; rw [if_neg h, if_pos h2]
theorem decP_3 {b : List UInt8} {addr : UInt32} (h : b.length ≠ 0) (h2 : (rowP (b.getD 0 default)).2 = true) (h3 : (b.length : Int) < sizeP (opcodeP (rowP (b.getD 0 default)).1).2.1) : decP b addr = (zeroIns, 5) := by
  unfold decP; rw [if_neg h, if_neg (by rw [h2]; simp), if_pos h3]
theorem decP_4 {b : List UInt8} {addr : UInt32} (h : b.length ≠ 0) (h2 : (rowP (b.getD 0 default)).2 = true) (h3 : ¬ (b.length : Int) < sizeP (opcodeP (rowP (b.getD 0 default)).1).2.1) {k : Ins}
    (hk : k = setImm (opcodeP (rowP (b.getD 0 default)).1).2.1 (setAB (opcodeP (rowP (b.getD 0 default)).1).2.1 { (rowP (b.getD 0 default)).1 with addr := addr, size := sizeP (opcodeP (rowP (b.getD 0 default)).1).2.1 } b) b (addr + u32 (sizeP (opcodeP (rowP (b.getD 0 default)).1).2.1))) :
    decP b addr = if regP k.a = false ∨ regP k.b = false then (zeroIns, 13) else (k, 0) := by
  unfold decP; rw [if_neg h, if_neg (by rw [h2]; simp), if_neg h3]
  simp only [bodyP, applyP_two, ← hk]
end Go.HL
namespace Go.HL
open Go
theorem sizedP_ne {c : Int} (h : sizedP c ≠ 0) : (c ≤ 2 ∨ 8 ≤ c ∧ c ≤ 23) ∨ (32 ≤ c ∧ c ≤ 42 ∨ 96 ≤ c ∧ c ≤ 110 ∨ c = 129 ∨ c = 130 ∨ 144 ≤ c ∧ c ≤ 158 ∨ c = 160 ∨ c = 161) ∨ (48 ≤ c ∧ c ≤ 58 ∨ 80 ≤ c ∧ c ≤ 87 ∨ c = 90) ∨ (112 ≤ c ∧ c ≤ 126 ∨ c = 128) ∨ (64 ≤ c ∧ c ≤ 74 ∨ c = 131) := by
  by_cases h0 : (c ≤ 2 ∨ 8 ≤ c ∧ c ≤ 23) ∨ (32 ≤ c ∧ c ≤ 42 ∨ 96 ≤ c ∧ c ≤ 110 ∨ c = 129 ∨ c = 130 ∨ 144 ≤ c ∧ c ≤ 158 ∨ c = 160 ∨ c = 161) ∨ (48 ≤ c ∧ c ≤ 58 ∨ 80 ≤ c ∧ c ≤ 87 ∨ c = 90) ∨ (112 ≤ c ∧ c ≤ 126 ∨ c = 128) ∨ (64 ≤ c ∧ c ≤ 74 ∨ c = 131)
  · exact h0
  · exfalso; apply h; unfold sizedP
    rw [if_neg (by omega), if_neg (by omega), if_neg (by omega), if_neg (by omega), if_neg (by omega)]
theorem long_drop {b : List UInt8} {k : Nat} (h : k + 4 ≤ b.length) : longP ((b.take (b.length : Int).toNat).drop (k : Int).toNat) 0 = longP b k := by
  rw [Int.toNat_natCast, Int.toNat_natCast, List.take_length]
  simp only [longP, List.getD_eq_getElem?_getD, List.getElem?_drop, Nat.add_zero]
end Go.HL
namespace Go.HL
theorem sizedP_nonneg (c : Int) : 0 ≤ sizedP c := by unfold sizedP; repeat' split
                                                     all_goals omega
theorem take_head {b : List UInt8} {n : Nat} (h : 0 < n) : (b.take n).getD 0 default = b.getD 0 default := by
  simp only [List.getD_eq_getElem?_getD, List.getElem?_take, if_pos h]
theorem take_size {b : List UInt8} {n : Int} (h : 0 < n) (h2 : n ≤ b.length) (e : (b.take n.toNat).getD 0 default = b.getD 0 default := by exact take_head (by omega)) (hs : sizedP ((b.getD 0 default).toNat : Nat) = n := by rfl) :
    ((b.take n.toNat).length : Int) = sizedP (((b.take n.toNat).getD 0 default).toNat : Nat) := by
  rw [e, hs, List.length_take]; omega
end Go.HL
namespace Go.Proofs.Ytfnedefgepjbpaa
open Go Go.HL Go.RowKit
set_option maxRecDepth 100000 in
set_option maxHeartbeats 2000000 in
theorem register_any (r : Int) (w : World) :
    Calls Try.prog 63 #[.int .i64 r] w (fun e w' => e = .returned (.bool (regP r)) ∧ Ext w w') := by
  refine enter Try.func63 rfl Try.ntmps63 rfl ?_
  refine Tr.seq ?_
  refine Tr.region ?_
  refine Tr.q (QS.assign rfl) rfl ?_
  refine Tr.nil ?_
  refine Tr.thenN ?_
  refine Tr.seq ?_
  refine Tr.region ?_
  refine Tr.q (QS.move rfl) rfl ?_
  refine Tr.q (QS.geq rfl rfl) rfl ?_
  refine Tr.q (QS.move rfl) rfl ?_
  apply Tr.andP
  · exact (rfl : _ = (3, 5, 8))
  · exact rfl
  · intro hT1; have hT1' := hT1
    try simp only [bs] at hT1'
    refine Tr.gq rfl rfl hT1 (QS.move rfl) rfl ?_
    refine Tr.gq rfl rfl hT1 (QS.lss rfl rfl) rfl ?_
    refine Tr.q (QS.pickT rfl hT1 rfl) rfl ?_
    refine Tr.nil (Tr.thenN ?_)
    exact Tr.endX (Sub.cons rfl (Sub.dropN 3 (by kernel_rfl) rfl))
  · intro hF1
    refine Tr.gskip rfl rfl hF1 rfl ?_
    refine Tr.gskip rfl rfl hF1 rfl ?_
    refine Tr.q (QS.pickF rfl hF1 rfl) rfl ?_
    refine Tr.nil (Tr.thenN ?_)
    exact Tr.endX (Sub.cons rfl (Sub.dropN 3 (by kernel_rfl) rfl))
  refine Tr.q (QS.assign rfl) rfl ?_
  refine Tr.nil ?_
  refine Tr.thenN ?_
  refine Tr.ret ?_
  refine Tr.ret1 Try.results63 rfl (fun w' hw => ?_)
  exact ⟨rfl, hw.below (Bg.le.refl _)⟩
set_option maxRecDepth 100000 in
set_option maxHeartbeats 2000000 in
theorem access_any (i : Ins) (w : World) :
    Calls Try.prog 88 #[.agg (encIns.enc i).toArray] w (fun e w' => e = .returned ((.tuple #[.int .u8 (accessP i).toNat, .int .i64 5, .bool (decide (accessP i ≠ 0))])) ∧ Ext w w') := by
  refine enter Try.func88 rfl Try.ntmps88 rfl ?_
  refine Tr.seq ?_
  refine Tr.region ?_
  refine Tr.box rfl rfl rfl (fun b1 => ?_)
  refine Tr.q (QS.assign rfl) rfl ?_
  refine Tr.q (QS.assign rfl) rfl ?_
  refine Tr.q (QS.assign rfl) rfl ?_
  refine Tr.nil ?_
  refine Tr.thenN ?_
  refine Tr.seq ?_
  refine Tr.region ?_
  refine Tr.q (QS.assign rfl) rfl ?_
  refine Tr.nil ?_
  refine Tr.thenN ?_
  refine Tr.seqJ (ι := UInt8) (fun c => c = accessP i) (fun _ => Bg.of w) (fun c => [cellE b1 (encIns.enc i) 36]) (fun c => [(5, .int .u8 c.toNat)]) ?_ (fun c hi => ?_)
  · skip
    refine Tr.seq ?_
    refine Tr.region ?_
    refine Tr.q (QS.fieldAddr (off := 2) (ft := 3) rfl Try.underlying36 rfl rfl Try.sizeOf3 (by decide)) rfl ?_
    refine Tr.q (QS.lV rfl Try.isAgg3) rfl ?_
    refine Tr.q (QS.fieldAddr (off := 4) (ft := 3) rfl Try.underlying36 rfl rfl Try.sizeOf3 (by decide)) rfl ?_
    refine Tr.q (QS.lV rfl Try.isAgg3) rfl ?_
    refine Tr.q (QS.build (vs := [(0, _), (1, _)]) rfl rfl (HLF.built135_0_1 _ _)) rfl ?_
    refine Tr.nil ?_
    refine Tr.thenN ?_
    refine Tr.block ?_
    refine Tr.seq ?_
    refine Tr.region ?_
    refine Tr.q (QS.build (vs := [(0, _), (1, _)]) rfl rfl (HLF.built135_0_1 _ _)) rfl ?_
    refine Tr.q (QS.eqlA2 rfl rfl Try.underlying135 Try.underlying3 Try.sizeOf3 Try.isAgg3 HLF.eqg135) rfl ?_
    refine Tr.q (QS.assign rfl) rfl ?_
    refine Tr.nil ?_
    refine Tr.thenN ?_
    refine Tr.cond rfl (fun h2 => ?_) (fun h2 => ?_)
    · try simp only [bs] at h2
      refine Tr.region ?_
      refine Tr.q (QS.assign rfl) rfl ?_
      refine Tr.nil ?_
      refine Tr.inN ?_
      refine Tr.thenN ?_
      apply Tr.joined (80 : UInt8)
      · exact rfl
      · exact (.cons (by first | rfl | exact lookI rfl (by omega) | exact lookI rfl (by simp) | exact lookB rfl (by simp)) Front.nil)
      · exact SubX.dropN 9 (by kernel_rfl) rfl
      · exact (by repeat' (first | exact Pick.nil _ | exact Del.here _ | apply Pick.cons | apply Del.there))
      · exact (by unfold accessP; repeat (first | rw [if_pos (by omega)] | rw [if_neg (by omega)]))
    · try simp only [bs] at h2
      refine Tr.seq ?_
      refine Tr.region ?_
      refine Tr.q (QS.build (vs := [(0, _), (1, _)]) rfl rfl (HLF.built135_0_1 _ _)) rfl ?_
      refine Tr.q (QS.eqlA2 rfl rfl Try.underlying135 Try.underlying3 Try.sizeOf3 Try.isAgg3 HLF.eqg135) rfl ?_
      refine Tr.q (QS.assign rfl) rfl ?_
      refine Tr.nil ?_
      refine Tr.thenN ?_
      refine Tr.cond rfl (fun h3 => ?_) (fun h3 => ?_)
      · try simp only [bs] at h3
        refine Tr.region ?_
        refine Tr.q (QS.assign rfl) rfl ?_
        refine Tr.nil ?_
        refine Tr.inN ?_
        refine Tr.thenN ?_
        apply Tr.joined (81 : UInt8)
        · exact rfl
        · exact (.cons (by first | rfl | exact lookI rfl (by omega) | exact lookI rfl (by simp) | exact lookB rfl (by simp)) Front.nil)
        · exact SubX.dropN 12 (by kernel_rfl) rfl
        · exact (by repeat' (first | exact Pick.nil _ | exact Del.here _ | apply Pick.cons | apply Del.there))
        · exact (by unfold accessP; repeat (first | rw [if_pos (by omega)] | rw [if_neg (by omega)]))
      · try simp only [bs] at h3
        refine Tr.seq ?_
        refine Tr.region ?_
        refine Tr.q (QS.build (vs := [(0, _), (1, _)]) rfl rfl (HLF.built135_0_1 _ _)) rfl ?_
        refine Tr.q (QS.eqlA2 rfl rfl Try.underlying135 Try.underlying3 Try.sizeOf3 Try.isAgg3 HLF.eqg135) rfl ?_
        refine Tr.q (QS.assign rfl) rfl ?_
        refine Tr.nil ?_
        refine Tr.thenN ?_
        refine Tr.cond rfl (fun h4 => ?_) (fun h4 => ?_)
        · try simp only [bs] at h4
          refine Tr.region ?_
          refine Tr.q (QS.assign rfl) rfl ?_
          refine Tr.nil ?_
          refine Tr.inN ?_
          refine Tr.thenN ?_
          apply Tr.joined (82 : UInt8)
          · exact rfl
          · exact (.cons (by first | rfl | exact lookI rfl (by omega) | exact lookI rfl (by simp) | exact lookB rfl (by simp)) Front.nil)
          · exact SubX.dropN 15 (by kernel_rfl) rfl
          · exact (by repeat' (first | exact Pick.nil _ | exact Del.here _ | apply Pick.cons | apply Del.there))
          · exact (by unfold accessP; repeat (first | rw [if_pos (by omega)] | rw [if_neg (by omega)]))
        · try simp only [bs] at h4
          refine Tr.seq ?_
          refine Tr.region ?_
          refine Tr.q (QS.build (vs := [(0, _), (1, _)]) rfl rfl (HLF.built135_0_1 _ _)) rfl ?_
          refine Tr.q (QS.eqlA2 rfl rfl Try.underlying135 Try.underlying3 Try.sizeOf3 Try.isAgg3 HLF.eqg135) rfl ?_
          refine Tr.q (QS.assign rfl) rfl ?_
          refine Tr.nil ?_
          refine Tr.thenN ?_
          refine Tr.cond rfl (fun h5 => ?_) (fun h5 => ?_)
          · try simp only [bs] at h5
            refine Tr.region ?_
            refine Tr.q (QS.assign rfl) rfl ?_
            refine Tr.nil ?_
            refine Tr.inN ?_
            refine Tr.thenN ?_
            apply Tr.joined (83 : UInt8)
            · exact rfl
            · exact (.cons (by first | rfl | exact lookI rfl (by omega) | exact lookI rfl (by simp) | exact lookB rfl (by simp)) Front.nil)
            · exact SubX.dropN 18 (by kernel_rfl) rfl
            · exact (by repeat' (first | exact Pick.nil _ | exact Del.here _ | apply Pick.cons | apply Del.there))
            · exact (by unfold accessP; repeat (first | rw [if_pos (by omega)] | rw [if_neg (by omega)]))
          · try simp only [bs] at h5
            refine Tr.seq ?_
            refine Tr.region ?_
            refine Tr.q (QS.build (vs := [(0, _), (1, _)]) rfl rfl (HLF.built135_0_1 _ _)) rfl ?_
            refine Tr.q (QS.eqlA2 rfl rfl Try.underlying135 Try.underlying3 Try.sizeOf3 Try.isAgg3 HLF.eqg135) rfl ?_
            refine Tr.q (QS.assign rfl) rfl ?_
            refine Tr.nil ?_
            refine Tr.thenN ?_
            refine Tr.cond rfl (fun h6 => ?_) (fun h6 => ?_)
            · try simp only [bs] at h6
              refine Tr.region ?_
              refine Tr.q (QS.assign rfl) rfl ?_
              refine Tr.nil ?_
              refine Tr.inN ?_
              refine Tr.thenN ?_
              apply Tr.joined (84 : UInt8)
              · exact rfl
              · exact (.cons (by first | rfl | exact lookI rfl (by omega) | exact lookI rfl (by simp) | exact lookB rfl (by simp)) Front.nil)
              · exact SubX.dropN 21 (by kernel_rfl) rfl
              · exact (by repeat' (first | exact Pick.nil _ | exact Del.here _ | apply Pick.cons | apply Del.there))
              · exact (by unfold accessP; repeat (first | rw [if_pos (by omega)] | rw [if_neg (by omega)]))
            · try simp only [bs] at h6
              refine Tr.seq ?_
              refine Tr.region ?_
              refine Tr.q (QS.build (vs := [(0, _), (1, _)]) rfl rfl (HLF.built135_0_1 _ _)) rfl ?_
              refine Tr.q (QS.eqlA2 rfl rfl Try.underlying135 Try.underlying3 Try.sizeOf3 Try.isAgg3 HLF.eqg135) rfl ?_
              refine Tr.q (QS.assign rfl) rfl ?_
              refine Tr.nil ?_
              refine Tr.thenN ?_
              refine Tr.cond rfl (fun h7 => ?_) (fun h7 => ?_)
              · try simp only [bs] at h7
                refine Tr.region ?_
                refine Tr.q (QS.assign rfl) rfl ?_
                refine Tr.nil ?_
                refine Tr.inN ?_
                refine Tr.thenN ?_
                apply Tr.joined (85 : UInt8)
                · exact rfl
                · exact (.cons (by first | rfl | exact lookI rfl (by omega) | exact lookI rfl (by simp) | exact lookB rfl (by simp)) Front.nil)
                · exact SubX.dropN 24 (by kernel_rfl) rfl
                · exact (by repeat' (first | exact Pick.nil _ | exact Del.here _ | apply Pick.cons | apply Del.there))
                · exact (by unfold accessP; repeat (first | rw [if_pos (by omega)] | rw [if_neg (by omega)]))
              · try simp only [bs] at h7
                refine Tr.seq ?_
                refine Tr.region ?_
                refine Tr.q (QS.build (vs := [(0, _), (1, _)]) rfl rfl (HLF.built135_0_1 _ _)) rfl ?_
                refine Tr.q (QS.eqlA2 rfl rfl Try.underlying135 Try.underlying3 Try.sizeOf3 Try.isAgg3 HLF.eqg135) rfl ?_
                refine Tr.q (QS.assign rfl) rfl ?_
                refine Tr.nil ?_
                refine Tr.thenN ?_
                refine Tr.cond rfl (fun h8 => ?_) (fun h8 => ?_)
                · try simp only [bs] at h8
                  refine Tr.region ?_
                  refine Tr.q (QS.assign rfl) rfl ?_
                  refine Tr.nil ?_
                  refine Tr.inN ?_
                  refine Tr.thenN ?_
                  apply Tr.joined (86 : UInt8)
                  · exact rfl
                  · exact (.cons (by first | rfl | exact lookI rfl (by omega) | exact lookI rfl (by simp) | exact lookB rfl (by simp)) Front.nil)
                  · exact SubX.dropN 27 (by kernel_rfl) rfl
                  · exact (by repeat' (first | exact Pick.nil _ | exact Del.here _ | apply Pick.cons | apply Del.there))
                  · exact (by unfold accessP; repeat (first | rw [if_pos (by omega)] | rw [if_neg (by omega)]))
                · try simp only [bs] at h8
                  refine Tr.seq ?_
                  refine Tr.region ?_
                  refine Tr.q (QS.build (vs := [(0, _), (1, _)]) rfl rfl (HLF.built135_0_1 _ _)) rfl ?_
                  refine Tr.q (QS.eqlA2 rfl rfl Try.underlying135 Try.underlying3 Try.sizeOf3 Try.isAgg3 HLF.eqg135) rfl ?_
                  refine Tr.q (QS.assign rfl) rfl ?_
                  refine Tr.nil ?_
                  refine Tr.thenN ?_
                  refine Tr.cond rfl (fun h9 => ?_) (fun h9 => ?_)
                  · try simp only [bs] at h9
                    refine Tr.region ?_
                    refine Tr.q (QS.assign rfl) rfl ?_
                    refine Tr.nil ?_
                    refine Tr.inN ?_
                    refine Tr.thenN ?_
                    apply Tr.joined (87 : UInt8)
                    · exact rfl
                    · exact (.cons (by first | rfl | exact lookI rfl (by omega) | exact lookI rfl (by simp) | exact lookB rfl (by simp)) Front.nil)
                    · exact SubX.dropN 30 (by kernel_rfl) rfl
                    · exact (by repeat' (first | exact Pick.nil _ | exact Del.here _ | apply Pick.cons | apply Del.there))
                    · exact (by unfold accessP; repeat (first | rw [if_pos (by omega)] | rw [if_neg (by omega)]))
                  · try simp only [bs] at h9
                    refine Tr.skip ?_
                    refine Tr.inN ?_
                    refine Tr.thenN ?_
                    apply Tr.joined (0 : UInt8)
                    · exact rfl
                    · exact (.cons (by first | rfl | exact lookI rfl (by omega) | exact lookI rfl (by simp) | exact lookB rfl (by simp)) Front.nil)
                    · exact SubX.dropN 29 (by kernel_rfl) rfl
                    · exact (by repeat' (first | exact Pick.nil _ | exact Del.here _ | apply Pick.cons | apply Del.there))
                    · exact (by unfold accessP; repeat (first | rw [if_pos (by omega)] | rw [if_neg (by omega)]))
  · skip
    replace hi : c = accessP i := hi
    change Tr _ _ [cellE b1 (encIns.enc i) 36] ([(5, .int .u8 c.toNat)] ++ _) _
    refine Tr.seq ?_
    refine Tr.region ?_
    refine Tr.q (QS.move rfl) rfl ?_
    refine Tr.q (QS.move rfl) rfl ?_
    refine Tr.q (QS.neq8 (n := 0) rfl rfl) rfl ?_
    refine Tr.q (QS.assign rfl) rfl ?_
    refine Tr.q (QS.assign rfl) rfl ?_
    refine Tr.q (QS.assign rfl) rfl ?_
    refine Tr.nil ?_
    refine Tr.thenN ?_
    refine Tr.ret ?_
    refine Tr.ret3 Try.results88 rfl rfl rfl (fun w' hw => ?_)
    exact ⟨by subst hi; rfl, hw.below (Bg.le.refl _)⟩
set_option maxRecDepth 100000 in
set_option maxHeartbeats 2000000 in
theorem conditional_any (i : Ins) (w : World) :
    Calls Try.prog 89 #[.agg (encIns.enc i).toArray] w (fun e w' => e = .returned ((.tuple #[.int .u8 (condP i).1.toNat, .int .i64 (condP i).2.1, .bool (condP i).2.2])) ∧ Ext w w') := by
  refine enter Try.func89 rfl Try.ntmps89 rfl ?_
  refine Tr.seq ?_
  refine Tr.region ?_
  refine Tr.box rfl rfl rfl (fun b1 => ?_)
  refine Tr.q (QS.assign rfl) rfl ?_
  refine Tr.q (QS.assign rfl) rfl ?_
  refine Tr.q (QS.assign rfl) rfl ?_
  refine Tr.nil ?_
  refine Tr.thenN ?_
  refine Tr.seq ?_
  refine Tr.seq ?_
  refine Tr.region ?_
  refine Tr.q (QS.fieldAddr (off := 5) (ft := 3) rfl Try.underlying36 rfl rfl Try.sizeOf3 (by decide)) rfl ?_
  refine Tr.q (QS.lV rfl Try.isAgg3) rfl ?_
  refine Tr.q (QS.lss rfl rfl) rfl ?_
  refine Tr.q (QS.move rfl) rfl ?_
  apply Tr.orP
  · exact (rfl : _ = (4, 8, 12))
  · exact rfl
  · intro hF2; have hF2' := hF2
    try simp only [bs] at hF2'
    refine Tr.gq rfl rfl hF2 (QS.fieldAddr (off := 5) (ft := 3) rfl Try.underlying36 rfl rfl Try.sizeOf3 (by decide)) rfl ?_
    refine Tr.gq rfl rfl hF2 (QS.lV rfl Try.isAgg3) rfl ?_
    refine Tr.gq rfl rfl hF2 (QS.gtr rfl rfl) rfl ?_
    refine Tr.q (QS.pickF rfl hF2 rfl) rfl ?_
    refine Tr.nil (Tr.thenN ?_)
    exact Tr.endX (Sub.cons rfl (Sub.dropN 4 (by kernel_rfl) rfl))
  · intro hT2
    refine Tr.gskip rfl rfl hT2 rfl ?_
    refine Tr.gskip rfl rfl hT2 rfl ?_
    refine Tr.gskip rfl rfl hT2 rfl ?_
    refine Tr.q (QS.pickT rfl hT2 rfl) rfl ?_
    refine Tr.nil (Tr.thenN ?_)
    exact Tr.endX (Sub.cons rfl (Sub.dropN 4 (by kernel_rfl) rfl))
  refine Tr.nil ?_
  refine Tr.thenN ?_
  refine Tr.cond rfl (fun h3 => ?_) (fun h3 => ?_)
  · try simp only [bs] at h3
    refine Tr.seq ?_
    refine Tr.region ?_
    refine Tr.q (QS.assign rfl) rfl ?_
    refine Tr.q (QS.assign rfl) rfl ?_
    refine Tr.q (QS.assign rfl) rfl ?_
    refine Tr.nil ?_
    refine Tr.thenN ?_
    refine Tr.ret ?_
    refine Tr.thenR ?_
    refine Tr.ret3 Try.results89 rfl rfl rfl (fun w' hw => ?_)
    exact ⟨by unfold condP; (repeat (first | rw [if_pos (by omega)] | rw [if_neg (by omega)])) <;> rfl, hw.below (Bg.le.refl _)⟩
  · try simp only [bs] at h3
    refine Tr.skip ?_
    refine Tr.thenN ?_
    refine Tr.seq ?_
    refine Tr.block ?_
    refine Tr.seq ?_
    refine Tr.region ?_
    refine Tr.q (QS.fieldAddr (off := 2) (ft := 3) rfl Try.underlying36 rfl rfl Try.sizeOf3 (by decide)) rfl ?_
    refine Tr.q (QS.lV rfl Try.isAgg3) rfl ?_
    refine Tr.q (QS.eql rfl rfl) rfl ?_
    refine Tr.q (QS.assign rfl) rfl ?_
    refine Tr.nil ?_
    refine Tr.thenN ?_
    refine Tr.cond rfl (fun h4 => ?_) (fun h4 => ?_)
    · try simp only [bs] at h4
      refine Tr.seq ?_
      refine Tr.region ?_
      refine Tr.q (QS.fieldAddr (off := 5) (ft := 3) rfl Try.underlying36 rfl rfl Try.sizeOf3 (by decide)) rfl ?_
      refine Tr.q (QS.lV rfl Try.isAgg3) rfl ?_
      refine Tr.q (QS.cvtTo8 rfl Try.underlying3 Try.underlying5) rfl ?_
      refine Tr.q (QS.add8 (m := 144) rfl rfl) rfl ?_
      refine Tr.q (QS.assign rfl) rfl ?_
      refine Tr.q (QS.assign rfl) rfl ?_
      refine Tr.q (QS.assign rfl) rfl ?_
      refine Tr.nil ?_
      refine Tr.thenN ?_
      refine Tr.ret ?_
      refine Tr.inR ?_
      refine Tr.thenR ?_
      refine Tr.ret3 Try.results89 rfl rfl rfl (fun w' hw => ?_)
      exact ⟨by unfold condP; (repeat (first | rw [if_pos (by omega)] | rw [if_neg (by omega)])) <;> rfl, hw.below (Bg.le.refl _)⟩
    · try simp only [bs] at h4
      refine Tr.seq ?_
      refine Tr.region ?_
      refine Tr.q (QS.fieldAddr (off := 3) (ft := 3) rfl Try.underlying36 rfl rfl Try.sizeOf3 (by decide)) rfl ?_
      refine Tr.q (QS.lV rfl Try.isAgg3) rfl ?_
      refine Tr.q (QS.eql rfl rfl) rfl ?_
      refine Tr.q (QS.assign rfl) rfl ?_
      refine Tr.nil ?_
      refine Tr.thenN ?_
      refine Tr.cond rfl (fun h5 => ?_) (fun h5 => ?_)
      · try simp only [bs] at h5
        refine Tr.seq ?_
        refine Tr.region ?_
        refine Tr.q (QS.fieldAddr (off := 5) (ft := 3) rfl Try.underlying36 rfl rfl Try.sizeOf3 (by decide)) rfl ?_
        refine Tr.q (QS.lV rfl Try.isAgg3) rfl ?_
        refine Tr.q (QS.cvtTo8 rfl Try.underlying3 Try.underlying5) rfl ?_
        refine Tr.q (QS.add8 (m := 96) rfl rfl) rfl ?_
        refine Tr.q (QS.assign rfl) rfl ?_
        refine Tr.q (QS.assign rfl) rfl ?_
        refine Tr.q (QS.assign rfl) rfl ?_
        refine Tr.nil ?_
        refine Tr.thenN ?_
        refine Tr.ret ?_
        refine Tr.inR ?_
        refine Tr.thenR ?_
        refine Tr.ret3 Try.results89 rfl rfl rfl (fun w' hw => ?_)
        exact ⟨by unfold condP; (repeat (first | rw [if_pos (by omega)] | rw [if_neg (by omega)])) <;> rfl, hw.below (Bg.le.refl _)⟩
      · try simp only [bs] at h5
        refine Tr.seq ?_
        refine Tr.region ?_
        refine Tr.q (QS.fieldAddr (off := 3) (ft := 3) rfl Try.underlying36 rfl rfl Try.sizeOf3 (by decide)) rfl ?_
        refine Tr.q (QS.lV rfl Try.isAgg3) rfl ?_
        refine Tr.q (QS.eql rfl rfl) rfl ?_
        refine Tr.q (QS.assign rfl) rfl ?_
        refine Tr.nil ?_
        refine Tr.thenN ?_
        refine Tr.cond rfl (fun h6 => ?_) (fun h6 => ?_)
        · try simp only [bs] at h6
          refine Tr.seq ?_
          refine Tr.region ?_
          refine Tr.q (QS.fieldAddr (off := 5) (ft := 3) rfl Try.underlying36 rfl rfl Try.sizeOf3 (by decide)) rfl ?_
          refine Tr.q (QS.lV rfl Try.isAgg3) rfl ?_
          refine Tr.q (QS.cvtTo8 rfl Try.underlying3 Try.underlying5) rfl ?_
          refine Tr.q (QS.add8 (m := 112) rfl rfl) rfl ?_
          refine Tr.q (QS.assign rfl) rfl ?_
          refine Tr.q (QS.assign rfl) rfl ?_
          refine Tr.q (QS.assign rfl) rfl ?_
          refine Tr.nil ?_
          refine Tr.thenN ?_
          refine Tr.ret ?_
          refine Tr.inR ?_
          refine Tr.thenR ?_
          refine Tr.ret3 Try.results89 rfl rfl rfl (fun w' hw => ?_)
          exact ⟨by unfold condP; (repeat (first | rw [if_pos (by omega)] | rw [if_neg (by omega)])) <;> rfl, hw.below (Bg.le.refl _)⟩
        · try simp only [bs] at h6
          refine Tr.skip ?_
          refine Tr.inN ?_
          refine Tr.thenN ?_
          refine Tr.seq ?_
          refine Tr.region ?_
          refine Tr.q (QS.assign rfl) rfl ?_
          refine Tr.q (QS.assign rfl) rfl ?_
          refine Tr.q (QS.assign rfl) rfl ?_
          refine Tr.nil ?_
          refine Tr.thenN ?_
          refine Tr.ret ?_
          refine Tr.ret3 Try.results89 rfl rfl rfl (fun w' hw => ?_)
          exact ⟨by unfold condP; (repeat (first | rw [if_pos (by omega)] | rw [if_neg (by omega)])) <;> rfl, hw.below (Bg.le.refl _)⟩
set_option maxRecDepth 100000 in
set_option maxHeartbeats 2000000 in
theorem opcode_any (i : Ins) (w : World) (hI : InsOK i) :
    Calls Try.prog 60 #[.agg (encIns.enc i).toArray] w (fun e w' => e = .returned ((.tuple #[.int .u8 (opcodeP i).1.toNat, .int .i64 (opcodeP i).2.1, .bool (opcodeP i).2.2])) ∧ Ext w w') := by
  have hop := hI.op; unfold I64 at hop
  refine enter Try.func60 rfl Try.ntmps60 rfl ?_
  refine Tr.seq ?_
  refine Tr.region ?_
  refine Tr.box rfl rfl rfl (fun b1 => ?_)
  refine Tr.q (QS.assign rfl) rfl ?_
  refine Tr.q (QS.assign rfl) rfl ?_
  refine Tr.q (QS.assign rfl) rfl ?_
  refine Tr.nil ?_
  refine Tr.thenN ?_
  refine Tr.seq ?_
  refine Tr.block ?_
  refine Tr.seq ?_
  refine Tr.seq ?_
  refine Tr.region ?_
  refine Tr.q (QS.fieldAddr (off := 2) (ft := 3) rfl Try.underlying36 rfl rfl Try.sizeOf3 (by decide)) rfl ?_
  refine Tr.q (QS.lV rfl Try.isAgg3) rfl ?_
  refine Tr.q (QS.eql rfl rfl) rfl ?_
  refine Tr.q (QS.assign rfl) rfl ?_
  refine Tr.nil ?_
  refine Tr.thenN ?_
  apply Tr.condOr
  · exact rfl
  · intro hO2
    try simp only [bs] at hO2
    refine Tr.seq ?_
    refine Tr.region ?_
    refine Tr.q (QS.fieldAddr (off := 2) (ft := 3) rfl Try.underlying36 rfl rfl Try.sizeOf3 (by decide)) rfl ?_
    refine Tr.q (QS.lV rfl Try.isAgg3) rfl ?_
    refine Tr.q (QS.eql rfl rfl) rfl ?_
    refine Tr.q (QS.assign rfl) rfl ?_
    refine Tr.nil ?_
    refine Tr.thenN ?_
    apply Tr.condOr
    · exact rfl
    · intro hO3
      try simp only [bs] at hO3
      refine Tr.region ?_
      refine Tr.q (QS.fieldAddr (off := 2) (ft := 3) rfl Try.underlying36 rfl rfl Try.sizeOf3 (by decide)) rfl ?_
      refine Tr.q (QS.lV rfl Try.isAgg3) rfl ?_
      refine Tr.q (QS.eql rfl rfl) rfl ?_
      refine Tr.q (QS.assign rfl) rfl ?_
      refine Tr.nil ?_
      refine Tr.thenN ?_
      exact Tr.endOr rfl (SubX.dropN 4 (by kernel_rfl) rfl)
    refine Tr.thenN ?_
    exact Tr.endOr rfl (SubX.dropN 5 (by kernel_rfl) rfl)
  refine Tr.thenN ?_
  refine Tr.cond rfl (fun h4 => ?_) (fun h4 => ?_)
  · try simp only [bs] at h4
    refine Tr.seq ?_
    refine Tr.region ?_
    refine Tr.q (QS.fieldAddr (off := 2) (ft := 3) rfl Try.underlying36 rfl rfl Try.sizeOf3 (by decide)) rfl ?_
    refine Tr.q (QS.lV rfl Try.isAgg3) rfl ?_
    refine Tr.q (QS.cvtTo8 rfl Try.underlying3 Try.underlying5) rfl ?_
    refine Tr.q (QS.assign rfl) rfl ?_
    refine Tr.q (QS.assign rfl) rfl ?_
    refine Tr.q (QS.assign rfl) rfl ?_
    refine Tr.nil ?_
    refine Tr.thenN ?_
    refine Tr.ret ?_
    refine Tr.inR ?_
    refine Tr.thenR ?_
    refine Tr.ret3 Try.results60 rfl rfl rfl (fun w' hw => ?_)
    exact ⟨by unfold opcodeP; (repeat (first | rw [if_pos (by omega)] | rw [if_neg (by omega)])) <;> rfl, hw.below (Bg.le.refl _)⟩
  · try simp only [bs] at h4
    refine Tr.seq ?_
    refine Tr.region ?_
    refine Tr.q (QS.fieldAddr (off := 2) (ft := 3) rfl Try.underlying36 rfl rfl Try.sizeOf3 (by decide)) rfl ?_
    refine Tr.q (QS.lV rfl Try.isAgg3) rfl ?_
    refine Tr.q (QS.eql rfl rfl) rfl ?_
    refine Tr.q (QS.assign rfl) rfl ?_
    refine Tr.nil ?_
    refine Tr.thenN ?_
    refine Tr.cond rfl (fun h5 => ?_) (fun h5 => ?_)
    · try simp only [bs] at h5
      refine Tr.seq ?_
      refine Tr.region ?_
      refine Tr.q (QS.fieldAddr (off := 6) (ft := 3) rfl Try.underlying36 rfl rfl Try.sizeOf3 (by decide)) rfl ?_
      refine Tr.q (QS.lV rfl Try.isAgg3) rfl ?_
      refine Tr.q (QS.and7 rfl rfl) rfl ?_
      refine Tr.q (QS.cvtTo8 rfl Try.underlying3 Try.underlying5) rfl ?_
      refine Tr.q (QS.add8 (m := 8) rfl rfl) rfl ?_
      refine Tr.q (QS.assign rfl) rfl ?_
      refine Tr.q (QS.assign rfl) rfl ?_
      refine Tr.q (QS.assign rfl) rfl ?_
      refine Tr.nil ?_
      refine Tr.thenN ?_
      refine Tr.ret ?_
      refine Tr.inR ?_
      refine Tr.thenR ?_
      refine Tr.ret3 Try.results60 rfl rfl rfl (fun w' hw => ?_)
      exact ⟨by unfold opcodeP; (repeat (first | rw [if_pos (by omega)] | rw [if_neg (by omega)])) <;> rfl, hw.below (Bg.le.refl _)⟩
    · try simp only [bs] at h5
      refine Tr.seq ?_
      refine Tr.region ?_
      refine Tr.q (QS.fieldAddr (off := 2) (ft := 3) rfl Try.underlying36 rfl rfl Try.sizeOf3 (by decide)) rfl ?_
      refine Tr.q (QS.lV rfl Try.isAgg3) rfl ?_
      refine Tr.q (QS.eql rfl rfl) rfl ?_
      refine Tr.q (QS.assign rfl) rfl ?_
      refine Tr.nil ?_
      refine Tr.thenN ?_
      refine Tr.cond rfl (fun h6 => ?_) (fun h6 => ?_)
      · try simp only [bs] at h6
        refine Tr.seq ?_
        refine Tr.region ?_
        refine Tr.q (QS.fieldAddr (off := 6) (ft := 3) rfl Try.underlying36 rfl rfl Try.sizeOf3 (by decide)) rfl ?_
        refine Tr.q (QS.lV rfl Try.isAgg3) rfl ?_
        refine Tr.q (QS.and7 rfl rfl) rfl ?_
        refine Tr.q (QS.cvtTo8 rfl Try.underlying3 Try.underlying5) rfl ?_
        refine Tr.q (QS.add8 (m := 16) rfl rfl) rfl ?_
        refine Tr.q (QS.assign rfl) rfl ?_
        refine Tr.q (QS.assign rfl) rfl ?_
        refine Tr.q (QS.assign rfl) rfl ?_
        refine Tr.nil ?_
        refine Tr.thenN ?_
        refine Tr.ret ?_
        refine Tr.inR ?_
        refine Tr.thenR ?_
        refine Tr.ret3 Try.results60 rfl rfl rfl (fun w' hw => ?_)
        exact ⟨by unfold opcodeP; (repeat (first | rw [if_pos (by omega)] | rw [if_neg (by omega)])) <;> rfl, hw.below (Bg.le.refl _)⟩
      · try simp only [bs] at h6
        refine Tr.seq ?_
        refine Tr.region ?_
        refine Tr.q (QS.fieldAddr (off := 2) (ft := 3) rfl Try.underlying36 rfl rfl Try.sizeOf3 (by decide)) rfl ?_
        refine Tr.q (QS.lV rfl Try.isAgg3) rfl ?_
        refine Tr.q (QS.geq rfl rfl) rfl ?_
        refine Tr.q (QS.move rfl) rfl ?_
        apply Tr.andP
        · exact (rfl : _ = (4, 41, 45))
        · exact rfl
        · intro hT7; have hT7' := hT7
          try simp only [bs] at hT7'
          refine Tr.gq rfl rfl hT7 (QS.fieldAddr (off := 2) (ft := 3) rfl Try.underlying36 rfl rfl Try.sizeOf3 (by decide)) rfl ?_
          refine Tr.gq rfl rfl hT7 (QS.lV rfl Try.isAgg3) rfl ?_
          refine Tr.gq rfl rfl hT7 (QS.leq rfl rfl) rfl ?_
          refine Tr.q (QS.pickT rfl hT7 rfl) rfl ?_
          refine Tr.nil (Tr.thenN ?_)
          exact Tr.endX (Sub.cons rfl (Sub.dropN 4 (by kernel_rfl) rfl))
        · intro hF7
          refine Tr.gskip rfl rfl hF7 rfl ?_
          refine Tr.gskip rfl rfl hF7 rfl ?_
          refine Tr.gskip rfl rfl hF7 rfl ?_
          refine Tr.q (QS.pickF rfl hF7 rfl) rfl ?_
          refine Tr.nil (Tr.thenN ?_)
          exact Tr.endX (Sub.cons rfl (Sub.dropN 4 (by kernel_rfl) rfl))
        refine Tr.q (QS.assign rfl) rfl ?_
        refine Tr.nil ?_
        refine Tr.thenN ?_
        refine Tr.cond rfl (fun h8 => ?_) (fun h8 => ?_)
        · try simp only [bs] at h8
          refine Tr.seq ?_
          refine Tr.region ?_
          refine Tr.q (QS.fieldAddr (off := 2) (ft := 3) rfl Try.underlying36 rfl rfl Try.sizeOf3 (by decide)) rfl ?_
          refine Tr.q (QS.lV rfl Try.isAgg3) rfl ?_
          refine Tr.q (QS.subI rfl rfl (by omega)) rfl ?_
          refine Tr.q (QS.cvtTo8 rfl Try.underlying3 Try.underlying5) rfl ?_
          refine Tr.q (QS.assign rfl) rfl ?_
          refine Tr.nil ?_
          refine Tr.thenN ?_
          refine Tr.seq ?_
          refine Tr.region ?_
          refine Tr.q (QS.fieldAddr (off := 3) (ft := 3) rfl Try.underlying36 rfl rfl Try.sizeOf3 (by decide)) rfl ?_
          refine Tr.q (QS.lV rfl Try.isAgg3) rfl ?_
          refine Tr.nil ?_
          refine Tr.thenN ?_
          refine Tr.block ?_
          refine Tr.seq ?_
          refine Tr.region ?_
          refine Tr.q (QS.eql rfl rfl) rfl ?_
          refine Tr.q (QS.assign rfl) rfl ?_
          refine Tr.nil ?_
          refine Tr.thenN ?_
          refine Tr.cond rfl (fun h9 => ?_) (fun h9 => ?_)
          · try simp only [bs] at h9
            refine Tr.seq ?_
            refine Tr.region ?_
            refine Tr.q (QS.move rfl) rfl ?_
            refine Tr.q (QS.add8 (m := 32) rfl rfl) rfl ?_
            refine Tr.q (QS.assign rfl) rfl ?_
            refine Tr.q (QS.assign rfl) rfl ?_
            refine Tr.q (QS.assign rfl) rfl ?_
            refine Tr.nil ?_
            refine Tr.thenN ?_
            refine Tr.ret ?_
            refine Tr.inR ?_
            refine Tr.inR ?_
            refine Tr.thenR ?_
            refine Tr.ret3 Try.results60 rfl rfl rfl (fun w' hw => ?_)
            exact ⟨by unfold opcodeP; (repeat (first | rw [if_pos (by omega)] | rw [if_neg (by omega)])) <;> rfl, hw.below (Bg.le.refl _)⟩
          · try simp only [bs] at h9
            refine Tr.seq ?_
            refine Tr.region ?_
            refine Tr.q (QS.eql rfl rfl) rfl ?_
            refine Tr.q (QS.assign rfl) rfl ?_
            refine Tr.nil ?_
            refine Tr.thenN ?_
            refine Tr.cond rfl (fun h10 => ?_) (fun h10 => ?_)
            · try simp only [bs] at h10
              refine Tr.seq ?_
              refine Tr.region ?_
              refine Tr.q (QS.move rfl) rfl ?_
              refine Tr.q (QS.add8 (m := 48) rfl rfl) rfl ?_
              refine Tr.q (QS.assign rfl) rfl ?_
              refine Tr.q (QS.assign rfl) rfl ?_
              refine Tr.q (QS.assign rfl) rfl ?_
              refine Tr.nil ?_
              refine Tr.thenN ?_
              refine Tr.ret ?_
              refine Tr.inR ?_
              refine Tr.inR ?_
              refine Tr.thenR ?_
              refine Tr.ret3 Try.results60 rfl rfl rfl (fun w' hw => ?_)
              exact ⟨by unfold opcodeP; (repeat (first | rw [if_pos (by omega)] | rw [if_neg (by omega)])) <;> rfl, hw.below (Bg.le.refl _)⟩
            · try simp only [bs] at h10
              refine Tr.seq ?_
              refine Tr.region ?_
              refine Tr.q (QS.eql rfl rfl) rfl ?_
              refine Tr.q (QS.assign rfl) rfl ?_
              refine Tr.nil ?_
              refine Tr.thenN ?_
              refine Tr.cond rfl (fun h11 => ?_) (fun h11 => ?_)
              · try simp only [bs] at h11
                refine Tr.seq ?_
                refine Tr.region ?_
                refine Tr.q (QS.move rfl) rfl ?_
                refine Tr.q (QS.add8 (m := 64) rfl rfl) rfl ?_
                refine Tr.q (QS.assign rfl) rfl ?_
                refine Tr.q (QS.assign rfl) rfl ?_
                refine Tr.q (QS.assign rfl) rfl ?_
                refine Tr.nil ?_
                refine Tr.thenN ?_
                refine Tr.ret ?_
                refine Tr.inR ?_
                refine Tr.inR ?_
                refine Tr.thenR ?_
                refine Tr.ret3 Try.results60 rfl rfl rfl (fun w' hw => ?_)
                exact ⟨by unfold opcodeP; (repeat (first | rw [if_pos (by omega)] | rw [if_neg (by omega)])) <;> rfl, hw.below (Bg.le.refl _)⟩
              · try simp only [bs] at h11
                refine Tr.skip ?_
                refine Tr.inN ?_
                refine Tr.inN ?_
                refine Tr.thenN ?_
                refine Tr.seq ?_
                refine Tr.region ?_
                refine Tr.q (QS.assign rfl) rfl ?_
                refine Tr.q (QS.assign rfl) rfl ?_
                refine Tr.q (QS.assign rfl) rfl ?_
                refine Tr.nil ?_
                refine Tr.thenN ?_
                refine Tr.ret ?_
                refine Tr.ret3 Try.results60 rfl rfl rfl (fun w' hw => ?_)
                exact ⟨by unfold opcodeP; (repeat (first | rw [if_pos (by omega)] | rw [if_neg (by omega)])) <;> rfl, hw.below (Bg.le.refl _)⟩
        · try simp only [bs] at h8
          refine Tr.seq ?_
          refine Tr.seq ?_
          refine Tr.region ?_
          refine Tr.q (QS.fieldAddr (off := 2) (ft := 3) rfl Try.underlying36 rfl rfl Try.sizeOf3 (by decide)) rfl ?_
          refine Tr.q (QS.lV rfl Try.isAgg3) rfl ?_
          refine Tr.q (QS.eql rfl rfl) rfl ?_
          refine Tr.q (QS.assign rfl) rfl ?_
          refine Tr.nil ?_
          refine Tr.thenN ?_
          apply Tr.condOr
          · exact rfl
          · intro hO12
            try simp only [bs] at hO12
            refine Tr.seq ?_
            refine Tr.region ?_
            refine Tr.q (QS.fieldAddr (off := 2) (ft := 3) rfl Try.underlying36 rfl rfl Try.sizeOf3 (by decide)) rfl ?_
            refine Tr.q (QS.lV rfl Try.isAgg3) rfl ?_
            refine Tr.q (QS.eql rfl rfl) rfl ?_
            refine Tr.q (QS.assign rfl) rfl ?_
            refine Tr.nil ?_
            refine Tr.thenN ?_
            apply Tr.condOr
            · exact rfl
            · intro hO13
              try simp only [bs] at hO13
              refine Tr.region ?_
              refine Tr.q (QS.fieldAddr (off := 2) (ft := 3) rfl Try.underlying36 rfl rfl Try.sizeOf3 (by decide)) rfl ?_
              refine Tr.q (QS.lV rfl Try.isAgg3) rfl ?_
              refine Tr.q (QS.eql rfl rfl) rfl ?_
              refine Tr.q (QS.assign rfl) rfl ?_
              refine Tr.nil ?_
              refine Tr.thenN ?_
              exact Tr.endOr rfl (SubX.dropN 4 (by kernel_rfl) rfl)
            refine Tr.thenN ?_
            exact Tr.endOr rfl (SubX.dropN 5 (by kernel_rfl) rfl)
          refine Tr.thenN ?_
          refine Tr.cond rfl (fun h14 => ?_) (fun h14 => ?_)
          · try simp only [bs] at h14
            refine Tr.seq ?_
            refine Tr.region ?_
            refine Tr.q (QS.lW rfl Try.isAgg36 Try.sizeOf36) rfl ?_
            refine Tr.q (QS.call rfl Try.call88 (fun w hw => access_any i w)) rfl ?_
            refine Tr.q (QS.extract rfl rfl) rfl ?_
            refine Tr.q (QS.extract rfl rfl) rfl ?_
            refine Tr.q (QS.extract rfl rfl) rfl ?_
            refine Tr.q (QS.assign rfl) rfl ?_
            refine Tr.q (QS.assign rfl) rfl ?_
            refine Tr.q (QS.assign rfl) rfl ?_
            refine Tr.nil ?_
            refine Tr.thenN ?_
            refine Tr.ret ?_
            refine Tr.inR ?_
            refine Tr.thenR ?_
            refine Tr.ret3 Try.results60 rfl rfl rfl (fun w' hw => ?_)
            exact ⟨by unfold opcodeP; (repeat (first | rw [if_pos (by omega)] | rw [if_neg (by omega)])) <;> rfl, hw.below (Bg.le.refl _)⟩
          · try simp only [bs] at h14
            refine Tr.seq ?_
            refine Tr.region ?_
            refine Tr.q (QS.fieldAddr (off := 2) (ft := 3) rfl Try.underlying36 rfl rfl Try.sizeOf3 (by decide)) rfl ?_
            refine Tr.q (QS.lV rfl Try.isAgg3) rfl ?_
            refine Tr.q (QS.eql rfl rfl) rfl ?_
            refine Tr.q (QS.assign rfl) rfl ?_
            refine Tr.nil ?_
            refine Tr.thenN ?_
            refine Tr.cond rfl (fun h15 => ?_) (fun h15 => ?_)
            · try simp only [bs] at h15
              refine Tr.seq ?_
              refine Tr.region ?_
              refine Tr.q (QS.assign rfl) rfl ?_
              refine Tr.q (QS.assign rfl) rfl ?_
              refine Tr.q (QS.assign rfl) rfl ?_
              refine Tr.nil ?_
              refine Tr.thenN ?_
              refine Tr.ret ?_
              refine Tr.inR ?_
              refine Tr.thenR ?_
              refine Tr.ret3 Try.results60 rfl rfl rfl (fun w' hw => ?_)
              exact ⟨by unfold opcodeP; (repeat (first | rw [if_pos (by omega)] | rw [if_neg (by omega)])) <;> rfl, hw.below (Bg.le.refl _)⟩
            · try simp only [bs] at h15
              refine Tr.seq ?_
              refine Tr.region ?_
              refine Tr.q (QS.fieldAddr (off := 2) (ft := 3) rfl Try.underlying36 rfl rfl Try.sizeOf3 (by decide)) rfl ?_
              refine Tr.q (QS.lV rfl Try.isAgg3) rfl ?_
              refine Tr.q (QS.eql rfl rfl) rfl ?_
              refine Tr.q (QS.move rfl) rfl ?_
              apply Tr.orP
              · exact (rfl : _ = (4, 87, 91))
              · exact rfl
              · intro hF16; have hF16' := hF16
                try simp only [bs] at hF16'
                refine Tr.gq rfl rfl hF16 (QS.fieldAddr (off := 2) (ft := 3) rfl Try.underlying36 rfl rfl Try.sizeOf3 (by decide)) rfl ?_
                refine Tr.gq rfl rfl hF16 (QS.lV rfl Try.isAgg3) rfl ?_
                refine Tr.gq rfl rfl hF16 (QS.eql rfl rfl) rfl ?_
                refine Tr.q (QS.pickF rfl hF16 rfl) rfl ?_
                refine Tr.nil (Tr.thenN ?_)
                exact Tr.endX (Sub.cons rfl (Sub.dropN 4 (by kernel_rfl) rfl))
              · intro hT16
                refine Tr.gskip rfl rfl hT16 rfl ?_
                refine Tr.gskip rfl rfl hT16 rfl ?_
                refine Tr.gskip rfl rfl hT16 rfl ?_
                refine Tr.q (QS.pickT rfl hT16 rfl) rfl ?_
                refine Tr.nil (Tr.thenN ?_)
                exact Tr.endX (Sub.cons rfl (Sub.dropN 4 (by kernel_rfl) rfl))
              refine Tr.q (QS.assign rfl) rfl ?_
              refine Tr.nil ?_
              refine Tr.thenN ?_
              refine Tr.cond rfl (fun h17 => ?_) (fun h17 => ?_)
              · try simp only [bs] at h17
                refine Tr.seq ?_
                refine Tr.region ?_
                refine Tr.q (QS.lW rfl Try.isAgg36 Try.sizeOf36) rfl ?_
                refine Tr.q (QS.call rfl Try.call89 (fun w hw => conditional_any i w)) rfl ?_
                refine Tr.q (QS.extract rfl rfl) rfl ?_
                refine Tr.q (QS.extract rfl rfl) rfl ?_
                refine Tr.q (QS.extract rfl rfl) rfl ?_
                refine Tr.q (QS.assign rfl) rfl ?_
                refine Tr.q (QS.assign rfl) rfl ?_
                refine Tr.q (QS.assign rfl) rfl ?_
                refine Tr.nil ?_
                refine Tr.thenN ?_
                refine Tr.ret ?_
                refine Tr.inR ?_
                refine Tr.thenR ?_
                refine Tr.ret3 Try.results60 rfl rfl rfl (fun w' hw => ?_)
                exact ⟨by unfold opcodeP; (repeat (first | rw [if_pos (by omega)] | rw [if_neg (by omega)])) <;> rfl, hw.below (Bg.le.refl _)⟩
              · try simp only [bs] at h17
                refine Tr.seq ?_
                refine Tr.region ?_
                refine Tr.q (QS.fieldAddr (off := 2) (ft := 3) rfl Try.underlying36 rfl rfl Try.sizeOf3 (by decide)) rfl ?_
                refine Tr.q (QS.lV rfl Try.isAgg3) rfl ?_
                refine Tr.q (QS.eql rfl rfl) rfl ?_
                refine Tr.q (QS.assign rfl) rfl ?_
                refine Tr.nil ?_
                refine Tr.thenN ?_
                refine Tr.cond rfl (fun h18 => ?_) (fun h18 => ?_)
                · try simp only [bs] at h18
                  refine Tr.seq ?_
                  refine Tr.region ?_
                  refine Tr.q (QS.assign rfl) rfl ?_
                  refine Tr.q (QS.assign rfl) rfl ?_
                  refine Tr.q (QS.assign rfl) rfl ?_
                  refine Tr.nil ?_
                  refine Tr.thenN ?_
                  refine Tr.ret ?_
                  refine Tr.inR ?_
                  refine Tr.thenR ?_
                  refine Tr.ret3 Try.results60 rfl rfl rfl (fun w' hw => ?_)
                  exact ⟨by unfold opcodeP; (repeat (first | rw [if_pos (by omega)] | rw [if_neg (by omega)])) <;> rfl, hw.below (Bg.le.refl _)⟩
                · try simp only [bs] at h18
                  refine Tr.seq ?_
                  refine Tr.region ?_
                  refine Tr.q (QS.fieldAddr (off := 2) (ft := 3) rfl Try.underlying36 rfl rfl Try.sizeOf3 (by decide)) rfl ?_
                  refine Tr.q (QS.lV rfl Try.isAgg3) rfl ?_
                  refine Tr.q (QS.eql rfl rfl) rfl ?_
                  refine Tr.q (QS.assign rfl) rfl ?_
                  refine Tr.nil ?_
                  refine Tr.thenN ?_
                  refine Tr.cond rfl (fun h19 => ?_) (fun h19 => ?_)
                  · try simp only [bs] at h19
                    refine Tr.seq ?_
                    refine Tr.region ?_
                    refine Tr.q (QS.assign rfl) rfl ?_
                    refine Tr.q (QS.assign rfl) rfl ?_
                    refine Tr.q (QS.assign rfl) rfl ?_
                    refine Tr.nil ?_
                    refine Tr.thenN ?_
                    refine Tr.ret ?_
                    refine Tr.inR ?_
                    refine Tr.thenR ?_
                    refine Tr.ret3 Try.results60 rfl rfl rfl (fun w' hw => ?_)
                    exact ⟨by unfold opcodeP; (repeat (first | rw [if_pos (by omega)] | rw [if_neg (by omega)])) <;> rfl, hw.below (Bg.le.refl _)⟩
                  · try simp only [bs] at h19
                    refine Tr.seq ?_
                    refine Tr.region ?_
                    refine Tr.q (QS.fieldAddr (off := 2) (ft := 3) rfl Try.underlying36 rfl rfl Try.sizeOf3 (by decide)) rfl ?_
                    refine Tr.q (QS.lV rfl Try.isAgg3) rfl ?_
                    refine Tr.q (QS.eql rfl rfl) rfl ?_
                    refine Tr.q (QS.assign rfl) rfl ?_
                    refine Tr.nil ?_
                    refine Tr.thenN ?_
                    refine Tr.cond rfl (fun h20 => ?_) (fun h20 => ?_)
                    · try simp only [bs] at h20
                      refine Tr.seq ?_
                      refine Tr.region ?_
                      refine Tr.q (QS.assign rfl) rfl ?_
                      refine Tr.q (QS.assign rfl) rfl ?_
                      refine Tr.q (QS.assign rfl) rfl ?_
                      refine Tr.nil ?_
                      refine Tr.thenN ?_
                      refine Tr.ret ?_
                      refine Tr.inR ?_
                      refine Tr.thenR ?_
                      refine Tr.ret3 Try.results60 rfl rfl rfl (fun w' hw => ?_)
                      exact ⟨by unfold opcodeP; (repeat (first | rw [if_pos (by omega)] | rw [if_neg (by omega)])) <;> rfl, hw.below (Bg.le.refl _)⟩
                    · try simp only [bs] at h20
                      refine Tr.seq ?_
                      refine Tr.region ?_
                      refine Tr.q (QS.fieldAddr (off := 2) (ft := 3) rfl Try.underlying36 rfl rfl Try.sizeOf3 (by decide)) rfl ?_
                      refine Tr.q (QS.lV rfl Try.isAgg3) rfl ?_
                      refine Tr.q (QS.eql rfl rfl) rfl ?_
                      refine Tr.q (QS.assign rfl) rfl ?_
                      refine Tr.nil ?_
                      refine Tr.thenN ?_
                      refine Tr.cond rfl (fun h21 => ?_) (fun h21 => ?_)
                      · try simp only [bs] at h21
                        refine Tr.seq ?_
                        refine Tr.region ?_
                        refine Tr.q (QS.assign rfl) rfl ?_
                        refine Tr.q (QS.assign rfl) rfl ?_
                        refine Tr.q (QS.assign rfl) rfl ?_
                        refine Tr.nil ?_
                        refine Tr.thenN ?_
                        refine Tr.ret ?_
                        refine Tr.inR ?_
                        refine Tr.thenR ?_
                        refine Tr.ret3 Try.results60 rfl rfl rfl (fun w' hw => ?_)
                        exact ⟨by unfold opcodeP; (repeat (first | rw [if_pos (by omega)] | rw [if_neg (by omega)])) <;> rfl, hw.below (Bg.le.refl _)⟩
                      · try simp only [bs] at h21
                        refine Tr.seq ?_
                        refine Tr.region ?_
                        refine Tr.q (QS.fieldAddr (off := 2) (ft := 3) rfl Try.underlying36 rfl rfl Try.sizeOf3 (by decide)) rfl ?_
                        refine Tr.q (QS.lV rfl Try.isAgg3) rfl ?_
                        refine Tr.q (QS.eql rfl rfl) rfl ?_
                        refine Tr.q (QS.assign rfl) rfl ?_
                        refine Tr.nil ?_
                        refine Tr.thenN ?_
                        refine Tr.cond rfl (fun h22 => ?_) (fun h22 => ?_)
                        · try simp only [bs] at h22
                          refine Tr.seq ?_
                          refine Tr.region ?_
                          refine Tr.q (QS.assign rfl) rfl ?_
                          refine Tr.q (QS.assign rfl) rfl ?_
                          refine Tr.q (QS.assign rfl) rfl ?_
                          refine Tr.nil ?_
                          refine Tr.thenN ?_
                          refine Tr.ret ?_
                          refine Tr.inR ?_
                          refine Tr.thenR ?_
                          refine Tr.ret3 Try.results60 rfl rfl rfl (fun w' hw => ?_)
                          exact ⟨by unfold opcodeP; (repeat (first | rw [if_pos (by omega)] | rw [if_neg (by omega)])) <;> rfl, hw.below (Bg.le.refl _)⟩
                        · try simp only [bs] at h22
                          refine Tr.seq ?_
                          refine Tr.region ?_
                          refine Tr.q (QS.fieldAddr (off := 2) (ft := 3) rfl Try.underlying36 rfl rfl Try.sizeOf3 (by decide)) rfl ?_
                          refine Tr.q (QS.lV rfl Try.isAgg3) rfl ?_
                          refine Tr.q (QS.eql rfl rfl) rfl ?_
                          refine Tr.q (QS.assign rfl) rfl ?_
                          refine Tr.nil ?_
                          refine Tr.thenN ?_
                          refine Tr.cond rfl (fun h23 => ?_) (fun h23 => ?_)
                          · try simp only [bs] at h23
                            refine Tr.seq ?_
                            refine Tr.region ?_
                            refine Tr.q (QS.assign rfl) rfl ?_
                            refine Tr.q (QS.assign rfl) rfl ?_
                            refine Tr.q (QS.assign rfl) rfl ?_
                            refine Tr.nil ?_
                            refine Tr.thenN ?_
                            refine Tr.ret ?_
                            refine Tr.inR ?_
                            refine Tr.thenR ?_
                            refine Tr.ret3 Try.results60 rfl rfl rfl (fun w' hw => ?_)
                            exact ⟨by unfold opcodeP; (repeat (first | rw [if_pos (by omega)] | rw [if_neg (by omega)])) <;> rfl, hw.below (Bg.le.refl _)⟩
                          · try simp only [bs] at h23
                            refine Tr.skip ?_
                            refine Tr.inN ?_
                            refine Tr.thenN ?_
                            refine Tr.seq ?_
                            refine Tr.region ?_
                            refine Tr.q (QS.assign rfl) rfl ?_
                            refine Tr.q (QS.assign rfl) rfl ?_
                            refine Tr.q (QS.assign rfl) rfl ?_
                            refine Tr.nil ?_
                            refine Tr.thenN ?_
                            refine Tr.ret ?_
                            refine Tr.ret3 Try.results60 rfl rfl rfl (fun w' hw => ?_)
                            exact ⟨by unfold opcodeP; (repeat (first | rw [if_pos (by omega)] | rw [if_neg (by omega)])) <;> rfl, hw.below (Bg.le.refl _)⟩
set_option maxRecDepth 100000 in
set_option maxHeartbeats 2000000 in
theorem size_any (s : Int) (w : World) (hs : 0 ≤ s ∧ s ≤ 8) :
    Calls Try.prog 55 #[.int .i64 s] w (fun e w' => e = .returned (.int .i64 (sizeP s)) ∧ Ext w w') := by
  refine enter Try.func55 rfl Try.ntmps55 rfl ?_
  refine Tr.seq ?_
  refine Tr.region ?_
  refine Tr.q (QS.assign rfl) rfl ?_
  refine Tr.nil ?_
  refine Tr.thenN ?_
  refine Tr.seq ?_
  refine Tr.region ?_
  refine Tr.q (QS.move rfl) rfl ?_
  refine Tr.q (QS.strIdx rfl rfl Try.underlying9 (by refine ⟨by omega, ?_⟩; show s < 9; omega)) rfl ?_
  refine Tr.q (QS.sub8 (n := 48) rfl rfl) rfl ?_
  refine Tr.q (QS.cvt8toI rfl Try.underlying5 Try.underlying3) rfl ?_
  refine Tr.q (QS.assign rfl) rfl ?_
  refine Tr.nil ?_
  refine Tr.thenN ?_
  refine Tr.ret ?_
  refine Tr.ret1 Try.results55 rfl (fun w' hw => ?_)
  exact ⟨by obtain rfl | rfl | rfl | rfl | rfl | rfl | rfl | rfl | rfl : s = 0 ∨ s = 1 ∨ s = 2 ∨ s = 3 ∨ s = 4 ∨ s = 5 ∨ s = 6 ∨ s = 7 ∨ s = 8 := (by omega) <;> rfl, hw.below (Bg.le.refl _)⟩
set_option maxRecDepth 100000 in
set_option maxHeartbeats 2000000 in
theorem extend_any (a : UInt32) (k : Int) (w : World) :
    Calls Try.prog 61 #[.int .u32 a.toNat, .int .i64 k] w (fun e w' => e = .returned (.int .u32 (extP a k).toNat) ∧ Ext w w') := by
  refine enter Try.func61 rfl Try.ntmps61 rfl ?_
  refine Tr.seq ?_
  refine Tr.region ?_
  refine Tr.q (QS.assign rfl) rfl ?_
  refine Tr.nil ?_
  refine Tr.thenN ?_
  refine Tr.seq ?_
  refine Tr.seq ?_
  refine Tr.region ?_
  refine Tr.q (QS.move rfl) rfl ?_
  refine Tr.nil ?_
  refine Tr.thenN ?_
  refine Tr.block ?_
  refine Tr.seq ?_
  refine Tr.region ?_
  refine Tr.q (QS.eql rfl rfl) rfl ?_
  refine Tr.q (QS.assign rfl) rfl ?_
  refine Tr.nil ?_
  refine Tr.thenN ?_
  refine Tr.cond rfl (fun h1 => ?_) (fun h1 => ?_)
  · try simp only [bs] at h1
    refine Tr.seq ?_
    refine Tr.region ?_
    refine Tr.q (QS.move rfl) rfl ?_
    refine Tr.q (QS.cvt rfl Try.underlying23 Try.underlying123) rfl ?_
    refine Tr.q (QS.cvtTo32 rfl Try.underlying123 Try.underlying23) rfl ?_
    refine Tr.q (QS.assign rfl) rfl ?_
    refine Tr.nil ?_
    refine Tr.thenN ?_
    refine Tr.ret ?_
    refine Tr.inR ?_
    refine Tr.thenR ?_
    refine Tr.ret1 Try.results61 rfl (fun w' hw => ?_)
    exact ⟨by unfold extP; (repeat (first | rw [if_pos (by omega)] | rw [if_neg (by omega)])) <;> rfl, hw.below (Bg.le.refl _)⟩
  · try simp only [bs] at h1
    refine Tr.seq ?_
    refine Tr.region ?_
    refine Tr.q (QS.eql rfl rfl) rfl ?_
    refine Tr.q (QS.assign rfl) rfl ?_
    refine Tr.nil ?_
    refine Tr.thenN ?_
    refine Tr.cond rfl (fun h2 => ?_) (fun h2 => ?_)
    · try simp only [bs] at h2
      refine Tr.seq ?_
      refine Tr.region ?_
      refine Tr.q (QS.move rfl) rfl ?_
      refine Tr.q (QS.cvt rfl Try.underlying23 Try.underlying124) rfl ?_
      refine Tr.q (QS.cvtTo32 rfl Try.underlying124 Try.underlying23) rfl ?_
      refine Tr.q (QS.assign rfl) rfl ?_
      refine Tr.nil ?_
      refine Tr.thenN ?_
      refine Tr.ret ?_
      refine Tr.inR ?_
      refine Tr.thenR ?_
      refine Tr.ret1 Try.results61 rfl (fun w' hw => ?_)
      exact ⟨by unfold extP; (repeat (first | rw [if_pos (by omega)] | rw [if_neg (by omega)])) <;> rfl, hw.below (Bg.le.refl _)⟩
    · try simp only [bs] at h2
      refine Tr.skip ?_
      refine Tr.inN ?_
      refine Tr.thenN ?_
      refine Tr.seq ?_
      refine Tr.region ?_
      refine Tr.q (QS.move rfl) rfl ?_
      refine Tr.q (QS.assign rfl) rfl ?_
      refine Tr.nil ?_
      refine Tr.thenN ?_
      refine Tr.ret ?_
      refine Tr.ret1 Try.results61 rfl (fun w' hw => ?_)
      exact ⟨by unfold extP; (repeat (first | rw [if_pos (by omega)] | rw [if_neg (by omega)])) <;> rfl, hw.below (Bg.le.refl _)⟩
end Go.Proofs.Ytfnedefgepjbpaa
namespace Go.Proofs.Ytfnedefgepjbpaa
open Go Go.HL Go.RowKit
set_option maxRecDepth 100000 in
set_option maxHeartbeats 2000000 in
theorem row_isa (c : UInt8) (w : World) :
    Calls Try.prog 59 #[.int .u8 c.toNat] w (fun e w' => e = .returned (.tuple #[.agg (encIns.enc (rowP c).1).toArray, .bool (rowP c).2]) ∧ Ext w w') := by
  have hc1 := c.toNat_lt
  have hc2 : (c % 16).toNat = c.toNat % 16 := by rw [UInt8.toNat_mod]; rfl
  have hc3 : (c / 16).toNat = c.toNat / 16 := by rw [UInt8.toNat_div]; rfl
  refine enter Try.func59 rfl Try.ntmps59 rfl ?_
  refine Tr.seq ?_
  refine Tr.region ?_
  refine Tr.alloc Try.zeroValue36 rfl rfl (fun b1 => ?_)
  refine Tr.q (QS.assign rfl) rfl ?_
  refine Tr.nil ?_
  refine Tr.thenN ?_
  refine Tr.scope ?_
  refine Tr.seq ?_
  refine Tr.region ?_
  refine Tr.q (QS.move rfl) rfl ?_
  refine Tr.q (QS.shr8c4 rfl rfl) rfl ?_
  refine Tr.q (QS.cvt8toI rfl Try.underlying5 Try.underlying3) rfl ?_
  refine Tr.q (QS.move rfl) rfl ?_
  refine Tr.q (QS.and8c15 rfl rfl) rfl ?_
  refine Tr.q (QS.cvt8toI rfl Try.underlying5 Try.underlying3) rfl ?_
  refine Tr.q (QS.assign rfl) rfl ?_
  refine Tr.q (QS.assign rfl) rfl ?_
  refine Tr.nil ?_
  refine Tr.thenN ?_
  refine Tr.seq ?_
  refine Tr.block ?_
  refine Tr.seq ?_
  refine Tr.region ?_
  refine Tr.q (QS.move rfl) rfl ?_
  refine Tr.q (QS.leq8 (n := 2) rfl rfl) rfl ?_
  refine Tr.q (QS.assign rfl) rfl ?_
  refine Tr.nil ?_
  refine Tr.thenN ?_
  refine Tr.cond rfl (fun h2 => ?_) (fun h2 => ?_)
  · try simp only [bs] at h2
    refine Tr.seq ?_
    refine Tr.region ?_
    refine Tr.q (QS.move rfl) rfl ?_
    refine Tr.q (QS.cvt8toI rfl Try.underlying5 Try.underlying3) rfl ?_
    refine Tr.q (QS.build (vs := [(2, _)]) rfl rfl (HLF.built36_2 _)) rfl ?_
    refine Tr.storeW rfl rfl Try.sizeOf36 (by repeat (first | exact Put.here _ | apply Put.there)) (by rfl) (by rfl) (by first | exact List.all_eq_true.1 rfl | exact Enc.one _ _ | exact Enc.one encIns _) rfl ?_
    refine Tr.q (QS.assign rfl) rfl ?_
    refine Tr.nil ?_
    refine Tr.thenN ?_
    refine Tr.ret ?_
    refine Tr.inR ?_
    refine Tr.thenR ?_
    refine Tr.scopeR ?_
    refine Tr.retC2 Try.results59 rfl rfl (by repeat (first | exact List.Mem.head _ | apply List.Mem.tail)) Try.isAgg36 Try.sizeOf36 (by rfl) (fun w' hw => ?_)
    exact ⟨by clear hw; unfold rowP; (repeat (first | rw [if_pos (by first | assumption | omega)] | rw [if_neg (by first | assumption | omega | (intro hq; simp_all))])) <;> rfl, hw.below (Bg.le.refl _)⟩
  · try simp only [bs] at h2
    refine Tr.seq ?_
    refine Tr.region ?_
    refine Tr.q (QS.move rfl) rfl ?_
    refine Tr.q (QS.geq8 (n := 8) rfl rfl) rfl ?_
    refine Tr.q (QS.move rfl) rfl ?_
    apply Tr.andP
    · exact (rfl : _ = (3, 29, 32))
    · exact rfl
    · intro hT3; have hT3' := hT3
      try simp only [bs] at hT3'
      refine Tr.gq rfl rfl hT3 (QS.move rfl) rfl ?_
      refine Tr.gq rfl rfl hT3 (QS.lss8 (n := 16) rfl rfl) rfl ?_
      refine Tr.q (QS.pickT rfl hT3 rfl) rfl ?_
      refine Tr.nil (Tr.thenN ?_)
      exact Tr.endX (Sub.cons rfl (Sub.dropN 3 (by kernel_rfl) rfl))
    · intro hF3
      refine Tr.gskip rfl rfl hF3 rfl ?_
      refine Tr.gskip rfl rfl hF3 rfl ?_
      refine Tr.q (QS.pickF rfl hF3 rfl) rfl ?_
      refine Tr.nil (Tr.thenN ?_)
      exact Tr.endX (Sub.cons rfl (Sub.dropN 3 (by kernel_rfl) rfl))
    refine Tr.q (QS.assign rfl) rfl ?_
    refine Tr.nil ?_
    refine Tr.thenN ?_
    refine Tr.cond rfl (fun h4 => ?_) (fun h4 => ?_)
    · try simp only [bs] at h4
      refine Tr.seq ?_
      refine Tr.region ?_
      refine Tr.q (QS.move rfl) rfl ?_
      refine Tr.q (QS.subI rfl rfl (by omega)) rfl ?_
      refine Tr.q (QS.build (vs := [(2, _), (6, _)]) rfl rfl (HLF.built36_2_6 _ _)) rfl ?_
      refine Tr.storeW rfl rfl Try.sizeOf36 (by repeat (first | exact Put.here _ | apply Put.there)) (by rfl) (by rfl) (by first | exact List.all_eq_true.1 rfl | exact Enc.one _ _ | exact Enc.one encIns _) rfl ?_
      refine Tr.q (QS.assign rfl) rfl ?_
      refine Tr.nil ?_
      refine Tr.thenN ?_
      refine Tr.ret ?_
      refine Tr.inR ?_
      refine Tr.thenR ?_
      refine Tr.scopeR ?_
      refine Tr.retC2 Try.results59 rfl rfl (by repeat (first | exact List.Mem.head _ | apply List.Mem.tail)) Try.isAgg36 Try.sizeOf36 (by rfl) (fun w' hw => ?_)
      exact ⟨by clear hw; unfold rowP; (repeat (first | rw [if_pos (by first | assumption | omega)] | rw [if_neg (by first | assumption | omega | (intro hq; simp_all))])) <;> rfl, hw.below (Bg.le.refl _)⟩
    · try simp only [bs] at h4
      refine Tr.seq ?_
      refine Tr.region ?_
      refine Tr.q (QS.move rfl) rfl ?_
      refine Tr.q (QS.geq8 (n := 16) rfl rfl) rfl ?_
      refine Tr.q (QS.move rfl) rfl ?_
      apply Tr.andP
      · exact (rfl : _ = (3, 39, 42))
      · exact rfl
      · intro hT5; have hT5' := hT5
        try simp only [bs] at hT5'
        refine Tr.gq rfl rfl hT5 (QS.move rfl) rfl ?_
        refine Tr.gq rfl rfl hT5 (QS.lss8 (n := 24) rfl rfl) rfl ?_
        refine Tr.q (QS.pickT rfl hT5 rfl) rfl ?_
        refine Tr.nil (Tr.thenN ?_)
        exact Tr.endX (Sub.cons rfl (Sub.dropN 3 (by kernel_rfl) rfl))
      · intro hF5
        refine Tr.gskip rfl rfl hF5 rfl ?_
        refine Tr.gskip rfl rfl hF5 rfl ?_
        refine Tr.q (QS.pickF rfl hF5 rfl) rfl ?_
        refine Tr.nil (Tr.thenN ?_)
        exact Tr.endX (Sub.cons rfl (Sub.dropN 3 (by kernel_rfl) rfl))
      refine Tr.q (QS.assign rfl) rfl ?_
      refine Tr.nil ?_
      refine Tr.thenN ?_
      refine Tr.cond rfl (fun h6 => ?_) (fun h6 => ?_)
      · try simp only [bs] at h6
        refine Tr.seq ?_
        refine Tr.region ?_
        refine Tr.q (QS.move rfl) rfl ?_
        refine Tr.q (QS.build (vs := [(2, _), (6, _)]) rfl rfl (HLF.built36_2_6 _ _)) rfl ?_
        refine Tr.storeW rfl rfl Try.sizeOf36 (by repeat (first | exact Put.here _ | apply Put.there)) (by rfl) (by rfl) (by first | exact List.all_eq_true.1 rfl | exact Enc.one _ _ | exact Enc.one encIns _) rfl ?_
        refine Tr.q (QS.assign rfl) rfl ?_
        refine Tr.nil ?_
        refine Tr.thenN ?_
        refine Tr.ret ?_
        refine Tr.inR ?_
        refine Tr.thenR ?_
        refine Tr.scopeR ?_
        refine Tr.retC2 Try.results59 rfl rfl (by repeat (first | exact List.Mem.head _ | apply List.Mem.tail)) Try.isAgg36 Try.sizeOf36 (by rfl) (fun w' hw => ?_)
        exact ⟨by clear hw; unfold rowP; (repeat (first | rw [if_pos (by first | assumption | omega)] | rw [if_neg (by first | assumption | omega | (intro hq; simp_all))])) <;> rfl, hw.below (Bg.le.refl _)⟩
      · try simp only [bs] at h6
        refine Tr.seq ?_
        refine Tr.region ?_
        refine Tr.q (QS.move rfl) rfl ?_
        refine Tr.q (QS.geq rfl rfl) rfl ?_
        refine Tr.q (QS.move rfl) rfl ?_
        apply Tr.andP
        · exact (rfl : _ = (3, 48, 51))
        · exact rfl
        · intro hT7; have hT7' := hT7
          try simp only [bs] at hT7'
          refine Tr.gq rfl rfl hT7 (QS.move rfl) rfl ?_
          refine Tr.gq rfl rfl hT7 (QS.leq rfl rfl) rfl ?_
          refine Tr.q (QS.pickT rfl hT7 rfl) rfl ?_
          refine Tr.nil (Tr.thenN ?_)
          exact Tr.endX (Sub.cons rfl (Sub.dropN 3 (by kernel_rfl) rfl))
        · intro hF7
          refine Tr.gskip rfl rfl hF7 rfl ?_
          refine Tr.gskip rfl rfl hF7 rfl ?_
          refine Tr.q (QS.pickF rfl hF7 rfl) rfl ?_
          refine Tr.nil (Tr.thenN ?_)
          exact Tr.endX (Sub.cons rfl (Sub.dropN 3 (by kernel_rfl) rfl))
        refine Tr.q (QS.move rfl) rfl ?_
        apply Tr.andP
        · exact (rfl : _ = (3, 52, 55))
        · exact rfl
        · intro hT8; have hT8' := hT8
          try simp only [bs] at hT8'
          refine Tr.gq rfl rfl hT8 (QS.move rfl) rfl ?_
          refine Tr.gq rfl rfl hT8 (QS.leq rfl rfl) rfl ?_
          refine Tr.q (QS.pickT rfl hT8 rfl) rfl ?_
          refine Tr.nil (Tr.thenN ?_)
          exact Tr.endX (Sub.cons rfl (Sub.dropN 3 (by kernel_rfl) rfl))
        · intro hF8
          refine Tr.gskip rfl rfl hF8 rfl ?_
          refine Tr.gskip rfl rfl hF8 rfl ?_
          refine Tr.q (QS.pickF rfl hF8 rfl) rfl ?_
          refine Tr.nil (Tr.thenN ?_)
          exact Tr.endX (Sub.cons rfl (Sub.dropN 3 (by kernel_rfl) rfl))
        refine Tr.q (QS.assign rfl) rfl ?_
        refine Tr.nil ?_
        refine Tr.thenN ?_
        refine Tr.cond rfl (fun h9 => ?_) (fun h9 => ?_)
        · try simp only [bs] at h9
          refine Tr.seq ?_
          refine Tr.region ?_
          refine Tr.q (QS.move rfl) rfl ?_
          refine Tr.q (QS.addI rfl rfl (by omega)) rfl ?_
          refine Tr.q (QS.move rfl) rfl ?_
          refine Tr.q (QS.subI rfl rfl (by omega)) rfl ?_
          refine Tr.q (QS.build (vs := [(2, _), (3, _)]) rfl rfl (HLF.built36_2_3 _ _)) rfl ?_
          refine Tr.storeW rfl rfl Try.sizeOf36 (by repeat (first | exact Put.here _ | apply Put.there)) (by rfl) (by rfl) (by first | exact List.all_eq_true.1 rfl | exact Enc.one _ _ | exact Enc.one encIns _) rfl ?_
          refine Tr.q (QS.assign rfl) rfl ?_
          refine Tr.nil ?_
          refine Tr.thenN ?_
          refine Tr.ret ?_
          refine Tr.inR ?_
          refine Tr.thenR ?_
          refine Tr.scopeR ?_
          refine Tr.retC2 Try.results59 rfl rfl (by repeat (first | exact List.Mem.head _ | apply List.Mem.tail)) Try.isAgg36 Try.sizeOf36 (by rfl) (fun w' hw => ?_)
          exact ⟨by clear hw; unfold rowP; (repeat (first | rw [if_pos (by first | assumption | omega)] | rw [if_neg (by first | assumption | omega | (intro hq; simp_all))])) <;> rfl, hw.below (Bg.le.refl _)⟩
        · try simp only [bs] at h9
          refine Tr.seq ?_
          refine Tr.region ?_
          refine Tr.q (QS.move rfl) rfl ?_
          refine Tr.q (QS.eql rfl rfl) rfl ?_
          refine Tr.q (QS.move rfl) rfl ?_
          apply Tr.andP
          · exact (rfl : _ = (3, 64, 67))
          · exact rfl
          · intro hT10; have hT10' := hT10
            try simp only [bs] at hT10'
            refine Tr.gq rfl rfl hT10 (QS.move rfl) rfl ?_
            refine Tr.gq rfl rfl hT10 (QS.leq rfl rfl) rfl ?_
            refine Tr.q (QS.pickT rfl hT10 rfl) rfl ?_
            refine Tr.nil (Tr.thenN ?_)
            exact Tr.endX (Sub.cons rfl (Sub.dropN 3 (by kernel_rfl) rfl))
          · intro hF10
            refine Tr.gskip rfl rfl hF10 rfl ?_
            refine Tr.gskip rfl rfl hF10 rfl ?_
            refine Tr.q (QS.pickF rfl hF10 rfl) rfl ?_
            refine Tr.nil (Tr.thenN ?_)
            exact Tr.endX (Sub.cons rfl (Sub.dropN 3 (by kernel_rfl) rfl))
          refine Tr.q (QS.assign rfl) rfl ?_
          refine Tr.nil ?_
          refine Tr.thenN ?_
          refine Tr.cond rfl (fun h11 => ?_) (fun h11 => ?_)
          · try simp only [bs] at h11
            refine Tr.seq ?_
            refine Tr.region ?_
            refine Tr.q (QS.move rfl) rfl ?_
            refine Tr.q (QS.build (vs := [(2, _), (3, _), (5, _)]) rfl rfl (HLF.built36_2_3_5 _ _ _)) rfl ?_
            refine Tr.storeW rfl rfl Try.sizeOf36 (by repeat (first | exact Put.here _ | apply Put.there)) (by rfl) (by rfl) (by first | exact List.all_eq_true.1 rfl | exact Enc.one _ _ | exact Enc.one encIns _) rfl ?_
            refine Tr.q (QS.assign rfl) rfl ?_
            refine Tr.nil ?_
            refine Tr.thenN ?_
            refine Tr.ret ?_
            refine Tr.inR ?_
            refine Tr.thenR ?_
            refine Tr.scopeR ?_
            refine Tr.retC2 Try.results59 rfl rfl (by repeat (first | exact List.Mem.head _ | apply List.Mem.tail)) Try.isAgg36 Try.sizeOf36 (by rfl) (fun w' hw => ?_)
            exact ⟨by clear hw; unfold rowP; (repeat (first | rw [if_pos (by first | assumption | omega)] | rw [if_neg (by first | assumption | omega | (intro hq; simp_all))])) <;> rfl, hw.below (Bg.le.refl _)⟩
          · try simp only [bs] at h11
            refine Tr.seq ?_
            refine Tr.region ?_
            refine Tr.q (QS.move rfl) rfl ?_
            refine Tr.q (QS.eql rfl rfl) rfl ?_
            refine Tr.q (QS.move rfl) rfl ?_
            apply Tr.andP
            · exact (rfl : _ = (3, 73, 76))
            · exact rfl
            · intro hT12; have hT12' := hT12
              try simp only [bs] at hT12'
              refine Tr.gq rfl rfl hT12 (QS.move rfl) rfl ?_
              refine Tr.gq rfl rfl hT12 (QS.leq rfl rfl) rfl ?_
              refine Tr.q (QS.pickT rfl hT12 rfl) rfl ?_
              refine Tr.nil (Tr.thenN ?_)
              exact Tr.endX (Sub.cons rfl (Sub.dropN 3 (by kernel_rfl) rfl))
            · intro hF12
              refine Tr.gskip rfl rfl hF12 rfl ?_
              refine Tr.gskip rfl rfl hF12 rfl ?_
              refine Tr.q (QS.pickF rfl hF12 rfl) rfl ?_
              refine Tr.nil (Tr.thenN ?_)
              exact Tr.endX (Sub.cons rfl (Sub.dropN 3 (by kernel_rfl) rfl))
            refine Tr.q (QS.assign rfl) rfl ?_
            refine Tr.nil ?_
            refine Tr.thenN ?_
            refine Tr.cond rfl (fun h13 => ?_) (fun h13 => ?_)
            · try simp only [bs] at h13
              refine Tr.seq ?_
              refine Tr.region ?_
              refine Tr.q (QS.move rfl) rfl ?_
              refine Tr.q (QS.build (vs := [(2, _), (3, _), (5, _)]) rfl rfl (HLF.built36_2_3_5 _ _ _)) rfl ?_
              refine Tr.storeW rfl rfl Try.sizeOf36 (by repeat (first | exact Put.here _ | apply Put.there)) (by rfl) (by rfl) (by first | exact List.all_eq_true.1 rfl | exact Enc.one _ _ | exact Enc.one encIns _) rfl ?_
              refine Tr.q (QS.assign rfl) rfl ?_
              refine Tr.nil ?_
              refine Tr.thenN ?_
              refine Tr.ret ?_
              refine Tr.inR ?_
              refine Tr.thenR ?_
              refine Tr.scopeR ?_
              refine Tr.retC2 Try.results59 rfl rfl (by repeat (first | exact List.Mem.head _ | apply List.Mem.tail)) Try.isAgg36 Try.sizeOf36 (by rfl) (fun w' hw => ?_)
              exact ⟨by clear hw; unfold rowP; (repeat (first | rw [if_pos (by first | assumption | omega)] | rw [if_neg (by first | assumption | omega | (intro hq; simp_all))])) <;> rfl, hw.below (Bg.le.refl _)⟩
            · try simp only [bs] at h13
              refine Tr.seq ?_
              refine Tr.region ?_
              refine Tr.q (QS.move rfl) rfl ?_
              refine Tr.q (QS.eql rfl rfl) rfl ?_
              refine Tr.q (QS.move rfl) rfl ?_
              apply Tr.andP
              · exact (rfl : _ = (3, 82, 85))
              · exact rfl
              · intro hT14; have hT14' := hT14
                try simp only [bs] at hT14'
                refine Tr.gq rfl rfl hT14 (QS.move rfl) rfl ?_
                refine Tr.gq rfl rfl hT14 (QS.leq rfl rfl) rfl ?_
                refine Tr.q (QS.pickT rfl hT14 rfl) rfl ?_
                refine Tr.nil (Tr.thenN ?_)
                exact Tr.endX (Sub.cons rfl (Sub.dropN 3 (by kernel_rfl) rfl))
              · intro hF14
                refine Tr.gskip rfl rfl hF14 rfl ?_
                refine Tr.gskip rfl rfl hF14 rfl ?_
                refine Tr.q (QS.pickF rfl hF14 rfl) rfl ?_
                refine Tr.nil (Tr.thenN ?_)
                exact Tr.endX (Sub.cons rfl (Sub.dropN 3 (by kernel_rfl) rfl))
              refine Tr.q (QS.assign rfl) rfl ?_
              refine Tr.nil ?_
              refine Tr.thenN ?_
              refine Tr.cond rfl (fun h15 => ?_) (fun h15 => ?_)
              · try simp only [bs] at h15
                refine Tr.seq ?_
                refine Tr.region ?_
                refine Tr.q (QS.move rfl) rfl ?_
                refine Tr.q (QS.build (vs := [(2, _), (5, _)]) rfl rfl (HLF.built36_2_5 _ _)) rfl ?_
                refine Tr.storeW rfl rfl Try.sizeOf36 (by repeat (first | exact Put.here _ | apply Put.there)) (by rfl) (by rfl) (by first | exact List.all_eq_true.1 rfl | exact Enc.one _ _ | exact Enc.one encIns _) rfl ?_
                refine Tr.q (QS.assign rfl) rfl ?_
                refine Tr.nil ?_
                refine Tr.thenN ?_
                refine Tr.ret ?_
                refine Tr.inR ?_
                refine Tr.thenR ?_
                refine Tr.scopeR ?_
                refine Tr.retC2 Try.results59 rfl rfl (by repeat (first | exact List.Mem.head _ | apply List.Mem.tail)) Try.isAgg36 Try.sizeOf36 (by rfl) (fun w' hw => ?_)
                exact ⟨by clear hw; unfold rowP; (repeat (first | rw [if_pos (by first | assumption | omega)] | rw [if_neg (by first | assumption | omega | (intro hq; simp_all))])) <;> rfl, hw.below (Bg.le.refl _)⟩
              · try simp only [bs] at h15
                refine Tr.skip ?_
                refine Tr.inN ?_
                refine Tr.thenN ?_
                refine Tr.seq ?_
                refine Tr.region ?_
                refine Tr.q (QS.build (vs := [(2, _), (4, _)]) rfl rfl (HLF.built36_2_4 _ _)) rfl ?_
                refine Tr.q (QS.build (vs := [(2, _), (4, _)]) rfl rfl (HLF.built36_2_4 _ _)) rfl ?_
                refine Tr.q (QS.build (vs := [(2, _), (4, _)]) rfl rfl (HLF.built36_2_4 _ _)) rfl ?_
                refine Tr.q (QS.build (vs := [(2, _), (4, _)]) rfl rfl (HLF.built36_2_4 _ _)) rfl ?_
                refine Tr.q (QS.build (vs := [(2, _), (4, _)]) rfl rfl (HLF.built36_2_4 _ _)) rfl ?_
                refine Tr.q (QS.build (vs := [(2, _), (4, _)]) rfl rfl (HLF.built36_2_4 _ _)) rfl ?_
                refine Tr.q (QS.build (vs := [(2, _), (4, _)]) rfl rfl (HLF.built36_2_4 _ _)) rfl ?_
                refine Tr.q (QS.build (vs := [(2, _), (4, _)]) rfl rfl (HLF.built36_2_4 _ _)) rfl ?_
                refine Tr.q (QS.build (vs := [(2, _)]) rfl rfl (HLF.built36_2 _)) rfl ?_
                refine Tr.q (QS.build (vs := [(2, _)]) rfl rfl (HLF.built36_2 _)) rfl ?_
                refine Tr.q (QS.build (vs := [(2, _)]) rfl rfl (HLF.built36_2 _)) rfl ?_
                refine Tr.q (QS.build (vs := [(2, _)]) rfl rfl (HLF.built36_2 _)) rfl ?_
                refine Tr.q (QS.build (vs := [(2, _)]) rfl rfl (HLF.built36_2 _)) rfl ?_
                refine Tr.q (QS.build (vs := [(2, _)]) rfl rfl (HLF.built36_2 _)) rfl ?_
                refine Tr.q (QS.build (vs := [(2, _)]) rfl rfl (HLF.built36_2 _)) rfl ?_
                refine Tr.q (QS.build (vs := [(0, _), (1, _), (2, _), (3, _), (4, _), (5, _), (6, _), (7, _), (8, _), (9, _), (10, _), (11, _), (12, _), (13, _), (14, _)]) rfl rfl (HLF.built122_0_1_2_3_4_5_6_7_8_9_10_11_12_13_14 _ _ _ _ _ _ _ _ _ _ _ _ _ _ _ _ _ _ _ _ _ _ _ _ _ _ _ _ _ _ _ _ _ _ _ _ _ _ _ _ _ _ _ _ _ _ _ _ _ _ _ _ _ _ _ _ _ _ _ _ _ _ _ _ _ _ _ _ _ _ _ _ _ _ _ _ _ _ _ _ _ _ _ _ _ _ _ _ _ _ _ _ _ _ _ _ _ _ _ _ _ _ _ _ _ _ _ _ _ _ _ _ _ _ _ _ _ _ _ _ _ _ _ _ _ _ _ _ _ _ _ _ _ _ _)) rfl ?_
                refine Tr.alloc Try.zeroValue122 rfl rfl (fun b16 => ?_)
                refine Tr.storeW rfl rfl Try.sizeOf122 (by repeat (first | exact Put.here _ | apply Put.there)) (by rfl) (by rfl) (by first | exact List.all_eq_true.1 rfl | exact Enc.one _ _ | (intro u hu; simp [Value.cells] at hu; simp_all [Value.oneCell'])) rfl ?_
                refine Tr.nil ?_
                refine Tr.thenN ?_
                refine Tr.seq ?_
                refine Tr.region ?_
                refine Tr.alloc Try.zeroValue36 rfl rfl (fun b17 => ?_)
                refine Tr.nil ?_
                refine Tr.thenN ?_
                refine Tr.seq ?_
                refine Tr.region ?_
                refine Tr.q (QS.assign rfl) rfl ?_
                refine Tr.nil ?_
                refine Tr.thenN ?_
                refine Tr.seq ?_
                refine Tr.label ?_
                refine Tr.thenN ?_
                refine Tr.seq ?_
                refine Tr.seq ?_
                refine Tr.region ?_
                refine Tr.q (QS.lW rfl Try.isAgg122 Try.sizeOf122) rfl ?_
                refine Tr.q (QS.move rfl) rfl ?_
                refine Tr.nil ?_
                refine Tr.thenN ?_
                refine Tr.block ?_
                refine Tr.loop (ι := Nat) (fun k => k ≤ 15 ∧ findPI c (rowsP.drop k) = findPI c rowsP) (fun _ => _) (fun k => [cellE b17 (encIns.enc zeroIns) 36, cellE b1 (encIns.enc zeroIns) 36]) (fun k => [(105, .int .i64 (k : Nat))]) (fun k => 15 - k) 0 ⟨by omega, rfl⟩ (.cons (by first | rfl | exact lookI rfl (by omega) | exact lookI rfl (by simp) | exact lookB rfl (by simp)) Front.nil) (by repeat' (first | exact Pick.nil _ | exact Del.here _ | apply Pick.cons | apply Del.there)) rfl (fun k hi m hm => ?_)
                replace hi : k ≤ 15 ∧ findPI c (rowsP.drop k) = findPI c rowsP := hi
                replace hm : m = 15 - k := hm
                change Tr _ _ [cellE b17 (encIns.enc zeroIns) 36, cellE b1 (encIns.enc zeroIns) 36] ([(105, .int .i64 (k : Nat))] ++ _) _
                obtain ⟨hk1, hk2⟩ := hi
                refine Tr.seq ?_
                refine Tr.region ?_
                refine Tr.q (QS.lss rfl rfl) rfl ?_
                refine Tr.nil ?_
                refine Tr.thenN ?_
                refine Tr.seq ?_
                refine Tr.cond rfl (fun h18 => ?_) (fun h18 => ?_)
                · try simp only [bs] at h18
                  refine Tr.skip ?_
                  refine Tr.thenN ?_
                  refine Tr.seq ?_
                  refine Tr.block ?_
                  refine Tr.seq ?_
                  refine Tr.region ?_
                  refine Tr.q (QS.indexE (E := encIns) rowsP rfl rfl Try.underlying122 Try.sizeOf36 Try.isAgg36 rfl rfl (by omega)) rfl ?_
                  refine Tr.alloc Try.zeroValue36 rfl rfl (fun b19 => ?_)
                  refine Tr.storeW rfl rfl Try.sizeOf36 (by repeat (first | exact Put.here _ | apply Put.there)) (by rfl) (by rfl) (by first | exact List.all_eq_true.1 rfl | exact Enc.one _ _ | exact Enc.one encIns _) rfl ?_
                  refine Tr.nil ?_
                  refine Tr.thenN ?_
                  refine Tr.seq ?_
                  refine Tr.region ?_
                  refine Tr.q (QS.lW rfl Try.isAgg36 Try.sizeOf36) rfl ?_
                  refine Tr.q (QS.call rfl Try.call60 (fun w hw => opcode_any (rowsP.getD k default) w (rows_ok k (by omega)))) rfl ?_
                  refine Tr.q (QS.move rfl) rfl ?_
                  refine Tr.q (QS.extract rfl rfl) rfl ?_
                  refine Tr.q (QS.extract rfl rfl) rfl ?_
                  refine Tr.q (QS.extract rfl rfl) rfl ?_
                  refine Tr.q (QS.assign rfl) rfl ?_
                  refine Tr.q (QS.assign rfl) rfl ?_
                  refine Tr.q (QS.assign rfl) rfl ?_
                  refine Tr.nil ?_
                  refine Tr.thenN ?_
                  refine Tr.seq ?_
                  refine Tr.region ?_
                  refine Tr.q (QS.move rfl) rfl ?_
                  refine Tr.q (QS.move rfl) rfl ?_
                  apply Tr.andP
                  · exact (rfl : _ = (4, 115, 119))
                  · exact rfl
                  · intro hT20; have hT20' := hT20
                    try simp only [bs] at hT20'
                    refine Tr.gq rfl rfl hT20 (QS.move rfl) rfl ?_
                    refine Tr.gq rfl rfl hT20 (QS.move rfl) rfl ?_
                    refine Tr.gq rfl rfl hT20 (QS.eql8 rfl rfl) rfl ?_
                    refine Tr.q (QS.pickT rfl hT20 rfl) rfl ?_
                    refine Tr.nil (Tr.thenN ?_)
                    exact Tr.endX (Sub.cons rfl (Sub.dropN 4 (by kernel_rfl) rfl))
                  · intro hF20
                    refine Tr.gskip rfl rfl hF20 rfl ?_
                    refine Tr.gskip rfl rfl hF20 rfl ?_
                    refine Tr.gskip rfl rfl hF20 rfl ?_
                    refine Tr.q (QS.pickF rfl hF20 rfl) rfl ?_
                    refine Tr.nil (Tr.thenN ?_)
                    exact Tr.endX (Sub.cons rfl (Sub.dropN 4 (by kernel_rfl) rfl))
                  refine Tr.nil ?_
                  refine Tr.thenN ?_
                  refine Tr.cond rfl (fun h21 => ?_) (fun h21 => ?_)
                  · try simp only [bs] at h21
                    refine Tr.seq ?_
                    refine Tr.region ?_
                    refine Tr.q (QS.lW rfl Try.isAgg36 Try.sizeOf36) rfl ?_
                    refine Tr.storeW rfl rfl Try.sizeOf36 (by repeat (first | exact Put.here _ | apply Put.there)) (by rfl) (by rfl) (by first | exact List.all_eq_true.1 rfl | exact Enc.one _ _ | exact Enc.one encIns _) rfl ?_
                    refine Tr.q (QS.assign rfl) rfl ?_
                    refine Tr.nil ?_
                    refine Tr.thenN ?_
                    refine Tr.exit ?_
                    refine Tr.inMiss rfl ?_
                    refine Tr.thenE ?_
                    refine Tr.thenE ?_
                    refine Tr.inHit ?_
                    refine Tr.thenN ?_
                    refine Tr.seq ?_
                    refine Tr.region ?_
                    refine Tr.q (QS.lW rfl Try.isAgg36 Try.sizeOf36) rfl ?_
                    refine Tr.q (QS.move rfl) rfl ?_
                    refine Tr.storeW rfl rfl Try.sizeOf36 (by repeat (first | exact Put.here _ | apply Put.there)) (by rfl) (by rfl) (by first | exact List.all_eq_true.1 rfl | exact Enc.one _ _ | exact Enc.one encIns _) rfl ?_
                    refine Tr.q (QS.assign rfl) rfl ?_
                    refine Tr.nil ?_
                    refine Tr.thenN ?_
                    refine Tr.ret ?_
                    refine Tr.scopeR ?_
                    refine Tr.retC2 Try.results59 rfl rfl (by repeat (first | exact List.Mem.head _ | apply List.Mem.tail)) Try.isAgg36 Try.sizeOf36 (by rfl) (fun w' hw => ?_)
                    exact ⟨by clear hw; unfold rowP; (repeat (rw [if_neg (by first | assumption | omega | (intro hq; simp_all))])); rw [← hk2, drop_cons (k := k) (by show k < 15; omega), findPI, if_pos (by assumption)]; rfl, hw.below (Bg.le.refl _)⟩
                  · try simp only [bs] at h21
                    refine Tr.skip ?_
                    refine Tr.inN ?_
                    refine Tr.thenN ?_
                    refine Tr.region ?_
                    refine Tr.q (QS.addI rfl rfl (by omega)) rfl ?_
                    refine Tr.q (QS.move rfl) rfl ?_
                    refine Tr.nil ?_
                    refine Tr.thenN ?_
                    apply Tr.again (k + 1)
                    · exact rfl
                    · exact (.cons (by first | rfl | exact lookI rfl (by omega) | exact lookI rfl (by simp) | exact lookB rfl (by simp)) Front.nil)
                    · exact SubX.dropN 18 (by kernel_rfl) rfl
                    · exact (by repeat' (first | exact Pick.nil _ | exact Del.here _ | apply Pick.cons | apply Del.there))
                    · exact ⟨by omega, by rw [← hk2, drop_cons (k := k) (by show k < 15; omega), findPI, if_neg (by intro hq; simp_all)]⟩
                    · exact (by (try dsimp only); omega)
                · try simp only [bs] at h18
                  refine Tr.exit ?_
                  refine Tr.thenE ?_
                  refine Tr.thenE ?_
                  refine Tr.inHit ?_
                  refine Tr.thenN ?_
                  refine Tr.seq ?_
                  refine Tr.region ?_
                  refine Tr.q (QS.lW rfl Try.isAgg36 Try.sizeOf36) rfl ?_
                  refine Tr.q (QS.move rfl) rfl ?_
                  refine Tr.storeW rfl rfl Try.sizeOf36 (by repeat (first | exact Put.here _ | apply Put.there)) (by rfl) (by rfl) (by first | exact List.all_eq_true.1 rfl | exact Enc.one _ _ | exact Enc.one encIns _) rfl ?_
                  refine Tr.q (QS.assign rfl) rfl ?_
                  refine Tr.nil ?_
                  refine Tr.thenN ?_
                  refine Tr.ret ?_
                  refine Tr.scopeR ?_
                  refine Tr.retC2 Try.results59 rfl rfl (by repeat (first | exact List.Mem.head _ | apply List.Mem.tail)) Try.isAgg36 Try.sizeOf36 (by rfl) (fun w' hw => ?_)
                  exact ⟨by clear hw; unfold rowP; (repeat (rw [if_neg (by first | assumption | omega | (intro hq; simp_all))])); obtain rfl : k = 15 := (by omega); rw [← hk2]; rfl, hw.below (Bg.le.refl _)⟩
set_option maxRecDepth 100000 in
set_option maxHeartbeats 2000000 in
theorem decode_isa (b : List UInt8) (V : Value) (addr : UInt32) (w : World) (hV : Sl (hp w) encU8 b V) :
    Calls Try.prog 28 #[V, .int .u32 addr.toNat] w (fun e w' => e = .returned (.tuple #[.agg (encIns.enc (decP b addr).1).toArray, .int .i64 (decP b addr).2]) ∧ Ext w w') := by
  have hV' : Sl (Bg.of w).blk encU8 b V := hV
  have hlen := hV.len_le
  refine enter Try.func28 rfl Try.ntmps28 rfl ?_
  refine Tr.seq ?_
  refine Tr.region ?_
  refine Tr.alloc Try.zeroValue36 rfl rfl (fun b1 => ?_)
  refine Tr.q (QS.assign rfl) rfl ?_
  refine Tr.nil ?_
  refine Tr.thenN ?_
  refine Tr.seq ?_
  refine Tr.seq ?_
  refine Tr.region ?_
  refine Tr.q (QS.move rfl) rfl ?_
  refine Tr.q (QS.len rfl (by assumption) Try.underlying54) rfl ?_
  refine Tr.q (QS.eql rfl rfl) rfl ?_
  refine Tr.nil ?_
  refine Tr.thenN ?_
  refine Tr.cond rfl (fun h2 => ?_) (fun h2 => ?_)
  · try simp only [bs] at h2
    refine Tr.seq ?_
    refine Tr.region ?_
    refine Tr.q (QS.build (vs := []) rfl rfl (HLF.built36)) rfl ?_
    refine Tr.storeW rfl rfl Try.sizeOf36 (by repeat (first | exact Put.here _ | apply Put.there)) (by rfl) (by rfl) (by first | exact List.all_eq_true.1 rfl | exact Enc.one _ _ | exact Enc.one encIns _) rfl ?_
    refine Tr.q (QS.assign rfl) rfl ?_
    refine Tr.nil ?_
    refine Tr.thenN ?_
    refine Tr.ret ?_
    refine Tr.thenR ?_
    refine Tr.retC2 Try.results28 rfl rfl (by repeat (first | exact List.Mem.head _ | apply List.Mem.tail)) Try.isAgg36 Try.sizeOf36 (by rfl) (fun w' hw => ?_)
    exact ⟨by rw [decP_1 (by omega)]; rfl, hw.below (Bg.le.refl _)⟩
  · try simp only [bs] at h2
    refine Tr.skip ?_
    refine Tr.thenN ?_
    refine Tr.seq ?_
    refine Tr.region ?_
    refine Tr.q (QS.move rfl) rfl ?_
    refine Tr.q (QS.idx rfl rfl (by assumption) Try.underlying54 Try.sizeOf5 (by rfl) (by omega)) rfl ?_
    refine Tr.q (QS.el1 rfl (by assumption) Try.isAgg5 (by omega) (by rfl)) rfl ?_
    refine Tr.q (QS.call rfl Try.call59 (fun w hw => row_isa (b.getD 0 default) w)) rfl ?_
    refine Tr.q (QS.move rfl) rfl ?_
    refine Tr.q (QS.extract rfl rfl) rfl ?_
    refine Tr.q (QS.extract rfl rfl) rfl ?_
    refine Tr.alloc Try.zeroValue36 rfl rfl (fun b3 => ?_)
    refine Tr.storeW rfl rfl Try.sizeOf36 (by repeat (first | exact Put.here _ | apply Put.there)) (by rfl) (by rfl) (by first | exact List.all_eq_true.1 rfl | exact Enc.one _ _ | exact Enc.one encIns _) rfl ?_
    refine Tr.q (QS.assign rfl) rfl ?_
    refine Tr.nil ?_
    refine Tr.thenN ?_
    refine Tr.seq ?_
    refine Tr.seq ?_
    refine Tr.region ?_
    refine Tr.q (QS.move rfl) rfl ?_
    refine Tr.q (QS.not rfl) rfl ?_
    refine Tr.nil ?_
    refine Tr.thenN ?_
    refine Tr.cond rfl (fun h4 => ?_) (fun h4 => ?_)
    · try simp only [bs] at h4
      refine Tr.seq ?_
      refine Tr.region ?_
      refine Tr.q (QS.build (vs := []) rfl rfl (HLF.built36)) rfl ?_
      refine Tr.storeW rfl rfl Try.sizeOf36 (by repeat (first | exact Put.here _ | apply Put.there)) (by rfl) (by rfl) (by first | exact List.all_eq_true.1 rfl | exact Enc.one _ _ | exact Enc.one encIns _) rfl ?_
      refine Tr.q (QS.assign rfl) rfl ?_
      refine Tr.nil ?_
      refine Tr.thenN ?_
      refine Tr.ret ?_
      refine Tr.thenR ?_
      refine Tr.retC2 Try.results28 rfl rfl (by repeat (first | exact List.Mem.head _ | apply List.Mem.tail)) Try.isAgg36 Try.sizeOf36 (by rfl) (fun w' hw => ?_)
      exact ⟨by rw [decP_2 (by omega) (by assumption)]; rfl, hw.below (Bg.le.refl _)⟩
    · try simp only [bs] at h4
      refine Tr.skip ?_
      refine Tr.thenN ?_
      refine Tr.seq ?_
      refine Tr.region ?_
      refine Tr.q (QS.lW rfl Try.isAgg36 Try.sizeOf36) rfl ?_
      refine Tr.q (QS.call rfl Try.call60 (fun w hw => opcode_any (rowP (b.getD 0 default)).1 w (row_ok _))) rfl ?_
      refine Tr.q (QS.move rfl) rfl ?_
      refine Tr.q (QS.extract rfl rfl) rfl ?_
      refine Tr.q (QS.extract rfl rfl) rfl ?_
      refine Tr.q (QS.extract rfl rfl) rfl ?_
      refine Tr.q (QS.assign rfl) rfl ?_
      refine Tr.q (QS.assign rfl) rfl ?_
      refine Tr.q (QS.assign rfl) rfl ?_
      refine Tr.nil ?_
      refine Tr.thenN ?_
      refine Tr.seq ?_
      refine Tr.region ?_
      refine Tr.q (QS.move rfl) rfl ?_
      refine Tr.q (QS.call rfl Try.call55 (fun w hw => size_any (opcodeP (rowP (b.getD 0 default)).1).2.1 w (opcodeP_shape _))) rfl ?_
      refine Tr.q (QS.assign rfl) rfl ?_
      refine Tr.nil ?_
      refine Tr.thenN ?_
      refine Tr.seq ?_
      refine Tr.seq ?_
      refine Tr.region ?_
      refine Tr.q (QS.move rfl) rfl ?_
      refine Tr.q (QS.len rfl (by assumption) Try.underlying54) rfl ?_
      refine Tr.q (QS.move rfl) rfl ?_
      refine Tr.q (QS.lss rfl rfl) rfl ?_
      refine Tr.nil ?_
      refine Tr.thenN ?_
      refine Tr.cond rfl (fun h5 => ?_) (fun h5 => ?_)
      · try simp only [bs] at h5
        refine Tr.seq ?_
        refine Tr.region ?_
        refine Tr.q (QS.build (vs := []) rfl rfl (HLF.built36)) rfl ?_
        refine Tr.storeW rfl rfl Try.sizeOf36 (by repeat (first | exact Put.here _ | apply Put.there)) (by rfl) (by rfl) (by first | exact List.all_eq_true.1 rfl | exact Enc.one _ _ | exact Enc.one encIns _) rfl ?_
        refine Tr.q (QS.assign rfl) rfl ?_
        refine Tr.nil ?_
        refine Tr.thenN ?_
        refine Tr.ret ?_
        refine Tr.thenR ?_
        refine Tr.retC2 Try.results28 rfl rfl (by repeat (first | exact List.Mem.head _ | apply List.Mem.tail)) Try.isAgg36 Try.sizeOf36 (by rfl) (fun w' hw => ?_)
        exact ⟨by rw [decP_3 (by omega) (by assumption) (by assumption)]; rfl, hw.below (Bg.le.refl _)⟩
      · try simp only [bs] at h5
        refine Tr.skip ?_
        refine Tr.thenN ?_
        refine Tr.seq ?_
        have hsz := sizeP_spec (opcodeP (rowP (b.getD 0 default)).1).2.1
        refine Tr.region ?_
        refine Tr.q (QS.move rfl) rfl ?_
        refine Tr.q (QS.move rfl) rfl ?_
        refine Tr.q (QS.fieldAddr (off := 0) (ft := 23) rfl Try.underlying36 rfl rfl Try.sizeOf23 (by decide)) rfl ?_
        refine Tr.storeV (cs' := [_, _, _, _, _, _, _, _, _]) rfl rfl Try.sizeOf23 (by repeat (first | exact Put.here _ | apply Put.there)) rfl (by rfl) (by first | exact Nat.le_of_ble_eq_true rfl | simp) (by first | exact List.all_eq_true.1 rfl | (intro u hu; simp [Value.cells] at hu; simp_all [Value.oneCell'])) rfl ?_
        refine Tr.q (QS.fieldAddr (off := 8) (ft := 3) rfl Try.underlying36 rfl rfl Try.sizeOf3 (by decide)) rfl ?_
        refine Tr.storeV (cs' := [_, _, _, _, _, _, _, _, _]) rfl rfl Try.sizeOf3 (by repeat (first | exact Put.here _ | apply Put.there)) rfl (by rfl) (by first | exact Nat.le_of_ble_eq_true rfl | simp) (by first | exact List.all_eq_true.1 rfl | (intro u hu; simp [Value.cells] at hu; simp_all [Value.oneCell'])) rfl ?_
        refine Tr.nil ?_
        refine Tr.thenN ?_
        refine Tr.seq ?_
        refine Tr.region ?_
        refine Tr.q (QS.move rfl) rfl ?_
        refine Tr.q (QS.move rfl) rfl ?_
        refine Tr.q (QS.cvtTo32 rfl Try.underlying3 Try.underlying23) rfl ?_
        refine Tr.q (QS.add32 rfl rfl) rfl ?_
        refine Tr.q (QS.assign rfl) rfl ?_
        refine Tr.nil ?_
        refine Tr.thenN ?_
        refine Tr.seqJ (ι := Ins) (fun k1 => k1 = setAB (opcodeP (rowP (b.getD 0 default)).1).2.1 { (rowP (b.getD 0 default)).1 with addr := addr, size := sizeP (opcodeP (rowP (b.getD 0 default)).1).2.1 } b) (fun _ => Bg.of w) (fun k1 => [cellE b3 (encIns.enc k1) 36, cellE b1 (encIns.enc zeroIns) 36]) (fun k1 => []) ?_ (fun k1 hi => ?_)
        · skip
          refine Tr.seq ?_
          refine Tr.region ?_
          refine Tr.q (QS.move rfl) rfl ?_
          refine Tr.nil ?_
          refine Tr.thenN ?_
          refine Tr.block ?_
          refine Tr.seq ?_
          refine Tr.seq ?_
          refine Tr.region ?_
          refine Tr.q (QS.eql rfl rfl) rfl ?_
          refine Tr.q (QS.assign rfl) rfl ?_
          refine Tr.nil ?_
          refine Tr.thenN ?_
          apply Tr.condOr
          · exact rfl
          · intro hO6
            try simp only [bs] at hO6
            refine Tr.seq ?_
            refine Tr.region ?_
            refine Tr.q (QS.eql rfl rfl) rfl ?_
            refine Tr.q (QS.assign rfl) rfl ?_
            refine Tr.nil ?_
            refine Tr.thenN ?_
            apply Tr.condOr
            · exact rfl
            · intro hO7
              try simp only [bs] at hO7
              refine Tr.region ?_
              refine Tr.q (QS.eql rfl rfl) rfl ?_
              refine Tr.q (QS.assign rfl) rfl ?_
              refine Tr.nil ?_
              refine Tr.thenN ?_
              exact Tr.endOr rfl (SubX.dropN 2 (by kernel_rfl) rfl)
            refine Tr.thenN ?_
            exact Tr.endOr rfl (SubX.dropN 3 (by kernel_rfl) rfl)
          refine Tr.thenN ?_
          refine Tr.cond rfl (fun h8 => ?_) (fun h8 => ?_)
          · try simp only [bs] at h8
            refine Tr.region ?_
            refine Tr.q (QS.move rfl) rfl ?_
            refine Tr.q (QS.idx rfl rfl (by assumption) Try.underlying54 Try.sizeOf5 (by rfl) (by omega)) rfl ?_
            refine Tr.q (QS.el1 rfl (by assumption) Try.isAgg5 (by omega) (by rfl)) rfl ?_
            refine Tr.q (QS.cvt8toI rfl Try.underlying5 Try.underlying3) rfl ?_
            refine Tr.q (QS.fieldAddr (off := 6) (ft := 3) rfl Try.underlying36 rfl rfl Try.sizeOf3 (by decide)) rfl ?_
            refine Tr.storeV (cs' := [_, _, _, _, _, _, _, _, _]) rfl rfl Try.sizeOf3 (by repeat (first | exact Put.here _ | apply Put.there)) rfl (by rfl) (by first | exact Nat.le_of_ble_eq_true rfl | simp) (by first | exact List.all_eq_true.1 rfl | (intro u hu; simp [Value.cells] at hu; simp_all [Value.oneCell'])) rfl ?_
            refine Tr.nil ?_
            refine Tr.inN ?_
            refine Tr.thenN ?_
            apply Tr.joined { { (rowP (b.getD 0 default)).1 with addr := addr, size := sizeP (opcodeP (rowP (b.getD 0 default)).1).2.1 } with a := (b.getD 1 default).toNat }
            · exact rfl
            · exact Front.nil
            · exact SubX.dropN 9 (by kernel_rfl) rfl
            · exact (by repeat' (first | exact Pick.nil _ | exact Del.here _ | apply Pick.cons | apply Del.there))
            · exact (by unfold setAB; (repeat (first | rw [if_pos (by omega)] | rw [if_neg (by omega)])) <;> rfl)
          · try simp only [bs] at h8
            refine Tr.seq ?_
            refine Tr.seq ?_
            refine Tr.region ?_
            refine Tr.q (QS.eql rfl rfl) rfl ?_
            refine Tr.q (QS.assign rfl) rfl ?_
            refine Tr.nil ?_
            refine Tr.thenN ?_
            apply Tr.condOr
            · exact rfl
            · intro hO9
              try simp only [bs] at hO9
              refine Tr.region ?_
              refine Tr.q (QS.eql rfl rfl) rfl ?_
              refine Tr.q (QS.assign rfl) rfl ?_
              refine Tr.nil ?_
              refine Tr.thenN ?_
              exact Tr.endOr rfl (SubX.dropN 2 (by kernel_rfl) rfl)
            refine Tr.thenN ?_
            refine Tr.cond rfl (fun h10 => ?_) (fun h10 => ?_)
            · try simp only [bs] at h10
              refine Tr.regionH ([cellE b1 (encIns.enc zeroIns) 36]) 14 rfl HLF.mixed ?_
              refine Tr.hT 0 rfl (by kernel_rfl) (panicIn (panicThen panicBody)) (QS.move rfl) ?_
              refine Tr.hT 1 rfl (by kernel_rfl) (panicIn (panicThen panicBody)) (QS.idx rfl rfl (by assumption) Try.underlying54 Try.sizeOf5 (by rfl) (by omega)) ?_
              refine Tr.hT 2 rfl (by kernel_rfl) (panicIn (panicThen panicBody)) (QS.el1 rfl (by assumption) Try.isAgg5 (by omega) (by rfl)) ?_
              refine Tr.hT 3 rfl (by kernel_rfl) (panicIn (panicThen panicBody)) (QS.shr8c4 rfl rfl) ?_
              refine Tr.hT 4 rfl (by kernel_rfl) (panicIn (panicThen panicBody)) (QS.cvt8toI rfl Try.underlying5 Try.underlying3) ?_
              refine Tr.hT 5 rfl (by kernel_rfl) (panicIn (panicThen panicBody)) (QS.move rfl) ?_
              refine Tr.hT 6 rfl (by kernel_rfl) (panicIn (panicThen panicBody)) (QS.idx rfl rfl (by assumption) Try.underlying54 Try.sizeOf5 (by rfl) (by omega)) ?_
              refine Tr.hT 7 rfl (by kernel_rfl) (panicIn (panicThen panicBody)) (QS.el1 rfl (by assumption) Try.isAgg5 (by omega) (by rfl)) ?_
              refine Tr.hT 8 rfl (by kernel_rfl) (panicIn (panicThen panicBody)) (QS.and8c15 rfl rfl) ?_
              refine Tr.hT 9 rfl (by kernel_rfl) (panicIn (panicThen panicBody)) (QS.cvt8toI rfl Try.underlying5 Try.underlying3) ?_
              refine Tr.hT 10 rfl (by kernel_rfl) (panicIn (panicThen panicBody)) (QS.fieldAddr (off := 6) (ft := 3) rfl Try.underlying36 rfl rfl Try.sizeOf3 (by decide)) ?_
              refine Tr.hAll [11] (by kernel_rfl) (by simp) (fun iq hq => ?_)
              obtain rfl := List.mem_singleton.1 hq
              refine Tr.hOp rfl ?_
              refine Tr.storeV (cs' := [_, _, _, _, _, _, _, _, _]) rfl rfl Try.sizeOf3 (by repeat (first | exact Put.here _ | apply Put.there)) rfl (by rfl) (by first | exact Nat.le_of_ble_eq_true rfl | simp) (by first | exact List.all_eq_true.1 rfl | (intro u hu; simp [Value.cells] at hu; simp_all [Value.oneCell'])) rfl ?_
              refine Tr.hN ?_
              refine Tr.hT 12 rfl (by kernel_rfl) (panicIn (panicThen panicBody)) (QS.fieldAddr (off := 7) (ft := 3) rfl Try.underlying36 rfl rfl Try.sizeOf3 (by decide)) ?_
              refine Tr.hAll [13] (by kernel_rfl) (by simp) (fun iq hq => ?_)
              obtain rfl := List.mem_singleton.1 hq
              refine Tr.hOp rfl ?_
              refine Tr.storeV (cs' := [_, _, _, _, _, _, _, _, _]) rfl rfl Try.sizeOf3 (by repeat (first | exact Put.here _ | apply Put.there)) rfl (by rfl) (by first | exact Nat.le_of_ble_eq_true rfl | simp) (by first | exact List.all_eq_true.1 rfl | (intro u hu; simp [Value.cells] at hu; simp_all [Value.oneCell'])) rfl ?_
              refine Tr.hN ?_
              refine Tr.hDone (by kernel_rfl) ?_
              refine Tr.inN ?_
              refine Tr.thenN ?_
              apply Tr.joined { { (rowP (b.getD 0 default)).1 with addr := addr, size := sizeP (opcodeP (rowP (b.getD 0 default)).1).2.1 } with a := (b.getD 1 default / 16).toNat, b := (b.getD 1 default % 16).toNat }
              · exact rfl
              · exact Front.nil
              · exact SubX.dropN 19 (by kernel_rfl) rfl
              · exact (by repeat' (first | exact Pick.nil _ | exact Del.here _ | apply Pick.cons | apply Del.there))
              · exact (by unfold setAB; (repeat (first | rw [if_pos (by omega)] | rw [if_neg (by omega)])) <;> rfl)
            · try simp only [bs] at h10
              refine Tr.skip ?_
              refine Tr.inN ?_
              refine Tr.thenN ?_
              apply Tr.joined { (rowP (b.getD 0 default)).1 with addr := addr, size := sizeP (opcodeP (rowP (b.getD 0 default)).1).2.1 }
              · exact rfl
              · exact Front.nil
              · exact SubX.dropN 7 (by kernel_rfl) rfl
              · exact (by repeat' (first | exact Pick.nil _ | exact Del.here _ | apply Pick.cons | apply Del.there))
              · exact (by unfold setAB; (repeat (first | rw [if_pos (by omega)] | rw [if_neg (by omega)])) <;> rfl)
        · skip
          replace hi : k1 = setAB (opcodeP (rowP (b.getD 0 default)).1).2.1 { (rowP (b.getD 0 default)).1 with addr := addr, size := sizeP (opcodeP (rowP (b.getD 0 default)).1).2.1 } b := hi
          change Tr _ _ [cellE b3 (encIns.enc k1) 36, cellE b1 (encIns.enc zeroIns) 36] ([] ++ _) _
          refine Tr.seqJ (ι := Ins) (fun k2 => k2 = setImm (opcodeP (rowP (b.getD 0 default)).1).2.1 (setAB (opcodeP (rowP (b.getD 0 default)).1).2.1 { (rowP (b.getD 0 default)).1 with addr := addr, size := sizeP (opcodeP (rowP (b.getD 0 default)).1).2.1 } b) b (addr + u32 (sizeP (opcodeP (rowP (b.getD 0 default)).1).2.1))) (fun _ => Bg.of w) (fun k2 => [cellE b3 (encIns.enc k2) 36, cellE b1 (encIns.enc zeroIns) 36]) (fun k2 => []) ?_ (fun k2 hi => ?_)
          · skip
            refine Tr.seq ?_
            refine Tr.region ?_
            refine Tr.q (QS.move rfl) rfl ?_
            refine Tr.nil ?_
            refine Tr.thenN ?_
            refine Tr.block ?_
            refine Tr.seq ?_
            refine Tr.seq ?_
            refine Tr.region ?_
            refine Tr.q (QS.eql rfl rfl) rfl ?_
            refine Tr.q (QS.assign rfl) rfl ?_
            refine Tr.nil ?_
            refine Tr.thenN ?_
            apply Tr.condOr
            · exact rfl
            · intro hO11
              try simp only [bs] at hO11
              refine Tr.region ?_
              refine Tr.q (QS.eql rfl rfl) rfl ?_
              refine Tr.q (QS.assign rfl) rfl ?_
              refine Tr.nil ?_
              refine Tr.thenN ?_
              exact Tr.endOr rfl (SubX.dropN 2 (by kernel_rfl) rfl)
            refine Tr.thenN ?_
            refine Tr.cond rfl (fun h12 => ?_) (fun h12 => ?_)
            · try simp only [bs] at h12
              refine Tr.region ?_
              refine Tr.q (QS.move rfl) rfl ?_
              refine Tr.q (QS.idx rfl rfl (by assumption) Try.underlying54 Try.sizeOf5 (by rfl) (by omega)) rfl ?_
              refine Tr.q (QS.el1 rfl (by assumption) Try.isAgg5 (by omega) (by rfl)) rfl ?_
              refine Tr.q (QS.cvt8to32 rfl Try.underlying5 Try.underlying23) rfl ?_
              refine Tr.q (QS.call rfl Try.call61 (fun w hw => extend_any (b.getD 2 default).toUInt32 1 w)) rfl ?_
              refine Tr.q (QS.fieldAddr (off := 1) (ft := 23) rfl Try.underlying36 rfl rfl Try.sizeOf23 (by decide)) rfl ?_
              refine Tr.storeV (cs' := [_, _, _, _, _, _, _, _, _]) rfl rfl Try.sizeOf23 (by repeat (first | exact Put.here _ | apply Put.there)) rfl (by rfl) (by first | exact Nat.le_of_ble_eq_true rfl | simp) (by first | exact List.all_eq_true.1 rfl | (intro u hu; simp [Value.cells] at hu; simp_all [Value.oneCell'])) rfl ?_
              refine Tr.nil ?_
              refine Tr.inN ?_
              refine Tr.thenN ?_
              rw [ext_sext]
              apply Tr.joined { k1 with imm := sextP (b.getD 2 default) }
              · exact rfl
              · exact Front.nil
              · exact SubX.dropN 10 (by kernel_rfl) rfl
              · exact (by repeat' (first | exact Pick.nil _ | exact Del.here _ | apply Pick.cons | apply Del.there))
              · exact (by subst hi; unfold setImm; (repeat (first | rw [if_pos (by omega)] | rw [if_neg (by omega)])) <;> rfl)
            · try simp only [bs] at h12
              refine Tr.seq ?_
              refine Tr.region ?_
              refine Tr.q (QS.eql rfl rfl) rfl ?_
              refine Tr.q (QS.assign rfl) rfl ?_
              refine Tr.nil ?_
              refine Tr.thenN ?_
              refine Tr.cond rfl (fun h13 => ?_) (fun h13 => ?_)
              · try simp only [bs] at h13
                refine Tr.region ?_
                refine Tr.q (QS.move rfl) rfl ?_
                refine Tr.q (QS.call rfl Try.call62 (fun w hw => get_any b V 2 4 w (hw.slF hV) (by omega))) rfl ?_
                refine Tr.q (QS.move rfl) rfl ?_
                refine Tr.q (QS.extract rfl rfl) rfl ?_
                refine Tr.q (QS.extract rfl rfl) rfl ?_
                refine Tr.q (QS.fieldAddr (off := 1) (ft := 23) rfl Try.underlying36 rfl rfl Try.sizeOf23 (by decide)) rfl ?_
                refine Tr.storeV (cs' := [_, _, _, _, _, _, _, _, _]) rfl rfl Try.sizeOf23 (by repeat (first | exact Put.here _ | apply Put.there)) rfl (by rfl) (by first | exact Nat.le_of_ble_eq_true rfl | simp) (by first | exact List.all_eq_true.1 rfl | (intro u hu; simp [Value.cells] at hu; simp_all [Value.oneCell'])) rfl ?_
                refine Tr.nil ?_
                refine Tr.inN ?_
                refine Tr.thenN ?_
                rw [show (getP b 2 4).1 = longP b 2 from get_long (k := 2) (by omega)]
                apply Tr.joined { k1 with imm := longP b 2 }
                · exact rfl
                · exact Front.nil
                · exact SubX.dropN 12 (by kernel_rfl) rfl
                · exact (by repeat' (first | exact Pick.nil _ | exact Del.here _ | apply Pick.cons | apply Del.there))
                · exact (by subst hi; unfold setImm; (repeat (first | rw [if_pos (by omega)] | rw [if_neg (by omega)])) <;> rfl)
              · try simp only [bs] at h13
                refine Tr.seq ?_
                refine Tr.region ?_
                refine Tr.q (QS.eql rfl rfl) rfl ?_
                refine Tr.q (QS.assign rfl) rfl ?_
                refine Tr.nil ?_
                refine Tr.thenN ?_
                refine Tr.cond rfl (fun h14 => ?_) (fun h14 => ?_)
                · try simp only [bs] at h14
                  refine Tr.region ?_
                  refine Tr.q (QS.move rfl) rfl ?_
                  refine Tr.q (QS.move rfl) rfl ?_
                  refine Tr.q (QS.idx rfl rfl (by assumption) Try.underlying54 Try.sizeOf5 (by rfl) (by omega)) rfl ?_
                  refine Tr.q (QS.el1 rfl (by assumption) Try.isAgg5 (by omega) (by rfl)) rfl ?_
                  refine Tr.q (QS.cvt8to32 rfl Try.underlying5 Try.underlying23) rfl ?_
                  refine Tr.q (QS.call rfl Try.call61 (fun w hw => extend_any (b.getD 1 default).toUInt32 1 w)) rfl ?_
                  refine Tr.q (QS.add32 rfl rfl) rfl ?_
                  refine Tr.q (QS.fieldAddr (off := 1) (ft := 23) rfl Try.underlying36 rfl rfl Try.sizeOf23 (by decide)) rfl ?_
                  refine Tr.storeV (cs' := [_, _, _, _, _, _, _, _, _]) rfl rfl Try.sizeOf23 (by repeat (first | exact Put.here _ | apply Put.there)) rfl (by rfl) (by first | exact Nat.le_of_ble_eq_true rfl | simp) (by first | exact List.all_eq_true.1 rfl | (intro u hu; simp [Value.cells] at hu; simp_all [Value.oneCell'])) rfl ?_
                  refine Tr.nil ?_
                  refine Tr.inN ?_
                  refine Tr.thenN ?_
                  rw [ext_sext]
                  apply Tr.joined { k1 with imm := (addr + u32 (sizeP (opcodeP (rowP (b.getD 0 default)).1).2.1)) + sextP (b.getD 1 default) }
                  · exact rfl
                  · exact Front.nil
                  · exact SubX.dropN 16 (by kernel_rfl) rfl
                  · exact (by repeat' (first | exact Pick.nil _ | exact Del.here _ | apply Pick.cons | apply Del.there))
                  · exact (by subst hi; unfold setImm; (repeat (first | rw [if_pos (by omega)] | rw [if_neg (by omega)])) <;> rfl)
                · try simp only [bs] at h14
                  refine Tr.seq ?_
                  refine Tr.region ?_
                  refine Tr.q (QS.eql rfl rfl) rfl ?_
                  refine Tr.q (QS.assign rfl) rfl ?_
                  refine Tr.nil ?_
                  refine Tr.thenN ?_
                  refine Tr.cond rfl (fun h15 => ?_) (fun h15 => ?_)
                  · try simp only [bs] at h15
                    refine Tr.seq ?_
                    refine Tr.region ?_
                    refine Tr.q (QS.move rfl) rfl ?_
                    refine Tr.q (QS.call rfl Try.call62 (fun w hw => get_any b V 1 4 w (hw.slF hV) (by omega))) rfl ?_
                    refine Tr.q (QS.move rfl) rfl ?_
                    refine Tr.q (QS.extract rfl rfl) rfl ?_
                    refine Tr.q (QS.extract rfl rfl) rfl ?_
                    refine Tr.q (QS.assign rfl) rfl ?_
                    refine Tr.q (QS.assign rfl) rfl ?_
                    refine Tr.nil ?_
                    refine Tr.thenN ?_
                    refine Tr.region ?_
                    refine Tr.q (QS.move rfl) rfl ?_
                    refine Tr.q (QS.move rfl) rfl ?_
                    refine Tr.q (QS.add32 rfl rfl) rfl ?_
                    refine Tr.q (QS.fieldAddr (off := 1) (ft := 23) rfl Try.underlying36 rfl rfl Try.sizeOf23 (by decide)) rfl ?_
                    refine Tr.storeV (cs' := [_, _, _, _, _, _, _, _, _]) rfl rfl Try.sizeOf23 (by repeat (first | exact Put.here _ | apply Put.there)) rfl (by rfl) (by first | exact Nat.le_of_ble_eq_true rfl | simp) (by first | exact List.all_eq_true.1 rfl | (intro u hu; simp [Value.cells] at hu; simp_all [Value.oneCell'])) rfl ?_
                    refine Tr.nil ?_
                    refine Tr.inN ?_
                    refine Tr.thenN ?_
                    rw [show (getP b 1 4).1 = longP b 1 from get_long (k := 1) (by omega)]
                    apply Tr.joined { k1 with imm := (addr + u32 (sizeP (opcodeP (rowP (b.getD 0 default)).1).2.1)) + longP b 1 }
                    · exact rfl
                    · exact Front.nil
                    · exact SubX.dropN 21 (by kernel_rfl) rfl
                    · exact (by repeat' (first | exact Pick.nil _ | exact Del.here _ | apply Pick.cons | apply Del.there))
                    · exact (by subst hi; unfold setImm; (repeat (first | rw [if_pos (by omega)] | rw [if_neg (by omega)])) <;> rfl)
                  · try simp only [bs] at h15
                    refine Tr.skip ?_
                    refine Tr.inN ?_
                    refine Tr.thenN ?_
                    apply Tr.joined k1
                    · exact rfl
                    · exact Front.nil
                    · exact SubX.dropN 10 (by kernel_rfl) rfl
                    · exact (by repeat' (first | exact Pick.nil _ | exact Del.here _ | apply Pick.cons | apply Del.there))
                    · exact (by subst hi; unfold setImm; (repeat (first | rw [if_pos (by omega)] | rw [if_neg (by omega)])) <;> rfl)
          · skip
            replace hi : k2 = setImm (opcodeP (rowP (b.getD 0 default)).1).2.1 (setAB (opcodeP (rowP (b.getD 0 default)).1).2.1 { (rowP (b.getD 0 default)).1 with addr := addr, size := sizeP (opcodeP (rowP (b.getD 0 default)).1).2.1 } b) b (addr + u32 (sizeP (opcodeP (rowP (b.getD 0 default)).1).2.1)) := hi
            change Tr _ _ [cellE b3 (encIns.enc k2) 36, cellE b1 (encIns.enc zeroIns) 36] ([] ++ _) _
            refine Tr.seq ?_
            refine Tr.seq ?_
            refine Tr.region ?_
            refine Tr.q (QS.fieldAddr (off := 6) (ft := 3) rfl Try.underlying36 rfl rfl Try.sizeOf3 (by decide)) rfl ?_
            refine Tr.q (QS.lV rfl Try.isAgg3) rfl ?_
            refine Tr.q (QS.call rfl Try.call63 (fun w hw => register_any k2.a w)) rfl ?_
            refine Tr.q (QS.not rfl) rfl ?_
            refine Tr.q (QS.move rfl) rfl ?_
            apply Tr.orP
            · exact (rfl : _ = (5, 118, 123))
            · exact rfl
            · intro hF16; have hF16' := hF16
              try simp only [bs] at hF16'
              refine Tr.gq rfl rfl hF16 (QS.fieldAddr (off := 7) (ft := 3) rfl Try.underlying36 rfl rfl Try.sizeOf3 (by decide)) rfl ?_
              refine Tr.gq rfl rfl hF16 (QS.lV rfl Try.isAgg3) rfl ?_
              refine Tr.gq rfl rfl hF16 (QS.call rfl Try.call63 (fun w hw => register_any k2.b w)) rfl ?_
              refine Tr.gq rfl rfl hF16 (QS.not rfl) rfl ?_
              refine Tr.q (QS.pickF rfl hF16 rfl) rfl ?_
              refine Tr.nil (Tr.thenN ?_)
              exact Tr.endX (Sub.cons rfl (Sub.dropN 5 (by kernel_rfl) rfl))
            · intro hT16
              refine Tr.gskip rfl rfl hT16 rfl ?_
              refine Tr.gskip rfl rfl hT16 rfl ?_
              refine Tr.gskip rfl rfl hT16 rfl ?_
              refine Tr.gskip rfl rfl hT16 rfl ?_
              refine Tr.q (QS.pickT rfl hT16 rfl) rfl ?_
              refine Tr.nil (Tr.thenN ?_)
              exact Tr.endX (Sub.cons rfl (Sub.dropN 5 (by kernel_rfl) rfl))
            refine Tr.nil ?_
            refine Tr.thenN ?_
            refine Tr.cond rfl (fun h17 => ?_) (fun h17 => ?_)
            · try simp only [bs] at h17
              refine Tr.seq ?_
              refine Tr.region ?_
              refine Tr.q (QS.build (vs := []) rfl rfl (HLF.built36)) rfl ?_
              refine Tr.storeW rfl rfl Try.sizeOf36 (by repeat (first | exact Put.here _ | apply Put.there)) (by rfl) (by rfl) (by first | exact List.all_eq_true.1 rfl | exact Enc.one _ _ | exact Enc.one encIns _) rfl ?_
              refine Tr.q (QS.assign rfl) rfl ?_
              refine Tr.nil ?_
              refine Tr.thenN ?_
              refine Tr.ret ?_
              refine Tr.thenR ?_
              refine Tr.retC2 Try.results28 rfl rfl (by repeat (first | exact List.Mem.head _ | apply List.Mem.tail)) Try.isAgg36 Try.sizeOf36 (by rfl) (fun w' hw => ?_)
              exact ⟨by rw [decP_4 (by omega) (by assumption) (by assumption) hi, if_pos (by assumption)]; rfl, hw.below (Bg.le.refl _)⟩
            · try simp only [bs] at h17
              refine Tr.skip ?_
              refine Tr.thenN ?_
              refine Tr.seq ?_
              refine Tr.region ?_
              refine Tr.q (QS.lW rfl Try.isAgg36 Try.sizeOf36) rfl ?_
              refine Tr.storeW rfl rfl Try.sizeOf36 (by repeat (first | exact Put.here _ | apply Put.there)) (by rfl) (by rfl) (by first | exact List.all_eq_true.1 rfl | exact Enc.one _ _ | exact Enc.one encIns _) rfl ?_
              refine Tr.q (QS.assign rfl) rfl ?_
              refine Tr.nil ?_
              refine Tr.thenN ?_
              refine Tr.ret ?_
              refine Tr.retC2 Try.results28 rfl rfl (by repeat (first | exact List.Mem.head _ | apply List.Mem.tail)) Try.isAgg36 Try.sizeOf36 (by rfl) (fun w' hw => ?_)
              exact ⟨by rw [decP_4 (by omega) (by assumption) (by assumption) hi, if_neg (by simp_all)]; rfl, hw.below (Bg.le.refl _)⟩
end Go.Proofs.Ytfnedefgepjbpaa
namespace Go.HL
open Go Go.RowKit
section
variable {P : Program} {ops : Array Oper} {Q : Exit → Act → World → Prop} {N : Nat} {F : Bg} {L : List Ent} {M : Fr} {ty : TypeId} {pos : String} {after : Array Edge} {rest : List Oper} {d : Nat} {op : Op}
theorem flatMap_setEl {α : Type} (E : Enc α) (x' : α) : ∀ (l : List α) (i : Nat), i < l.length → (l.set i x').flatMap E.enc = splice (l.flatMap E.enc) (i * E.k) (E.enc x')
  | [], i, h => by simp at h
  | y :: l, 0, _ => by
    simp only [List.set_cons_zero, List.flatMap_cons, Nat.zero_mul, splice, List.take_zero, List.nil_append, Nat.zero_add, E.len]
    rw [List.drop_append_of_le_length (by rw [E.len]; exact Nat.le_refl _), List.drop_of_length_le (by rw [E.len]; exact Nat.le_refl _)]; rfl
  | y :: l, i + 1, h => by
    have ih := flatMap_setEl E x' l i (by simpa using h)
    simp only [List.set_cons_succ, List.flatMap_cons, ih, splice]
    have hl : (E.enc y).length = E.k := E.len y
    rw [show (i + 1) * E.k = (E.enc y).length + i * E.k by rw [hl, Nat.add_mul]; omega, List.take_length_add_append, show (E.enc y).length + i * E.k + (E.enc x').length = (E.enc y).length + (i * E.k + (E.enc x').length) by omega, List.drop_length_add_append]
    simp only [List.append_assoc]
theorem take_splice {cs v : List Value} {o n : Nat} (h : o + v.length ≤ n) (hn : n ≤ cs.length) : (splice cs o v).take n = splice (cs.take n) o v := by
  apply List.ext_getElem?
  intro q
  simp only [splice, List.getElem?_take, List.getElem?_append, List.length_take, List.getElem?_drop, List.length_append]
  grind
/-- A store of a whole element of one's own slice. -/
theorem Tr.storeEl {α : Type} {E : Enc α} {l : List α} (x' : α) {x y : Operand} {t T : TypeId} {V v : Value} {i : Nat} {L' : List Ent} {dst : Option Tmp} (hx : opv M x = some (.pointer (some ⟨bk V, ofs V + i * E.k, none⟩))) (hy : opv M y = some v)
    (hz : ∀ w, (sizeOf t).run P w = .ok E.k w) (hput : Put (rowE V T E l) (rowE V T E (l.set i x')) L L') (hi : i < l.length) (hc : v.cells.toList = E.enc x') (hdst : dst = none)
    (K : Tr N F L' M (wpList P ops Q rest)) : Tr N F L M (wpList P ops Q (⟨dst, .store t x y, ty, pos, after, none⟩ :: rest)) := by
  subst hdst
  intro a w ha hw
  refine wpList_plain rfl fun K' hK => ?_
  have hr : RowOK V T E l (V.ownBlock.bind (w.heap[·]?)) := hw.ent _ hput.mem
  rcases hr with ⟨_, rfl⟩ | ⟨gb, cap, cur, rfl, ho, hc1, hc2, hc3, hc4⟩
  · simp at hi
  · have ho' : w.heap[gb]? = some (.cells cur T (0, 0)) := ho
    have hlt : i * E.k + E.k ≤ l.length * E.k := by rw [← Nat.succ_mul]; exact Nat.mul_le_mul_right _ hi
    have hle : l.length * E.k ≤ cur.size := Nat.le_trans (Nat.mul_le_mul_right _ hc1) hc3
    have hs : v.cells.size = E.k := by have := congrArg List.length hc; rw [E.len] at this; simpa using this
    have hst := run_storeV (P := P) (w := w) (b := gb) (o := i * E.k) (cs := cur.toList) (T := T) (t := t) (v := v) (by simpa using ho') hz hs (by simp; omega) (by rw [hc]; intro u hu; exact E.one _ _ hu)
    simp only [bk, ofs, Nat.zero_add] at hx
    unfold Oper.wp
    simp only [execOp, ha.eval hx, ha.eval hy, Sem.run_bind, hst, Result.andThen_ok, Sem.run_pure, Oper.upon, Act.put]
    refine hK _ _ (K _ _ ha ?_)
    have e1 : rowE (.slice (some ⟨gb, 0, none⟩) l.length cap) T E l = ⟨some gb, RowOK (.slice (some ⟨gb, 0, none⟩) l.length cap) T E l⟩ := rfl
    have e2 : rowE (.slice (some ⟨gb, 0, none⟩) l.length cap) T E (l.set i x') = ⟨some gb, RowOK (.slice (some ⟨gb, 0, none⟩) l.length cap) T E (l.set i x')⟩ := rfl
    rw [e1, e2] at hput
    refine HpOK.set hw hput rfl rfl rfl (by simp) (Nat.le_refl _) (fun k _ hkb => setRow_other w gb k _ hkb) ?_
    rw [setRow_heap w gb _ _ T (0, 0) ho']
    have hll : (l.set i x').length = l.length := by simp
    refine .inr ⟨gb, cap, _, by rw [hll], rfl, by rw [hll]; exact hc1, hc2, ?_, ?_⟩
    · rw [List.size_toArray]
      simp only [splice, hc, List.length_append, List.length_take, List.length_drop, Array.length_toList, E.len]
      omega
    · rw [hll, flatMap_setEl E x' l i hi, ← hc4, hc, List.toList_toArray]
      refine take_splice ?_ ?_
      · rw [E.len]; omega
      · rw [Array.length_toList]; exact hle
/-- A call that changes one's own slice in place as R says. -/
theorem Tr.callMutR {α : Type} {E : Enc α} {l : List α} (R : List α → Prop) {V : Value} {T : TypeId} {f : FuncId} {xs : List Operand} {vs : List Value} {ts : Array TypeId} {v : Value} {L0 : List Ent} (hx : opvs M xs = some vs)
    (he : ∀ (args : Array Value) (w : World), (callFunc f args).run P w = .ok (.enter f args) w)
    (hc : ∀ w, HpOK F (rowE V T E l :: L0) w → Calls P f vs.toArray w fun e w' => e = .returned v ∧ ∃ l', R l' ∧ Mut w w' V ∧ (rowE V T E l').holds w') (hd : Nat.ble (d + 1) N = true)
    (K : ∀ l', R l' → Tr N F (rowE V T E l' :: L0) ((d, v) :: M) (wpList P ops Q rest)) :
    Tr N F (rowE V T E l :: L0) M (wpList P ops Q (⟨some d, .call { callee := .value (.func f), args := xs.toArray, argTypes := ts }, ty, pos, after, none⟩ :: rest)) := by
  intro a w ha hw
  refine wpList_plain rfl fun K' hK => ?_
  have hr : (execOp a.eval ⟨some d, .call { callee := .value (.func f), args := xs.toArray, argTypes := ts }, ty, pos, after, none⟩).run P w = .ok (.enter f vs.toArray) w := by
    have := ha.evals hx
    simp [execOp, resolve, Deferred.ofValue, Act.eval, invoke, he, this]
  unfold Oper.wp
  rw [hr]
  refine (hc w hw).mono fun e w' ⟨h1, l', h0, h2, h3⟩ => ?_
  subst h1
  exact hK _ _ (K l' h0 _ _ (ha.put (Nat.le_of_ble_eq_true hd)) (hw.mut (.here _) h2 h3))
theorem Tr.rowEq {α : Type} {E : Enc α} {l l' : List α} {V : Value} {T : TypeId} {L0 : List Ent} {X : Act → World → Prop} (h : l = l') (K : Tr N F (rowE V T E l' :: L0) M X) : Tr N F (rowE V T E l :: L0) M X := h ▸ K
theorem QS.str_gtr {m n : ByteArray} {x y : Operand} {t u : TypeId} {g : Option (Nat × Bool)} {dst : Option Tmp} (hx : opv M x = some (.string m)) (hy : opv M y = some (.string n)) : QS P N F L M ⟨dst, .binOp .gtr t x y u, ty, pos, after, g⟩ (.bool (!(Op.bytesLess m.toList n.toList || m.toList == n.toList))) :=
  QS.strOf hx hy fun w => by simp [Op.stringOp]
theorem QS.shr1 {m : Int} {x y : Operand} {t u : TypeId} {g : Option (Nat × Bool)} {dst : Option Tmp} (hx : opv M x = some (.int .u64 m)) (hy : opv M y = some (.int .u64 1)) (hm : 0 ≤ m) :
    QS P N F L M ⟨dst, .binOp .shr t x y u, ty, pos, after, g⟩ (.int .u64 (m / 2)) := by
  have h := QS.shr (P := P) (N := N) (F := F) (L := L) (dst := dst) (t := t) (u := u) (ty := ty) (pos := pos) (after := after) (g := g) hx hy (by decide)
  rw [show m.fdiv (2 ^ min (1 : Int).toNat IntKind.u64.bits) = m / 2 from Int.fdiv_eq_ediv_of_nonneg _ (by decide)] at h
  exact h
/-- An operation of the region's beginning that looks at the frame alone. -/
theorem TrQ.pureQ {X : Act → Prop} {v : Value} (h : ∀ F, QS P N F [] M ⟨some d, op, ty, pos, after, none⟩ v) (hp : plainOp op = true) (hd : Nat.ble (d + 1) N = true) (k : TrQ N ((d, v) :: M) (wpPure P ops X rest)) :
    TrQ N M (wpPure P ops X (⟨some d, op, ty, pos, after, none⟩ :: rest)) := fun a ha =>
  ⟨v, .inl ⟨by simp [Region.wanted], fun w => QS.run (h (Bg.of w)) hp ha (HpOK.start w)⟩, k _ (ha.put (Nat.le_of_ble_eq_true hd))⟩
end
end Go.HL
namespace Go.HL
open Go Go.RowKit
def Bg.of0 (w : World) : Bg := { Bg.of w with dr := 0 }
theorem HpOK.start0 (w : World) : HpOK (Bg.of0 w) [] w :=
  ⟨rfl, rfl, rfl, Nat.le_refl _, Nat.zero_le _, fun _ _ h => h, fun _ h => (by cases h), (by simp [blks]), fun _ h => (by simp [blks] at h), fun _ h => (by simp [blks] at h)⟩
theorem HpOK.below0 {w0 w : World} {F : Bg} {L : List Ent} (h : HpOK F L w) (hF : (Bg.of0 w0).le F) : Below w0.heap.size w0 w :=
  ⟨h.os.trans hF.os, h.tape.trans hF.tape, h.out.trans hF.out, Nat.le_trans hF.n h.n, fun k hk => by
    have e : (Bg.of0 w0).blk k = some w0.heap[k] := by simp [Bg.of0, Bg.of, hk]
    rw [h.bg k _ (hF.blk k _ e)]; simp [hk]⟩
def CellsOnly (L : List Ent) : Prop := ∀ e ∈ L, ∀ b, e.blk = some b → ∀ o, e.ok (some o) → o.isCells = true
theorem CellsOnly.nil : CellsOnly [] := fun _ h => by cases h
theorem CellsOnly.cell {b : Nat} {cs : List Value} {T : TypeId} {L : List Ent} (h : CellsOnly L) : CellsOnly (cellE b cs T :: L) := fun e he => by
  rcases List.mem_cons.1 he with rfl | he
  · intro _ _ o ho; cases ho; rfl
  · exact h e he
theorem CellsOnly.row {α : Type} {V : Value} {T : TypeId} {E : Enc α} {l : List α} {L : List Ent} (h : CellsOnly L) : CellsOnly (rowE V T E l :: L) := fun e he => by
  rcases List.mem_cons.1 he with rfl | he
  · intro b hb o ho
    rcases ho with ⟨rfl, _⟩ | ⟨g, cap, cur, _, ho, _⟩
    · cases hb
    · cases ho; rfl
  · exact h e he
theorem ent_obj {F : Bg} {L : List Ent} {w : World} (h : HpOK F L w) (hc : CellsOnly L) {b : Nat} (hb : b ∈ blks L) : ∃ o, w.heap[b]? = some o ∧ o.isCells = true := by
  obtain ⟨e, he, hk⟩ := List.mem_filterMap.1 hb
  have hlt := h.lt b hb
  have hh := h.ent e he
  unfold Ent.holds at hh
  rw [hk, Option.bind_some, Array.getElem?_eq_getElem hlt] at hh
  exact ⟨_, Array.getElem?_eq_getElem hlt, hc e he b hk _ hh⟩
/-- What lies there stays, but for a block that is no cells. -/
theorem HpOK.turned {F : Bg} {L : List Ent} {w w' : World} {row : Option Nat} {B : Nat} (h : HpOK F L w) (hc : CellsOnly L) (h0 : F.dr = 0) (hB : ∀ b o, F.blk b = some o → b < B) (hg : w.grownBy w' row)
    (hr : ∀ r, row = some r → B ≤ r ∧ ∃ o : Obj, w.heap[r]? = some o ∧ o.isCells = false) : HpOK F L w' := by
  refine ⟨hg.os.trans h.os, hg.tape.trans h.tape, hg.output.trans h.out, Nat.le_trans h.n hg.size, by rw [h0]; exact Nat.zero_le _, fun b o e => ?_, fun e he => ?_, h.nodup, fun b hm => Nat.lt_of_lt_of_le (h.lt b hm) hg.size, h.sep⟩
  · have := h.bg b o e
    rw [hg.block b (Array.getElem?_eq_some_iff.1 this).1 (fun e2 => by have := (hr b e2.symm).1; have := hB b o e; omega)]; exact this
  · have hh := h.ent e he
    unfold Ent.holds at *
    cases hk : e.blk with
    | none => rw [hk] at hh; exact hh
    | some b =>
      rw [hk] at hh
      simp only [Option.bind_some] at *
      have hb : b ∈ blks L := List.mem_filterMap.2 ⟨e, he, hk⟩
      obtain ⟨o, ho, hoc⟩ := ent_obj h hc hb
      rw [hg.block b (h.lt b hb) (fun e2 => by
        obtain ⟨_, o2, ho2, hn⟩ := hr b e2.symm
        rw [ho] at ho2; cases ho2; rw [hoc] at hn; cases hn)]
      exact hh
theorem HpOK.weaken {F G : Bg} {L : List Ent} {w : World} (h : HpOK G L w) (hF : F.le G) : HpOK F L w :=
  ⟨h.os.trans hF.os, h.tape.trans hF.tape, h.out.trans hF.out, Nat.le_trans hF.n h.n, by rw [← hF.dr]; exact h.dr, fun b o e => h.bg b o (hF.blk b o e), h.ent, h.nodup, h.lt, fun b hb => by
    refine ⟨?_, by rw [← hF.lo]; exact (h.sep b hb).2⟩
    cases e : F.blk b with
    | none => rfl
    | some o =>
      have h2 := hF.blk b o e
      rw [(h.sep b hb).1] at h2
      cases h2⟩
/-- What is not one's own becomes background, and the heap's size is known. -/
theorem HpOK.freezeN {F : Bg} {L : List Ent} {w : World} (h : HpOK F L w) : ∃ F', F.le F' ∧ HpOK F' L w ∧ F'.n = w.heap.size ∧ ∀ b o, b ∉ blks L → w.heap[b]? = some o → F'.blk b = some o := by
  refine ⟨{ F with blk := fun b => if b ∈ blks L then none else w.heap[b]?, n := w.heap.size, lo_le := Nat.le_trans F.lo_le h.n }, ⟨fun b o e => ?_, h.n, rfl, rfl, rfl, rfl, rfl⟩, ⟨h.os, h.tape, h.out, Nat.le_refl _, h.dr, fun b o e => ?_, h.ent, h.nodup, h.lt, fun b hb => ⟨?_, (h.sep b hb).2⟩⟩, rfl, fun b o hb e => ?_⟩
  · have hn : b ∉ blks L := fun hb => by rw [(h.sep b hb).1] at e; cases e
    show (if b ∈ blks L then none else w.heap[b]?) = some o
    rw [if_neg hn]; exact h.bg b o e
  · have e' : (if b ∈ blks L then none else w.heap[b]?) = some o := e
    split at e'
    · cases e'
    · exact e'
  · show (if b ∈ blks L then none else w.heap[b]?) = none
    rw [if_pos hb]
  · show (if b ∈ blks L then none else w.heap[b]?) = some o
    rw [if_neg hb]; exact e
def ownW (bs : List Nat) (W : World) (k : Nat) : Prop := k ∈ bs ∨ ∃ b ∈ bs, ∃ V, W.cell? ⟨b, 0, none⟩ = some V ∧ V.ownBlock = some k
structure KpW (bs : List Nat) (W W' : World) : Prop where
  size : W.heap.size ≤ W'.heap.size
  same : ∀ (k : Nat) (o : Obj), W.heap[k]? = some o → o.isCells = true → ¬ ownW bs W k → W'.heap[k]? = some o
  own : ∀ k, ownW bs W' k → ownW bs W k ∨ W.heap.size ≤ k
theorem ownW_same {bs : List Nat} {w w' : World} (h : ∀ b ∈ bs, w'.heap[b]? = w.heap[b]?) (k : Nat) : ownW bs w' k ↔ ownW bs w k := by
  constructor
  · rintro (h1 | ⟨b, hb, V, h1, h2⟩)
    · exact .inl h1
    · exact .inr ⟨b, hb, V, by rw [← h1]; exact (World.cell?_of_block (a := ⟨b, 0, none⟩) (h b hb)).symm, h2⟩
  · rintro (h1 | ⟨b, hb, V, h1, h2⟩)
    · exact .inl h1
    · exact .inr ⟨b, hb, V, by rw [← h1]; exact World.cell?_of_block (a := ⟨b, 0, none⟩) (h b hb), h2⟩
theorem KpW.trans {bs : List Nat} {A B C : World} (h : KpW bs A B) (k : KpW bs B C) : KpW bs A C :=
  ⟨Nat.le_trans h.size k.size, fun i o hi ho hn => k.same i o (h.same i o hi ho hn) ho fun hb => by
      rcases h.own i hb with h1 | h1
      · exact hn h1
      · have := (Array.getElem?_eq_some_iff.1 hi).1; omega,
    fun i hi => by
      rcases k.own i hi with h1 | h1
      · exact h.own i h1
      · exact .inr (Nat.le_trans h.size h1)⟩
theorem KpW.turn {bs : List Nat} {B : Nat} (hbs : ∀ b ∈ bs, b < B) (W : World) (l : Nat) (o o' : Obj) (hl : B ≤ l) (ho : W.heap[l]? = some o) (hc : o.isCells = false) : KpW bs W (W.putObj l o') := by
  have hg := grownBy_putObj' W l o'
  refine ⟨hg.size, fun k u hk hu hn => ?_, fun k hk => .inl ?_⟩
  · rw [hg.block k (Array.getElem?_eq_some_iff.1 hk).1 (fun e => by cases e; rw [ho] at hk; cases hk; rw [hc] at hu; cases hu)]; exact hk
  · rcases hk with hk | ⟨b, hb, V, hV, hV2⟩
    · exact .inl hk
    · refine .inr ⟨b, hb, V, ?_, hV2⟩
      rw [← hV]
      exact (World.cell?_of_block (World.putObj_heap_other (fun e => by have := hbs b hb; have e2 : b = l := e; omega))).symm
section
variable {P : Program} {ops : Array Oper} {Q : Exit → Act → World → Prop} {N : Nat} {F : Bg} {L : List Ent} {M : Fr} {l0 n : Nat}
def noDefer (l : List Oper) : Bool := l.all fun o => match o.op with | .defer _ => false | _ => true
theorem Oper.wp_in {o : Oper} {a : Act} {w : World} {K K' : Act → World → Prop} (hd : ∀ c, o.op ≠ .defer c) (hK : ∀ a w, K a w → K' a w) (h : o.wp P a w K Q) : o.wpIn (Fence.wide.inRound l0) n P a w K' Q := by
  have h := Oper.wp_mono hK h
  refine ⟨fun _ _ => trivial, ?_⟩
  rw [Oper.semAt_eq _ _ _ hd]
  unfold Oper.wp at h
  cases hr : (execOp a.eval o).run P w with
  | ok nx w' =>
    rw [hr] at h
    cases nx with
    | value v => exact h
    | skip => exact h
    | defer d => exact h
    | enter f args =>
      refine ⟨fun h => ?_, CallsIn.inRound l0 (callsIn_wide.2 h)⟩
      cases h
    | row r args =>
      refine ⟨fun h => ?_, fun c cs _ => ?_⟩
      · cases h
      · obtain ⟨v, w', r, s⟩ := h c cs
        exact ⟨v, w', r, (stepsIn_wide.2 s : StepsIn (Machine.fenced P Fence.wide) P _ _)⟩
    | _ => exact h.elim
  | halt e w' =>
    rw [hr] at h
    cases e <;> first | exact h | exact h.elim
theorem wpListIn_of (hno : ¬ LetsOut Q) : ∀ (l : List Oper) (a : Act) (w : World), noDefer l = true → wpList P ops Q l a w → wpListIn (Fence.wide.inRound l0) n P ops Q l a w
  | [], _, _, _, h => h
  | o :: rest, a, w, hd, h => by
    have hd1 : (∀ c, o.op ≠ .defer c) ∧ noDefer rest = true := by
      simp only [noDefer, List.all_cons, Bool.and_eq_true] at hd ⊢
      refine ⟨fun c e => ?_, hd.2⟩
      rw [e] at hd; simp at hd
    unfold wpList at h
    unfold wpListIn
    split
    · rename_i hw
      rw [if_pos hw] at h
      rcases h with h | h
      · exact Oper.wp_in hd1.1 (fun a w k => wpListIn_of hno rest a w hd1.2 k) h
      · exact absurd h.2 hno
    · rename_i hw
      rw [if_neg hw] at h
      exact ⟨fun _ _ => trivial, wpListIn_of hno rest _ w hd1.2 h⟩
theorem noThen {K : Act → World → Prop} (h : ¬ LetsOut Q) : ¬ LetsOut (Exit.then K Q) := h
theorem noIn {id : Nat} (h : ¬ LetsOut Q) : ¬ LetsOut (Exit.inBlock id Q) := h
theorem noNormal {K : Act → World → Prop} : ¬ LetsOut (fun e a w => e = Exit.normal ∧ K a w) := fun ⟨_, _, h, _⟩ => by cases h
theorem Tr.regionI {id : Nat} {l : List Oper} (hno : ¬ LetsOut Q) (hd : noDefer l = true) (h : Tr N F L M (wpList P l.toArray Q l)) : Tr N F L M ((Code.region id l.toArray false).wpIn (Fence.wide.inRound l0) n P Q) :=
  fun a w ha hw => wpIn_region_lit (wpListIn_of hno l a w hd (h a w ha hw))
theorem Tr.seqIn {x y : Code} (h : Tr N F L M (x.wpIn (Fence.wide.inRound l0) n P (Exit.then (y.wpIn (Fence.wide.inRound l0) n P Q) Q))) : Tr N F L M ((Code.seq x y).wpIn (Fence.wide.inRound l0) n P Q) := fun a w ha hw => wpIn_seq (h a w ha hw)
theorem Tr.blockIn {id : Nat} {c : Code} (h : Tr N F L M (c.wpIn (Fence.wide.inRound l0) n P (Exit.inBlock id Q))) : Tr N F L M ((Code.block id c).wpIn (Fence.wide.inRound l0) n P Q) := fun a w ha hw => wpIn_block (h a w ha hw)
theorem Tr.condIn {c : Operand} {x y : Code} {b : Bool} (hc : opv M c = some (.bool b)) (ht : b = true → Tr N F L M (x.wpIn (Fence.wide.inRound l0) n P Q)) (hf : b = false → Tr N F L M (y.wpIn (Fence.wide.inRound l0) n P Q)) :
    Tr N F L M ((Code.cond c x y).wpIn (Fence.wide.inRound l0) n P Q) := fun a w ha hw => wpIn_cond_split (ha.eval hc) (fun h => ht h a w ha hw) (fun h => hf h a w ha hw)
end
def dropMk (M : Fr) : Fr := M.filter fun e => Nat.blt e.1 mk0
theorem look_dropMk : ∀ (M : Fr) (t : Nat), look (dropMk M) t = if t < mk0 then look M t else none
  | [], t => by simp [dropMk, look]
  | (d, v) :: M, t => by
    have ih := look_dropMk M t
    unfold dropMk at *
    rw [List.filter_cons]
    by_cases h : d < mk0
    · rw [if_pos (by simp only [Nat.blt, Nat.ble_eq]; omega), look_cons, look_cons, ih]
      by_cases e : d = t
      · subst e; simp [h]
      · simp [e]
    · rw [if_neg (by simp only [Nat.blt, Nat.ble_eq]; omega), ih, look_cons]
      by_cases e : d = t
      · subst e; simp [h]
      · simp [e]
def markE (D : Nat) : Ent := ⟨some D, fun o => o = some (.deferred (some []))⟩
theorem FrOK.marked {N D : Nat} {M : Fr} {a : Act} (h : FrOK N M a) (h0 : a.defers = []) : FrOK N ((mk0 + 1 + D, undef) :: dropMk M) { a with defers := { target := .collected D, args := #[] } :: a.defers } := by
  refine ⟨fun e => ?_, fun D' e => ?_, h.size, h.lt, fun t v e => ?_⟩
  · rw [look_cons, if_neg (by omega), look_dropMk, if_neg (by omega)] at e; cases e
  · rw [look_cons, look_dropMk, if_neg (c := mk0 + 1 + D' < mk0) (by omega)] at e
    split at e
    · obtain rfl : D = D' := by omega
      show _ :: a.defers = _
      rw [h0]
    · cases e
  · rw [look_cons, look_dropMk] at e
    split at e
    · rename_i e2
      cases e
      rw [← e2, Array.getD_eq_getD_getElem?, Array.getElem?_eq_none (by have h1 : a.tmps.size = N := h.size; have := h.lt; show a.tmps.size ≤ _; omega)]; rfl
    · split at e
      · exact h.val t v e
      · cases e
theorem look_append : ∀ (A B : Fr) (t : Nat), look (A ++ B) t = match look A t with | some v => some v | none => look B t
  | [], B, t => by simp [look]
  | (d, v) :: A, B, t => by
    rw [List.cons_append, look_cons, look_cons]
    split
    · rfl
    · exact look_append A B t
theorem look_mark {M : Fr} {D : Nat} : look (dropMk M ++ [(mk0 + 1 + D, undef)]) (mk0 + 1 + D) = some undef := by
  rw [look_append, look_dropMk, if_neg (by omega)]
  show look [(mk0 + 1 + D, undef)] (mk0 + 1 + D) = _
  rw [look_cons, if_pos rfl]
theorem FrOK.marked' {N D : Nat} {M : Fr} {a : Act} (h : FrOK N M a) (h0 : a.defers = []) : FrOK N (dropMk M ++ [(mk0 + 1 + D, undef)]) { a with defers := { target := .collected D, args := #[] } :: a.defers } :=
  (h.marked h0).sub fun t v e => by
    rw [look_append, look_dropMk] at e
    rw [look_cons, look_dropMk]
    by_cases ht : t < mk0
    · rw [if_pos ht] at e ⊢
      rw [if_neg (by omega)]
      cases hl : look M t with
      | some u => rw [hl] at e; exact e
      | none =>
        rw [hl] at e
        have e' : look [(mk0 + 1 + D, undef)] t = some v := e
        rw [look_cons, if_neg (by omega)] at e'
        cases e'
    · rw [if_neg ht] at e
      have e' : look [(mk0 + 1 + D, undef)] t = some v := e
      rw [look_cons] at e'
      split at e'
      · rename_i q
        rw [if_pos q]; exact e'
      · cases e'
section
variable {P : Program} {Q : Exit → Act → World → Prop} {N : Nat} {F : Bg} {L : List Ent} {M : Fr}
theorem Tr.rangeF {α ι : Type} {gO : Operand} {p d rid : Nat} {ty : TypeId} {pos : String} {after : Array Edge} {body : Code} {gf : Nat} {lb : List Value} (enc : α → Value) (bs : List Nat) (S : List α → Prop) (okI : List α → ι → Prop) (L' : ι → List Ent) (Nm : Nat) (j0 : ι)
    (hF0 : F.dr = 0) (hM : look M mk0 = some undef) (hg : opv M gO = some (.func (.func gf) #[] lb.toArray)) (eg : ∀ (args : Array Value) (w : World), (callFunc gf args).run P w = .ok (.enter gf args) w)
    (hp : Nat.ble (p + 1) N = true) (hd : Nat.ble (d + 1) N = true) (hL : Pick L (L' j0)) (h0 : okI [] j0) (hc : ∀ j, CellsOnly (L' j)) (hbs : ∀ b ∈ bs, b ∈ blks (L' j0))
    (hown : ∀ F' j W, HpOK F' (L' j) W → ∀ k, ownW bs W k ↔ k ∈ blks (L' j))
    (hseq : ∀ w F1, F.le F1 → HpOK F1 (L' j0) w → (∀ b o, b ∉ blks (L' j0) → w.heap[b]? = some o → F1.blk b = some o) → SeqStopsK Fence.wide 2 P gf lb.toArray (fun x => #[enc x]) (KpW bs) S (fun _ => True) Nm w)
    (hbody : ∀ pre x j l0 F1, F.le F1 → okI pre j → pre.length < Nm → Tr N F1 (L' j) ((d, enc x) :: (p, enc x) :: M) (body.wpIn (Fence.wide.inRound l0) 1 P (fun e a W' => e = .normal ∧ ∃ j', okI (pre ++ [x]) j' ∧ HpOK F1 (L' j') W')))
    (hdone : ∀ xs j D F1, F.le F1 → S xs → okI xs j → Tr N F1 (markE D :: L' j) (dropMk M ++ [(mk0 + 1 + D, undef)]) (Q .normal)) :
    Tr N F L M ((Code.rangeFunc gO #[p] (Code.region rid #[⟨some d, .assign (.tmp p), ty, pos, after, none⟩] false) body).wp P Q) := by
  intro a w ha hw
  have ha0 := ha.defers0 hM
  obtain ⟨F1, e1, h1, full1⟩ := (hL.heap hw).freeze
  have hF1 : F1.dr = 0 := e1.dr.trans hF0
  have hB : ∀ b o, F1.blk b = some o → b < w.heap.size := fun b o e => (Array.getElem?_eq_some_iff.1 (h1.bg b o e)).1
  refine (wpIn_wide (n := 3)).1 ?_
  refine wpIn_rangeFunc_ownF (n := 3) rfl (by omega) (ha.eval hg) trivial eg (hseq w F1 e1 h1 full1) KpW.trans (fun W l o o' hl ho hc _ => KpW.turn (fun b hb => h1.lt b (hbs b hb)) W l o o' hl ho hc) (Below.refl _ _) (fun _ => rfl)
    (fun pre W => ∃ j, okI pre j ∧ HpOK F1 (L' j) W) (fun _ _ _ => False) (fun pre W W' row ⟨j, k1, k2⟩ hgr hr => ⟨j, k1, k2.turned (hc j) hF1 hB hgr hr⟩) (fun _ _ _ _ _ h _ _ => h) ⟨j0, h0, h1⟩
    (fun x => { tmps := (a.tmps.setIfInBounds p (enc x)).setIfInBounds d (enc x), defers := [] }) ?_ ?_ ?_ (fun _ _ _ _ _ _ h _ => h.elim)
  · intro l x W K hK
    refine wpIn_region_lit (l := [⟨some d, .assign (.tmp p), ty, pos, after, none⟩]) (wpListIn_plain rfl fun K' hK' => ?_)
    refine ⟨fun _ _ => trivial, ?_⟩
    rw [Oper.semAt_eq _ _ _ (fun c h => by cases h)]
    have hpN : p < a.tmps.size := by rw [ha.size]; exact Nat.le_of_ble_eq_true hp
    simp only [execOp, Sem.run_pure, Oper.uponIn, Act.put, Act.eval]
    refine hK' _ _ ?_
    show wpListIn _ _ _ _ _ [] _ W
    unfold wpListIn
    show K _ W
    have e : ((#[p].zip #[enc x]).foldl (fun t (pv : Nat × Value) => t.setIfInBounds pv.1 pv.2) a.tmps) = a.tmps.setIfInBounds p (enc x) := by simp
    have e2 : (a.tmps.setIfInBounds p (enc x)).getD p undef = enc x := by simp [Array.getD_eq_getD_getElem?, hpN]
    have e3 : ((#[p].zip #[enc x]).foldl (fun t (pv : Nat × Value) => t.setIfInBounds pv.1 pv.2) a.tmps).getD p undef = enc x := by rw [e]; exact e2
    simp only [e] at e3 ⊢
    first
      | (rw [e3]; exact hK)
      | (simp only [e2]; exact hK)
      | (simpa [e2] using hK)
  · rintro l pre x W ⟨j, k1, k2⟩ hlen
    obtain ⟨F2, e2, h2, hn2, full2⟩ := k2.freezeN
    have ht := hbody pre x j l F2 (e1.trans e2) k1 hlen
    have hfr : FrOK N ((d, enc x) :: (p, enc x) :: M) { tmps := (a.tmps.setIfInBounds p (enc x)).setIfInBounds d (enc x), defers := [] } := by
      have hz := (ha.put (v := enc x) (Nat.le_of_ble_eq_true hp)).put (v := enc x) (Nat.le_of_ble_eq_true hd)
      have hz' : ((a.put (some p) (enc x)).put (some d) (enc x)) = { tmps := (a.tmps.setIfInBounds p (enc x)).setIfInBounds d (enc x), defers := a.defers } := rfl
      rw [hz', ha0] at hz
      exact hz
    refine wpIn_mono (ht _ W hfr h2) fun e a' W' hq => ?_
    obtain ⟨rfl, j', k3, k4⟩ := hq
    have keep : ∀ k o, W.heap[k]? = some o → k ∉ blks (L' j) → W'.heap[k]? = some o := fun k o hk hn => k4.bg k o (full2 k o hn hk)
    have hsz : W.heap.size ≤ W'.heap.size := by rw [← hn2]; exact k4.n
    refine ⟨⟨hsz, fun k o hk ho => keep k o hk fun hm => ?_⟩, ⟨hsz, fun k o hk ho hn => keep k o hk fun hm => ?_, fun k hk => ?_⟩, ⟨j', k3, k4.weaken e2⟩⟩
    · obtain ⟨o2, ho2, hc2⟩ := ent_obj h2 (hc j) hm
      rw [hk] at ho2; cases ho2; rw [ho] at hc2; cases hc2
    · exact hn ((hown _ _ _ h2 k).2 hm)
    · have hk2 := (hown _ _ _ k4 k).1 hk
      by_cases hlt : k < W.heap.size
      · left
        refine (hown _ _ _ h2 k).2 (Decidable.byContradiction fun hm => ?_)
        have := full2 k _ hm (Array.getElem?_eq_getElem hlt)
        rw [(k4.sep k hk2).1] at this
        cases this
      · exact .inr (by omega)
  · rintro D xs W hD hS ⟨j, k1, k2⟩ hK
    have hDl : D < W.heap.size := (Array.getElem?_eq_some_iff.1 hK).1
    have hDn : D ∉ blks (L' j) := fun hm => by
      obtain ⟨o, ho, hcc⟩ := ent_obj k2 (hc j) hm
      rw [hK] at ho; cases ho; cases hcc
    refine hdone xs j D F1 e1 hS k1 _ W (ha.marked' ha0) ⟨k2.os, k2.tape, k2.out, k2.n, k2.dr, k2.bg, fun e he => ?_, ?_, ?_, ?_⟩
    · rcases List.mem_cons.1 he with rfl | he
      · exact hK
      · exact k2.ent e he
    · exact List.nodup_cons.2 ⟨hDn, k2.nodup⟩
    · intro b hb
      rcases List.mem_cons.1 hb with rfl | hb
      · exact hDl
      · exact k2.lt b hb
    · intro b hb
      rcases List.mem_cons.1 hb with rfl | hb
      · refine ⟨?_, Nat.le_trans (Nat.le_trans F1.lo_le h1.n) hD⟩
        cases e : F1.blk b with
        | none => rfl
        | some o => have := hB b o e; omega
      · exact k2.sep b hb
end
section
variable {P : Program} {N : Nat} {F : Bg} {L : List Ent} {M : Fr}
theorem QS.min4 {dst : Option Tmp} {ty : TypeId} {pos : String} {after : Array Edge} {g : Option (Nat × Bool)} {x y z u : Operand} {ts : Array TypeId} {k : IntKind} {m n o p : Int} (hx : opv M x = some (.int k m)) (hy : opv M y = some (.int k n)) (hz : opv M z = some (.int k o)) (hu : opv M u = some (.int k p)) :
    QS P N F L M ⟨dst, .call { callee := .builtin .min, args := #[x, y, z, u], argTypes := ts }, ty, pos, after, g⟩ (.int k (min (min (min m n) o) p)) :=
  QS.of_run fun A w ha hw => by
    have e : ∀ a b : Int, (if b < a then b else a) = min a b := fun a b => by omega
    simp [execOp, resolve, invoke, builtin, ha.eval hx, ha.eval hy, ha.eval hz, ha.eval hu, Builtin.min_, Builtin.min2, e]
end
section
variable {P : Program} {Q : Exit → Act → World → Prop} {N : Nat} {F : Bg} {L : List Ent} {M : Fr}
/-- Left by 'return' alone. -/
def retOnly (Q : Exit → Act → World → Prop) : Exit → Act → World → Prop := fun e a w => e = .ret ∧ Q .ret a w
theorem panicRet {Q : Exit → Act → World → Prop} : ∀ c a d v w, retOnly Q (.panic c) (a.put d v) w → retOnly Q (.panic c) a w := fun c a d v w h => by cases h.1
theorem enterM {f : FuncId} {fn : Func} {c : Code} {args : List Value} {w : World} {R : Ending → World → Prop} (hf : P.funcs[f]? = some fn) (hb : fn.body = some c) (hN : fn.ntmps = N) (hle : Nat.ble args.length N = true)
    (h : Tr N (Bg.of0 w) [] (frameOf 0 args) (c.wp P (retOnly (bodyPostM Fence.wide 3 P fn R)))) (hN0 : Nat.ble N mk0 = true := by rfl) : Calls P f args.toArray w R :=
  (callsIn_wide (n := 3)).1 (callsIn_of_wp_marks hf hb trivial (wpIn_wide.2 (Code.wp_mono (fun e a w q => by obtain ⟨rfl, q⟩ := q; exact q) (h _ w (frameOf_ok (by rw [hN]; simp) hle hN0) (HpOK.start0 w)))))
theorem enter0 {f : FuncId} {fn : Func} {c : Code} {args : List Value} {w : World} {R : Ending → World → Prop} (hf : P.funcs[f]? = some fn) (hb : fn.body = some c) (hN : fn.ntmps = N) (hle : Nat.ble args.length N = true)
    (h : Tr N (Bg.of0 w) [] (frameOf 0 args) (c.wp P (bodyPost P fn R))) (hN0 : Nat.ble N mk0 = true := by rfl) : Calls P f args.toArray w R :=
  calls_of_wp hf hb (h _ w (frameOf_ok (by rw [hN]; simp) hle hN0) (HpOK.start0 w))
theorem Tr.retM2 {D : Nat} {fn : Func} {R : Ending → World → Prop} {t u : Tmp} {v v' : Value} {L1 : List Ent} (hr : fn.results = #[.tmp t, .tmp u]) (hv : look M t = some v) (hv' : look M u = some v') (hD : look M (mk0 + 1 + D) = some undef) (hm : Del (markE D) L L1)
    (h : ∀ w, HpOK F L1 w → R (.returned (.tuple #[v, v'])) w) : Tr N F L M (retOnly (bodyPostM Fence.wide 3 P fn R) .ret) := by
  intro a w ha hw
  refine ⟨rfl, ?_⟩
  have hf := hw.front hm
  have hK : w.heap[D]? = some (.deferred (some [])) := hf.ent _ (.head _)
  show LeavesInM Fence.wide 3 P fn a.tmps R a.defers .returning w
  rw [ha.defersD D hD]
  refine ⟨by simp, .inl ⟨_, _, rfl, run_takeDeferred hK, ?_⟩⟩
  have h2 : HpOK F (⟨some D, fun _ => True⟩ :: L1) (w.putObj D (.deferred none)) :=
    HpOK.set (p := fun o => o = some (.deferred (some []))) (p' := fun _ => True) hf (.here _) rfl rfl rfl (grownBy_putObj' w D _).size (Nat.le_refl _) (fun k hk hkb => (grownBy_putObj' w D _).block k hk (fun e => hkb (Option.some.inj e))) trivial
  have h3 : HpOK F L1 (w.putObj D (.deferred none)) := h2.mem (List.sublist_cons_self _ _)
  exact ⟨_, results_tmp2 hr a.tmps P _, by rw [ha.val t v hv, ha.val u v' hv']; exact h _ h3⟩
theorem HpOK.cellNew {F : Bg} {L : List Ent} {w w' : World} {b : Nat} {cs : List Value} {T : TypeId} (h : HpOK F L w') (hl : F.lo = w.heap.size) (hm : cellE b cs T ∈ L) : CellsIn (newHp w w') b cs := by
  have he : w'.heap[b]? = some (.cells cs.toArray T (0, 0)) := h.ent _ hm
  have hb := (h.sep b (List.mem_filterMap.2 ⟨_, hm, rfl⟩)).2
  refine ⟨cs.toArray, T, (0, 0), ?_, fun j v hv => by simpa using hv⟩
  show (if b < w.heap.size then none else w'.heap[b]?) = _
  rw [if_neg (by omega)]; exact he
theorem HpOK.new0 {α : Type} {F : Bg} {L : List Ent} {w w' : World} {T : TypeId} {E : Enc α} {l : List α} {V : Value} (h : HpOK F L w') (hl : F.lo = w.heap.size) (hm : rowE V T E l ∈ L) : NewRow w w' T E l V :=
  ⟨h.ent _ hm, fun b hb => by rw [← hl]; exact (h.sep b (List.mem_filterMap.2 ⟨_, hm, hb⟩)).2⟩
/-- The present world becomes the background. -/
theorem Tr.now {X : Act → World → Prop} (K : ∀ W1, HpOK F L W1 → Tr N (Bg.of0 W1) [] M X) : Tr N F L M X := fun a w ha hw => K w hw a w ha (HpOK.start0 w)
theorem HpOK.grown {Ws w : World} (h : HpOK (Bg.of0 Ws) [] w) : Ws.grownBy w none :=
  have b := h.below0 (Bg.le.refl _)
  ⟨b.os, b.tape, b.output, b.size, fun k hk _ => b.block k hk⟩
theorem wpListIn_value {n : Nat} {ops : Array Oper} {o : Oper} {rest : List Oper} {a : Act} {w : World} {v : Value} (hg : o.guard = none) (hr : (execOp a.eval o).run P w = .ok (.value v) w) (h : wpListIn Fence.wide n P ops Q rest (a.put o.dst v) w) : wpListIn Fence.wide n P ops Q (o :: rest) a w :=
  wpListIn_plain hg fun K hK => by
    refine ⟨fun _ _ => trivial, ?_⟩
    show o.uponIn _ _ _ _ _ _ ((execOp a.eval o).run P w)
    rw [hr]; exact hK _ _ h
/-- 'if !yield(x)': the round comes back with yes, or no. -/
theorem Tr.yield {α : Type} (enc : α → Value) {J Jx : List α → World → Prop} {Kp : World → World → Prop} {l B : Nat} {Ws : World} {pre : List α} {x : α} {id f y d0 d1 d2 d3 : Nat} {t0 t1 t2 t3 : TypeId} {p0 p1 p2 p3 : String} {a0 a1 a2 a3 : Array Edge} {ts : Array TypeId}
    (hf : look M f = some (.func (.yield l) #[] #[])) (hy : look M y = some (enc x)) (hne : Nat.beq d0 y = false) (h01 : Nat.beq d1 d0 = false) (hJ : J pre Ws) (hA : AbidesFrom B J)
    (hY : ∀ W1, J pre W1 → YieldAt Fence.wide 1 P l #[enc x] W1 fun e W' => (e = .returned (.bool true) ∧ J (pre ++ [x]) W' ∧ Kp W1 W') ∨ (e = .returned (.bool false) ∧ Jx (pre ++ [x]) W'))
    (hd0 : Nat.ble (d0 + 1) N = true) (hd1 : Nat.ble (d1 + 1) N = true) (hd2 : Nat.ble (d2 + 1) N = true) (hd3 : Nat.ble (d3 + 1) N = true)
    (K1 : ∀ W1 W', HpOK (Bg.of0 Ws) [] W1 → Kp W1 W' → J (pre ++ [x]) W' → Tr N (Bg.of0 W') [] ((d3, .bool false) :: (d2, .bool true) :: (d1, enc x) :: (d0, .func (.yield l) #[] #[]) :: M) (Q .normal))
    (K2 : ∀ W', Jx (pre ++ [x]) W' → Tr N (Bg.of0 W') [] ((d3, .bool true) :: (d2, .bool false) :: (d1, enc x) :: (d0, .func (.yield l) #[] #[]) :: M) (Q .normal)) :
    Tr N (Bg.of0 Ws) [] M ((Code.region id #[⟨some d0, .move (.tmp f), t0, p0, a0, none⟩, ⟨some d1, .move (.tmp y), t1, p1, a1, none⟩, ⟨some d2, .call { callee := .value (.tmp d0), args := #[.tmp d1], argTypes := ts }, t2, p2, a2, none⟩, ⟨some d3, .unOp .not 4 (.tmp d2), t3, p3, a3, none⟩] false).wp P Q) := by
  intro a w ha hw
  have hj : J pre w := hA pre Ws w none hJ hw.grown (fun r e => by cases e)
  obtain ⟨fn, tmps, assign, body, hy1, hR⟩ := hY w hj
  have ne1 : d0 ≠ y := Nat.ne_of_beq_eq_false hne
  have ne2 : d1 ≠ d0 := Nat.ne_of_beq_eq_false h01
  have b0 := Nat.le_of_ble_eq_true hd0
  have b1 := Nat.le_of_ble_eq_true hd1
  have b2 := Nat.le_of_ble_eq_true hd2
  have b3 := Nat.le_of_ble_eq_true hd3
  have ha1 := ha.put (v := .func (.yield l) #[] #[]) b0
  have ha2 := ha1.put (v := enc x) b1
  refine (wpIn_wide (n := 2)).1 (wpIn_region_lit (l := [_, _, _, _]) ?_)
  refine wpListIn_value rfl (QS.run (QS.move (N := N) (F := Bg.of0 w) (L := []) (M := M) (x := .tmp f) (v := .func (.yield l) #[] #[]) (by show look _ f = _; exact hf)) rfl ha (HpOK.start0 w)) ?_
  refine wpListIn_value rfl (QS.run (QS.move (N := N) (F := Bg.of0 w) (L := []) (M := (d0, .func (.yield l) #[] #[]) :: M) (x := .tmp y) (v := enc x) (by show look _ y = _; rw [look_cons, if_neg ne1]; exact hy)) rfl ha1 (HpOK.start0 w)) ?_
  have hv0 : ((a.put (some d0) (.func (.yield l) #[] #[])).put (some d1) (enc x)).eval (.tmp d0) = .func (.yield l) #[] #[] := ha2.eval (x := .tmp d0) (by show look _ d0 = _; rw [look_cons, if_neg ne2, look_cons, if_pos rfl])
  have hv1 : ((a.put (some d0) (.func (.yield l) #[] #[])).put (some d1) (enc x)).eval (.tmp d1) = enc x := ha2.eval (x := .tmp d1) (by show look _ d1 = _; rw [look_cons, if_pos rfl])
  refine wpListIn_plain rfl fun K hK => ?_
  refine ⟨fun _ _ => trivial, ?_⟩
  have hcall : (execOp ((a.put (some d0) (.func (.yield l) #[] #[])).put (some d1) (enc x)).eval ⟨some d2, .call { callee := .value (.tmp d0), args := #[.tmp d1], argTypes := ts }, t2, p2, a2, none⟩).run P w = .ok (.round l fn tmps assign body) w := by
    simp [execOp, resolve, Deferred.ofValue, hv0, hv1, invoke, hy1]
  rw [show ∀ ρ o, Oper.semAt Fence.wide.round ρ o = execOp ρ o from fun _ _ => rfl, hcall]
  refine ⟨fun h => ?_, hR.mono ?_⟩
  · cases h
  · rintro e W' (⟨rfl, hJ', hk⟩ | ⟨rfl, hJx⟩)
    · have ha3 := ha2.put (v := .bool true) b2
      refine hK _ _ (wpListIn_value (v := .bool false) rfl ?_ ?_)
      · exact QS.run (QS.not (N := N) (F := Bg.of0 W') (L := []) (M := (d2, .bool true) :: (d1, enc x) :: (d0, .func (.yield l) #[] #[]) :: M) (x := .tmp d2) (b := true) (by show look _ d2 = _; rw [look_cons, if_pos rfl])) rfl ha3 (HpOK.start0 W')
      · exact K1 w W' hw hk hJ' _ W' (ha3.put b3) (HpOK.start0 W')
    · have ha3 := ha2.put (v := .bool false) b2
      refine hK _ _ (wpListIn_value (v := .bool true) rfl ?_ ?_)
      · exact QS.run (QS.not (N := N) (F := Bg.of0 W') (L := []) (M := (d2, .bool false) :: (d1, enc x) :: (d0, .func (.yield l) #[] #[]) :: M) (x := .tmp d2) (b := false) (by show look _ d2 = _; rw [look_cons, if_pos rfl])) rfl ha3 (HpOK.start0 W')
      · exact K2 W' hJx _ W' (ha3.put b3) (HpOK.start0 W')
end
section
open Classical
noncomputable def keptHp (bs : List Nat) (w W1 : World) : Hp := fun k => match W1.heap[k]? with
  | some o => if o.isCells = true ∧ ¬ ownW bs w k then some o else none
  | none => none
theorem keptHp_some {bs : List Nat} {w W1 : World} {k : Nat} {o : Obj} (h : keptHp bs w W1 k = some o) : W1.heap[k]? = some o ∧ o.isCells = true ∧ ¬ ownW bs w k := by
  unfold keptHp at h
  split at h
  · rename_i o' ho
    split at h
    · rename_i hq
      cases h; exact ⟨ho, hq⟩
    · cases h
  · cases h
theorem keptHp_le {bs : List Nat} {w W1 : World} : Hp.le (keptHp bs w W1) (hp W1) := fun b o e => (keptHp_some e).1
theorem keptHp_of {bs : List Nat} {w W1 : World} {H : Hp} (hH : Hp.le H (hp W1)) (hc : ∀ k o, H k = some o → o.isCells = true) (hn : ∀ k, ownW bs w k → H k = none) : Hp.le H (keptHp bs w W1) := fun b o e => by
  have h1 : W1.heap[b]? = some o := hH b o e
  unfold keptHp
  rw [h1]
  show (if o.isCells = true ∧ ¬ ownW bs w b then some o else none) = some o
  rw [if_pos ⟨hc b o e, fun h => by rw [hn b h] at e; cases e⟩]
/-- The cells alone. -/
def cellsHp (H : Hp) : Hp := fun k => match H k with
  | some (.cells c T f) => some (.cells c T f)
  | _ => none
theorem cellsHp_of {H : Hp} {k : Nat} {c : Array Value} {T : TypeId} {f : Nat × Nat} (h : H k = some (.cells c T f)) : cellsHp H k = some (.cells c T f) := by unfold cellsHp; rw [h]
theorem cellsHp_some {H : Hp} {k : Nat} {o : Obj} (h : cellsHp H k = some o) : H k = some o ∧ o.isCells = true := by
  unfold cellsHp at h
  split at h
  · rename_i c T f hq
    cases h; exact ⟨hq, rfl⟩
  · cases h
theorem Sl.cellsHp {α : Type} {H : Hp} {E : Enc α} {l : List α} {V : Value} (s : Sl H E l V) : Sl (HL.cellsHp H) E l V :=
  ⟨s.shape, fun i x hx => let ⟨cs, T, fz, hb, hc⟩ := s.cells i x hx; ⟨cs, T, fz, cellsHp_of hb, hc⟩⟩
theorem CellsIn.cellsHp {H : Hp} {b : Nat} {vs : List Value} (c : CellsIn H b vs) : CellsIn (HL.cellsHp H) b vs := let ⟨cs, T, fz, h1, h2⟩ := c; ⟨cs, T, fz, cellsHp_of h1, h2⟩
theorem newHp_kept {bs : List Nat} {w W1 : World} (hn : ∀ k, ownW bs w k → k < w.heap.size) : Hp.le (cellsHp (newHp w W1)) (keptHp bs w W1) := fun k o e => by
  obtain ⟨h1, h2⟩ := cellsHp_some e
  unfold newHp at h1
  split at h1
  · cases h1
  · rename_i hk
    unfold keptHp
    rw [h1]
    show (if o.isCells = true ∧ ¬ ownW bs w k then some o else none) = some o
    rw [if_pos ⟨h2, fun h => hk (hn k h)⟩]
/-- The kept heap stands a round. -/
theorem keptHp_round {bs : List Nat} {w W1 Ws W2 W' : World} (h1 : Hp.le (keptHp bs w W1) (hp Ws)) (hb : W1.heap.size ≤ Ws.heap.size) (ho : ∀ k, ownW bs Ws k → ownW bs w k ∨ W1.heap.size ≤ k) (hbs : ∀ b ∈ bs, b < Ws.heap.size) (hg : Ws.grownBy W2 none) (hk : KpW bs W2 W') :
    Hp.le (keptHp bs w W1) (hp W') ∧ W1.heap.size ≤ W'.heap.size ∧ (∀ k, ownW bs W' k → ownW bs w k ∨ W1.heap.size ≤ k) ∧ ∀ b ∈ bs, b < W'.heap.size := by
  have same : ∀ k, ownW bs W2 k ↔ ownW bs Ws k := ownW_same fun b hb => hg.block b (hbs b hb) (by simp)
  refine ⟨fun k o e => ?_, by have := hg.size; have := hk.size; omega, fun k h => ?_, fun b hb' => by have := hbs b hb'; have := hg.size; have := hk.size; omega⟩
  · have h2 := h1 k o e
    have h3 : W2.heap[k]? = some o := (hg.block k (Array.getElem?_eq_some_iff.1 h2).1 (by simp)).trans h2
    obtain ⟨q1, q2, q3⟩ := keptHp_some e
    refine hk.same k o h3 q2 fun hn => ?_
    have := (Array.getElem?_eq_some_iff.1 q1).1
    rcases ho k ((same k).1 hn) with q | q
    · exact q3 q
    · omega
  · rcases hk.own k h with q | q
    · exact ho k ((same k).1 q)
    · exact .inr (by have := hg.size; omega)
end
section
variable {P : Program} {N : Nat} {F : Bg} {L : List Ent} {M : Fr}
/-- A variable of one's own is only read from then on. -/
theorem Tr.frozenC {b : Nat} {cs : List Value} {T : TypeId} {L1 : List Ent} {X : Act → World → Prop} (hm : Del (cellE b cs T) L L1) (K : ∀ F', F.le F' → CellsIn F'.blk b cs → Tr N F' L1 M X) : Tr N F L M X := by
  intro a w ha hw
  have hf := hw.front hm
  have h1 : HpOK F L1 w := hf.mem (List.sublist_cons_self _ _)
  obtain ⟨F', e1, e2, e3⟩ := h1.freeze
  refine K F' e1 ?_ a w ha e2
  have he : w.heap[b]? = some (.cells cs.toArray T (0, 0)) := hf.ent _ (.head _)
  refine ⟨cs.toArray, T, (0, 0), e3 b _ ?_ he, fun j v hv => by simpa using hv⟩
  have := hf.nodup
  rw [blks_some (b := b) rfl, List.nodup_cons] at this
  exact this.1
theorem own_two {α β : Type} {F : Bg} {W : World} {bf bb : Nat} {Vf Vb : Value} {T1 T2 T3 T4 : TypeId} {E : Enc α} {G : Enc β} {xs : List α} {ys : List β} (h : HpOK F [cellE bf [Vf] T1, cellE bb [Vb] T2, rowE Vf T3 E xs, rowE Vb T4 G ys] W) (k : Nat) :
    ownW [bf, bb] W k ↔ k ∈ blks [cellE bf [Vf] T1, cellE bb [Vb] T2, rowE Vf T3 E xs, rowE Vb T4 G ys] := by
  have e1 : W.heap[bf]? = some (.cells [Vf].toArray T1 (0, 0)) := h.ent _ (.head _)
  have e2 : W.heap[bb]? = some (.cells [Vb].toArray T2 (0, 0)) := h.ent _ (.tail _ (.head _))
  have c1 : W.cell? ⟨bf, 0, none⟩ = some Vf := by simp [World.cell?, e1]
  have c2 : W.cell? ⟨bb, 0, none⟩ = some Vb := by simp [World.cell?, e2]
  have hb : blks [cellE bf [Vf] T1, cellE bb [Vb] T2, rowE Vf T3 E xs, rowE Vb T4 G ys] = bf :: bb :: (Vf.ownBlock.toList ++ Vb.ownBlock.toList) := by
    cases h1 : Vf.ownBlock <;> cases h2 : Vb.ownBlock <;> simp [blks, cellE, rowE, h1, h2]
  rw [hb]
  simp only [ownW, List.mem_cons, List.not_mem_nil, or_false, List.mem_append, Option.mem_toList, Option.mem_def]
  constructor
  · rintro ((rfl | rfl) | ⟨b, rfl | rfl, V, hV, hk⟩)
    · exact .inl rfl
    · exact .inr (.inl rfl)
    · rw [c1] at hV; cases hV; exact .inr (.inr (.inl hk))
    · rw [c2] at hV; cases hV; exact .inr (.inr (.inr hk))
  · rintro (rfl | rfl | hk | hk)
    · exact .inl (.inl rfl)
    · exact .inl (.inr rfl)
    · exact .inr ⟨bf, .inl rfl, Vf, c1, hk⟩
    · exact .inr ⟨bb, .inr rfl, Vb, c2, hk⟩
end
theorem HpOK.ents0 {F : Bg} {L : List Ent} {w w' : World} {Ls : List Ent} (h : HpOK F L w') (hl : F.lo = w.heap.size) (hs : Pick L Ls) : NewEnts w w' Ls := by
  have h' := hs.heap h
  refine ⟨h'.ent, h'.nodup, h'.lt, fun b hb => ?_⟩
  rw [← hl]; exact (h'.sep b hb).2
end Go.HL
namespace Go.HL
open Go
def pairsOf (l : List Rng) : List UInt32 := l.flatMap fun r => [r.lo, r.hi]
theorem pairs_take_succ {l : List Rng} {k : Nat} (h : k < l.length) : pairsOf (l.take (k + 1)) = pairsOf (l.take k) ++ [(l.getD k default).lo] ++ [(l.getD k default).hi] := by
  rw [take_succ h]; simp only [pairsOf, List.flatMap_append, List.flatMap_cons, List.flatMap_nil, List.append_nil, List.append_assoc]; rfl
theorem pairs_len : ∀ l : List Rng, (pairsOf l).length = 2 * l.length
  | [] => rfl
  | r :: l => by have := pairs_len l; simp only [pairsOf, List.flatMap_cons, List.length_append, List.length_cons, List.length_nil] at *; omega
def lastU (out : List UInt32) : UInt32 := out.getD ((out.length : Int) - 1).toNat default
def scanStep (out : List UInt32) (s : UInt32 × Bool) (x : UInt32) : UInt32 × Bool :=
  if ((out.length : Int) = 0 ∨ lastU out < x) ∧ (s.2 = false ∨ x < s.1) then (x, true) else s
theorem scanStep_neg {out : List UInt32} {s : UInt32 × Bool} {x : UInt32} (h : (¬ (out.length : Int) = 0 ∧ ¬ lastU out < x) ∨ (s.2 = true ∧ ¬ x < s.1)) : scanStep out s x = s := by
  unfold scanStep
  rw [if_neg]
  rintro ⟨h1, h2⟩
  rcases h with h | h
  · exact h1.elim h.1 h.2
  · rcases h2 with h2 | h2
    · rw [h.1] at h2; simp at h2
    · exact h.2 h2
def scan (all out : List UInt32) : UInt32 × Bool := all.foldl (scanStep out) (0, false)
def boundsF (all : List UInt32) : Nat → List UInt32 → List UInt32
  | 0, out => out
  | n + 1, out => if (scan all out).2 = false then out else boundsF all n (out ++ [(scan all out).1])
def boundsP (a b : List Rng) : List UInt32 := boundsF (pairsOf a ++ pairsOf b) (pairsOf a ++ pairsOf b).length []
theorem boundsF_len (all : List UInt32) : ∀ n out, (boundsF all n out).length ≤ out.length + n
  | 0, out => by simp [boundsF]
  | n + 1, out => by
    unfold boundsF; split
    · omega
    · have := boundsF_len all n (out ++ [(scan all out).1]); simp at this; omega
def inC (a b : List Rng) (both without : Bool) (c : UInt32) : Bool :=
  if (without && b.any (inR c)) = true then false else (a.any (inR c) || (both && b.any (inR c)))
def chStep (a b : List Rng) (both without : Bool) (cuts : List UInt32) (out : List Rng) (i : Nat) : List Rng :=
  if inC a b both without (cuts.getD i default) = true then
    (if 0 < (out.length : Int) ∧ (lastR out).hi = cuts.getD i default then out.set ((out.length : Int) - 1).toNat ⟨(lastR out).lo, cuts.getD (i + 1) default⟩ else out ++ [⟨cuts.getD i default, cuts.getD (i + 1) default⟩])
  else out
theorem inC_cut {a b : List Rng} {both without : Bool} {c : UInt32} (h : without = true ∧ b.any (inR c) = true) : inC a b both without c = false := by
  rw [inC, if_pos (by rw [h.1, h.2]; rfl)]
theorem inC_eq {a b : List Rng} {both without : Bool} {c : UInt32} (h : without = false ∨ b.any (inR c) = false) : inC a b both without c = (a.any (inR c) || (both && b.any (inR c))) := by
  rw [inC, if_neg]
  rcases h with h | h <;> rw [h] <;> simp
theorem inC_no {a b : List Rng} {both without : Bool} {c : UInt32} (h : without = false ∨ b.any (inR c) = false) (h2 : a.any (inR c) = false ∧ (both = false ∨ b.any (inR c) = false)) : inC a b both without c = false := by
  rw [inC_eq h, h2.1]
  rcases h2.2 with h2 | h2 <;> rw [h2] <;> simp
theorem inC_yes {a b : List Rng} {both without : Bool} {c : UInt32} (h : without = false ∨ b.any (inR c) = false) (h2 : a.any (inR c) = true ∨ both = true ∧ b.any (inR c) = true) : inC a b both without c = true := by
  rw [inC_eq h]
  rcases h2 with h2 | ⟨h2, h3⟩
  · rw [h2]; rfl
  · rw [h2, h3]; simp
theorem chStep_no {a b : List Rng} {both without : Bool} {cuts : List UInt32} {out : List Rng} {i : Nat} (h : inC a b both without (cuts.getD i default) = false) : chStep a b both without cuts out i = out := by
  rw [chStep, if_neg (by rw [h]; simp)]
theorem chStep_set {a b : List Rng} {both without : Bool} {cuts : List UInt32} {out : List Rng} {i : Nat} (h : inC a b both without (cuts.getD i default) = true) (h2 : 0 < (out.length : Int) ∧ (lastR out).hi = cuts.getD i default) :
    chStep a b both without cuts out i = out.set ((out.length : Int) - 1).toNat ⟨(lastR out).lo, cuts.getD (i + 1) default⟩ := by rw [chStep, if_pos h, if_pos h2]
theorem chStep_app {a b : List Rng} {both without : Bool} {cuts : List UInt32} {out : List Rng} {i : Nat} (h : inC a b both without (cuts.getD i default) = true) (h2 : ¬ 0 < (out.length : Int) ∨ ¬ (lastR out).hi = cuts.getD i default) :
    chStep a b both without cuts out i = out ++ [⟨cuts.getD i default, cuts.getD (i + 1) default⟩] := by rw [chStep, if_pos h, if_neg (fun q => h2.elim (fun z => z q.1) (fun z => z q.2))]
def chF (a b : List Rng) (both without : Bool) (cuts : List UInt32) (k : Nat) : List Rng := (List.range k).foldl (chStep a b both without cuts) []
def chooseP (a b : List Rng) (both without : Bool) : List Rng := chF a b both without (boundsP a b) ((boundsP a b).length - 1)
theorem chF_succ (a b : List Rng) (both without : Bool) (cuts : List UInt32) (k : Nat) : chF a b both without cuts (k + 1) = chStep a b both without cuts (chF a b both without cuts k) k := by
  simp [chF, List.range_succ]
theorem chF_len (a b : List Rng) (both without : Bool) (cuts : List UInt32) : ∀ k, (chF a b both without cuts k).length ≤ k
  | 0 => by simp [chF]
  | k + 1 => by
    have := chF_len a b both without cuts k
    rw [chF_succ]; unfold chStep; split
    · split <;> simp <;> omega
    · omega
theorem boundsP_len (a b : List Rng) : (boundsP a b).length ≤ 2 * a.length + 2 * b.length := by
  have := boundsF_len (pairsOf a ++ pairsOf b) (pairsOf a ++ pairsOf b).length []
  simp only [List.length_append, pairs_len, List.length_nil] at this
  unfold boundsP; simp only [List.length_append, pairs_len]; omega
end Go.HL
namespace Go.HL
open Go Go.Sort
def SA (l : List UInt32) : Prop := l.Pairwise fun x y => x.toNat < y.toNat
def okU (out : List UInt32) (x : UInt32) : Prop := (out.length : Int) = 0 ∨ lastU out < x
theorem scan_ok (out : List UInt32) : ∀ (l : List UInt32) (s : UInt32 × Bool),
    ((l.foldl (scanStep out) s).2 = false → s.2 = false ∧ ∀ x ∈ l, ¬ okU out x) ∧
    ((l.foldl (scanStep out) s).2 = true → ((s.2 = true ∧ (l.foldl (scanStep out) s).1 = s.1) ∨ ((l.foldl (scanStep out) s).1 ∈ l ∧ okU out (l.foldl (scanStep out) s).1)) ∧
      (∀ x ∈ l, okU out x → (l.foldl (scanStep out) s).1.toNat ≤ x.toNat) ∧ (s.2 = true → (l.foldl (scanStep out) s).1.toNat ≤ s.1.toNat))
  | [], s => by
    refine ⟨fun h => ⟨h, by simp⟩, fun h => ⟨.inl ⟨h, rfl⟩, by simp, fun _ => Nat.le_refl _⟩⟩
  | y :: l, s => by
    have ih := scan_ok out l (scanStep out s y)
    simp only [List.foldl_cons]
    generalize l.foldl (scanStep out) (scanStep out s y) = r at ih ⊢
    by_cases hc : ((out.length : Int) = 0 ∨ lastU out < y) ∧ (s.2 = false ∨ y < s.1)
    · have e : scanStep out s y = (y, true) := by rw [scanStep, if_pos hc]
      rw [e] at ih
      refine ⟨fun h => absurd (ih.1 h).1 (by simp), fun h => ?_⟩
      obtain ⟨i1, i2, i3⟩ := ih.2 h
      have i3' := i3 rfl
      dsimp only at i3'
      refine ⟨.inr ?_, fun x hx ho => ?_, fun hs => ?_⟩
      · rcases i1 with ⟨_, i1⟩ | ⟨i1, i4⟩
        · dsimp only at i1; rw [i1]; exact ⟨.head _, hc.1⟩
        · exact ⟨.tail _ i1, i4⟩
      · rcases List.mem_cons.1 hx with rfl | hx
        · exact i3'
        · exact i2 x hx ho
      · rcases hc.2 with h2 | h2
        · rw [h2] at hs; simp at hs
        · rw [UInt32.lt_iff_toNat_lt] at h2; omega
    · have e : scanStep out s y = s := by rw [scanStep, if_neg hc]
      rw [e] at ih
      refine ⟨fun h => ?_, fun h => ?_⟩
      · obtain ⟨i1, i2⟩ := ih.1 h
        refine ⟨i1, fun x hx ho => ?_⟩
        rcases List.mem_cons.1 hx with rfl | hx
        · exact hc ⟨ho, .inl i1⟩
        · exact i2 x hx ho
      · obtain ⟨i1, i2, i3⟩ := ih.2 h
        refine ⟨i1.imp id fun q => ⟨.tail _ q.1, q.2⟩, fun x hx ho => ?_, i3⟩
        rcases List.mem_cons.1 hx with rfl | hx
        · have h2 : ¬ (s.2 = false ∨ x < s.1) := fun q => hc ⟨ho, q⟩
          cases hs : s.2 with
          | false => exact absurd (.inl hs) h2
          | true =>
            have := i3 hs
            have h3 : ¬ x < s.1 := fun q => h2 (.inr q)
            rw [UInt32.lt_iff_toNat_lt] at h3; omega
        · exact i2 x hx ho
theorem lastU_append (pre : List UInt32) (x : UInt32) : lastU (pre ++ [x]) = x := by
  unfold lastU
  rw [show (((pre ++ [x]).length : Int) - 1).toNat = pre.length by simp]
  simp [List.getD_eq_getElem?_getD]
theorem le_lastU {out : List UInt32} (h : SA out) {x : UInt32} (hx : x ∈ out) : x.toNat ≤ (lastU out).toNat := by
  rcases List.eq_nil_or_concat out with rfl | ⟨pre, y, rfl⟩
  · simp at hx
  · rw [List.concat_eq_append] at *
    rw [lastU_append]
    rcases List.mem_append.1 hx with hx | hx
    · exact Nat.le_of_lt ((List.pairwise_append.1 h).2.2 x hx y (.head _))
    · simp only [List.mem_singleton] at hx; rw [hx]; exact Nat.le_refl _
theorem all_in : ∀ (out all : List UInt32), out.Nodup → (∀ x ∈ out, x ∈ all) → all.length ≤ out.length → ∀ x ∈ all, x ∈ out
  | [], all, _, _, hl, x, hx => by
    have : all = [] := List.length_eq_zero_iff.1 (by simpa using hl)
    rw [this] at hx; exact hx
  | y :: out, all, hn, hs, hl, x, hx => by
    rw [List.nodup_cons] at hn
    have hy := hs y (.head _)
    by_cases h : x = y
    · rw [h]; exact .head _
    · refine .tail _ (all_in out (all.erase y) hn.2 (fun z hz => ?_) ?_ x ((List.mem_erase_of_ne h).2 hx))
      · exact (List.mem_erase_of_ne (fun e => hn.1 (by rw [← e]; exact hz))).2 (hs z (.tail _ hz))
      · rw [List.length_erase_of_mem hy]; simp at hl; omega
theorem SA.nodup {l : List UInt32} (h : SA l) : l.Nodup := h.imp fun {a b} q e => by rw [e] at q; omega
theorem boundsF_ok (all : List UInt32) : ∀ (n : Nat) (out : List UInt32), all.length ≤ out.length + n → SA out → (∀ x ∈ out, x ∈ all) → (∀ x ∈ all, ¬ okU out x → x ∈ out) →
    SA (boundsF all n out) ∧ ∀ x, x ∈ boundsF all n out ↔ x ∈ all
  | 0, out, hl, hs, hi, _ => ⟨hs, fun x => ⟨hi x, all_in out all hs.nodup hi (by omega) x⟩⟩
  | n + 1, out, hl, hs, hi, ho => by
    have hsc := scan_ok out all (0, false)
    unfold boundsF
    split
    · rename_i hf
      exact ⟨hs, fun x => ⟨hi x, fun hx => ho x hx ((hsc.1 hf).2 x hx)⟩⟩
    · rename_i hf
      have ht : (scan all out).2 = true := by cases h : (scan all out).2 <;> simp_all
      obtain ⟨h1, h2, _⟩ := hsc.2 ht
      have h3 : (scan all out).1 ∈ all ∧ okU out (scan all out).1 := h1.elim (fun q => by simp at q) id
      have h2' : ∀ x ∈ all, okU out x → (scan all out).1.toNat ≤ x.toNat := h2
      generalize (scan all out).1 = b at h3 h2'
      refine boundsF_ok all n (out ++ [b]) (by simp; omega) ?_ ?_ ?_
      · refine List.pairwise_append.2 ⟨hs, List.pairwise_singleton _ _, fun x hx y hy => ?_⟩
        simp only [List.mem_singleton] at hy; subst hy
        have := le_lastU hs hx
        rcases h3.2 with h4 | h4
        · have : out = [] := List.length_eq_zero_iff.1 (by omega)
          rw [this] at hx; simp at hx
        · rw [UInt32.lt_iff_toNat_lt] at h4; omega
      · intro x hx
        rcases List.mem_append.1 hx with hx | hx
        · exact hi x hx
        · simp only [List.mem_singleton] at hx; rw [hx]; exact h3.1
      · intro x hx hn
        by_cases hk : okU out x
        · have h4 := h2' x hx hk
          have h5 : ¬ b < x := fun q => hn (.inr (by rw [lastU_append]; exact q))
          rw [UInt32.lt_iff_toNat_lt] at h5
          exact List.mem_append.2 (.inr (by rw [u32_ext (show x.toNat = b.toNat by omega)]; exact .head _))
        · exact List.mem_append.2 (.inl (ho x hx hk))
theorem bounds_ok (a b : List Rng) : SA (boundsP a b) ∧ ∀ x, x ∈ boundsP a b ↔ x ∈ pairsOf a ∨ x ∈ pairsOf b := by
  have := boundsF_ok (pairsOf a ++ pairsOf b) (pairsOf a ++ pairsOf b).length [] (by simp) List.Pairwise.nil (by simp) (fun x _ h => absurd (.inl rfl) h)
  exact ⟨this.1, fun x => (this.2 x).trans List.mem_append⟩
theorem mem_pairs {l : List Rng} {r : Rng} (h : r ∈ l) : r.lo ∈ pairsOf l ∧ r.hi ∈ pairsOf l :=
  ⟨List.mem_flatMap.2 ⟨r, h, .head _⟩, List.mem_flatMap.2 ⟨r, h, .tail _ (.head _)⟩⟩
/-- Each number between two cuts lies in one gap. -/
theorem gap : ∀ (l : List UInt32), SA l → ∀ n x y, x ∈ l → y ∈ l → x.toNat ≤ n → n < y.toNat → ∃ i, i + 1 < l.length ∧ (l.getD i default).toNat ≤ n ∧ n < (l.getD (i + 1) default).toNat
  | [], _, n, x, y, hx, _, _, _ => by simp at hx
  | [c], _, n, x, y, hx, hy, h1, h2 => by simp at hx hy; subst hx; subst hy; omega
  | c :: d :: l, h, n, x, y, hx, hy, h1, h2 => by
    have hcd := (List.pairwise_cons.1 h).1
    have hs := (List.pairwise_cons.1 h).2
    have hd := (List.pairwise_cons.1 hs).1
    by_cases hn : n < d.toNat
    · refine ⟨0, by simp, ?_, by simpa using hn⟩
      rcases List.mem_cons.1 hx with rfl | hx
      · simpa using h1
      · rcases List.mem_cons.1 hx with rfl | hx
        · omega
        · have := hd x hx; omega
    · have hy' : y ∈ d :: l := by
        rcases List.mem_cons.1 hy with rfl | hy
        · have := hcd d (.head _); omega
        · exact hy
      obtain ⟨i, q1, q2, q3⟩ := gap (d :: l) hs n d y (.head _) hy' (by omega) h2
      exact ⟨i + 1, by simpa using q1, by simpa using q2, by simpa using q3⟩
theorem SA.lt {l : List UInt32} (h : SA l) {i j : Nat} (hij : i < j) (hj : j < l.length) : (l.getD i default).toNat < (l.getD j default).toNat := by
  have := List.pairwise_iff_getElem.1 h i j (by omega) hj hij
  simpa [List.getD_eq_getElem?_getD, hj, show i < l.length by omega] using this
/-- No cut lies inside a gap. -/
theorem SA.out {l : List UInt32} (h : SA l) {i : Nat} (hi : i + 1 < l.length) {x : UInt32} (hx : x ∈ l) : x.toNat ≤ (l.getD i default).toNat ∨ (l.getD (i + 1) default).toNat ≤ x.toNat := by
  obtain ⟨j, hj, rfl⟩ := List.mem_iff_getElem.1 hx
  have e : l[j] = l.getD j default := by simp [List.getD_eq_getElem?_getD, hj]
  rw [e]
  rcases Nat.lt_trichotomy j i with h1 | rfl | h1
  · exact .inl (Nat.le_of_lt (h.lt h1 (by omega)))
  · exact .inl (Nat.le_refl _)
  · rcases Nat.lt_or_ge (i + 1) j with h2 | h2
    · exact .inr (Nat.le_of_lt (h.lt h2 hj))
    · rw [show j = i + 1 by omega]; exact .inr (Nat.le_refl _)
theorem any_inR {l : List Rng} {c : UInt32} : l.any (inR c) = true ↔ Has l c.toNat := by
  simp only [List.any_eq_true, inR, Bool.and_eq_true, decide_eq_true_eq, UInt32.le_iff_toNat_le, UInt32.lt_iff_toNat_lt, Has]
theorem chF_ok (a b : List Rng) (both without : Bool) (cuts : List UInt32) (hs : SA cuts) : ∀ k, k + 1 ≤ cuts.length → Norm (chF a b both without cuts k) ∧ (∀ x ∈ chF a b both without cuts k, x.hi.toNat ≤ (cuts.getD k default).toNat) ∧
    ∀ n, Has (chF a b both without cuts k) n ↔ ∃ i, i < k ∧ (cuts.getD i default).toNat ≤ n ∧ n < (cuts.getD (i + 1) default).toNat ∧ inC a b both without (cuts.getD i default) = true
  | 0, _ => ⟨norm_nil, by simp [chF], fun n => ⟨fun h => absurd h Has.nil, fun ⟨i, h, _⟩ => absurd h (by omega)⟩⟩
  | k + 1, hk => by
    obtain ⟨h1, h2, h3⟩ := chF_ok a b both without cuts hs k (by omega)
    have hlt := hs.lt (show k < k + 1 by omega) (by omega)
    rw [chF_succ]
    generalize chF a b both without cuts k = out at h1 h2 h3
    have hsplit : ∀ n, (∃ i, i < k + 1 ∧ (cuts.getD i default).toNat ≤ n ∧ n < (cuts.getD (i + 1) default).toNat ∧ inC a b both without (cuts.getD i default) = true) ↔
        Has out n ∨ ((cuts.getD k default).toNat ≤ n ∧ n < (cuts.getD (k + 1) default).toNat ∧ inC a b both without (cuts.getD k default) = true) := fun n => by
      rw [h3 n]
      constructor
      · rintro ⟨i, q1, q2⟩
        rcases Nat.lt_or_ge i k with h | h
        · exact .inl ⟨i, h, q2⟩
        · obtain rfl : i = k := by omega
          exact .inr q2
      · rintro (⟨i, q1, q2⟩ | q)
        · exact ⟨i, by omega, q2⟩
        · exact ⟨k, by omega, q⟩
    cases hin : inC a b both without (cuts.getD k default) with
    | false =>
      rw [chStep_no hin]
      refine ⟨h1, fun x hx => by have := h2 x hx; omega, fun n => ?_⟩
      rw [hsplit n, hin]; simp
    | true =>
      rcases List.eq_nil_or_concat out with rfl | ⟨pre, x, rfl⟩
      · rw [chStep_app hin (.inl (by simp))]
        refine ⟨norm_single.2 hlt, fun x hx => by simp at hx; subst hx; exact Nat.le_refl _, fun n => ?_⟩
        rw [hsplit n, hin, List.nil_append, has_single]; simp [Has.nil]
      · rw [List.concat_eq_append] at *
        have hx := h2 x (List.mem_append.2 (.inr (.head _)))
        obtain ⟨n1, n2, n3⟩ := norm_append.1 h1
        have n2' := norm_single.1 n2
        by_cases he : x.hi = cuts.getD k default
        · rw [chStep_set hin ⟨by simp, by rw [lastR_append]; exact he⟩, set_last, lastR_append]
          rw [he] at n2'
          refine ⟨norm_append.2 ⟨n1, norm_single.2 (by dsimp only; omega), fun p hp q hq => ?_⟩, fun p hp => ?_, fun n => ?_⟩
          · simp only [List.mem_singleton] at hq; subst hq; exact n3 p hp x (.head _)
          · rcases List.mem_append.1 hp with hp | hp
            · have := h2 p (List.mem_append.2 (.inl hp)); omega
            · simp only [List.mem_singleton] at hp; subst hp; exact Nat.le_refl _
          · rw [hsplit n, hin, has_append, has_append, has_single, has_single, he]
            constructor
            · rintro (q | q)
              · exact .inl (.inl q)
              · dsimp only at q
                by_cases h : n < (cuts.getD k default).toNat
                · exact .inl (.inr ⟨q.1, h⟩)
                · exact .inr ⟨by omega, q.2, rfl⟩
            · rintro ((q | q) | q)
              · exact .inl q
              · exact .inr ⟨q.1, by dsimp only; omega⟩
              · exact .inr ⟨by dsimp only; omega, q.2.1⟩
        · have hne : x.hi.toNat ≠ (cuts.getD k default).toNat := fun e => he (u32_ext e)
          rw [chStep_app hin (.inr (by rw [lastR_append]; exact he))]
          refine ⟨norm_append.2 ⟨h1, norm_single.2 hlt, fun p hp q hq => ?_⟩, fun p hp => ?_, fun n => ?_⟩
          · simp only [List.mem_singleton] at hq; subst hq
            rcases List.mem_append.1 hp with hp | hp
            · have := n3 p hp x (.head _); dsimp only; omega
            · simp only [List.mem_singleton] at hp; subst hp; dsimp only; omega
          · rcases List.mem_append.1 hp with hp | hp
            · have := h2 p hp; omega
            · simp only [List.mem_singleton] at hp; subst hp; exact Nat.le_refl _
          · rw [hsplit n, hin, has_append, has_single]; simp
/-- choose: a normal list of what it says. -/
theorem choose_ok (a b : List Rng) (both without : Bool) : Norm (chooseP a b both without) ∧
    ∀ n, Has (chooseP a b both without) n ↔ (¬ (without = true ∧ Has b n) ∧ (Has a n ∨ both = true ∧ Has b n)) := by
  obtain ⟨hs, hm⟩ := bounds_ok a b
  unfold chooseP
  generalize boundsP a b = cuts at hs hm
  have hin : ∀ i n, i + 1 < cuts.length → (cuts.getD i default).toNat ≤ n → n < (cuts.getD (i + 1) default).toNat → (∀ l, (l = a ∨ l = b) → (Has l (cuts.getD i default).toNat ↔ Has l n)) := by
    intro i n hi h1 h2 l hl
    have hmem : ∀ r ∈ l, r.lo ∈ cuts ∧ r.hi ∈ cuts := fun r hr => by
      have := mem_pairs hr
      rcases hl with rfl | rfl
      · exact ⟨(hm _).2 (.inl this.1), (hm _).2 (.inl this.2)⟩
      · exact ⟨(hm _).2 (.inr this.1), (hm _).2 (.inr this.2)⟩
    constructor
    · rintro ⟨r, hr, q1, q2⟩
      have := hs.out hi (hmem r hr).1; have := hs.out hi (hmem r hr).2
      exact ⟨r, hr, by omega, by omega⟩
    · rintro ⟨r, hr, q1, q2⟩
      have := hs.out hi (hmem r hr).1; have := hs.out hi (hmem r hr).2
      exact ⟨r, hr, by omega, by omega⟩
  have hC : ∀ i n, i + 1 < cuts.length → (cuts.getD i default).toNat ≤ n → n < (cuts.getD (i + 1) default).toNat → (inC a b both without (cuts.getD i default) = true ↔ (¬ (without = true ∧ Has b n) ∧ (Has a n ∨ both = true ∧ Has b n))) := by
    intro i n hi h1 h2
    rw [← hin i n hi h1 h2 a (.inl rfl), ← hin i n hi h1 h2 b (.inr rfl), ← any_inR, ← any_inR]
    unfold inC
    cases without <;> cases both <;> cases a.any (inR (cuts.getD i default)) <;> cases b.any (inR (cuts.getD i default)) <;> simp
  have hgap : ∀ n l, (l = a ∨ l = b) → Has l n → ∃ i, i + 1 < cuts.length ∧ (cuts.getD i default).toNat ≤ n ∧ n < (cuts.getD (i + 1) default).toNat := by
    rintro n l hl ⟨r, hr, q1, q2⟩
    have := mem_pairs hr
    refine gap cuts hs n r.lo r.hi ?_ ?_ q1 q2
    · rcases hl with rfl | rfl
      · exact (hm _).2 (.inl this.1)
      · exact (hm _).2 (.inr this.1)
    · rcases hl with rfl | rfl
      · exact (hm _).2 (.inl this.2)
      · exact (hm _).2 (.inr this.2)
  by_cases h0 : cuts.length = 0
  · have e : cuts.length - 1 = 0 := by omega
    rw [e]
    refine ⟨norm_nil, fun n => ⟨fun h => absurd h Has.nil, fun ⟨_, h⟩ => ?_⟩⟩
    rcases h with h | ⟨_, h⟩
    · obtain ⟨i, hi, _⟩ := hgap n a (.inl rfl) h; omega
    · obtain ⟨i, hi, _⟩ := hgap n b (.inr rfl) h; omega
  · obtain ⟨c1, _, c3⟩ := chF_ok a b both without cuts hs (cuts.length - 1) (by omega)
    refine ⟨c1, fun n => ?_⟩
    rw [c3 n]
    constructor
    · rintro ⟨i, q1, q2, q3, q4⟩
      exact (hC i n (by omega) q2 q3).1 q4
    · intro q
      have hg : ∃ i, i + 1 < cuts.length ∧ (cuts.getD i default).toNat ≤ n ∧ n < (cuts.getD (i + 1) default).toNat :=
        q.2.elim (hgap n a (.inl rfl)) (fun z => hgap n b (.inr rfl) z.2)
      obtain ⟨i, g1, g2, g3⟩ := hg
      exact ⟨i, by omega, g2, g3, (hC i n g1 g2 g3).2 q⟩
theorem refNormal_eq (l : List Rng) : chooseP l [] false false = normalP l := by
  have h := choose_ok l [] false false
  refine Norm.unique _ _ h.1 (normal_ok l).1 fun n => ?_
  rw [h.2 n, (normal_ok l).2 n]; simp
end Go.HL
namespace Go.HL
open Go Go.Sort
theorem min_toNat (a b : UInt32) : (if b < a then b else a).toNat = min a.toNat b.toNat := by
  split <;> rename_i h <;> rw [UInt32.lt_iff_toNat_lt] at h <;> omega
end Go.HL
namespace Go.HL
open Go Go.Sort
theorem any_bool {l m : List Rng} {x : UInt32} (h : ∀ n, Has l n ↔ Has m n) : l.any (inR x) = m.any (inR x) := by
  rw [Bool.eq_iff_iff, any_inR, any_inR]; exact h _
theorem any_normal (a : List Rng) (x : UInt32) : (normalP a).any (inR x) = a.any (inR x) := any_bool (normal_ok a).2
end Go.HL
namespace Go.HL
open Go Go.Sort
theorem meet_iff (x s : SecV) : meetP (spaceP x) (spaceP s) = true ↔ ((0 < x.data.length ∧ 0 < s.data.length) ∧ (s.addr.toNat : Int) < endP x) ∧ (x.addr.toNat : Int) < endP s := by
  have h1 := space_hi x
  have h2 := space_hi s
  have e1 : (spaceP x).lo = x.addr := rfl
  have e2 : (spaceP s).lo = s.addr := rfl
  rw [meetP, decide_eq_true_eq, UInt32.lt_iff_toNat_lt, max_toNat, min_toNat, e1, e2]
  unfold endP at *
  omega
theorem stack_iff (s : SecV) : meetP (spaceP s) stackP = true ↔ (0 < s.data.length ∧ (s.addr.toNat : Int) < 983040) ∧ 978944 < endP s := by
  have h1 := space_hi s
  have e1 : (spaceP s).lo = s.addr := rfl
  have e2 : stackP.lo.toNat = 978944 := rfl
  have e3 : stackP.hi.toNat = 983040 := rfl
  rw [meetP, decide_eq_true_eq, UInt32.lt_iff_toNat_lt, max_toNat, min_toNat, e1, e2, e3]
  unfold endP at *
  omega
theorem has_space {l : List SecV} {x : Nat} : Has (l.map spaceP) x ↔ ∃ s ∈ l, s.addr.toNat ≤ x ∧ (x : Int) < endP s := by
  constructor
  · rintro ⟨r, hr, h1, h2⟩
    obtain ⟨s, hs, rfl⟩ := List.mem_map.1 hr
    have := space_hi s
    exact ⟨s, hs, h1, by omega⟩
  · rintro ⟨s, hs, h1, h2⟩
    have := space_hi s
    exact ⟨spaceP s, List.mem_map.2 ⟨s, hs, rfl⟩, h1, by omega⟩
theorem finds_ok (l : List SecV) (a : UInt32) : (normalP (l.map spaceP)).any (inR a) = decide (0 ≤ findP l a) := by
  rw [any_normal, List.any_map, findP, idxP_any]; rfl
/-- A sign that is none of a name, as the reference says it. -/
theorem refBad (c : UInt8) : badB c = ((((!((decide (97 ≤ c) && decide (c ≤ 122)) || (decide (65 ≤ c) && decide (c ≤ 90)))) && (decide (c < 48) || decide (57 < c))) && decide (c ≠ 95)) && decide (c ≠ 46)) := by
  rw [Bool.eq_iff_iff]
  have e1 : (97 : UInt8).toNat = 97 := rfl
  have e2 : (122 : UInt8).toNat = 122 := rfl
  have e3 : (65 : UInt8).toNat = 65 := rfl
  have e4 : (90 : UInt8).toNat = 90 := rfl
  have e5 : (48 : UInt8).toNat = 48 := rfl
  have e6 : (57 : UInt8).toNat = 57 := rfl
  simp only [badB, lowB, uppB, digB, Bool.and_eq_true, Bool.or_eq_true, Bool.not_eq_true', Bool.or_eq_false_iff, Bool.and_eq_false_iff, decide_eq_true_eq, decide_eq_false_iff_not, UInt8.lt_iff_toNat_lt, UInt8.le_iff_toNat_le, e1, e2, e3, e4, e5, e6]
  constructor
  · rintro ⟨⟨h, h2⟩, h3⟩; exact ⟨⟨by omega, h2⟩, h3⟩
  · rintro ⟨⟨h, h2⟩, h3⟩; exact ⟨⟨by omega, h2⟩, h3⟩
end Go.HL
