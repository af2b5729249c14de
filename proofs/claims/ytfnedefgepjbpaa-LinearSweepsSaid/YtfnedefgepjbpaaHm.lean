/- Rules for operations on memory: variables that are blocks of their own, slices that are only read, slices of one's own. -/
import Derived.Test.YtfnedefgepjbpaaHo
set_option linter.unusedSimpArgs false
set_option linter.unusedVariables false
namespace Go.HL
open Go Go.RowKit

abbrev Hp := Nat → Option Obj
def hp (w : World) : Hp := fun b => w.heap[b]?
def Hp.le (h k : Hp) : Prop := ∀ b o, h b = some o → k b = some o
theorem Hp.le.refl (h : Hp) : Hp.le h h := fun _ _ e => e
theorem Hp.le.trans {h k l : Hp} (a : Hp.le h k) (b : Hp.le k l) : Hp.le h l := fun x o e => b x o (a x o e)
theorem HpOK.hp {F : Bg} {L : List Ent} {w : World} (h : HpOK F L w) : Hp.le F.blk (hp w) := h.bg

/-- How a datum lies in cells. -/
structure Enc (α : Type) where
  k : Nat
  enc : α → List Value
  len : ∀ x, (enc x).length = k
  one : ∀ x, ∀ v ∈ enc x, v.oneCell' = true

def bk : Value → Nat
  | .slice (some a) _ _ => a.block
  | _ => 0
def ofs : Value → Nat
  | .slice (some a) _ _ => a.off
  | _ => 0

def CellsAt (h : Hp) (b o : Nat) (vs : List Value) : Prop := ∃ cs T fz, h b = some (.cells cs T fz) ∧ ∀ j v, vs[j]? = some v → cs[o + j]? = some v

/-- The slice value V reads as the list l. -/
structure Sl {α : Type} (h : Hp) (E : Enc α) (l : List α) (V : Value) : Prop where
  shape : ∃ a c, V = .slice a l.length c ∧ l.length ≤ c ∧ c ≤ maxLen ∧ (l ≠ [] → a = some ⟨bk V, ofs V, none⟩)
  cells : ∀ i x, l[i]? = some x → CellsAt h (bk V) (ofs V + i * E.k) (E.enc x)

theorem Sl.mono {α : Type} {h h' : Hp} {E : Enc α} {l : List α} {V : Value} (s : Sl h E l V) (hh : Hp.le h h') : Sl h' E l V :=
  ⟨s.shape, fun i x hx => let ⟨cs, T, fz, hb, hc⟩ := s.cells i x hx; ⟨cs, T, fz, hh _ _ hb, hc⟩⟩

theorem Sl.nil {α : Type} (h : Hp) (E : Enc α) : Sl h E ([] : List α) (.slice none 0 0) :=
  ⟨⟨none, 0, rfl, Nat.le_refl _, by simp [maxLen], fun e => absurd rfl e⟩, fun i x hx => by simp at hx⟩

theorem Sl.len_le {α : Type} {h : Hp} {E : Enc α} {l : List α} {V : Value} (s : Sl h E l V) : l.length ≤ 9223372036854775807 := by
  obtain ⟨a, c, _, h1, h2, _⟩ := s.shape
  unfold maxLen at h2; omega

/-- A variable that is a block of its own. -/
def cellE (b : Nat) (cs : List Value) (T : TypeId) : Ent := ⟨some b, fun o => o = some (.cells cs.toArray T (0, 0))⟩

/-- A slice of one's own: nil, or at the head of a block of its own. -/
def RowOK {α : Type} (V : Value) (T : TypeId) (E : Enc α) (l : List α) (o : Option Obj) : Prop :=
  (V = .slice none 0 0 ∧ l = []) ∨
  ∃ g cap cur, V = .slice (some ⟨g, 0, none⟩) l.length cap ∧ o = some (.cells cur T (0, 0)) ∧ l.length ≤ cap ∧ cap ≤ maxLen ∧ cap * E.k ≤ cur.size ∧
    cur.toList.take (l.length * E.k) = l.flatMap E.enc
def rowE {α : Type} (V : Value) (T : TypeId) (E : Enc α) (l : List α) : Ent := ⟨V.ownBlock, RowOK V T E l⟩

theorem flatMap_length {α : Type} (E : Enc α) (l : List α) : (l.flatMap E.enc).length = l.length * E.k := by
  induction l with
  | nil => simp
  | cons x l ih => simp [List.flatMap_cons, E.len, ih, Nat.add_mul, Nat.add_comm]

theorem flatMap_get {α : Type} (E : Enc α) : ∀ (l : List α) (i : Nat) (x : α), l[i]? = some x → ∀ j v, (E.enc x)[j]? = some v → (l.flatMap E.enc)[i * E.k + j]? = some v
  | [], i, x, h, _, _, _ => by simp at h
  | y :: l, 0, x, h, j, v, hv => by
    simp only [List.getElem?_cons_zero, Option.some.injEq] at h
    subst h
    have hj : j < (E.enc y).length := (List.getElem?_eq_some_iff.1 hv).1
    simp only [List.flatMap_cons, Nat.zero_mul, Nat.zero_add]
    rw [List.getElem?_append_left hj]; exact hv
  | y :: l, i + 1, x, h, j, v, hv => by
    simp only [List.getElem?_cons_succ] at h
    have ih := flatMap_get E l i x h j v hv
    simp only [List.flatMap_cons]
    have hl : (E.enc y).length = E.k := E.len y
    rw [List.getElem?_append_right (by rw [hl, Nat.add_mul]; omega)]
    rw [hl, show (i + 1) * E.k + j - E.k = i * E.k + j by rw [Nat.add_mul]; omega]
    exact ih

theorem RowOK.sl {α : Type} {V : Value} {T : TypeId} {E : Enc α} {l : List α} {h : Hp} (r : RowOK V T E l (V.ownBlock.bind h)) : Sl h E l V := by
  rcases r with ⟨rfl, rfl⟩ | ⟨g, cap, cur, rfl, ho, h1, h2, h3, h4⟩
  · exact Sl.nil h E
  · refine ⟨⟨some ⟨g, 0, none⟩, cap, rfl, h1, h2, fun _ => rfl⟩, fun i x hx => ?_⟩
    refine ⟨cur, T, (0, 0), ho, fun j v hv => ?_⟩
    have := flatMap_get E l i x hx j v hv
    rw [← h4, List.getElem?_take] at this
    simp only [bk, ofs, Nat.zero_add]
    split at this
    · simpa using this
    · cases this

theorem rowE.sl {α : Type} {V : Value} {T : TypeId} {E : Enc α} {l : List α} {w : World} (r : (rowE V T E l).holds w) : Sl (hp w) E l V := RowOK.sl r

section
variable {P : Program} {ops : Array Oper} {Q : Exit → Act → World → Prop} {N : Nat} {F : Bg} {L : List Ent} {M : Fr} {dst : Option Tmp} {ty : TypeId} {pos : String} {after : Array Edge} {g : Option (Nat × Bool)} {rest : List Oper} {d : Nat}

theorem HpOK.row {α : Type} {V : Value} {T : TypeId} {E : Enc α} {l : List α} {w : World} (h : HpOK F L w) (hm : rowE V T E l ∈ L) : Sl (HL.hp w) E l V := rowE.sl (h.ent _ hm)
theorem HpOK.slF {α : Type} {V : Value} {E : Enc α} {l : List α} {w : World} (h : HpOK F L w) (s : Sl F.blk E l V) : Sl (HL.hp w) E l V := s.mono h.bg

/-! ### len -/
theorem QS.lenOf {x : Operand} {a : Option Addr} {n c : Nat} {t e : TypeId} {V : Value} (hx : opv M x = some V) (hV : ∀ w, HpOK F L w → ∃ a c, V = .slice a n c) (ht : P.underlying t = some (.slice e)) :
    QS P N F L M ⟨dst, .call { callee := .builtin .len, args := #[x], argTypes := #[t] }, ty, pos, after, g⟩ (.int .i64 n) :=
  QS.of_run fun A w ha hw => by
    obtain ⟨a, c, rfl⟩ := hV w hw
    simp [execOp, resolve, invoke, builtin, Builtin.len_, ha.eval hx, run_underlying ht, goInt]
theorem QS.len {α : Type} {E : Enc α} {l : List α} {x : Operand} {t e : TypeId} {V : Value} (hx : opv M x = some V) (hs : Sl F.blk E l V) (ht : P.underlying t = some (.slice e)) :
    QS P N F L M ⟨dst, .call { callee := .builtin .len, args := #[x], argTypes := #[t] }, ty, pos, after, g⟩ (.int .i64 (l.length : Nat)) :=
  QS.lenOf (a := none) (c := 0) hx (fun _ _ => let ⟨a, c, h, _⟩ := hs.shape; ⟨a, c, h⟩) ht
theorem QS.lenRow {α : Type} {E : Enc α} {l : List α} {x : Operand} {t e T : TypeId} {V : Value} (hx : opv M x = some V) (hs : rowE V T E l ∈ L) (ht : P.underlying t = some (.slice e)) :
    QS P N F L M ⟨dst, .call { callee := .builtin .len, args := #[x], argTypes := #[t] }, ty, pos, after, g⟩ (.int .i64 (l.length : Nat)) :=
  QS.lenOf (a := none) (c := 0) hx (fun _ hw => let ⟨a, c, h, _⟩ := (hw.row hs).shape; ⟨a, c, h⟩) ht
theorem QS.lenNil {x : Operand} {n c : Nat} {a : Option Addr} {t e : TypeId} (hx : opv M x = some (.slice a n c)) (ht : P.underlying t = some (.slice e)) :
    QS P N F L M ⟨dst, .call { callee := .builtin .len, args := #[x], argTypes := #[t] }, ty, pos, after, g⟩ (.int .i64 n) :=
  QS.lenOf (a := none) (c := 0) hx (fun _ _ => ⟨a, c, rfl⟩) ht
theorem QS.lenStr {x : Operand} {t : TypeId} {s : ByteArray} (hx : opv M x = some (.string s)) (ht : P.underlying t = some .string) :
    QS P N F L M ⟨dst, .call { callee := .builtin .len, args := #[x], argTypes := #[t] }, ty, pos, after, g⟩ (.int .i64 (s.size : Nat)) :=
  QS.of_run fun A w ha hw => by
    simp [execOp, resolve, invoke, builtin, Builtin.len_, ha.eval hx, run_underlying ht, goInt]
theorem QS.min2 {x y : Operand} {ts : Array TypeId} {k : IntKind} {m n : Int} (hx : opv M x = some (.int k m)) (hy : opv M y = some (.int k n)) :
    QS P N F L M ⟨dst, .call { callee := .builtin .min, args := #[x, y], argTypes := ts }, ty, pos, after, g⟩ (.int k (min m n)) :=
  QS.of_run fun A w ha hw => by
    have : (if n < m then n else m) = min m n := by omega
    simp [execOp, resolve, invoke, builtin, ha.eval hx, ha.eval hy, run_min_int2, this]
theorem QS.max2 {x y : Operand} {ts : Array TypeId} {k : IntKind} {m n : Int} (hx : opv M x = some (.int k m)) (hy : opv M y = some (.int k n)) :
    QS P N F L M ⟨dst, .call { callee := .builtin .max, args := #[x, y], argTypes := ts }, ty, pos, after, g⟩ (.int k (max m n)) :=
  QS.of_run fun A w ha hw => by
    have : (if m < n then n else m) = max m n := by omega
    simp [execOp, resolve, invoke, builtin, ha.eval hx, ha.eval hy, run_max_int2, this]
theorem QS.min32 {x y : Operand} {ts : Array TypeId} {m n : UInt32} (hx : opv M x = some (.int .u32 m.toNat)) (hy : opv M y = some (.int .u32 n.toNat)) :
    QS P N F L M ⟨dst, .call { callee := .builtin .min, args := #[x, y], argTypes := ts }, ty, pos, after, g⟩ (.int .u32 (if n < m then n else m).toNat) := by
  have := QS.min2 (P := P) (N := N) (F := F) (L := L) (dst := dst) (ty := ty) (pos := pos) (after := after) (g := g) (ts := ts) hx hy
  have e : min (m.toNat : Int) n.toNat = ((if n < m then n else m).toNat : Int) := by
    split <;> rename_i h <;> rw [UInt32.lt_iff_toNat_lt] at h <;> omega
  rwa [e] at this
theorem QS.max32 {x y : Operand} {ts : Array TypeId} {m n : UInt32} (hx : opv M x = some (.int .u32 m.toNat)) (hy : opv M y = some (.int .u32 n.toNat)) :
    QS P N F L M ⟨dst, .call { callee := .builtin .max, args := #[x, y], argTypes := ts }, ty, pos, after, g⟩ (.int .u32 (if m < n then n else m).toNat) := by
  have := QS.max2 (P := P) (N := N) (F := F) (L := L) (dst := dst) (ty := ty) (pos := pos) (after := after) (g := g) (ts := ts) hx hy
  have e : max (m.toNat : Int) n.toNat = ((if m < n then n else m).toNat : Int) := by
    split <;> rename_i h <;> rw [UInt32.lt_iff_toNat_lt] at h <;> omega
  rwa [e] at this

/-! ### addresses -/
theorem QS.fieldAddr {x : Operand} {s ft : TypeId} {f b o off k : Nat} {fs : Array Field} (hx : opv M x = some (.pointer (some ⟨b, o, none⟩))) (hs : P.underlying s = some (.struct fs))
    (hf : (fs[f]?).map (·.offset) = some off) (ht : (fs[f]?).map (·.type) = some ft) (hz : ∀ w, (sizeOf ft).run P w = .ok k w) (hk : k ≠ 0) :
    QS P N F L M ⟨dst, .fieldAddr s x f, ty, pos, after, g⟩ (.pointer (some ⟨b, o + off, none⟩)) :=
  QS.of_run fun A w ha hw => by
    cases hfe : fs[f]? with
    | none => simp [hfe] at hf
    | some fd =>
      simp only [hfe, Option.map_some, Option.some.injEq] at hf ht
      simp [execOp, ha.eval hx, Instr.fieldAt, run_underlying hs, hfe, Instr.sureAddr, fieldPlace, ht, hz, hk, hf, Addr.add_lit]

theorem indexAt_run {t e : TypeId} {V : Value} {a : Option Addr} {n c k : Nat} {kk : IntKind} {i : Int} (ht : P.underlying t = some (.slice e)) (hz : ∀ w, (sizeOf e).run P w = .ok k w) (w : World)
    (hi : 0 ≤ i ∧ i < n) (b o : Nat) (ha : a = some ⟨b, o, none⟩) : (Instr.indexAt t (.slice a n c) (.int kk i)).run P w = .ok (.pointer (some ⟨b, o + i.toNat * k, none⟩)) w := by
  subst ha
  simp [Instr.indexAt, asIntOf, run_underlying ht, hz, hi.1, hi.2, Addr.add_lit]

theorem QS.idx {α : Type} {E : Enc α} {l : List α} {x y : Operand} {t e : TypeId} {V : Value} {k : Nat} {kk : IntKind} {i : Int} (hx : opv M x = some V) (hy : opv M y = some (.int kk i)) (hs : Sl F.blk E l V)
    (ht : P.underlying t = some (.slice e)) (hz : ∀ w, (sizeOf e).run P w = .ok k w) (hk : k = E.k) (hi : 0 ≤ i ∧ i < l.length) :
    QS P N F L M ⟨dst, .indexAddr t x y, ty, pos, after, g⟩ (.pointer (some ⟨bk V, ofs V + i.toNat * E.k, none⟩)) :=
  QS.of_run fun A w ha hw => by
    obtain ⟨a, c, hV, _, _, hne⟩ := hs.shape
    have h1 := hne (by intro h; subst h; simp at hi; omega)
    have := indexAt_run (V := V) (c := c) (kk := kk) ht hz w hi _ _ h1
    rw [← hV] at this
    subst hk
    simp [execOp, ha.eval hx, ha.eval hy, this]
theorem QS.idxN {α : Type} {E : Enc α} {l : List α} {x y : Operand} {t e : TypeId} {V : Value} {k : Nat} {kk : IntKind} {i : Nat} (hx : opv M x = some V) (hy : opv M y = some (.int kk i)) (hs : Sl F.blk E l V)
    (ht : P.underlying t = some (.slice e)) (hz : ∀ w, (sizeOf e).run P w = .ok k w) (hk : k = E.k) (hi : i < l.length) :
    QS P N F L M ⟨dst, .indexAddr t x y, ty, pos, after, g⟩ (.pointer (some ⟨bk V, ofs V + i * E.k, none⟩)) :=
  QS.idx hx hy hs ht hz hk ⟨Int.natCast_nonneg _, Int.ofNat_lt.2 hi⟩
theorem QS.idxRow {α : Type} {E : Enc α} {l : List α} {x y : Operand} {t e T : TypeId} {V : Value} {k : Nat} {kk : IntKind} {i : Int} (hx : opv M x = some V) (hy : opv M y = some (.int kk i)) (hs : rowE V T E l ∈ L)
    (ht : P.underlying t = some (.slice e)) (hz : ∀ w, (sizeOf e).run P w = .ok k w) (hk : k = E.k) (hi : 0 ≤ i ∧ i < l.length) :
    QS P N F L M ⟨dst, .indexAddr t x y, ty, pos, after, g⟩ (.pointer (some ⟨bk V, ofs V + i.toNat * E.k, none⟩)) :=
  QS.of_run fun A w ha hw => by
    obtain ⟨a, c, hV, _, _, hne⟩ := (hw.row hs).shape
    have h1 := hne (by intro h; subst h; simp at hi; omega)
    have := indexAt_run (V := V) (c := c) (kk := kk) ht hz w hi _ _ h1
    rw [← hV] at this
    subst hk
    simp [execOp, ha.eval hx, ha.eval hy, this]
theorem QS.idxRowN {α : Type} {E : Enc α} {l : List α} {x y : Operand} {t e T : TypeId} {V : Value} {k : Nat} {kk : IntKind} {i : Nat} (hx : opv M x = some V) (hy : opv M y = some (.int kk i)) (hs : rowE V T E l ∈ L)
    (ht : P.underlying t = some (.slice e)) (hz : ∀ w, (sizeOf e).run P w = .ok k w) (hk : k = E.k) (hi : i < l.length) :
    QS P N F L M ⟨dst, .indexAddr t x y, ty, pos, after, g⟩ (.pointer (some ⟨bk V, ofs V + i * E.k, none⟩)) :=
  QS.idxRow hx hy hs ht hz hk ⟨Int.natCast_nonneg _, Int.ofNat_lt.2 hi⟩

/-! ### loads -/
theorem cell_of {h : World} {b o : Nat} {cs : Array Value} {T : TypeId} {fz : Nat × Nat} (hb : HL.hp h b = some (.cells cs T fz)) (j : Nat) : h.cell? ⟨b, o + j, none⟩ = cs[o + j]? := by
  unfold HL.hp at hb
  simp [World.cell?, hb]

theorem QS.load1 {x : Operand} {t : TypeId} {b o : Nat} {v : Value} (hx : opv M x = some (.pointer (some ⟨b, o, none⟩))) (hagg : ∀ w, (isAgg t).run P w = .ok false w)
    (hc : ∀ w, HpOK F L w → w.cell? ⟨b, o, none⟩ = some v) : QS P N F L M ⟨dst, .load t x, ty, pos, after, g⟩ v :=
  QS.of_run fun A w ha hw => by
    simp [execOp, ha.eval hx, Instr.loadAt, Instr.sureAddr, loadVar, hagg, hc w hw]
theorem QS.loadA {x : Operand} {t : TypeId} {b o k : Nat} {vs : List Value} (hx : opv M x = some (.pointer (some ⟨b, o, none⟩))) (hagg : ∀ w, (isAgg t).run P w = .ok true w)
    (hz : ∀ w, (sizeOf t).run P w = .ok k w) (hl : vs.length = k)
    (hc : ∀ w, HpOK F L w → ∀ j v, vs[j]? = some v → w.cell? ⟨b, o + j, none⟩ = some v) : QS P N F L M ⟨dst, .load t x, ty, pos, after, g⟩ (.agg vs.toArray) :=
  QS.of_run fun A w ha hw => by
    have := run_loadCells_list (P := P) w ⟨b, o, none⟩ vs (fun j v hv => by rw [Addr.add_lit]; exact hc w hw j v hv)
    subst hl
    simp [execOp, ha.eval hx, Instr.loadAt, Instr.sureAddr, loadVar, hagg, hz, this]

theorem cellE_cell {b o : Nat} {cs : List Value} {T : TypeId} {w : World} (h : (cellE b cs T).holds w) : w.cell? ⟨b, o, none⟩ = cs[o]? := by
  have : w.heap[b]? = some (.cells cs.toArray T (0, 0)) := h
  simp [World.cell?, this]

/-- A load from a variable of one's own. -/
theorem QS.loadV {x : Operand} {t T : TypeId} {b o : Nat} {v : Value} {cs : List Value} (hx : opv M x = some (.pointer (some ⟨b, o, none⟩))) (hm : cellE b cs T ∈ L) (hagg : ∀ w, (isAgg t).run P w = .ok false w)
    (hv : cs[o]? = some v) : QS P N F L M ⟨dst, .load t x, ty, pos, after, g⟩ v :=
  QS.load1 hx hagg fun w hw => by rw [cellE_cell (hw.ent _ hm)]; exact hv
theorem QS.loadVA {x : Operand} {t T : TypeId} {b o k : Nat} {vs cs : List Value} (hx : opv M x = some (.pointer (some ⟨b, o, none⟩))) (hm : cellE b cs T ∈ L) (hagg : ∀ w, (isAgg t).run P w = .ok true w)
    (hz : ∀ w, (sizeOf t).run P w = .ok k w) (hv : (cs.drop o).take k = vs) (hl : Nat.beq vs.length k = true) : QS P N F L M ⟨dst, .load t x, ty, pos, after, g⟩ (.agg vs.toArray) :=
  QS.loadA hx hagg hz (Nat.eq_of_beq_eq_true hl) fun w hw j v hj => by
    rw [cellE_cell (hw.ent _ hm)]
    rw [← hv, List.getElem?_take] at hj
    split at hj
    · simpa [List.getElem?_drop] using hj
    · cases hj
/-- A whole variable, whatever it holds. -/
theorem QS.loadVW {x : Operand} {t T : TypeId} {b k : Nat} {cs : List Value} (hx : opv M x = some (.pointer (some ⟨b, 0, none⟩))) (hm : cellE b cs T ∈ L) (hagg : ∀ w, (isAgg t).run P w = .ok true w)
    (hz : ∀ w, (sizeOf t).run P w = .ok k w) (hl : cs.length = k) : QS P N F L M ⟨dst, .load t x, ty, pos, after, g⟩ (.agg cs.toArray) :=
  QS.loadA hx hagg hz hl fun w hw j v hj => by
    rw [cellE_cell (hw.ent _ hm), Nat.zero_add]; exact hj

theorem Sl.cell {α : Type} {E : Enc α} {l : List α} {V : Value} {w : World} (s : Sl (HL.hp w) E l V) {i : Nat} {x : α} (hx : l[i]? = some x) {j : Nat} {v : Value} (hv : (E.enc x)[j]? = some v) :
    w.cell? ⟨bk V, ofs V + i * E.k + j, none⟩ = some v := by
  obtain ⟨cs, T, fz, hb, hc⟩ := s.cells i x hx
  rw [cell_of hb, hc j v hv]

theorem get_getD {α : Type} [Inhabited α] {l : List α} {i : Nat} (h : i < l.length) : l[i]? = some (l.getD i default) := by
  simp [List.getD_eq_getElem?_getD, h]

/-- A load of an element that is a struct; that is one cell; of a field of an element. -/
theorem QS.elA {α : Type} [Inhabited α] {E : Enc α} {l : List α} {V : Value} {x : Operand} {t : TypeId} {i k : Nat} (hx : opv M x = some (.pointer (some ⟨bk V, ofs V + i * E.k, none⟩))) (hs : Sl F.blk E l V)
    (hagg : ∀ w, (isAgg t).run P w = .ok true w) (hz : ∀ w, (sizeOf t).run P w = .ok k w) (hk : k = E.k) (hi : i < l.length) : QS P N F L M ⟨dst, .load t x, ty, pos, after, g⟩ (.agg (E.enc (l.getD i default)).toArray) :=
  QS.loadA hx hagg hz (by rw [E.len, hk]) fun w hw j v hj => (hw.slF hs).cell (get_getD hi) hj
theorem QS.el1 {α : Type} [Inhabited α] {E : Enc α} {l : List α} {V : Value} {x : Operand} {t : TypeId} {i : Nat} {v : Value} (hx : opv M x = some (.pointer (some ⟨bk V, ofs V + i * E.k, none⟩))) (hs : Sl F.blk E l V)
    (hagg : ∀ w, (isAgg t).run P w = .ok false w) (hi : i < l.length) (hv : (E.enc (l.getD i default))[0]? = some v) : QS P N F L M ⟨dst, .load t x, ty, pos, after, g⟩ v :=
  QS.load1 hx hagg fun w hw => (hw.slF hs).cell (get_getD hi) (j := 0) hv
theorem QS.elF {α : Type} [Inhabited α] {E : Enc α} {l : List α} {V : Value} {x : Operand} {t : TypeId} {i j : Nat} {v : Value} (hx : opv M x = some (.pointer (some ⟨bk V, ofs V + i * E.k + j, none⟩))) (hs : Sl F.blk E l V)
    (hagg : ∀ w, (isAgg t).run P w = .ok false w) (hi : i < l.length) (hv : (E.enc (l.getD i default))[j]? = some v) : QS P N F L M ⟨dst, .load t x, ty, pos, after, g⟩ v :=
  QS.load1 hx hagg fun w hw => (hw.slF hs).cell (get_getD hi) hv
theorem QS.elRA {α : Type} [Inhabited α] {E : Enc α} {l : List α} {V : Value} {x : Operand} {t T : TypeId} {i k : Nat} (hx : opv M x = some (.pointer (some ⟨bk V, ofs V + i * E.k, none⟩))) (hs : rowE V T E l ∈ L)
    (hagg : ∀ w, (isAgg t).run P w = .ok true w) (hz : ∀ w, (sizeOf t).run P w = .ok k w) (hk : k = E.k) (hi : i < l.length) : QS P N F L M ⟨dst, .load t x, ty, pos, after, g⟩ (.agg (E.enc (l.getD i default)).toArray) :=
  QS.loadA hx hagg hz (by rw [E.len, hk]) fun w hw j v hj => (hw.row hs).cell (get_getD hi) hj
theorem QS.elR1 {α : Type} [Inhabited α] {E : Enc α} {l : List α} {V : Value} {x : Operand} {t T : TypeId} {i : Nat} {v : Value} (hx : opv M x = some (.pointer (some ⟨bk V, ofs V + i * E.k, none⟩))) (hs : rowE V T E l ∈ L)
    (hagg : ∀ w, (isAgg t).run P w = .ok false w) (hi : i < l.length) (hv : (E.enc (l.getD i default))[0]? = some v) : QS P N F L M ⟨dst, .load t x, ty, pos, after, g⟩ v :=
  QS.load1 hx hagg fun w hw => (hw.row hs).cell (get_getD hi) (j := 0) hv
theorem QS.elRF {α : Type} [Inhabited α] {E : Enc α} {l : List α} {V : Value} {x : Operand} {t T : TypeId} {i j : Nat} {v : Value} (hx : opv M x = some (.pointer (some ⟨bk V, ofs V + i * E.k + j, none⟩))) (hs : rowE V T E l ∈ L)
    (hagg : ∀ w, (isAgg t).run P w = .ok false w) (hi : i < l.length) (hv : (E.enc (l.getD i default))[j]? = some v) : QS P N F L M ⟨dst, .load t x, ty, pos, after, g⟩ v :=
  QS.load1 hx hagg fun w hw => (hw.row hs).cell (get_getD hi) hv

/-! ### values of several cells -/
theorem QS.field {x : Operand} {s ft : TypeId} {f off k : Nat} {fs : Array Field} {cs : Array Value} {v : Value} (hx : opv M x = some (.agg cs)) (hs : P.underlying s = some (.struct fs))
    (hf : (fs[f]?).map (·.offset) = some off) (ht : (fs[f]?).map (·.type) = some ft) (hagg : ∀ w, (isAgg ft).run P w = .ok false w) (hv : cs[off]? = some v) :
    QS P N F L M ⟨dst, .field s x f, ty, pos, after, g⟩ v :=
  QS.of_run fun A w ha hw => by
    cases hfe : fs[f]? with
    | none => simp [hfe] at hf
    | some fd =>
      simp only [hfe, Option.map_some, Option.some.injEq] at hf ht
      simp [execOp, ha.eval hx, Instr.field, run_underlying hs, hfe, asAgg, part, ht, hagg, hf, hv]
theorem QS.build {t : TypeId} {parts : List (Nat × Operand)} {vs : List (Nat × Value)} {cs : Array Value} (hx : opvs M (parts.map (·.2)) = some (vs.map (·.2))) (hi : parts.map (·.1) = vs.map (·.1))
    (hb : P.built t vs = some cs) : QS P N F L M ⟨dst, .build t parts.toArray, ty, pos, after, g⟩ (.agg cs) :=
  QS.of_run fun A w ha hw => by
    have h1 := ha.evals hx
    have h2 : parts.map (fun p => (p.1, A.eval p.2)) = vs := by
      clear hb hx
      induction parts generalizing vs with
      | nil => cases vs <;> simp_all
      | cons p ps ih =>
        cases vs with
        | nil => simp at hi
        | cons q qs =>
          simp only [List.map_cons, List.cons.injEq] at h1 hi ⊢
          exact ⟨Prod.ext hi.1 h1.1, ih hi.2 h1.2⟩
    have h3 := run_build (P := P) w t (parts.map (fun p => (p.1, A.eval p.2))).toArray cs (by simpa [h2] using hb)
    simp only [execOp, List.map_toArray]
    simp [h3]

/-! ### memory of one's own -/
theorem Tr.newCells {op : Op} {cs : List Value} {T : TypeId} (hr : ∀ a w, FrOK N M a → (execOp a.eval ⟨some d, op, ty, pos, after, none⟩).run P w = .ok (.value (.pointer (some ⟨w.heap.size, 0, none⟩))) (w.alloc (.cells cs.toArray T)))
    (hd : Nat.ble (d + 1) N = true)
    (k : ∀ b, Tr N F (cellE b cs T :: L) ((d, .pointer (some ⟨b, 0, none⟩)) :: M) (wpList P ops Q rest)) : Tr N F L M (wpList P ops Q (⟨some d, op, ty, pos, after, none⟩ :: rest)) := by
  intro a w ha hw
  refine wpList_plain rfl fun K hK => ?_
  unfold Oper.wp
  rw [hr a w ha]
  exact hK _ _ (k w.heap.size _ _ (ha.put (Nat.le_of_ble_eq_true hd)) (hw.alloc _ _ rfl))

theorem Tr.alloc {T : TypeId} {z : Value} {cs : List Value} (hz : ∀ w, (zeroValue T).run P w = .ok z w) (hc : z.cells.toList = cs) (hd : Nat.ble (d + 1) N = true)
    (k : ∀ b, Tr N F (cellE b cs T :: L) ((d, .pointer (some ⟨b, 0, none⟩)) :: M) (wpList P ops Q rest)) : Tr N F L M (wpList P ops Q (⟨some d, .alloc T, ty, pos, after, none⟩ :: rest)) := by
  refine Tr.newCells (fun a w ha => ?_) hd k
  subst hc
  simp [execOp, Instr.alloc, hz, newVar, newRow]
theorem Tr.box {T : TypeId} {x : Operand} {v : Value} {cs : List Value} (hx : opv M x = some v) (hc : v.cells.toList = cs) (hd : Nat.ble (d + 1) N = true)
    (k : ∀ b, Tr N F (cellE b cs T :: L) ((d, .pointer (some ⟨b, 0, none⟩)) :: M) (wpList P ops Q rest)) : Tr N F L M (wpList P ops Q (⟨some d, .box T x, ty, pos, after, none⟩ :: rest)) := by
  refine Tr.newCells (fun a w ha => ?_) hd k
  subst hc
  simp [execOp, Instr.box, newVar, newRow, ha.eval hx]

def splice (cs : List Value) (o : Nat) (vs : List Value) : List Value := cs.take o ++ vs ++ cs.drop (o + vs.length)

theorem run_storeV {w : World} {b o k : Nat} {cs : List Value} {T t : TypeId} {v : Value} (h : w.heap[b]? = some (.cells cs.toArray T (0, 0))) (hz : ∀ w, (sizeOf t).run P w = .ok k w)
    (hk : v.cells.size = k) (hfit : o + k ≤ cs.length) (h1 : ∀ u ∈ v.cells.toList, u.oneCell' = true) :
    (Instr.storeAt t (.pointer (some ⟨b, o, none⟩)) v).run P w = .ok () (w.setRow b (splice cs o v.cells.toList).toArray) := by
  have hst := run_storeCells_at P b o T v.cells.toList 0 cs.toArray w h (by simp; omega) h1
  simp only [Nat.add_zero] at hst
  subst hk
  simp [Instr.storeAt, Instr.sureAddr, storeVar, hz, hst, splice]

/-- A store into a variable of one's own. -/
theorem Tr.storeV {x y : Operand} {t T : TypeId} {b o k : Nat} {cs cs' : List Value} {v : Value} {L' : List Ent} {dst : Option Tmp} (hx : opv M x = some (.pointer (some ⟨b, o, none⟩))) (hy : opv M y = some v)
    (hz : ∀ w, (sizeOf t).run P w = .ok k w) (hput : Put (cellE b cs T) (cellE b cs' T) L L') (hcs : splice cs o v.cells.toList = cs') (hk : v.cells.size = k) (hfit : o + k ≤ cs.length)
    (h1 : ∀ u ∈ v.cells.toList, u.oneCell' = true) (hdst : dst = none)
    (K : Tr N F L' M (wpList P ops Q rest)) : Tr N F L M (wpList P ops Q (⟨dst, .store t x y, ty, pos, after, none⟩ :: rest)) := by
  subst hdst
  intro a w ha hw
  refine wpList_plain rfl fun K' hK => ?_
  have hb : w.heap[b]? = some (.cells cs.toArray T (0, 0)) := hw.ent _ hput.mem
  have hr := run_storeV (P := P) hb hz hk hfit h1
  unfold Oper.wp
  simp only [execOp, ha.eval hx, ha.eval hy, Sem.run_bind, hr, Result.andThen_ok, Sem.run_pure, Oper.upon, Act.put]
  refine hK _ _ (K _ _ ha ?_)
  subst hcs
  exact HpOK.set hw hput rfl rfl rfl (by simp) (Nat.le_refl _) (fun k _ hkb => setRow_other w b k _ hkb) (setRow_heap w b _ _ T (0, 0) hb)

/-- A store of the whole of a variable of one's own. -/
theorem Tr.storeW {x y : Operand} {t T : TypeId} {b k : Nat} {cs cs' : List Value} {v : Value} {L' : List Ent} {dst : Option Tmp} (hx : opv M x = some (.pointer (some ⟨b, 0, none⟩))) (hy : opv M y = some v)
    (hz : ∀ w, (sizeOf t).run P w = .ok k w) (hput : Put (cellE b cs T) (cellE b cs' T) L L') (hcs : v.cells.toList = cs') (hk : (cs.length == k && cs'.length == k) = true)
    (h1 : ∀ u ∈ cs', u.oneCell' = true) (hdst : dst = none)
    (K : Tr N F L' M (wpList P ops Q rest)) : Tr N F L M (wpList P ops Q (⟨dst, .store t x y, ty, pos, after, none⟩ :: rest)) := by
  simp only [Bool.and_eq_true, beq_iff_eq] at hk
  subst hcs
  refine Tr.storeV hx hy hz hput ?_ (by simpa using hk.2) (by omega) h1 hdst K
  have hl : v.cells.toList.length = cs.length := by rw [hk.1, hk.2]
  simp only [splice, List.take_zero, List.nil_append, Nat.zero_add]
  rw [hl, List.drop_length, List.append_nil]
end
end Go.HL
