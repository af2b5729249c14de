/- More rules: multiple cases, results in cells, struct and array values compared, drawn regions with changes (by the kit's OrdersHeld), bytes. -/
import Derived.Test.YtfnedefgepjbpaaMa
import Derived.OrdersHeld
import Derived.Scope
set_option linter.unusedSimpArgs false
set_option linter.unusedVariables false
namespace Go.HL
open Go Go.RowKit

section
variable {P : Program} {Q : Exit → Act → World → Prop} {N : Nat} {F : Bg} {L : List Ent} {M : Fr}

/-- 'case x, y:' : the second test only where the first one failed. -/
theorem Tr.condOr {t : Nat} {y : Code} {x y' : Bool} (hx : look M t = some (.bool x))
    (hF : x = false → Tr N F L M (y.wp P (Exit.then (fun a w => FrOK N ((t, .bool y') :: M) a ∧ HpOK F L w) Q)))
    (h2 : Tr N F L ((t, .bool (x || y')) :: M) (Q .normal)) : Tr N F L M ((Code.cond (.tmp t) .skip y).wp P Q) := by
  refine Tr.cond (b := x) hx (fun h => ?_) (fun h => ?_)
  · subst h
    refine Tr.skip (Tr.sub ?_ h2)
    exact Sub.cons hx (Sub.refl M)
  · subst h
    intro a w ha hw
    refine Code.wp_mono (fun e a w q => ?_) (hF rfl a w ha hw)
    cases e <;> first | exact q | exact h2 a w q.1 q.2

/-! ### results that lie in cells -/
theorem run_cellAgg {w : World} {b k : Nat} {cs : List Value} {T t : TypeId} (h : (cellE b cs T).holds w) (hagg : ∀ w, (isAgg t).run P w = .ok true w) (hz : ∀ w, (sizeOf t).run P w = .ok k w) (hl : cs.length = k) :
    (loadVar t ⟨b, 0, none⟩).run P w = .ok (.agg cs.toArray) w := by
  have := run_loadCells_list (P := P) w ⟨b, 0, none⟩ cs (fun j v hv => by rw [Addr.add_lit, Nat.zero_add, cellE_cell h]; exact hv)
  subst hl
  simp [loadVar, hagg, hz, this]

theorem Tr.retC1 {fn : Func} {R : Ending → World → Prop} {t T : TypeId} {u : Tmp} {b k : Nat} {cs : List Value} (hr : fn.results = #[.cell u t]) (hv : look M u = some (.pointer (some ⟨b, 0, none⟩))) (hm : cellE b cs T ∈ L)
    (hagg : ∀ w, (isAgg t).run P w = .ok true w) (hz : ∀ w, (sizeOf t).run P w = .ok k w) (hl : cs.length = k) (h : ∀ w, HpOK F L w → R (.returned (.agg cs.toArray)) w) (hD : look M mk0 = some undef := by rfl) :
    Tr N F L M (bodyPost P fn R .ret) := fun a w ha hw => ⟨ha.defers0 hD, _, by
      have h1 := ha.val u _ hv
      rw [Array.getD_eq_getD_getElem?] at h1
      simp [results, hr, h1, asAddr, run_cellAgg (hw.ent _ hm) hagg hz hl], h w hw⟩
theorem Tr.retC2 {fn : Func} {R : Ending → World → Prop} {t T : TypeId} {u s : Tmp} {v : Value} {b k : Nat} {cs : List Value} (hr : fn.results = #[.cell u t, .tmp s]) (hv : look M u = some (.pointer (some ⟨b, 0, none⟩))) (hs : look M s = some v) (hm : cellE b cs T ∈ L)
    (hagg : ∀ w, (isAgg t).run P w = .ok true w) (hz : ∀ w, (sizeOf t).run P w = .ok k w) (hl : cs.length = k) (h : ∀ w, HpOK F L w → R (.returned (.tuple #[.agg cs.toArray, v])) w) (hD : look M mk0 = some undef := by rfl) :
    Tr N F L M (bodyPost P fn R .ret) := fun a w ha hw => ⟨ha.defers0 hD, _, by
      have h1 := ha.val u _ hv
      have h2 := ha.val s _ hs
      rw [Array.getD_eq_getD_getElem?] at h1 h2
      simp [results, hr, h1, h2, asAddr, run_cellAgg (hw.ent _ hm) hagg hz hl], h w hw⟩

/-! ### values of several cells, compared -/
/-- Two cells that hold numbers, or booleans, are equal. -/
def eqAt (xs ys : Array Value) (o : Nat) : Bool := match xs[o]?, ys[o]? with
  | some (.int _ a), some (.int _ b) => a == b
  | some (.bool a), some (.bool b) => a == b
  | some (.string a), some (.string b) => a.toList == b.toList
  | _, _ => false
/-- The cell o holds a value of one word, alike in both. -/
def alikeAt (d : TypeDesc) (xs ys : Array Value) (o : Nat) : Prop := match d, xs[o]?, ys[o]? with
  | .int _, some (.int k _), some (.int k' _) => k = k'
  | .bool, some (.bool _), some (.bool _) => True
  | .string, some (.string _), some (.string _) => True
  | _, _, _ => False
/-- The fields: each of one cell. -/
inductive WordFields (P : Program) : List Field → List TypeDesc → Prop
  | nil : WordFields P [] []
  | cons {f : Field} {fs : List Field} {d : TypeDesc} {ds : List TypeDesc} (hn : f.name ≠ "_") (hd : P.underlying f.type = some d) (ha : ∀ w, (isAgg f.type).run P w = .ok false w) (h : WordFields P fs ds) : WordFields P (f :: fs) (d :: ds)
theorem part_word {t : TypeId} {xs : Array Value} {o : Nat} {v : Value} {w : World} (ha : ∀ w, (isAgg t).run P w = .ok false w) (h : xs[o]? = some v) : (part t xs o).run P w = .ok v w := by
  simp [part, ha, h]
theorem run_eqFields_words (d : Nat) (xs ys : Array Value) (w : World) : ∀ (fs : List Field) (ds : List TypeDesc), WordFields P fs ds → (∀ (j : Nat) (f : Field) (e : TypeDesc), fs[j]? = some f → ds[j]? = some e → alikeAt e xs ys f.offset) →
    (Op.eqFields (d + 1) xs ys fs).run P w = .ok (fs.all fun (f : Field) => eqAt xs ys f.offset) w
  | [], _, _, _ => by simp [Op.eqFields]
  | f :: fs, _, .cons (d := e) (ds := ds) hn hd ha h, hal => by
    have ih := run_eqFields_words d xs ys w fs ds h (fun j f' e' hf he => hal (j + 1) f' e' (by simpa using hf) (by simpa using he))
    have h0 := hal 0 f e rfl rfl
    simp only [Op.eqFields, hn, ne_eq, not_false_eq_true, if_true, Sem.run_bind, List.all_cons]
    unfold alikeAt at h0
    split at h0
    · rename_i k a k' b hx hy
      subst h0
      have e0 : eqAt xs ys f.offset = (a == b) := by simp [eqAt, hx, hy]
      simp only [part_word (w := w) ha hx, part_word (w := w) ha hy, Result.andThen_ok, run_equalIn_int w _ _ _ _ _ _ hd, e0]
      cases hab : (a == b)
      · simp
      · simpa using ih
    · rename_i a b hx hy
      have e0 : eqAt xs ys f.offset = (a == b) := by simp [eqAt, hx, hy]
      simp only [part_word (w := w) ha hx, part_word (w := w) ha hy, Result.andThen_ok, run_equalIn_bool' w _ _ _ _ hd, e0]
      cases hab : (a == b)
      · simp
      · simpa using ih
    · rename_i a b hx hy
      have e0 : eqAt xs ys f.offset = (a.toList == b.toList) := by simp [eqAt, hx, hy]
      simp only [part_word (w := w) ha hx, part_word (w := w) ha hy, Result.andThen_ok, run_equalIn_string w _ _ _ _ hd, e0]
      cases hab : (a.toList == b.toList)
      · simp
      · simpa using ih
    · exact h0.elim
end

/-- Two data of an encoding are equal where their cells are. -/
def EqEnc {α : Type} [DecidableEq α] (E : Enc α) (ds : List TypeDesc) (offs : List Nat) : Prop :=
  ∀ x y : α, (∀ (j : Nat) (o : Nat) (e : TypeDesc), offs[j]? = some o → ds[j]? = some e → alikeAt e (E.enc x).toArray (E.enc y).toArray o) ∧ (offs.all fun o => eqAt (E.enc x).toArray (E.enc y).toArray o) = decide (x = y)

section
variable {P : Program} {ops : Array Oper} {Q : Exit → Act → World → Prop} {N : Nat} {F : Bg} {L : List Ent} {M : Fr} {dst : Option Tmp} {ty : TypeId} {pos : String} {after : Array Edge} {g : Option (Nat × Bool)} {rest : List Oper} {d : Nat}

theorem run_equalE {α : Type} [DecidableEq α] {E : Enc α} {ds : List TypeDesc} {offs : List Nat} (hE : EqEnc E ds offs) {t : TypeId} {fs : Array Field} (ht : P.underlying t = some (.struct fs)) (hw : WordFields P fs.toList ds) (ho : fs.toList.map (·.offset) = offs)
    (hh : P.stoodInHeld t = false) (x y : α) (w : World) : (Op.equal t (.agg (E.enc x).toArray) (.agg (E.enc y).toArray)).run P w = .ok (decide (x = y)) w := by
  have hf : P.fieldsOf t = fs := by simp [Program.fieldsOf, ht]
  unfold Op.equal
  show (Op.equalIn (9998 + 1 + 1) t _ _).run P w = _
  rw [run_equalIn_struct w _ t _ _ (by rw [hf]; exact ht) hh, hf]
  obtain ⟨h1, h2⟩ := hE x y
  rw [run_eqFields_words _ _ _ w fs.toList ds hw (fun j f e hj he => h1 j f.offset e (by rw [← ho]; simp [hj]) he), ← h2, ← ho, List.all_map]
  rfl
theorem eqGuard_agg {op : BinOp} {t : TypeId} {x y : Operand} {xs ys : Array Value} (w : World) (hg : P.eqGuardType P.depth t = false) : (eqGuard op t x y (.agg xs) (.agg ys)).run P w = .ok () w := by
  unfold eqGuard
  cases op <;> simp [hg]
theorem QS.eqlE {α : Type} [DecidableEq α] {E : Enc α} {ds : List TypeDesc} {offs : List Nat} {x y : Operand} {t u : TypeId} {p q : α} {fs : Array Field} (hx : opv M x = some (.agg (E.enc p).toArray)) (hy : opv M y = some (.agg (E.enc q).toArray))
    (hE : EqEnc E ds offs) (ht : P.underlying t = some (.struct fs)) (hw : WordFields P fs.toList ds) (ho : fs.toList.map (·.offset) = offs) (hh : P.stoodInHeld t = false) (hg : P.eqGuardType P.depth t = false) :
    QS P N F L M ⟨dst, .binOp .eql t x y u, ty, pos, after, g⟩ (.bool (decide (p = q))) :=
  QS.of_run fun a w ha _ => by
    simp [execOp, ha.eval hx, ha.eval hy, eqGuard_agg w hg, binOp, run_equalE hE ht hw ho hh]
theorem QS.neqE {α : Type} [DecidableEq α] {E : Enc α} {ds : List TypeDesc} {offs : List Nat} {x y : Operand} {t u : TypeId} {p q : α} {fs : Array Field} (hx : opv M x = some (.agg (E.enc p).toArray)) (hy : opv M y = some (.agg (E.enc q).toArray))
    (hE : EqEnc E ds offs) (ht : P.underlying t = some (.struct fs)) (hw : WordFields P fs.toList ds) (ho : fs.toList.map (·.offset) = offs) (hh : P.stoodInHeld t = false) (hg : P.eqGuardType P.depth t = false) :
    QS P N F L M ⟨dst, .binOp .neq t x y u, ty, pos, after, g⟩ (.bool (decide (p ≠ q))) :=
  QS.of_run fun a w ha _ => by
    simp [execOp, ha.eval hx, ha.eval hy, eqGuard_agg w hg, binOp, run_equalE hE ht hw ho hh]
/-- Arrays of two ints. -/
theorem QS.eqlA2 {x y : Operand} {t u e : TypeId} {k : IntKind} {a b c d : Int} (hx : opv M x = some (.agg #[.int k a, .int k b])) (hy : opv M y = some (.agg #[.int k c, .int k d]))
    (ht : P.underlying t = some (.array 2 e)) (he : P.underlying e = some (.int k)) (hz : ∀ w, (sizeOf e).run P w = .ok 1 w) (hag : ∀ w, (isAgg e).run P w = .ok false w) (hg : P.eqGuardType P.depth t = false) :
    QS P N F L M ⟨dst, .binOp .eql t x y u, ty, pos, after, g⟩ (.bool (decide (a = c ∧ b = d))) :=
  QS.of_run fun A w ha _ => by
    have h1 : (Op.equal t (.agg #[.int k a, .int k b]) (.agg #[.int k c, .int k d])).run P w = .ok (decide (a = c ∧ b = d)) w := by
      unfold Op.equal
      show (Op.equalIn (9998 + 1 + 1) t _ _).run P w = _
      have r : ∀ xs : Array Value, ∀ v i, xs[i]? = some v → (part e xs i).run P w = .ok v w := fun xs v i h => part_word hag h
      have p0 := fun (p q : Int) => r #[.int k p, .int k q] _ 0 rfl
      have p1 := fun (p q : Int) => r #[.int k p, .int k q] _ 1 rfl
      rw [Op.equalIn]
      simp only [Sem.run_bind, run_underlying ht, Result.andThen_ok, hz, Std.Legacy.Range.forIn_eq_forIn_range', Std.Legacy.Range.size]
      simp [List.range', p0, p1, run_equalIn_int w _ _ _ _ _ _ he]
      by_cases h1 : a = c <;> by_cases h2 : b = d <;> simp [h1, h2]
    simp [execOp, ha.eval hx, ha.eval hy, eqGuard_agg w hg, binOp, h1]

theorem extract_flat {α : Type} (E : Enc α) : ∀ (l : List α) (i : Nat) (x : α), l[i]? = some x → ((l.flatMap E.enc).drop (i * E.k)).take E.k = E.enc x
  | [], i, x, h => by simp at h
  | y :: l, 0, x, h => by
    simp only [List.getElem?_cons_zero, Option.some.injEq] at h
    subst h
    have := E.len y
    simp [List.flatMap_cons, List.take_append, this]
  | y :: l, i + 1, x, h => by
    simp only [List.getElem?_cons_succ] at h
    have hl : (E.enc y).length = E.k := E.len y
    simp only [List.flatMap_cons]
    rw [List.drop_append, List.drop_eq_nil_of_le (by rw [hl, Nat.add_mul]; omega), List.nil_append, hl, show (i + 1) * E.k - E.k = i * E.k by rw [Nat.add_mul]; omega]
    exact extract_flat E l i x h
/-- An element of an array value whose elements are data of an encoding. -/
theorem QS.indexE {α : Type} [Inhabited α] {E : Enc α} (l : List α) {x y : Operand} {t e : TypeId} {n k : Nat} {kk : IntKind} {i : Nat} (hx : opv M x = some (.agg (l.flatMap E.enc).toArray)) (hy : opv M y = some (.int kk i))
    (ht : P.underlying t = some (.array n e)) (hz : ∀ w, (sizeOf e).run P w = .ok k w) (hag : ∀ w, (isAgg e).run P w = .ok true w) (hk : k = E.k) (hn : n = l.length) (hi' : i < n) :
    QS P N F L M ⟨dst, .index t x y, ty, pos, after, g⟩ (.agg (E.enc (l.getD i default)).toArray) :=
  QS.of_run fun A w ha _ => by
    subst hk; subst hn
    have hi := hi'
    have hx1 : l[i]? = some (l.getD i default) := by simp [List.getD_eq_getElem?_getD, hi]
    have h1 : ((l.flatMap E.enc).toArray.extract (i * E.k) (i * E.k + E.k)) = (E.enc (l.getD i default)).toArray := by
      apply Array.toList_inj.1
      simp only [Array.toList_extract, List.extract]
      rw [show i * E.k + E.k - i * E.k = E.k by omega]
      exact extract_flat E l i _ hx1
    have hrun : ∀ cs : Array Value, (Instr.index t (.agg cs) (.int kk i)).run P w = .ok (.agg (cs.extract (i * E.k) (i * E.k + E.k))) w := fun cs => by
      simp [Instr.index, asIntOf, run_underlying ht, hz, part, hag, hi]
    simp only [execOp, ha.eval hx, ha.eval hy, Sem.run_bind, hrun, h1, Result.andThen_ok, Sem.run_pure]

/-! ### bytes and words -/
section
variable {x y : Operand} {t u : TypeId}
theorem QS.and7 {m : Int} (hx : opv M x = some (.int .i64 m)) (hy : opv M y = some (.int .i64 7)) : QS P N F L M ⟨dst, .binOp .and t x y u, ty, pos, after, g⟩ (.int .i64 (m % 8)) := by
  have := QS.and (P := P) (N := N) (F := F) (L := L) (dst := dst) (ty := ty) (pos := pos) (after := after) (g := g) (t := t) (u := u) hx hy
  have e : IntKind.i64.wrap ((BitVec.ofInt IntKind.i64.bits m &&& BitVec.ofInt IntKind.i64.bits 7).toNat : Int) = m % 8 := by
    have h7 : BitVec.ofInt 64 7 = 7#64 := by decide
    show IntKind.i64.wrap ((BitVec.ofInt 64 m &&& BitVec.ofInt 64 7).toNat : Int) = _
    rw [h7, BitVec.toNat_and, BitVec.toNat_ofInt, show (7#64).toNat = 2 ^ 3 - 1 from rfl, Nat.and_two_pow_sub_one_eq_mod]
    rw [IntWalk.i64_in _ (by omega)]
    omega
  rwa [e] at this
/-- a << 4 | b of small numbers. -/
theorem QS.shl4 {m : Int} {kk : IntKind} (hx : opv M x = some (.int .i64 m)) (hy : opv M y = some (.int kk 4)) (h : 0 ≤ m ∧ m < 1000000) : QS P N F L M ⟨dst, .binOp .shl t x y u, ty, pos, after, g⟩ (.int .i64 (m * 16)) := by
  have := QS.shl (P := P) (N := N) (F := F) (L := L) (dst := dst) (ty := ty) (pos := pos) (after := after) (g := g) (t := t) (u := u) hx hy (by omega)
  have e : IntKind.i64.wrap (m * 2 ^ (min (4 : Int).toNat IntKind.i64.bits)) = m * 16 := by
    show IntKind.i64.wrap (m * 2 ^ (min 4 64)) = _
    rw [show (2 : Int) ^ (min 4 64) = 16 from rfl, IntWalk.i64_in _ (by omega)]
  rwa [e] at this
theorem QS.or16 {m n : Int} (hx : opv M x = some (.int .i64 (m * 16))) (hy : opv M y = some (.int .i64 n)) (h : 0 ≤ m ∧ m < 1000000 ∧ 0 ≤ n ∧ n < 16) : QS P N F L M ⟨dst, .binOp .or t x y u, ty, pos, after, g⟩ (.int .i64 (m * 16 + n)) := by
  have := QS.or (P := P) (N := N) (F := F) (L := L) (dst := dst) (ty := ty) (pos := pos) (after := after) (g := g) (t := t) (u := u) hx hy
  have e : IntKind.i64.wrap ((BitVec.ofInt IntKind.i64.bits (m * 16) ||| BitVec.ofInt IntKind.i64.bits n).toNat : Int) = m * 16 + n := by
    obtain ⟨a, rfl⟩ : ∃ a : Nat, m = a := ⟨m.toNat, by omega⟩
    obtain ⟨b, rfl⟩ : ∃ b : Nat, n = b := ⟨n.toNat, by omega⟩
    show IntKind.i64.wrap ((BitVec.ofInt 64 ((a : Int) * 16) ||| BitVec.ofInt 64 (b : Int)).toNat : Int) = _
    have h1 : (BitVec.ofInt 64 ((a : Int) * 16)).toNat = a <<< 4 := by rw [BitVec.toNat_ofInt, Nat.shiftLeft_eq]; omega
    have h2 : (BitVec.ofInt 64 (b : Int)).toNat = b := by rw [BitVec.toNat_ofInt]; omega
    rw [BitVec.toNat_or, h1, h2, ← Nat.shiftLeft_add_eq_or_of_lt (by omega : b < 2 ^ 4), Nat.shiftLeft_eq, IntWalk.i64_in _ (by omega)]
    omega
  rwa [e] at this
theorem QS.and8c15 {m : UInt8} (hx : opv M x = some (.int .u8 m.toNat)) (hy : opv M y = some (.int .u8 15)) : QS P N F L M ⟨dst, .binOp .and t x y u, ty, pos, after, g⟩ (.int .u8 (m % 16).toNat) := by
  have := QS.and (P := P) (N := N) (F := F) (L := L) (dst := dst) (ty := ty) (pos := pos) (after := after) (g := g) (t := t) (u := u) hx hy
  have e : IntKind.u8.wrap ((BitVec.ofInt IntKind.u8.bits (m.toNat : Int) &&& BitVec.ofInt IntKind.u8.bits 15).toNat : Int) = ((m % 16).toNat : Int) := by
    have h1 : BitVec.ofInt 8 (m.toNat : Int) = m.toBitVec := by simp
    have h7 : BitVec.ofInt 8 15 = 15#8 := by decide
    show IntKind.u8.wrap ((BitVec.ofInt 8 (m.toNat : Int) &&& BitVec.ofInt 8 15).toNat : Int) = _
    rw [h1, h7, BitVec.toNat_and, show (15#8).toNat = 2 ^ 4 - 1 from rfl, Nat.and_two_pow_sub_one_eq_mod, IntKind.wrap_u8, UInt8.toNat_mod]
    have : (16 : UInt8).toNat = 16 := rfl
    have h3 : m.toBitVec.toNat = m.toNat := rfl
    rw [this, h3]
    have := m.toNat_lt
    omega
  rwa [e] at this
theorem QS.shr8c4 {m : UInt8} {kk : IntKind} (hx : opv M x = some (.int .u8 m.toNat)) (hy : opv M y = some (.int kk 4)) : QS P N F L M ⟨dst, .binOp .shr t x y u, ty, pos, after, g⟩ (.int .u8 (m / 16).toNat) := by
  have := QS.shr (P := P) (N := N) (F := F) (L := L) (dst := dst) (ty := ty) (pos := pos) (after := after) (g := g) (t := t) (u := u) hx hy (by omega)
  have e : (m.toNat : Int).fdiv (2 ^ (min (4 : Int).toNat IntKind.u8.bits)) = ((m / 16).toNat : Int) := by
    show (m.toNat : Int).fdiv (2 ^ (min 4 8)) = _
    rw [show (2 : Int) ^ (min 4 8) = 16 from rfl, Int.fdiv_eq_ediv_of_nonneg _ (by omega), UInt8.toNat_div]
    have : (16 : UInt8).toNat = 16 := rfl
    rw [this]; omega
  rwa [e] at this
theorem QS.quo8 {m n : UInt8} (hx : opv M x = some (.int .u8 m.toNat)) (hy : opv M y = some (.int .u8 n.toNat)) (h : n ≠ 0) : QS P N F L M ⟨dst, .binOp .quo t x y u, ty, pos, after, g⟩ (.int .u8 (m / n).toNat) :=
  QS.bin hx hy fun w => by
    have h0 : n.toNat ≠ 0 := fun e => h (by rw [← UInt8.toNat_inj]; simpa using e)
    have hn : (n.toNat : Int) ≠ 0 := by omega
    have h1 := m.toNat_lt
    have h2 := n.toNat_lt
    have e1 : (m.toNat : Int).tdiv n.toNat = (m.toNat : Int) / n.toNat := Int.tdiv_eq_ediv_of_nonneg (by omega)
    have e2 : (m.toNat : Int) / n.toNat < 256 := Int.lt_of_le_of_lt (Int.ediv_le_self _ (by omega)) (by omega)
    have e3 : 0 ≤ (m.toNat : Int) / n.toNat := Int.ediv_nonneg (by omega) (by omega)
    have e4 : IntKind.u8.wrap ((m.toNat : Int) / n.toNat) = (m.toNat : Int) / n.toNat := by rw [IntKind.wrap_u8]; omega
    rw [UInt8.toNat_div, Int.natCast_ediv]
    simp [binOp, Op.intDiv, h0, e1, e4]
theorem QS.rem8 {m n : UInt8} (hx : opv M x = some (.int .u8 m.toNat)) (hy : opv M y = some (.int .u8 n.toNat)) (h : n ≠ 0) : QS P N F L M ⟨dst, .binOp .rem t x y u, ty, pos, after, g⟩ (.int .u8 (m % n).toNat) :=
  QS.bin hx hy fun w => by
    have h0 : n.toNat ≠ 0 := fun e => h (by rw [← UInt8.toNat_inj]; simpa using e)
    have hn : (n.toNat : Int) ≠ 0 := by omega
    have := Int.tmod_eq_emod_of_nonneg (a := (m.toNat : Int)) (b := n.toNat) (by omega)
    rw [UInt8.toNat_mod, Int.natCast_emod, ← this]
    simp only [binOp, Op.intDiv, hn, if_false]
    rfl
end

/-! ### a drawn region with changes: whichever order; what only reads may be taken first -/
def plainOp : Op → Bool
  | .move _ | .assign _ | .pick .. | .extract .. | .load .. | .fieldAddr .. | .field .. | .indexAddr .. | .index .. | .binOp .. | .unOp .. | .convert .. | .build .. | .slice .. => true
  | _ => false
theorem plain_value {o : Oper} (h : plainOp o.op = true) (ρ : Operand → Value) (w w' : World) (n : Next) (hr : (execOp ρ o).run P w = .ok n w') : ∃ u, n = .value u := by
  obtain ⟨dst, op, ty, pos, after, g⟩ := o
  have key : ∀ {β : Type} (m : Sem β) (f : β → Value), (m >>= fun x => pure (Next.value (f x))).run P w = .ok n w' → ∃ u, n = .value u := fun m f hm => by
    simp only [Sem.run_bind, Sem.run_pure] at hm
    cases hmr : m.run P w with
    | ok v w1 => rw [hmr] at hm; simp only [Result.andThen_ok, Result.ok.injEq] at hm; exact ⟨f v, hm.1.symm⟩
    | halt x w1 => rw [hmr] at hm; simp [Result.andThen] at hm
  cases op <;> simp only [plainOp, Bool.false_eq_true] at h <;> simp only [execOp] at hr <;> first
    | exact key _ (fun x => x) hr
    | exact key _ _ hr
    | (simp only [Sem.run_pure, Result.ok.injEq] at hr; exact ⟨_, hr.1.symm⟩)
    | skip
theorem QS.run {o : Oper} {v : Value} (h : QS P N F L M o v) (hp : plainOp o.op = true) {a : Act} {w : World} (ha : FrOK N M a) (hw : HpOK F L w) : (execOp a.eval o).run P w = .ok (.value v) w := by
  have h1 := h a w ha hw
  have h2 := plain_value (P := P) hp a.eval w
  unfold Oper.quietAt at h1
  generalize (execOp a.eval o).run P w = r at *
  cases r with
  | ok n w' =>
    obtain ⟨u, rfl⟩ := h2 w' n rfl
    simp only [Oper.quietUpon] at h1
    obtain ⟨rfl, rfl⟩ := h1
    rfl
  | halt x w' => simp only [Oper.quietUpon] at h1

variable {L0 : List Ent} {fuel : Nat} {listed : Array Bool} {op : Op}
theorem Tr.regionH {id : Nat} {l : List Oper} (L0 : List Ent) (n : Nat) (hn : l.length = n) (hm : P.follows .mixedOrders = true)
    (h : Tr N F L M (wpAnyH P .any l.toArray Q (HpOK F L0) n (Array.replicate n false))) : Tr N F L M ((Code.region id l.toArray true).wp P Q) := by
  subst hn
  intro a w ha hw
  exact wp_region_held (S := HpOK F L0) hm (h a w.drew ha hw.drew)
def takeB (ops : Array Oper) (listed : Array Bool) (i : Nat) : Bool := Region.noSelect ops && Region.free .any ops listed i && (Region.ready .any ops listed).contains i
theorem Tr.hTake {v : Value} (i : Nat) (hi : ops[i]? = some ⟨some d, op, ty, pos, after, none⟩) (hB : takeB ops listed i = true) (hQ : ∀ c a d v w, Q (.panic c) (a.put d v) w → Q (.panic c) a w) (hp : plainOp op = true)
    (h : QS P N F L0 M ⟨some d, op, ty, pos, after, none⟩ v) (hL : Pick L L0) (hd : Nat.ble (d + 1) N = true)
    (k : Tr N F L ((d, v) :: M) (wpAnyH P .any ops Q (HpOK F L0) fuel (listed.setIfInBounds i true))) : Tr N F L M (wpAnyH P .any ops Q (HpOK F L0) (fuel + 1) listed) := by
  simp only [takeB, Bool.and_eq_true] at hB
  intro a w ha hw
  exact wpAnyH_take hi hB.1.1 hB.1.2 hB.2 (fun c a w => hQ c a _ _ w) (.inl ⟨by simp [Region.wanted], fun w' hw' => QS.run h hp ha hw'⟩) (hL.heap hw) (k _ _ (ha.put (Nat.le_of_ble_eq_true hd)) hw)
theorem Tr.hTakeG {v : Value} {j t : Nat} {b b' : Bool} (i : Nat) (hi : ops[i]? = some ⟨some d, op, ty, pos, after, some (j, b)⟩) (hB : takeB ops listed i = true) (hQ : ∀ c a d v w, Q (.panic c) (a.put d v) w → Q (.panic c) a w) (hp : plainOp op = true)
    (hj : (ops[j]?).bind (·.dst) = some t) (ht : look M t = some (.bool b')) (hb : b' = b)
    (h : QS P N F L0 M ⟨some d, op, ty, pos, after, some (j, b)⟩ v) (hL : Pick L L0) (hd : Nat.ble (d + 1) N = true)
    (k : Tr N F L ((d, v) :: M) (wpAnyH P .any ops Q (HpOK F L0) fuel (listed.setIfInBounds i true))) : Tr N F L M (wpAnyH P .any ops Q (HpOK F L0) (fuel + 1) listed) := by
  simp only [takeB, Bool.and_eq_true] at hB
  intro a w ha hw
  exact wpAnyH_take hi hB.1.1 hB.1.2 hB.2 (fun c a w => hQ c a _ _ w) (.inl ⟨by simp [Region.wanted, yielded_of ha hj ht, hb], fun w' hw' => QS.run h hp ha hw'⟩) (hL.heap hw) (k _ _ (ha.put (Nat.le_of_ble_eq_true hd)) hw)
theorem Tr.hSkip {j t : Nat} {b b' : Bool} (i : Nat) (hi : ops[i]? = some ⟨some d, op, ty, pos, after, some (j, b)⟩) (hB : takeB ops listed i = true) (hQ : ∀ c a d v w, Q (.panic c) (a.put d v) w → Q (.panic c) a w)
    (hj : (ops[j]?).bind (·.dst) = some t) (ht : look M t = some (.bool b')) (hb : b' = !b) (hL : Pick L L0) (hd : Nat.ble (d + 1) N = true)
    (k : Tr N F L ((d, undef) :: M) (wpAnyH P .any ops Q (HpOK F L0) fuel (listed.setIfInBounds i true))) : Tr N F L M (wpAnyH P .any ops Q (HpOK F L0) (fuel + 1) listed) := by
  simp only [takeB, Bool.and_eq_true] at hB
  intro a w ha hw
  exact wpAnyH_take (v := undef) hi hB.1.1 hB.1.2 hB.2 (fun c a w => hQ c a _ _ w) (.inr ⟨by simp [Region.wanted, yielded_of ha hj ht, hb], rfl⟩) (hL.heap hw) (k _ _ (ha.put (Nat.le_of_ble_eq_true hd)) hw)
theorem Tr.hAll {S : World → Prop} (rs : List Nat) (hr : Region.ready .any ops listed = rs) (hne : rs ≠ [])
    (h : ∀ i ∈ rs, Tr N F L M (fun a w => wpOp P ops Q i (fun a' w' => S w' ∧ wpAnyH P .any ops Q S fuel (listed.setIfInBounds i true) a' w') a w)) : Tr N F L M (wpAnyH P .any ops Q S (fuel + 1) listed) :=
  fun a w ha hw => wpAnyH_all hr hne fun i hi => h i hi a w ha hw
theorem Tr.hOp {i : Nat} {o : Oper} {K : Act → World → Prop} (hi : ops[i]? = some o) (h : Tr N F L M (wpList P ops (Exit.then K Q) [o])) : Tr N F L M (fun a w => wpOp P ops Q i K a w) := by
  intro a w ha hw
  have h := h a w ha hw
  unfold wpOp
  simp only [hi]
  unfold wpList at h
  split
  · rename_i hwant
    rw [if_pos hwant] at h
    rcases h with h | ⟨h, a0, w0, h0⟩
    · left
      unfold Oper.wp at *
      generalize (execOp a.eval o).run P w = r at *
      cases r with
      | ok n w' =>
        cases n <;> simp only [Oper.upon] at h ⊢
        case value => exact h
        case skip => exact h
        case defer => exact h
        case enter => exact h.mono fun e w'' he => by cases e <;> exact he
        case row => exact h
      | halt x w' => cases x <;> simp only [Oper.upon] at h ⊢; exact h
    · exact .inr ⟨h, a0, w0, h0⟩
  · rename_i hwant
    rw [if_neg hwant] at h
    exact h
theorem Tr.hNext {X : Act → World → Prop} (hL : Pick L L0) (k : Tr N F L M X) : Tr N F L M (wpList P ops (Exit.then (fun a w => HpOK F L0 w ∧ X a w) Q) []) :=
  fun a w ha hw => ⟨hL.heap hw, k a w ha hw⟩
theorem Tr.hDone {S : World → Prop} (hr : Region.ready .any ops listed = []) (h : Tr N F L M (Q .normal)) : Tr N F L M (wpAnyH P .any ops Q S fuel listed) :=
  fun a w ha hw => wpAnyH_done hr (h a w ha hw) fuel
end
end Go.HL

namespace Go.HL
open Go Go.RowKit
section
variable {P : Program} {Q : Exit → Act → World → Prop} {N : Nat} {F : Bg} {L : List Ent} {M : Fr}
theorem Tr.scope {c : Code} (h : Tr N F L M (c.wp P (Exit.noGoto Q))) : Tr N F L M ((Code.scope c).wp P Q) := fun a w ha hw => wp_scope_straight (h a w ha hw)
theorem Tr.scopeN (h : Tr N F L M (Q .normal)) : Tr N F L M (Exit.noGoto Q .normal) := h
theorem Tr.scopeR (h : Tr N F L M (Q .ret)) : Tr N F L M (Exit.noGoto Q .ret) := h
theorem Tr.scopeE {id : Nat} (h : Tr N F L M (Q (.exit id))) : Tr N F L M (Exit.noGoto Q (.exit id)) := h
theorem panicScope (h : ∀ c a d v w, Q (.panic c) (a.put d v) w → Q (.panic c) a w) : ∀ c a d v w, Exit.noGoto Q (.panic c) (a.put d v) w → Exit.noGoto Q (.panic c) a w := h
theorem Tr.endOr {t : Nat} {v : Value} {M0 : Fr} (hv : look M t = some v) (hs : SubX [t] M M0) : Tr N F L M (fun a w => FrOK N ((t, v) :: M0) a ∧ HpOK F L w) :=
  fun a w ha hw => ⟨ha.sub (SubX.front [(t, v)] (by simp [hv]) hs), hw⟩
theorem Tr.hGuard {t : Nat} {x : Bool} {X : Act → World → Prop} (_hx : look M t = some (.bool x)) (hT : x = true → Tr N F L M X) (hF : x = false → Tr N F L M X) : Tr N F L M X := Tr.cases x hT hF
end
end Go.HL

namespace Go.HL
open Go Go.RowKit
section
variable {P : Program} {ops : Array Oper} {Q : Exit → Act → World → Prop} {Y : Act → Prop} {N : Nat} {F : Bg} {L : List Ent} {M : Fr} {d : Nat}
theorem TrQ.andP {l : List Oper} {t k : Nat} {p : Nat × Nat × Nat} {x y : Bool} (_hp : (k, t, d) = p) (_hx : look M t = some (.bool x)) (hT : x = true → TrQ N M (wpQuiet P ops (HpOK F L) (FrOK N ((d, .bool y) :: M)) (l.take k))) (hF : x = false → TrQ N M (wpQuiet P ops (HpOK F L) (FrOK N ((d, .bool false) :: M)) (l.take k)))
    (h2 : TrQ N ((d, .bool (x && y)) :: M) (wpQuiet P ops (HpOK F L) Y (l.drop k))) : TrQ N M (wpQuiet P ops (HpOK F L) Y l) := TrQ.and k _hx hT hF h2
theorem TrQ.orP {l : List Oper} {t k : Nat} {p : Nat × Nat × Nat} {x y : Bool} (_hp : (k, t, d) = p) (_hx : look M t = some (.bool x)) (hF : x = false → TrQ N M (wpQuiet P ops (HpOK F L) (FrOK N ((d, .bool y) :: M)) (l.take k))) (hT : x = true → TrQ N M (wpQuiet P ops (HpOK F L) (FrOK N ((d, .bool true) :: M)) (l.take k)))
    (h2 : TrQ N ((d, .bool (x || y)) :: M) (wpQuiet P ops (HpOK F L) Y (l.drop k))) : TrQ N M (wpQuiet P ops (HpOK F L) Y l) := TrQ.or k _hx hF hT h2
theorem Tr.andP {l : List Oper} {t k : Nat} {p : Nat × Nat × Nat} {x y : Bool} (_hp : (k, t, d) = p) (_hx : look M t = some (.bool x)) (hT : x = true → Tr N F L M (wpList P ops (Exit.then (fun a w => FrOK N ((d, .bool y) :: M) a ∧ HpOK F L w) Q) (l.take k))) (hF : x = false → Tr N F L M (wpList P ops (Exit.then (fun a w => FrOK N ((d, .bool false) :: M) a ∧ HpOK F L w) Q) (l.take k)))
    (h2 : Tr N F L ((d, .bool (x && y)) :: M) (wpList P ops Q (l.drop k))) : Tr N F L M (wpList P ops Q l) := Tr.and k _hx hT hF h2
theorem Tr.orP {l : List Oper} {t k : Nat} {p : Nat × Nat × Nat} {x y : Bool} (_hp : (k, t, d) = p) (_hx : look M t = some (.bool x)) (hF : x = false → Tr N F L M (wpList P ops (Exit.then (fun a w => FrOK N ((d, .bool y) :: M) a ∧ HpOK F L w) Q) (l.take k))) (hT : x = true → Tr N F L M (wpList P ops (Exit.then (fun a w => FrOK N ((d, .bool true) :: M) a ∧ HpOK F L w) Q) (l.take k)))
    (h2 : Tr N F L ((d, .bool (x || y)) :: M) (wpList P ops Q (l.drop k))) : Tr N F L M (wpList P ops Q l) := Tr.or k _hx hF hT h2
end
end Go.HL

namespace Go.HL
open Go Go.RowKit
theorem QS.and1 {P : Program} {N : Nat} {F : Bg} {L : List Ent} {M : Fr} {dst : Option Tmp} {ty : TypeId} {pos : String} {after : Array Edge} {g : Option (Nat × Bool)} {x y : Operand} {t u : TypeId} {m : Int}
    (hx : opv M x = some (.int .i64 m)) (hy : opv M y = some (.int .i64 1)) : QS P N F L M ⟨dst, .binOp .and t x y u, ty, pos, after, g⟩ (.int .i64 (m % 2)) := by
  have := QS.and (P := P) (N := N) (F := F) (L := L) (dst := dst) (ty := ty) (pos := pos) (after := after) (g := g) (t := t) (u := u) hx hy
  have e : IntKind.i64.wrap ((BitVec.ofInt IntKind.i64.bits m &&& BitVec.ofInt IntKind.i64.bits 1).toNat : Int) = m % 2 := by
    have h7 : BitVec.ofInt 64 1 = 1#64 := by decide
    show IntKind.i64.wrap ((BitVec.ofInt 64 m &&& BitVec.ofInt 64 1).toNat : Int) = _
    rw [h7, BitVec.toNat_and, BitVec.toNat_ofInt, show (1#64).toNat = 2 ^ 1 - 1 from rfl, Nat.and_two_pow_sub_one_eq_mod]
    rw [IntWalk.i64_in _ (by omega)]
    omega
  rwa [e] at this
end Go.HL

/-! ### short forms: the same rules, with what a tactic finds left out -/
namespace Go.HL
open Go Go.RowKit
theorem bs : (∀ a b : Bool, ((a && b) = true) = (a = true ∧ b = true)) ∧ (∀ a b : Bool, ((a || b) = true) = (a = true ∨ b = true)) ∧ (∀ a : Bool, ((!a) = true) = (a = false)) ∧ (∀ a : Bool, ((!a) = false) = (a = true)) ∧
    (∀ (p : Prop) [Decidable p], (decide p = true) = p) ∧ (∀ (p : Prop) [Decidable p], (decide p = false) = ¬ p) ∧ (∀ a b : Bool, ((a && b) = false) = (a = false ∨ b = false)) ∧ (∀ a b : Bool, ((a || b) = false) = (a = false ∧ b = false)) ∧
    (∀ (α : Type) (a b : α), (a ≠ b) = ¬ a = b) ∧ (∀ (p : Prop) [Decidable p], (¬ ¬ p) = p) :=
  ⟨fun a b => by cases a <;> cases b <;> simp, fun a b => by cases a <;> cases b <;> simp, fun a => by cases a <;> simp, fun a => by cases a <;> simp, fun p _ => by simp, fun p _ => by simp, fun a b => by cases a <;> cases b <;> simp, fun a b => by cases a <;> cases b <;> simp, fun _ _ _ => rfl, fun p _ => by simp⟩
section
variable {P : Program} {ops : Array Oper} {Q : Exit → Act → World → Prop} {N : Nat} {F : Bg} {L : List Ent} {M : Fr} {dst : Option Tmp} {ty : TypeId} {pos : String} {after : Array Edge} {g : Option (Nat × Bool)} {d : Nat} {L0 : List Ent} {fuel : Nat} {listed : Array Bool} {op : Op}
theorem Tr.endX {L' : List Ent} {M' : Fr} {K : Act → World → Prop} (hM : Sub M M') (hK : K = (fun a w => FrOK N M' a ∧ HpOK F L' w) := by rfl) (hL : Pick L L' := by repeat' (first | exact Pick.nil _ | exact Del.here _ | apply Pick.cons | apply Del.there)) : Tr N F L M K := Tr.endP hM hK hL
theorem Tr.hT {v : Value} (i : Nat) (hi : ops[i]? = some ⟨some d, op, ty, pos, after, none⟩) (hB : takeB ops listed i = true) (hQ : ∀ c a d v w, Q (.panic c) (a.put d v) w → Q (.panic c) a w)
    (h : QS P N F L0 M ⟨some d, op, ty, pos, after, none⟩ v) (k : Tr N F L ((d, v) :: M) (wpAnyH P .any ops Q (HpOK F L0) fuel (listed.setIfInBounds i true)))
    (hp : plainOp op = true := by rfl) (hd : Nat.ble (d + 1) N = true := by rfl) (hL : Pick L L0 := by repeat' (first | exact Pick.nil _ | exact Del.here _ | apply Pick.cons | apply Del.there)) :
    Tr N F L M (wpAnyH P .any ops Q (HpOK F L0) (fuel + 1) listed) := Tr.hTake i hi hB hQ hp h hL hd k
theorem Tr.hN {X : Act → World → Prop} (k : Tr N F L M X) (hL : Pick L L0 := by repeat' (first | exact Pick.nil _ | exact Del.here _ | apply Pick.cons | apply Del.there)) : Tr N F L M (wpList P ops (Exit.then (fun a w => HpOK F L0 w ∧ X a w) Q) []) := Tr.hNext hL k
theorem QS.lV {x : Operand} {t T : TypeId} {b o : Nat} {v : Value} {cs : List Value} (hx : opv M x = some (.pointer (some ⟨b, o, none⟩))) (hagg : ∀ w, (isAgg t).run P w = .ok false w)
    (hm : cellE b cs T ∈ L := by repeat (first | exact List.Mem.head _ | apply List.Mem.tail)) (hv : cs[o]? = some v := by rfl) : QS P N F L M ⟨dst, .load t x, ty, pos, after, g⟩ v := QS.loadV hx hm hagg hv
theorem QS.lW {x : Operand} {t T : TypeId} {b k : Nat} {cs : List Value} (hx : opv M x = some (.pointer (some ⟨b, 0, none⟩))) (hagg : ∀ w, (isAgg t).run P w = .ok true w)
    (hz : ∀ w, (sizeOf t).run P w = .ok k w) (hm : cellE b cs T ∈ L := by repeat (first | exact List.Mem.head _ | apply List.Mem.tail)) (hl : cs.length = k := by rfl) : QS P N F L M ⟨dst, .load t x, ty, pos, after, g⟩ (.agg cs.toArray) := QS.loadVW hx hm hagg hz hl
end
end Go.HL
