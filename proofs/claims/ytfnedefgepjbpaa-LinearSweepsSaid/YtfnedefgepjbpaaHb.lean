/- More rules: function values, slices against nil, reslices, strings, struct values compared. -/
import Derived.Test.YtfnedefgepjbpaaHd
import Derived.Lib.SliceRun
import Derived.Lib.Strings
set_option linter.unusedSimpArgs false
set_option linter.unusedVariables false
namespace Go.HL
open Go Go.RowKit

def isNil : Value → Bool
  | .slice none _ _ => true
  | _ => false

section
variable {P : Program} {ops : Array Oper} {Q : Exit → Act → World → Prop} {N : Nat} {F : Bg} {L : List Ent} {M : Fr} {dst : Option Tmp} {ty : TypeId} {pos : String} {after : Array Edge} {g : Option (Nat × Bool)} {rest : List Oper} {d : Nat}

theorem Sl.isNil {α : Type} {h : Hp} {E : Enc α} {l : List α} {V : Value} (s : Sl h E l V) (hn : HL.isNil V = true) : l = [] := by
  obtain ⟨a, c, rfl, _, _, h3⟩ := s.shape
  cases a with
  | none =>
    by_cases hl : l = []
    · exact hl
    · have := h3 hl; cases this
  | some a => simp [HL.isNil] at hn

theorem eqGuard_slice {op : BinOp} {t : TypeId} {x y : Operand} {V : Value} {a : Option Addr} {n c : Nat} (w : World) (hV : V = .slice a n c) (V' : Value) : (eqGuard op t x y V V').run P w = .ok () w := by
  subst hV
  unfold eqGuard
  cases op <;> cases V' <;> rfl

theorem QS.eqlNil {x : Operand} {t e u : TypeId} {V : Value} {n c : Nat} (hx : opv M x = some V) (hV : ∀ w, HpOK F L w → ∃ a n c, V = .slice a n c) (ht : P.underlying t = some (.slice e)) :
    QS P N F L M ⟨dst, .binOp .eql t x (.const (.slice none n c)) u, ty, pos, after, g⟩ (.bool (isNil V)) :=
  QS.of_run fun A w ha hw => by
    obtain ⟨a, n', c', hV'⟩ := hV w hw
    have hg := eqGuard_slice (P := P) (op := .eql) (t := t) (x := x) (y := .const (.slice none n c)) w hV' (.slice none n c)
    have hc : A.eval (.const (.slice none n c)) = .slice none n c := rfl
    subst hV'
    simp only [execOp, ha.eval hx, hc, Sem.run_bind, hg, Result.andThen_ok, Lib.run_eql_slice_nil w t e a n' c' n c ht, Sem.run_pure]
    cases a <;> rfl
theorem QS.eqlNilS {α : Type} {E : Enc α} {l : List α} {x : Operand} {t e u : TypeId} {V : Value} {n c : Nat} (hx : opv M x = some V) (hs : Sl F.blk E l V) (ht : P.underlying t = some (.slice e)) :
    QS P N F L M ⟨dst, .binOp .eql t x (.const (.slice none n c)) u, ty, pos, after, g⟩ (.bool (isNil V)) :=
  QS.eqlNil hx (fun _ _ => let ⟨a, c, h, _⟩ := hs.shape; ⟨a, _, c, h⟩) ht

/-! ### function values -/
theorem QS.makeFunc {fn : Fn} {xs ys : List Operand} {us vs : List Value} (hx : opvs M xs = some us) (hy : opvs M ys = some vs) :
    QS P N F L M ⟨dst, .makeFunc fn xs.toArray ys.toArray, ty, pos, after, g⟩ (.func fn us.toArray vs.toArray) :=
  QS.of_run fun A w ha hw => by
    simp [execOp, Instr.makeFunc, ha.evals hx, ha.evals hy]

theorem callV_run {fo : Operand} {f : FuncId} {cb : List Value} {xs : List Operand} {vs : List Value} {ts : Array TypeId} {a : Act} {w : World} (ha : FrOK N M a) (hf : opv M fo = some (.func (.func f) #[] cb.toArray)) (hx : opvs M xs = some vs)
    (he : ∀ (args : Array Value) (w : World), (callFunc f args).run P w = .ok (.enter f args) w) :
    (execOp a.eval ⟨dst, .call { callee := .value fo, args := xs.toArray, argTypes := ts }, ty, pos, after, g⟩).run P w = .ok (.enter f (vs ++ cb).toArray) w := by
  have h1 := ha.evals hx
  have h2 := ha.eval hf
  simp [execOp, resolve, Deferred.ofValue, invoke, he, h1, h2]

theorem QS.callV {fo : Operand} {f : FuncId} {cb : List Value} {xs : List Operand} {vs : List Value} {ts : Array TypeId} {v : Value} (hf : opv M fo = some (.func (.func f) #[] cb.toArray)) (hx : opvs M xs = some vs)
    (he : ∀ (args : Array Value) (w : World), (callFunc f args).run P w = .ok (.enter f args) w)
    (hc : ∀ w, HpOK F L w → Calls P f (vs ++ cb).toArray w fun e w' => e = .returned v ∧ Ext w w') :
    QS P N F L M ⟨dst, .call { callee := .value fo, args := xs.toArray, argTypes := ts }, ty, pos, after, g⟩ v := by
  intro a w ha hw
  unfold Oper.quietAt
  rw [callV_run ha hf hx he]
  exact ⟨rfl, (hc w hw).mono fun e w' ⟨h1, h2⟩ => ⟨h1, hw.grow h2⟩⟩

/-! ### strings, bools -/
section
variable {x y : Operand} {t u : TypeId} {m n : ByteArray}
theorem bytes_toList_inj {a b : ByteArray} : a.toList = b.toList ↔ a = b := by
  constructor
  · intro h
    have : a.data.toList = b.data.toList := by
      rwa [Go.ByteArray.toList_eq, Go.ByteArray.toList_eq] at h
    cases a; cases b
    simp only [ByteArray.mk.injEq]
    exact Array.toList_inj.1 this
  · rintro rfl; rfl
theorem QS.strOf {op : BinOp} {v : Value} (hx : opv M x = some (.string m)) (hy : opv M y = some (.string n)) (hv : ∀ w, (Op.stringOp op m n).run P w = .ok v w) :
    QS P N F L M ⟨dst, .binOp op t x y u, ty, pos, after, g⟩ v :=
  QS.of_run fun A w ha hw => by
    have he : (eqGuard op t x y (.string m) (.string n)).run P w = .ok () w := by unfold eqGuard; cases op <;> rfl
    have hb : (binOp op t (.string m) (.string n)).run P w = .ok v w := by rw [← hv w]; cases op <;> rfl
    simp [execOp, ha.eval hx, ha.eval hy, he, hb]
theorem QS.str_eql (hx : opv M x = some (.string m)) (hy : opv M y = some (.string n)) : QS P N F L M ⟨dst, .binOp .eql t x y u, ty, pos, after, g⟩ (.bool (decide (m = n))) :=
  QS.strOf hx hy fun w => by
    have : (m.toList == n.toList) = decide (m = n) := by
      rw [Bool.eq_iff_iff]; simp [bytes_toList_inj]
    simp [Op.stringOp, this]
theorem QS.str_neq (hx : opv M x = some (.string m)) (hy : opv M y = some (.string n)) : QS P N F L M ⟨dst, .binOp .neq t x y u, ty, pos, after, g⟩ (.bool (decide (m ≠ n))) :=
  QS.strOf hx hy fun w => by
    have : (m.toList == n.toList) = decide (m = n) := by
      rw [Bool.eq_iff_iff]; simp [bytes_toList_inj]
    simp [Op.stringOp, this]
theorem QS.str_lss (hx : opv M x = some (.string m)) (hy : opv M y = some (.string n)) : QS P N F L M ⟨dst, .binOp .lss t x y u, ty, pos, after, g⟩ (.bool (Op.bytesLess m.toList n.toList)) :=
  QS.strOf hx hy fun w => by simp [Op.stringOp]
end
theorem QS.bool_eql {x y : Operand} {t u : TypeId} {a b : Bool} (hx : opv M x = some (.bool a)) (hy : opv M y = some (.bool b)) (ht : P.underlying t = some .bool) : QS P N F L M ⟨dst, .binOp .eql t x y u, ty, pos, after, g⟩ (.bool (a == b)) :=
  QS.of_run fun A w ha hw => by
    have he : (eqGuard .eql t x y (.bool a) (.bool b)).run P w = .ok () w := by unfold eqGuard; rfl
    simp [execOp, ha.eval hx, ha.eval hy, he, run_eql_bool w t a b ht]
theorem QS.bool_neq {x y : Operand} {t u : TypeId} {a b : Bool} (hx : opv M x = some (.bool a)) (hy : opv M y = some (.bool b)) (ht : P.underlying t = some .bool) : QS P N F L M ⟨dst, .binOp .neq t x y u, ty, pos, after, g⟩ (.bool (!(a == b))) :=
  QS.of_run fun A w ha hw => by
    have he : (eqGuard .neq t x y (.bool a) (.bool b)).run P w = .ok () w := by unfold eqGuard; rfl
    simp [execOp, ha.eval hx, ha.eval hy, he, run_neq_bool w t a b ht]
/-- A byte of a string. -/
theorem QS.strIdx {x y : Operand} {t : TypeId} {s : ByteArray} {k : IntKind} {i : Int} (hx : opv M x = some (.string s)) (hy : opv M y = some (.int k i)) (ht : P.underlying t = some .string) (hi : 0 ≤ i ∧ i < s.size) :
    QS P N F L M ⟨dst, .index t x y, ty, pos, after, g⟩ (.int .u8 ((s.data.toList.getD i.toNat 0).toNat : Nat)) :=
  QS.of_run fun A w ha hw => by
    have h1 : i.toNat < s.size := by omega
    have h2 : s[i.toNat]? = some (s.data.toList.getD i.toNat 0) := by
      rw [getElem?_pos s i.toNat h1]
      have h3 : i.toNat < s.data.size := h1
      simp only [List.getD_eq_getElem?_getD, Array.getElem?_toList, Option.some.injEq]
      rw [getElem?_pos s.data i.toNat h3]
      rfl
    simp [execOp, ha.eval hx, ha.eval hy, Instr.index, asIntOf, run_underlying ht, hi.1, h2]

/-! ### reslices -/
/-- x[lo:hi] of a slice that is only read. -/
theorem sliceRun {t e : TypeId} {k : Nat} (ht : P.underlying t = some (.slice e)) (hz : ∀ w, (sizeOf e).run P w = .ok k w) (w : World) {a : Option Addr} {n c : Nat} {lo hi mx : Option Value} {l h m : Nat}
    (hb : ∀ w, (Instr.sliceBounds true n c lo hi mx).run P w = .ok (l, h, m) w) :
    (Instr.sliceAt t (.slice a n c) lo hi mx).run P w = .ok (.slice (if m = l then a else a.map (·.add (l * k))) (h - l) (m - l)) w := by
  simp [Instr.sliceAt, Instr.slice, run_underlying ht, hb, hz]

def loOf : Option (IntKind × Int) → Int
  | none => 0
  | some (_, i) => i
def hiOf (n : Nat) : Option (IntKind × Int) → Int
  | none => n
  | some (_, i) => i

theorem boundsRun {n c : Nat} {lo hi : Option (IntKind × Int)} (w : World) (h0 : 0 ≤ loOf lo) (h1 : loOf lo ≤ hiOf n hi) (h2 : hiOf n hi ≤ c) (h3 : n ≤ c) :
    (Instr.sliceBounds true n c (lo.map fun p => .int p.1 p.2) (hi.map fun p => .int p.1 p.2) none).run P w = .ok ((loOf lo).toNat, (hiOf n hi).toNat, c) w := by
  have e2 : ((hiOf n hi).toNat : Int) = hiOf n hi := Int.toNat_of_nonneg (by omega)
  cases lo with
  | none =>
    cases hi with
    | none => simp [Instr.sliceBounds, loOf, hiOf]
    | some q =>
      obtain ⟨kk, i⟩ := q
      simp only [loOf, hiOf] at *
      have hs := run_sliceBound (P := P) w kk i c .sliceAcap (by omega) h2
      simp [Instr.sliceBounds, hs]
  | some p =>
    obtain ⟨kp, j⟩ := p
    cases hi with
    | none =>
      simp only [loOf, hiOf] at *
      have hs := run_sliceBound (P := P) w kp j n .sliceB h0 h1
      simp [Instr.sliceBounds, hs]
    | some q =>
      obtain ⟨kk, i⟩ := q
      simp only [loOf, hiOf] at *
      have hs := run_sliceBound (P := P) w kk i c .sliceAcap (by omega) h2
      have hs2 := run_sliceBound (P := P) w kp j i.toNat .sliceB h0 (by omega)
      simp [Instr.sliceBounds, hs, hs2]

/-- What a reslice of V reads. -/
def resl (V : Value) (l h k : Nat) : Value :=
  match V with
  | .slice a _ c => .slice (if c = l then a else a.map (·.add (l * k))) (h - l) (c - l)
  | v => v

theorem Sl.resl {α : Type} {H : Hp} {E : Enc α} {xs : List α} {V : Value} (s : Sl H E xs V) {l h : Nat} (hl : l ≤ h) (hh : h ≤ xs.length) : Sl H E ((xs.take h).drop l) (HL.resl V l h E.k) := by
  obtain ⟨a, c, rfl, h1, h2, h3⟩ := s.shape
  have hlen : ((xs.take h).drop l).length = h - l := by simp; omega
  refine ⟨⟨(if c = l then a else a.map (·.add (l * E.k))), c - l, by simp [HL.resl, hlen], by omega, by omega, fun hne => ?_⟩, fun i x hx => ?_⟩
  · have hlt : l < h := by
      rcases Nat.lt_or_ge l h with h' | h'
      · exact h'
      · exact absurd (List.eq_nil_of_length_eq_zero (by omega)) hne
    have ha := h3 (by intro e; subst e; simp at hh; omega)
    have hcl : c ≠ l := by omega
    simp only [HL.resl, hcl, if_false]
    rw [ha]
    simp only [Option.map_some, Addr.add_lit, bk, ofs]
  · have hi : i < h - l := by rw [← hlen]; exact (List.getElem?_eq_some_iff.1 hx).1
    have ha := h3 (by intro e; subst e; simp at hh; omega)
    have hcl : c ≠ l := by omega
    rw [List.getElem?_drop, List.getElem?_take, if_pos (by omega)] at hx
    have := s.cells (l + i) x hx
    simp only [bk, ofs] at ha
    have hadd : ∀ (b o n : Nat), (⟨b, o, none⟩ : Addr).add n = ⟨b, o + n, none⟩ := Addr.add_lit
    cases a with
    | none => cases ha
    | some a =>
      simp only [Option.some.injEq] at ha
      simp only [bk, ofs] at this
      rw [ha] at this ⊢
      simp only [HL.resl, hcl, if_false, Option.map_some, hadd, bk, ofs]
      rw [show a.off + l * E.k + i * E.k = a.off + (l + i) * E.k by rw [Nat.add_mul]; omega]
      exact this

theorem QS.slice {α : Type} {E : Enc α} {xs : List α} {x : Operand} {lo hi : Option Operand} {lv hv : Option (IntKind × Int)} {t e : TypeId} {V : Value} {k : Nat} (hx : opv M x = some V) (hs : Sl F.blk E xs V)
    (hlo : lo.map (opv M) = lv.map fun p => some (.int p.1 p.2)) (hhi : hi.map (opv M) = hv.map fun p => some (.int p.1 p.2))
    (ht : P.underlying t = some (.slice e)) (hz : ∀ w, (sizeOf e).run P w = .ok k w) (hk : k = E.k) (h0 : 0 ≤ loOf lv) (h1 : loOf lv ≤ hiOf xs.length hv) (h2 : hiOf xs.length hv ≤ xs.length) :
    QS P N F L M ⟨dst, .slice t x lo hi none, ty, pos, after, g⟩ (HL.resl V (loOf lv).toNat (hiOf xs.length hv).toNat E.k) :=
  QS.of_run fun A w ha hw => by
    obtain ⟨a, c, rfl, hc1, hc2, _⟩ := hs.shape
    have e1 : lo.map A.eval = lv.map fun p => Value.int p.1 p.2 := by
      cases lo with
      | none => cases lv <;> simp_all
      | some o =>
        cases lv with
        | none => simp at hlo
        | some p => simp only [Option.map_some, Option.some.injEq] at hlo ⊢; exact ha.eval hlo
    have e2 : hi.map A.eval = hv.map fun p => Value.int p.1 p.2 := by
      cases hi with
      | none => cases hv <;> simp_all
      | some o =>
        cases hv with
        | none => simp at hhi
        | some p => simp only [Option.map_some, Option.some.injEq] at hhi ⊢; exact ha.eval hhi
    have hr := sliceRun (P := P) ht hz w (a := a) (n := xs.length) (c := c) (fun w => boundsRun (P := P) w h0 h1 (by omega) hc1)
    subst hk
    simp only [execOp, ha.eval hx, e1, e2, Option.map_none, Sem.run_bind, hr, Result.andThen_ok, Sem.run_pure]
    rfl

/-- c[:len(c):len(c)] of one's own slice. -/
theorem Tr.sliceFull {α : Type} {E : Enc α} {xs : List α} {x hi mx : Operand} {t e T : TypeId} {V : Value} {k : Nat} {L1 : List Ent} (hx : opv M x = some V) (hV : Del (rowE V T E xs) L L1) (hhi : opv M hi = some (.int .i64 (xs.length : Nat))) (hmx : opv M mx = some (.int .i64 (xs.length : Nat)))
    (ht : P.underlying t = some (.slice e)) (hz : ∀ w, (sizeOf e).run P w = .ok k w) (hd : Nat.ble (d + 1) N = true)
    (K : ∀ V', Tr N F (rowE V' T E xs :: L1) ((d, V') :: M) (wpList P ops Q rest)) : Tr N F L M (wpList P ops Q (⟨some d, .slice t x none (some hi) (some mx), ty, pos, after, none⟩ :: rest)) := by
  intro a w ha hw
  refine wpList_plain rfl fun K' hK => ?_
  have hf := hw.front hV
  have hrow : RowOK V T E xs (V.ownBlock.bind (w.heap[·]?)) := hf.ent _ (.head _)
  obtain ⟨av, cv, hV', hle⟩ : ∃ av cv, V = .slice av xs.length cv ∧ xs.length ≤ cv := by
    rcases hrow with ⟨rfl, rfl⟩ | ⟨gb, cap, cur, rfl, _, h1, _⟩
    · exact ⟨none, 0, rfl, Nat.le_refl _⟩
    · exact ⟨_, _, rfl, h1⟩
  have hb : ∀ w, (Instr.sliceBounds true xs.length cv none (some (.int .i64 (xs.length : Nat))) (some (.int .i64 (xs.length : Nat)))).run P w = .ok (0, xs.length, xs.length) w := by
    intro w
    have hs := run_sliceBound (P := P) w .i64 (xs.length : Int) cv .slice3Acap (by omega) (by omega)
    have hs2 := run_sliceBound (P := P) w .i64 (xs.length : Int) xs.length .slice3B (by omega) (by omega)
    simp only [Int.toNat_natCast] at hs hs2
    simp [Instr.sliceBounds, hs, hs2]
  have hr := sliceRun (P := P) ht hz w (a := av) hb
  have hv : (if xs.length = 0 then av else av.map (·.add (0 * k))) = av := by
    split
    · rfl
    · cases av with
      | none => rfl
      | some a0 => simp [Addr.add]
  rw [hv] at hr
  simp only [Nat.sub_zero] at hr
  unfold Oper.wp
  simp only [execOp, ha.eval hx, ha.eval hhi, ha.eval hmx, Option.map_none, Option.map_some, Sem.run_bind, hV', hr, Result.andThen_ok, Sem.run_pure, Oper.upon]
  refine hK _ _ (K _ _ _ (ha.put (Nat.le_of_ble_eq_true hd)) ?_)
  subst hV'
  have hL1 : HpOK F (rowE (.slice av xs.length cv) T E xs :: L1) w := hf
  rcases hrow with ⟨h1, h2⟩ | ⟨gb, cap, cur, h1, ho, hc1, hc2, hc3, hc4⟩
  · subst h2
    simp only [Value.slice.injEq] at h1
    obtain ⟨rfl, _, rfl⟩ := h1
    exact hL1
  · simp only [Value.slice.injEq] at h1
    obtain ⟨rfl, _, rfl⟩ := h1
    have e1 : rowE (.slice (some ⟨gb, 0, none⟩) xs.length cv) T E xs = ⟨some gb, RowOK (.slice (some ⟨gb, 0, none⟩) xs.length cv) T E xs⟩ := rfl
    have e2 : rowE (.slice (some ⟨gb, 0, none⟩) xs.length xs.length) T E xs = ⟨some gb, RowOK (.slice (some ⟨gb, 0, none⟩) xs.length xs.length) T E xs⟩ := rfl
    rw [e1] at hL1
    rw [e2]
    refine HpOK.set hL1 (.here _) rfl rfl rfl (Nat.le_refl _) (Nat.le_refl _) (fun _ _ _ => rfl) ?_
    have ho' : w.heap[gb]? = some (.cells cur T (0, 0)) := ho
    rw [ho']
    exact .inr ⟨gb, xs.length, cur, rfl, rfl, Nat.le_refl _, by omega, Nat.le_trans (Nat.mul_le_mul_right _ hc1) hc3, hc4⟩

/-- A slice literal of no element. -/
theorem Tr.lit0 {α : Type} (E : Enc α) {t e : TypeId} {k : Nat} (ht : P.underlying t = some (.slice e)) (hz : ∀ w, (sizeOf e).run P w = .ok k w) (hd : Nat.ble (d + 1) N = true)
    (K : ∀ V, Tr N F (rowE V e E ([] : List α) :: L) ((d, V) :: M) (wpList P ops Q rest)) : Tr N F L M (wpList P ops Q (⟨some d, .buildSlice t 0 #[], ty, pos, after, none⟩ :: rest)) := by
  intro a w ha hw
  refine wpList_plain rfl fun K' hK => ?_
  have hr : (Instr.buildSlice t 0 #[]).run P w = .ok (.slice (some ⟨w.heap.size, 0, none⟩) 0 0) (w.alloc (.cells #[] e)) := by
    have e : (Array.map (fun x => (default : Value)) (Array.range 0)) = #[] := by apply Array.ext <;> simp
    simp [Instr.buildSlice, run_underlying ht, hz, Instr.fill, newRow, e]
  unfold Oper.wp
  have he : (execOp a.eval ⟨some d, .buildSlice t 0 #[], ty, pos, after, none⟩).run P w = .ok (.value (.slice (some ⟨w.heap.size, 0, none⟩) 0 0)) (w.alloc (.cells #[] e)) := by
    simp only [execOp, List.map_toArray, List.map_nil, Sem.run_bind, hr, Result.andThen_ok, Sem.run_pure]
  rw [he]
  refine hK _ _ (K _ _ _ (ha.put (Nat.le_of_ble_eq_true hd)) ?_)
  refine hw.alloc _ _ ?_
  exact rowOK_new (l := ([] : List α)) (Nat.le_refl _) (by simp [maxLen]) (by simp) (by simp)

/-- A slice literal of n elements. -/
theorem Tr.litN {α : Type} {E : Enc α} (l : List α) {t e : TypeId} {parts : List (Nat × Operand)} {vs : List (Nat × Value)} {z : Value} {n k : Nat} (hx : opvs M (parts.map (·.2)) = some (vs.map (·.2))) (hi : parts.map (·.1) = vs.map (·.1))
    (ht : P.underlying t = some (.slice e)) (hz : ∀ w, (sizeOf e).run P w = .ok k w) (hzero : ∀ w, (zeroValue e).run P w = .ok z w) (hk : k = E.k) (hn : n = l.length) (h0 : (Nat.ble 1 (n * k) && Nat.ble (n * k) 16777216) = true)
    (hfill : Instr.fill (fun i => some (i * k, k)) ((Array.range (n * k)).map (z.cells[· % z.cells.size]!)) vs = some (l.flatMap E.enc).toArray) (hd : Nat.ble (d + 1) N = true)
    (K : ∀ V, Tr N F (rowE V e E l :: L) ((d, V) :: M) (wpList P ops Q rest)) : Tr N F L M (wpList P ops Q (⟨some d, .buildSlice t n parts.toArray, ty, pos, after, none⟩ :: rest)) := by
  obtain ⟨cells, hcells⟩ : ∃ cells, cells = (l.flatMap E.enc).toArray := ⟨_, rfl⟩
  have hc : cells.toList = l.flatMap E.enc := by rw [hcells]
  rw [← hcells] at hfill
  intro a w ha hw
  refine wpList_plain rfl fun K' hK => ?_
  simp only [Bool.and_eq_true] at h0
  have h01 := Nat.le_of_ble_eq_true h0.1
  have h02 := Nat.le_of_ble_eq_true h0.2
  have h2 : parts.map (fun p => (p.1, a.eval p.2)) = vs := by
    have h1 := ha.evals hx
    clear hx hfill K hK
    induction parts generalizing vs with
    | nil => cases vs <;> simp_all
    | cons p ps ih =>
      cases vs with
      | nil => simp at hi
      | cons q qs =>
        simp only [List.map_cons, List.cons.injEq] at h1 hi ⊢
        exact ⟨Prod.ext hi.1 h1.1, ih hi.2 h1.2⟩
  have hr := run_buildSliceOf (P := P) w (n := n) (parts := vs.toArray) (cells := cells) ht hz hzero (by omega) h02 (by simpa using hfill)
  have he : (execOp a.eval ⟨some d, .buildSlice t n parts.toArray, ty, pos, after, none⟩).run P w = .ok (.value (.slice (some ⟨w.heap.size, 0, none⟩) n n)) (w.alloc (.cells cells e)) := by
    simp only [execOp, List.map_toArray]
    have h3 : (parts.map (fun x => match x with | (i, x) => (i, a.eval x))) = vs := h2
    simp only [h3, Sem.run_bind, hr, Result.andThen_ok, Sem.run_pure]
  unfold Oper.wp
  rw [he]
  refine hK _ _ (K _ _ _ (ha.put (Nat.le_of_ble_eq_true hd)) ?_)
  refine hw.alloc _ _ ?_
  subst hn
  have hcl : cells.size = l.length * E.k := by rw [← flatMap_length, ← hc]; simp
  refine rowOK_new (l := l) (Nat.le_refl _) ?_ (by omega) (by rw [hc, List.take_of_length_le (by rw [flatMap_length]; exact Nat.le_refl _)])
  have : l.length ≤ l.length * k := by
    rcases Nat.eq_zero_or_pos k with rfl | hk0
    · simp at h01
    · exact Nat.le_mul_of_pos_right _ hk0
  unfold maxLen; omega
end
end Go.HL

namespace Go.HL
open Go Go.RowKit
theorem newRow_nil {α : Type} {w w' : World} {T : TypeId} {E : Enc α} {l : List α} {n c : Nat} (h : l = []) (hn : n = 0 := by rfl) (hc : c = 0 := by rfl) : NewRow w w' T E l (.slice none n c) := by
  subst h; subst hn; subst hc
  exact ⟨.inl ⟨rfl, rfl⟩, fun b hb => by simp [Value.ownBlock] at hb⟩
theorem HpOK.new {α : Type} {w w' : World} {L : List Ent} {T : TypeId} {E : Enc α} {l : List α} {V : Value} (h : HpOK (Bg.of w) L w') (hm : rowE V T E l ∈ L) : NewRow w w' T E l V :=
  ⟨h.ent _ hm, fun b hb => (h.sep b (List.mem_filterMap.2 ⟨_, hm, hb⟩)).2⟩
end Go.HL

namespace Go.HL
open Go Go.RowKit
/-- A cell of memory that is only read. -/
def Cell (h : Hp) (b o : Nat) (v : Value) : Prop := ∃ cs T fz, h b = some (.cells cs T fz) ∧ cs[o]? = some v
theorem Cell.mono {h k : Hp} {b o : Nat} {v : Value} (c : Cell h b o v) (hk : Hp.le h k) : Cell k b o v := let ⟨cs, T, fz, h1, h2⟩ := c; ⟨cs, T, fz, hk _ _ h1, h2⟩
theorem Ext.hp {w w' : World} (h : Ext w w') : Hp.le (HL.hp w) (HL.hp w') := by
  intro b o hb
  have hb' : w.heap[b]? = some o := hb
  have := h.below.block b (Array.getElem?_eq_some_iff.1 hb').1
  show w'.heap[b]? = some o
  rw [this]; exact hb'
theorem cellE.cell {b o : Nat} {cs : List Value} {T : TypeId} {v : Value} {w w' : World} (h : (cellE b cs T).holds w) (hx : Ext w w') (hv : cs[o]? = some v) : Cell (HL.hp w') b o v :=
  Cell.mono (h := HL.hp w) ⟨cs.toArray, T, (0, 0), h, by simpa using hv⟩ hx.hp
theorem Cell.at {w : World} {b o : Nat} {v : Value} (c : Cell (HL.hp w) b o v) : w.cell? ⟨b, o, none⟩ = some v := by
  obtain ⟨cs, T, fz, h1, h2⟩ := c
  have := cell_of (o := 0) h1 o
  simp only [Nat.zero_add] at this
  rw [this, h2]
theorem QS.loadC {P : Program} {N : Nat} {F : Bg} {L : List Ent} {M : Fr} {dst : Option Tmp} {ty : TypeId} {pos : String} {after : Array Edge} {g : Option (Nat × Bool)} {x : Operand} {t : TypeId} {b o : Nat} {v : Value}
    (hx : opv M x = some (.pointer (some ⟨b, o, none⟩))) (hc : Cell F.blk b o v) (hagg : ∀ w, (isAgg t).run P w = .ok false w) : QS P N F L M ⟨dst, .load t x, ty, pos, after, g⟩ v :=
  QS.load1 hx hagg fun w hw => (hc.mono hw.bg).at
theorem drop_cons {α : Type} [Inhabited α] {l : List α} {k : Nat} (h : k < l.length) : l.drop k = l.getD k default :: l.drop (k + 1) := by
  rw [List.drop_eq_getElem_cons h]; congr 1; simp [List.getD_eq_getElem?_getD, h]
theorem mem_getD {α : Type} [Inhabited α] {l : List α} {k : Nat} (h : k < l.length) : l.getD k default ∈ l := by
  simp [List.getD_eq_getElem?_getD, h]

section
variable {P : Program} {ops : Array Oper} {Q : Exit → Act → World → Prop} {N : Nat} {F : Bg} {L : List Ent} {M : Fr} {ty : TypeId} {pos : String} {after : Array Edge} {rest : List Oper} {d : Nat}

theorem flatMap_set {α : Type} [Inhabited α] (E : Enc α) (x' : α) : ∀ (l : List α) (i j : Nat) (v : Value), i < l.length → j < E.k → E.enc x' = (E.enc (l.getD i default)).set j v →
    (l.set i x').flatMap E.enc = (l.flatMap E.enc).set (i * E.k + j) v
  | [], i, j, v, h, _, _ => by simp at h
  | y :: l, 0, j, v, _, hj, he => by
    have hl : j < (E.enc y).length := by rw [E.len]; exact hj
    simp only [List.set_cons_zero, List.flatMap_cons, Nat.zero_mul, Nat.zero_add]
    rw [List.set_append_left _ _ hl]
    rw [he]; rfl
  | y :: l, i + 1, j, v, h, hj, he => by
    have ih := flatMap_set E x' l i j v (by simpa using h) hj (by simpa using he)
    have hl : (E.enc y).length = E.k := E.len y
    simp only [List.set_cons_succ, List.flatMap_cons, ih]
    rw [List.set_append_right _ _ (by rw [hl, Nat.add_mul]; omega), hl, show (i + 1) * E.k + j - E.k = i * E.k + j by rw [Nat.add_mul]; omega]

/-- A store into one cell of an element of one's own slice. -/
theorem Tr.storeRow {α : Type} [Inhabited α] {E : Enc α} {l : List α} (x' : α) {x y : Operand} {t T : TypeId} {V v : Value} {i j : Nat} {L' : List Ent} {dst : Option Tmp} (hx : opv M x = some (.pointer (some ⟨bk V, ofs V + i * E.k + j, none⟩))) (hy : opv M y = some v)
    (hz : ∀ w, (sizeOf t).run P w = .ok 1 w) (hput : Put (rowE V T E l) (rowE V T E (l.set i x')) L L') (hi : i < l.length) (hj : j < E.k) (he : E.enc x' = (E.enc (l.getD i default)).set j v) (hc : v.cells.toList = [v]) (h1 : v.oneCell' = true) (hdst : dst = none)
    (K : Tr N F L' M (wpList P ops Q rest)) : Tr N F L M (wpList P ops Q (⟨dst, .store t x y, ty, pos, after, none⟩ :: rest)) := by
  subst hdst
  intro a w ha hw
  refine wpList_plain rfl fun K' hK => ?_
  have hr : RowOK V T E l (V.ownBlock.bind (w.heap[·]?)) := hw.ent _ hput.mem
  rcases hr with ⟨_, rfl⟩ | ⟨gb, cap, cur, rfl, ho, hc1, hc2, hc3, hc4⟩
  · simp at hi
  · have ho' : w.heap[gb]? = some (.cells cur T (0, 0)) := ho
    have hlt : i * E.k + j < l.length * E.k := by
      have : i * E.k + E.k ≤ l.length * E.k := by rw [← Nat.succ_mul]; exact Nat.mul_le_mul_right _ hi
      omega
    have hle : l.length * E.k ≤ cur.size := Nat.le_trans (Nat.mul_le_mul_right _ hc1) hc3
    have hs : v.cells.size = 1 := by have := congrArg List.length hc; simpa using this
    have hst := run_storeV (P := P) (w := w) (b := gb) (o := i * E.k + j) (cs := cur.toList) (T := T) (t := t) (v := v) (by simpa using ho') hz hs (by simp; omega) (by rw [hc]; intro u hu; simp at hu; subst hu; exact h1)
    simp only [bk, ofs, Nat.zero_add] at hx
    unfold Oper.wp
    simp only [execOp, ha.eval hx, ha.eval hy, Sem.run_bind, hst, Result.andThen_ok, Sem.run_pure, Oper.upon, Act.put]
    refine hK _ _ (K _ _ ha ?_)
    have e1 : rowE (.slice (some ⟨gb, 0, none⟩) l.length cap) T E l = ⟨some gb, RowOK (.slice (some ⟨gb, 0, none⟩) l.length cap) T E l⟩ := rfl
    have e2 : rowE (.slice (some ⟨gb, 0, none⟩) l.length cap) T E (l.set i x') = ⟨some gb, RowOK (.slice (some ⟨gb, 0, none⟩) l.length cap) T E (l.set i x')⟩ := rfl
    rw [e1, e2] at hput
    refine HpOK.set hw hput rfl rfl rfl (by simp) (Nat.le_refl _) (fun k _ hkb => setRow_other w gb k _ hkb) ?_
    rw [setRow_heap w gb _ _ T (0, 0) ho']
    have hll : (l.set i x').length = l.length := by simp
    refine .inr ⟨gb, cap, _, by rw [hll], rfl, by rw [hll]; exact hc1, hc2, ?_, ?_⟩
    · simp only [splice, hc, List.length_cons, List.length_nil, List.size_toArray, List.length_append, List.length_take, List.length_drop, Array.length_toList]; omega
    · rw [hll, flatMap_set E x' l i j v hi hj he, ← hc4, hc]
      simp only [splice, List.length_cons, List.length_nil, List.toList_toArray]
      apply List.ext_getElem?
      intro q
      simp only [List.getElem?_take, List.getElem?_append, List.length_take, Array.length_toList, List.getElem?_set, List.getElem?_drop, List.length_cons, List.length_nil, List.length_append]
      have hm : min (i * E.k + j) cur.size = i * E.k + j := by omega
      rw [hm]
      by_cases h1 : q < l.length * E.k
      · simp only [h1, if_true]
        by_cases h2 : q < i * E.k + j
        · simp [h2, show q < i * E.k + j + (0 + 1) by omega, show i * E.k + j ≠ q by omega]
        · by_cases h3 : q = i * E.k + j
          · subst h3
            simp; omega
          · simp [h2, show ¬ q < i * E.k + j + (0 + 1) by omega, show i * E.k + j ≠ q by omega, show i * E.k + j + (0 + 1) + (q - (i * E.k + j + (0 + 1))) = q by omega]
      · simp only [h1, if_false]
        split <;> first | rfl | (split <;> first | rfl | omega)

/-- Only the block of V may have changed. -/
structure Mut (w w' : World) (V : Value) : Prop where
  os : w'.os = w.os
  tape : w'.tape = w.tape
  output : w'.output = w.output
  size : w.heap.size ≤ w'.heap.size
  dr : w.drawn ≤ w'.drawn
  block : ∀ k, k < w.heap.size → some k ≠ V.ownBlock → w'.heap[k]? = w.heap[k]?

theorem HpOK.mut {α : Type} {V : Value} {T : TypeId} {E : Enc α} {l l' : List α} {w w' : World} {L' : List Ent} (h : HpOK F L w) (hput : Put (rowE V T E l) (rowE V T E l') L L') (hm : Mut w w' V) (hr : (rowE V T E l').holds w') : HpOK F L' w' := by
  cases hV : V.ownBlock with
  | none =>
    have hx : Ext w w' := ⟨⟨hm.os, hm.tape, hm.output, hm.size, fun k hk => hm.block k hk (by rw [hV]; simp)⟩, hm.dr⟩
    have hg := h.grow hx
    have hb : blks L' = blks L := hput.blks rfl
    refine ⟨hg.os, hg.tape, hg.out, hg.n, hg.dr, hg.bg, fun e he => ?_, by rw [hb]; exact hg.nodup, by rw [hb]; exact hg.lt, by rw [hb]; exact hg.sep⟩
    rcases hput.mem' e he with rfl | he
    · exact hr
    · exact hg.ent e he
  | some b =>
    have e1 : rowE V T E l = ⟨some b, RowOK V T E l⟩ := by simp [rowE, hV]
    have e2 : rowE V T E l' = ⟨some b, RowOK V T E l'⟩ := by simp [rowE, hV]
    rw [e1, e2] at hput
    rw [e2] at hr
    exact HpOK.set h hput hm.os hm.tape hm.output hm.size hm.dr (fun k hk hkb => hm.block k hk (by rw [hV]; simpa using hkb)) hr

/-- A call that changes one's own slice in place and hands back v. -/
theorem Tr.callMut {α : Type} {E : Enc α} {l l' : List α} {V : Value} {T : TypeId} {f : FuncId} {xs : List Operand} {vs : List Value} {ts : Array TypeId} {v : Value} {L' : List Ent} (hx : opvs M xs = some vs)
    (he : ∀ (args : Array Value) (w : World), (callFunc f args).run P w = .ok (.enter f args) w) (hput : Put (rowE V T E l) (rowE V T E l') L L')
    (hc : ∀ w, HpOK F L w → Calls P f vs.toArray w fun e w' => e = .returned v ∧ Mut w w' V ∧ (rowE V T E l').holds w') (hd : Nat.ble (d + 1) N = true)
    (K : Tr N F L' ((d, v) :: M) (wpList P ops Q rest)) :
    Tr N F L M (wpList P ops Q (⟨some d, .call { callee := .value (.func f), args := xs.toArray, argTypes := ts }, ty, pos, after, none⟩ :: rest)) := by
  intro a w ha hw
  refine wpList_plain rfl fun K' hK => ?_
  have hr : (execOp a.eval ⟨some d, .call { callee := .value (.func f), args := xs.toArray, argTypes := ts }, ty, pos, after, none⟩).run P w = .ok (.enter f vs.toArray) w := by
    have := ha.evals hx
    simp [execOp, resolve, Deferred.ofValue, Act.eval, invoke, he, this]
  unfold Oper.wp
  rw [hr]
  refine (hc w hw).mono fun e w' ⟨h1, h2, h3⟩ => ?_
  subst h1
  exact hK _ _ (K _ _ (ha.put (Nat.le_of_ble_eq_true hd)) (hw.mut hput h2 h3))
end
end Go.HL
