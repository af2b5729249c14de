/- The order of sections; what both Sorted hand back. -/
import Derived.Test.YtfmhhakhbopfdaaSe
import Derived.Test.YtfmhhakhbopfdaaSa
set_option linter.unusedSimpArgs false
set_option linter.unusedVariables false
namespace Go.HL
open Go
theorem bless_irr : ∀ a : List UInt8, Op.bytesLess a a = false
  | [] => rfl
  | x :: a => by unfold Op.bytesLess; simp [bless_irr a, UInt8.lt_irrefl]
theorem bless_tr : ∀ a b c : List UInt8, Op.bytesLess a b = true → Op.bytesLess b c = true → Op.bytesLess a c = true
  | _, [], _, h, _ => by cases ‹List UInt8› <;> simp [Op.bytesLess] at h
  | [], _ :: _, [], _, h => by simp [Op.bytesLess] at h
  | [], _ :: _, _ :: _, _, _ => rfl
  | _ :: _, _ :: _, [], _, h => by simp [Op.bytesLess] at h
  | x :: a, y :: b, z :: c, h1, h2 => by
    have ih := bless_tr a b c
    unfold Op.bytesLess at h1 h2 ⊢
    simp only [Bool.or_eq_true, Bool.and_eq_true, decide_eq_true_eq, beq_iff_eq, UInt8.lt_iff_toNat_lt, ← UInt8.toNat_inj] at *
    grind
theorem bless_tri : ∀ a b : List UInt8, Op.bytesLess a b = false → Op.bytesLess b a = false → a = b
  | [], [], _, _ => rfl
  | [], _ :: _, h, _ => by simp [Op.bytesLess] at h
  | _ :: _, [], _, h => by simp [Op.bytesLess] at h
  | x :: a, y :: b, h1, h2 => by
    have ih := bless_tri a b
    unfold Op.bytesLess at h1 h2
    simp only [Bool.or_eq_false_iff, Bool.and_eq_false_iff, decide_eq_false_iff_not, beq_eq_false_iff_ne, UInt8.lt_iff_toNat_lt, ne_eq, ← UInt8.toNat_inj] at h1 h2
    have hxy : x = y := UInt8.toNat_inj.1 (by omega)
    subst hxy
    rw [ih (by simpa using h1.2) (by simpa using h2.2)]
def bl (a b : ByteArray) : Bool := Op.bytesLess a.toList b.toList

def ltS (x y : Sec) : Bool := decide (x.addr < y.addr) || (decide (x.addr = y.addr) && bl x.name y.name)
def ltP (x y : SecV) : Bool := ltS x.pl y.pl
def cmpU (a b : UInt32) : Int := if a < b then -1 else if b < a then 1 else 0
def cmpB (a b : ByteArray) : Int := if bl a b = true then -1 else if (!(bl a b || a.toList == b.toList)) = true then 1 else 0
def cmpS (x y : SecV) : Int := if cmpU x.addr y.addr ≠ 0 then cmpU x.addr y.addr else cmpB x.name y.name

theorem ltS_tri {x y : Sec} (h1 : ltS x y = false) (h2 : ltS y x = false) : x.addr = y.addr ∧ x.name = y.name := by
  simp only [ltS, Bool.or_eq_false_iff, Bool.and_eq_false_iff, decide_eq_false_iff_not] at h1 h2
  have ha : x.addr = y.addr := by
    have a1 := h1.1
    have a2 := h2.1
    rw [UInt32.lt_iff_toNat_lt] at a1 a2
    exact UInt32.toNat_inj.1 (by omega)
  refine ⟨ha, ?_⟩
  have b1 := h1.2.resolve_left (by simp [ha])
  have b2 := h2.2.resolve_left (by simp [ha])
  have := bless_tri _ _ b1 b2
  have e : x.name.data.toList = y.name.data.toList := by rwa [Go.ByteArray.toList_eq, Go.ByteArray.toList_eq] at this
  generalize x.name = p at e ⊢
  generalize y.name = q at e ⊢
  cases p; cases q
  simp only [ByteArray.mk.injEq]
  exact Array.toList_inj.1 e
theorem ltS_key {x y x' y' : Sec} (h1 : x.addr = x'.addr) (h2 : x.name = x'.name) (h3 : y.addr = y'.addr) (h4 : y.name = y'.name) : ltS x y = ltS x' y' := by simp only [ltS, h1, h2, h3, h4]
theorem ltS_tr {x y z : Sec} (h1 : ltS x y = true) (h2 : ltS y z = true) : ltS x z = true := by
  simp only [ltS, Bool.or_eq_true, Bool.and_eq_true, decide_eq_true_eq] at *
  rcases h1 with h1 | ⟨h1, k1⟩ <;> rcases h2 with h2 | ⟨h2, k2⟩
  · left; rw [UInt32.lt_iff_toNat_lt] at *; omega
  · left; rw [← h2]; exact h1
  · left; rw [h1]; exact h2
  · right; exact ⟨h1.trans h2, bless_tr _ _ _ k1 k2⟩
theorem wo_ltS : WO ltS where
  irr x := by simp [ltS, bl, bless_irr, UInt32.lt_irrefl]
  tr x y z := ltS_tr
  ntr x y z h1 h2 := by
    cases h3 : ltS x z
    · rfl
    · cases h4 : ltS y x
      · obtain ⟨k1, k2⟩ := ltS_tri h1 h4
        rw [ltS_key k1 k2 rfl rfl] at h3
        rw [h3] at h2; cases h2
      · rw [ltS_tr h4 h3] at h2; cases h2
theorem wo_ltP : WO ltP := ⟨fun x => wo_ltS.irr _, fun x y z => wo_ltS.tr _ _ _, fun x y z => wo_ltS.ntr _ _ _⟩
theorem ltC_cmpS : (fun x y : SecV => decide (cmpS x y < 0)) = ltP := by
  funext x y
  have h1 : x.pl.addr = x.addr := rfl
  have h2 : y.pl.addr = y.addr := rfl
  have h3 : x.pl.name = x.name := rfl
  have h4 : y.pl.name = y.name := rfl
  simp only [ltP, ltS, h1, h2, h3, h4]
  by_cases c1 : x.addr < y.addr
  · simp [cmpS, cmpU, c1]
  · by_cases c2 : y.addr < x.addr
    · have : x.addr ≠ y.addr := fun e => by rw [e] at c2; exact absurd c2 (by simp [UInt32.lt_irrefl])
      simp [cmpS, cmpU, c1, c2, this]
    · have he : x.addr = y.addr := by
        rw [UInt32.lt_iff_toNat_lt] at c1 c2
        exact UInt32.toNat_inj.1 (by omega)
      have hz : cmpU x.addr y.addr = 0 := by rw [cmpU, if_neg c1, if_neg c2]
      rw [cmpS, if_neg (by rw [hz]; simp)]
      cases hb : bl x.name y.name
      · have : cmpB x.name y.name = 0 ∨ cmpB x.name y.name = 1 := by unfold cmpB; rw [hb]; simp only [Bool.false_eq_true, if_false]; split <;> simp
        rcases this with h | h <;> simp [h, c1]
      · simp [cmpB, hb, he]
theorem eqv_pl (z : Sec) (s : SecV) : ∃ z' : SecV, ∀ s : SecV, eqv ltP z' s = eqv ltS z s.pl := ⟨⟨z.name, z.addr, z.data, none, 0, z.wr, z.ex⟩, fun s => rfl⟩
theorem Stab.pl {xs ys : List SecV} (h : Stab ltP xs ys) : Stab ltS (xs.map SecV.pl) (ys.map SecV.pl) :=
  ⟨h.1.map _, fun z => by
    rw [List.filter_map, List.filter_map]
    have := h.2 ⟨z.name, z.addr, z.data, none, 0, z.wr, z.ex⟩
    exact congrArg (List.map SecV.pl) this⟩
theorem Stab.append {α : Type} {lt : α → α → Bool} {a b : List α} (h : Stab lt a b) (c : List α) : Stab lt (a ++ c) (b ++ c) :=
  ⟨h.1.append_right c, fun z => by rw [List.filter_append, List.filter_append, h.2 z]⟩
theorem sorted_pl {xs : List SecV} (h : xs.Pairwise fun x y => ltP y x = false) : (xs.map SecV.pl).Pairwise fun x y => ltS y x = false := by
  rw [List.pairwise_map]; exact h
/-- ys is ls sorted. -/
def SortedOf (ls ys : List Sec) : Prop := Stab ltS ls ys ∧ ys.Pairwise fun x y => ltS y x = false
theorem SortedOf.eq {ls xs ys : List Sec} (h : SortedOf ls xs) (k : SortedOf ls ys) : xs = ys := stab_uniq wo_ltS _ _ (h.1.symm.trans k.1) h.2 k.2
theorem NewEnts.secsOf {T U : TypeId} {V : Value} {l zs : List SecV} {w w' : World} (h : NewEnts w w' (rowE V T encSec l :: zs.map (dRow U))) (hp : ∀ s ∈ l, s ∈ zs) : SecsAt (newHp w w') (l.map SecV.pl) V :=
  ⟨l, (h.row (.head _)).sl, fun s hs => (h.row (T := U) (.tail _ (List.mem_map.2 ⟨s, hp s hs, rfl⟩))).sl, rfl⟩
theorem Pick.tl (e : Ent) : ∀ L : List Ent, Pick (e :: L) L
  | [] => .nil _
  | _ :: L => .cons (.there _ (.here _)) (Pick.tl e L)
def SrtAt (ls : List Sec) (h : Hp) (i : Value × List Sec) : Prop := SecsAt h i.2 i.1 ∧ SortedOf ls i.2
theorem SrtAt.mono {ls : List Sec} {h h' : Hp} {i : Value × List Sec} (s : SrtAt ls h i) (hh : Hp.le h h') : SrtAt ls h' i := ⟨s.1.mono hh, s.2⟩
/-- The element put in at last. -/
theorem ins_set {xs cur : List SecV} {s : SecV} {k i : Nat} (hx : xs.length = i) (hk : k ≤ i) (hc : cur.length = i + 1) (h1 : ∀ q, q < k → cur.getD q default = (xs ++ [s]).getD q default)
    (h2 : ∀ q, k < q → q ≤ i → cur.getD q default = (xs ++ [s]).getD (q - 1) default) : cur.set k s = mp (rotF k i (i + 1)) (xs ++ [s]) :=
  ext_at (by simp [mp_len, hx, hc]) fun q hq => by
    have hq' : q < i + 1 := by simpa [hc] using hq
    rw [mp_at (by simp [hx]; omega)]
    by_cases c : q = k
    · subst c
      rw [show rotF q i (i + 1) q = i by have := rotF_cases q i (i + 1) q; omega]
      have e1 : (cur.set q s)[q]? = some s := by rw [List.getElem?_set_self (by omega)]
      have e2 : (xs ++ [s])[i]? = some s := by rw [List.getElem?_append_right (by omega)]; simp [hx]
      rw [List.getD_eq_getElem?_getD, List.getD_eq_getElem?_getD, e1, e2]
    · have e1 : (cur.set k s).getD q default = cur.getD q default := by rw [List.getD_eq_getElem?_getD, List.getElem?_set_ne (by omega), ← List.getD_eq_getElem?_getD]
      rw [e1]
      by_cases c2 : q < k
      · rw [h1 q c2, show rotF k i (i + 1) q = q by have := rotF_cases k i (i + 1) q; omega]
      · rw [h2 q (by omega) (by omega), show rotF k i (i + 1) q = q - 1 by have := rotF_cases k i (i + 1) q; omega]
end Go.HL
