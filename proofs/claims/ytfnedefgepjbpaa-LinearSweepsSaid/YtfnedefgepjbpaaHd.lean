/- Regions that draw their order: all operations quiet; or quiet ones ahead of a forced tail. -/
import Derived.Test.YtfnedefgepjbpaaHa
set_option linter.unusedSimpArgs false
set_option linter.unusedVariables false
namespace Go.HL
open Go Go.RowKit

section
variable {P : Program} {ops : Array Oper} {md : Region.Mode} {C : World → Prop}

/-- The head of a region, in whatever order: only operations below n come up; at its end X. -/
def headAny (P : Program) (md : Region.Mode) (ops : Array Oper) (C : World → Prop) (n : Nat) (X : Array Bool → Act → Prop) : Nat → Array Bool → Act → Prop
  | 0, listed, a => X listed a
  | f + 1, listed, a => Region.ready md ops listed ≠ [] ∧ ∀ i ∈ Region.ready md ops listed, i < n ∧ qOp P ops C i (headAny P md ops C n X f (listed.setIfInBounds i true)) a

theorem headAny_sound {n g : Nat} {X : Array Bool → Act → Prop} {Q : Exit → Act → World → Prop} (hX : ∀ listed a w, C w → X listed a → wpAny P md ops Q g listed a w) :
    ∀ (f : Nat) (listed : Array Bool) (a : Act) (w : World), C w → headAny P md ops C n X f listed a → wpAny P md ops Q (f + g) listed a w := by
  intro f
  induction f with
  | zero => intro listed a w hw h; rw [Nat.zero_add]; exact hX _ _ _ hw h
  | succ f ih =>
    intro listed a w hw h
    rw [Nat.add_right_comm]
    exact ⟨fun h0 => absurd h0 h.1, fun i hi => wpOp_of_qOp hw (fun a' w' hw' => ih _ a' w' hw') (h.2 i hi).2⟩

/-- Every operation of the head from p on is waited for by a later one of the head or by the tail's first. -/
def sinkP (md : Region.Mode) (ops : Array Oper) (p n : Nat) : Bool :=
  (List.range n).all fun i => decide (i < p) || (List.range (n + 1)).any fun j => decide (i < j) && Region.waitsFor md ops j i

theorem tail_waits {p n : Nat} {listed : Array Bool} (hs : sinkP md ops p n = true) (hc : Region.chainB md ops n = true) (hn : n < ops.size) (inv : HeadInv md ops n listed) :
    ∀ (d i : Nat), n - i = d → p ≤ i → i < n → listed.getD i true = false → ∀ t, n ≤ t → t ∉ Region.ready md ops listed := by
  intro d
  induction d using Nat.strongRecOn with
  | _ d ih =>
    intro i hd hpi hi hun t ht hr
    obtain ⟨_, ot, hot, hall⟩ := mem_ready.1 hr
    have htlt : t < ops.size := (Array.getElem?_eq_some_iff.1 hot).1
    rcases Nat.eq_or_lt_of_le ht with rfl | htn
    · have h1 := List.all_eq_true.1 hs i (List.mem_range.2 hi)
      simp only [Bool.or_eq_true, decide_eq_true_eq] at h1
      rcases h1 with h1 | h1
      · omega
      obtain ⟨j, hj, hj2⟩ := List.any_eq_true.1 h1
      simp only [Bool.and_eq_true, decide_eq_true_eq] at hj2
      obtain ⟨oj, hoj, e, he, hb, hon⟩ := Region.waitsFor_spec hj2.2
      have hjle : j ≤ n := by have := List.mem_range.1 hj; omega
      have wait : ∀ o', ops[j]? = some o' → listed.getD j false = true → False := fun o' ho' hl => by
        obtain rfl : oj = o' := Option.some.inj (hoj.symm.trans ho')
        have h2 := inv.closed j oj hoj hl e he hb
        rw [hon, getD_both hun] at h2
        cases h2
      rcases Nat.eq_or_lt_of_le hjle with rfl | hjn
      · obtain rfl : oj = ot := Option.some.inj (hoj.symm.trans hot)
        have h2 := hall e he hb
        rw [hon, getD_both hun] at h2
        cases h2
      · cases hl : listed.getD j false with
        | true => exact wait oj hoj hl
        | false => exact ih (n - j) (by omega) j rfl (by omega) hjn (getD_in (by rw [inv.size]; omega) hl) n (Nat.le_refl _) hr
    · have h1 := List.all_eq_true.1 hc t (List.mem_range.2 htlt)
      simp only [Bool.or_eq_true, decide_eq_true_eq] at h1
      rcases h1 with h1 | h1
      · omega
      · obtain ⟨o', ho', e, he, hb, hon⟩ := Region.waitsFor_spec h1
        obtain rfl : o' = ot := Option.some.inj (ho'.symm.trans hot)
        have h2 := hall e he hb
        rw [hon, getD_both (inv.tail (t - 1) (by omega) (by omega))] at h2
        cases h2

/-- One operation that may come up, and that every other open one waits for or stands apart from, may be taken first. -/
theorem headAny_take {p n i : Nat} {oi : Oper} {v : Value} {X : Array Bool → Act → Prop} (hi : ops[i]? = some oi) (hsel : ∀ (j : Nat) (o : Oper) cs b, ops[j]? = some o → o.op ≠ .select cs b)
    (hs : sinkP md ops p n = true) (hc : Region.chainB md ops n = true) (hn : n < ops.size) (hpi : p ≤ i) (hin : i < n) (hdone : ∀ listed a, X listed a → ∀ j ∈ Region.ready md ops listed, n ≤ j) :
    ∀ (f : Nat) (listed : Array Bool) (a : Act), HeadInv md ops n listed →
      (∀ j oj, ops[j]? = some oj → j ≠ i → listed.getD j true = false → (∀ e ∈ oj.after, Region.binds md e = true → e.on ≠ i) → oi.apart ops oj = true) →
      i ∈ Region.ready md ops listed → YieldsIn P ops C oi v a → headAny P md ops C n X f (listed.setIfInBounds i true) (a.put oi.dst v) → headAny P md ops C n X (f + 1) listed a := by
  intro f
  induction f with
  | zero =>
    intro listed a inv _ hr hy H
    refine ⟨fun h => (by rw [h] at hr; cases hr), fun j hj => ?_⟩
    have hjn : j < n := by
      refine Nat.lt_of_not_le fun hle => ?_
      exact tail_waits hs hc hn inv _ i rfl hpi hin (mem_ready.1 hr).1 j hle hj
    refine ⟨hjn, ?_⟩
    by_cases hji : j = i
    · subst hji; exact hy.qOp hi H
    · exact absurd (hdone _ _ H j (ready_mono hj hji)) (by omega)
  | succ f ih =>
    intro listed a inv hfree hr hy H
    refine ⟨fun h => (by rw [h] at hr; cases hr), fun j hj => ?_⟩
    have hjn : j < n := by
      refine Nat.lt_of_not_le fun hle => ?_
      exact tail_waits hs hc hn inv _ i rfl hpi hin (mem_ready.1 hr).1 j hle hj
    refine ⟨hjn, ?_⟩
    by_cases hji : j = i
    · subst hji; exact hy.qOp hi H
    · obtain ⟨hjun, oj, hoj, hall⟩ := mem_ready.1 hj
      have hap : oi.apart ops oj = true := hfree j oj hoj hji hjun fun e he hb heq => by
        have h1 := hall e he hb
        rw [heq, getD_both (mem_ready.1 hr).1] at h1
        cases h1
      have h2 := qOp_put hoj hap (fun cs b => hsel i oi cs b hi) (fun cs b => hsel j oj cs b hoj) hy (H.2 j (ready_mono hj hji)).2
      refine qOp_mono (fun a' h3 => ih (listed.setIfInBounds j true) a' (inv.set hj hjn) (fun k ok hk hki hun hno => ?_) (ready_mono hr (Ne.symm hji)) h3.1 (by rw [Array.setIfInBounds_comm _ _ hji]; exact h3.2)) h2
      refine hfree k ok hk hki ?_ hno
      by_cases hjk : j = k
      · subst hjk; exact hjun
      · rwa [getD_set_ne true hjk] at hun

theorem headAny_lex {p n g : Nat} {Y : Act → Prop} (hsel : Region.noSelect ops = true) (hs : sinkP md ops p n = true) (hc : Region.chainB md ops n = true) (hn : n < ops.size) :
    ∀ (l : List Oper) (k : Nat) (listed : Array Bool) (a : Act), p ≤ k → (∀ j, j < l.length → l[j]? = ops[k + j]?) → k + l.length = n → HeadInv md ops n listed →
      Region.lexHead md ops g l.length k listed = true → wpQuiet P ops C Y l a → headAny P md ops C n (fun listed' a' => Region.seqB md ops g n listed' = true ∧ Y a') l.length listed a := by
  intro l
  induction l with
  | nil =>
    intro k listed a _ _ hk inv hB h
    obtain rfl : k = n := by simpa using hk
    exact ⟨by simpa [Region.lexHead] using hB, h⟩
  | cons o l ih =>
    intro k listed a hpk hl hk inv hB h
    have h0 : ops[k]? = some o := by simpa using (hl 0 (by simp)).symm
    simp only [List.length_cons, Region.lexHead, Bool.and_eq_true] at hB hk
    have hr : k ∈ Region.ready md ops listed := by simpa using hB.1.1
    have hst : qOp P ops C k (wpQuiet P ops C Y l) a := by unfold qOp; simp only [h0]; exact h
    obtain ⟨v, hy, hK⟩ := yieldsIn_of_qOp h0 hst
    refine headAny_take h0 (Region.noSelect_spec hsel) hs hc hn hpk (by omega) (fun listed' a' hX => seqB_ready hX.1) l.length listed a inv (Region.free_spec h0 hB.1.2) hr hy ?_
    exact ih (k + 1) _ _ (by omega) (fun j hj => by have := hl (j + 1) (by simp; omega); simpa [Nat.add_assoc, Nat.add_comm 1 j] using this) (by omega) (inv.set hr (by omega)) hB.2 hK

/-- The region's first operations, which may be taken first whatever comes: they look at the frame alone. -/
def wpPure (P : Program) (ops : Array Oper) (Y : Act → Prop) : List Oper → Act → Prop
  | [], a => Y a
  | o :: rest, a => ∃ v, Yields P ops o v a ∧ wpPure P ops Y rest (a.put o.dst v)
def preHead (md : Region.Mode) (ops : Array Oper) (X : Array Bool → Bool) : Nat → Nat → Array Bool → Bool
  | 0, _, listed => X listed
  | f + 1, k, listed => (Region.ready md ops listed).contains k && Region.free md ops listed k && preHead md ops X f (k + 1) (listed.setIfInBounds k true)

theorem pure_first {n : Nat} {Q : Exit → Act → World → Prop} {X : Array Bool → Bool} {Y : Act → Prop} {w : World} {fuel : Nat} (hsel : Region.noSelect ops = true) (hQ : ∀ c a d v w, Q (.panic c) (a.put d v) w → Q (.panic c) a w)
    (hY : ∀ listed a, HeadInv md ops n listed → X listed = true → Y a → wpAny P md ops Q fuel listed a w) :
    ∀ (l : List Oper) (k : Nat) (listed : Array Bool) (a : Act), (∀ j, j < l.length → l[j]? = ops[k + j]?) → k + l.length ≤ n → HeadInv md ops n listed → preHead md ops X l.length k listed = true → wpPure P ops Y l a →
      wpAny P md ops Q (l.length + fuel) listed a w := by
  intro l
  induction l with
  | nil => intro k listed a _ _ inv hB h; rw [List.length_nil, Nat.zero_add]; exact hY _ _ inv hB h
  | cons o l ih =>
    intro k listed a hl hk inv hB h
    have h0 : ops[k]? = some o := by simpa using (hl 0 (by simp)).symm
    simp only [List.length_cons, preHead, Bool.and_eq_true] at hB hk
    have hr : k ∈ Region.ready md ops listed := by simpa using hB.1.1
    obtain ⟨v, hy, hK⟩ := h
    rw [List.length_cons, Nat.add_right_comm]
    refine wpAny_first h0 (Region.noSelect_spec hsel) (fun c a w hq => hQ c a _ _ w hq) _ listed a w (Region.free_spec h0 hB.1.2) hr hy ?_
    exact ih (k + 1) _ _ (fun j hj => by have := hl (j + 1) (by simp; omega); simpa [Nat.add_assoc, Nat.add_comm 1 j] using this) (by omega) (inv.set hr (by omega)) hB.2 hK

/-- What is asked of a region: the first p operations may be taken first; those up to n in the order of the text; the rest is forced. -/
def headB (ops : Array Oper) (p n : Nat) : Bool :=
  Region.noSelect ops && decide (n < ops.size) && decide (p ≤ n) && sinkP .any ops p n && Region.chainB .any ops n &&
    preHead .any ops (fun listed => Region.lexHead .any ops (ops.size - n) (n - p) p listed) p 0 (Array.replicate ops.size false)

theorem wp_region_head {id p n : Nat} {Q : Exit → Act → World → Prop} {a : Act} {w : World} {l : List Oper} (hm : P.follows .mixedOrders = true) (hB : headB l.toArray p n = true) (hQ : ∀ c a d v w, Q (.panic c) (a.put d v) w → Q (.panic c) a w) (hC : C w.drew)
    (h : wpPure P l.toArray (wpQuiet P l.toArray C (fun a' => ∀ w', C w' → wpList P l.toArray Q (l.drop n) a' w') ((l.take n).drop p)) (l.take p) a) : (Code.region id l.toArray true).wp P Q a w := by
  simp only [headB, Bool.and_eq_true, decide_eq_true_eq] at hB
  obtain ⟨⟨⟨⟨⟨hsel, hn⟩, hpn⟩, hs⟩, hc⟩, hlex⟩ := hB
  have hn' : n < l.length := by simpa using hn
  have htp : (l.take p).length = p := by simp; omega
  have htl : ((l.take n).drop p).length = n - p := by simp; omega
  have hdl : (l.drop n).length = l.toArray.size - n := by simp
  have inv0 : HeadInv .any l.toArray n (Array.replicate l.toArray.size false) :=
    ⟨by simp, fun j oj _ hl => (by rw [getD_replicate_false] at hl; cases hl), fun t _ ht => getD_in (by simpa using ht) (getD_replicate_false _ _)⟩
  refine wp_region_any hm ?_
  have key := pure_first (P := P) (ops := l.toArray) (md := .any) (n := n) (Q := Q) (w := w.drew) (fuel := (n - p) + (l.toArray.size - n)) (X := fun listed => Region.lexHead .any l.toArray (l.toArray.size - n) (n - p) p listed)
    (Y := wpQuiet P l.toArray C (fun a' => ∀ w', C w' → wpList P l.toArray Q (l.drop n) a' w') ((l.take n).drop p)) hsel hQ (fun listed a' inv hX hY => by
      have H := headAny_lex (md := .any) (p := p) (g := l.toArray.size - n) hsel hs hc hn ((l.take n).drop p) p listed a' (Nat.le_refl _) (fun j hj => by
        rw [htl] at hj
        rw [List.getElem?_drop, List.getElem?_take, if_pos (by omega)]
        simp) (by rw [htl]; omega) inv (by rw [htl]; exact hX) hY
      rw [htl] at H
      exact headAny_sound (Q := Q) (g := l.toArray.size - n) (fun listed a' w' hw' hX => by
        have := wpAny_of_seq (md := .any) (Q' := Q) (l.drop n) n listed a' w' (fun j => by simp [List.getElem?_drop]) (by rw [hdl]; exact hX.1) (hX.2 w' hw')
        rwa [hdl] at this) _ _ _ _ hC H)
    (l.take p) 0 (Array.replicate l.toArray.size false) a (fun j hj => by rw [htp] at hj; simp [hj]) (by rw [htp]; omega) inv0 (by rw [htp]; exact hlex) h
  rw [htp, show p + ((n - p) + (l.toArray.size - n)) = l.toArray.size by omega] at key
  exact key
end

section
variable {P : Program} {ops : Array Oper} {Q : Exit → Act → World → Prop} {Y : Act → Prop} {N : Nat} {F : Bg} {L : List Ent} {M : Fr} {rest : List Oper} {d : Nat} {op : Op} {ty : TypeId} {pos : String} {after : Array Edge}

theorem Tr.regionQ {id : Nat} {l : List Oper} (hm : P.follows .mixedOrders = true) (hB : Region.lexB .any l.toArray = true)
    (h : TrQ N M (wpQuiet P l.toArray (HpOK F L) (fun a' => ∀ w', HpOK F L w' → Q .normal a' w') l)) : Tr N F L M ((Code.region id l.toArray true).wp P Q) :=
  fun a w ha hw => wp_region_quiet (C := HpOK F L) hm hB hw.drew (by simpa using h a ha)
theorem Tr.regionT {id : Nat} {l : List Oper} (p n : Nat) (hm : P.follows .mixedOrders = true) (hB : headB l.toArray p n = true) (hQ : ∀ c a d v w, Q (.panic c) (a.put d v) w → Q (.panic c) a w)
    (h : TrQ N M (wpPure P l.toArray (wpQuiet P l.toArray (HpOK F L) (fun a' => ∀ w', HpOK F L w' → wpList P l.toArray Q (l.drop n) a' w') ((l.take n).drop p)) (l.take p))) : Tr N F L M ((Code.region id l.toArray true).wp P Q) :=
  fun a w ha hw => wp_region_head (C := HpOK F L) hm hB hQ hw.drew (h a ha)
theorem TrQ.pureNil {X : Act → Prop} (h : TrQ N M X) : TrQ N M (wpPure P ops X []) := fun a ha => h a ha
theorem TrQ.pureMove {X : Act → Prop} {x : Operand} {v : Value} (hx : opv M x = some v) (hd : Nat.ble (d + 1) N = true) (k : TrQ N ((d, v) :: M) (wpPure P ops X rest)) :
    TrQ N M (wpPure P ops X (⟨some d, .move x, ty, pos, after, none⟩ :: rest)) := fun a ha =>
  ⟨v, .inl ⟨by simp [Region.wanted], fun w => by simp [execOp, ha.eval hx]⟩, k _ (ha.put (Nat.le_of_ble_eq_true hd))⟩
theorem panicThen {K : Act → World → Prop} (h : ∀ c a d v w, Q (.panic c) (a.put d v) w → Q (.panic c) a w) : ∀ c a d v w, Exit.then K Q (.panic c) (a.put d v) w → Exit.then K Q (.panic c) a w := h
theorem panicIn {id : Nat} (h : ∀ c a d v w, Q (.panic c) (a.put d v) w → Q (.panic c) a w) : ∀ c a d v w, Exit.inBlock id Q (.panic c) (a.put d v) w → Exit.inBlock id Q (.panic c) a w := h
theorem panicBody {fn : Func} {R : Ending → World → Prop} : ∀ c a d v w, bodyPost P fn R (.panic c) (a.put d v) w → bodyPost P fn R (.panic c) a w := fun c a d v w h => by
  cases d <;> exact h

/-- At the end of the quiet walk. -/
theorem TrQ.nil {X : Act → World → Prop} (h : Tr N F L M X) : TrQ N M (wpQuiet P ops (HpOK F L) (fun a' => ∀ w', HpOK F L w' → X a' w') []) := fun a ha w hw => h a w ha hw
theorem TrQ.q {v : Value} (h : QS P N F L M ⟨some d, op, ty, pos, after, none⟩ v) (hd : Nat.ble (d + 1) N = true)
    (k : TrQ N ((d, v) :: M) (wpQuiet P ops (HpOK F L) Y rest)) : TrQ N M (wpQuiet P ops (HpOK F L) Y (⟨some d, op, ty, pos, after, none⟩ :: rest)) := by
  intro a ha
  refine wpQuiet_step fun K hK => ?_
  rw [if_pos (by simp [Region.wanted])]
  exact ⟨v, fun w hw => h a w ha hw, hK _ (k _ (ha.put (Nat.le_of_ble_eq_true hd)))⟩
theorem TrQ.gq {v : Value} {j t : Nat} {b b' : Bool} (hj : (ops[j]?).bind (·.dst) = some t) (ht : look M t = some (.bool b')) (hb : b' = b) (h : QS P N F L M ⟨some d, op, ty, pos, after, some (j, b)⟩ v) (hd : Nat.ble (d + 1) N = true)
    (k : TrQ N ((d, v) :: M) (wpQuiet P ops (HpOK F L) Y rest)) : TrQ N M (wpQuiet P ops (HpOK F L) Y (⟨some d, op, ty, pos, after, some (j, b)⟩ :: rest)) := by
  intro a ha
  refine wpQuiet_step fun K hK => ?_
  rw [if_pos (by simp [Region.wanted, yielded_of ha hj ht, hb])]
  exact ⟨v, fun w hw => h a w ha hw, hK _ (k _ (ha.put (Nat.le_of_ble_eq_true hd)))⟩
theorem TrQ.gskip {j t : Nat} {b b' : Bool} (hj : (ops[j]?).bind (·.dst) = some t) (ht : look M t = some (.bool b')) (hb : b' = !b) (hd : Nat.ble (d + 1) N = true)
    (k : TrQ N ((d, undef) :: M) (wpQuiet P ops (HpOK F L) Y rest)) : TrQ N M (wpQuiet P ops (HpOK F L) Y (⟨some d, op, ty, pos, after, some (j, b)⟩ :: rest)) := by
  intro a ha
  refine wpQuiet_step fun K hK => ?_
  rw [if_neg (by simp [Region.wanted, yielded_of ha hj ht, hb])]
  exact hK _ (k _ (ha.put (Nat.le_of_ble_eq_true hd)))
theorem TrQ.gskipU {j t : Nat} {b : Bool} (hj : (ops[j]?).bind (·.dst) = some t) (ht : look M t = some undef) (hd : Nat.ble (d + 1) N = true)
    (k : TrQ N ((d, undef) :: M) (wpQuiet P ops (HpOK F L) Y rest)) : TrQ N M (wpQuiet P ops (HpOK F L) Y (⟨some d, op, ty, pos, after, some (j, b)⟩ :: rest)) := by
  intro a ha
  refine wpQuiet_step fun K hK => ?_
  rw [if_neg (by simp [Region.wanted, yielded_undef ha hj ht])]
  exact hK _ (k _ (ha.put (Nat.le_of_ble_eq_true hd)))
theorem TrQ.sub {M' : Fr} {X : Act → Prop} (hM : Sub M M') (h : TrQ N M' X) : TrQ N M X := fun a ha => h a (ha.sub hM.look)

theorem wpQuiet_append {C : World → Prop} (l1 l2 : List Oper) : ∀ (a : Act), wpQuiet P ops C (wpQuiet P ops C Y l2) l1 a → wpQuiet P ops C Y (l1 ++ l2) a := by
  induction l1 with
  | nil => intro a h; exact h
  | cons o l ih =>
    intro a h
    simp only [List.cons_append]
    unfold wpQuiet at h ⊢
    split
    · rename_i hw
      rw [if_pos hw] at h
      exact Oper.quiet_mono ih h
    · rename_i hw
      rw [if_neg hw] at h
      exact ih _ h
theorem wpQuiet_mono {C : World → Prop} {Y' : Act → Prop} (hq : ∀ a, Y a → Y' a) : ∀ (l : List Oper) (a : Act), wpQuiet P ops C Y l a → wpQuiet P ops C Y' l a := by
  intro l
  induction l with
  | nil => intro a h; exact hq _ h
  | cons o l ih =>
    intro a h
    unfold wpQuiet at h ⊢
    split
    · rename_i hw
      rw [if_pos hw] at h
      exact Oper.quiet_mono ih h
    · rename_i hw
      rw [if_neg hw] at h
      exact ih _ h
theorem TrQ.split {l : List Oper} (k : Nat) (M' : Fr) (h1 : TrQ N M (wpQuiet P ops (HpOK F L) (FrOK N M') (l.take k))) (h2 : TrQ N M' (wpQuiet P ops (HpOK F L) Y (l.drop k))) : TrQ N M (wpQuiet P ops (HpOK F L) Y l) := by
  intro a ha
  rw [← List.take_append_drop k l]
  exact wpQuiet_append _ _ _ (wpQuiet_mono (fun a' ha' => h2 a' ha') _ _ (h1 a ha))
theorem TrQ.end {M' : Fr} (hM : Sub M M') : TrQ N M (wpQuiet P ops (HpOK F L) (FrOK N M') []) := fun _ ha => ha.sub hM.look

/-! ### guarded pieces: 'x && y', 'x || y': the piece ends with the pick -/
theorem TrQ.cases {X : Act → Prop} (x : Bool) (hT : x = true → TrQ N M X) (hF : x = false → TrQ N M X) : TrQ N M X := by cases x <;> first | exact hT rfl | exact hF rfl
theorem Tr.cases {X : Act → World → Prop} (x : Bool) (hT : x = true → Tr N F L M X) (hF : x = false → Tr N F L M X) : Tr N F L M X := by cases x <;> first | exact hT rfl | exact hF rfl

theorem TrQ.and {l : List Oper} {t : Nat} (k : Nat) {x y : Bool} (_hx : look M t = some (.bool x)) (hT : x = true → TrQ N M (wpQuiet P ops (HpOK F L) (FrOK N ((d, .bool y) :: M)) (l.take k))) (hF : x = false → TrQ N M (wpQuiet P ops (HpOK F L) (FrOK N ((d, .bool false) :: M)) (l.take k)))
    (h2 : TrQ N ((d, .bool (x && y)) :: M) (wpQuiet P ops (HpOK F L) Y (l.drop k))) : TrQ N M (wpQuiet P ops (HpOK F L) Y l) :=
  TrQ.split k _ (by cases x <;> first | exact hT rfl | exact hF rfl) h2
theorem TrQ.or {l : List Oper} {t : Nat} (k : Nat) {x y : Bool} (_hx : look M t = some (.bool x)) (hF : x = false → TrQ N M (wpQuiet P ops (HpOK F L) (FrOK N ((d, .bool y) :: M)) (l.take k))) (hT : x = true → TrQ N M (wpQuiet P ops (HpOK F L) (FrOK N ((d, .bool true) :: M)) (l.take k)))
    (h2 : TrQ N ((d, .bool (x || y)) :: M) (wpQuiet P ops (HpOK F L) Y (l.drop k))) : TrQ N M (wpQuiet P ops (HpOK F L) Y l) :=
  TrQ.split k _ (by cases x <;> first | exact hT rfl | exact hF rfl) h2
theorem Tr.and {l : List Oper} {t : Nat} (k : Nat) {x y : Bool} (_hx : look M t = some (.bool x)) (hT : x = true → Tr N F L M (wpList P ops (Exit.then (fun a w => FrOK N ((d, .bool y) :: M) a ∧ HpOK F L w) Q) (l.take k))) (hF : x = false → Tr N F L M (wpList P ops (Exit.then (fun a w => FrOK N ((d, .bool false) :: M) a ∧ HpOK F L w) Q) (l.take k)))
    (h2 : Tr N F L ((d, .bool (x && y)) :: M) (wpList P ops Q (l.drop k))) : Tr N F L M (wpList P ops Q l) :=
  Tr.split k _ _ (by cases x <;> first | exact hT rfl | exact hF rfl) h2
theorem Tr.or {l : List Oper} {t : Nat} (k : Nat) {x y : Bool} (_hx : look M t = some (.bool x)) (hF : x = false → Tr N F L M (wpList P ops (Exit.then (fun a w => FrOK N ((d, .bool y) :: M) a ∧ HpOK F L w) Q) (l.take k))) (hT : x = true → Tr N F L M (wpList P ops (Exit.then (fun a w => FrOK N ((d, .bool true) :: M) a ∧ HpOK F L w) Q) (l.take k)))
    (h2 : Tr N F L ((d, .bool (x || y)) :: M) (wpList P ops Q (l.drop k))) : Tr N F L M (wpList P ops Q l) :=
  Tr.split k _ _ (by cases x <;> first | exact hT rfl | exact hF rfl) h2
end
end Go.HL
