/- Own rules and walks, part 6. -/
import Derived.Test.YtnmaokalpbnmaaaGreatB5
set_option linter.unusedSimpArgs false
set_option linter.unusedVariables false
set_option linter.unusedSectionVars false
namespace Go.HL
open Go
def exB : List UInt8 := [96, 1, 1, 128, 2, 0, 0, 0, 2, 0, 1]
def exS (p : Option Addr) (c : Nat) : SecV := ⟨⟨#[99]⟩, 4096, exB, p, c, false, true⟩
def exK : List UInt32 := [4096, 4099, 4104, 4106]
def exI : List Ins := [⟨4096, 4099, 20, 1, 0, 0, 0, 0, 2⟩, ⟨4099, 4106, 23, 0, 0, 0, 0, 0, 5⟩, ⟨4104, 0, 2, 0, 0, 0, 0, 0, 1⟩, ⟨4106, 0, 1, 0, 0, 0, 0, 0, 1⟩]
def exE : List UInt32 := [4096, 4106]
theorem ex_at (p : Option Addr) (c : Nat) : ∀ a ∈ exK, (atP [exS p c] a).2 = true ∧ leadP [] [] (atP [exS p c] a).1 = (if a = 4096 then [4099] else if a = 4099 then [4106, 4104] else []) ∧ callP [] [] (atP [exS p c] a).1 = (if a = 4099 then [4106] else []) ∧ unkP [] [] (atP [exS p c] a).1 = false := by
  intro a ha
  simp only [exK, List.mem_cons, List.not_mem_nil, or_false] at ha
  rcases ha with rfl | rfl | rfl | rfl
  all_goals exact ⟨by kernel_rfl, by kernel_rfl, by kernel_rfl, by kernel_rfl⟩
theorem ex_reach (p : Option Addr) (c : Nat) (a : UInt32) : Reach [exS p c] [] [] [4096] a ↔ a ∈ exK := by
  have up : ∀ b ∈ exK, ∀ a ∈ leadP [] [] (atP [exS p c] b).1, a ∈ exK := by
    intro b hb a ha
    rw [(ex_at p c b hb).2.1] at ha
    simp only [exK, List.mem_cons, List.not_mem_nil, or_false] at hb
    rcases hb with rfl | rfl | rfl | rfl
    · rw [if_pos rfl] at ha; simp at ha; subst ha; decide
    · rw [if_neg (by decide), if_pos rfl] at ha; simp at ha; rcases ha with rfl | rfl <;> decide
    · rw [if_neg (by decide), if_neg (by decide)] at ha; cases ha
    · rw [if_neg (by decide), if_neg (by decide)] at ha; cases ha
  constructor
  · intro h
    induction h with
    | ent a h => simp at h; subst h; decide
    | step b a _ _ ha ih => exact up b ih a ha
  · intro h
    have h0 : Reach [exS p c] [] [] [4096] 4096 := .ent _ (by simp)
    have h1 : Reach [exS p c] [] [] [4096] 4099 := .step 4096 _ h0 (ex_at p c 4096 (by decide)).1 (by rw [(ex_at p c 4096 (by decide)).2.1]; decide)
    have h2 : Reach [exS p c] [] [] [4096] 4104 := .step 4099 _ h1 (ex_at p c 4099 (by decide)).1 (by rw [(ex_at p c 4099 (by decide)).2.1]; decide)
    have h3 : Reach [exS p c] [] [] [4096] 4106 := .step 4099 _ h1 (ex_at p c 4099 (by decide)).1 (by rw [(ex_at p c 4099 (by decide)).2.1]; decide)
    simp only [exK, List.mem_cons, List.not_mem_nil, or_false] at h
    rcases h with rfl | rfl | rfl | rfl <;> assumption
theorem asc_exK : exK.Pairwise (· < ·) := by decide
theorem ex_code (p : Option Addr) (c : Nat) : IsCode [exS p c] [] [] [4096] ⟨exI, exE, [], []⟩ := by
  refine ⟨⟨exK, asc_exK, fun a => ?_, by kernel_rfl⟩, ⟨List.Pairwise.nil, fun a => ?_⟩, ⟨by show exE.Pairwise _; decide, fun a => ?_⟩, ⟨List.Pairwise.nil, fun a => ?_⟩⟩
  · rw [ex_reach]
    exact ⟨fun h => ⟨h, (ex_at p c a h).1⟩, fun h => h.1⟩
  · rw [ex_reach]
    constructor
    · intro h; cases h
    · rintro ⟨h1, h2⟩
      rw [(ex_at p c a h1).1] at h2; cases h2
  · rw [ex_reach]
    constructor
    · intro h
      have h' : a = 4096 ∨ a = 4106 := by simpa [exE] using h
      rcases h' with rfl | rfl
      · exact ⟨⟨by decide, (ex_at p c _ (by decide)).1⟩, .inl (by simp)⟩
      · exact ⟨⟨by decide, (ex_at p c _ (by decide)).1⟩, .inr ⟨4099, ⟨by rw [ex_reach]; decide, (ex_at p c _ (by decide)).1⟩, by rw [(ex_at p c 4099 (by decide)).2.2.1]; decide⟩⟩
    · rintro ⟨⟨h1, _⟩, h2 | ⟨b, ⟨h2, _⟩, h3⟩⟩
      · simp at h2; subst h2; show (4096 : UInt32) ∈ exE; decide
      · rw [ex_reach] at h2
        rw [(ex_at p c b h2).2.2.1] at h3
        split at h3
        · simp at h3; subst h3; show (4106 : UInt32) ∈ exE; decide
        · cases h3
  · rw [ex_reach]
    constructor
    · intro h; cases h
    · rintro ⟨⟨h1, _⟩, h2⟩
      rw [(ex_at p c a h1).2.2.2] at h2; cases h2
theorem ex_walk {p : Option Addr} {n : Nat} {c : CodeP} {e : Int} (h : WalkIs [exS p n] [] [] [4096] c e) : c = ⟨exI, exE, [], []⟩ ∧ e = 0 := by
  cases h with
  | arg h => exact absurd rfl h
  | chk h h1 => exact absurd (show checkS [exS p n] = 0 by kernel_rfl) h1
  | ok h h1 he hc => exact ⟨hc.eq (ex_code p n) (fun a => Iff.rfl) (fun a => Iff.rfl), he⟩
theorem WalkIs.fun_ {l : List SecV} {ts : List TabV} {at_ es es' : List UInt32} {c c' : CodeP} {e e' : Int} (h : WalkIs l ts at_ es c e) (h' : WalkIs l ts at_ es' c' e') (hr : ∀ a, a ∈ es ↔ a ∈ es') : c = c' ∧ e = e' := by
  have hR : ∀ a, Reach l ts at_ es a ↔ Reach l ts at_ es' a := fun a => by
    constructor
    · intro q
      induction q with
      | ent a q => exact .ent a ((hr a).1 q)
      | step b a _ q1 q2 ih => exact .step b a ih q1 q2
    · intro q
      induction q with
      | ent a q => exact .ent a ((hr a).2 q)
      | step b a _ q1 q2 ih => exact .step b a ih q1 q2
  cases h with
  | arg h he hc => cases h' with
    | arg h' he' hc' => exact ⟨hc.trans hc'.symm, he.trans he'.symm⟩
    | chk h' => exact absurd h' h
    | ok h' => exact absurd h' h
  | chk h h1 he hc => cases h' with
    | arg h' => exact absurd h h'
    | chk h' h1' he' hc' => exact ⟨hc.trans hc'.symm, he.trans he'.symm⟩
    | ok h' h1' => exact absurd h1' h1
  | ok h h1 he hc => cases h' with
    | arg h' => exact absurd h h'
    | chk h' h1' => exact absurd h1 h1'
    | ok h' h1' he' hc' => exact ⟨hc.eq hc' hR hr, he.trans he'.symm⟩
def fewS (s : SecV) : Bool := !(decide (80 < (s.data.length : Int)) || decide (60 < (s.name.size : Int)))
def fewT (t : TabV) : Bool := !decide (12 < (t.data.length : Int))
def fewP (l : List SecV) (es : List UInt32) (ts : List TabV) (at_ : List UInt32) : Bool :=
  ((l.take 8).all fewS && (ts.take 8).all fewT) && (((decide ((l.length : Int) ≤ 6) && decide ((es.length : Int) ≤ 12)) && decide ((ts.length : Int) ≤ 6)) && decide ((at_.length : Int) ≤ 6))
structure Few (l : List SecV) (es : List UInt32) (ts : List TabV) (at_ : List UInt32) : Prop where
  secB : SecB l
  tot : totD l ≤ 480
  name : ∀ s ∈ l, s.name.size ≤ 60
  es : es.length ≤ 12
  tab : TabB ts
  atl : at_.length ≤ 6
theorem few_of {l : List SecV} {es : List UInt32} {ts : List TabV} {at_ : List UInt32} (h : fewP l es ts at_ = true) : Few l es ts at_ := by
  simp only [fewP, Bool.and_eq_true, decide_eq_true_eq] at h
  obtain ⟨⟨h1, h2⟩, ⟨⟨h3, h4⟩, h5⟩, h6⟩ := h
  rw [List.take_of_length_le (by omega), List.all_eq_true] at h1 h2
  have hs : ∀ s ∈ l, s.data.length ≤ 80 ∧ s.name.size ≤ 60 := fun s hs => by
    have := h1 s hs
    simp only [fewS, Bool.not_eq_true', Bool.or_eq_false_iff, decide_eq_false_iff_not] at this
    omega
  refine ⟨⟨by omega, fun s q => by have := (hs s q).1; omega⟩, ?_, fun s q => (hs s q).2, by omega, ⟨by omega, fun t q => by have := h2 t q; simp only [fewT, Bool.not_eq_true', decide_eq_false_iff_not] at this; omega⟩, by omega⟩
  have : ∀ l : List SecV, (∀ s ∈ l, s.data.length ≤ 80) → totD l ≤ 80 * l.length := by
    intro l
    induction l with
    | nil => intro _; simp [totD]
    | cons s l ih =>
      intro h
      have h1 := h s (.head _)
      have h2 := ih fun s hs => h s (.tail _ hs)
      simp only [totD, List.map_cons, List.sum_cons, List.length_cons] at h2 ⊢
      omega
  have := this l fun s q => (hs s q).1
  omega
def reachedP (ins : List Ins) (a : UInt32) : Bool := ins.any fun i => decide (i.addr = a)
def foundP12 (ins : List Ins) (bad : List UInt32) (a : UInt32) : Bool := reachedP ins a || hasU bad a
theorem hasU_iff {l : List UInt32} {a : UInt32} : hasU l a = true ↔ a ∈ l := by
  simp [hasU, List.any_eq_true]
section
variable {l : List SecV} {ts : List TabV} {at_ es : List UInt32} {c : CodeP}
theorem IsCode.mem (h : IsCode l ts at_ es c) {i : Ins} (hi : i ∈ c.ins) : Reach l ts at_ es i.addr ∧ (atP l i.addr).2 = true ∧ i = (atP l i.addr).1 := by
  obtain ⟨ks, k1, k2, k3⟩ := h.ins
  rw [k3] at hi
  obtain ⟨a, ha, rfl⟩ := List.mem_map.1 hi
  have h2 := (k2 a).1 ha
  rw [(at_addr h2.2).1]
  exact ⟨h2.1, h2.2, rfl⟩
theorem IsCode.reached (h : IsCode l ts at_ es c) (a : UInt32) : reachedP c.ins a = true ↔ Reach l ts at_ es a ∧ (atP l a).2 = true := by
  rw [reachedP, List.any_eq_true]
  constructor
  · rintro ⟨i, hi, ha⟩
    have ha := of_decide_eq_true ha
    have := h.mem hi
    rw [ha] at this
    exact ⟨this.1, this.2.1⟩
  · rintro ⟨h1, h2⟩
    obtain ⟨ks, k1, k2, k3⟩ := h.ins
    exact ⟨(atP l a).1, by rw [k3]; exact List.mem_map.2 ⟨a, (k2 a).2 ⟨h1, h2⟩, rfl⟩, decide_eq_true (at_addr h2).1⟩
theorem IsCode.found (h : IsCode l ts at_ es c) (a : UInt32) : foundP12 c.ins c.bad a = true ↔ Reach l ts at_ es a := by
  rw [foundP12, Bool.or_eq_true, h.reached, hasU_iff, h.bad.2]
  constructor
  · rintro (h | h) <;> exact h.1
  · intro q
    cases hq : (atP l a).2
    · exact .inr ⟨q, rfl⟩
    · exact .inl ⟨q, rfl⟩
theorem IsCode.all (h : IsCode l ts at_ es c) {xs : List UInt32} (hx : ∀ a ∈ xs, Reach l ts at_ es a) : xs.all (foundP12 c.ins c.bad) = true :=
  List.all_eq_true.2 fun a ha => (h.found a).2 (hx a ha)
end
end Go.HL
namespace Go.Proofs.YtnmaokalpbnmaaaGreat
open Go Go.HL Go.RowKit
theorem all_take_succ {α : Type} [Inhabited α] {p : α → Bool} {l : List α} {k : Nat} (h : k < l.length) : (l.take (k + 1)).all p = ((l.take k).all p && p (l.getD k default)) := by
 rw [take_succ h, List.all_append]; simp
theorem all_take8 {α : Type} {p : α → Bool} {l : List α} {k : Nat} (hk : k ≤ l.length) (h8 : k ≤ 8) (h : k = l.length ∨ k = 8) (hp : (l.take k).all p = true) : (l.take 8).all p = true := by
 rcases h with h | h
 ·subst h; rw [List.take_length] at hp; rw [List.take_of_length_le h8]; exact hp
 ·subst h; exact hp
theorem all_no {α : Type} [Inhabited α] {p : α → Bool} {l : List α} {k n : Nat} (hk : k < l.length) (hn : k < n) (h : p (l.getD k default) = false) : (l.take n).all p = false := by
 rw [List.all_eq_false]
 refine ⟨l.getD k default, ?_, by rw [h]; simp⟩
 rw [List.mem_take_iff_getElem]
 exact ⟨k, by omega, by simp [List.getD_eq_getElem?_getD, hk]⟩
set_option maxRecDepth 100000 in
set_option maxHeartbeats 2000000 in
theorem same03_any (a b : List Ins) (V W : Value) (w : World) (hV : Sl (hp w) encIns a V) (hW : Sl (hp w) encIns b W) :
  Calls Tryz.prog 19 #[V, W] w (fun e w' => e = .returned (.bool (decide (a = b))) ∧ Ext w w') := by
 have hV' : Sl (Bg.of w).blk encIns a V := hV
 have hW' : Sl (Bg.of w).blk encIns b W := hW
 have hl1 := hV.len_le
 have hl2 := hW.len_le
 refine enter Tryz.func19 rfl Tryz.ntmps19 rfl ?_
 refine Tr.seq (Tr.region ?_)
 refine Tr.q (QS.assign rfl) rfl ?_
 refine Tr.nil (Tr.thenN (Tr.seq (Tr.seq (Tr.region ?_))))
 refine Tr.q (QS.move rfl) rfl ?_
 refine Tr.q (QS.len rfl (by assumption) Tryz.underlying29) rfl ?_
 refine Tr.q (QS.move rfl) rfl ?_
 refine Tr.q (QS.len rfl (by assumption) Tryz.underlying29) rfl ?_
 refine Tr.q (QS.neq rfl rfl) rfl ?_
 refine Tr.nil (Tr.thenN ?_)
 refine Tr.cond rfl (fun h1 => ?_) (fun h1 => ?_)
 ·try simp only [bs] at h1
  refine Tr.seq (Tr.region ?_)
  refine Tr.q (QS.assign rfl) rfl ?_
  refine Tr.nil (Tr.thenN (Tr.ret (Tr.thenR ?_)))
  refine Tr.ret1 Tryz.results19 rfl (fun w' hw => ?_)
  exact ⟨by rw [decide_eq_false (fun e => by subst e; omega)], hw.below (Bg.le.refl _)⟩
 ·try simp only [bs] at h1
  refine Tr.skip (Tr.thenN (Tr.seq (Tr.seq (Tr.region ?_))))
  refine Tr.q (QS.assign rfl) rfl ?_
  refine Tr.nil (Tr.thenN (Tr.block ?_))
  refine Tr.loop (ι := Nat) (fun k => k ≤ a.length ∧ a.take k = b.take k) (fun _ => _) (fun k => []) (fun k => [(5, .int .i64 (k : Nat))]) (fun k => a.length - k) 0 ⟨by omega, rfl⟩ (.cons (by first | rfl | exact lookI rfl (by omega) | exact lookI rfl (by simp) | exact lookB rfl (by simp)) Front.nil) (by repeat' constructor) rfl (fun k hi m hm => ?_)
  replace hi : k ≤ a.length ∧ a.take k = b.take k := hi
  replace hm : m = a.length - k := hm
  change Tr _ _ [] ([(5, .int .i64 (k : Nat))] ++ _) _
  obtain ⟨hk1, hk3⟩ := hi
  refine Tr.seq (Tr.seq (Tr.region ?_))
  refine Tr.q (QS.move rfl) rfl ?_
  refine Tr.q (QS.move rfl) rfl ?_
  refine Tr.q (QS.len rfl (by assumption) Tryz.underlying29) rfl ?_
  refine Tr.q (QS.lss rfl rfl) rfl ?_
  refine Tr.nil (Tr.thenN ?_)
  refine Tr.cond rfl (fun h2 => ?_) (fun h2 => ?_)
  ·try simp only [bs] at h2
   refine Tr.skip (Tr.thenN (Tr.seq (Tr.block (Tr.seq ?_))))
   refine Tr.regionQ HLF.mixed (by kernel_rfl) ?_
   refine TrQ.q (QS.move rfl) rfl ?_
   refine TrQ.q (QS.move rfl) rfl ?_
   refine TrQ.q (QS.idxN rfl rfl (by assumption) Tryz.underlying29 Tryz.sizeOf46 (by rfl) (by omega)) rfl ?_
   refine TrQ.q (QS.elA rfl (by assumption) Tryz.isAgg46 Tryz.sizeOf46 (by rfl) (by omega)) rfl ?_
   refine TrQ.q (QS.move rfl) rfl ?_
   refine TrQ.q (QS.move rfl) rfl ?_
   refine TrQ.q (QS.idxN rfl rfl (by assumption) Tryz.underlying29 Tryz.sizeOf46 (by rfl) (by omega)) rfl ?_
   refine TrQ.q (QS.elA rfl (by assumption) Tryz.isAgg46 Tryz.sizeOf46 (by rfl) (by omega)) rfl ?_
   refine TrQ.q (QS.neqE rfl rfl insEqEnc Tryz.underlying46 (HLF.words46 _ Tryz.underlying46) rfl HLF.held46 HLF.eqg46) rfl ?_
   refine TrQ.nil ?_
   refine Tr.thenN ?_
   refine Tr.cond rfl (fun h3 => ?_) (fun h3 => ?_)
   ·try simp only [bs] at h3
    refine Tr.seq (Tr.region ?_)
    refine Tr.q (QS.assign rfl) rfl ?_
    refine Tr.nil (Tr.thenN (Tr.ret ?_))
    refine Tr.inR ?_
    refine Tr.thenR (Tr.thenR ?_)
    refine Tr.inR ?_
    refine Tr.thenR ?_
    refine Tr.ret1 Tryz.results19 rfl (fun w' hw => ?_)
    exact ⟨by rw [decide_eq_false (fun e => by subst e; simp_all)], hw.below (Bg.le.refl _)⟩
   ·try simp only [bs] at h3
    refine Tr.skip (Tr.inN (Tr.thenN (Tr.region ?_)))
    refine Tr.q (QS.move rfl) rfl ?_
    refine Tr.q (QS.addI rfl rfl (by omega)) rfl ?_
    refine Tr.q (QS.assign rfl) rfl ?_
    refine Tr.nil (Tr.thenN ?_)
    apply Tr.again (k + 1)
    ·exact rfl
    ·exact (.cons (by first | rfl | exact lookI rfl (by omega) | exact lookI rfl (by simp) | exact lookB rfl (by simp)) Front.nil)
    ·exact SubX.dropN 17 (by kernel_rfl) rfl
    ·exact (by repeat' constructor)
    ·exact ⟨by omega, by rw [take_succ (by omega), take_succ (by omega), hk3]; congr 2⟩
    ·exact (by (try dsimp only); omega)
  ·try simp only [bs] at h2
   refine Tr.exit ?_
   refine Tr.thenE (Tr.thenE (Tr.inHit (Tr.thenN (Tr.seq (Tr.region ?_)))))
   refine Tr.q (QS.assign rfl) rfl ?_
   refine Tr.nil (Tr.thenN (Tr.ret ?_))
   refine Tr.ret1 Tryz.results19 rfl (fun w' hw => ?_)
   exact ⟨by rw [decide_eq_true (show a = b by rw [← List.take_of_length_le (show a.length ≤ k by omega), hk3, List.take_of_length_le (by omega)])], hw.below (Bg.le.refl _)⟩
set_option maxRecDepth 100000 in
set_option maxHeartbeats 2000000 in
theorem reach1_any (i : Ins) (a : UInt32) (b : Nat) (w : World) (hc : Cell (hp w) b 0 (.int .u32 a.toNat)) :
  Calls Tryz.prog 29 #[.agg (encIns.enc i).toArray, .pointer (some ⟨b, 0, none⟩)] w (fun e w' => e = .returned (.bool (decide (i.addr = a))) ∧ Ext w w') := by
 have hc' : Cell (Bg.of w).blk b 0 (.int .u32 a.toNat) := hc
 refine enter Tryz.func29 rfl Tryz.ntmps29 rfl ?_
 refine Tr.seq (Tr.region ?_)
 refine Tr.box rfl rfl rfl (fun b1 => ?_)
 refine Tr.q (QS.assign rfl) rfl ?_
 refine Tr.nil (Tr.thenN (Tr.seq (Tr.region ?_)))
 refine Tr.q (QS.fieldAddr (off := 0) (ft := 40) rfl Tryz.underlying46 rfl rfl Tryz.sizeOf40 (by decide)) rfl ?_
 refine Tr.q (QS.lV rfl Tryz.isAgg40) rfl ?_
 refine Tr.q (QS.loadC rfl (by assumption) Tryz.isAgg40) rfl ?_
 refine Tr.q (QS.eql32 rfl rfl) rfl ?_
 refine Tr.q (QS.assign rfl) rfl ?_
 refine Tr.nil (Tr.thenN (Tr.ret ?_))
 refine Tr.ret1 Tryz.results29 rfl (fun w' hw => ?_)
 exact ⟨rfl, hw.below (Bg.le.refl _)⟩
set_option maxRecDepth 100000 in
set_option maxHeartbeats 2000000 in
theorem dreach_any (li : List Ins) (a : UInt32) (Vi Ve Vu Vb : Value) (w : World) (hI : Sl (hp w) encIns li Vi) :
  Calls Tryz.prog 11 #[.agg #[Vi, Ve, Vu, Vb], .int .u32 a.toNat] w (fun e w' => e = .returned (.bool (reachedP li a)) ∧ Ext w w') := by
 have hI' : Sl (Bg.of w).blk encIns li Vi := hI
 refine enter Tryz.func11 rfl Tryz.ntmps11 rfl ?_
 refine Tr.seq (Tr.region ?_)
 refine Tr.box rfl rfl rfl (fun b1 => ?_)
 refine Tr.box rfl rfl rfl (fun b2 => ?_)
 refine Tr.q (QS.assign rfl) rfl ?_
 refine Tr.nil (Tr.thenN (Tr.seq (Tr.region ?_)))
 refine Tr.q (QS.fieldAddr (off := 0) (ft := 29) rfl Tryz.underlying31 rfl rfl Tryz.sizeOf29 (by decide)) rfl ?_
 refine Tr.q (QS.lV rfl Tryz.isAgg29) rfl ?_
 refine Tr.q (QS.makeFunc rfl rfl) rfl ?_
 refine Tr.q (QS.call rfl Tryz.call28 (fun w hw => containsFunc_ins li Vi _ _ w (hw.slF hI') Tryz.call29 (fun i => decide (i.addr = a)) (fun x hx w'' h => reach1_any x a _ w'' (cellE.cell (hw.ent _ (.head _)) h rfl)))) rfl ?_
 refine Tr.q (QS.assign rfl) rfl ?_
 refine Tr.nil (Tr.thenN (Tr.ret ?_))
 refine Tr.ret1 Tryz.results11 rfl (fun w' hw => ?_)
 exact ⟨rfl, hw.below (Bg.le.refl _)⟩
set_option maxRecDepth 100000 in
set_option maxHeartbeats 2000000 in
theorem indirect12_any (op : Int) (w : World) :
  Calls Tryz.prog 35 #[.int .i64 op] w (fun e w' => e = .returned (.bool (indP op)) ∧ Ext w w') := by
 refine enter Tryz.func35 rfl Tryz.ntmps35 rfl ?_
 refine Tr.seq (Tr.region ?_)
 refine Tr.q (QS.assign rfl) rfl ?_
 refine Tr.nil (Tr.thenN (Tr.seq (Tr.region ?_)))
 refine Tr.q (QS.move rfl) rfl ?_
 refine Tr.q (QS.eql rfl rfl) rfl ?_
 refine Tr.q (QS.move rfl) rfl ?_
 apply Tr.orP
 ·exact (rfl : _ = (3, 5, 8))
 ·exact rfl
 ·intro hF1; have hF1' := hF1
  try simp only [bs] at hF1'
  refine Tr.gq rfl rfl hF1 (QS.move rfl) rfl ?_
  refine Tr.gq rfl rfl hF1 (QS.eql rfl rfl) rfl ?_
  refine Tr.q (QS.pickF rfl hF1 rfl) rfl ?_
  refine Tr.nil (Tr.thenN ?_)
  exact Tr.endX (Sub.cons rfl (Sub.dropN 3 (by kernel_rfl) rfl))
 ·intro hT1
  refine Tr.gskip rfl rfl hT1 rfl ?_
  refine Tr.gskip rfl rfl hT1 rfl ?_
  refine Tr.q (QS.pickT rfl hT1 rfl) rfl ?_
  refine Tr.nil (Tr.thenN ?_)
  exact Tr.endX (Sub.cons rfl (Sub.dropN 3 (by kernel_rfl) rfl))
 refine Tr.q (QS.move rfl) rfl ?_
 apply Tr.orP
 ·exact (rfl : _ = (3, 9, 12))
 ·exact rfl
 ·intro hF2; have hF2' := hF2
  try simp only [bs] at hF2'
  refine Tr.gq rfl rfl hF2 (QS.move rfl) rfl ?_
  refine Tr.gq rfl rfl hF2 (QS.eql rfl rfl) rfl ?_
  refine Tr.q (QS.pickF rfl hF2 rfl) rfl ?_
  refine Tr.nil (Tr.thenN ?_)
  exact Tr.endX (Sub.cons rfl (Sub.dropN 3 (by kernel_rfl) rfl))
 ·intro hT2
  refine Tr.gskip rfl rfl hT2 rfl ?_
  refine Tr.gskip rfl rfl hT2 rfl ?_
  refine Tr.q (QS.pickT rfl hT2 rfl) rfl ?_
  refine Tr.nil (Tr.thenN ?_)
  exact Tr.endX (Sub.cons rfl (Sub.dropN 3 (by kernel_rfl) rfl))
 refine Tr.q (QS.assign rfl) rfl ?_
 refine Tr.nil (Tr.thenN (Tr.ret ?_))
 refine Tr.ret1 Tryz.results35 rfl (fun w' hw => ?_)
 exact ⟨by unfold indP; congr 2; rw [Bool.eq_iff_iff]; simp [or_assoc], hw.below (Bg.le.refl _)⟩
set_option maxRecDepth 100000 in
set_option maxHeartbeats 2000000 in
theorem known12_any (a : UInt32) (ts : List TabV) (at_ : List UInt32) (VT VP : Value) (w : World) (hT : Sl (hp w) encTab ts VT) (hP : Sl (hp w) encU32 at_ VP) (hl : ts.length = at_.length) :
  Calls Tryz.prog 36 #[.int .u32 a.toNat, VT, VP] w (fun e w' => e = .returned (.tuple #[knownV ts at_ a, .bool (knownP ts at_ a).isSome]) ∧ Ext w w') := by
 have hT' : Sl (Bg.of w).blk encTab ts VT := hT
 have hP' : Sl (Bg.of w).blk encU32 at_ VP := hP
 have hlen := hP.len_le
 refine enter Tryz.func36 rfl Tryz.ntmps36 rfl ?_
 refine Tr.seq (Tr.region ?_)
 refine Tr.q (QS.assign rfl) rfl ?_
 refine Tr.q (QS.assign rfl) rfl ?_
 refine Tr.nil (Tr.thenN (Tr.seq (Tr.seq (Tr.region ?_))))
 refine Tr.q (QS.assign rfl) rfl ?_
 refine Tr.nil (Tr.thenN (Tr.block ?_))
 refine Tr.loop (ι := Nat) (fun k => k ≤ at_.length ∧ idxP (fun x => decide (a = x)) k (at_.drop k) = idxP (fun x => decide (a = x)) 0 at_) (fun _ => _) (fun k => []) (fun k => [(8, .int .i64 (k : Nat))]) (fun k => at_.length - k) 0 ⟨Nat.zero_le _, rfl⟩ (.cons (by first | rfl | exact lookI rfl (by omega) | exact lookI rfl (by simp) | exact lookB rfl (by simp)) Front.nil) (by repeat' constructor) rfl (fun k hi m hm => ?_)
 replace hi : k ≤ at_.length ∧ idxP (fun x => decide (a = x)) k (at_.drop k) = idxP (fun x => decide (a = x)) 0 at_ := hi
 replace hm : m = at_.length - k := hm
 change Tr _ _ [] ([(8, .int .i64 (k : Nat))] ++ _) _
 obtain ⟨hk1, hk2⟩ := hi
 refine Tr.seq (Tr.seq (Tr.region ?_))
 refine Tr.q (QS.move rfl) rfl ?_
 refine Tr.q (QS.move rfl) rfl ?_
 refine Tr.q (QS.len rfl (by assumption) Tryz.underlying23) rfl ?_
 refine Tr.q (QS.lss rfl rfl) rfl ?_
 refine Tr.q (QS.move rfl) rfl ?_
 apply Tr.andP
 ·exact (rfl : _ = (5, 13, 18))
 ·exact rfl
 ·intro hT1; have hT1' := hT1
  try simp only [bs] at hT1'
  refine Tr.gq rfl rfl hT1 (QS.move rfl) rfl ?_
  refine Tr.gq rfl rfl hT1 (QS.move rfl) rfl ?_
  refine Tr.gq rfl rfl hT1 (QS.len rfl (by assumption) Tryz.underlying24) rfl ?_
  refine Tr.gq rfl rfl hT1 (QS.lss rfl rfl) rfl ?_
  refine Tr.q (QS.pickT rfl hT1 rfl) rfl ?_
  refine Tr.nil (Tr.thenN ?_)
  exact Tr.endX (Sub.cons rfl (Sub.dropN 5 (by kernel_rfl) rfl))
 ·intro hF1
  refine Tr.gskip rfl rfl hF1 rfl ?_
  refine Tr.gskip rfl rfl hF1 rfl ?_
  refine Tr.gskip rfl rfl hF1 rfl ?_
  refine Tr.gskip rfl rfl hF1 rfl ?_
  refine Tr.q (QS.pickF rfl hF1 rfl) rfl ?_
  refine Tr.nil (Tr.thenN ?_)
  exact Tr.endX (Sub.cons rfl (Sub.dropN 5 (by kernel_rfl) rfl))
 refine Tr.nil (Tr.thenN ?_)
 refine Tr.cond rfl (fun h2 => ?_) (fun h2 => ?_)
 ·try simp only [bs] at h2
  refine Tr.skip (Tr.thenN (Tr.seq (Tr.block (Tr.seq (Tr.region ?_)))))
  refine Tr.q (QS.move rfl) rfl ?_
  refine Tr.q (QS.move rfl) rfl ?_
  refine Tr.q (QS.idxN rfl rfl (by assumption) Tryz.underlying23 Tryz.sizeOf40 (by rfl) (by omega)) rfl ?_
  refine Tr.q (QS.el1 rfl (by assumption) Tryz.isAgg40 (by omega) (by rfl)) rfl ?_
  refine Tr.q (QS.move rfl) rfl ?_
  refine Tr.q (QS.eql32 rfl rfl) rfl ?_
  refine Tr.nil (Tr.thenN ?_)
  refine Tr.cond rfl (fun h3 => ?_) (fun h3 => ?_)
  ·try simp only [bs] at h3
   refine Tr.seq (Tr.region ?_)
   refine Tr.q (QS.move rfl) rfl ?_
   refine Tr.q (QS.move rfl) rfl ?_
   refine Tr.q (QS.idxN rfl rfl (by assumption) Tryz.underlying24 Tryz.sizeOf23 (by rfl) (by omega)) rfl ?_
   refine Tr.q (QS.el1 rfl (by assumption) Tryz.isAgg23 (by omega) (by rfl)) rfl ?_
   refine Tr.q (QS.assign rfl) rfl ?_
   refine Tr.q (QS.assign rfl) rfl ?_
   refine Tr.nil (Tr.thenN (Tr.ret ?_))
   refine Tr.inR ?_
   refine Tr.thenR (Tr.thenR ?_)
   refine Tr.inR ?_
   refine Tr.thenR ?_
   refine Tr.ret2 Tryz.results36 rfl rfl (fun w' hw => ?_)
   have hix : idxP (fun x => decide (a = x)) 0 at_ = (k : Int) := by
    rw [← hk2, drop_cons (k := k) (by omega), idxP, if_pos (decide_eq_true (by first | exact Eq.symm (by assumption) | simp_all))]
   exact ⟨by rw [knownV_yes (by rw [hix]; omega), knownP_yes (by rw [hix]; omega), hix]; rfl, hw.below (Bg.le.refl _)⟩
  ·try simp only [bs] at h3
   refine Tr.skip (Tr.inN (Tr.thenN (Tr.region ?_)))
   refine Tr.q (QS.move rfl) rfl ?_
   refine Tr.q (QS.addI rfl rfl (by omega)) rfl ?_
   refine Tr.q (QS.assign rfl) rfl ?_
   refine Tr.nil (Tr.thenN ?_)
   have hne : decide (a = at_.getD k default) = false := decide_eq_false (fun e => by first | exact absurd e.symm (by assumption) | simp_all)
   apply Tr.again (k + 1)
   ·exact rfl
   ·exact (.cons (by first | rfl | exact lookI rfl (by omega) | exact lookI rfl (by simp) | exact lookB rfl (by simp)) Front.nil)
   ·exact SubX.dropN 16 (by kernel_rfl) rfl
   ·exact (by repeat' constructor)
   ·exact ⟨by omega, by rw [← hk2, drop_cons (k := k) (by omega), idxP, if_neg (by rw [hne]; simp)]⟩
   ·exact (by (try dsimp only); omega)
 ·try simp only [bs] at h2
  refine Tr.exit ?_
  refine Tr.thenE (Tr.thenE (Tr.inHit (Tr.thenN (Tr.seq (Tr.region ?_)))))
  refine Tr.q (QS.assign rfl) rfl ?_
  refine Tr.q (QS.assign rfl) rfl ?_
  refine Tr.nil (Tr.thenN (Tr.ret ?_))
  refine Tr.ret2 Tryz.results36 rfl rfl (fun w' hw => ?_)
  have hix : idxP (fun x => decide (a = x)) 0 at_ = -1 := by rw [← hk2, List.drop_of_length_le (by omega)]; rfl
  exact ⟨by rw [knownV_no (by rw [hix]; decide), knownP_no (by rw [hix]; decide)]; rfl, hw.below (Bg.le.refl _)⟩
set_option maxRecDepth 100000 in
set_option maxHeartbeats 4000000 in
theorem few12_any (l : List SecV) (es : List UInt32) (ts : List TabV) (at_ : List UInt32) (V VE VT VP : Value) (w : World) (hV : Sl (hp w) encSec l V) (hE : Sl (hp w) encU32 es VE) (hT : Sl (hp w) encTab ts VT) (hP : Sl (hp w) encU32 at_ VP) :
  Calls Tryz.prog 4 #[.agg #[V, VE, VT, VP]] w (fun e w' => e = .returned (.bool (fewP l es ts at_)) ∧ Ext w w') := by
 have hV' : Sl (Bg.of w).blk encSec l V := hV
 have hE' : Sl (Bg.of w).blk encU32 es VE := hE
 have hT' : Sl (Bg.of w).blk encTab ts VT := hT
 have hP' : Sl (Bg.of w).blk encU32 at_ VP := hP
 have hl1 := hV.len_le
 have hl2 := hT.len_le
 refine enter Tryz.func4 rfl Tryz.ntmps4 rfl ?_
 refine Tr.seq (Tr.region ?_)
 refine Tr.box rfl rfl rfl (fun b1 => ?_)
 refine Tr.q (QS.assign rfl) rfl ?_
 refine Tr.nil (Tr.thenN (Tr.seq (Tr.seq (Tr.region ?_))))
 refine Tr.q (QS.assign rfl) rfl ?_
 refine Tr.nil (Tr.thenN (Tr.block ?_))
 refine Tr.loop (ι := Nat) (fun k => (k ≤ l.length ∧ k ≤ 8) ∧ (l.take k).all fewS = true) (fun _ => _) (fun k => [cellE b1 [V, VE, VT, VP] 26]) (fun k => [(3, .int .i64 (k : Nat))]) (fun k => l.length - k) 0 ⟨⟨Nat.zero_le _, by omega⟩, rfl⟩ (.cons (by first | rfl | exact lookI rfl (by omega) | exact lookI rfl (by simp) | exact lookB rfl (by simp)) Front.nil) (by repeat' constructor) rfl (fun k hi m hm => ?_)
 replace hi : (k ≤ l.length ∧ k ≤ 8) ∧ (l.take k).all fewS = true := hi
 replace hm : m = l.length - k := hm
 change Tr _ _ [cellE b1 [V, VE, VT, VP] 26] ([(3, .int .i64 (k : Nat))] ++ _) _
 obtain ⟨hk1, hk2⟩ := hi
 refine Tr.seq (Tr.seq (Tr.region ?_))
 refine Tr.q (QS.move rfl) rfl ?_
 refine Tr.q (QS.fieldAddr (off := 0) (ft := 22) rfl Tryz.underlying26 rfl rfl Tryz.sizeOf22 (by decide)) rfl ?_
 refine Tr.q (QS.lV rfl Tryz.isAgg22) rfl ?_
 refine Tr.q (QS.len rfl (by assumption) Tryz.underlying22) rfl ?_
 refine Tr.q (QS.lss rfl rfl) rfl ?_
 refine Tr.q (QS.move rfl) rfl ?_
 apply Tr.andP
 ·exact (rfl : _ = (3, 10, 13))
 ·exact rfl
 ·intro hT2; have hT2' := hT2
  try simp only [bs] at hT2'
  refine Tr.gq rfl rfl hT2 (QS.move rfl) rfl ?_
  refine Tr.gq rfl rfl hT2 (QS.lss rfl rfl) rfl ?_
  refine Tr.q (QS.pickT rfl hT2 rfl) rfl ?_
  refine Tr.nil (Tr.thenN ?_)
  exact Tr.endX (Sub.cons rfl (Sub.dropN 3 (by kernel_rfl) rfl))
 ·intro hF2
  refine Tr.gskip rfl rfl hF2 rfl ?_
  refine Tr.gskip rfl rfl hF2 rfl ?_
  refine Tr.q (QS.pickF rfl hF2 rfl) rfl ?_
  refine Tr.nil (Tr.thenN ?_)
  exact Tr.endX (Sub.cons rfl (Sub.dropN 3 (by kernel_rfl) rfl))
 refine Tr.nil (Tr.thenN ?_)
 refine Tr.cond rfl (fun h3 => ?_) (fun h3 => ?_)
 ·try simp only [bs] at h3
  refine Tr.skip (Tr.thenN (Tr.seq (Tr.block (Tr.seq (Tr.region ?_)))))
  refine Tr.q (QS.fieldAddr (off := 0) (ft := 22) rfl Tryz.underlying26 rfl rfl Tryz.sizeOf22 (by decide)) rfl ?_
  refine Tr.q (QS.lV rfl Tryz.isAgg22) rfl ?_
  refine Tr.q (QS.move rfl) rfl ?_
  refine Tr.q (QS.idxN rfl rfl (by assumption) Tryz.underlying22 Tryz.sizeOf43 (by rfl) (by omega)) rfl ?_
  refine Tr.q (QS.fieldAddr (off := 2) (ft := 41) rfl Tryz.underlying43 rfl rfl Tryz.sizeOf41 (by decide)) rfl ?_
  refine Tr.q (QS.elF rfl (by assumption) Tryz.isAgg41 (by omega) (by rfl)) rfl ?_
  refine Tr.q (QS.lenNil rfl Tryz.underlying41) rfl ?_
  refine Tr.q (QS.gtr rfl rfl) rfl ?_
  refine Tr.q (QS.move rfl) rfl ?_
  apply Tr.orP
  ·exact (rfl : _ = (9, 24, 33))
  ·exact rfl
  ·intro hF4; have hF4' := hF4
   try simp only [bs] at hF4'
   refine Tr.gq rfl rfl hF4 (QS.fieldAddr (off := 0) (ft := 22) rfl Tryz.underlying26 rfl rfl Tryz.sizeOf22 (by decide)) rfl ?_
   refine Tr.gq rfl rfl hF4 (QS.lV rfl Tryz.isAgg22) rfl ?_
   refine Tr.gq rfl rfl hF4 (QS.move rfl) rfl ?_
   refine Tr.gq rfl rfl hF4 (QS.idxN rfl rfl (by assumption) Tryz.underlying22 Tryz.sizeOf43 (by rfl) (by omega)) rfl ?_
   refine Tr.gq rfl rfl hF4 (QS.fieldAddr (off := 0) (ft := 9) rfl Tryz.underlying43 rfl rfl Tryz.sizeOf9 (by decide)) rfl ?_
   refine Tr.gq rfl rfl hF4 (QS.elF rfl (by assumption) Tryz.isAgg9 (by omega) (by rfl)) rfl ?_
   refine Tr.gq rfl rfl hF4 (QS.lenStr rfl Tryz.underlying9) rfl ?_
   refine Tr.gq rfl rfl hF4 (QS.gtr rfl rfl) rfl ?_
   refine Tr.q (QS.pickF rfl hF4 rfl) rfl ?_
   refine Tr.nil (Tr.thenN ?_)
   exact Tr.endX (Sub.cons rfl (Sub.dropN 9 (by kernel_rfl) rfl))
  ·intro hT4
   refine Tr.gskip rfl rfl hT4 rfl ?_
   refine Tr.gskip rfl rfl hT4 rfl ?_
   refine Tr.gskip rfl rfl hT4 rfl ?_
   refine Tr.gskip rfl rfl hT4 rfl ?_
   refine Tr.gskip rfl rfl hT4 rfl ?_
   refine Tr.gskip rfl rfl hT4 rfl ?_
   refine Tr.gskip rfl rfl hT4 rfl ?_
   refine Tr.gskip rfl rfl hT4 rfl ?_
   refine Tr.q (QS.pickT rfl hT4 rfl) rfl ?_
   refine Tr.nil (Tr.thenN ?_)
   exact Tr.endX (Sub.cons rfl (Sub.dropN 9 (by kernel_rfl) rfl))
  refine Tr.nil (Tr.thenN ?_)
  refine Tr.cond rfl (fun h5 => ?_) (fun h5 => ?_)
  ·try simp only [bs] at h5
   refine Tr.seq (Tr.region ?_)
   refine Tr.q (QS.assign rfl) rfl ?_
   refine Tr.nil (Tr.thenN (Tr.ret ?_))
   refine Tr.inR ?_
   refine Tr.thenR (Tr.thenR ?_)
   refine Tr.inR ?_
   refine Tr.thenR ?_
   refine Tr.ret1 Tryz.results4 rfl (fun w' hw => ?_)
   have hs : fewS (l.getD k default) = false := by unfold fewS; rw [Bool.not_eq_false', Bool.or_eq_true, decide_eq_true_eq, decide_eq_true_eq]; assumption
   exact ⟨by unfold fewP; rw [all_no (k := k) (by omega) (by omega) hs]; rfl, hw.below (Bg.le.refl _)⟩
  ·try simp only [bs] at h5
   refine Tr.skip (Tr.inN (Tr.thenN (Tr.region ?_)))
   refine Tr.q (QS.move rfl) rfl ?_
   refine Tr.q (QS.addI rfl rfl (by omega)) rfl ?_
   refine Tr.q (QS.assign rfl) rfl ?_
   refine Tr.nil (Tr.thenN ?_)
   have hs : fewS (l.getD k default) = true := by unfold fewS; rw [Bool.not_eq_true', Bool.or_eq_false_iff, decide_eq_false_iff_not, decide_eq_false_iff_not]; assumption
   apply Tr.again (k + 1)
   ·exact rfl
   ·exact (.cons (by first | rfl | exact lookI rfl (by omega) | exact lookI rfl (by simp) | exact lookB rfl (by simp)) Front.nil)
   ·exact SubX.dropN 21 (by kernel_rfl) rfl
   ·exact (by repeat' constructor)
   ·exact ⟨by omega, by rw [all_take_succ (by omega), hk2, hs]; rfl⟩
   ·exact (by (try dsimp only); omega)
 ·try simp only [bs] at h3
  refine Tr.exit ?_
  refine Tr.thenE (Tr.thenE (Tr.inHit (Tr.thenN (Tr.seq (Tr.seq (Tr.region ?_))))))
  refine Tr.q (QS.assign rfl) rfl ?_
  refine Tr.nil (Tr.thenN (Tr.block ?_))
  have hA := all_take8 hk1.1 hk1.2 (by omega) hk2
  refine Tr.loop (ι := Nat) (fun j => (j ≤ ts.length ∧ j ≤ 8) ∧ (ts.take j).all fewT = true) (fun _ => _) (fun j => [cellE b1 [V, VE, VT, VP] 26]) (fun j => [(4, .int .i64 (j : Nat))]) (fun j => ts.length - j) 0 ⟨⟨Nat.zero_le _, by omega⟩, rfl⟩ (.cons (by first | rfl | exact lookI rfl (by omega) | exact lookI rfl (by simp) | exact lookB rfl (by simp)) Front.nil) (by repeat' constructor) rfl (fun j hi m hm => ?_)
  replace hi : (j ≤ ts.length ∧ j ≤ 8) ∧ (ts.take j).all fewT = true := hi
  replace hm : m = ts.length - j := hm
  change Tr _ _ [cellE b1 [V, VE, VT, VP] 26] ([(4, .int .i64 (j : Nat))] ++ _) _
  obtain ⟨hj1, hj2⟩ := hi
  refine Tr.seq (Tr.seq (Tr.region ?_))
  refine Tr.q (QS.move rfl) rfl ?_
  refine Tr.q (QS.fieldAddr (off := 2) (ft := 24) rfl Tryz.underlying26 rfl rfl Tryz.sizeOf24 (by decide)) rfl ?_
  refine Tr.q (QS.lV rfl Tryz.isAgg24) rfl ?_
  refine Tr.q (QS.len rfl (by assumption) Tryz.underlying24) rfl ?_
  refine Tr.q (QS.lss rfl rfl) rfl ?_
  refine Tr.q (QS.move rfl) rfl ?_
  apply Tr.andP
  ·exact (rfl : _ = (3, 39, 42))
  ·exact rfl
  ·intro hT6; have hT6' := hT6
   try simp only [bs] at hT6'
   refine Tr.gq rfl rfl hT6 (QS.move rfl) rfl ?_
   refine Tr.gq rfl rfl hT6 (QS.lss rfl rfl) rfl ?_
   refine Tr.q (QS.pickT rfl hT6 rfl) rfl ?_
   refine Tr.nil (Tr.thenN ?_)
   exact Tr.endX (Sub.cons rfl (Sub.dropN 3 (by kernel_rfl) rfl))
  ·intro hF6
   refine Tr.gskip rfl rfl hF6 rfl ?_
   refine Tr.gskip rfl rfl hF6 rfl ?_
   refine Tr.q (QS.pickF rfl hF6 rfl) rfl ?_
   refine Tr.nil (Tr.thenN ?_)
   exact Tr.endX (Sub.cons rfl (Sub.dropN 3 (by kernel_rfl) rfl))
  refine Tr.nil (Tr.thenN ?_)
  refine Tr.cond rfl (fun h7 => ?_) (fun h7 => ?_)
  ·try simp only [bs] at h7
   refine Tr.skip (Tr.thenN (Tr.seq (Tr.block (Tr.seq (Tr.region ?_)))))
   refine Tr.q (QS.fieldAddr (off := 2) (ft := 24) rfl Tryz.underlying26 rfl rfl Tryz.sizeOf24 (by decide)) rfl ?_
   refine Tr.q (QS.lV rfl Tryz.isAgg24) rfl ?_
   refine Tr.q (QS.move rfl) rfl ?_
   refine Tr.q (QS.idxN rfl rfl (by assumption) Tryz.underlying24 Tryz.sizeOf23 (by rfl) (by omega)) rfl ?_
   refine Tr.q (QS.el1 rfl (by assumption) Tryz.isAgg23 (by omega) (by rfl)) rfl ?_
   refine Tr.q (QS.lenNil rfl Tryz.underlying23) rfl ?_
   refine Tr.q (QS.gtr rfl rfl) rfl ?_
   refine Tr.nil (Tr.thenN ?_)
   refine Tr.cond rfl (fun h8 => ?_) (fun h8 => ?_)
   ·try simp only [bs] at h8
    refine Tr.seq (Tr.region ?_)
    refine Tr.q (QS.assign rfl) rfl ?_
    refine Tr.nil (Tr.thenN (Tr.ret ?_))
    refine Tr.inR ?_
    refine Tr.thenR (Tr.thenR ?_)
    refine Tr.inR ?_
    refine Tr.thenR ?_
    refine Tr.ret1 Tryz.results4 rfl (fun w' hw => ?_)
    have hs : fewT (ts.getD j default) = false := by unfold fewT; rw [Bool.not_eq_false', decide_eq_true_eq]; assumption
    exact ⟨by unfold fewP; rw [hA, all_no (k := j) (by omega) (by omega) hs]; rfl, hw.below (Bg.le.refl _)⟩
   ·try simp only [bs] at h8
    refine Tr.skip (Tr.inN (Tr.thenN (Tr.region ?_)))
    refine Tr.q (QS.move rfl) rfl ?_
    refine Tr.q (QS.addI rfl rfl (by omega)) rfl ?_
    refine Tr.q (QS.assign rfl) rfl ?_
    refine Tr.nil (Tr.thenN ?_)
    have hs : fewT (ts.getD j default) = true := by unfold fewT; rw [Bool.not_eq_true', decide_eq_false_iff_not]; assumption
    apply Tr.again (j + 1)
    ·exact rfl
    ·exact (.cons (by first | rfl | exact lookI rfl (by omega) | exact lookI rfl (by simp) | exact lookB rfl (by simp)) Front.nil)
    ·exact SubX.dropN 18 (by kernel_rfl) rfl
    ·exact (by repeat' constructor)
    ·exact ⟨by omega, by rw [all_take_succ (by omega), hj2, hs]; rfl⟩
    ·exact (by (try dsimp only); omega)
  ·try simp only [bs] at h7
   refine Tr.exit ?_
   refine Tr.thenE (Tr.thenE (Tr.inHit (Tr.thenN (Tr.seq (Tr.region ?_)))))
   refine Tr.q (QS.fieldAddr (off := 0) (ft := 22) rfl Tryz.underlying26 rfl rfl Tryz.sizeOf22 (by decide)) rfl ?_
   refine Tr.q (QS.lV rfl Tryz.isAgg22) rfl ?_
   refine Tr.q (QS.len rfl (by assumption) Tryz.underlying22) rfl ?_
   refine Tr.q (QS.leq rfl rfl) rfl ?_
   refine Tr.q (QS.move rfl) rfl ?_
   apply Tr.andP
   ·exact (rfl : _ = (5, 56, 61))
   ·exact rfl
   ·intro hT9; have hT9' := hT9
    try simp only [bs] at hT9'
    refine Tr.gq rfl rfl hT9 (QS.fieldAddr (off := 1) (ft := 23) rfl Tryz.underlying26 rfl rfl Tryz.sizeOf23 (by decide)) rfl ?_
    refine Tr.gq rfl rfl hT9 (QS.lV rfl Tryz.isAgg23) rfl ?_
    refine Tr.gq rfl rfl hT9 (QS.len rfl (by assumption) Tryz.underlying23) rfl ?_
    refine Tr.gq rfl rfl hT9 (QS.leq rfl rfl) rfl ?_
    refine Tr.q (QS.pickT rfl hT9 rfl) rfl ?_
    refine Tr.nil (Tr.thenN ?_)
    exact Tr.endX (Sub.cons rfl (Sub.dropN 5 (by kernel_rfl) rfl))
   ·intro hF9
    refine Tr.gskip rfl rfl hF9 rfl ?_
    refine Tr.gskip rfl rfl hF9 rfl ?_
    refine Tr.gskip rfl rfl hF9 rfl ?_
    refine Tr.gskip rfl rfl hF9 rfl ?_
    refine Tr.q (QS.pickF rfl hF9 rfl) rfl ?_
    refine Tr.nil (Tr.thenN ?_)
    exact Tr.endX (Sub.cons rfl (Sub.dropN 5 (by kernel_rfl) rfl))
   refine Tr.q (QS.move rfl) rfl ?_
   apply Tr.andP
   ·exact (rfl : _ = (5, 62, 67))
   ·exact rfl
   ·intro hT10; have hT10' := hT10
    try simp only [bs] at hT10'
    refine Tr.gq rfl rfl hT10 (QS.fieldAddr (off := 2) (ft := 24) rfl Tryz.underlying26 rfl rfl Tryz.sizeOf24 (by decide)) rfl ?_
    refine Tr.gq rfl rfl hT10 (QS.lV rfl Tryz.isAgg24) rfl ?_
    refine Tr.gq rfl rfl hT10 (QS.len rfl (by assumption) Tryz.underlying24) rfl ?_
    refine Tr.gq rfl rfl hT10 (QS.leq rfl rfl) rfl ?_
    refine Tr.q (QS.pickT rfl hT10 rfl) rfl ?_
    refine Tr.nil (Tr.thenN ?_)
    exact Tr.endX (Sub.cons rfl (Sub.dropN 5 (by kernel_rfl) rfl))
   ·intro hF10
    refine Tr.gskip rfl rfl hF10 rfl ?_
    refine Tr.gskip rfl rfl hF10 rfl ?_
    refine Tr.gskip rfl rfl hF10 rfl ?_
    refine Tr.gskip rfl rfl hF10 rfl ?_
    refine Tr.q (QS.pickF rfl hF10 rfl) rfl ?_
    refine Tr.nil (Tr.thenN ?_)
    exact Tr.endX (Sub.cons rfl (Sub.dropN 5 (by kernel_rfl) rfl))
   refine Tr.q (QS.move rfl) rfl ?_
   apply Tr.andP
   ·exact (rfl : _ = (5, 68, 73))
   ·exact rfl
   ·intro hT11; have hT11' := hT11
    try simp only [bs] at hT11'
    refine Tr.gq rfl rfl hT11 (QS.fieldAddr (off := 3) (ft := 23) rfl Tryz.underlying26 rfl rfl Tryz.sizeOf23 (by decide)) rfl ?_
    refine Tr.gq rfl rfl hT11 (QS.lV rfl Tryz.isAgg23) rfl ?_
    refine Tr.gq rfl rfl hT11 (QS.len rfl (by assumption) Tryz.underlying23) rfl ?_
    refine Tr.gq rfl rfl hT11 (QS.leq rfl rfl) rfl ?_
    refine Tr.q (QS.pickT rfl hT11 rfl) rfl ?_
    refine Tr.nil (Tr.thenN ?_)
    exact Tr.endX (Sub.cons rfl (Sub.dropN 5 (by kernel_rfl) rfl))
   ·intro hF11
    refine Tr.gskip rfl rfl hF11 rfl ?_
    refine Tr.gskip rfl rfl hF11 rfl ?_
    refine Tr.gskip rfl rfl hF11 rfl ?_
    refine Tr.gskip rfl rfl hF11 rfl ?_
    refine Tr.q (QS.pickF rfl hF11 rfl) rfl ?_
    refine Tr.nil (Tr.thenN ?_)
    exact Tr.endX (Sub.cons rfl (Sub.dropN 5 (by kernel_rfl) rfl))
   refine Tr.q (QS.assign rfl) rfl ?_
   refine Tr.nil (Tr.thenN (Tr.ret ?_))
   refine Tr.ret1 Tryz.results4 rfl (fun w' hw => ?_)
   have hB := all_take8 hj1.1 hj1.2 (by omega) hj2
   exact ⟨by unfold fewP; rw [hA, hB]; rfl, hw.below (Bg.le.refl _)⟩
set_option maxRecDepth 100000 in
set_option maxHeartbeats 4000000 in
theorem lwalk_any (l : List SecV) (ts : List TabV) (at_ es : List UInt32) (V VE VT VP : Value) (w : World) (hV : Sl (hp w) encSec l V) (hB : SecB l) (hD : DataIn (hp w) l) (hN : ∀ s ∈ l, s.name.size ≤ 140737488351232) (hE : Sl (hp w) encU32 es VE) (hT : Sl (hp w) encTab ts VT) (hTI : TabIn (hp w) ts) (hTB : TabB ts) (hP : Sl (hp w) encU32 at_ VP) (ht : totD l ≤ 480) (hel : es.length ≤ 100) :
  Calls Tryz.prog 6 #[.agg #[V, VE, VT, VP]] w (fun e w' => ∃ i : ((Value × Value × Value × Value) × CodeP × Int), e = .returned ((fun i : ((Value × Value × Value × Value) × CodeP × Int) => .tuple #[.agg #[i.1.1, i.1.2.1, i.1.2.2.1, i.1.2.2.2], .int .i64 i.2.2]) i) ∧ Below w.heap.size w w' ∧ NewEnts w w' ((fun i : ((Value × Value × Value × Value) × CodeP × Int) => [rowE i.1.1 46 encIns i.2.1.ins, rowE i.1.2.1 40 encU32 i.2.1.ents, rowE i.1.2.2.1 40 encU32 i.2.1.unk, rowE i.1.2.2.2 40 encU32 i.2.1.bad]) i) ∧ WalkIs l ts at_ es i.2.1 i.2.2) := by
 have hV0 : Sl (Bg.of0 w).blk encSec l V := hV
 have hD0 : DataIn (Bg.of0 w).blk l := hD
 have hE0 : Sl (Bg.of0 w).blk encU32 es VE := hE
 have hT0 : Sl (Bg.of0 w).blk encTab ts VT := hT
 have hTI0 : TabIn (Bg.of0 w).blk ts := hTI
 have hP0 : Sl (Bg.of0 w).blk encU32 at_ VP := hP
 refine enter0 Tryz.func6 rfl Tryz.ntmps6 rfl ?_
 refine Tr.seq (Tr.region ?_)
 refine Tr.box rfl rfl rfl (fun b1 => ?_)
 refine Tr.alloc Tryz.zeroValue31 rfl rfl (fun b2 => ?_)
 refine Tr.q (QS.assign rfl) rfl ?_
 refine Tr.nil (Tr.thenN (Tr.seq (Tr.region ?_)))
 refine Tr.q (QS.fieldAddr (off := 0) (ft := 22) rfl Tryz.underlying26 rfl rfl Tryz.sizeOf22 (by decide)) rfl ?_
 refine Tr.q (QS.lV rfl Tryz.isAgg22) rfl ?_
 refine Tr.q (QS.fieldAddr (off := 1) (ft := 23) rfl Tryz.underlying26 rfl rfl Tryz.sizeOf23 (by decide)) rfl ?_
 refine Tr.q (QS.lV rfl Tryz.isAgg23) rfl ?_
 refine Tr.q (QS.fieldAddr (off := 2) (ft := 24) rfl Tryz.underlying26 rfl rfl Tryz.sizeOf24 (by decide)) rfl ?_
 refine Tr.q (QS.lV rfl Tryz.isAgg24) rfl ?_
 refine Tr.q (QS.fieldAddr (off := 3) (ft := 23) rfl Tryz.underlying26 rfl rfl Tryz.sizeOf23 (by decide)) rfl ?_
 refine Tr.q (QS.lV rfl Tryz.isAgg23) rfl ?_
 refine Tr.callEnts0 (fun i : ((Value × Value × Value × Value) × CodeP × Int) => .tuple #[.agg #[i.1.1, i.1.2.1, i.1.2.2.1, i.1.2.2.2], .int .i64 i.2.2]) (fun i : ((Value × Value × Value × Value) × CodeP × Int) => [rowE i.1.1 46 encIns i.2.1.ins, rowE i.1.2.1 40 encU32 i.2.1.ents, rowE i.1.2.2.1 40 encU32 i.2.1.unk, rowE i.1.2.2.2 40 encU32 i.2.1.bad]) (ok := fun i => WalkIs l ts at_ es i.2.1 i.2.2) (rfl) rfl Tryz.call10 (fun w hw => walk_any l ts at_ es V VE VT VP w (hw.slF hV0) hB (hD0.mono hw.bg) hN (hw.slF hE0) (hw.slF hT0) (hTI0.mono hw.bg) hTB (hw.slF hP0) ht hel) rfl (fun i hi => ?_)
 obtain ⟨⟨Vi, Ve, Vu, Vb⟩, c, e0⟩ := i
 replace hi : WalkIs l ts at_ es c e0 := hi
 change Tr _ _ ([rowE Vi 46 encIns c.ins, rowE Ve 40 encU32 c.ents, rowE Vu 40 encU32 c.unk, rowE Vb 40 encU32 c.bad] ++ _) _ _
 refine Tr.rowShape (V := Vi) (by repeat constructor) (fun pVi cVi hpv => ?_)
 subst hpv
 refine Tr.rowShape (V := Ve) (by repeat constructor) (fun pVe cVe hpv => ?_)
 subst hpv
 refine Tr.rowShape (V := Vu) (by repeat constructor) (fun pVu cVu hpv => ?_)
 subst hpv
 refine Tr.rowShape (V := Vb) (by repeat constructor) (fun pVb cVb hpv => ?_)
 subst hpv
 refine Tr.q (QS.extract rfl rfl) rfl ?_
 refine Tr.q (QS.extract rfl rfl) rfl ?_
 refine Tr.storeW rfl rfl Tryz.sizeOf31 (by repeat constructor) (by rfl) (by rfl) (by first | exact List.all_eq_true.1 rfl | exact Enc.one _ _ | (intro u hu; simp [Value.cells] at hu; simp_all [Value.oneCell'])) rfl ?_
 refine Tr.q (QS.assign rfl) rfl ?_
 refine Tr.nil (Tr.thenN (Tr.ret ?_))
 refine Tr.retC2 Tryz.results6 rfl rfl (by repeat constructor) Tryz.isAgg31 Tryz.sizeOf31 (by rfl) (fun w' hw => ?_)
 exact ⟨((_, _, _, _), c, e0), rfl, hw.below0 (Bg.le.refl _), hw.ents0 rfl (by repeat' constructor), hi⟩
set_option maxRecDepth 100000 in
set_option maxHeartbeats 2000000 in
theorem toRef_any (ai ae au ab : Option Addr) (ni ne nu nb ci ce cu cb : Nat) (w : World) :
  Calls Tryz.prog 9 #[.agg #[.slice ai ni ci, .slice ae ne ce, .slice au nu cu, .slice ab nb cb]] w (fun e w' => e = .returned (.agg #[.slice ai ni ci, .slice ae ne ce, .slice au nu cu, .slice ab nb cb]) ∧ Ext w w') := by
 refine enter Tryz.func9 rfl Tryz.ntmps9 rfl ?_
 refine Tr.seq (Tr.region ?_)
 refine Tr.box rfl rfl rfl (fun b1 => ?_)
 refine Tr.alloc Tryz.zeroValue35 rfl rfl (fun b2 => ?_)
 refine Tr.nil (Tr.thenN (Tr.seq (Tr.region ?_)))
 refine Tr.q (QS.fieldAddr (off := 0) (ft := 29) rfl Tryz.underlying31 rfl rfl Tryz.sizeOf29 (by decide)) rfl ?_
 refine Tr.q (QS.lV rfl Tryz.isAgg29) rfl ?_
 refine Tr.q (QS.fieldAddr (off := 1) (ft := 23) rfl Tryz.underlying31 rfl rfl Tryz.sizeOf23 (by decide)) rfl ?_
 refine Tr.q (QS.lV rfl Tryz.isAgg23) rfl ?_
 refine Tr.q (QS.fieldAddr (off := 2) (ft := 23) rfl Tryz.underlying31 rfl rfl Tryz.sizeOf23 (by decide)) rfl ?_
 refine Tr.q (QS.lV rfl Tryz.isAgg23) rfl ?_
 refine Tr.q (QS.fieldAddr (off := 3) (ft := 23) rfl Tryz.underlying31 rfl rfl Tryz.sizeOf23 (by decide)) rfl ?_
 refine Tr.q (QS.lV rfl Tryz.isAgg23) rfl ?_
 refine Tr.q (QS.build (vs := [(0, _), (1, _), (2, _), (3, _)]) (cs := #[.slice ai ni ci, .slice ae ne ce, .slice au nu cu, .slice ab nb cb]) rfl rfl (by kernel_rfl)) rfl ?_
 refine Tr.storeW rfl rfl Tryz.sizeOf35 (by repeat constructor) (by rfl) (by rfl) (by first | exact List.all_eq_true.1 rfl | exact Enc.one _ _ | (intro u hu; simp [Value.cells] at hu; simp_all [Value.oneCell'])) rfl ?_
 refine Tr.nil (Tr.thenN (Tr.ret ?_))
 refine Tr.retC1 Tryz.results9 rfl (by repeat constructor) Tryz.isAgg35 Tryz.sizeOf35 (by rfl) (fun w' hw => ?_)
 exact ⟨rfl, hw.below (Bg.le.refl _)⟩
set_option maxRecDepth 100000 in
set_option maxHeartbeats 2000000 in
theorem same12_any (c c' : CodeP) (Vi Ve Vu Vb Wi We Wu Wb : Value) (w : World) (h1 : Sl (hp w) encIns c.ins Vi) (h2 : Sl (hp w) encU32 c.ents Ve) (h3 : Sl (hp w) encU32 c.unk Vu) (h4 : Sl (hp w) encU32 c.bad Vb) (k1 : Sl (hp w) encIns c'.ins Wi) (k2 : Sl (hp w) encU32 c'.ents We) (k3 : Sl (hp w) encU32 c'.unk Wu) (k4 : Sl (hp w) encU32 c'.bad Wb) :
  Calls Tryz.prog 8 #[.agg #[Vi, Ve, Vu, Vb], .agg #[Wi, We, Wu, Wb]] w (fun e w' => e = .returned (.bool (((decide (c.ins = c'.ins) && decide (c.ents = c'.ents)) && decide (c.unk = c'.unk)) && decide (c.bad = c'.bad))) ∧ Ext w w') := by
 have g1 : Sl (Bg.of w).blk encIns c.ins Vi := h1
 have g2 : Sl (Bg.of w).blk encU32 c.ents Ve := h2
 have g3 : Sl (Bg.of w).blk encU32 c.unk Vu := h3
 have g4 : Sl (Bg.of w).blk encU32 c.bad Vb := h4
 have m1 : Sl (Bg.of w).blk encIns c'.ins Wi := k1
 have m2 : Sl (Bg.of w).blk encU32 c'.ents We := k2
 have m3 : Sl (Bg.of w).blk encU32 c'.unk Wu := k3
 have m4 : Sl (Bg.of w).blk encU32 c'.bad Wb := k4
 refine enter Tryz.func8 rfl Tryz.ntmps8 rfl ?_
 refine Tr.seq (Tr.region ?_)
 refine Tr.box rfl rfl rfl (fun b1 => ?_)
 refine Tr.box rfl rfl rfl (fun b2 => ?_)
 refine Tr.q (QS.assign rfl) rfl ?_
 refine Tr.nil (Tr.thenN (Tr.seq (Tr.region ?_)))
 refine Tr.q (QS.fieldAddr (off := 0) (ft := 29) rfl Tryz.underlying35 rfl rfl Tryz.sizeOf29 (by decide)) rfl ?_
 refine Tr.q (QS.lV rfl Tryz.isAgg29) rfl ?_
 refine Tr.q (QS.fieldAddr (off := 0) (ft := 29) rfl Tryz.underlying35 rfl rfl Tryz.sizeOf29 (by decide)) rfl ?_
 refine Tr.q (QS.lV rfl Tryz.isAgg29) rfl ?_
 refine Tr.q (QS.call rfl Tryz.call19 (fun w hw => same03_any c.ins c'.ins Vi Wi w (hw.slF g1) (hw.slF m1))) rfl ?_
 refine Tr.q (QS.move rfl) rfl ?_
 apply Tr.andP
 ·exact (rfl : _ = (6, 10, 16))
 ·exact rfl
 ·intro hT3; have hT3' := hT3
  try simp only [bs] at hT3'
  refine Tr.gq rfl rfl hT3 (QS.fieldAddr (off := 1) (ft := 23) rfl Tryz.underlying35 rfl rfl Tryz.sizeOf23 (by decide)) rfl ?_
  refine Tr.gq rfl rfl hT3 (QS.lV rfl Tryz.isAgg23) rfl ?_
  refine Tr.gq rfl rfl hT3 (QS.fieldAddr (off := 1) (ft := 23) rfl Tryz.underlying35 rfl rfl Tryz.sizeOf23 (by decide)) rfl ?_
  refine Tr.gq rfl rfl hT3 (QS.lV rfl Tryz.isAgg23) rfl ?_
  refine Tr.gq rfl rfl hT3 (QS.call rfl Tryz.call20 (fun w hw => words_any c.ents c'.ents Ve We w (hw.slF g2) (hw.slF m2))) rfl ?_
  refine Tr.q (QS.pickT rfl hT3 rfl) rfl ?_
  refine Tr.nil (Tr.thenN ?_)
  exact Tr.endX (Sub.cons rfl (Sub.dropN 6 (by kernel_rfl) rfl))
 ·intro hF3
  refine Tr.gskip rfl rfl hF3 rfl ?_
  refine Tr.gskip rfl rfl hF3 rfl ?_
  refine Tr.gskip rfl rfl hF3 rfl ?_
  refine Tr.gskip rfl rfl hF3 rfl ?_
  refine Tr.gskip rfl rfl hF3 rfl ?_
  refine Tr.q (QS.pickF rfl hF3 rfl) rfl ?_
  refine Tr.nil (Tr.thenN ?_)
  exact Tr.endX (Sub.cons rfl (Sub.dropN 6 (by kernel_rfl) rfl))
 refine Tr.q (QS.move rfl) rfl ?_
 apply Tr.andP
 ·exact (rfl : _ = (6, 17, 23))
 ·exact rfl
 ·intro hT4; have hT4' := hT4
  try simp only [bs] at hT4'
  refine Tr.gq rfl rfl hT4 (QS.fieldAddr (off := 2) (ft := 23) rfl Tryz.underlying35 rfl rfl Tryz.sizeOf23 (by decide)) rfl ?_
  refine Tr.gq rfl rfl hT4 (QS.lV rfl Tryz.isAgg23) rfl ?_
  refine Tr.gq rfl rfl hT4 (QS.fieldAddr (off := 2) (ft := 23) rfl Tryz.underlying35 rfl rfl Tryz.sizeOf23 (by decide)) rfl ?_
  refine Tr.gq rfl rfl hT4 (QS.lV rfl Tryz.isAgg23) rfl ?_
  refine Tr.gq rfl rfl hT4 (QS.call rfl Tryz.call20 (fun w hw => words_any c.unk c'.unk Vu Wu w (hw.slF g3) (hw.slF m3))) rfl ?_
  refine Tr.q (QS.pickT rfl hT4 rfl) rfl ?_
  refine Tr.nil (Tr.thenN ?_)
  exact Tr.endX (Sub.cons rfl (Sub.dropN 6 (by kernel_rfl) rfl))
 ·intro hF4
  refine Tr.gskip rfl rfl hF4 rfl ?_
  refine Tr.gskip rfl rfl hF4 rfl ?_
  refine Tr.gskip rfl rfl hF4 rfl ?_
  refine Tr.gskip rfl rfl hF4 rfl ?_
  refine Tr.gskip rfl rfl hF4 rfl ?_
  refine Tr.q (QS.pickF rfl hF4 rfl) rfl ?_
  refine Tr.nil (Tr.thenN ?_)
  exact Tr.endX (Sub.cons rfl (Sub.dropN 6 (by kernel_rfl) rfl))
 refine Tr.q (QS.move rfl) rfl ?_
 apply Tr.andP
 ·exact (rfl : _ = (6, 24, 30))
 ·exact rfl
 ·intro hT5; have hT5' := hT5
  try simp only [bs] at hT5'
  refine Tr.gq rfl rfl hT5 (QS.fieldAddr (off := 3) (ft := 23) rfl Tryz.underlying35 rfl rfl Tryz.sizeOf23 (by decide)) rfl ?_
  refine Tr.gq rfl rfl hT5 (QS.lV rfl Tryz.isAgg23) rfl ?_
  refine Tr.gq rfl rfl hT5 (QS.fieldAddr (off := 3) (ft := 23) rfl Tryz.underlying35 rfl rfl Tryz.sizeOf23 (by decide)) rfl ?_
  refine Tr.gq rfl rfl hT5 (QS.lV rfl Tryz.isAgg23) rfl ?_
  refine Tr.gq rfl rfl hT5 (QS.call rfl Tryz.call20 (fun w hw => words_any c.bad c'.bad Vb Wb w (hw.slF g4) (hw.slF m4))) rfl ?_
  refine Tr.q (QS.pickT rfl hT5 rfl) rfl ?_
  refine Tr.nil (Tr.thenN ?_)
  exact Tr.endX (Sub.cons rfl (Sub.dropN 6 (by kernel_rfl) rfl))
 ·intro hF5
  refine Tr.gskip rfl rfl hF5 rfl ?_
  refine Tr.gskip rfl rfl hF5 rfl ?_
  refine Tr.gskip rfl rfl hF5 rfl ?_
  refine Tr.gskip rfl rfl hF5 rfl ?_
  refine Tr.gskip rfl rfl hF5 rfl ?_
  refine Tr.q (QS.pickF rfl hF5 rfl) rfl ?_
  refine Tr.nil (Tr.thenN ?_)
  exact Tr.endX (Sub.cons rfl (Sub.dropN 6 (by kernel_rfl) rfl))
 refine Tr.q (QS.assign rfl) rfl ?_
 refine Tr.nil (Tr.thenN (Tr.ret ?_))
 refine Tr.ret1 Tryz.results8 rfl (fun w' hw => ?_)
 exact ⟨rfl, hw.below (Bg.le.refl _)⟩
set_option maxRecDepth 100000 in
set_option maxHeartbeats 8000000 in
theorem example12_any (w : World) :
  Calls Tryz.prog 5 #[] w (fun e w' => e = .returned (.bool true) ∧ Below w.heap.size w w') := by
 refine enter0 Tryz.func5 rfl Tryz.ntmps5 rfl ?_
 refine Tr.seq (Tr.region ?_)
 refine Tr.q (QS.assign rfl) rfl ?_
 refine Tr.nil (Tr.thenN (Tr.seq (Tr.region ?_)))
 refine Tr.litN (E := encU8) exB (vs := [(0, _), (1, _), (2, _), (3, _), (4, _), (5, _), (6, _), (7, _), (8, _), (9, _), (10, _)]) rfl rfl Tryz.underlying41 Tryz.sizeOf5 Tryz.zeroValue5 (by rfl) (by rfl) rfl (by first | kernel_rfl | rfl) rfl (fun V1 => ?_)
 refine Tr.rowShape (.head _) (fun pa pc hpv => ?_)
 subst hpv
 refine Tr.frozen (.here _) (fun F1 hF1 hD1 => ?_)
 refine Tr.q (QS.build (vs := [(0, _), (1, _), (2, _), (4, _)]) rfl rfl rfl) rfl ?_
 refine Tr.lit1 (E := encSec) (exS pa pc) rfl rfl Tryz.underlying22 Tryz.sizeOf43 Tryz.zeroValue43 (by rfl) (by rfl) rfl (fun V2 => ?_)
 refine Tr.frozen (.here _) (fun F2 hF2 hS => ?_)
 replace hD1 := hD1.mono hF2.blk
 refine Tr.q (QS.assign rfl) rfl ?_
 refine Tr.nil (Tr.thenN (Tr.seq (Tr.region ?_)))
 refine Tr.q (QS.move rfl) rfl ?_
 refine Tr.lit1 (E := encU32) (4096 : UInt32) rfl rfl Tryz.underlying23 Tryz.sizeOf40 Tryz.zeroValue40 (by rfl) (by rfl) rfl (fun V3 => ?_)
 refine Tr.frozen (.here _) (fun F3 hF3 hE3 => ?_)
 have hS3 := hS.mono hF3.blk
 have hD3 := hD1.mono hF3.blk
 have hdr3 := (hF1.trans (hF2.trans hF3)).dr
 refine Tr.callEnts0 (fun i : ((Value × Value × Value × Value) × CodeP × Int) => .tuple #[.agg #[i.1.1, i.1.2.1, i.1.2.2.1, i.1.2.2.2], .int .i64 i.2.2]) (fun i : ((Value × Value × Value × Value) × CodeP × Int) => [rowE i.1.1 46 encIns i.2.1.ins, rowE i.1.2.1 40 encU32 i.2.1.ents, rowE i.1.2.2.1 40 encU32 i.2.1.unk, rowE i.1.2.2.2 40 encU32 i.2.1.bad]) (ok := fun i => WalkIs [exS pa pc] [] [] [4096] i.2.1 i.2.2) (hdr3) rfl Tryz.call10 (fun w hw => walk_any [exS pa pc] [] [] [4096] _ _ (.slice none 0 0) (.slice none 0 0) w (hw.slF hS3) ⟨by simp, by simp [exS, exB]⟩ (fun s hs => by simp only [List.mem_singleton] at hs; subst hs; exact hw.slF hD3) (by simp [exS]; decide) (hw.slF hE3) (Sl.nil _ _) (fun t ht => by cases ht) ⟨by simp, fun t ht => by cases ht⟩ (Sl.nil _ _) (by simp [totD, exS, exB]) (by simp)) rfl (fun i hi => ?_)
 obtain ⟨⟨Vi, Ve, Vu, Vb⟩, c, e0⟩ := i
 obtain ⟨hc, he⟩ := ex_walk hi
 replace hc : c = ⟨exI, exE, [], []⟩ := hc
 replace he : e0 = 0 := he
 subst hc he
 change Tr _ _ ([rowE Vi 46 encIns exI, rowE Ve 40 encU32 exE, rowE Vu 40 encU32 [], rowE Vb 40 encU32 []] ++ _) _ _
 refine Tr.rowShape (V := Vi) (by repeat constructor) (fun pVi cVi hpv => ?_)
 subst hpv
 refine Tr.rowShape (V := Ve) (by repeat constructor) (fun pVe cVe hpv => ?_)
 subst hpv
 refine Tr.rowShape (V := Vu) (by repeat constructor) (fun pVu cVu hpv => ?_)
 subst hpv
 refine Tr.rowShape (V := Vb) (by repeat constructor) (fun pVb cVb hpv => ?_)
 subst hpv
 have hxi : exI.length = 4 := rfl
 have hxe : exE.length = 2 := rfl
 refine Tr.q (QS.move rfl) rfl ?_
 refine Tr.q (QS.extract rfl rfl) rfl ?_
 refine Tr.q (QS.extract rfl rfl) rfl ?_
 refine Tr.alloc Tryz.zeroValue31 rfl rfl (fun b4 => ?_)
 refine Tr.storeW rfl rfl Tryz.sizeOf31 (by repeat constructor) (by rfl) (by rfl) (by first | exact List.all_eq_true.1 rfl | exact Enc.one _ _ | (intro u hu; simp [Value.cells] at hu; simp_all [Value.oneCell'])) rfl ?_
 refine Tr.q (QS.assign rfl) rfl ?_
 refine Tr.nil (Tr.thenN (Tr.seq (Tr.region ?_)))
 refine Tr.q (QS.move rfl) rfl ?_
 refine Tr.q (QS.eql rfl rfl) rfl ?_
 refine Tr.q (QS.move rfl) rfl ?_
 apply Tr.andP
 ·exact (rfl : _ = (5, 15, 20))
 ·exact rfl
 ·intro hT5; have hT5' := hT5
  try simp only [bs] at hT5'
  refine Tr.gq rfl rfl hT5 (QS.fieldAddr (off := 0) (ft := 29) rfl Tryz.underlying31 rfl rfl Tryz.sizeOf29 (by decide)) rfl ?_
  refine Tr.gq rfl rfl hT5 (QS.lV rfl Tryz.isAgg29) rfl ?_
  refine Tr.gq rfl rfl hT5 (QS.lenRow rfl (by repeat constructor) Tryz.underlying29) rfl ?_
  refine Tr.gq rfl rfl hT5 (QS.eql rfl rfl) rfl ?_
  refine Tr.q (QS.pickT rfl hT5 rfl) rfl ?_
  refine Tr.nil (Tr.thenN ?_)
  exact Tr.endX (Sub.cons rfl (Sub.dropN 5 (by kernel_rfl) rfl))
 ·intro hF5
  refine Tr.gskip rfl rfl hF5 rfl ?_
  refine Tr.gskip rfl rfl hF5 rfl ?_
  refine Tr.gskip rfl rfl hF5 rfl ?_
  refine Tr.gskip rfl rfl hF5 rfl ?_
  refine Tr.q (QS.pickF rfl hF5 rfl) rfl ?_
  refine Tr.nil (Tr.thenN ?_)
  exact Tr.endX (Sub.cons rfl (Sub.dropN 5 (by kernel_rfl) rfl))
 refine Tr.q (QS.move rfl) rfl ?_
 apply Tr.andP
 ·exact (rfl : _ = (7, 21, 28))
 ·exact rfl
 ·intro hT6; have hT6' := hT6
  try simp only [bs] at hT6'
  refine Tr.gq rfl rfl hT6 (QS.fieldAddr (off := 0) (ft := 29) rfl Tryz.underlying31 rfl rfl Tryz.sizeOf29 (by decide)) rfl ?_
  refine Tr.gq rfl rfl hT6 (QS.lV rfl Tryz.isAgg29) rfl ?_
  refine Tr.gq rfl rfl hT6 (QS.idxRow rfl rfl (by repeat constructor) Tryz.underlying29 Tryz.sizeOf46 (by rfl) (by omega)) rfl ?_
  refine Tr.gq rfl rfl hT6 (QS.elRA rfl (by repeat constructor) Tryz.isAgg46 Tryz.sizeOf46 (by rfl) (by omega)) rfl ?_
  refine Tr.gq rfl rfl hT6 (QS.build (vs := [(0, _), (1, _), (2, _), (8, _)]) (cs := (encIns.enc (⟨4099, 4106, 23, 0, 0, 0, 0, 0, 5⟩ : Ins)).toArray) rfl rfl (by kernel_rfl)) rfl ?_
  refine Tr.gq rfl rfl hT6 (QS.eqlE rfl rfl insEqEnc Tryz.underlying46 (HLF.words46 _ Tryz.underlying46) rfl HLF.held46 HLF.eqg46) rfl ?_
  refine Tr.q (QS.pickT rfl hT6 rfl) rfl ?_
  refine Tr.nil (Tr.thenN ?_)
  exact Tr.endX (Sub.cons rfl (Sub.dropN 7 (by kernel_rfl) rfl))
 ·intro hF6
  refine Tr.gskip rfl rfl hF6 rfl ?_
  refine Tr.gskip rfl rfl hF6 rfl ?_
  refine Tr.gskip rfl rfl hF6 rfl ?_
  refine Tr.gskip rfl rfl hF6 rfl ?_
  refine Tr.gskip rfl rfl hF6 rfl ?_
  refine Tr.gskip rfl rfl hF6 rfl ?_
  refine Tr.q (QS.pickF rfl hF6 rfl) rfl ?_
  refine Tr.nil (Tr.thenN ?_)
  exact Tr.endX (Sub.cons rfl (Sub.dropN 7 (by kernel_rfl) rfl))
 refine Tr.q (QS.move rfl) rfl ?_
 apply Tr.andP
 ·exact (rfl : _ = (7, 29, 36))
 ·exact rfl
 ·intro hT7; have hT7' := hT7
  try simp only [bs] at hT7'
  refine Tr.gq rfl rfl hT7 (QS.fieldAddr (off := 0) (ft := 29) rfl Tryz.underlying31 rfl rfl Tryz.sizeOf29 (by decide)) rfl ?_
  refine Tr.gq rfl rfl hT7 (QS.lV rfl Tryz.isAgg29) rfl ?_
  refine Tr.gq rfl rfl hT7 (QS.idxRow rfl rfl (by repeat constructor) Tryz.underlying29 Tryz.sizeOf46 (by rfl) (by omega)) rfl ?_
  refine Tr.gq rfl rfl hT7 (QS.fieldAddr (off := 0) (ft := 40) rfl Tryz.underlying46 rfl rfl Tryz.sizeOf40 (by decide)) rfl ?_
  refine Tr.gq rfl rfl hT7 (QS.elRF rfl (by repeat constructor) Tryz.isAgg40 (by omega) (by rfl)) rfl ?_
  refine Tr.gq rfl rfl hT7 (QS.eql32 (n := 4106) rfl rfl) rfl ?_
  refine Tr.q (QS.pickT rfl hT7 rfl) rfl ?_
  refine Tr.nil (Tr.thenN ?_)
  exact Tr.endX (Sub.cons rfl (Sub.dropN 7 (by kernel_rfl) rfl))
 ·intro hF7
  refine Tr.gskip rfl rfl hF7 rfl ?_
  refine Tr.gskip rfl rfl hF7 rfl ?_
  refine Tr.gskip rfl rfl hF7 rfl ?_
  refine Tr.gskip rfl rfl hF7 rfl ?_
  refine Tr.gskip rfl rfl hF7 rfl ?_
  refine Tr.gskip rfl rfl hF7 rfl ?_
  refine Tr.q (QS.pickF rfl hF7 rfl) rfl ?_
  refine Tr.nil (Tr.thenN ?_)
  exact Tr.endX (Sub.cons rfl (Sub.dropN 7 (by kernel_rfl) rfl))
 refine Tr.q (QS.move rfl) rfl ?_
 apply Tr.andP
 ·exact (rfl : _ = (5, 37, 42))
 ·exact rfl
 ·intro hT8; have hT8' := hT8
  try simp only [bs] at hT8'
  refine Tr.gq rfl rfl hT8 (QS.fieldAddr (off := 1) (ft := 23) rfl Tryz.underlying31 rfl rfl Tryz.sizeOf23 (by decide)) rfl ?_
  refine Tr.gq rfl rfl hT8 (QS.lV rfl Tryz.isAgg23) rfl ?_
  refine Tr.gq rfl rfl hT8 (QS.lenRow rfl (by repeat constructor) Tryz.underlying23) rfl ?_
  refine Tr.gq rfl rfl hT8 (QS.eql rfl rfl) rfl ?_
  refine Tr.q (QS.pickT rfl hT8 rfl) rfl ?_
  refine Tr.nil (Tr.thenN ?_)
  exact Tr.endX (Sub.cons rfl (Sub.dropN 5 (by kernel_rfl) rfl))
 ·intro hF8
  refine Tr.gskip rfl rfl hF8 rfl ?_
  refine Tr.gskip rfl rfl hF8 rfl ?_
  refine Tr.gskip rfl rfl hF8 rfl ?_
  refine Tr.gskip rfl rfl hF8 rfl ?_
  refine Tr.q (QS.pickF rfl hF8 rfl) rfl ?_
  refine Tr.nil (Tr.thenN ?_)
  exact Tr.endX (Sub.cons rfl (Sub.dropN 5 (by kernel_rfl) rfl))
 refine Tr.q (QS.move rfl) rfl ?_
 apply Tr.andP
 ·exact (rfl : _ = (6, 43, 49))
 ·exact rfl
 ·intro hT9; have hT9' := hT9
  try simp only [bs] at hT9'
  refine Tr.gq rfl rfl hT9 (QS.fieldAddr (off := 1) (ft := 23) rfl Tryz.underlying31 rfl rfl Tryz.sizeOf23 (by decide)) rfl ?_
  refine Tr.gq rfl rfl hT9 (QS.lV rfl Tryz.isAgg23) rfl ?_
  refine Tr.gq rfl rfl hT9 (QS.idxRow rfl rfl (by repeat constructor) Tryz.underlying23 Tryz.sizeOf40 (by rfl) (by omega)) rfl ?_
  refine Tr.gq rfl rfl hT9 (QS.elR1 rfl (by repeat constructor) Tryz.isAgg40 (by omega) (by rfl)) rfl ?_
  refine Tr.gq rfl rfl hT9 (QS.eql32 (n := 4096) rfl rfl) rfl ?_
  refine Tr.q (QS.pickT rfl hT9 rfl) rfl ?_
  refine Tr.nil (Tr.thenN ?_)
  exact Tr.endX (Sub.cons rfl (Sub.dropN 6 (by kernel_rfl) rfl))
 ·intro hF9
  refine Tr.gskip rfl rfl hF9 rfl ?_
  refine Tr.gskip rfl rfl hF9 rfl ?_
  refine Tr.gskip rfl rfl hF9 rfl ?_
  refine Tr.gskip rfl rfl hF9 rfl ?_
  refine Tr.gskip rfl rfl hF9 rfl ?_
  refine Tr.q (QS.pickF rfl hF9 rfl) rfl ?_
  refine Tr.nil (Tr.thenN ?_)
  exact Tr.endX (Sub.cons rfl (Sub.dropN 6 (by kernel_rfl) rfl))
 refine Tr.q (QS.move rfl) rfl ?_
 apply Tr.andP
 ·exact (rfl : _ = (6, 50, 56))
 ·exact rfl
 ·intro hT10; have hT10' := hT10
  try simp only [bs] at hT10'
  refine Tr.gq rfl rfl hT10 (QS.fieldAddr (off := 1) (ft := 23) rfl Tryz.underlying31 rfl rfl Tryz.sizeOf23 (by decide)) rfl ?_
  refine Tr.gq rfl rfl hT10 (QS.lV rfl Tryz.isAgg23) rfl ?_
  refine Tr.gq rfl rfl hT10 (QS.idxRow rfl rfl (by repeat constructor) Tryz.underlying23 Tryz.sizeOf40 (by rfl) (by omega)) rfl ?_
  refine Tr.gq rfl rfl hT10 (QS.elR1 rfl (by repeat constructor) Tryz.isAgg40 (by omega) (by rfl)) rfl ?_
  refine Tr.gq rfl rfl hT10 (QS.eql32 (n := 4106) rfl rfl) rfl ?_
  refine Tr.q (QS.pickT rfl hT10 rfl) rfl ?_
  refine Tr.nil (Tr.thenN ?_)
  exact Tr.endX (Sub.cons rfl (Sub.dropN 6 (by kernel_rfl) rfl))
 ·intro hF10
  refine Tr.gskip rfl rfl hF10 rfl ?_
  refine Tr.gskip rfl rfl hF10 rfl ?_
  refine Tr.gskip rfl rfl hF10 rfl ?_
  refine Tr.gskip rfl rfl hF10 rfl ?_
  refine Tr.gskip rfl rfl hF10 rfl ?_
  refine Tr.q (QS.pickF rfl hF10 rfl) rfl ?_
  refine Tr.nil (Tr.thenN ?_)
  exact Tr.endX (Sub.cons rfl (Sub.dropN 6 (by kernel_rfl) rfl))
 refine Tr.q (QS.move rfl) rfl ?_
 apply Tr.andP
 ·exact (rfl : _ = (9, 57, 66))
 ·exact rfl
 ·intro hT11; have hT11' := hT11
  try simp only [bs] at hT11'
  refine Tr.gq rfl rfl hT11 (QS.fieldAddr (off := 2) (ft := 23) rfl Tryz.underlying31 rfl rfl Tryz.sizeOf23 (by decide)) rfl ?_
  refine Tr.gq rfl rfl hT11 (QS.lV rfl Tryz.isAgg23) rfl ?_
  refine Tr.gq rfl rfl hT11 (QS.lenRow rfl (by repeat constructor) Tryz.underlying23) rfl ?_
  refine Tr.gq rfl rfl hT11 (QS.fieldAddr (off := 3) (ft := 23) rfl Tryz.underlying31 rfl rfl Tryz.sizeOf23 (by decide)) rfl ?_
  refine Tr.gq rfl rfl hT11 (QS.lV rfl Tryz.isAgg23) rfl ?_
  refine Tr.gq rfl rfl hT11 (QS.lenRow rfl (by repeat constructor) Tryz.underlying23) rfl ?_
  refine Tr.gq rfl rfl hT11 (QS.add rfl rfl) rfl ?_
  refine Tr.gq rfl rfl hT11 (QS.eql rfl rfl) rfl ?_
  refine Tr.q (QS.pickT rfl hT11 rfl) rfl ?_
  refine Tr.nil (Tr.thenN ?_)
  exact Tr.endX (Sub.cons rfl (Sub.dropN 9 (by kernel_rfl) rfl))
 ·intro hF11
  refine Tr.gskip rfl rfl hF11 rfl ?_
  refine Tr.gskip rfl rfl hF11 rfl ?_
  refine Tr.gskip rfl rfl hF11 rfl ?_
  refine Tr.gskip rfl rfl hF11 rfl ?_
  refine Tr.gskip rfl rfl hF11 rfl ?_
  refine Tr.gskip rfl rfl hF11 rfl ?_
  refine Tr.gskip rfl rfl hF11 rfl ?_
  refine Tr.gskip rfl rfl hF11 rfl ?_
  refine Tr.q (QS.pickF rfl hF11 rfl) rfl ?_
  refine Tr.nil (Tr.thenN ?_)
  exact Tr.endX (Sub.cons rfl (Sub.dropN 9 (by kernel_rfl) rfl))
 refine Tr.q (QS.move rfl) rfl ?_
 apply Tr.andP
 ·exact (rfl : _ = (3, 67, 70))
 ·exact rfl
 ·intro hT12; have hT12' := hT12
  try simp only [bs] at hT12'
  refine Tr.gq rfl rfl hT12 (QS.lW rfl Tryz.isAgg31 Tryz.sizeOf31) rfl ?_
  refine Tr.gq rfl rfl hT12 (QS.call rfl Tryz.call11 (fun w hw => dreach_any exI 4104 _ _ _ _ w (hw.row (by repeat constructor)))) rfl ?_
  refine Tr.q (QS.pickT rfl hT12 rfl) rfl ?_
  refine Tr.nil (Tr.thenN ?_)
  exact Tr.endX (Sub.cons rfl (Sub.dropN 3 (by kernel_rfl) rfl))
 ·intro hF12
  refine Tr.gskip rfl rfl hF12 rfl ?_
  refine Tr.gskip rfl rfl hF12 rfl ?_
  refine Tr.q (QS.pickF rfl hF12 rfl) rfl ?_
  refine Tr.nil (Tr.thenN ?_)
  exact Tr.endX (Sub.cons rfl (Sub.dropN 3 (by kernel_rfl) rfl))
 refine Tr.q (QS.move rfl) rfl ?_
 apply Tr.andP
 ·exact (rfl : _ = (4, 71, 75))
 ·exact rfl
 ·intro hT13; have hT13' := hT13
  try simp only [bs] at hT13'
  refine Tr.gq rfl rfl hT13 (QS.lW rfl Tryz.isAgg31 Tryz.sizeOf31) rfl ?_
  refine Tr.gq rfl rfl hT13 (QS.call rfl Tryz.call11 (fun w hw => dreach_any exI 4098 _ _ _ _ w (hw.row (by repeat constructor)))) rfl ?_
  refine Tr.gq rfl rfl hT13 (QS.not rfl) rfl ?_
  refine Tr.q (QS.pickT rfl hT13 rfl) rfl ?_
  refine Tr.nil (Tr.thenN ?_)
  exact Tr.endX (Sub.cons rfl (Sub.dropN 4 (by kernel_rfl) rfl))
 ·intro hF13
  refine Tr.gskip rfl rfl hF13 rfl ?_
  refine Tr.gskip rfl rfl hF13 rfl ?_
  refine Tr.gskip rfl rfl hF13 rfl ?_
  refine Tr.q (QS.pickF rfl hF13 rfl) rfl ?_
  refine Tr.nil (Tr.thenN ?_)
  exact Tr.endX (Sub.cons rfl (Sub.dropN 4 (by kernel_rfl) rfl))
 refine Tr.q (QS.assign rfl) rfl ?_
 refine Tr.nil (Tr.thenN (Tr.ret ?_))
 refine Tr.ret1 Tryz.results5 rfl (fun w' hw => ?_)
 exact ⟨by first | rfl | (simp; decide), hw.below0 (hF1.trans (hF2.trans hF3))⟩
end Go.Proofs.YtnmaokalpbnmaaaGreat
namespace Go.HL
open Go Go.Deep Go.ChangeShapes Go.WideShapes
section
variable {H : Type} {enc : TypeId × Value → H} {P : Program} {w : World} {base : Nat} {spare : Nat → Bool} {held : Bool}
theorem sl_of_trod {α : Type} [Inhabited α] {E : Enc α} {R : α → Prop} {t e : TypeId} {fuel : Nat} {V : Value} {x : DataW H × List MemPlace} (ht : P.underlying t = some (.slice e)) (hc : P.cellsOf e = E.k) (hk : 0 < E.k)
    (hf : ∀ n cs y, cs.length = E.k → DataW.trod enc P w base spare held n e cs = some y → ∃ a : α, cs = E.enc a ∧ R a)
    (h : DataW.trod enc P w base spare held fuel t [V] = some x) : ∃ l : List α, Sl (hp w) E l V ∧ ∀ a ∈ l, R a := by
  rcases open_slice ht h with ⟨h0, _⟩ | ⟨a, len, cap, m, n, D, Pl, hv, hb, hl, hm, hmm, _, hx⟩
  · simp only [List.cons.injEq, and_true] at h0
    subst h0
    exact ⟨[], Sl.nil _ _, by simp⟩
  · simp only [List.cons.injEq, and_true] at hv
    subst hv
    have hlm : len ≤ m := by rw [hmm]; split <;> omega
    have each : ∀ i, i < len → ∃ q : α, w.cells? base (a.add (i * E.k)) E.k = some (E.enc q) ∧ R q := fun i hi => by
      obtain ⟨cs', h1, h2⟩ := hx i (by omega)
      rw [hc] at h1
      obtain ⟨q, rfl, hq⟩ := hf n cs' _ (World.cells?_some h1).2.1 h2
      exact ⟨q, h1, hq⟩
    obtain ⟨f, hfn⟩ := choose_lt each
    have hsp : 0 < len → a = ⟨a.block, a.off, none⟩ := fun hl0 => by
      have h1 := (World.cells?_some (hfn 0 hl0).1).2.2 0 hk
      have hlen : 0 < (E.enc (f 0)).length := by rw [E.len]; exact hk
      rw [List.getElem?_eq_getElem hlen] at h1
      have hsp := World.cell?_spot h1
      obtain ⟨b, o, sp⟩ := a
      have : sp = none := by simpa [Addr.add] using hsp
      subst this
      rfl
    refine ⟨(List.range len).map f, ⟨⟨some a, cap, by simp, by simpa using hl, hm, fun hne => ?_⟩, fun i q hq => ?_⟩, fun q hq => ?_⟩
    · have hl0 : 0 < len := by
        rcases Nat.eq_zero_or_pos len with h | h
        · subst h; simp at hne
        · exact h
      rw [hsp hl0]; rfl
    · have hi : i < len := by
        have := (List.getElem?_eq_some_iff.1 hq).1
        simpa using this
      have hq' : f i = q := by simpa [hi] using hq
      subst hq'
      have ha := hsp (by omega)
      obtain ⟨b, o, sp⟩ := a
      obtain rfl : sp = none := by simpa using ha
      have hc' := (World.cells?_some (hfn i hi).1).2.2
      have hlen : (E.enc (f i)).length = E.k := E.len _
      have eA : ∀ j, (((⟨b, o, none⟩ : Addr).add (i * E.k)).add j) = ⟨b, o + i * E.k + j, none⟩ := fun j => by
        rw [Go.Deep.add_add]; simp only [Addr.add]
        by_cases h0 : i * E.k + j = 0
        · rw [if_pos h0]
          have : i * E.k = 0 := by omega
          have : j = 0 := by omega
          simp_all
        · rw [if_neg h0, Nat.add_assoc]
      have h1 := hc' 0 hk
      rw [List.getElem?_eq_getElem (by omega), eA] at h1
      have hb1 : ∃ cs T fz, w.heap[b]? = some (.cells cs T fz) := by
        unfold World.cell? at h1
        split at h1
        · rename_i cs T fz hh; exact ⟨cs, T, fz, hh⟩
        · simp at h1
      obtain ⟨cs, T, fz, hh⟩ := hb1
      refine ⟨cs, T, fz, hh, fun j v hj => ?_⟩
      have hjk : j < E.k := by have := (List.getElem?_eq_some_iff.1 hj).1; omega
      have h2 := hc' j hjk
      rw [hj, eA] at h2
      unfold World.cell? at h2
      simp only [hh] at h2
      simp only [ofs]
      simpa using h2
    · obtain ⟨i, hi, rfl⟩ := List.mem_map.1 hq
      exact (hfn i (List.mem_range.1 hi)).2
theorem u8_of_wf {n : Int} (h : (Lit.int .u8 n).wf = true) : ∃ x : UInt8, n = (x.toNat : Int) := by
  have := bounds_u8 h
  refine ⟨UInt8.ofNat n.toNat, ?_⟩
  rw [UInt8.toNat_ofNat']; omega
theorem u32_of_wf {n : Int} (h : (Lit.int .u32 n).wf = true) : ∃ x : UInt32, n = (x.toNat : Int) := by
  have := bounds_u32 h
  refine ⟨UInt32.ofNat n.toNat, ?_⟩
  rw [UInt32.toNat_ofNat']; omega
theorem flat_u8 {e : TypeId} (he : P.underlying e = some (.int .u8)) {n : Nat} {cs : List Value} {y : DataW H × List MemPlace} (h : DataW.trod enc P w base spare held n e cs = some y) : ∃ a, cs = encU8.enc a ∧ True := by
  obtain ⟨z, rfl, _, hw⟩ := DataW.trod_int he h
  obtain ⟨x, rfl⟩ := u8_of_wf hw
  exact ⟨x, rfl, trivial⟩
end
end Go.HL
namespace Go.HL
open Go Go.Deep Go.ChangeShapes Go.WideShapes
section
variable {H : Type} {enc : TypeId × Value → H} {P : Program} {w : World} {base : Nat} {spare : Nat → Bool} {held : Bool}
theorem agg_of {cs : Array Value} {l : List Value} (h : (Value.agg cs).cells.toList = l) : cs = l.toArray := by
  subst h; simp [Value.cells]
end
end Go.HL
namespace Go.HL
open Go Go.Deep Go.ChangeShapes Go.WideShapes
section
variable {H : Type} {enc : TypeId × Value → H} {P : Program} {w : World} {base : Nat} {spare : Nat → Bool} {held : Bool}
theorem flat_u32 {e : TypeId} (he : P.underlying e = some (.int .u32)) {n : Nat} {cs : List Value} {y : DataW H × List MemPlace} (h : DataW.trod enc P w base spare held n e cs = some y) : ∃ a, cs = encU32.enc a ∧ True := by
  obtain ⟨z, rfl, _, hw⟩ := DataW.trod_int he h
  obtain ⟨x, rfl⟩ := u32_of_wf hw
  exact ⟨x, rfl, trivial⟩
end
end Go.HL
namespace Go.HL
open Go Go.Deep Go.ChangeShapes Go.WideShapes
section
variable {H : Type} {enc : TypeId × Value → H} {P : Program} {w : World} {base : Nat} {spare : Nat → Bool} {held : Bool}
/-- No slice and no text in it is beyond what the form reaches. -/
def Light (P : Program) (t : TypeId) (d : DataW H) : Prop := ∀ n ∈ d.weights P t, n ≤ reachBytes
theorem weightsAll_mem {P : Program} {e : TypeId} : ∀ {l : List (DataW H)} {d : DataW H}, d ∈ l → ∀ n ∈ d.weights P e, n ∈ DataW.weightsAll P e l
  | x :: l, d, h, n, hn => by
    simp only [DataW.weightsAll, List.mem_append]
    rcases List.mem_cons.1 h with rfl | h
    · exact .inl hn
    · exact .inr (weightsAll_mem h n hn)
theorem sl_of_trodW {α : Type} [Inhabited α] {E : Enc α} {R : α → Prop} {t e : TypeId} {fuel : Nat} {V : Value} {x : DataW H × List MemPlace} (ht : P.underlying t = some (.slice e)) (hc : P.cellsOf e = E.k) (hk : 0 < E.k) (hL : Light P t x.1)
    (hf : ∀ n cs y, cs.length = E.k → DataW.trod enc P w base spare held n e cs = some y → Light P e y.1 → ∃ a : α, cs = E.enc a ∧ R a)
    (h : DataW.trod enc P w base spare held fuel t [V] = some x) : ∃ l : List α, Sl (hp w) E l V ∧ (∀ a ∈ l, R a) ∧ l.length * P.bytesOf e ≤ reachBytes := by
  rcases open_slice ht h with ⟨h0, _⟩ | ⟨a, len, cap, m, n, D, Pl, hv, hb, hl, hm, hmm, hxx, hx⟩
  · simp only [List.cons.injEq, and_true] at h0
    subst h0
    exact ⟨[], Sl.nil _ _, by simp, by simp⟩
  · simp only [List.cons.injEq, and_true] at hv
    subst hv
    subst hxx
    have hlm : len ≤ m := by rw [hmm]; split <;> omega
    have hw : DataW.weights P t (.slice ((List.range len).map D) ((List.range (m - len)).map fun j => D (len + j))) = (((List.range len).map D).length + ((List.range (m - len)).map fun j => D (len + j)).length) * P.bytesOf e :: (DataW.weightsAll P e ((List.range len).map D) ++ DataW.weightsAll P e ((List.range (m - len)).map fun j => D (len + j))) := by
      simp only [DataW.weights, ht]
    have each : ∀ i, i < len → ∃ q : α, w.cells? base (a.add (i * E.k)) E.k = some (E.enc q) ∧ R q := fun i hi => by
      obtain ⟨cs', h1, h2⟩ := hx i (by omega)
      rw [hc] at h1
      obtain ⟨q, rfl, hq⟩ := hf n cs' _ (World.cells?_some h1).2.1 h2 (fun z hz => hL z (by
        rw [hw]
        exact .tail _ (List.mem_append.2 (.inl (weightsAll_mem (List.mem_map.2 ⟨i, List.mem_range.2 hi, rfl⟩) z hz)))))
      exact ⟨q, h1, hq⟩
    obtain ⟨f, hfn⟩ := choose_lt each
    have hsp : 0 < len → a = ⟨a.block, a.off, none⟩ := fun hl0 => by
      have h1 := (World.cells?_some (hfn 0 hl0).1).2.2 0 hk
      have hlen : 0 < (E.enc (f 0)).length := by rw [E.len]; exact hk
      rw [List.getElem?_eq_getElem hlen] at h1
      have hsp := World.cell?_spot h1
      obtain ⟨b, o, sp⟩ := a
      have : sp = none := by simpa [Addr.add] using hsp
      subst this
      rfl
    refine ⟨(List.range len).map f, ⟨⟨some a, cap, by simp, by simpa using hl, hm, fun hne => ?_⟩, fun i q hq => ?_⟩, fun q hq => ?_, ?_⟩
    · have hl0 : 0 < len := by
        rcases Nat.eq_zero_or_pos len with h | h
        · subst h; simp at hne
        · exact h
      rw [hsp hl0]; rfl
    · have hi : i < len := by
        have := (List.getElem?_eq_some_iff.1 hq).1
        simpa using this
      have hq' : f i = q := by simpa [hi] using hq
      subst hq'
      have ha := hsp (by omega)
      obtain ⟨b, o, sp⟩ := a
      obtain rfl : sp = none := by simpa using ha
      have hc' := (World.cells?_some (hfn i hi).1).2.2
      have hlen : (E.enc (f i)).length = E.k := E.len _
      have eA : ∀ j, (((⟨b, o, none⟩ : Addr).add (i * E.k)).add j) = ⟨b, o + i * E.k + j, none⟩ := fun j => by
        rw [Go.Deep.add_add]; simp only [Addr.add]
        by_cases h0 : i * E.k + j = 0
        · rw [if_pos h0]
          have : i * E.k = 0 := by omega
          have : j = 0 := by omega
          simp_all
        · rw [if_neg h0, Nat.add_assoc]
      have h1 := hc' 0 hk
      rw [List.getElem?_eq_getElem (by omega), eA] at h1
      have hb1 : ∃ cs T fz, w.heap[b]? = some (.cells cs T fz) := by
        unfold World.cell? at h1
        split at h1
        · rename_i cs T fz hh; exact ⟨cs, T, fz, hh⟩
        · simp at h1
      obtain ⟨cs, T, fz, hh⟩ := hb1
      refine ⟨cs, T, fz, hh, fun j v hj => ?_⟩
      have hjk : j < E.k := by have := (List.getElem?_eq_some_iff.1 hj).1; omega
      have h2 := hc' j hjk
      rw [hj, eA] at h2
      unfold World.cell? at h2
      simp only [hh] at h2
      simp only [ofs]
      simpa using h2
    · obtain ⟨i, hi, rfl⟩ := List.mem_map.1 hq
      exact (hfn i (List.mem_range.1 hi)).2
    · have := hL _ (by rw [hw]; exact .head _)
      simp only [List.length_map, List.length_range] at this ⊢
      exact Nat.le_trans (Nat.mul_le_mul_right _ (by omega)) this
theorem flat_sec {e ts tu tb tB eu : TypeId} {f0 f1 f2 f3 f4 : Field} (he : P.underlying e = some (.struct #[f0, f1, f2, f3, f4]))
    (ho : [f0.offset, f1.offset, f2.offset, f3.offset, f4.offset] = [0, 1, 2, 3, 4]) (ht : [f0.type, f1.type, f2.type, f3.type, f4.type] = [ts, tu, tb, tB, tB])
    (c0 : P.cellsOf ts = 1) (c1 : P.cellsOf tu = 1) (c2 : P.cellsOf tb = 1) (c3 : P.cellsOf tB = 1) (us : P.underlying ts = some .string) (uu : P.underlying tu = some (.int .u32))
    (ub : P.underlying tb = some (.slice eu)) (ue : P.underlying eu = some (.int .u8)) (ce : P.cellsOf eu = 1) (be : P.bytesOf eu = 1) (uB : P.underlying tB = some .bool)
    {n : Nat} {cs : List Value} {y : DataW H × List MemPlace} (hl : cs.length = 5) (h : DataW.trod enc P w base spare held n e cs = some y) (hL : Light P e y.1) :
    ∃ s : SecV, cs = encSec.enc s ∧ Sl (hp w) encU8 s.data (.slice s.dp s.data.length s.dc) ∧ s.data.length ≤ reachBytes ∧ s.name.size ≤ reachBytes := by
  simp only [List.cons.injEq, and_true] at ho ht
  obtain ⟨o0, o1, o2, o3, o4⟩ := ho
  obtain ⟨t0, t1, t2, t3, t4⟩ := ht
  obtain ⟨xs, k, hk, hxy, _, hxl, hf⟩ := DataW.trod_struct he h
  match xs, hxl, cs, hl with
  | [y0, y1, y2, y3, y4], _, [v0, v1, v2, v3, v4], _ =>
    have g0 := hf 0 f0 rfl
    have g1 := hf 1 f1 rfl
    have g2 := hf 2 f2 rfl
    have g3 := hf 3 f3 rfl
    have g4 := hf 4 f4 rfl
    simp [o0, o1, o2, o3, o4, t0, t1, t2, t3, t4, c0, c1, c2, c3] at g0 g1 g2 g3 g4
    subst hxy
    have hw : ∀ j t d, [ts, tu, tb, tB, tB][j]? = some t → [y0.1, y1.1, y2.1, y3.1, y4.1][j]? = some d → Light P t d := fun j t d q1 q2 z hz => hL z (by
      simp only [DataW.weights, he, List.map_cons, List.map_nil, t0, t1, t2, t3, t4]
      exact DataW.weights_mem_each (j := j) q1 q2 z hz)
    have w0' := hw 0 ts y0.1 rfl rfl
    have w2' := hw 2 tb y2.1 rfl rfl
    obtain ⟨z0, e0, q0, w0⟩ := DataW.trod_string us g0
    obtain ⟨z1, e1, _, w1⟩ := DataW.trod_int uu g1
    obtain ⟨l, s2, _, hbl⟩ := sl_of_trodW (E := encU8) (R := fun _ => True) ub ce (by decide) w2' (fun n cs y _ hh _ => flat_u8 ue hh) g2
    obtain ⟨z3, e3, _⟩ := DataW.trod_bool uB g3
    obtain ⟨z4, e4, _⟩ := DataW.trod_bool uB g4
    obtain ⟨x1, rfl⟩ := u32_of_wf w1
    simp only [List.cons.injEq, and_true] at e0 e1 e3 e4
    subst e0; subst e1; subst e3; subst e4
    obtain ⟨a, c, hv, _⟩ := s2.shape
    subst hv
    refine ⟨⟨z0, x1, l, a, c, z3, z4⟩, rfl, s2, by rw [be, Nat.mul_one] at hbl; exact hbl, ?_⟩
    have := w0' z0.data.toList.length (by rw [q0]; simp [DataW.weights])
    rw [Array.length_toList] at this
    exact this
end
end Go.HL
namespace Go.HL
open Go Go.Deep Go.ChangeShapes Go.WideShapes
section
variable {H : Type} {enc : TypeId × Value → H} {P : Program} {w : World} {base : Nat} {spare : Nat → Bool} {held : Bool}
theorem flat_tab {e eu : TypeId} (he : P.underlying e = some (.slice eu)) (ue : P.underlying eu = some (.int .u32)) (cu : P.cellsOf eu = 1)
    {n : Nat} {cs : List Value} {y : DataW H × List MemPlace} (hl : cs.length = 1) (h : DataW.trod enc P w base spare held n e cs = some y) :
    ∃ t : TabV, cs = encTab.enc t ∧ Sl (hp w) encU32 t.data (.slice t.dp t.data.length t.dc) := by
  match cs, hl with
  | [V], _ =>
    obtain ⟨l, s, _⟩ := sl_of_trod (E := encU32) (R := fun _ => True) he cu (by decide) (fun n cs y _ hh => flat_u32 ue hh) h
    obtain ⟨a, c, hv, _⟩ := s.shape
    subst hv
    exact ⟨⟨l, a, c⟩, rfl, s⟩
theorem flat_prog {e tl tu tt el et eu : TypeId} {f0 f1 f2 f3 : Field} (he : P.underlying e = some (.struct #[f0, f1, f2, f3]))
    (ho : [f0.offset, f1.offset, f2.offset, f3.offset] = [0, 1, 2, 3]) (ht : [f0.type, f1.type, f2.type, f3.type] = [tl, tu, tt, tu])
    (c0 : P.cellsOf tl = 1) (c1 : P.cellsOf tu = 1) (c2 : P.cellsOf tt = 1) (ul : P.underlying tl = some (.slice el)) (uu : P.underlying tu = some (.slice eu)) (ut : P.underlying tt = some (.slice et)) (uet : P.underlying et = some (.slice eu)) (ue : P.underlying eu = some (.int .u32))
    (cl : P.cellsOf el = 5) (cet : P.cellsOf et = 1) (cu : P.cellsOf eu = 1)
    (hfs : ∀ n cs (y : DataW H × List MemPlace), cs.length = 5 → DataW.trod enc P w base spare held n el cs = some y → Light P el y.1 → ∃ s : SecV, cs = encSec.enc s ∧ Sl (hp w) encU8 s.data (.slice s.dp s.data.length s.dc) ∧ s.data.length ≤ reachBytes ∧ s.name.size ≤ reachBytes)
    {n : Nat} {cs : List Value} {y : DataW H × List MemPlace} (hl : cs.length = 4) (h : DataW.trod enc P w base spare held n e cs = some y) (hL : Light P e y.1) :
    ∃ (l : List SecV) (es : List UInt32) (ts : List TabV) (at_ : List UInt32) (V VE VT VP : Value), cs = [V, VE, VT, VP] ∧ Sl (hp w) encSec l V ∧ Sl (hp w) encU32 es VE ∧ Sl (hp w) encTab ts VT ∧ Sl (hp w) encU32 at_ VP ∧ DataIn (hp w) l ∧ TabIn (hp w) ts ∧ ∀ s ∈ l, s.name.size ≤ 140737488351232 := by
  simp only [List.cons.injEq, and_true] at ho ht
  obtain ⟨o0, o1, o2, o3⟩ := ho
  obtain ⟨t0', t1', t2', t3'⟩ := ht
  obtain ⟨xs, k, hk, hxy, _, hxl, hf⟩ := DataW.trod_struct he h
  match xs, hxl, cs, hl with
  | [y0, y1, y2, y3], _, [v0, v1, v2, v3], _ =>
    have g0 := hf 0 f0 rfl
    have g1 := hf 1 f1 rfl
    have g2 := hf 2 f2 rfl
    have g3 := hf 3 f3 rfl
    simp [o0, o1, o2, o3, t0', t1', t2', t3', c0, c1, c2] at g0 g1 g2 g3
    subst hxy
    have hw : Light P tl y0.1 := fun z hz => hL z (by
      simp only [DataW.weights, he, List.map_cons, List.map_nil, t0', t1', t2', t3']
      exact DataW.weights_mem_each (j := 0) rfl rfl z hz)
    obtain ⟨l, s0, R0, _⟩ := sl_of_trodW (E := encSec) (R := fun s => Sl (hp w) encU8 s.data (.slice s.dp s.data.length s.dc) ∧ s.data.length ≤ reachBytes ∧ s.name.size ≤ reachBytes) ul cl (by decide) hw hfs g0
    obtain ⟨le, s1, _⟩ := sl_of_trod (E := encU32) (R := fun _ => True) uu cu (by decide) (fun n cs y _ hh => flat_u32 ue hh) g1
    obtain ⟨lt, s2, R2⟩ := sl_of_trod (E := encTab) (R := fun t => Sl (hp w) encU32 t.data (.slice t.dp t.data.length t.dc)) ut cet (by decide) (fun n cs y hl hh => flat_tab uet ue cu hl hh) g2
    obtain ⟨la, s3, _⟩ := sl_of_trod (E := encU32) (R := fun _ => True) uu cu (by decide) (fun n cs y _ hh => flat_u32 ue hh) g3
    exact ⟨l, le, lt, la, v0, v1, v2, v3, rfl, s0, s1, s2, s3, fun s hs => (R0 s hs).1, R2, fun s hs => (R0 s hs).2.2⟩
end
end Go.HL
namespace Go.HL
open Go
/-- Where the reference puts an instruction: behind the last one that is not above it. -/
def posB (l : List Ins) (a : UInt32) : Nat → Nat
  | 0 => 0
  | k + 1 => if a < (l.getD k default).addr then posB l a k else k + 1
def putI (l : List Ins) (i : Ins) : List Ins := l.take (posB l i.addr l.length) ++ [i] ++ l.drop (posB l i.addr l.length)
theorem posB_le (l : List Ins) (a : UInt32) : ∀ k, posB l a k ≤ k
  | 0 => Nat.le_refl _
  | k + 1 => by
    unfold posB
    split
    · have := posB_le l a k; omega
    · exact Nat.le_refl _
theorem posB_low (l : List Ins) (a : UInt32) : ∀ k, posB l a k = 0 ∨ ¬ a < (l.getD (posB l a k - 1) default).addr
  | 0 => .inl rfl
  | k + 1 => by
    unfold posB
    split
    · exact posB_low l a k
    · rename_i hh
      right; rw [Nat.add_sub_cancel]; exact hh
theorem posB_up (l : List Ins) (a : UInt32) : ∀ k j, posB l a k ≤ j → j < k → a < (l.getD j default).addr
  | 0, j, _, h => absurd h (Nat.not_lt_zero _)
  | k + 1, j, h1, h2 => by
    unfold posB at h1
    split at h1
    · rename_i hh
      by_cases e : j = k
      · subst e; exact hh
      · exact posB_up l a k j h1 (by omega)
    · omega
theorem posB_go {l : List Ins} {a : UInt32} {k : Nat} (h0 : 0 < k) (h : a < (l.getD ((k : Int) - 1).toNat default).addr) : posB l a k = posB l a (k - 1) := by
  obtain ⟨n, rfl⟩ : ∃ n, k = n + 1 := ⟨k - 1, by omega⟩
  rw [show (((n + 1 : Nat) : Int) - 1).toNat = n by omega] at h
  rw [posB, if_pos h]; rfl
theorem posB_stop {l : List Ins} {a : UInt32} {k : Nat} (h : k = 0 ∨ ¬ a < (l.getD ((k : Int) - 1).toNat default).addr) : posB l a k = k := by
  cases k with
  | zero => rfl
  | succ n =>
    rcases h with h | h
    · cases h
    · rw [show (((n + 1 : Nat) : Int) - 1).toNat = n by omega] at h
      rw [posB, if_neg h]
theorem putI_len (l : List Ins) (i : Ins) : (putI l i).length = l.length + 1 := by
  have := posB_le l i.addr l.length
  unfold putI
  simp only [List.length_append, List.length_take, List.length_drop, List.length_singleton]
  omega
theorem putI_map {f : UInt32 → Ins} {ks : List UInt32} (hk : ks.Pairwise (· < ·)) (hf : ∀ b ∈ ks, (f b).addr = b) {a : UInt32} (ha : (f a).addr = a) (hn : a ∉ ks) :
    ∃ ks' : List UInt32, ks'.Pairwise (· < ·) ∧ (∀ b, b ∈ ks' ↔ b ∈ ks ∨ b = a) ∧ putI (ks.map f) (f a) = ks'.map f := by
  obtain ⟨p, hp⟩ : ∃ p, p = posB (ks.map f) a (ks.map f).length := ⟨_, rfl⟩
  have hpl := posB_le (ks.map f) a (ks.map f).length
  have hlow := posB_low (ks.map f) a (ks.map f).length
  have hup := posB_up (ks.map f) a (ks.map f).length
  rw [← hp] at hpl hlow hup
  rw [List.length_map] at hpl hup
  have hget : ∀ j, (hj : j < ks.length) → ((ks.map f).getD j default).addr = ks[j] := fun j hj => by
    rw [List.getD_eq_getElem?_getD, List.getElem?_map, List.getElem?_eq_getElem hj]
    exact hf _ (List.getElem_mem hj)
  refine ⟨ks.take p ++ [a] ++ ks.drop p, ?_, fun b => ?_, ?_⟩
  · have hlt : ∀ b ∈ ks.take p, b < a := fun b hb => by
      obtain ⟨j, hj, rfl⟩ := List.mem_take_iff_getElem.1 hb
      have hq : p - 1 < ks.length := by omega
      have h1 : ¬ a < ks[p - 1] := by
        rcases hlow with h | h
        · omega
        · rw [hget _ hq] at h; exact h
      have h2 : ks[j] = ks[p - 1] ∨ ks[j] < ks[p - 1] := by
        by_cases e : j = p - 1
        · left; simp only [e]
        · right; exact List.pairwise_iff_getElem.1 hk j (p - 1) (by omega) hq (by omega)
      have h3 : ks[j] ≠ a := fun e => hn (e ▸ List.getElem_mem _)
      rw [Ne, ← UInt32.toNat_inj] at h3
      rw [UInt32.lt_iff_toNat_lt] at h1 ⊢
      rcases h2 with h2 | h2
      · rw [← UInt32.toNat_inj] at h2; omega
      · rw [UInt32.lt_iff_toNat_lt] at h2; omega
    have hgt : ∀ b ∈ ks.drop p, a < b := fun b hb => by
      obtain ⟨j, hj, rfl⟩ := List.mem_drop_iff_getElem.1 hb
      have := hup (p + j) (by omega) (by omega)
      rw [hget _ (by omega)] at this
      exact this
    refine List.pairwise_append.2 ⟨List.pairwise_append.2 ⟨hk.sublist (List.take_sublist _ _), List.pairwise_singleton _ _, fun x hx y hy => ?_⟩, hk.sublist (List.drop_sublist _ _), fun x hx y hy => ?_⟩
    · rw [List.mem_singleton.1 hy]; exact hlt x hx
    · rcases List.mem_append.1 hx with hx | hx
      · have h1 := hlt x hx
        have h2 := hgt y hy
        rw [UInt32.lt_iff_toNat_lt] at *; omega
      · rw [List.mem_singleton.1 hx]; exact hgt y hy
  · rw [List.mem_append, List.mem_append, List.mem_singleton]
    constructor
    · rintro ((h | h) | h)
      · exact .inl (List.mem_of_mem_take h)
      · exact .inr h
      · exact .inl (List.mem_of_mem_drop h)
    · rintro (h | h)
      · rw [← List.take_append_drop p ks] at h
        rcases List.mem_append.1 h with h | h
        · exact .inl (.inl h)
        · exact .inr h
      · exact .inl (.inr h)
  · unfold putI
    rw [ha, ← hp, ← List.map_take, ← List.map_drop, List.map_append, List.map_append]
    rfl
theorem ltU_lt {l : List UInt32} : l.Pairwise (fun a b => ltU a b = true) ↔ l.Pairwise (· < ·) := by
  unfold ltU
  simp only [decide_eq_true_eq]
structure RInv (l : List SecV) (ts : List TabV) (at_ es : List UInt32) (k : Nat) (work : List UInt32) (ins : List Ins) (bad : List UInt32) : Prop where
  le : k ≤ work.length
  rest : ∀ a ∈ work, Reach l ts at_ es a
  start : ∀ a ∈ es, a ∈ work
  close : ∀ a ∈ work.take k, (atP l a).2 = true → ∀ b ∈ leadP ts at_ (atP l a).1, b ∈ work
  isI : ∃ ks : List UInt32, ks.Pairwise (· < ·) ∧ (∀ a, a ∈ ks ↔ a ∈ work.take k ∧ (atP l a).2 = true) ∧ ins = ks.map fun a => (atP l a).1
  isB : bad.Pairwise (fun a b => ltU a b = true) ∧ ∀ a, a ∈ bad ↔ a ∈ work.take k ∧ (atP l a).2 = false
  lWork : work.length ≤ es.length + 14 * ins.length
  lBad : bad.length ≤ k
section
variable {l : List SecV} {ts : List TabV} {at_ es : List UInt32} {k : Nat} {work : List UInt32} {ins : List Ins} {bad : List UInt32} {a : UInt32}
theorem RInv.begin : RInv l ts at_ es 0 es [] [] :=
  ⟨Nat.zero_le _, fun a h => .ent a h, fun a h => h, fun a h => by simp at h, ⟨[], List.Pairwise.nil, fun a => by simp, rfl⟩, ⟨List.Pairwise.nil, fun a => by simp⟩, by simp, Nat.le_refl _⟩
theorem mem_take_succ (hk : k < work.length) (ha : a = work.getD k default) (b : UInt32) : b ∈ work.take (k + 1) ↔ b ∈ work.take k ∨ b = a := by
  rw [take_succ hk, List.mem_append, List.mem_singleton, ha]
theorem RInv.skip (h : RInv l ts at_ es k work ins bad) (hk : k < work.length) (ha : a = work.getD k default) (hs : hasU (work.take k) a = true) : RInv l ts at_ es (k + 1) work ins bad := by
  have hm := hasU_iff.1 hs
  have he : ∀ b, b ∈ work.take (k + 1) ↔ b ∈ work.take k := fun b => by
    rw [mem_take_succ hk ha]
    exact ⟨fun q => q.elim id (fun e => e ▸ hm), .inl⟩
  obtain ⟨ks, k1, k2, k3⟩ := h.isI
  exact ⟨hk, h.rest, h.start, fun b hb => h.close b ((he b).1 hb), ⟨ks, k1, fun b => by rw [k2, he], k3⟩, ⟨h.isB.1, fun b => by rw [h.isB.2, he]⟩, h.lWork, by have := h.lBad; omega⟩
theorem RInv.isBad (h : RInv l ts at_ es k work ins bad) (hk : k < work.length) (ha : a = work.getD k default) (hf : (atP l a).2 = false) : RInv l ts at_ es (k + 1) work ins (insR ltU bad a) := by
  have he := mem_take_succ hk ha
  obtain ⟨ks, k1, k2, k3⟩ := h.isI
  refine ⟨hk, h.rest, h.start, fun b hb hb2 => ?_, ⟨ks, k1, fun b => ?_, k3⟩, ⟨insR_sorted lo_ltU h.isB.1, fun b => ?_⟩, h.lWork, ?_⟩
  · rcases (he b).1 hb with q | q
    · exact h.close b q hb2
    · rw [q, hf] at hb2; cases hb2
  · rw [k2, he]
    constructor
    · rintro ⟨h1, h2⟩; exact ⟨.inl h1, h2⟩
    · rintro ⟨h1 | h1, h2⟩
      · exact ⟨h1, h2⟩
      · rw [h1, hf] at h2; cases h2
  · rw [insR_mem, h.isB.2, he]
    constructor
    · rintro (⟨h1, h2⟩ | rfl)
      · exact ⟨.inl h1, h2⟩
      · exact ⟨.inr rfl, hf⟩
    · rintro ⟨h1 | h1, h2⟩
      · exact .inl ⟨h1, h2⟩
      · exact .inr h1
  · have := insR_len ltU bad a
    have := h.lBad
    omega
theorem RInv.found (hT : TabB ts) (h : RInv l ts at_ es k work ins bad) (hk : k < work.length) (ha : a = work.getD k default) (hs : hasU (work.take k) a = false) (hf : (atP l a).2 = true) :
    RInv l ts at_ es (k + 1) (work ++ leadP ts at_ (atP l a).1) (putI ins (atP l a).1) bad := by
  have he : ∀ b, b ∈ (work ++ leadP ts at_ (atP l a).1).take (k + 1) ↔ b ∈ work.take k ∨ b = a := fun b => by
    rw [List.take_append_of_le_length (by omega)]; exact mem_take_succ hk ha b
  have hn : a ∉ work.take k := fun q => by rw [hasU_iff.2 q] at hs; cases hs
  have hra : Reach l ts at_ es a := h.rest a (by rw [ha]; exact mem_getD hk)
  obtain ⟨ks, k1, k2, k3⟩ := h.isI
  obtain ⟨ks', q1, q2, q3⟩ := putI_map (f := fun a => (atP l a).1) k1 (fun b hb => (at_addr ((k2 b).1 hb).2).1) (at_addr hf).1 (fun q => hn ((k2 a).1 q).1)
  have hll := lead_len hT at_ (atP l a).1
  refine ⟨by rw [List.length_append]; omega, fun b hb => ?_, fun b hb => List.mem_append_left _ (h.start b hb), fun b hb hb2 c hc => ?_, ⟨ks', q1, fun b => ?_, by rw [k3]; exact q3⟩, ⟨h.isB.1, fun b => ?_⟩, ?_, by have := h.lBad; omega⟩
  · rcases List.mem_append.1 hb with q | q
    · exact h.rest b q
    · exact .step a b hra hf q
  · rcases (he b).1 hb with q | q
    · exact List.mem_append_left _ (h.close b q hb2 c hc)
    · rw [q] at hc; exact List.mem_append_right _ hc
  · rw [q2, k2, he]
    constructor
    · rintro (⟨h1, h2⟩ | rfl)
      · exact ⟨.inl h1, h2⟩
      · exact ⟨.inr rfl, hf⟩
    · rintro ⟨h1 | h1, h2⟩
      · exact .inl ⟨h1, h2⟩
      · exact .inr h1
  · rw [h.isB.2, he]
    constructor
    · rintro ⟨h1, h2⟩; exact ⟨.inl h1, h2⟩
    · rintro ⟨h1 | h1, h2⟩
      · exact ⟨h1, h2⟩
      · rw [h1, hf] at h2; cases h2
  · have := h.lWork
    rw [List.length_append, putI_len]; omega
theorem RInv.count (h : RInv l ts at_ es k work ins bad) : ins.length ≤ totD l := by
  obtain ⟨ks, k1, k2, k3⟩ := h.isI
  have := nodup_len (l := ks) (l' := spotL l) (lt_nodup k1) fun b hb => at_spot ((k2 b).1 hb).2
  rw [k3, List.length_map, ← spot_len]
  exact this
theorem RInv.all (h : RInv l ts at_ es k work ins bad) (hk : k = work.length) (b : UInt32) : b ∈ work ↔ Reach l ts at_ es b := by
  have hc := h.close
  rw [hk, List.take_length] at hc
  refine ⟨h.rest b, fun q => ?_⟩
  induction q with
  | ent a q => exact h.start a q
  | step b a _ q1 q2 ih => exact hc b ih q1 a q2
def entF (ins : List Ins) (xs e : List UInt32) : List UInt32 := xs.foldl (fun e a => if reachedP ins a = true then insR ltU e a else e) e
def entG (ts : List TabV) (at_ : List UInt32) (ins is : List Ins) (e : List UInt32) : List UInt32 := is.foldl (fun e i => entF ins (callP ts at_ i) e) e
def unkF (ts : List TabV) (at_ : List UInt32) (is : List Ins) (u : List UInt32) : List UInt32 := is.foldl (fun u i => if unkP ts at_ i = true then insR ltU u i.addr else u) u
theorem entF_snoc (ins : List Ins) (xs e : List UInt32) (x : UInt32) : entF ins (xs ++ [x]) e = if reachedP ins x = true then insR ltU (entF ins xs e) x else entF ins xs e := by simp [entF]
theorem entG_snoc (ins is : List Ins) (e : List UInt32) (i : Ins) : entG ts at_ ins (is ++ [i]) e = entF ins (callP ts at_ i) (entG ts at_ ins is e) := by simp [entG]
theorem unkF_snoc (is : List Ins) (u : List UInt32) (i : Ins) : unkF ts at_ (is ++ [i]) u = if unkP ts at_ i = true then insR ltU (unkF ts at_ is u) i.addr else unkF ts at_ is u := by simp [unkF]
theorem entF_yes {ins : List Ins} {xs e : List UInt32} {j : Nat} (hj : j < xs.length) (h : reachedP ins (xs.getD j default) = true) : insR ltU (entF ins (xs.take j) e) (xs.getD j default) = entF ins (xs.take (j + 1)) e := by
  rw [take_succ hj, entF_snoc, if_pos h]
theorem entF_no {ins : List Ins} {xs e : List UInt32} {j : Nat} (hj : j < xs.length) (h : ¬ reachedP ins (xs.getD j default) = true) : entF ins (xs.take j) e = entF ins (xs.take (j + 1)) e := by
  rw [take_succ hj, entF_snoc, if_neg h]
theorem entG_next {ins is : List Ins} {e : List UInt32} {j : Nat} (hj : j < is.length) : entF ins (callP ts at_ (is.getD j default)) (entG ts at_ ins (is.take j) e) = entG ts at_ ins (is.take (j + 1)) e := by
  rw [take_succ hj, entG_snoc]
theorem unkF_yes {is : List Ins} {u : List UInt32} {j : Nat} (hj : j < is.length) (h : unkP ts at_ (is.getD j default) = true) : insR ltU (unkF ts at_ (is.take j) u) (is.getD j default).addr = unkF ts at_ (is.take (j + 1)) u := by
  rw [take_succ hj, unkF_snoc, if_pos h]
theorem unkF_no {is : List Ins} {u : List UInt32} {j : Nat} (hj : j < is.length) (h : ¬ unkP ts at_ (is.getD j default) = true) : unkF ts at_ (is.take j) u = unkF ts at_ (is.take (j + 1)) u := by
  rw [take_succ hj, unkF_snoc, if_neg h]
theorem entF_ok (ins : List Ins) : ∀ (xs e : List UInt32), e.Pairwise (fun a b => ltU a b = true) →
    (entF ins xs e).Pairwise (fun a b => ltU a b = true) ∧ (∀ b, b ∈ entF ins xs e ↔ b ∈ e ∨ (b ∈ xs ∧ reachedP ins b = true))
  | [], e, h => ⟨h, fun b => by simp [entF]⟩
  | x :: xs, e, h => by
    have hs : entF ins (x :: xs) e = entF ins xs (if reachedP ins x = true then insR ltU e x else e) := rfl
    rw [hs]
    by_cases c : reachedP ins x = true
    · rw [if_pos c]
      obtain ⟨h1, h2⟩ := entF_ok ins xs (insR ltU e x) (insR_sorted lo_ltU h)
      refine ⟨h1, fun b => ?_⟩
      rw [h2, insR_mem, List.mem_cons]
      constructor
      · rintro ((q | q) | q)
        · exact .inl q
        · subst q; exact .inr ⟨.inl rfl, c⟩
        · exact .inr ⟨.inr q.1, q.2⟩
      · rintro (q | ⟨q | q, q2⟩)
        · exact .inl (.inl q)
        · exact .inl (.inr q)
        · exact .inr ⟨q, q2⟩
    · rw [if_neg c]
      obtain ⟨h1, h2⟩ := entF_ok ins xs e h
      refine ⟨h1, fun b => ?_⟩
      rw [h2, List.mem_cons]
      constructor
      · rintro (q | q)
        · exact .inl q
        · exact .inr ⟨.inr q.1, q.2⟩
      · rintro (q | ⟨q | q, q2⟩)
        · exact .inl q
        · subst q; exact absurd q2 c
        · exact .inr ⟨q, q2⟩
theorem entG_ok (ins : List Ins) : ∀ (is : List Ins) (e : List UInt32), e.Pairwise (fun a b => ltU a b = true) →
    (entG ts at_ ins is e).Pairwise (fun a b => ltU a b = true) ∧ (∀ b, b ∈ entG ts at_ ins is e ↔ b ∈ e ∨ ((∃ i ∈ is, b ∈ callP ts at_ i) ∧ reachedP ins b = true))
  | [], e, h => ⟨h, fun b => by simp [entG]⟩
  | x :: xs, e, h => by
    have hs : entG ts at_ ins (x :: xs) e = entG ts at_ ins xs (entF ins (callP ts at_ x) e) := rfl
    rw [hs]
    obtain ⟨g1, g2⟩ := entF_ok ins (callP ts at_ x) e h
    obtain ⟨h1, h2⟩ := entG_ok ins xs _ g1
    refine ⟨h1, fun b => ?_⟩
    rw [h2, g2]
    constructor
    · rintro ((q | q) | ⟨⟨i, q1, q2⟩, q3⟩)
      · exact .inl q
      · exact .inr ⟨⟨x, .head _, q.1⟩, q.2⟩
      · exact .inr ⟨⟨i, .tail _ q1, q2⟩, q3⟩
    · rintro (q | ⟨⟨i, q1, q2⟩, q3⟩)
      · exact .inl (.inl q)
      · rcases List.mem_cons.1 q1 with rfl | q1
        · exact .inl (.inr ⟨q2, q3⟩)
        · exact .inr ⟨⟨i, q1, q2⟩, q3⟩
theorem unkF_ok : ∀ (is : List Ins) (u : List UInt32), u.Pairwise (fun a b => ltU a b = true) →
    (unkF ts at_ is u).Pairwise (fun a b => ltU a b = true) ∧ (∀ b, b ∈ unkF ts at_ is u ↔ b ∈ u ∨ ∃ i ∈ is, unkP ts at_ i = true ∧ i.addr = b)
  | [], e, h => ⟨h, fun b => by simp [unkF]⟩
  | x :: xs, e, h => by
    have hs : unkF ts at_ (x :: xs) e = unkF ts at_ xs (if unkP ts at_ x = true then insR ltU e x.addr else e) := rfl
    rw [hs]
    by_cases c : unkP ts at_ x = true
    · rw [if_pos c]
      obtain ⟨h1, h2⟩ := unkF_ok xs (insR ltU e x.addr) (insR_sorted lo_ltU h)
      refine ⟨h1, fun b => ?_⟩
      rw [h2, insR_mem]
      constructor
      · rintro ((q | q) | ⟨i, q1, q2⟩)
        · exact .inl q
        · exact .inr ⟨x, .head _, c, q.symm⟩
        · exact .inr ⟨i, .tail _ q1, q2⟩
      · rintro (q | ⟨i, q1, q2⟩)
        · exact .inl (.inl q)
        · rcases List.mem_cons.1 q1 with rfl | q1
          · exact .inl (.inr q2.2.symm)
          · exact .inr ⟨i, q1, q2⟩
    · rw [if_neg c]
      obtain ⟨h1, h2⟩ := unkF_ok xs e h
      refine ⟨h1, fun b => ?_⟩
      rw [h2]
      constructor
      · rintro (q | ⟨i, q1, q2⟩)
        · exact .inl q
        · exact .inr ⟨i, .tail _ q1, q2⟩
      · rintro (q | ⟨i, q1, q2⟩)
        · exact .inl q
        · rcases List.mem_cons.1 q1 with rfl | q1
          · exact absurd q2.1 c
          · exact .inr ⟨i, q1, q2⟩
theorem entF_len (ins : List Ins) : ∀ (xs e : List UInt32), (entF ins xs e).length ≤ e.length + xs.length
  | [], e => Nat.le_refl _
  | x :: xs, e => by
    have hs : entF ins (x :: xs) e = entF ins xs (if reachedP ins x = true then insR ltU e x else e) := rfl
    rw [hs]
    have h1 := entF_len ins xs (if reachedP ins x = true then insR ltU e x else e)
    have h2 := insR_len ltU e x
    have : (if reachedP ins x = true then insR ltU e x else e).length ≤ e.length + 1 := by split <;> omega
    rw [List.length_cons]; omega
theorem call_len (hT : TabB ts) (i : Ins) : (callP ts at_ i).length ≤ 12 := by
  have := known_len hT at_ i.addr
  unfold callP
  split
  · simp
  · split
    · exact this
    · simp
theorem entG_len (hT : TabB ts) (ins : List Ins) : ∀ (is : List Ins) (e : List UInt32), (entG ts at_ ins is e).length ≤ e.length + 12 * is.length
  | [], e => Nat.le_refl _
  | x :: xs, e => by
    have hs : entG ts at_ ins (x :: xs) e = entG ts at_ ins xs (entF ins (callP ts at_ x) e) := rfl
    rw [hs]
    have h1 := entG_len hT ins xs (entF ins (callP ts at_ x) e)
    have h2 := entF_len ins (callP ts at_ x) e
    have h3 := call_len (at_ := at_) hT x
    rw [List.length_cons]; omega
theorem unkF_len : ∀ (is : List Ins) (u : List UInt32), (unkF ts at_ is u).length ≤ u.length + is.length
  | [], e => Nat.le_refl _
  | x :: xs, e => by
    have hs : unkF ts at_ (x :: xs) e = unkF ts at_ xs (if unkP ts at_ x = true then insR ltU e x.addr else e) := rfl
    rw [hs]
    have h1 := unkF_len xs (if unkP ts at_ x = true then insR ltU e x.addr else e)
    have h2 := insR_len ltU e x.addr
    have : (if unkP ts at_ x = true then insR ltU e x.addr else e).length ≤ e.length + 1 := by split <;> omega
    rw [List.length_cons]; omega
theorem RInv.code (h : RInv l ts at_ es k work ins bad) (hk : k = work.length) : IsCode l ts at_ es ⟨ins, entG ts at_ ins ins (entF ins es []), unkF ts at_ ins [], bad⟩ := by
  have ha := h.all hk
  obtain ⟨ks, k1, k2, k3⟩ := h.isI
  have hb := h.isB.2
  rw [hk, List.take_length] at k2 hb
  have hI : IsCode l ts at_ es ⟨ins, [], [], []⟩ → True := fun _ => trivial
  have hr : ∀ b, reachedP ins b = true ↔ Reach l ts at_ es b ∧ (atP l b).2 = true := fun b => by
    rw [reachedP, List.any_eq_true]
    constructor
    · rintro ⟨i, hi, hb⟩
      have hb := of_decide_eq_true hb
      rw [k3] at hi
      obtain ⟨c, hc, rfl⟩ := List.mem_map.1 hi
      have h2 := (k2 c).1 hc
      change (atP l c).1.addr = b at hb
      rw [(at_addr h2.2).1] at hb
      subst hb
      exact ⟨(ha c).1 h2.1, h2.2⟩
    · rintro ⟨h1, h2⟩
      exact ⟨(atP l b).1, by rw [k3]; exact List.mem_map.2 ⟨b, (k2 b).2 ⟨(ha b).2 h1, h2⟩, rfl⟩, decide_eq_true (at_addr h2).1⟩
  obtain ⟨e1, e2⟩ := entF_ok ins es [] List.Pairwise.nil
  obtain ⟨g1, g2⟩ := entG_ok (ts := ts) (at_ := at_) ins ins _ e1
  obtain ⟨u1, u2⟩ := unkF_ok (ts := ts) (at_ := at_) ins [] List.Pairwise.nil
  refine ⟨⟨ks, k1, fun b => by rw [k2, ha], k3⟩, ⟨ltU_lt.1 h.isB.1, fun b => by show b ∈ bad ↔ _; rw [hb, ha]⟩, ⟨ltU_lt.1 g1, fun b => ?_⟩, ⟨ltU_lt.1 u1, fun b => ?_⟩⟩
  · show b ∈ entG _ _ _ _ _ ↔ _
    rw [g2, e2, hr]
    constructor
    · rintro ((q | q) | ⟨⟨i, q1, q2⟩, q3⟩)
      · cases q
      · exact ⟨q.2, .inl q.1⟩
      · rw [k3] at q1
        obtain ⟨c, hc, rfl⟩ := List.mem_map.1 q1
        have := (k2 c).1 hc
        exact ⟨q3, .inr ⟨c, ⟨(ha c).1 this.1, this.2⟩, q2⟩⟩
    · rintro ⟨q, q2 | ⟨c, ⟨c1, c2⟩, c3⟩⟩
      · exact .inl (.inr ⟨q2, q⟩)
      · exact .inr ⟨⟨(atP l c).1, by rw [k3]; exact List.mem_map.2 ⟨c, (k2 c).2 ⟨(ha c).2 c1, c2⟩, rfl⟩, c3⟩, q⟩
  · show b ∈ unkF _ _ _ _ ↔ _
    rw [u2]
    constructor
    · rintro (q | ⟨i, q1, q2, q3⟩)
      · cases q
      · rw [k3] at q1
        obtain ⟨c, hc, rfl⟩ := List.mem_map.1 q1
        have h2 := (k2 c).1 hc
        change (atP l c).1.addr = b at q3
        rw [(at_addr h2.2).1] at q3
        subst q3
        exact ⟨⟨(ha c).1 h2.1, h2.2⟩, q2⟩
    · rintro ⟨⟨q1, q2⟩, q3⟩
      exact .inr ⟨(atP l b).1, by rw [k3]; exact List.mem_map.2 ⟨b, (k2 b).2 ⟨(ha b).2 q1, q2⟩, rfl⟩, q3, (at_addr q2).1⟩
end
theorem unk_no {ts : List TabV} {at_ : List UInt32} {i : Ins} (h : indP i.op = false ∨ (knownP ts at_ i.addr).isSome = true) : ¬ unkP ts at_ i = true := by
  unfold unkP
  rcases h with h | h
  · rw [h]; simp
  · cases hk : knownP ts at_ i.addr with
    | none => rw [hk] at h; cases h
    | some x => simp
section
variable {P : Program} {ops : Array Oper} {Q : Exit → Act → World → Prop} {N : Nat} {F : Bg} {L : List Ent} {M : Fr} {ty : TypeId} {pos : String} {after : Array Edge} {rest : List Oper} {d : Nat}
theorem Tr.weak {G : Bg} {X : Act → World → Prop} (hF : F.le G) (K : Tr N F L M X) : Tr N G L M X := fun a w ha hw => K a w ha (hw.weaken hF)
/-- A call that hands back something to be read: as it lay, or new. -/
theorem Tr.callSl {α : Type} {E : Enc α} {l : List α} {T : TypeId} {f : FuncId} {xs : List Operand} {vs : List Value} {ts : Array TypeId} (hx : opvs M xs = some vs)
    (he : ∀ (args : Array Value) (w : World), (callFunc f args).run P w = .ok (.enter f args) w)
    (hc : ∀ w, HpOK F L w → Calls P f vs.toArray w fun e w' => ∃ V, e = .returned V ∧ Ext w w' ∧ (Sl F.blk E l V ∨ NewRow w w' T E l V)) (hd : Nat.ble (d + 1) N = true)
    (K : ∀ V F', F.le F' → Sl F'.blk E l V → Tr N F' L ((d, V) :: M) (wpList P ops Q rest)) :
    Tr N F L M (wpList P ops Q (⟨some d, .call { callee := .value (.func f), args := xs.toArray, argTypes := ts }, ty, pos, after, none⟩ :: rest)) := by
  intro a w ha hw
  refine wpList_plain rfl fun K' hK => ?_
  have hr : (execOp a.eval ⟨some d, .call { callee := .value (.func f), args := xs.toArray, argTypes := ts }, ty, pos, after, none⟩).run P w = .ok (.enter f vs.toArray) w := by
    have := ha.evals hx
    simp [execOp, resolve, Deferred.ofValue, Act.eval, invoke, he, this]
  unfold Oper.wp
  rw [hr]
  refine (hc w hw).mono fun e w' ⟨V, h1, h2, h3⟩ => ?_
  subst h1
  rcases h3 with h3 | h3
  · exact hK _ _ (K V F (Bg.le.refl F) h3 _ _ (ha.put (Nat.le_of_ble_eq_true hd)) (hw.grow h2))
  · exact hK _ _ (Tr.frozen (.here _) (fun F' e1 e2 => K V F' e1 e2) _ _ (ha.put (Nat.le_of_ble_eq_true hd)) (hw.newRow h2 h3))
end
end Go.HL
namespace Go.Proofs.YtnmaokalpbnmaaaGreat
open Go Go.HL Go.RowKit
set_option maxRecDepth 100000 in
set_option maxHeartbeats 2000000 in
theorem succ12_any (i : Ins) (w : World) (hI : InsOK i) :
  Calls Tryz.prog 34 #[.agg (encIns.enc i).toArray] w (fun e w' => ∃ V', e = .returned V' ∧ Ext w w' ∧ NewRow w w' 40 encU32 (succP i) V') := by
 refine enter Tryz.func34 rfl Tryz.ntmps34 rfl ?_
 refine Tr.seq (Tr.region ?_)
 refine Tr.box rfl rfl rfl (fun b1 => ?_)
 refine Tr.q (QS.assign rfl) rfl ?_
 refine Tr.nil (Tr.thenN (Tr.seq ?_))
 refine Tr.ownNil 40 encU32 ?_
 refine Tr.region ?_
 refine Tr.q (QS.assign rfl) rfl ?_
 refine Tr.nil (Tr.thenN (Tr.seq (Tr.seq (Tr.region ?_))))
 refine Tr.q (QS.lW rfl Tryz.isAgg46 Tryz.sizeOf46) rfl ?_
 refine Tr.q (QS.call rfl Tryz.call60 (fun w hw => (show Calls Tryz.prog 60 #[.agg (encIns.enc i).toArray] w (fun e w' => e = .returned (.bool (decide (errP i = 0))) ∧ Ext w w') from by rw [← err_ref]; exact refValid_any i w))) rfl ?_
 refine Tr.q (QS.not rfl) rfl ?_
 refine Tr.nil (Tr.thenN ?_)
 refine Tr.cond rfl (fun h2 => ?_) (fun h2 => ?_)
 ·try simp only [bs] at h2
  refine Tr.seq (Tr.region ?_)
  refine Tr.q (QS.move rfl) rfl ?_
  refine Tr.q (QS.assign rfl) rfl ?_
  refine Tr.nil (Tr.thenN (Tr.ret (Tr.thenR ?_)))
  refine Tr.ret1 Tryz.results34 rfl (fun w' hw => ?_)
  exact ⟨_, rfl, hw.below (Bg.le.refl _), by rw [show succP i = [] by unfold succP; rw [if_neg (by simp_all)]]; exact hw.new (.head _)⟩
 ·try simp only [bs] at h2
  refine Tr.skip (Tr.thenN (Tr.seq (Tr.region ?_)))
  refine Tr.q (QS.lW rfl Tryz.isAgg46 Tryz.sizeOf46) rfl ?_
  refine Tr.q (QS.call rfl Tryz.call61 (fun w hw => refTarget_any i w)) rfl ?_
  refine Tr.q (QS.move rfl) rfl ?_
  refine Tr.q (QS.extract rfl rfl) rfl ?_
  refine Tr.q (QS.extract rfl rfl) rfl ?_
  refine Tr.q (QS.assign rfl) rfl ?_
  refine Tr.q (QS.assign rfl) rfl ?_
  refine Tr.nil (Tr.thenN ?_)
  refine Tr.seqJ (ι := Value) (fun V1 => True) (fun _ => Bg.of w) (fun V1 => [rowE V1 40 encU32 (if (targetP i).2 = true then [(targetP i).1] else []), cellE b1 (encIns.enc i) 46]) (fun V1 => [(3, V1)]) ?_ (fun V1 hi => ?_)
  ·skip
   refine Tr.seq (Tr.region ?_)
   refine Tr.q (QS.move rfl) rfl ?_
   refine Tr.nil (Tr.thenN ?_)
   refine Tr.cond rfl (fun h3 => ?_) (fun h3 => ?_)
   ·try simp only [bs] at h3
    refine Tr.region ?_
    refine Tr.q (QS.move rfl) rfl ?_
    refine Tr.q (QS.move rfl) rfl ?_
    refine Tr.lit1 (E := encU32) (targetP i).1 rfl rfl Tryz.underlying23 Tryz.sizeOf40 Tryz.zeroValue40 (by rfl) (by rfl) rfl (fun V4 => ?_)
    refine Tr.append1 rfl rfl (by repeat constructor) (by repeat constructor) Tryz.underlying23 HLF.info40 (by rfl) (by rfl) (by (try simp only [List.length_cons, List.length_nil, List.length_append, List.length_take]); omega) (by unfold maxLen; (try simp only [List.length_cons, List.length_nil, List.length_append, List.length_take]); omega) rfl (fun V5 => ?_)
    refine Tr.q (QS.assign rfl) rfl ?_
    refine Tr.nil (Tr.thenN ?_)
    refine Tr.rowEq (l' := if (targetP i).2 = true then [(targetP i).1] else []) (by rw [if_pos (by assumption)]; rfl) ?_
    apply Tr.joined _
    ·exact rfl
    ·exact (.cons (by first | rfl | exact lookI rfl (by omega) | exact lookI rfl (by simp) | exact lookB rfl (by simp)) Front.nil)
    ·exact SubX.dropN 6 (by kernel_rfl) rfl
    ·exact (by repeat' constructor)
    ·exact trivial
   ·try simp only [bs] at h3
    refine Tr.skip (Tr.thenN ?_)
    refine Tr.rowEq (l' := if (targetP i).2 = true then [(targetP i).1] else []) (by rw [if_neg (by simp_all)]) ?_
    apply Tr.joined _
    ·exact rfl
    ·exact (.cons (by first | rfl | exact lookI rfl (by omega) | exact lookI rfl (by simp) | exact lookB rfl (by simp)) Front.nil)
    ·exact SubX.dropN 1 (by kernel_rfl) rfl
    ·exact (by repeat' constructor)
    ·exact trivial
  ·skip
   replace hi : True := hi
   change Tr _ _ [rowE V1 40 encU32 (if (targetP i).2 = true then [(targetP i).1] else []), cellE b1 (encIns.enc i) 46] ([(3, V1)] ++ _) _
   have htl : (if (targetP i).2 = true then [(targetP i).1] else []).length ≤ 1 := by split <;> simp
   refine Tr.seqJ (ι := Value) (fun V2 => True) (fun _ => Bg.of w) (fun V2 => [rowE V2 40 encU32 ((if (targetP i).2 = true then [(targetP i).1] else []) ++ (if endsP i = true then [] else [nextP i])), cellE b1 (encIns.enc i) 46]) (fun V2 => [(3, V2)]) ?_ (fun V2 hi => ?_)
   ·skip
    refine Tr.seq (Tr.region ?_)
    refine Tr.q (QS.lW rfl Tryz.isAgg46 Tryz.sizeOf46) rfl ?_
    refine Tr.q (QS.call rfl Tryz.call62 (fun w hw => refEnds_any i w)) rfl ?_
    refine Tr.q (QS.not rfl) rfl ?_
    refine Tr.nil (Tr.thenN ?_)
    refine Tr.cond rfl (fun h6 => ?_) (fun h6 => ?_)
    ·try simp only [bs] at h6
     refine Tr.region ?_
     refine Tr.q (QS.move rfl) rfl ?_
     refine Tr.q (QS.lW rfl Tryz.isAgg46 Tryz.sizeOf46) rfl ?_
     refine Tr.q (QS.call rfl Tryz.call63 (fun w hw => (show Calls Tryz.prog 63 #[.agg (encIns.enc i).toArray] w (fun e w' => e = .returned (.int .u32 (nextP i).toNat) ∧ Ext w w') from by rw [show nextP i = i.addr + u32 (refLenP i) by rw [len_ref]; rfl]; exact refNext_any i w hI))) rfl ?_
     refine Tr.lit1 (E := encU32) (nextP i) rfl rfl Tryz.underlying23 Tryz.sizeOf40 Tryz.zeroValue40 (by rfl) (by rfl) rfl (fun V7 => ?_)
     refine Tr.append1 rfl rfl (by repeat constructor) (by repeat constructor) Tryz.underlying23 HLF.info40 (by rfl) (by rfl) (by (try simp only [List.length_cons, List.length_nil, List.length_append, List.length_take]); omega) (by unfold maxLen; (try simp only [List.length_cons, List.length_nil, List.length_append, List.length_take]); omega) rfl (fun V8 => ?_)
     refine Tr.q (QS.assign rfl) rfl ?_
     refine Tr.nil (Tr.thenN ?_)
     refine Tr.rowEq (l' := (if (targetP i).2 = true then [(targetP i).1] else []) ++ (if endsP i = true then [] else [nextP i])) (by rw [if_neg (c := endsP i = true) (by simp_all)]) ?_
     apply Tr.joined _
     ·exact rfl
     ·exact (.cons (by first | rfl | exact lookI rfl (by omega) | exact lookI rfl (by simp) | exact lookB rfl (by simp)) Front.nil)
     ·exact SubX.dropN 9 (by kernel_rfl) rfl
     ·exact (by repeat' constructor)
     ·exact trivial
    ·try simp only [bs] at h6
     refine Tr.skip (Tr.thenN ?_)
     refine Tr.rowEq (l' := (if (targetP i).2 = true then [(targetP i).1] else []) ++ (if endsP i = true then [] else [nextP i])) (by rw [if_pos (c := endsP i = true) (by simp_all), List.append_nil]) ?_
     apply Tr.joined _
     ·exact rfl
     ·exact (.cons (by first | rfl | exact lookI rfl (by omega) | exact lookI rfl (by simp) | exact lookB rfl (by simp)) Front.nil)
     ·exact SubX.dropN 3 (by kernel_rfl) rfl
     ·exact (by repeat' constructor)
     ·exact trivial
   ·skip
    replace hi : True := hi
    change Tr _ _ [rowE V2 40 encU32 ((if (targetP i).2 = true then [(targetP i).1] else []) ++ (if endsP i = true then [] else [nextP i])), cellE b1 (encIns.enc i) 46] ([(3, V2)] ++ _) _
    refine Tr.seq (Tr.region ?_)
    refine Tr.q (QS.move rfl) rfl ?_
    refine Tr.q (QS.assign rfl) rfl ?_
    refine Tr.nil (Tr.thenN (Tr.ret ?_))
    refine Tr.ret1 Tryz.results34 rfl (fun w' hw => ?_)
    exact ⟨_, rfl, hw.below (Bg.le.refl _), by rw [show succP i = _ by unfold succP; rw [if_pos (by simp_all)]]; exact hw.new (.head _)⟩
set_option maxRecDepth 100000 in
set_option maxHeartbeats 2000000 in
theorem insAt_any (l : List SecV) (V : Value) (a : UInt32) (w : World) (hV : Sl (hp w) encSec l V) (hB : SecB l) (hD : DataIn (hp w) l) :
  Calls Tryz.prog 14 #[V, .int .u32 a.toNat] w (fun e w' => e = .returned (.tuple #[.agg (encIns.enc (atP l a).1).toArray, .bool (atP l a).2]) ∧ Ext w w') := by
 have hV' : Sl (Bg.of w).blk encSec l V := hV
 have hlen := hB.1
 have hf := findP_lt (l := l) (a := a)
 have ha := a.toNat_lt
 refine enter Tryz.func14 rfl Tryz.ntmps14 rfl ?_
 refine Tr.seq (Tr.region ?_)
 refine Tr.alloc Tryz.zeroValue46 rfl rfl (fun b1 => ?_)
 refine Tr.q (QS.assign rfl) rfl ?_
 refine Tr.nil (Tr.thenN (Tr.seq (Tr.region ?_)))
 refine Tr.q (QS.move rfl) rfl ?_
 refine Tr.q (QS.move rfl) rfl ?_
 refine Tr.q (QS.call rfl Tryz.call32 (fun w hw => refFind_any l V a w (hw.slF hV') hB)) rfl ?_
 refine Tr.q (QS.assign rfl) rfl ?_
 refine Tr.nil (Tr.thenN (Tr.seq (Tr.seq (Tr.region ?_))))
 refine Tr.q (QS.move rfl) rfl ?_
 refine Tr.q (QS.lss rfl rfl) rfl ?_
 refine Tr.q (QS.move rfl) rfl ?_
 apply Tr.orP
 ·exact (rfl : _ = (7, 15, 22))
 ·exact rfl
 ·intro hF2; have hF2' := hF2
  try simp only [bs] at hF2'
  refine Tr.gq rfl rfl hF2 (QS.move rfl) rfl ?_
  refine Tr.gq rfl rfl hF2 (QS.move rfl) rfl ?_
  refine Tr.gq rfl rfl hF2 (QS.idx rfl rfl (by assumption) Tryz.underlying22 Tryz.sizeOf43 (by rfl) (by omega)) rfl ?_
  refine Tr.gq rfl rfl hF2 (QS.fieldAddr (off := 4) (ft := 4) rfl Tryz.underlying43 rfl rfl Tryz.sizeOf4 (by decide)) rfl ?_
  refine Tr.gq rfl rfl hF2 (QS.elF rfl (by assumption) Tryz.isAgg4 (by omega) (by rfl)) rfl ?_
  refine Tr.gq rfl rfl hF2 (QS.not rfl) rfl ?_
  refine Tr.q (QS.pickF rfl hF2 rfl) rfl ?_
  refine Tr.nil (Tr.thenN ?_)
  exact Tr.endX (Sub.cons rfl (Sub.dropN 7 (by kernel_rfl) rfl))
 ·intro hT2
  refine Tr.gskip rfl rfl hT2 rfl ?_
  refine Tr.gskip rfl rfl hT2 rfl ?_
  refine Tr.gskip rfl rfl hT2 rfl ?_
  refine Tr.gskip rfl rfl hT2 rfl ?_
  refine Tr.gskip rfl rfl hT2 rfl ?_
  refine Tr.gskip rfl rfl hT2 rfl ?_
  refine Tr.q (QS.pickT rfl hT2 rfl) rfl ?_
  refine Tr.nil (Tr.thenN ?_)
  exact Tr.endX (Sub.cons rfl (Sub.dropN 7 (by kernel_rfl) rfl))
 refine Tr.nil (Tr.thenN ?_)
 refine Tr.cond rfl (fun h3 => ?_) (fun h3 => ?_)
 ·try simp only [bs] at h3
  refine Tr.seq (Tr.region ?_)
  refine Tr.q (QS.build (vs := []) rfl rfl (HLF.built46)) rfl ?_
  refine Tr.storeW rfl rfl Tryz.sizeOf46 (by repeat constructor) (by rfl) (by rfl) (by first | exact List.all_eq_true.1 rfl | exact Enc.one _ _ | exact Enc.one encIns _) rfl ?_
  refine Tr.q (QS.assign rfl) rfl ?_
  refine Tr.nil (Tr.thenN (Tr.ret (Tr.thenR ?_)))
  refine Tr.retC2 Tryz.results14 rfl rfl (by repeat constructor) Tryz.isAgg46 Tryz.sizeOf46 (by rfl) (fun w' hw => ?_)
  exact ⟨by unfold atP; rw [if_pos (by unfold noAt; simp_all)]; rfl, hw.below (Bg.le.refl _)⟩
 ·try simp only [bs] at h3
  refine Tr.skip (Tr.thenN (Tr.seq ?_))
  have hna : noAt l a = false := by unfold noAt; rw [Bool.or_eq_false_iff]; exact ⟨decide_eq_false h3.1, by rw [h3.2]; rfl⟩
  have hin := inS_iff.1 (findP_in (l := l) (a := a) (by omega))
  have hen : endP (l.getD (findP l a).toNat default) ≤ ((l.getD (findP l a).toNat default).addr.toNat : Int) + (l.getD (findP l a).toNat default).data.length := by unfold endP; omega
  have hsub : (a - (l.getD (findP l a).toNat default).addr).toNat = a.toNat - (l.getD (findP l a).toNat default).addr.toNat := UInt32.toNat_sub_of_le _ _ (UInt32.le_iff_toNat_le.2 hin.1)
  have hdl := hB.at (k := (findP l a).toNat) (by omega)
  have hDk : Sl (Bg.of w).blk encU8 (l.getD (findP l a).toNat default).data (.slice (l.getD (findP l a).toNat default).dp (l.getD (findP l a).toNat default).data.length (l.getD (findP l a).toNat default).dc) := hD _ (mem_getD (by omega))
  refine Tr.region ?_
  refine Tr.q (QS.move rfl) rfl ?_
  refine Tr.q (QS.move rfl) rfl ?_
  refine Tr.q (QS.move rfl) rfl ?_
  refine Tr.q (QS.idx rfl rfl (by assumption) Tryz.underlying22 Tryz.sizeOf43 (by rfl) (by omega)) rfl ?_
  refine Tr.q (QS.fieldAddr (off := 1) (ft := 40) rfl Tryz.underlying43 rfl rfl Tryz.sizeOf40 (by decide)) rfl ?_
  refine Tr.q (QS.elF rfl (by assumption) Tryz.isAgg40 (by omega) (by rfl)) rfl ?_
  refine Tr.q (QS.sub32 rfl rfl) rfl ?_
  refine Tr.q (QS.cvt32toI rfl Tryz.underlying40 Tryz.underlying3) rfl ?_
  refine Tr.q (QS.assign rfl) rfl ?_
  refine Tr.nil (Tr.thenN (Tr.seq ?_))
  have hs1 := Sl.resl (l := (a - (l.getD (findP l a).toNat default).addr).toNat) (h := (min (((a - (l.getD (findP l a).toNat default).addr).toNat : Int) + 6) ((l.getD (findP l a).toNat default).data.length : Int)).toNat) hDk (by omega) (by omega)
  have hs3 := hs1
  rw [show List.drop (a - (l.getD (findP l a).toNat default).addr).toNat ((l.getD (findP l a).toNat default).data.take (min (((a - (l.getD (findP l a).toNat default).addr).toNat : Int) + 6) ((l.getD (findP l a).toNat default).data.length : Int)).toNat) = winD l a by unfold winD; rw [List.drop_take, List.take_eq_take_iff, List.length_drop]; omega] at hs3
  refine Tr.regionH ([]) 24 rfl HLF.mixed ?_
  refine Tr.hT 0 rfl (by kernel_rfl) (panicThen panicBody) (QS.move rfl) ?_
  refine Tr.hT 1 rfl (by kernel_rfl) (panicThen panicBody) (QS.move rfl) ?_
  refine Tr.hT 2 rfl (by kernel_rfl) (panicThen panicBody) (QS.idx rfl rfl (by assumption) Tryz.underlying22 Tryz.sizeOf43 (by rfl) (by omega)) ?_
  refine Tr.hT 3 rfl (by kernel_rfl) (panicThen panicBody) (QS.fieldAddr (off := 2) (ft := 41) rfl Tryz.underlying43 rfl rfl Tryz.sizeOf41 (by decide)) ?_
  refine Tr.hT 4 rfl (by kernel_rfl) (panicThen panicBody) (QS.elF rfl (by assumption) Tryz.isAgg41 (by omega) (by rfl)) ?_
  refine Tr.hT 5 rfl (by kernel_rfl) (panicThen panicBody) (QS.move rfl) ?_
  refine Tr.hT 6 rfl (by kernel_rfl) (panicThen panicBody) (QS.move rfl) ?_
  refine Tr.hT 7 rfl (by kernel_rfl) (panicThen panicBody) (QS.addI rfl rfl (by omega)) ?_
  refine Tr.hT 8 rfl (by kernel_rfl) (panicThen panicBody) (QS.move rfl) ?_
  refine Tr.hT 9 rfl (by kernel_rfl) (panicThen panicBody) (QS.move rfl) ?_
  refine Tr.hT 10 rfl (by kernel_rfl) (panicThen panicBody) (QS.idx rfl rfl (by assumption) Tryz.underlying22 Tryz.sizeOf43 (by rfl) (by omega)) ?_
  refine Tr.hT 11 rfl (by kernel_rfl) (panicThen panicBody) (QS.fieldAddr (off := 2) (ft := 41) rfl Tryz.underlying43 rfl rfl Tryz.sizeOf41 (by decide)) ?_
  refine Tr.hT 12 rfl (by kernel_rfl) (panicThen panicBody) (QS.elF rfl (by assumption) Tryz.isAgg41 (by omega) (by rfl)) ?_
  refine Tr.hT 16 rfl (by kernel_rfl) (panicThen panicBody) (QS.move rfl) ?_
  refine Tr.hAll [13, 21] (by kernel_rfl) (by simp) (fun iq hq => ?_)
  rcases List.mem_cons.1 hq with rfl | hq
  ·skip
   refine Tr.hOp rfl ?_
   refine Tr.q (QS.len rfl (by assumption) Tryz.underlying41) rfl ?_
   refine Tr.hN ?_
   refine Tr.hAll [14, 21] (by kernel_rfl) (by simp) (fun iq hq => ?_)
   rcases List.mem_cons.1 hq with rfl | hq
   ·skip
    refine Tr.hOp rfl ?_
    refine Tr.q (QS.min2 rfl rfl) rfl ?_
    refine Tr.hN ?_
    refine Tr.hT 15 rfl (by kernel_rfl) (panicThen panicBody) (QS.slice (lv := some (_, _)) (hv := some (_, _)) rfl (by assumption) rfl rfl Tryz.underlying41 Tryz.sizeOf5 (by rfl) (by simp only [loOf, hiOf] <;> first | omega | assumption | (simp only [NatCast.natCast, Int.ofNat_eq_natCast]; omega)) (by simp only [loOf, hiOf] <;> first | omega | assumption | (simp only [NatCast.natCast, Int.ofNat_eq_natCast]; omega)) (by simp only [loOf, hiOf] <;> first | omega | assumption | (simp only [NatCast.natCast, Int.ofNat_eq_natCast]; omega))) ?_
    refine Tr.hAll [17, 21] (by kernel_rfl) (by simp) (fun iq hq => ?_)
    rcases List.mem_cons.1 hq with rfl | hq
    ·skip
     refine Tr.hOp rfl ?_
     refine Tr.q (QS.call rfl Tryz.call33 (fun w hw => (by have q := refDecode_any (winD l a) _ a w (hw.slF hs3); rw [dec_ref] at q; exact q))) rfl ?_
     refine Tr.hN ?_
     refine Tr.hT 18 rfl (by kernel_rfl) (panicThen panicBody) (QS.move rfl) ?_
     refine Tr.hT 19 rfl (by kernel_rfl) (panicThen panicBody) (QS.extract rfl rfl) ?_
     refine Tr.hT 20 rfl (by kernel_rfl) (panicThen panicBody) (QS.extract rfl rfl) ?_
     refine Tr.hAll [21] (by kernel_rfl) (by simp) (fun iq hq => ?_)
     obtain rfl := List.mem_singleton.1 hq
     refine Tr.hOp rfl ?_
     refine Tr.alloc Tryz.zeroValue46 rfl rfl (fun b4 => ?_)
     refine Tr.hN ?_
     refine Tr.hAll [22] (by kernel_rfl) (by simp) (fun iq hq => ?_)
     obtain rfl := List.mem_singleton.1 hq
     refine Tr.hOp rfl ?_
     refine Tr.storeW rfl rfl Tryz.sizeOf46 (by repeat constructor) (by rfl) (by rfl) (by first | exact List.all_eq_true.1 rfl | exact Enc.one _ _ | exact Enc.one encIns _) rfl ?_
     refine Tr.hN ?_
     refine Tr.hT 23 rfl (by kernel_rfl) (panicThen panicBody) (QS.assign rfl) ?_
     refine Tr.hDone (by kernel_rfl) ?_
     refine Tr.thenN (Tr.seq (Tr.region ?_))
     refine Tr.q (QS.lW rfl Tryz.isAgg46 Tryz.sizeOf46) rfl ?_
     refine Tr.q (QS.move rfl) rfl ?_
     refine Tr.q (QS.eql rfl rfl) rfl ?_
     refine Tr.storeW rfl rfl Tryz.sizeOf46 (by repeat constructor) (by rfl) (by rfl) (by first | exact List.all_eq_true.1 rfl | exact Enc.one _ _ | exact Enc.one encIns _) rfl ?_
     refine Tr.q (QS.assign rfl) rfl ?_
     refine Tr.nil (Tr.thenN (Tr.ret ?_))
     refine Tr.retC2 Tryz.results14 rfl rfl (by repeat constructor) Tryz.isAgg46 Tryz.sizeOf46 (by rfl) (fun w' hw => ?_)
     exact ⟨by unfold atP; rw [if_neg (by simp [hna])]; rfl, hw.below (Bg.le.refl _)⟩
    obtain rfl := List.mem_singleton.1 hq
    refine Tr.hOp rfl ?_
    refine Tr.alloc Tryz.zeroValue46 rfl rfl (fun b5 => ?_)
    refine Tr.hN ?_
    refine Tr.hAll [17] (by kernel_rfl) (by simp) (fun iq hq => ?_)
    obtain rfl := List.mem_singleton.1 hq
    refine Tr.hOp rfl ?_
    refine Tr.q (QS.call rfl Tryz.call33 (fun w hw => (by have q := refDecode_any (winD l a) _ a w (hw.slF hs3); rw [dec_ref] at q; exact q))) rfl ?_
    refine Tr.hN ?_
    refine Tr.hT 18 rfl (by kernel_rfl) (panicThen panicBody) (QS.move rfl) ?_
    refine Tr.hT 19 rfl (by kernel_rfl) (panicThen panicBody) (QS.extract rfl rfl) ?_
    refine Tr.hT 20 rfl (by kernel_rfl) (panicThen panicBody) (QS.extract rfl rfl) ?_
    refine Tr.hAll [22] (by kernel_rfl) (by simp) (fun iq hq => ?_)
    obtain rfl := List.mem_singleton.1 hq
    refine Tr.hOp rfl ?_
    refine Tr.storeW rfl rfl Tryz.sizeOf46 (by repeat constructor) (by rfl) (by rfl) (by first | exact List.all_eq_true.1 rfl | exact Enc.one _ _ | exact Enc.one encIns _) rfl ?_
    refine Tr.hN ?_
    refine Tr.hT 23 rfl (by kernel_rfl) (panicThen panicBody) (QS.assign rfl) ?_
    refine Tr.hDone (by kernel_rfl) ?_
    refine Tr.thenN (Tr.seq (Tr.region ?_))
    refine Tr.q (QS.lW rfl Tryz.isAgg46 Tryz.sizeOf46) rfl ?_
    refine Tr.q (QS.move rfl) rfl ?_
    refine Tr.q (QS.eql rfl rfl) rfl ?_
    refine Tr.storeW rfl rfl Tryz.sizeOf46 (by repeat constructor) (by rfl) (by rfl) (by first | exact List.all_eq_true.1 rfl | exact Enc.one _ _ | exact Enc.one encIns _) rfl ?_
    refine Tr.q (QS.assign rfl) rfl ?_
    refine Tr.nil (Tr.thenN (Tr.ret ?_))
    refine Tr.retC2 Tryz.results14 rfl rfl (by repeat constructor) Tryz.isAgg46 Tryz.sizeOf46 (by rfl) (fun w' hw => ?_)
    exact ⟨by unfold atP; rw [if_neg (by simp [hna])]; rfl, hw.below (Bg.le.refl _)⟩
   obtain rfl := List.mem_singleton.1 hq
   refine Tr.hOp rfl ?_
   refine Tr.alloc Tryz.zeroValue46 rfl rfl (fun b6 => ?_)
   refine Tr.hN ?_
   refine Tr.hAll [14] (by kernel_rfl) (by simp) (fun iq hq => ?_)
   obtain rfl := List.mem_singleton.1 hq
   refine Tr.hOp rfl ?_
   refine Tr.q (QS.min2 rfl rfl) rfl ?_
   refine Tr.hN ?_
   refine Tr.hT 15 rfl (by kernel_rfl) (panicThen panicBody) (QS.slice (lv := some (_, _)) (hv := some (_, _)) rfl (by assumption) rfl rfl Tryz.underlying41 Tryz.sizeOf5 (by rfl) (by simp only [loOf, hiOf] <;> first | omega | assumption | (simp only [NatCast.natCast, Int.ofNat_eq_natCast]; omega)) (by simp only [loOf, hiOf] <;> first | omega | assumption | (simp only [NatCast.natCast, Int.ofNat_eq_natCast]; omega)) (by simp only [loOf, hiOf] <;> first | omega | assumption | (simp only [NatCast.natCast, Int.ofNat_eq_natCast]; omega))) ?_
   refine Tr.hAll [17] (by kernel_rfl) (by simp) (fun iq hq => ?_)
   obtain rfl := List.mem_singleton.1 hq
   refine Tr.hOp rfl ?_
   refine Tr.q (QS.call rfl Tryz.call33 (fun w hw => (by have q := refDecode_any (winD l a) _ a w (hw.slF hs3); rw [dec_ref] at q; exact q))) rfl ?_
   refine Tr.hN ?_
   refine Tr.hT 18 rfl (by kernel_rfl) (panicThen panicBody) (QS.move rfl) ?_
   refine Tr.hT 19 rfl (by kernel_rfl) (panicThen panicBody) (QS.extract rfl rfl) ?_
   refine Tr.hT 20 rfl (by kernel_rfl) (panicThen panicBody) (QS.extract rfl rfl) ?_
   refine Tr.hAll [22] (by kernel_rfl) (by simp) (fun iq hq => ?_)
   obtain rfl := List.mem_singleton.1 hq
   refine Tr.hOp rfl ?_
   refine Tr.storeW rfl rfl Tryz.sizeOf46 (by repeat constructor) (by rfl) (by rfl) (by first | exact List.all_eq_true.1 rfl | exact Enc.one _ _ | exact Enc.one encIns _) rfl ?_
   refine Tr.hN ?_
   refine Tr.hT 23 rfl (by kernel_rfl) (panicThen panicBody) (QS.assign rfl) ?_
   refine Tr.hDone (by kernel_rfl) ?_
   refine Tr.thenN (Tr.seq (Tr.region ?_))
   refine Tr.q (QS.lW rfl Tryz.isAgg46 Tryz.sizeOf46) rfl ?_
   refine Tr.q (QS.move rfl) rfl ?_
   refine Tr.q (QS.eql rfl rfl) rfl ?_
   refine Tr.storeW rfl rfl Tryz.sizeOf46 (by repeat constructor) (by rfl) (by rfl) (by first | exact List.all_eq_true.1 rfl | exact Enc.one _ _ | exact Enc.one encIns _) rfl ?_
   refine Tr.q (QS.assign rfl) rfl ?_
   refine Tr.nil (Tr.thenN (Tr.ret ?_))
   refine Tr.retC2 Tryz.results14 rfl rfl (by repeat constructor) Tryz.isAgg46 Tryz.sizeOf46 (by rfl) (fun w' hw => ?_)
   exact ⟨by unfold atP; rw [if_neg (by simp [hna])]; rfl, hw.below (Bg.le.refl _)⟩
  obtain rfl := List.mem_singleton.1 hq
  refine Tr.hOp rfl ?_
  refine Tr.alloc Tryz.zeroValue46 rfl rfl (fun b7 => ?_)
  refine Tr.hN ?_
  refine Tr.hAll [13] (by kernel_rfl) (by simp) (fun iq hq => ?_)
  obtain rfl := List.mem_singleton.1 hq
  refine Tr.hOp rfl ?_
  refine Tr.q (QS.len rfl (by assumption) Tryz.underlying41) rfl ?_
  refine Tr.hN ?_
  refine Tr.hAll [14] (by kernel_rfl) (by simp) (fun iq hq => ?_)
  obtain rfl := List.mem_singleton.1 hq
  refine Tr.hOp rfl ?_
  refine Tr.q (QS.min2 rfl rfl) rfl ?_
  refine Tr.hN ?_
  refine Tr.hT 15 rfl (by kernel_rfl) (panicThen panicBody) (QS.slice (lv := some (_, _)) (hv := some (_, _)) rfl (by assumption) rfl rfl Tryz.underlying41 Tryz.sizeOf5 (by rfl) (by simp only [loOf, hiOf] <;> first | omega | assumption | (simp only [NatCast.natCast, Int.ofNat_eq_natCast]; omega)) (by simp only [loOf, hiOf] <;> first | omega | assumption | (simp only [NatCast.natCast, Int.ofNat_eq_natCast]; omega)) (by simp only [loOf, hiOf] <;> first | omega | assumption | (simp only [NatCast.natCast, Int.ofNat_eq_natCast]; omega))) ?_
  refine Tr.hAll [17] (by kernel_rfl) (by simp) (fun iq hq => ?_)
  obtain rfl := List.mem_singleton.1 hq
  refine Tr.hOp rfl ?_
  refine Tr.q (QS.call rfl Tryz.call33 (fun w hw => (by have q := refDecode_any (winD l a) _ a w (hw.slF hs3); rw [dec_ref] at q; exact q))) rfl ?_
  refine Tr.hN ?_
  refine Tr.hT 18 rfl (by kernel_rfl) (panicThen panicBody) (QS.move rfl) ?_
  refine Tr.hT 19 rfl (by kernel_rfl) (panicThen panicBody) (QS.extract rfl rfl) ?_
  refine Tr.hT 20 rfl (by kernel_rfl) (panicThen panicBody) (QS.extract rfl rfl) ?_
  refine Tr.hAll [22] (by kernel_rfl) (by simp) (fun iq hq => ?_)
  obtain rfl := List.mem_singleton.1 hq
  refine Tr.hOp rfl ?_
  refine Tr.storeW rfl rfl Tryz.sizeOf46 (by repeat constructor) (by rfl) (by rfl) (by first | exact List.all_eq_true.1 rfl | exact Enc.one _ _ | exact Enc.one encIns _) rfl ?_
  refine Tr.hN ?_
  refine Tr.hT 23 rfl (by kernel_rfl) (panicThen panicBody) (QS.assign rfl) ?_
  refine Tr.hDone (by kernel_rfl) ?_
  refine Tr.thenN (Tr.seq (Tr.region ?_))
  refine Tr.q (QS.lW rfl Tryz.isAgg46 Tryz.sizeOf46) rfl ?_
  refine Tr.q (QS.move rfl) rfl ?_
  refine Tr.q (QS.eql rfl rfl) rfl ?_
  refine Tr.storeW rfl rfl Tryz.sizeOf46 (by repeat constructor) (by rfl) (by rfl) (by first | exact List.all_eq_true.1 rfl | exact Enc.one _ _ | exact Enc.one encIns _) rfl ?_
  refine Tr.q (QS.assign rfl) rfl ?_
  refine Tr.nil (Tr.thenN (Tr.ret ?_))
  refine Tr.retC2 Tryz.results14 rfl rfl (by repeat constructor) Tryz.isAgg46 Tryz.sizeOf46 (by rfl) (fun w' hw => ?_)
  exact ⟨by unfold atP; rw [if_neg (by simp [hna])]; rfl, hw.below (Bg.le.refl _)⟩
set_option maxRecDepth 100000 in
set_option maxHeartbeats 4000000 in
theorem insert12_any (l : List Ins) (V : Value) (i : Ins) (w : World) (hV : Sl (hp w) encIns l V) (hn : l.length ≤ 1000000) :
  Calls Tryz.prog 16 #[V, .agg (encIns.enc i).toArray] w (fun e w' => ∃ V', e = .returned V' ∧ Ext w w' ∧ NewRow w w' 46 encIns (putI l i) V') := by
 have hV' : Sl (Bg.of w).blk encIns l V := hV
 refine enter Tryz.func16 rfl Tryz.ntmps16 rfl ?_
 refine Tr.seq (Tr.region ?_)
 refine Tr.box rfl rfl rfl (fun b1 => ?_)
 refine Tr.q (QS.assign rfl) rfl ?_
 refine Tr.nil (Tr.thenN (Tr.seq (Tr.region ?_)))
 refine Tr.q (QS.move rfl) rfl ?_
 refine Tr.q (QS.len rfl (by assumption) Tryz.underlying29) rfl ?_
 refine Tr.q (QS.assign rfl) rfl ?_
 refine Tr.nil (Tr.thenN (Tr.seq (Tr.block ?_)))
 refine Tr.loop (ι := Nat) (fun k => k ≤ l.length ∧ posB l i.addr l.length = posB l i.addr k) (fun _ => _) (fun k => [cellE b1 (encIns.enc i) 46]) (fun k => [(5, .int .i64 (k : Nat))]) (fun k => k) l.length ⟨Nat.le_refl _, rfl⟩ (.cons (by first | rfl | exact lookI rfl (by omega) | exact lookI rfl (by simp) | exact lookB rfl (by simp)) Front.nil) (by repeat' constructor) rfl (fun k hi m hm => ?_)
 replace hi : k ≤ l.length ∧ posB l i.addr l.length = posB l i.addr k := hi
 replace hm : m = k := hm
 change Tr _ _ [cellE b1 (encIns.enc i) 46] ([(5, .int .i64 (k : Nat))] ++ _) _
 obtain ⟨hk1, hk2⟩ := hi
 refine Tr.seq (Tr.seq ?_)
 refine Tr.regionQ HLF.mixed (by kernel_rfl) ?_
 refine TrQ.q (QS.move rfl) rfl ?_
 refine TrQ.q (QS.gtr rfl rfl) rfl ?_
 refine TrQ.q (QS.move rfl) rfl ?_
 apply TrQ.andP
 ·exact (rfl : _ = (10, 11, 21))
 ·exact rfl
 ·intro hT2; have hT2' := hT2
  try simp only [bs] at hT2'
  refine TrQ.gq rfl rfl hT2 (QS.move rfl) rfl ?_
  refine TrQ.gq rfl rfl hT2 (QS.move rfl) rfl ?_
  refine TrQ.gq rfl rfl hT2 (QS.subI rfl rfl (by omega)) rfl ?_
  refine TrQ.gq rfl rfl hT2 (QS.idx rfl rfl (by assumption) Tryz.underlying29 Tryz.sizeOf46 (by rfl) (by omega)) rfl ?_
  refine TrQ.gq rfl rfl hT2 (QS.fieldAddr (off := 0) (ft := 40) rfl Tryz.underlying46 rfl rfl Tryz.sizeOf40 (by decide)) rfl ?_
  refine TrQ.gq rfl rfl hT2 (QS.elF rfl (by assumption) Tryz.isAgg40 (by omega) (by rfl)) rfl ?_
  refine TrQ.gq rfl rfl hT2 (QS.fieldAddr (off := 0) (ft := 40) rfl Tryz.underlying46 rfl rfl Tryz.sizeOf40 (by decide)) rfl ?_
  refine TrQ.gq rfl rfl hT2 (QS.lV rfl Tryz.isAgg40) rfl ?_
  refine TrQ.gq rfl rfl hT2 (QS.gtr32 rfl rfl) rfl ?_
  refine TrQ.q (QS.pickT rfl hT2 rfl) rfl ?_
  exact TrQ.end (Sub.cons rfl (Sub.dropN 10 (by kernel_rfl) rfl))
 ·intro hF2
  refine TrQ.gskip rfl rfl hF2 rfl ?_
  refine TrQ.gskip rfl rfl hF2 rfl ?_
  refine TrQ.gskip rfl rfl hF2 rfl ?_
  refine TrQ.gskip rfl rfl hF2 rfl ?_
  refine TrQ.gskip rfl rfl hF2 rfl ?_
  refine TrQ.gskip rfl rfl hF2 rfl ?_
  refine TrQ.gskip rfl rfl hF2 rfl ?_
  refine TrQ.gskip rfl rfl hF2 rfl ?_
  refine TrQ.gskip rfl rfl hF2 rfl ?_
  refine TrQ.q (QS.pickF rfl hF2 rfl) rfl ?_
  exact TrQ.end (Sub.cons rfl (Sub.dropN 10 (by kernel_rfl) rfl))
 refine TrQ.nil ?_
 refine Tr.thenN ?_
 refine Tr.cond rfl (fun h3 => ?_) (fun h3 => ?_)
 ·try simp only [bs] at h3
  refine Tr.skip (Tr.thenN (Tr.block (Tr.region ?_)))
  refine Tr.q (QS.move rfl) rfl ?_
  refine Tr.q (QS.subI rfl rfl (by omega)) rfl ?_
  refine Tr.q (QS.assign rfl) rfl ?_
  refine Tr.nil (Tr.inN (Tr.thenN ?_))
  apply Tr.again (k - 1)
  ·exact rfl
  ·exact (.cons (by first | rfl | exact lookI rfl (by omega) | exact lookI rfl (by simp) | exact lookB rfl (by simp)) Front.nil)
  ·exact SubX.dropN 8 (by kernel_rfl) rfl
  ·exact (by repeat' constructor)
  ·exact ⟨by omega, by rw [hk2]; exact posB_go (by omega) (by simp_all)⟩
  ·exact (by show k - 1 < m; omega)
 ·try simp only [bs] at h3
  refine Tr.exit ?_
  refine Tr.thenE (Tr.thenE (Tr.inHit (Tr.thenN (Tr.seq ?_))))
  have hid : posB l i.addr l.length = k := by rw [hk2]; exact posB_stop ((show ¬ (0 : Int) < (k : Int) ∨ ¬ i.addr < (l.getD ((k : Int) - 1).toNat default).addr by assumption).imp (fun q => by omega) id)
  have hs1 : Sl (Bg.of w).blk encIns (l.take k) (HL.resl V 0 k encIns.k) := by
   have q := Sl.resl hV' (l := 0) (h := k) (by omega) (by omega)
   rw [List.drop_zero] at q; exact q
  have hs2 : Sl (Bg.of w).blk encIns (l.drop k) (HL.resl V k l.length encIns.k) := by
   have q := Sl.resl hV' (l := k) (h := l.length) (by omega) (by omega)
   rw [List.take_length] at q; exact q
  have hdl : (l.drop k).length = l.length - k := List.length_drop
  refine Tr.region ?_
  refine Tr.lit0 encIns Tryz.underlying29 Tryz.sizeOf46 rfl (fun V4 => ?_)
  refine Tr.q (QS.move rfl) rfl ?_
  refine Tr.q (QS.move rfl) rfl ?_
  refine Tr.q (QS.slice (lv := none) (hv := some (_, _)) rfl (by assumption) rfl rfl Tryz.underlying29 Tryz.sizeOf46 (by rfl) (by simp only [loOf, hiOf] <;> first | omega | assumption | (simp only [NatCast.natCast, Int.ofNat_eq_natCast]; omega)) (by simp only [loOf, hiOf] <;> first | omega | assumption | (simp only [NatCast.natCast, Int.ofNat_eq_natCast]; omega)) (by simp only [loOf, hiOf] <;> first | omega | assumption | (simp only [NatCast.natCast, Int.ofNat_eq_natCast]; omega))) rfl ?_
  refine Tr.appendOf (ys := l.take k) rfl rfl (by repeat constructor) (fun w hw => hw.slF hs1) Tryz.underlying29 HLF.info46 (by rfl) (by rfl) (by (try simp only [List.length_cons, List.length_nil, List.length_append, List.length_take, List.length_drop]); omega) (by unfold maxLen; (try simp only [List.length_cons, List.length_nil, List.length_append, List.length_take, List.length_drop]); omega) rfl (fun V71 => ?_)
  refine Tr.q (QS.assign rfl) rfl ?_
  refine Tr.nil (Tr.thenN (Tr.seq (Tr.region ?_)))
  refine Tr.q (QS.move rfl) rfl ?_
  refine Tr.q (QS.lW rfl Tryz.isAgg46 Tryz.sizeOf46) rfl ?_
  refine Tr.lit1 (E := encIns) i rfl rfl Tryz.underlying29 Tryz.sizeOf46 Tryz.zeroValue46 (by rfl) (by rfl) rfl (fun V5 => ?_)
  refine Tr.append1 rfl rfl (by repeat constructor) (by repeat constructor) Tryz.underlying29 HLF.info46 (by rfl) (by rfl) (by (try simp only [List.length_cons, List.length_nil, List.length_append, List.length_take]); omega) (by unfold maxLen; (try simp only [List.length_cons, List.length_nil, List.length_append, List.length_take]); omega) rfl (fun V6 => ?_)
  refine Tr.q (QS.assign rfl) rfl ?_
  refine Tr.nil (Tr.thenN (Tr.seq (Tr.region ?_)))
  refine Tr.q (QS.move rfl) rfl ?_
  refine Tr.q (QS.move rfl) rfl ?_
  refine Tr.q (QS.move rfl) rfl ?_
  refine Tr.q (QS.slice (lv := some (_, _)) (hv := none) rfl (by assumption) rfl rfl Tryz.underlying29 Tryz.sizeOf46 (by rfl) (by simp only [loOf, hiOf] <;> first | omega | assumption | (simp only [NatCast.natCast, Int.ofNat_eq_natCast]; omega)) (by simp only [loOf, hiOf] <;> first | omega | assumption | (simp only [NatCast.natCast, Int.ofNat_eq_natCast]; omega)) (by simp only [loOf, hiOf] <;> first | omega | assumption | (simp only [NatCast.natCast, Int.ofNat_eq_natCast]; omega))) rfl ?_
  refine Tr.appendOf (ys := l.drop k) rfl rfl (by repeat constructor) (fun w hw => hw.slF hs2) Tryz.underlying29 HLF.info46 (by rfl) (by rfl) (by (try simp only [List.length_cons, List.length_nil, List.length_append, List.length_take, List.length_drop]); omega) (by unfold maxLen; (try simp only [List.length_cons, List.length_nil, List.length_append, List.length_take, List.length_drop]); omega) rfl (fun V73 => ?_)
  refine Tr.q (QS.assign rfl) rfl ?_
  refine Tr.nil (Tr.thenN (Tr.ret ?_))
  refine Tr.ret1 Tryz.results16 rfl (fun w' hw => ?_)
  have hres : ([] ++ l.take k) ++ [i] ++ l.drop k = putI l i := by unfold putI; rw [hid, List.nil_append]
  rw [hres] at hw
  exact ⟨_, rfl, hw.below (Bg.le.refl _), hw.new (.head _)⟩
set_option maxRecDepth 100000 in
set_option maxHeartbeats 4000000 in
theorem step12_any (i : Ins) (ts : List TabV) (at_ : List UInt32) (VT VP : Value) (w : World) (hT : Sl (hp w) encTab ts VT) (hTI : TabIn (hp w) ts) (hTB : TabB ts) (hP : Sl (hp w) encU32 at_ VP) (hl : ts.length = at_.length) (hI : InsOK i) :
  Calls Tryz.prog 17 #[.agg (encIns.enc i).toArray, VT, VP] w (fun e w' => ∃ V', e = .returned V' ∧ Ext w w' ∧ NewRow w w' 40 encU32 (leadP ts at_ i) V') := by
 have hT' : Sl (Bg.of w).blk encTab ts VT := hT
 have hTI' : TabIn (Bg.of w).blk ts := hTI
 have hP' : Sl (Bg.of w).blk encU32 at_ VP := hP
 have hKS : ∀ a, Sl (Bg.of w).blk encU32 ((knownP ts at_ a).getD []) (knownV ts at_ a) := fun a => known_sl hTI' hTB hl
 have hK1 := hKS i.addr
 have hkl := known_len hTB at_ i.addr
 have hsl := succ_len i
 refine enter Tryz.func17 rfl Tryz.ntmps17 rfl ?_
 refine Tr.seq (Tr.region ?_)
 refine Tr.box rfl rfl rfl (fun b1 => ?_)
 refine Tr.q (QS.assign rfl) rfl ?_
 refine Tr.nil (Tr.thenN (Tr.seq (Tr.region ?_)))
 refine Tr.q (QS.lW rfl Tryz.isAgg46 Tryz.sizeOf46) rfl ?_
 refine Tr.callRow rfl Tryz.call34 (fun w hw => succ12_any i w hI) rfl (fun V2 => ?_)
 refine Tr.q (QS.assign rfl) rfl ?_
 refine Tr.nil (Tr.thenN ?_)
 refine Tr.seqJ (ι := Value) (fun V2 => True) (fun _ => Bg.of w) (fun V2 => [rowE V2 40 encU32 (leadP ts at_ i), cellE b1 (encIns.enc i) 46]) (fun V2 => [(7, V2)]) ?_ (fun V2 hi => ?_)
 ·skip
  refine Tr.seq (Tr.region ?_)
  refine Tr.q (QS.fieldAddr (off := 2) (ft := 3) rfl Tryz.underlying46 rfl rfl Tryz.sizeOf3 (by decide)) rfl ?_
  refine Tr.q (QS.lV rfl Tryz.isAgg3) rfl ?_
  refine Tr.q (QS.call rfl Tryz.call35 (fun w hw => indirect12_any i.op w)) rfl ?_
  refine Tr.nil (Tr.thenN ?_)
  refine Tr.cond rfl (fun h3 => ?_) (fun h3 => ?_)
  ·try simp only [bs] at h3
   refine Tr.seq (Tr.region ?_)
   refine Tr.q (QS.fieldAddr (off := 0) (ft := 40) rfl Tryz.underlying46 rfl rfl Tryz.sizeOf40 (by decide)) rfl ?_
   refine Tr.q (QS.lV rfl Tryz.isAgg40) rfl ?_
   refine Tr.q (QS.move rfl) rfl ?_
   refine Tr.q (QS.move rfl) rfl ?_
   refine Tr.q (QS.call rfl Tryz.call36 (fun w hw => known12_any i.addr ts at_ VT VP w (hw.slF hT') (hw.slF hP') hl)) rfl ?_
   refine Tr.q (QS.move rfl) rfl ?_
   refine Tr.q (QS.extract rfl rfl) rfl ?_
   refine Tr.q (QS.extract rfl rfl) rfl ?_
   refine Tr.q (QS.assign rfl) rfl ?_
   refine Tr.q (QS.assign rfl) rfl ?_
   refine Tr.nil (Tr.thenN (Tr.region ?_))
   refine Tr.q (QS.move rfl) rfl ?_
   refine Tr.q (QS.move rfl) rfl ?_
   refine Tr.appendOf rfl rfl (by repeat constructor) (fun w hw => hw.slF (by assumption)) Tryz.underlying23 HLF.info40 (by rfl) (by rfl) (by (try simp only [List.length_cons, List.length_nil, List.length_append, List.length_take]); omega) (by unfold maxLen; (try simp only [List.length_cons, List.length_nil, List.length_append, List.length_take]); omega) rfl (fun V4 => ?_)
   refine Tr.q (QS.assign rfl) rfl ?_
   refine Tr.nil (Tr.thenN ?_)
   refine Tr.rowEq (l' := leadP ts at_ i) (by unfold leadP; rw [if_pos (by assumption)]) ?_
   apply Tr.joined _
   ·exact rfl
   ·exact (.cons (by first | rfl | exact lookI rfl (by omega) | exact lookI rfl (by simp) | exact lookB rfl (by simp)) Front.nil)
   ·exact SubX.dropN 17 (by kernel_rfl) rfl
   ·exact (by repeat' constructor)
   ·exact trivial
  ·try simp only [bs] at h3
   refine Tr.skip (Tr.thenN ?_)
   refine Tr.rowEq (l' := leadP ts at_ i) (by unfold leadP; rw [if_neg (by simp_all), List.append_nil]) ?_
   apply Tr.joined _
   ·exact rfl
   ·exact (.cons (by first | rfl | exact lookI rfl (by omega) | exact lookI rfl (by simp) | exact lookB rfl (by simp)) Front.nil)
   ·exact SubX.dropN 3 (by kernel_rfl) rfl
   ·exact (by repeat' constructor)
   ·exact trivial
 ·skip
  replace hi : True := hi
  change Tr _ _ [rowE V2 40 encU32 (leadP ts at_ i), cellE b1 (encIns.enc i) 46] ([(7, V2)] ++ _) _
  refine Tr.seq (Tr.region ?_)
  refine Tr.q (QS.move rfl) rfl ?_
  refine Tr.q (QS.assign rfl) rfl ?_
  refine Tr.nil (Tr.thenN (Tr.ret ?_))
  refine Tr.ret1 Tryz.results17 rfl (fun w' hw => ?_)
  exact ⟨_, rfl, hw.below (Bg.le.refl _), hw.new (.head _)⟩
set_option maxRecDepth 100000 in
set_option maxHeartbeats 4000000 in
theorem called12_any (i : Ins) (ts : List TabV) (at_ : List UInt32) (VT VP : Value) (H : Hp) (hH : Sl H encU32 ((knownP ts at_ i.addr).getD []) (knownV ts at_ i.addr)) (w : World) (hT : Sl (hp w) encTab ts VT) (hP : Sl (hp w) encU32 at_ VP) (hl : ts.length = at_.length) :
  Calls Tryz.prog 38 #[.agg (encIns.enc i).toArray, VT, VP] w (fun e w' => ∃ V', e = .returned V' ∧ Ext w w' ∧ (Sl H encU32 (callP ts at_ i) V' ∨ NewRow w w' 40 encU32 (callP ts at_ i) V')) := by
 have hT' : Sl (Bg.of w).blk encTab ts VT := hT
 have hP' : Sl (Bg.of w).blk encU32 at_ VP := hP
 refine enter Tryz.func38 rfl Tryz.ntmps38 rfl ?_
 refine Tr.seq (Tr.region ?_)
 refine Tr.box rfl rfl rfl (fun b1 => ?_)
 refine Tr.q (QS.assign rfl) rfl ?_
 refine Tr.nil (Tr.thenN (Tr.seq (Tr.seq (Tr.region ?_))))
 refine Tr.q (QS.fieldAddr (off := 2) (ft := 3) rfl Tryz.underlying46 rfl rfl Tryz.sizeOf3 (by decide)) rfl ?_
 refine Tr.q (QS.lV rfl Tryz.isAgg3) rfl ?_
 refine Tr.q (QS.eql rfl rfl) rfl ?_
 refine Tr.nil (Tr.thenN ?_)
 refine Tr.cond rfl (fun h2 => ?_) (fun h2 => ?_)
 ·try simp only [bs] at h2
  refine Tr.seq (Tr.region ?_)
  refine Tr.q (QS.fieldAddr (off := 1) (ft := 40) rfl Tryz.underlying46 rfl rfl Tryz.sizeOf40 (by decide)) rfl ?_
  refine Tr.q (QS.lV rfl Tryz.isAgg40) rfl ?_
  refine Tr.lit1 (E := encU32) i.imm rfl rfl Tryz.underlying23 Tryz.sizeOf40 Tryz.zeroValue40 (by rfl) (by rfl) rfl (fun V3 => ?_)
  refine Tr.q (QS.assign rfl) rfl ?_
  refine Tr.nil (Tr.thenN (Tr.ret (Tr.thenR ?_)))
  refine Tr.ret1 Tryz.results38 rfl (fun w' hw => ?_)
  exact ⟨_, rfl, hw.below (Bg.le.refl _), .inr (by rw [show callP ts at_ i = [i.imm] by unfold callP; rw [if_pos (by assumption)]]; exact hw.new (.head _))⟩
 ·try simp only [bs] at h2
  refine Tr.skip (Tr.thenN (Tr.seq (Tr.seq (Tr.region ?_))))
  refine Tr.q (QS.fieldAddr (off := 2) (ft := 3) rfl Tryz.underlying46 rfl rfl Tryz.sizeOf3 (by decide)) rfl ?_
  refine Tr.q (QS.lV rfl Tryz.isAgg3) rfl ?_
  refine Tr.q (QS.eql rfl rfl) rfl ?_
  refine Tr.nil (Tr.thenN ?_)
  refine Tr.cond rfl (fun h4 => ?_) (fun h4 => ?_)
  ·try simp only [bs] at h4
   refine Tr.seq (Tr.region ?_)
   refine Tr.q (QS.fieldAddr (off := 0) (ft := 40) rfl Tryz.underlying46 rfl rfl Tryz.sizeOf40 (by decide)) rfl ?_
   refine Tr.q (QS.lV rfl Tryz.isAgg40) rfl ?_
   refine Tr.q (QS.move rfl) rfl ?_
   refine Tr.q (QS.move rfl) rfl ?_
   refine Tr.q (QS.call rfl Tryz.call36 (fun w hw => known12_any i.addr ts at_ VT VP w (hw.slF hT') (hw.slF hP') hl)) rfl ?_
   refine Tr.q (QS.move rfl) rfl ?_
   refine Tr.q (QS.extract rfl rfl) rfl ?_
   refine Tr.q (QS.extract rfl rfl) rfl ?_
   refine Tr.q (QS.assign rfl) rfl ?_
   refine Tr.q (QS.assign rfl) rfl ?_
   refine Tr.nil (Tr.thenN (Tr.seq (Tr.region ?_)))
   refine Tr.q (QS.move rfl) rfl ?_
   refine Tr.q (QS.assign rfl) rfl ?_
   refine Tr.nil (Tr.thenN (Tr.ret (Tr.thenR ?_)))
   refine Tr.ret1 Tryz.results38 rfl (fun w' hw => ?_)
   exact ⟨_, rfl, hw.below (Bg.le.refl _), .inl (by rw [show callP ts at_ i = (knownP ts at_ i.addr).getD [] by unfold callP; rw [if_neg (by assumption), if_pos (by assumption)]]; exact hH)⟩
  ·try simp only [bs] at h4
   refine Tr.skip (Tr.thenN (Tr.seq (Tr.region ?_)))
   refine Tr.q (QS.assign rfl) rfl ?_
   refine Tr.nil (Tr.thenN (Tr.ret ?_))
   refine Tr.ret1 Tryz.results38 rfl (fun w' hw => ?_)
   exact ⟨_, rfl, hw.below (Bg.le.refl _), .inl (by rw [show callP ts at_ i = [] by unfold callP; rw [if_neg (by assumption), if_neg (by assumption)]]; exact Sl.nil _ _)⟩
set_option maxRecDepth 100000 in
set_option maxHeartbeats 2000000 in
theorem reached12_any (li : List Ins) (a : UInt32) (Vi Ve Vu Vb : Value) (w : World) (hI : Sl (hp w) encIns li Vi) :
  Calls Tryz.prog 37 #[.agg #[Vi, Ve, Vu, Vb], .int .u32 a.toNat] w (fun e w' => e = .returned (.bool (reachedP li a)) ∧ Ext w w') := by
 have hI' : Sl (Bg.of w).blk encIns li Vi := hI
 have hlen := hI.len_le
 refine enter Tryz.func37 rfl Tryz.ntmps37 rfl ?_
 refine Tr.seq (Tr.region ?_)
 refine Tr.box rfl rfl rfl (fun b1 => ?_)
 refine Tr.q (QS.assign rfl) rfl ?_
 refine Tr.nil (Tr.thenN (Tr.seq (Tr.seq (Tr.region ?_))))
 refine Tr.q (QS.assign rfl) rfl ?_
 refine Tr.nil (Tr.thenN (Tr.block ?_))
 refine Tr.loop (ι := Nat) (fun k => k ≤ li.length ∧ (li.take k).any (fun i => decide (i.addr = a)) = false) (fun _ => _) (fun k => [cellE b1 [Vi, Ve, Vu, Vb] 35]) (fun k => [(5, .int .i64 (k : Nat))]) (fun k => li.length - k) 0 ⟨Nat.zero_le _, rfl⟩ (.cons (by first | rfl | exact lookI rfl (by omega) | exact lookI rfl (by simp) | exact lookB rfl (by simp)) Front.nil) (by repeat' constructor) rfl (fun k hi m hm => ?_)
 replace hi : k ≤ li.length ∧ (li.take k).any (fun i => decide (i.addr = a)) = false := hi
 replace hm : m = li.length - k := hm
 change Tr _ _ [cellE b1 [Vi, Ve, Vu, Vb] 35] ([(5, .int .i64 (k : Nat))] ++ _) _
 obtain ⟨hk1, hk2⟩ := hi
 refine Tr.seq (Tr.seq (Tr.region ?_))
 refine Tr.q (QS.move rfl) rfl ?_
 refine Tr.q (QS.fieldAddr (off := 0) (ft := 29) rfl Tryz.underlying35 rfl rfl Tryz.sizeOf29 (by decide)) rfl ?_
 refine Tr.q (QS.lV rfl Tryz.isAgg29) rfl ?_
 refine Tr.q (QS.len rfl (by assumption) Tryz.underlying29) rfl ?_
 refine Tr.q (QS.lss rfl rfl) rfl ?_
 refine Tr.nil (Tr.thenN ?_)
 refine Tr.cond rfl (fun h2 => ?_) (fun h2 => ?_)
 ·try simp only [bs] at h2
  refine Tr.skip (Tr.thenN (Tr.seq (Tr.block (Tr.seq (Tr.region ?_)))))
  refine Tr.q (QS.fieldAddr (off := 0) (ft := 29) rfl Tryz.underlying35 rfl rfl Tryz.sizeOf29 (by decide)) rfl ?_
  refine Tr.q (QS.lV rfl Tryz.isAgg29) rfl ?_
  refine Tr.q (QS.move rfl) rfl ?_
  refine Tr.q (QS.idxN rfl rfl (by assumption) Tryz.underlying29 Tryz.sizeOf46 (by rfl) (by omega)) rfl ?_
  refine Tr.q (QS.fieldAddr (off := 0) (ft := 40) rfl Tryz.underlying46 rfl rfl Tryz.sizeOf40 (by decide)) rfl ?_
  refine Tr.q (QS.elF rfl (by assumption) Tryz.isAgg40 (by omega) (by rfl)) rfl ?_
  refine Tr.q (QS.move rfl) rfl ?_
  refine Tr.q (QS.eql32 rfl rfl) rfl ?_
  refine Tr.nil (Tr.thenN ?_)
  refine Tr.cond rfl (fun h3 => ?_) (fun h3 => ?_)
  ·try simp only [bs] at h3
   refine Tr.seq (Tr.region ?_)
   refine Tr.q (QS.assign rfl) rfl ?_
   refine Tr.nil (Tr.thenN (Tr.ret ?_))
   refine Tr.inR ?_
   refine Tr.thenR (Tr.thenR ?_)
   refine Tr.inR ?_
   refine Tr.thenR ?_
   refine Tr.ret1 Tryz.results37 rfl (fun w' hw => ?_)
   have hy : (li.any fun i => decide (i.addr = a)) = true := List.any_eq_true.2 ⟨li.getD k default, mem_getD (by omega), decide_eq_true (by assumption)⟩
   exact ⟨by rw [reachedP, hy], hw.below (Bg.le.refl _)⟩
  ·try simp only [bs] at h3
   refine Tr.skip (Tr.inN (Tr.thenN (Tr.region ?_)))
   refine Tr.q (QS.move rfl) rfl ?_
   refine Tr.q (QS.addI rfl rfl (by omega)) rfl ?_
   refine Tr.q (QS.assign rfl) rfl ?_
   refine Tr.nil (Tr.thenN ?_)
   apply Tr.again (k + 1)
   ·exact rfl
   ·exact (.cons (by first | rfl | exact lookI rfl (by omega) | exact lookI rfl (by simp) | exact lookB rfl (by simp)) Front.nil)
   ·exact SubX.dropN 17 (by kernel_rfl) rfl
   ·exact (by repeat' constructor)
   ·exact ⟨by omega, by rw [any_take_succ (by omega), hk2, Bool.false_or]; exact decide_eq_false (by assumption)⟩
   ·exact (by (try dsimp only); omega)
 ·try simp only [bs] at h2
  refine Tr.exit ?_
  refine Tr.thenE (Tr.thenE (Tr.inHit (Tr.thenN (Tr.seq (Tr.region ?_)))))
  refine Tr.q (QS.assign rfl) rfl ?_
  refine Tr.nil (Tr.thenN (Tr.ret ?_))
  refine Tr.ret1 Tryz.results37 rfl (fun w' hw => ?_)
  exact ⟨by rw [reachedP, ← hk2, List.take_of_length_le (by omega)], hw.below (Bg.le.refl _)⟩
set_option maxRecDepth 100000 in
set_option maxHeartbeats 8000000 in
theorem lists12_any (ins : List Ins) (es : List UInt32) (Vi Vb VE : Value) (ts : List TabV) (at_ : List UInt32) (VT VP : Value) (w : World) (hI : Sl (hp w) encIns ins Vi) (hVb : ∃ p n c, Vb = .slice p n c) (hE : Sl (hp w) encU32 es VE) (hT : Sl (hp w) encTab ts VT) (hTI : TabIn (hp w) ts) (hTB : TabB ts) (hP : Sl (hp w) encU32 at_ VP) (hl : ts.length = at_.length) (hin : ins.length ≤ 1000) (hel : es.length ≤ 1000) :
  Calls Tryz.prog 18 #[.agg #[Vi, .slice none 0 0, .slice none 0 0, Vb], VE, VT, VP] w (fun e w' => ∃ j : Value × Value, e = .returned (.agg #[Vi, j.1, j.2, Vb]) ∧ Ext w w' ∧ NewEnts w w' [rowE j.1 40 encU32 (entG ts at_ ins ins (entF ins es [])), rowE j.2 40 encU32 (unkF ts at_ ins [])] ∧ True) := by
 have hI' : Sl (Bg.of w).blk encIns ins Vi := hI
 have hE' : Sl (Bg.of w).blk encU32 es VE := hE
 have hT' : Sl (Bg.of w).blk encTab ts VT := hT
 have hTI' : TabIn (Bg.of w).blk ts := hTI
 have hP' : Sl (Bg.of w).blk encU32 at_ VP := hP
 have hKS : ∀ a, Sl (Bg.of w).blk encU32 ((knownP ts at_ a).getD []) (knownV ts at_ a) := fun a => known_sl hTI' hTB hl
 refine enter Tryz.func18 rfl Tryz.ntmps18 rfl ?_
 refine Tr.seq (Tr.region ?_)
 refine Tr.box rfl rfl rfl (fun b1 => ?_)
 refine Tr.alloc Tryz.zeroValue35 rfl rfl (fun b2 => ?_)
 refine Tr.nil (Tr.thenN (Tr.seq (Tr.seq (Tr.region ?_))))
 refine Tr.q (QS.assign rfl) rfl ?_
 refine Tr.nil (Tr.thenN (Tr.block ?_))
 refine Tr.ownNil 40 encU32 ?_
 refine Tr.loop (ι := Nat × Value) (fun ⟨k, Ve⟩ => k ≤ es.length) (fun _ => _) (fun ⟨k, Ve⟩ => [rowE Ve 40 encU32 (entF ins (es.take k) []), cellE b1 [Vi, Ve, .slice none 0 0, Vb] 35, cellE b2 [.slice none 0 0, .slice none 0 0, .slice none 0 0, .slice none 0 0] 35]) (fun ⟨k, Ve⟩ => [(9, .int .i64 (k : Nat))]) (fun ⟨k, Ve⟩ => es.length - k) (0, _) (Nat.zero_le _) (.cons (by first | rfl | exact lookI rfl (by omega) | exact lookI rfl (by simp) | exact lookB rfl (by simp)) Front.nil) (by repeat' constructor) rfl (fun i hi m hm => ?_)
 obtain ⟨k, Ve⟩ := i
 replace hi : k ≤ es.length := hi
 replace hm : m = es.length - k := hm
 change Tr _ _ [rowE Ve 40 encU32 (entF ins (es.take k) []), cellE b1 [Vi, Ve, .slice none 0 0, Vb] 35, cellE b2 [.slice none 0 0, .slice none 0 0, .slice none 0 0, .slice none 0 0] 35] ([(9, .int .i64 (k : Nat))] ++ _) _
 have hefl := entF_len ins (es.take k) []
 rw [List.length_take, List.length_nil] at hefl
 refine Tr.seq (Tr.seq (Tr.region ?_))
 refine Tr.q (QS.move rfl) rfl ?_
 refine Tr.q (QS.move rfl) rfl ?_
 refine Tr.q (QS.len rfl (by assumption) Tryz.underlying23) rfl ?_
 refine Tr.q (QS.lss rfl rfl) rfl ?_
 refine Tr.nil (Tr.thenN ?_)
 refine Tr.cond rfl (fun h3 => ?_) (fun h3 => ?_)
 ·try simp only [bs] at h3
  refine Tr.skip (Tr.thenN (Tr.seq (Tr.block (Tr.seq ?_))))
  refine Tr.regionQ HLF.mixed (by kernel_rfl) ?_
  refine TrQ.q (QS.lW rfl Tryz.isAgg35 Tryz.sizeOf35) rfl ?_
  refine TrQ.q (QS.move rfl) rfl ?_
  refine TrQ.q (QS.move rfl) rfl ?_
  refine TrQ.q (QS.idxN rfl rfl (by assumption) Tryz.underlying23 Tryz.sizeOf40 (by rfl) (by omega)) rfl ?_
  refine TrQ.q (QS.el1 rfl (by assumption) Tryz.isAgg40 (by omega) (by rfl)) rfl ?_
  refine TrQ.q (QS.call rfl Tryz.call37 (fun w hw => reached12_any ins (es.getD k default) Vi _ _ Vb w (hw.slF hI'))) rfl ?_
  refine TrQ.nil ?_
  refine Tr.thenN ?_
  refine Tr.cond rfl (fun h4 => ?_) (fun h4 => ?_)
  ·try simp only [bs] at h4
   refine Tr.regionT 0 6 HLF.mixed (by kernel_rfl) (panicIn (panicThen (panicThen (panicIn (panicThen panicBody))))) ?_
   refine TrQ.pureNil ?_
   refine TrQ.q (QS.fieldAddr (off := 1) (ft := 23) rfl Tryz.underlying35 rfl rfl Tryz.sizeOf23 (by decide)) rfl ?_
   refine TrQ.q (QS.lV rfl Tryz.isAgg23) rfl ?_
   refine TrQ.q (QS.move rfl) rfl ?_
   refine TrQ.q (QS.move rfl) rfl ?_
   refine TrQ.q (QS.idxN rfl rfl (by assumption) Tryz.underlying23 Tryz.sizeOf40 (by rfl) (by omega)) rfl ?_
   refine TrQ.q (QS.el1 rfl (by assumption) Tryz.isAgg40 (by omega) (by rfl)) rfl ?_
   refine TrQ.nil ?_
   refine Tr.callReRow rfl Tryz.call15 (by repeat constructor) (fun w hw => insert06_any (entF ins (es.take k) []) _ (es.getD k default) w (hw.row (by repeat constructor)) (by omega)) rfl (fun V81 => ?_)
   refine Tr.rowShape (V := V81) (by repeat constructor) (fun p81 c81 hpv => ?_)
   subst hpv
   refine Tr.q (QS.fieldAddr (off := 1) (ft := 23) rfl Tryz.underlying35 rfl rfl Tryz.sizeOf23 (by decide)) rfl ?_
   refine Tr.storeV (cs' := [_, _, _, _]) rfl rfl Tryz.sizeOf23 (by repeat constructor) rfl (by rfl) (by first | exact Nat.le_of_ble_eq_true rfl | simp) (by first | exact List.all_eq_true.1 rfl | (intro u hu; simp [Value.cells] at hu; simp_all [Value.oneCell'])) rfl ?_
   refine Tr.nil (Tr.inN (Tr.thenN (Tr.region ?_)))
   refine Tr.q (QS.move rfl) rfl ?_
   refine Tr.q (QS.addI rfl rfl (by omega)) rfl ?_
   refine Tr.q (QS.assign rfl) rfl ?_
   refine Tr.nil (Tr.thenN ?_)
   rw [entF_yes (by omega) (by assumption)]
   apply Tr.again (k + 1, _)
   ·exact rfl
   ·exact (.cons (by first | rfl | exact lookI rfl (by omega) | exact lookI rfl (by simp) | exact lookB rfl (by simp)) Front.nil)
   ·exact SubX.dropN 22 (by kernel_rfl) rfl
   ·exact (by repeat' constructor)
   ·exact (by show k + 1 ≤ _; omega)
   ·exact (by (try dsimp only); omega)
  ·try simp only [bs] at h4
   refine Tr.skip (Tr.inN (Tr.thenN (Tr.region ?_)))
   refine Tr.q (QS.move rfl) rfl ?_
   refine Tr.q (QS.addI rfl rfl (by omega)) rfl ?_
   refine Tr.q (QS.assign rfl) rfl ?_
   refine Tr.nil (Tr.thenN ?_)
   rw [entF_no (by omega) (by simp_all)]
   apply Tr.again (k + 1, _)
   ·exact rfl
   ·exact (.cons (by first | rfl | exact lookI rfl (by omega) | exact lookI rfl (by simp) | exact lookB rfl (by simp)) Front.nil)
   ·exact SubX.dropN 14 (by kernel_rfl) rfl
   ·exact (by repeat' constructor)
   ·exact (by show k + 1 ≤ _; omega)
   ·exact (by (try dsimp only); omega)
 ·try simp only [bs] at h3
  refine Tr.exit ?_
  refine Tr.thenE (Tr.thenE (Tr.inHit (Tr.thenN (Tr.seq (Tr.seq ?_)))))
  obtain rfl : k = es.length := by omega
  rw [List.take_length]
  refine Tr.ownNil 40 encU32 ?_
  refine Tr.region ?_
  refine Tr.q (QS.assign rfl) rfl ?_
  refine Tr.nil (Tr.thenN (Tr.block ?_))
  refine Tr.loop (ι := Nat × Value × Value) (fun ⟨i, Ve, Vu⟩ => i ≤ ins.length) (fun _ => _) (fun ⟨i, Ve, Vu⟩ => [rowE Ve 40 encU32 (entG ts at_ ins (ins.take i) (entF ins es [])), rowE Vu 40 encU32 (unkF ts at_ (ins.take i) []), cellE b1 [Vi, Ve, Vu, Vb] 35, cellE b2 [.slice none 0 0, .slice none 0 0, .slice none 0 0, .slice none 0 0] 35]) (fun ⟨i, Ve, Vu⟩ => [(10, .int .i64 (i : Nat))]) (fun ⟨i, Ve, Vu⟩ => ins.length - i) (0, _, _) (Nat.zero_le _) (.cons (by first | rfl | exact lookI rfl (by omega) | exact lookI rfl (by simp) | exact lookB rfl (by simp)) Front.nil) (by repeat' constructor) rfl (fun i hi m hm => ?_)
  obtain ⟨i, Ve, Vu⟩ := i
  replace hi : i ≤ ins.length := hi
  replace hm : m = ins.length - i := hm
  change Tr _ _ [rowE Ve 40 encU32 (entG ts at_ ins (ins.take i) (entF ins es [])), rowE Vu 40 encU32 (unkF ts at_ (ins.take i) []), cellE b1 [Vi, Ve, Vu, Vb] 35, cellE b2 [.slice none 0 0, .slice none 0 0, .slice none 0 0, .slice none 0 0] 35] ([(10, .int .i64 (i : Nat))] ++ _) _
  have he0 := entF_len ins es []
  rw [List.length_nil] at he0
  refine Tr.seq (Tr.seq (Tr.region ?_))
  refine Tr.q (QS.move rfl) rfl ?_
  refine Tr.q (QS.fieldAddr (off := 0) (ft := 29) rfl Tryz.underlying35 rfl rfl Tryz.sizeOf29 (by decide)) rfl ?_
  refine Tr.q (QS.lV rfl Tryz.isAgg29) rfl ?_
  refine Tr.q (QS.len rfl (by assumption) Tryz.underlying29) rfl ?_
  refine Tr.q (QS.lss rfl rfl) rfl ?_
  refine Tr.nil (Tr.thenN ?_)
  refine Tr.cond rfl (fun h5 => ?_) (fun h5 => ?_)
  ·try simp only [bs] at h5
   refine Tr.skip (Tr.thenN (Tr.seq (Tr.block (Tr.seq (Tr.region ?_)))))
   refine Tr.q (QS.fieldAddr (off := 0) (ft := 29) rfl Tryz.underlying35 rfl rfl Tryz.sizeOf29 (by decide)) rfl ?_
   refine Tr.q (QS.lV rfl Tryz.isAgg29) rfl ?_
   refine Tr.q (QS.move rfl) rfl ?_
   refine Tr.q (QS.idxN rfl rfl (by assumption) Tryz.underlying29 Tryz.sizeOf46 (by rfl) (by omega)) rfl ?_
   refine Tr.q (QS.elA rfl (by assumption) Tryz.isAgg46 Tryz.sizeOf46 (by rfl) (by omega)) rfl ?_
   refine Tr.q (QS.move rfl) rfl ?_
   refine Tr.q (QS.move rfl) rfl ?_
   refine Tr.callSl rfl Tryz.call38 (fun w hw => called12_any (ins.getD i default) ts at_ VT VP _ (hKS _) w (hw.slF hT') (hw.slF hP') hl) rfl (fun Vl F1 hF1 hsl => ?_)
   obtain ⟨pl, cl, hvl, _⟩ := hsl.shape
   subst hvl
   have hI2 := hI'.mono hF1.blk
   have hT2 := hT'.mono hF1.blk
   have hP2 := hP'.mono hF1.blk
   have hcl := call_len (at_ := at_) hTB (ins.getD i default)
   have hegl := entG_len (at_ := at_) hTB ins (ins.take i) (entF ins es [])
   have hul := unkF_len (ts := ts) (at_ := at_) (ins.take i) []
   rw [List.length_take] at hegl hul
   rw [List.length_nil] at hul
   refine Tr.q (QS.assign rfl) rfl ?_
   refine Tr.nil (Tr.thenN (Tr.seq (Tr.seq (Tr.region ?_))))
   refine Tr.q (QS.assign rfl) rfl ?_
   refine Tr.nil (Tr.thenN (Tr.block ?_))
   refine Tr.loop (ι := Nat × Value) (fun ⟨j, Ve⟩ => j ≤ (callP ts at_ (ins.getD i default)).length) (fun _ => F1) (fun ⟨j, Ve⟩ => [rowE Ve 40 encU32 (entF ins ((callP ts at_ (ins.getD i default)).take j) (entG ts at_ ins (ins.take i) (entF ins es []))), rowE Vu 40 encU32 (unkF ts at_ (ins.take i) []), cellE b1 [Vi, Ve, Vu, Vb] 35, cellE b2 [.slice none 0 0, .slice none 0 0, .slice none 0 0, .slice none 0 0] 35]) (fun ⟨j, Ve⟩ => [(12, .int .i64 (j : Nat))]) (fun ⟨j, Ve⟩ => (callP ts at_ (ins.getD i default)).length - j) (0, _) (Nat.zero_le _) (.cons (by first | rfl | exact lookI rfl (by omega) | exact lookI rfl (by simp) | exact lookB rfl (by simp)) Front.nil) (by repeat' constructor) rfl (fun i hi m hm => ?_)
   obtain ⟨j, Ve⟩ := i
   replace hi : j ≤ (callP ts at_ (ins.getD i default)).length := hi
   replace hm : m = (callP ts at_ (ins.getD i default)).length - j := hm
   change Tr _ _ [rowE Ve 40 encU32 (entF ins ((callP ts at_ (ins.getD i default)).take j) (entG ts at_ ins (ins.take i) (entF ins es []))), rowE Vu 40 encU32 (unkF ts at_ (ins.take i) []), cellE b1 [Vi, Ve, Vu, Vb] 35, cellE b2 [.slice none 0 0, .slice none 0 0, .slice none 0 0, .slice none 0 0] 35] ([(12, .int .i64 (j : Nat))] ++ _) _
   have hefl := entF_len ins ((callP ts at_ (ins.getD i default)).take j) (entG ts at_ ins (ins.take i) (entF ins es []))
   rw [List.length_take] at hefl
   refine Tr.seq (Tr.seq (Tr.region ?_))
   refine Tr.q (QS.move rfl) rfl ?_
   refine Tr.q (QS.move rfl) rfl ?_
   refine Tr.q (QS.len rfl (by assumption) Tryz.underlying23) rfl ?_
   refine Tr.q (QS.lss rfl rfl) rfl ?_
   refine Tr.nil (Tr.thenN ?_)
   refine Tr.cond rfl (fun h6 => ?_) (fun h6 => ?_)
   ·try simp only [bs] at h6
    refine Tr.skip (Tr.thenN (Tr.seq (Tr.block (Tr.seq ?_))))
    refine Tr.regionQ HLF.mixed (by kernel_rfl) ?_
    refine TrQ.q (QS.lW rfl Tryz.isAgg35 Tryz.sizeOf35) rfl ?_
    refine TrQ.q (QS.move rfl) rfl ?_
    refine TrQ.q (QS.move rfl) rfl ?_
    refine TrQ.q (QS.idxN rfl rfl (by assumption) Tryz.underlying23 Tryz.sizeOf40 (by rfl) (by omega)) rfl ?_
    refine TrQ.q (QS.el1 rfl (by assumption) Tryz.isAgg40 (by omega) (by rfl)) rfl ?_
    refine TrQ.q (QS.call rfl Tryz.call37 (fun w hw => reached12_any ins ((callP ts at_ (ins.getD i default)).getD j default) Vi _ _ Vb w (hw.slF hI2))) rfl ?_
    refine TrQ.nil ?_
    refine Tr.thenN ?_
    refine Tr.cond rfl (fun h7 => ?_) (fun h7 => ?_)
    ·try simp only [bs] at h7
     refine Tr.regionT 0 6 HLF.mixed (by kernel_rfl) (panicIn (panicThen (panicThen (panicIn (panicThen (panicIn (panicThen (panicThen (panicIn (panicThen panicBody)))))))))) ?_
     refine TrQ.pureNil ?_
     refine TrQ.q (QS.fieldAddr (off := 1) (ft := 23) rfl Tryz.underlying35 rfl rfl Tryz.sizeOf23 (by decide)) rfl ?_
     refine TrQ.q (QS.lV rfl Tryz.isAgg23) rfl ?_
     refine TrQ.q (QS.move rfl) rfl ?_
     refine TrQ.q (QS.move rfl) rfl ?_
     refine TrQ.q (QS.idxN rfl rfl (by assumption) Tryz.underlying23 Tryz.sizeOf40 (by rfl) (by omega)) rfl ?_
     refine TrQ.q (QS.el1 rfl (by assumption) Tryz.isAgg40 (by omega) (by rfl)) rfl ?_
     refine TrQ.nil ?_
     refine Tr.callReRow rfl Tryz.call15 (by repeat constructor) (fun w hw => insert06_any (entF ins ((callP ts at_ (ins.getD i default)).take j) (entG ts at_ ins (ins.take i) (entF ins es []))) _ ((callP ts at_ (ins.getD i default)).getD j default) w (hw.row (by repeat constructor)) (by omega)) rfl (fun V82 => ?_)
     refine Tr.rowShape (V := V82) (by repeat constructor) (fun p82 c82 hpv => ?_)
     subst hpv
     refine Tr.q (QS.fieldAddr (off := 1) (ft := 23) rfl Tryz.underlying35 rfl rfl Tryz.sizeOf23 (by decide)) rfl ?_
     refine Tr.storeV (cs' := [_, _, _, _]) rfl rfl Tryz.sizeOf23 (by repeat constructor) rfl (by rfl) (by first | exact Nat.le_of_ble_eq_true rfl | simp) (by first | exact List.all_eq_true.1 rfl | (intro u hu; simp [Value.cells] at hu; simp_all [Value.oneCell'])) rfl ?_
     refine Tr.nil (Tr.inN (Tr.thenN (Tr.region ?_)))
     refine Tr.q (QS.move rfl) rfl ?_
     refine Tr.q (QS.addI rfl rfl (by omega)) rfl ?_
     refine Tr.q (QS.assign rfl) rfl ?_
     refine Tr.nil (Tr.thenN ?_)
     rw [entF_yes (by omega) (by assumption)]
     apply Tr.again (j + 1, _)
     ·exact rfl
     ·exact (.cons (by first | rfl | exact lookI rfl (by omega) | exact lookI rfl (by simp) | exact lookB rfl (by simp)) Front.nil)
     ·exact SubX.dropN 22 (by kernel_rfl) rfl
     ·exact (by repeat' constructor)
     ·exact (by show j + 1 ≤ _; omega)
     ·exact (by (try dsimp only); omega)
    ·try simp only [bs] at h7
     refine Tr.skip (Tr.inN (Tr.thenN (Tr.region ?_)))
     refine Tr.q (QS.move rfl) rfl ?_
     refine Tr.q (QS.addI rfl rfl (by omega)) rfl ?_
     refine Tr.q (QS.assign rfl) rfl ?_
     refine Tr.nil (Tr.thenN ?_)
     rw [entF_no (by omega) (by simp_all)]
     apply Tr.again (j + 1, _)
     ·exact rfl
     ·exact (.cons (by first | rfl | exact lookI rfl (by omega) | exact lookI rfl (by simp) | exact lookB rfl (by simp)) Front.nil)
     ·exact SubX.dropN 14 (by kernel_rfl) rfl
     ·exact (by repeat' constructor)
     ·exact (by show j + 1 ≤ _; omega)
     ·exact (by (try dsimp only); omega)
   ·try simp only [bs] at h6
    refine Tr.exit ?_
    refine Tr.thenE (Tr.thenE (Tr.inHit (Tr.thenN (Tr.seq (Tr.region ?_)))))
    refine Tr.q (QS.fieldAddr (off := 0) (ft := 29) rfl Tryz.underlying35 rfl rfl Tryz.sizeOf29 (by decide)) rfl ?_
    refine Tr.q (QS.lV rfl Tryz.isAgg29) rfl ?_
    refine Tr.q (QS.move rfl) rfl ?_
    refine Tr.q (QS.idxN rfl rfl (by assumption) Tryz.underlying29 Tryz.sizeOf46 (by rfl) (by omega)) rfl ?_
    refine Tr.q (QS.fieldAddr (off := 0) (ft := 40) rfl Tryz.underlying46 rfl rfl Tryz.sizeOf40 (by decide)) rfl ?_
    refine Tr.q (QS.elF rfl (by assumption) Tryz.isAgg40 (by omega) (by rfl)) rfl ?_
    refine Tr.q (QS.move rfl) rfl ?_
    refine Tr.q (QS.move rfl) rfl ?_
    refine Tr.q (QS.call rfl Tryz.call36 (fun w hw => known12_any (ins.getD i default).addr ts at_ VT VP w (hw.slF hT2) (hw.slF hP2) hl)) rfl ?_
    refine Tr.q (QS.move rfl) rfl ?_
    refine Tr.q (QS.extract rfl rfl) rfl ?_
    refine Tr.q (QS.extract rfl rfl) rfl ?_
    refine Tr.q (QS.assign rfl) rfl ?_
    refine Tr.q (QS.assign rfl) rfl ?_
    refine Tr.nil (Tr.thenN (Tr.seq (Tr.region ?_)))
    refine Tr.q (QS.fieldAddr (off := 0) (ft := 29) rfl Tryz.underlying35 rfl rfl Tryz.sizeOf29 (by decide)) rfl ?_
    refine Tr.q (QS.lV rfl Tryz.isAgg29) rfl ?_
    refine Tr.q (QS.move rfl) rfl ?_
    refine Tr.q (QS.idxN rfl rfl (by assumption) Tryz.underlying29 Tryz.sizeOf46 (by rfl) (by omega)) rfl ?_
    refine Tr.q (QS.fieldAddr (off := 2) (ft := 3) rfl Tryz.underlying46 rfl rfl Tryz.sizeOf3 (by decide)) rfl ?_
    refine Tr.q (QS.elF rfl (by assumption) Tryz.isAgg3 (by omega) (by rfl)) rfl ?_
    refine Tr.q (QS.call rfl Tryz.call35 (fun w hw => indirect12_any (ins.getD i default).op w)) rfl ?_
    refine Tr.q (QS.move rfl) rfl ?_
    apply Tr.andP
    ·exact (rfl : _ = (3, 89, 92))
    ·exact rfl
    ·intro hT8; have hT8' := hT8
     try simp only [bs] at hT8'
     refine Tr.gq rfl rfl hT8 (QS.move rfl) rfl ?_
     refine Tr.gq rfl rfl hT8 (QS.not rfl) rfl ?_
     refine Tr.q (QS.pickT rfl hT8 rfl) rfl ?_
     refine Tr.nil (Tr.thenN ?_)
     exact Tr.endX (Sub.cons rfl (Sub.dropN 3 (by kernel_rfl) rfl))
    ·intro hF8
     refine Tr.gskip rfl rfl hF8 rfl ?_
     refine Tr.gskip rfl rfl hF8 rfl ?_
     refine Tr.q (QS.pickF rfl hF8 rfl) rfl ?_
     refine Tr.nil (Tr.thenN ?_)
     exact Tr.endX (Sub.cons rfl (Sub.dropN 3 (by kernel_rfl) rfl))
    refine Tr.nil (Tr.thenN ?_)
    refine Tr.cond rfl (fun h9 => ?_) (fun h9 => ?_)
    ·try simp only [bs] at h9
     refine Tr.regionT 0 8 HLF.mixed (by kernel_rfl) (panicIn (panicThen (panicThen (panicIn (panicThen panicBody))))) ?_
     refine TrQ.pureNil ?_
     refine TrQ.q (QS.fieldAddr (off := 2) (ft := 23) rfl Tryz.underlying35 rfl rfl Tryz.sizeOf23 (by decide)) rfl ?_
     refine TrQ.q (QS.lV rfl Tryz.isAgg23) rfl ?_
     refine TrQ.q (QS.fieldAddr (off := 0) (ft := 29) rfl Tryz.underlying35 rfl rfl Tryz.sizeOf29 (by decide)) rfl ?_
     refine TrQ.q (QS.lV rfl Tryz.isAgg29) rfl ?_
     refine TrQ.q (QS.move rfl) rfl ?_
     refine TrQ.q (QS.idxN rfl rfl (by assumption) Tryz.underlying29 Tryz.sizeOf46 (by rfl) (by omega)) rfl ?_
     refine TrQ.q (QS.fieldAddr (off := 0) (ft := 40) rfl Tryz.underlying46 rfl rfl Tryz.sizeOf40 (by decide)) rfl ?_
     refine TrQ.q (QS.elF rfl (by assumption) Tryz.isAgg40 (by omega) (by rfl)) rfl ?_
     refine TrQ.nil ?_
     refine Tr.callReRow rfl Tryz.call15 (by repeat constructor) (fun w hw => insert06_any (unkF ts at_ (ins.take i) []) _ (ins.getD i default).addr w (hw.row (by repeat constructor)) (by omega)) rfl (fun V83 => ?_)
     refine Tr.rowShape (V := V83) (by repeat constructor) (fun p83 c83 hpv => ?_)
     subst hpv
     refine Tr.q (QS.fieldAddr (off := 2) (ft := 23) rfl Tryz.underlying35 rfl rfl Tryz.sizeOf23 (by decide)) rfl ?_
     refine Tr.storeV (cs' := [_, _, _, _]) rfl rfl Tryz.sizeOf23 (by repeat constructor) rfl (by rfl) (by first | exact Nat.le_of_ble_eq_true rfl | simp) (by first | exact List.all_eq_true.1 rfl | (intro u hu; simp [Value.cells] at hu; simp_all [Value.oneCell'])) rfl ?_
     refine Tr.nil (Tr.inN (Tr.thenN (Tr.region ?_)))
     refine Tr.q (QS.move rfl) rfl ?_
     refine Tr.q (QS.addI rfl rfl (by omega)) rfl ?_
     refine Tr.q (QS.assign rfl) rfl ?_
     refine Tr.nil (Tr.thenN ?_)
     have hun : unkP ts at_ (ins.getD i default) = true := by unfold unkP; simp_all
     refine Tr.weak hF1 ?_
     obtain rfl : j = (callP ts at_ (ins.getD i default)).length := by omega
     rw [List.take_length, entG_next (by omega), unkF_yes (by omega) hun]
     apply Tr.again (i + 1, _, _)
     ·exact rfl
     ·exact (.cons (by first | rfl | exact lookI rfl (by omega) | exact lookI rfl (by simp) | exact lookB rfl (by simp)) Front.nil)
     ·exact SubX.dropN 57 (by kernel_rfl) rfl
     ·exact (by repeat' constructor)
     ·exact (by show i + 1 ≤ _; omega)
     ·exact (by (try dsimp only); omega)
    ·try simp only [bs] at h9
     refine Tr.skip (Tr.inN (Tr.thenN (Tr.region ?_)))
     refine Tr.q (QS.move rfl) rfl ?_
     refine Tr.q (QS.addI rfl rfl (by omega)) rfl ?_
     refine Tr.q (QS.assign rfl) rfl ?_
     refine Tr.nil (Tr.thenN ?_)
     have hun : ¬ unkP ts at_ (ins.getD i default) = true := unk_no (by assumption)
     refine Tr.weak hF1 ?_
     obtain rfl : j = (callP ts at_ (ins.getD i default)).length := by omega
     rw [List.take_length, entG_next (by omega), unkF_no (by omega) hun]
     apply Tr.again (i + 1, _, _)
     ·exact rfl
     ·exact (.cons (by first | rfl | exact lookI rfl (by omega) | exact lookI rfl (by simp) | exact lookB rfl (by simp)) Front.nil)
     ·exact SubX.dropN 47 (by kernel_rfl) rfl
     ·exact (by repeat' constructor)
     ·exact (by show i + 1 ≤ _; omega)
     ·exact (by (try dsimp only); omega)
  ·try simp only [bs] at h5
   refine Tr.exit ?_
   refine Tr.thenE (Tr.thenE (Tr.inHit (Tr.thenN (Tr.seq ?_))))
   obtain rfl : i = ins.length := by omega
   rw [List.take_length]
   obtain ⟨p91, c91, hvi, _⟩ := hI'.shape
   subst hvi
   obtain ⟨p92, n92, c92, hvb⟩ := hVb
   subst hvb
   refine Tr.rowShape (V := Ve) (by repeat constructor) (fun p93 c93 hpv => ?_)
   subst hpv
   refine Tr.rowShape (V := Vu) (by repeat constructor) (fun p94 c94 hpv => ?_)
   subst hpv
   refine Tr.region ?_
   refine Tr.q (QS.lW rfl Tryz.isAgg35 Tryz.sizeOf35) rfl ?_
   refine Tr.storeW rfl rfl Tryz.sizeOf35 (by repeat constructor) (by rfl) (by rfl) (by first | exact List.all_eq_true.1 rfl | exact Enc.one _ _ | (intro u hu; simp [Value.cells] at hu; simp_all [Value.oneCell'])) rfl ?_
   refine Tr.nil (Tr.thenN (Tr.ret ?_))
   refine Tr.retC1 Tryz.results18 rfl (by repeat constructor) Tryz.isAgg35 Tryz.sizeOf35 (by rfl) (fun w' hw => ?_)
   have hn : NewEnts w w' [rowE (.slice p93 (entG ts at_ ins ins (entF ins es [])).length c93) 40 encU32 (entG ts at_ ins ins (entF ins es [])), rowE (.slice p94 (unkF ts at_ ins []).length c94) 40 encU32 (unkF ts at_ ins [])] := hw.ents (Bg.le.refl _) (.cons (.here _) (.cons (.here _) (.nil _)))
   have hb := hw.below (Bg.le.refl _)
   clear hw
   exact ⟨((.slice p93 (entG ts at_ ins ins (entF ins es [])).length c93), (.slice p94 (unkF ts at_ ins []).length c94)), rfl, hb, hn, trivial⟩
set_option maxRecDepth 100000 in
set_option maxHeartbeats 16000000 in
theorem walk12_any (l : List SecV) (ts : List TabV) (at_ es : List UInt32) (V VE VT VP : Value) (w : World) (hV : Sl (hp w) encSec l V) (hB : SecB l) (hD : DataIn (hp w) l) (hN : ∀ s ∈ l, s.name.size ≤ 140737488351232) (hE : Sl (hp w) encU32 es VE) (hT : Sl (hp w) encTab ts VT) (hTI : TabIn (hp w) ts) (hTB : TabB ts) (hP : Sl (hp w) encU32 at_ VP) (ht : totD l ≤ 480) (hel : es.length ≤ 100) :
  Calls Tryz.prog 7 #[V, VE, VT, VP] w (fun e w' => ∃ i : ((Value × Value × Value × Value) × CodeP × Int), e = .returned ((fun i : ((Value × Value × Value × Value) × CodeP × Int) => .tuple #[.agg #[i.1.1, i.1.2.1, i.1.2.2.1, i.1.2.2.2], .int .i64 i.2.2]) i) ∧ Below w.heap.size w w' ∧ NewEnts w w' ((fun i : ((Value × Value × Value × Value) × CodeP × Int) => [rowE i.1.1 46 encIns i.2.1.ins, rowE i.1.2.1 40 encU32 i.2.1.ents, rowE i.1.2.2.1 40 encU32 i.2.1.unk, rowE i.1.2.2.2 40 encU32 i.2.1.bad]) i) ∧ WalkIs l ts at_ es i.2.1 i.2.2) := by
 obtain ⟨ta, tc, hvt, _⟩ := hT.shape
 subst hvt
 obtain ⟨pa, pc, hvp, _⟩ := hP.shape
 subst hvp
 have hV0 : Sl (Bg.of0 w).blk encSec l V := hV
 have hD0 : DataIn (Bg.of0 w).blk l := hD
 have hE0 : Sl (Bg.of0 w).blk encU32 es VE := hE
 have hT0 : Sl (Bg.of0 w).blk encTab ts (.slice ta ts.length tc) := hT
 have hTI0 : TabIn (Bg.of0 w).blk ts := hTI
 have hP0 : Sl (Bg.of0 w).blk encU32 at_ (.slice pa at_.length pc) := hP
 refine enter0 Tryz.func7 rfl Tryz.ntmps7 rfl ?_
 refine Tr.seq (Tr.region ?_)
 refine Tr.alloc Tryz.zeroValue35 rfl rfl (fun b1 => ?_)
 refine Tr.q (QS.assign rfl) rfl ?_
 refine Tr.nil (Tr.thenN (Tr.seq (Tr.seq (Tr.region ?_))))
 refine Tr.q (QS.move rfl) rfl ?_
 refine Tr.q (QS.len rfl (by assumption) Tryz.underlying24) rfl ?_
 refine Tr.q (QS.move rfl) rfl ?_
 refine Tr.q (QS.len rfl (by assumption) Tryz.underlying23) rfl ?_
 refine Tr.q (QS.neq rfl rfl) rfl ?_
 refine Tr.nil (Tr.thenN ?_)
 refine Tr.cond rfl (fun h2 => ?_) (fun h2 => ?_)
 ·try simp only [bs] at h2
  refine Tr.seq ?_
  refine Tr.ownNil 46 encIns ?_
  refine Tr.ownNil 40 encU32 ?_
  refine Tr.ownNil 40 encU32 ?_
  refine Tr.ownNil 40 encU32 ?_
  refine Tr.region ?_
  refine Tr.q (QS.build (vs := []) rfl rfl (HLF.built35)) rfl ?_
  refine Tr.storeW rfl rfl Tryz.sizeOf35 (by repeat constructor) (by rfl) (by rfl) (by first | exact List.all_eq_true.1 rfl | exact Enc.one _ _ | (intro u hu; simp [Value.cells] at hu; simp_all [Value.oneCell'])) rfl ?_
  refine Tr.q (QS.assign rfl) rfl ?_
  refine Tr.nil (Tr.thenN (Tr.ret (Tr.thenR ?_)))
  refine Tr.retC2 Tryz.results7 rfl rfl (by repeat constructor) Tryz.isAgg35 Tryz.sizeOf35 (by rfl) (fun w' hw => ?_)
  exact ⟨((.slice none 0 0, .slice none 0 0, .slice none 0 0, .slice none 0 0), ⟨[], [], [], []⟩, 2), rfl, hw.below0 (Bg.le.refl _), hw.ents0 rfl (by repeat' constructor), .arg (by show ts.length ≠ at_.length; omega) rfl rfl⟩
 ·try simp only [bs] at h2
  refine Tr.skip (Tr.thenN (Tr.seq (Tr.region ?_)))
  refine Tr.q (QS.move rfl) rfl ?_
  refine Tr.q (QS.call rfl Tryz.call12 (fun w hw => refCheckS_any l V w (hw.slF hV0) hB (fun s hs => by have := hN s hs; omega))) rfl ?_
  refine Tr.q (QS.assign rfl) rfl ?_
  refine Tr.nil (Tr.thenN (Tr.seq (Tr.seq (Tr.region ?_))))
  refine Tr.q (QS.move rfl) rfl ?_
  refine Tr.q (QS.neq rfl rfl) rfl ?_
  refine Tr.nil (Tr.thenN ?_)
  refine Tr.cond rfl (fun h3 => ?_) (fun h3 => ?_)
  ·try simp only [bs] at h3
   refine Tr.seq ?_
   refine Tr.ownNil 46 encIns ?_
   refine Tr.ownNil 40 encU32 ?_
   refine Tr.ownNil 40 encU32 ?_
   refine Tr.ownNil 40 encU32 ?_
   refine Tr.region ?_
   refine Tr.q (QS.build (vs := []) rfl rfl (HLF.built35)) rfl ?_
   refine Tr.q (QS.move rfl) rfl ?_
   refine Tr.storeW rfl rfl Tryz.sizeOf35 (by repeat constructor) (by rfl) (by rfl) (by first | exact List.all_eq_true.1 rfl | exact Enc.one _ _ | (intro u hu; simp [Value.cells] at hu; simp_all [Value.oneCell'])) rfl ?_
   refine Tr.q (QS.assign rfl) rfl ?_
   refine Tr.nil (Tr.thenN (Tr.ret (Tr.thenR ?_)))
   refine Tr.retC2 Tryz.results7 rfl rfl (by repeat constructor) Tryz.isAgg35 Tryz.sizeOf35 (by rfl) (fun w' hw => ?_)
   exact ⟨((.slice none 0 0, .slice none 0 0, .slice none 0 0, .slice none 0 0), ⟨[], [], [], []⟩, checkS l), rfl, hw.below0 (Bg.le.refl _), hw.ents0 rfl (by repeat' constructor), .chk (by show ts.length = at_.length; omega) (by assumption) rfl rfl⟩
  ·try simp only [bs] at h3
   refine Tr.skip (Tr.thenN (Tr.seq ?_))
   have hl : ts.length = at_.length := by omega
   refine Tr.region ?_
   refine Tr.q (QS.build (vs := []) rfl rfl (HLF.built35)) rfl ?_
   refine Tr.alloc Tryz.zeroValue35 rfl rfl (fun b4 => ?_)
   refine Tr.storeW rfl rfl Tryz.sizeOf35 (by repeat constructor) (by rfl) (by rfl) (by first | exact List.all_eq_true.1 rfl | exact Enc.one _ _ | (intro u hu; simp [Value.cells] at hu; simp_all [Value.oneCell'])) rfl ?_
   refine Tr.nil (Tr.thenN (Tr.seq (Tr.region ?_)))
   refine Tr.lit0 encU32 Tryz.underlying23 Tryz.sizeOf40 rfl (fun V5 => ?_)
   refine Tr.q (QS.move rfl) rfl ?_
   refine Tr.appendOf rfl rfl (by repeat constructor) (fun w hw => hw.slF (by assumption)) Tryz.underlying23 HLF.info40 (by rfl) (by rfl) (by (try simp only [List.length_cons, List.length_nil, List.length_append, List.length_take]); omega) (by unfold maxLen; (try simp only [List.length_cons, List.length_nil, List.length_append, List.length_take]); omega) rfl (fun V6 => ?_)
   refine Tr.q (QS.assign rfl) rfl ?_
   refine Tr.nil (Tr.thenN (Tr.seq (Tr.seq (Tr.region ?_))))
   refine Tr.q (QS.assign rfl) rfl ?_
   refine Tr.nil (Tr.thenN (Tr.block ?_))
   rw [List.nil_append]
   refine Tr.ownNil 46 encIns ?_
   refine Tr.ownNil 40 encU32 ?_
   refine Tr.loop (ι := Nat × List UInt32 × List Ins × List UInt32 × Value × Value × Value) (fun ⟨k, work, ins, bad, Vw, Vi, Vb⟩ => RInv l ts at_ es k work ins bad) (fun _ => _) (fun ⟨k, work, ins, bad, Vw, Vi, Vb⟩ => [rowE Vw 40 encU32 work, rowE Vi 46 encIns ins, rowE Vb 40 encU32 bad, cellE b4 [Vi, .slice none 0 0, .slice none 0 0, Vb] 35, cellE b1 [.slice none 0 0, .slice none 0 0, .slice none 0 0, .slice none 0 0] 35]) (fun ⟨k, work, ins, bad, Vw, Vi, Vb⟩ => [(13, .int .i64 (k : Nat)), (12, Vw)]) (fun ⟨k, work, ins, bad, Vw, Vi, Vb⟩ => (es.length + 14 * 481) - k) (0, es, [], [], _, _, _) RInv.begin (.cons (by first | rfl | exact lookI rfl (by omega) | exact lookI rfl (by simp) | exact lookB rfl (by simp)) (.cons (by first | rfl | exact lookI rfl (by omega) | exact lookI rfl (by simp) | exact lookB rfl (by simp)) Front.nil)) (by repeat' constructor) rfl (fun i hi m hm => ?_)
   obtain ⟨k, work, ins, bad, Vw, Vi, Vb⟩ := i
   replace hi : RInv l ts at_ es k work ins bad := hi
   replace hm : m = (es.length + 14 * 481) - k := hm
   change Tr _ _ [rowE Vw 40 encU32 work, rowE Vi 46 encIns ins, rowE Vb 40 encU32 bad, cellE b4 [Vi, .slice none 0 0, .slice none 0 0, Vb] 35, cellE b1 [.slice none 0 0, .slice none 0 0, .slice none 0 0, .slice none 0 0] 35] ([(13, .int .i64 (k : Nat)), (12, Vw)] ++ _) _
   have hinv := hi
   have hic := hinv.count
   have hiw := hinv.lWork
   have hib := hinv.lBad
   have hkl := hinv.le
   refine Tr.seq (Tr.seq (Tr.region ?_))
   refine Tr.q (QS.move rfl) rfl ?_
   refine Tr.q (QS.move rfl) rfl ?_
   refine Tr.q (QS.lenRow rfl (by repeat constructor) Tryz.underlying23) rfl ?_
   refine Tr.q (QS.lss rfl rfl) rfl ?_
   refine Tr.nil (Tr.thenN ?_)
   refine Tr.cond rfl (fun h7 => ?_) (fun h7 => ?_)
   ·try simp only [bs] at h7
    refine Tr.skip (Tr.thenN (Tr.seq (Tr.block (Tr.seq (Tr.region ?_)))))
    refine Tr.q (QS.move rfl) rfl ?_
    refine Tr.q (QS.move rfl) rfl ?_
    refine Tr.q (QS.idxRowN rfl rfl (by repeat constructor) Tryz.underlying23 Tryz.sizeOf40 (by rfl) (by omega)) rfl ?_
    refine Tr.q (QS.elR1 rfl (by repeat constructor) Tryz.isAgg40 (by omega) (by rfl)) rfl ?_
    refine Tr.q (QS.assign rfl) rfl ?_
    obtain ⟨a, ha⟩ : ∃ a, a = work.getD k default := ⟨_, rfl⟩
    rw [← ha]
    refine Tr.nil (Tr.thenN (Tr.seq (Tr.seq (Tr.region ?_))))
    refine Tr.q (QS.move rfl) rfl ?_
    refine Tr.q (QS.move rfl) rfl ?_
    refine Tr.q (QS.sliceTo rfl (by repeat constructor) rfl Tryz.underlying23 Tryz.sizeOf40 rfl (by omega)) rfl ?_
    refine Tr.q (QS.move rfl) rfl ?_
    refine Tr.q (QS.call rfl Tryz.call13 (fun w hw => has12_any (work.take k) _ a w (by have q := Sl.resl (hw.row (l := work) (by repeat constructor)) (l := 0) (h := k) (by omega) (by omega); rw [List.drop_zero] at q; exact q))) rfl ?_
    refine Tr.nil (Tr.thenN ?_)
    refine Tr.cond rfl (fun h8 => ?_) (fun h8 => ?_)
    ·try simp only [bs] at h8
     refine Tr.exit ?_
     refine Tr.thenE (Tr.inHit (Tr.thenN (Tr.region ?_)))
     refine Tr.q (QS.move rfl) rfl ?_
     refine Tr.q (QS.addI rfl rfl (by omega)) rfl ?_
     refine Tr.q (QS.assign rfl) rfl ?_
     refine Tr.nil (Tr.thenN ?_)
     apply Tr.again (k + 1, work, ins, bad, _, _, _)
     ·exact rfl
     ·exact (.cons (by first | rfl | exact lookI rfl (by omega) | exact lookI rfl (by simp) | exact lookB rfl (by simp)) (.cons (by first | rfl | exact lookI rfl (by omega) | exact lookI rfl (by simp) | exact lookB rfl (by simp)) Front.nil))
     ·exact SubX.dropN 19 (by kernel_rfl) rfl
     ·exact (by repeat' constructor)
     ·exact (hinv.skip (by omega) ha (by first | assumption | simp_all))
     ·exact (by show (es.length + 14 * 481) - (k + 1) < m; omega)
    ·try simp only [bs] at h8
     refine Tr.skip (Tr.thenN (Tr.seq (Tr.region ?_)))
     refine Tr.q (QS.move rfl) rfl ?_
     refine Tr.q (QS.move rfl) rfl ?_
     refine Tr.q (QS.call rfl Tryz.call14 (fun w hw => insAt_any l V a w (hw.slF hV0) hB (hD0.mono hw.bg))) rfl ?_
     refine Tr.q (QS.move rfl) rfl ?_
     refine Tr.q (QS.extract rfl rfl) rfl ?_
     refine Tr.q (QS.extract rfl rfl) rfl ?_
     refine Tr.alloc Tryz.zeroValue46 rfl rfl (fun b9 => ?_)
     refine Tr.storeW rfl rfl Tryz.sizeOf46 (by repeat constructor) (by rfl) (by rfl) (by first | exact List.all_eq_true.1 rfl | exact Enc.one _ _ | exact Enc.one encIns _) rfl ?_
     refine Tr.q (QS.assign rfl) rfl ?_
     refine Tr.nil (Tr.thenN (Tr.seq (Tr.seq (Tr.region ?_))))
     refine Tr.q (QS.move rfl) rfl ?_
     refine Tr.q (QS.not rfl) rfl ?_
     refine Tr.nil (Tr.thenN ?_)
     refine Tr.cond rfl (fun h10 => ?_) (fun h10 => ?_)
     ·try simp only [bs] at h10
      refine Tr.seq (Tr.region ?_)
      refine Tr.q (QS.fieldAddr (off := 3) (ft := 23) rfl Tryz.underlying35 rfl rfl Tryz.sizeOf23 (by decide)) rfl ?_
      refine Tr.q (QS.lV rfl Tryz.isAgg23) rfl ?_
      refine Tr.q (QS.move rfl) rfl ?_
      refine Tr.callReRow rfl Tryz.call15 (by repeat constructor) (fun w hw => insert06_any bad _ a w (hw.row (by repeat constructor)) (by omega)) rfl (fun V81 => ?_)
      refine Tr.rowShape (V := V81) (by repeat constructor) (fun p81 c81 hpv => ?_)
      subst hpv
      refine Tr.q (QS.fieldAddr (off := 3) (ft := 23) rfl Tryz.underlying35 rfl rfl Tryz.sizeOf23 (by decide)) rfl ?_
      refine Tr.storeV (cs' := [_, _, _, _]) rfl rfl Tryz.sizeOf23 (by repeat constructor) rfl (by rfl) (by first | exact Nat.le_of_ble_eq_true rfl | simp) (by first | exact List.all_eq_true.1 rfl | (intro u hu; simp [Value.cells] at hu; simp_all [Value.oneCell'])) rfl ?_
      refine Tr.nil (Tr.thenN ?_)
      refine Tr.exit ?_
      refine Tr.thenE (Tr.inHit (Tr.thenN (Tr.region ?_)))
      refine Tr.q (QS.move rfl) rfl ?_
      refine Tr.q (QS.addI rfl rfl (by omega)) rfl ?_
      refine Tr.q (QS.assign rfl) rfl ?_
      refine Tr.nil (Tr.thenN ?_)
      apply Tr.again (k + 1, work, ins, insR ltU bad a, _, _, _)
      ·exact rfl
      ·exact (.cons (by first | rfl | exact lookI rfl (by omega) | exact lookI rfl (by simp) | exact lookB rfl (by simp)) (.cons (by first | rfl | exact lookI rfl (by omega) | exact lookI rfl (by simp) | exact lookB rfl (by simp)) Front.nil))
      ·exact SubX.dropN 34 (by kernel_rfl) rfl
      ·exact (by repeat' constructor)
      ·exact (hinv.isBad (by omega) ha (by first | assumption | simp_all))
      ·exact (by show (es.length + 14 * 481) - (k + 1) < m; omega)
     ·try simp only [bs] at h10
      refine Tr.skip (Tr.thenN (Tr.seq (Tr.seq (Tr.region ?_))))
      refine Tr.q (QS.fieldAddr (off := 0) (ft := 29) rfl Tryz.underlying35 rfl rfl Tryz.sizeOf29 (by decide)) rfl ?_
      refine Tr.q (QS.lV rfl Tryz.isAgg29) rfl ?_
      refine Tr.q (QS.lenRow rfl (by repeat constructor) Tryz.underlying29) rfl ?_
      refine Tr.q (QS.geq rfl rfl) rfl ?_
      refine Tr.nil (Tr.thenN ?_)
      refine Tr.cond rfl (fun h11 => ?_) (fun h11 => ?_)
      ·try simp only [bs] at h11
       first | contradiction | (exfalso; omega) | simp_all
      ·try simp only [bs] at h11
       refine Tr.skip (Tr.thenN (Tr.seq (Tr.region ?_)))
       refine Tr.q (QS.fieldAddr (off := 0) (ft := 29) rfl Tryz.underlying35 rfl rfl Tryz.sizeOf29 (by decide)) rfl ?_
       refine Tr.q (QS.lV rfl Tryz.isAgg29) rfl ?_
       refine Tr.q (QS.lW rfl Tryz.isAgg46 Tryz.sizeOf46) rfl ?_
       refine Tr.callRow rfl Tryz.call16 (fun w hw => insert12_any ins _ (atP l a).1 w (hw.row (by repeat constructor)) (by omega)) rfl (fun V12 => ?_)
       refine Tr.rowShape (V := V12) (by repeat constructor) (fun p82 c82 hpv => ?_)
       subst hpv
       have hll := lead_len hTB at_ (atP l a).1
       refine Tr.q (QS.fieldAddr (off := 0) (ft := 29) rfl Tryz.underlying35 rfl rfl Tryz.sizeOf29 (by decide)) rfl ?_
       refine Tr.storeV (cs' := [_, _, _, _]) rfl rfl Tryz.sizeOf29 (by repeat constructor) rfl (by rfl) (by first | exact Nat.le_of_ble_eq_true rfl | simp) (by first | exact List.all_eq_true.1 rfl | (intro u hu; simp [Value.cells] at hu; simp_all [Value.oneCell'])) rfl ?_
       refine Tr.nil (Tr.thenN (Tr.region ?_))
       refine Tr.q (QS.move rfl) rfl ?_
       refine Tr.q (QS.lW rfl Tryz.isAgg46 Tryz.sizeOf46) rfl ?_
       refine Tr.q (QS.move rfl) rfl ?_
       refine Tr.q (QS.move rfl) rfl ?_
       refine Tr.callRow rfl Tryz.call17 (fun w hw => step12_any (atP l a).1 ts at_ (.slice ta ts.length tc) (.slice pa at_.length pc) w (hw.slF hT0) (hTI0.mono hw.bg) hTB (hw.slF hP0) hl (at_ok l a)) rfl (fun V13 => ?_)
       refine Tr.appendOf rfl rfl (by repeat constructor) (fun w hw => hw.row (by repeat constructor)) Tryz.underlying23 HLF.info40 (by rfl) (by rfl) (by (try simp only [List.length_cons, List.length_nil, List.length_append, List.length_take]); omega) (by unfold maxLen; (try simp only [List.length_cons, List.length_nil, List.length_append, List.length_take]); omega) rfl (fun V14 => ?_)
       refine Tr.q (QS.assign rfl) rfl ?_
       refine Tr.nil (Tr.inN (Tr.thenN (Tr.region ?_)))
       refine Tr.q (QS.move rfl) rfl ?_
       refine Tr.q (QS.addI rfl rfl (by omega)) rfl ?_
       refine Tr.q (QS.assign rfl) rfl ?_
       refine Tr.nil (Tr.thenN ?_)
       apply Tr.again (k + 1, work ++ leadP ts at_ (atP l a).1, putI ins (atP l a).1, bad, _, _, _)
       ·exact rfl
       ·exact (.cons (by first | rfl | exact lookI rfl (by omega) | exact lookI rfl (by simp) | exact lookB rfl (by simp)) (.cons (by first | rfl | exact lookI rfl (by omega) | exact lookI rfl (by simp) | exact lookB rfl (by simp)) Front.nil))
       ·exact SubX.dropN 45 (by kernel_rfl) rfl
       ·exact (by repeat' constructor)
       ·exact (hinv.found hTB (by omega) ha (by first | assumption | simp_all) (by first | assumption | simp_all))
       ·exact (by show (es.length + 14 * 481) - (k + 1) < m; omega)
   ·try simp only [bs] at h7
    refine Tr.exit ?_
    refine Tr.thenE (Tr.thenE (Tr.inHit (Tr.thenN (Tr.seq ?_))))
    have hcode := hinv.code (by omega)
    refine Tr.rowShape (V := Vi) (by repeat constructor) (fun pi ci hpv => ?_)
    subst hpv
    refine Tr.rowShape (V := Vb) (by repeat constructor) (fun pb cb hpv => ?_)
    subst hpv
    refine Tr.region ?_
    refine Tr.q (QS.lW rfl Tryz.isAgg35 Tryz.sizeOf35) rfl ?_
    refine Tr.q (QS.move rfl) rfl ?_
    refine Tr.q (QS.move rfl) rfl ?_
    refine Tr.q (QS.move rfl) rfl ?_
    refine Tr.callEnts (fun j : Value × Value => .agg #[.slice pi ins.length ci, j.1, j.2, .slice pb bad.length cb]) (fun j : Value × Value => [rowE j.1 40 encU32 (entG ts at_ ins ins (entF ins es [])), rowE j.2 40 encU32 (unkF ts at_ ins [])]) (ok := fun _ => True) rfl Tryz.call18 (fun w hw => lists12_any ins es _ _ _ ts at_ (.slice ta ts.length tc) (.slice pa at_.length pc) w (hw.row (by repeat constructor)) ⟨_, _, _, rfl⟩ (hw.slF hE0) (hw.slF hT0) (hTI0.mono hw.bg) hTB (hw.slF hP0) hl (by omega) (by omega)) rfl (fun j _ => ?_)
    obtain ⟨Ve, Vu⟩ := j
    change Tr _ _ ([rowE Ve 40 encU32 (entG ts at_ ins ins (entF ins es [])), rowE Vu 40 encU32 (unkF ts at_ ins [])] ++ _) _ _
    refine Tr.rowShape (V := Ve) (by repeat constructor) (fun pe ce hpv => ?_)
    subst hpv
    refine Tr.rowShape (V := Vu) (by repeat constructor) (fun pu cu hpv => ?_)
    subst hpv
    refine Tr.storeW rfl rfl Tryz.sizeOf35 (by repeat constructor) (by rfl) (by rfl) (by first | exact List.all_eq_true.1 rfl | exact Enc.one _ _ | (intro u hu; simp [Value.cells] at hu; simp_all [Value.oneCell'])) rfl ?_
    refine Tr.q (QS.assign rfl) rfl ?_
    refine Tr.nil (Tr.thenN (Tr.ret ?_))
    refine Tr.retC2 Tryz.results7 rfl rfl (by repeat constructor) Tryz.isAgg35 Tryz.sizeOf35 (by rfl) (fun w' hw => ?_)
    exact ⟨((.slice pi _ ci, .slice pe _ ce, .slice pu _ cu, .slice pb _ cb), ⟨ins, entG ts at_ ins ins (entF ins es []), unkF ts at_ ins [], bad⟩, 0), rfl, hw.below0 (Bg.le.refl _), hw.ents0 rfl (by repeat' constructor), .ok hl (by simp_all) rfl hcode⟩
set_option maxRecDepth 100000 in
set_option maxHeartbeats 8000000 in
theorem walks12_true (l : List SecV) (es : List UInt32) (ts : List TabV) (at_ : List UInt32) (V VE VT VP : Value) (w : World) (hV : Sl (hp w) encSec l V) (hE : Sl (hp w) encU32 es VE) (hT : Sl (hp w) encTab ts VT) (hP : Sl (hp w) encU32 at_ VP) (hD : DataIn (hp w) l) (hTI : TabIn (hp w) ts) (hN : ∀ s ∈ l, s.name.size ≤ 140737488351232) :
  Calls Tryz.prog 3 #[.agg #[V, VE, VT, VP]] w (fun e w' => e = .returned (.bool true) ∧ Below w.heap.size w w') := by
 have hV0 : Sl (Bg.of0 w).blk encSec l V := hV
 have hD0 : DataIn (Bg.of0 w).blk l := hD
 have hE0 : Sl (Bg.of0 w).blk encU32 es VE := hE
 have hT0 : Sl (Bg.of0 w).blk encTab ts VT := hT
 have hTI0 : TabIn (Bg.of0 w).blk ts := hTI
 have hP0 : Sl (Bg.of0 w).blk encU32 at_ VP := hP
 obtain ⟨sa1, sc1, hv1, _⟩ := hV.shape
 subst hv1
 obtain ⟨sa2, sc2, hv2, _⟩ := hE.shape
 subst hv2
 obtain ⟨sa3, sc3, hv3, _⟩ := hT.shape
 subst hv3
 obtain ⟨sa4, sc4, hv4, _⟩ := hP.shape
 subst hv4
 refine enter0 Tryz.func3 rfl Tryz.ntmps3 rfl ?_
 refine Tr.seq (Tr.region ?_)
 refine Tr.box rfl rfl rfl (fun b1 => ?_)
 refine Tr.q (QS.assign rfl) rfl ?_
 refine Tr.nil (Tr.thenN (Tr.seq (Tr.seq (Tr.region ?_))))
 refine Tr.q (QS.lW rfl Tryz.isAgg26 Tryz.sizeOf26) rfl ?_
 refine Tr.q (QS.call rfl Tryz.call4 (fun w hw => few12_any l es ts at_ _ _ _ _ w (hw.slF hV0) (hw.slF hE0) (hw.slF hT0) (hw.slF hP0))) rfl ?_
 refine Tr.q (QS.not rfl) rfl ?_
 refine Tr.nil (Tr.thenN ?_)
 refine Tr.cond rfl (fun h2 => ?_) (fun h2 => ?_)
 ·try simp only [bs] at h2
  refine Tr.seq (Tr.region ?_)
  refine Tr.q (QS.call0 rfl rfl Tryz.call5 (fun w hw => example12_any w)) rfl ?_
  refine Tr.q (QS.assign rfl) rfl ?_
  refine Tr.nil (Tr.thenN (Tr.ret (Tr.thenR ?_)))
  refine Tr.ret1 Tryz.results3 rfl (fun w' hw => ?_)
  exact ⟨rfl, hw.below0 (Bg.le.refl _)⟩
 ·try simp only [bs] at h2
  refine Tr.skip (Tr.thenN (Tr.seq ?_))
  have hfw := few_of (by assumption)
  refine Tr.region ?_
  refine Tr.q (QS.lW rfl Tryz.isAgg26 Tryz.sizeOf26) rfl ?_
  refine Tr.callEnts0 (fun i : ((Value × Value × Value × Value) × CodeP × Int) => .tuple #[.agg #[i.1.1, i.1.2.1, i.1.2.2.1, i.1.2.2.2], .int .i64 i.2.2]) (fun i : ((Value × Value × Value × Value) × CodeP × Int) => [rowE i.1.1 46 encIns i.2.1.ins, rowE i.1.2.1 40 encU32 i.2.1.ents, rowE i.1.2.2.1 40 encU32 i.2.1.unk, rowE i.1.2.2.2 40 encU32 i.2.1.bad]) (ok := fun i => WalkIs l ts at_ es i.2.1 i.2.2) (rfl) rfl Tryz.call6 (fun w hw => lwalk_any l ts at_ es _ _ _ _ w (hw.slF hV0) hfw.secB (hD0.mono hw.bg) hN (hw.slF hE0) (hw.slF hT0) (hTI0.mono hw.bg) hfw.tab (hw.slF hP0) hfw.tot (by have := hfw.es; omega)) rfl (fun i hi => ?_)
  obtain ⟨⟨Vi, Ve, Vu, Vb⟩, c, e0⟩ := i
  replace hi : WalkIs l ts at_ es c e0 := hi
  change Tr _ _ ([rowE Vi 46 encIns c.ins, rowE Ve 40 encU32 c.ents, rowE Vu 40 encU32 c.unk, rowE Vb 40 encU32 c.bad] ++ _) _ _
  refine Tr.rowShape (V := Vi) (by repeat constructor) (fun pVi cVi hpv => ?_)
  subst hpv
  refine Tr.rowShape (V := Ve) (by repeat constructor) (fun pVe cVe hpv => ?_)
  subst hpv
  refine Tr.rowShape (V := Vu) (by repeat constructor) (fun pVu cVu hpv => ?_)
  subst hpv
  refine Tr.rowShape (V := Vb) (by repeat constructor) (fun pVb cVb hpv => ?_)
  subst hpv
  refine Tr.q (QS.move rfl) rfl ?_
  refine Tr.q (QS.extract rfl rfl) rfl ?_
  refine Tr.q (QS.extract rfl rfl) rfl ?_
  refine Tr.alloc Tryz.zeroValue31 rfl rfl (fun b3 => ?_)
  refine Tr.storeW rfl rfl Tryz.sizeOf31 (by repeat constructor) (by rfl) (by rfl) (by first | exact List.all_eq_true.1 rfl | exact Enc.one _ _ | (intro u hu; simp [Value.cells] at hu; simp_all [Value.oneCell'])) rfl ?_
  refine Tr.q (QS.assign rfl) rfl ?_
  refine Tr.nil (Tr.thenN (Tr.seq ?_))
  refine Tr.frozen (V := .slice pVi c.ins.length cVi) (by repeat constructor) (fun F1 hF1 hcI0 => ?_)
  refine Tr.frozen (V := .slice pVe c.ents.length cVe) (by repeat constructor) (fun F2 hF2 hcE0 => ?_)
  refine Tr.frozen (V := .slice pVu c.unk.length cVu) (by repeat constructor) (fun F3 hF3 hcU0 => ?_)
  refine Tr.frozen (V := .slice pVb c.bad.length cVb) (by repeat constructor) (fun F4 hF4 hcB => ?_)
  have hcI := hcI0.mono (hF2.trans (hF3.trans hF4)).blk
  have hcE := hcE0.mono (hF3.trans hF4).blk
  have hcU := hcU0.mono hF4.blk
  have hF04 := hF1.trans (hF2.trans (hF3.trans hF4))
  have hdr4 : F4.dr = 0 := hF04.dr
  have hV4 := hV0.mono hF04.blk
  have hD4 := hD0.mono hF04.blk
  have hE4 := hE0.mono hF04.blk
  have hT4 := hT0.mono hF04.blk
  have hTI4 := hTI0.mono hF04.blk
  have hP4 := hP0.mono hF04.blk
  have hwk := hi
  refine Tr.region ?_
  refine Tr.q (QS.fieldAddr (off := 0) (ft := 22) rfl Tryz.underlying26 rfl rfl Tryz.sizeOf22 (by decide)) rfl ?_
  refine Tr.q (QS.lV rfl Tryz.isAgg22) rfl ?_
  refine Tr.q (QS.fieldAddr (off := 1) (ft := 23) rfl Tryz.underlying26 rfl rfl Tryz.sizeOf23 (by decide)) rfl ?_
  refine Tr.q (QS.lV rfl Tryz.isAgg23) rfl ?_
  refine Tr.q (QS.fieldAddr (off := 2) (ft := 24) rfl Tryz.underlying26 rfl rfl Tryz.sizeOf24 (by decide)) rfl ?_
  refine Tr.q (QS.lV rfl Tryz.isAgg24) rfl ?_
  refine Tr.q (QS.fieldAddr (off := 3) (ft := 23) rfl Tryz.underlying26 rfl rfl Tryz.sizeOf23 (by decide)) rfl ?_
  refine Tr.q (QS.lV rfl Tryz.isAgg23) rfl ?_
  refine Tr.callEnts0 (fun i : ((Value × Value × Value × Value) × CodeP × Int) => .tuple #[.agg #[i.1.1, i.1.2.1, i.1.2.2.1, i.1.2.2.2], .int .i64 i.2.2]) (fun i : ((Value × Value × Value × Value) × CodeP × Int) => [rowE i.1.1 46 encIns i.2.1.ins, rowE i.1.2.1 40 encU32 i.2.1.ents, rowE i.1.2.2.1 40 encU32 i.2.1.unk, rowE i.1.2.2.2 40 encU32 i.2.1.bad]) (ok := fun i => WalkIs l ts at_ es i.2.1 i.2.2) (hdr4) rfl Tryz.call7 (fun w hw => walk12_any l ts at_ es _ _ _ _ w (hw.slF hV4) hfw.secB (hD4.mono hw.bg) hN (hw.slF hE4) (hw.slF hT4) (hTI4.mono hw.bg) hfw.tab (hw.slF hP4) hfw.tot (by have := hfw.es; omega)) rfl (fun i2 hi2 => ?_)
  obtain ⟨⟨Wi, We, Wu, Wb⟩, c2, e2⟩ := i2
  replace hi2 : WalkIs l ts at_ es c2 e2 := hi2
  obtain ⟨hcc, hee⟩ := hwk.fun_ hi2 (fun _ => Iff.rfl)
  subst hcc hee
  change Tr _ _ ([rowE Wi 46 encIns c.ins, rowE We 40 encU32 c.ents, rowE Wu 40 encU32 c.unk, rowE Wb 40 encU32 c.bad] ++ _) _ _
  refine Tr.rowShape (V := Wi) (by repeat constructor) (fun pWi cWi hpv => ?_)
  subst hpv
  refine Tr.rowShape (V := We) (by repeat constructor) (fun pWe cWe hpv => ?_)
  subst hpv
  refine Tr.rowShape (V := Wu) (by repeat constructor) (fun pWu cWu hpv => ?_)
  subst hpv
  refine Tr.rowShape (V := Wb) (by repeat constructor) (fun pWb cWb hpv => ?_)
  subst hpv
  refine Tr.q (QS.move rfl) rfl ?_
  refine Tr.q (QS.extract rfl rfl) rfl ?_
  refine Tr.q (QS.extract rfl rfl) rfl ?_
  refine Tr.alloc Tryz.zeroValue35 rfl rfl (fun b4 => ?_)
  refine Tr.storeW rfl rfl Tryz.sizeOf35 (by repeat constructor) (by rfl) (by rfl) (by first | exact List.all_eq_true.1 rfl | exact Enc.one _ _ | (intro u hu; simp [Value.cells] at hu; simp_all [Value.oneCell'])) rfl ?_
  refine Tr.q (QS.assign rfl) rfl ?_
  refine Tr.nil (Tr.thenN (Tr.seq ?_))
  refine Tr.regionT 0 10 HLF.mixed (by kernel_rfl) (panicThen panicBody) ?_
  refine TrQ.pureNil ?_
  refine TrQ.q (QS.move rfl) rfl ?_
  refine TrQ.q (QS.move rfl) rfl ?_
  refine TrQ.q (QS.eql rfl rfl) rfl ?_
  refine TrQ.q (QS.move rfl) rfl ?_
  apply TrQ.andP
  ·exact (rfl : _ = (5, 31, 36))
  ·exact rfl
  ·intro hT5; have hT5' := hT5
   try simp only [bs] at hT5'
   refine TrQ.gq rfl rfl hT5 (QS.lW rfl Tryz.isAgg31 Tryz.sizeOf31) rfl ?_
   refine TrQ.gq rfl rfl hT5 (QS.call rfl Tryz.call9 (fun w hw => toRef_any _ _ _ _ _ _ _ _ _ _ _ _ w)) rfl ?_
   refine TrQ.gq rfl rfl hT5 (QS.lW rfl Tryz.isAgg35 Tryz.sizeOf35) rfl ?_
   refine TrQ.gq rfl rfl hT5 (QS.call rfl Tryz.call8 (fun w hw => same12_any c c _ _ _ _ _ _ _ _ w (hw.slF hcI) (hw.slF hcE) (hw.slF hcU) (hw.slF hcB) (hw.row (by repeat constructor)) (hw.row (by repeat constructor)) (hw.row (by repeat constructor)) (hw.row (by repeat constructor)))) rfl ?_
   refine TrQ.q (QS.pickT rfl hT5 rfl) rfl ?_
   exact TrQ.end (Sub.cons rfl (Sub.dropN 5 (by kernel_rfl) rfl))
  ·intro hF5
   refine TrQ.gskip rfl rfl hF5 rfl ?_
   refine TrQ.gskip rfl rfl hF5 rfl ?_
   refine TrQ.gskip rfl rfl hF5 rfl ?_
   refine TrQ.gskip rfl rfl hF5 rfl ?_
   refine TrQ.q (QS.pickF rfl hF5 rfl) rfl ?_
   exact TrQ.end (Sub.cons rfl (Sub.dropN 5 (by kernel_rfl) rfl))
  refine TrQ.q (QS.move rfl) rfl ?_
  refine TrQ.nil ?_
  apply Tr.andP
  ·exact (rfl : _ = (2, 37, 39))
  ·exact rfl
  ·intro hT6; have hT6' := hT6
   try simp only [bs] at hT6'
   refine Tr.gq rfl rfl hT6 (QS.call0 hdr4 rfl Tryz.call5 (fun w hw => example12_any w)) rfl ?_
   refine Tr.q (QS.pickT rfl hT6 rfl) rfl ?_
   refine Tr.nil (Tr.thenN ?_)
   exact Tr.endX (Sub.cons rfl (Sub.dropN 2 (by kernel_rfl) rfl))
  ·intro hF6
   refine Tr.gskip rfl rfl hF6 rfl ?_
   refine Tr.q (QS.pickF rfl hF6 rfl) rfl ?_
   refine Tr.nil (Tr.thenN ?_)
   exact Tr.endX (Sub.cons rfl (Sub.dropN 2 (by kernel_rfl) rfl))
  refine Tr.q (QS.assign rfl) rfl ?_
  refine Tr.nil (Tr.thenN (Tr.ret ?_))
  refine Tr.ret1 Tryz.results3 rfl (fun w' hw => ?_)
  exact ⟨by simp, hw.below0 hF04⟩
end Go.Proofs.YtnmaokalpbnmaaaGreat
