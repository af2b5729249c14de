/- Own rules and walks, part 3. -/
import Derived.Test.YtfnedefgepjbpaaB2
set_option linter.unusedSimpArgs false
set_option linter.unusedVariables false
set_option linter.unusedSectionVars false
namespace Go.HL
open Go
/-- The lowest address from a on that is in one of the ranges, by the first that ends behind a. -/
def nxtP : List Rng → UInt32 → Option UInt32
  | [], _ => none
  | r :: t, a => if a < r.hi then some (if a < r.lo then r.lo else a) else nxtP t a
/-- How many bytes an instruction at a may use. -/
def winN (s : SecV) (a to_ : UInt32) : Int := min (min (min ((s.data.drop (a - s.addr).toNat).length : Int) 6) ((to_ - a).toNat : Int)) (4294967295 - (a.toNat : Int))
def winP (l : List SecV) (a to_ : UInt32) : List UInt8 :=
  if findP l a < 0 then [] else ((l.getD (findP l a).toNat default).data.drop (a - (l.getD (findP l a).toNat default).addr).toNat).take (winN (l.getD (findP l a).toNat default) a to_).toNat
def decW (l : List SecV) (to_ a : UInt32) : Ins × Int := decP (winP l a to_) a
def okW (l : List SecV) (to_ a : UInt32) : Bool := decide ((decW l to_ a).2 = 0)
def szW (l : List SecV) (to_ a : UInt32) : UInt32 := if okW l to_ a = true then u32 (decW l to_ a).1.size else 1
/-- The addresses of a sweep from a on; f bounds their number. -/
def posF (l : List SecV) (rs : List Rng) (to_ : UInt32) : Nat → UInt32 → List UInt32
  | 0, _ => []
  | f + 1, a => match nxtP rs a with
    | none => []
    | some b => if b < to_ then b :: posF l rs to_ f (b + szW l to_ b) else []
def posP (l : List SecV) (from_ to_ : UInt32) : List UInt32 := posF l (normalP (l.map spaceP)) to_ 4294967296 from_
def foundP (l : List SecV) (to_ : UInt32) (ps : List UInt32) : List Ins := (ps.filter (okW l to_)).map fun a => (decW l to_ a).1
def badP (l : List SecV) (to_ : UInt32) (ps : List UInt32) : List Rng := (ps.filter fun a => !okW l to_ a).map fun a => ⟨a, a + 1⟩
theorem win_len (l : List SecV) (a to_ : UInt32) : ((winP l a to_).length : Int) ≤ 6 ∧ ((winP l a to_).length : Int) ≤ 4294967295 - a.toNat := by
  have ha := a.toNat_lt
  unfold winP
  split
  · simp; omega
  · rw [List.length_take]
    unfold winN
    omega
theorem body_keeps (k : Ins) (s : Int) (b : List UInt8) (addr : UInt32) : (bodyP k s b addr).size = sizeP s ∧ (bodyP k s b addr).addr = addr := by
  unfold bodyP applyP
  repeat' split
  all_goals exact ⟨rfl, rfl⟩
theorem sizeP_le6 (s : Int) : 1 ≤ sizeP s ∧ sizeP s ≤ 6 := by unfold sizeP; repeat' split <;> omega
theorem dec_size {b : List UInt8} {addr : UInt32} (h : (decP b addr).2 = 0) : 1 ≤ (decP b addr).1.size ∧ (decP b addr).1.size ≤ b.length ∧ (decP b addr).1.addr = addr := by
  unfold decP at h ⊢
  split at h
  · simp at h
  · rename_i h1
    rw [if_neg h1]
    split at h
    · simp at h
    · rename_i h2
      rw [if_neg h2]
      split at h
      · simp at h
      · rename_i h3
        rw [if_neg h3]
        dsimp only at h ⊢
        split at h
        · simp at h
        · rename_i h4
          rw [if_neg h4]
          obtain ⟨q1, q2⟩ := body_keeps (rowP (b.getD 0 default)).1 (opcodeP (rowP (b.getD 0 default)).1).2.1 b addr
          have := sizeP_le6 (opcodeP (rowP (b.getD 0 default)).1).2.1
          refine ⟨?_, ?_, q2⟩
          · rw [q1]; omega
          · rw [q1]; omega
/-- The step ahead: it does not run over. -/
theorem step_pos (l : List SecV) (to_ a : UInt32) (h : a < to_) : (a + szW l to_ a).toNat = a.toNat + (szW l to_ a).toNat ∧ 1 ≤ (szW l to_ a).toNat := by
  have ha := a.toNat_lt
  have ht := to_.toNat_lt
  rw [UInt32.lt_iff_toNat_lt] at h
  have hs : 1 ≤ (szW l to_ a).toNat ∧ (szW l to_ a).toNat + a.toNat ≤ 4294967295 := by
    unfold szW
    split
    · rename_i hk
      have hk' : (decP (winP l a to_) a).2 = 0 := of_decide_eq_true hk
      obtain ⟨h1, h2, _⟩ := dec_size hk'
      have hw := win_len l a to_
      have := u32_val (n := (decW l to_ a).1.size) (by unfold decW; omega)
      unfold decW at this ⊢
      omega
    · simp; omega
  rw [UInt32.toNat_add]
  omega
theorem nxtP_ge : ∀ {rs : List Rng} {a b : UInt32}, nxtP rs a = some b → a.toNat ≤ b.toNat
  | r :: t, a, b, h => by
    unfold nxtP at h
    split at h
    · cases h
      split
      · rename_i h; rw [UInt32.lt_iff_toNat_lt] at h; omega
      · exact Nat.le_refl _
    · exact nxtP_ge h
theorem posF_stop {l : List SecV} {rs : List Rng} {to_ a : UInt32} {f : Nat} (h : nxtP rs a = none) : posF l rs to_ f a = [] := by cases f <;> simp [posF, h]
theorem posF_stop2 {l : List SecV} {rs : List Rng} {to_ a b : UInt32} {f : Nat} (h : nxtP rs a = some b) (hb : ¬ b < to_) : posF l rs to_ f a = [] := by cases f <;> simp [posF, h, hb]
theorem posF_go {l : List SecV} {rs : List Rng} {to_ a b : UInt32} {f : Nat} (h : nxtP rs a = some b) (hb : b < to_) : posF l rs to_ (f + 1) a = b :: posF l rs to_ f (b + szW l to_ b) := by simp [posF, h, hb]
theorem found_len (l : List SecV) (to_ : UInt32) (ps : List UInt32) : (foundP l to_ ps).length ≤ ps.length := by unfold foundP; rw [List.length_map]; exact List.length_filter_le _ _
theorem bad_len (l : List SecV) (to_ : UInt32) (ps : List UInt32) : (badP l to_ ps).length ≤ ps.length := by unfold badP; rw [List.length_map]; exact List.length_filter_le _ _
theorem found_yes {l : List SecV} {to_ x : UInt32} {ps : List UInt32} (h : okW l to_ x = true) : foundP l to_ (ps ++ [x]) = foundP l to_ ps ++ [(decW l to_ x).1] := by simp [foundP, h]
theorem found_no {l : List SecV} {to_ x : UInt32} {ps : List UInt32} (h : okW l to_ x = false) : foundP l to_ (ps ++ [x]) = foundP l to_ ps := by simp [foundP, h]
theorem bad_yes {l : List SecV} {to_ x : UInt32} {ps : List UInt32} (h : okW l to_ x = true) : badP l to_ (ps ++ [x]) = badP l to_ ps := by simp [badP, h]
theorem bad_no {l : List SecV} {to_ x : UInt32} {ps : List UInt32} (h : okW l to_ x = false) : badP l to_ (ps ++ [x]) = badP l to_ ps ++ [⟨x, x + 1⟩] := by simp [badP, h]
end Go.HL
namespace Go.Proofs.Ytfnedefgepjbpaa
open Go Go.HL Go.RowKit
def PosAt (V : Value) (from_ to_ : UInt32) (Fv : Value) (h : Hp) (i : Nat × Nat × Nat × Nat) : Prop := CellsIn h i.1 [V] ∧ CellsIn h i.2.1 [.int .u32 from_.toNat] ∧ CellsIn h i.2.2.1 [.int .u32 to_.toNat] ∧ CellsIn h i.2.2.2 [Fv]
theorem PosAt.mono {V : Value} {from_ to_ : UInt32} {Fv : Value} {h h' : Hp} {i : Nat × Nat × Nat × Nat} (p : PosAt V from_ to_ Fv h i) (hh : Hp.le h h') : PosAt V from_ to_ Fv h' i := ⟨p.1.mono hh, p.2.1.mono hh, p.2.2.1.mono hh, p.2.2.2.mono hh⟩
set_option maxRecDepth 100000 in
set_option maxHeartbeats 2000000 in
theorem nxt_any (l : List Rng) (V : Value) (a : UInt32) (w : World) (hV : Sl (hp w) encRng l V) :
    Calls Try.prog 66 #[V, .int .u32 a.toNat] w (fun e w' => e = .returned (.tuple #[.int .u32 ((nxtP l a).getD 0).toNat, .bool (nxtP l a).isSome]) ∧ Ext w w') := by
  have hV' : Sl (Bg.of w).blk encRng l V := hV
  have hlen := hV.len_le
  refine enter Try.func66 rfl Try.ntmps66 rfl ?_
  refine Tr.seq ?_
  refine Tr.region ?_
  refine Tr.q (QS.assign rfl) rfl ?_
  refine Tr.q (QS.assign rfl) rfl ?_
  refine Tr.nil ?_
  refine Tr.thenN ?_
  refine Tr.seq ?_
  refine Tr.seq ?_
  refine Tr.region ?_
  refine Tr.q (QS.move rfl) rfl ?_
  refine Tr.q (QS.len rfl (by assumption) Try.underlying27) rfl ?_
  refine Tr.q (QS.move rfl) rfl ?_
  refine Tr.nil ?_
  refine Tr.thenN ?_
  refine Tr.block ?_
  refine Tr.loop (ι := Nat) (fun k => k ≤ l.length ∧ nxtP (l.drop k) a = nxtP l a) (fun _ => _) (fun k => []) (fun k => [(10, .int .i64 (k : Nat))]) (fun k => l.length - k) 0 ⟨Nat.zero_le _, rfl⟩ (.cons (by first | rfl | exact lookI rfl (by omega) | exact lookI rfl (by simp) | exact lookB rfl (by simp)) Front.nil) (by repeat' (first | exact Pick.nil _ | exact Del.here _ | apply Pick.cons | apply Del.there)) rfl (fun k hi m hm => ?_)
  replace hi : k ≤ l.length ∧ nxtP (l.drop k) a = nxtP l a := hi
  replace hm : m = l.length - k := hm
  change Tr _ _ [] ([(10, .int .i64 (k : Nat))] ++ _) _
  obtain ⟨hk1, hk2⟩ := hi
  refine Tr.seq ?_
  refine Tr.region ?_
  refine Tr.q (QS.lss rfl rfl) rfl ?_
  refine Tr.nil ?_
  refine Tr.thenN ?_
  refine Tr.seq ?_
  refine Tr.cond rfl (fun h1 => ?_) (fun h1 => ?_)
  · try simp only [bs] at h1
    refine Tr.skip ?_
    refine Tr.thenN ?_
    refine Tr.seq ?_
    refine Tr.block ?_
    refine Tr.seq ?_
    refine Tr.region ?_
    refine Tr.q (QS.idxN rfl rfl (by assumption) Try.underlying27 Try.sizeOf61 (by rfl) (by omega)) rfl ?_
    refine Tr.q (QS.elA rfl (by assumption) Try.isAgg61 Try.sizeOf61 (by rfl) (by omega)) rfl ?_
    refine Tr.alloc Try.zeroValue61 rfl rfl (fun b2 => ?_)
    refine Tr.storeW rfl rfl Try.sizeOf61 (by repeat (first | exact Put.here _ | apply Put.there)) (by rfl) (by rfl) (by first | exact List.all_eq_true.1 rfl | exact Enc.one _ _ | exact Enc.one encRng _) rfl ?_
    refine Tr.nil ?_
    refine Tr.thenN ?_
    refine Tr.seq ?_
    refine Tr.region ?_
    refine Tr.q (QS.move rfl) rfl ?_
    refine Tr.q (QS.fieldAddr (off := 1) (ft := 23) rfl Try.underlying61 rfl rfl Try.sizeOf23 (by decide)) rfl ?_
    refine Tr.q (QS.lV rfl Try.isAgg23) rfl ?_
    refine Tr.q (QS.lss32 rfl rfl) rfl ?_
    refine Tr.nil ?_
    refine Tr.thenN ?_
    refine Tr.cond rfl (fun h3 => ?_) (fun h3 => ?_)
    · try simp only [bs] at h3
      refine Tr.seq ?_
      refine Tr.region ?_
      refine Tr.q (QS.move rfl) rfl ?_
      refine Tr.q (QS.fieldAddr (off := 0) (ft := 23) rfl Try.underlying61 rfl rfl Try.sizeOf23 (by decide)) rfl ?_
      refine Tr.q (QS.lV rfl Try.isAgg23) rfl ?_
      refine Tr.q (QS.max32 rfl rfl) rfl ?_
      refine Tr.q (QS.assign rfl) rfl ?_
      refine Tr.q (QS.assign rfl) rfl ?_
      refine Tr.nil ?_
      refine Tr.thenN ?_
      refine Tr.ret ?_
      refine Tr.inR ?_
      refine Tr.thenR ?_
      refine Tr.thenR ?_
      refine Tr.inR ?_
      refine Tr.thenR ?_
      refine Tr.ret2 Try.results66 rfl rfl (fun w' hw => ?_)
      have hst : nxtP l a = some (if a < (l.getD k default).lo then (l.getD k default).lo else a) := by rw [← hk2, drop_cons (k := k) (by omega), nxtP, if_pos (by assumption)]
      exact ⟨by rw [hst]; rfl, hw.below (Bg.le.refl _)⟩
    · try simp only [bs] at h3
      refine Tr.skip ?_
      refine Tr.inN ?_
      refine Tr.thenN ?_
      refine Tr.region ?_
      refine Tr.q (QS.addI rfl rfl (by omega)) rfl ?_
      refine Tr.q (QS.move rfl) rfl ?_
      refine Tr.nil ?_
      refine Tr.thenN ?_
      have hst : nxtP (l.drop (k + 1)) a = nxtP l a := by rw [← hk2, drop_cons (k := k) (by omega), nxtP, if_neg (by assumption)]
      apply Tr.again (k + 1)
      · exact rfl
      · exact (.cons (by first | rfl | exact lookI rfl (by omega) | exact lookI rfl (by simp) | exact lookB rfl (by simp)) Front.nil)
      · exact SubX.dropN 11 (by kernel_rfl) rfl
      · exact (by repeat' (first | exact Pick.nil _ | exact Del.here _ | apply Pick.cons | apply Del.there))
      · exact ⟨by omega, hst⟩
      · exact (by (try dsimp only); omega)
  · try simp only [bs] at h1
    refine Tr.exit ?_
    refine Tr.thenE ?_
    refine Tr.thenE ?_
    refine Tr.inHit ?_
    refine Tr.thenN ?_
    refine Tr.seq ?_
    refine Tr.region ?_
    refine Tr.q (QS.assign rfl) rfl ?_
    refine Tr.q (QS.assign rfl) rfl ?_
    refine Tr.nil ?_
    refine Tr.thenN ?_
    refine Tr.ret ?_
    refine Tr.ret2 Try.results66 rfl rfl (fun w' hw => ?_)
    have hst : nxtP l a = none := by rw [← hk2, List.drop_of_length_le (by omega)]; rfl
    exact ⟨by rw [hst]; rfl, hw.below (Bg.le.refl _)⟩
set_option maxRecDepth 100000 in
set_option maxHeartbeats 2000000 in
theorem win_any (l : List SecV) (V : Value) (a to_ : UInt32) (H : Hp) (w : World) (hH : Hp.le H (hp w)) (hV : Sl H encSec l V) (hB : SecB l) (hD : DataIn H l) :
    Calls Try.prog 29 #[V, .int .u32 a.toNat, .int .u32 to_.toNat] w (fun e w' => ∃ V', e = .returned V' ∧ Ext w w' ∧ Sl H encU8 (winP l a to_) V') := by
  have hV' : Sl (Bg.of w).blk encSec l V := hV.mono hH
  have hlen := hB.1
  have hf := findP_lt (l := l) (a := a)
  have ha := a.toNat_lt
  have ht := to_.toNat_lt
  refine enter Try.func29 rfl Try.ntmps29 rfl ?_
  refine Tr.seq ?_
  refine Tr.region ?_
  refine Tr.q (QS.assign rfl) rfl ?_
  refine Tr.nil ?_
  refine Tr.thenN ?_
  refine Tr.seq ?_
  refine Tr.region ?_
  refine Tr.q (QS.move rfl) rfl ?_
  refine Tr.q (QS.move rfl) rfl ?_
  refine Tr.q (QS.call rfl Try.call20 (fun w hw => find_any l V a w (hw.slF hV') hB)) rfl ?_
  refine Tr.q (QS.assign rfl) rfl ?_
  refine Tr.nil ?_
  refine Tr.thenN ?_
  refine Tr.seq ?_
  refine Tr.seq ?_
  refine Tr.region ?_
  refine Tr.q (QS.move rfl) rfl ?_
  refine Tr.q (QS.lss rfl rfl) rfl ?_
  refine Tr.nil ?_
  refine Tr.thenN ?_
  refine Tr.cond rfl (fun h1 => ?_) (fun h1 => ?_)
  · try simp only [bs] at h1
    refine Tr.seq ?_
    refine Tr.region ?_
    refine Tr.q (QS.assign rfl) rfl ?_
    refine Tr.nil ?_
    refine Tr.thenN ?_
    refine Tr.ret ?_
    refine Tr.thenR ?_
    refine Tr.ret1 Try.results29 rfl (fun w' hw => ?_)
    exact ⟨_, rfl, hw.below (Bg.le.refl _), by unfold winP; rw [if_pos (by assumption)]; exact Sl.nil _ _⟩
  · try simp only [bs] at h1
    refine Tr.skip ?_
    refine Tr.thenN ?_
    refine Tr.seq ?_
    have hin := inS_iff.1 (findP_in (l := l) (a := a) (by omega))
    have hen : endP (l.getD (findP l a).toNat default) ≤ ((l.getD (findP l a).toNat default).addr.toNat : Int) + (l.getD (findP l a).toNat default).data.length := by unfold endP; omega
    have hsub : (a - (l.getD (findP l a).toNat default).addr).toNat = a.toNat - (l.getD (findP l a).toNat default).addr.toNat := UInt32.toNat_sub_of_le _ _ (UInt32.le_iff_toNat_le.2 hin.1)
    have hdl := hB.at (k := (findP l a).toNat) (by omega)
    have hDk0 : Sl H encU8 (l.getD (findP l a).toNat default).data (.slice (l.getD (findP l a).toNat default).dp (l.getD (findP l a).toNat default).data.length (l.getD (findP l a).toNat default).dc) := hD _ (mem_getD (by omega))
    have hDk := hDk0.mono (show Hp.le H (Bg.of w).blk from hH)
    refine Tr.regionQ HLF.mixed (by kernel_rfl) ?_
    refine TrQ.q (QS.move rfl) rfl ?_
    refine TrQ.q (QS.move rfl) rfl ?_
    refine TrQ.q (QS.idx rfl rfl (by assumption) Try.underlying22 Try.sizeOf59 (by rfl) (by omega)) rfl ?_
    refine TrQ.q (QS.fieldAddr (off := 2) (ft := 54) rfl Try.underlying59 rfl rfl Try.sizeOf54 (by decide)) rfl ?_
    refine TrQ.q (QS.elF rfl (by assumption) Try.isAgg54 (by omega) (by rfl)) rfl ?_
    refine TrQ.q (QS.move rfl) rfl ?_
    refine TrQ.q (QS.move rfl) rfl ?_
    refine TrQ.q (QS.move rfl) rfl ?_
    refine TrQ.q (QS.idx rfl rfl (by assumption) Try.underlying22 Try.sizeOf59 (by rfl) (by omega)) rfl ?_
    refine TrQ.q (QS.fieldAddr (off := 1) (ft := 23) rfl Try.underlying59 rfl rfl Try.sizeOf23 (by decide)) rfl ?_
    refine TrQ.q (QS.elF rfl (by assumption) Try.isAgg23 (by omega) (by rfl)) rfl ?_
    refine TrQ.q (QS.sub32 rfl rfl) rfl ?_
    refine TrQ.q (QS.slice (lv := some (_, _)) (hv := none) rfl (by assumption) rfl rfl Try.underlying54 Try.sizeOf5 (by rfl) (by simp only [loOf, hiOf] <;> first | omega | assumption | (simp only [NatCast.natCast, Int.ofNat_eq_natCast]; omega)) (by simp only [loOf, hiOf] <;> first | omega | assumption | (simp only [NatCast.natCast, Int.ofNat_eq_natCast]; omega)) (by simp only [loOf, hiOf] <;> first | omega | assumption | (simp only [NatCast.natCast, Int.ofNat_eq_natCast]; omega))) rfl ?_
    refine TrQ.q (QS.assign rfl) rfl ?_
    refine TrQ.nil ?_
    refine Tr.thenN ?_
    refine Tr.seq ?_
    have hs1 := Sl.resl (l := (a - (l.getD (findP l a).toNat default).addr).toNat) (h := (l.getD (findP l a).toNat default).data.length) hDk (by omega) (Nat.le_refl _)
    rw [List.take_length] at hs1
    have hs1l : (List.drop (a - (l.getD (findP l a).toNat default).addr).toNat (l.getD (findP l a).toNat default).data).length = (l.getD (findP l a).toNat default).data.length - (a - (l.getD (findP l a).toNat default).addr).toNat := List.length_drop
    refine Tr.region ?_
    refine Tr.q (QS.move rfl) rfl ?_
    refine Tr.q (QS.len rfl (by assumption) Try.underlying54) rfl ?_
    refine Tr.q (QS.cvtIn rfl Try.underlying3 Try.underlying76 (IntWalk.u64_in _ (by omega))) rfl ?_
    refine Tr.q (QS.move rfl) rfl ?_
    refine Tr.q (QS.move rfl) rfl ?_
    refine Tr.q (QS.sub32 rfl rfl) rfl ?_
    refine Tr.q (QS.cvt32toU rfl Try.underlying23 Try.underlying76) rfl ?_
    refine Tr.q (QS.move rfl) rfl ?_
    refine Tr.q (QS.cvt32toU rfl Try.underlying23 Try.underlying76) rfl ?_
    refine Tr.q (QS.subU rfl rfl (by omega)) rfl ?_
    refine Tr.q (QS.min4 rfl rfl rfl rfl) rfl ?_
    refine Tr.q (QS.assign rfl) rfl ?_
    refine Tr.nil ?_
    refine Tr.thenN ?_
    refine Tr.seq ?_
    refine Tr.region ?_
    refine Tr.q (QS.move rfl) rfl ?_
    refine Tr.q (QS.move rfl) rfl ?_
    refine Tr.q (QS.slice (lv := none) (hv := some (_, _)) rfl (by assumption) rfl rfl Try.underlying54 Try.sizeOf5 (by rfl) (by simp only [loOf, hiOf] <;> first | omega | assumption | (simp only [NatCast.natCast, Int.ofNat_eq_natCast]; omega)) (by simp only [loOf, hiOf] <;> first | omega | assumption | (simp only [NatCast.natCast, Int.ofNat_eq_natCast]; omega)) (by simp only [loOf, hiOf] <;> first | omega | assumption | (simp only [NatCast.natCast, Int.ofNat_eq_natCast]; omega))) rfl ?_
    refine Tr.q (QS.assign rfl) rfl ?_
    refine Tr.nil ?_
    refine Tr.thenN ?_
    refine Tr.ret ?_
    refine Tr.ret1 Try.results29 rfl (fun w' hw => ?_)
    have hs3 := Sl.resl (l := (a - (l.getD (findP l a).toNat default).addr).toNat) (h := (l.getD (findP l a).toNat default).data.length) hDk0 (by omega) (Nat.le_refl _)
    rw [List.take_length] at hs3
    have hs2 := Sl.resl (l := 0) (h := (winN (l.getD (findP l a).toNat default) a to_).toNat) hs3 (Nat.zero_le _) (by unfold winN; omega)
    rw [List.drop_zero] at hs2
    exact ⟨_, rfl, hw.below (Bg.le.refl _), by unfold winP; rw [if_neg (by assumption)]; exact hs2⟩
set_option maxRecDepth 100000 in
set_option maxHeartbeats 2000000 in
theorem dec1_any (l : List SecV) (V : Value) (a to_ : UInt32) (bl bt : Nat) (w : World) (hV : Sl (hp w) encSec l V) (hB : SecB l) (hD : DataIn (hp w) l) (c1 : CellsIn (hp w) bl [V]) (c2 : CellsIn (hp w) bt [.int .u32 to_.toNat]) :
    Calls Try.prog 27 #[.int .u32 a.toNat, .pointer (some ⟨bl, 0, none⟩), .pointer (some ⟨bt, 0, none⟩)] w (fun e w' => e = .returned (.tuple #[.agg (encIns.enc (decW l to_ a).1).toArray, .bool (okW l to_ a)]) ∧ Ext w w') := by
  have hV' : Sl (Bg.of w).blk encSec l V := hV
  have hlen := hB.1
  have c1' : CellsIn (Bg.of w).blk bl [V] := c1
  have c2' : CellsIn (Bg.of w).blk bt [.int .u32 to_.toNat] := c2
  refine enter Try.func27 rfl Try.ntmps27 rfl ?_
  refine Tr.seq ?_
  refine Tr.region ?_
  refine Tr.alloc Try.zeroValue36 rfl rfl (fun b1 => ?_)
  refine Tr.q (QS.assign rfl) rfl ?_
  refine Tr.nil ?_
  refine Tr.thenN ?_
  refine Tr.seq ?_
  refine Tr.region ?_
  refine Tr.q (QS.loadCF rfl (by assumption) Try.isAgg22 (by rfl)) rfl ?_
  refine Tr.q (QS.move rfl) rfl ?_
  refine Tr.q (QS.loadCF rfl (by assumption) Try.isAgg23 (by rfl)) rfl ?_
  refine Tr.callBg (fun V : Value => V) (R := fun _ V => Sl (hp w) encU8 (winP l a to_) V) (fun h h' i hh r => r) rfl Try.call29 (fun w2 hw => win_any l V a to_ (hp w) w2 hw.bg hV hB hD) rfl (fun V7 F7 hF7 hR7 => ?_)
  refine Tr.q (QS.move rfl) rfl ?_
  refine Tr.q (QS.call rfl Try.call28 (fun w hw => decode_isa (winP l a to_) _ a w (hw.slF (hR7.mono hF7.blk)))) rfl ?_
  refine Tr.q (QS.move rfl) rfl ?_
  refine Tr.q (QS.extract rfl rfl) rfl ?_
  refine Tr.q (QS.extract rfl rfl) rfl ?_
  refine Tr.alloc Try.zeroValue36 rfl rfl (fun b2 => ?_)
  refine Tr.storeW rfl rfl Try.sizeOf36 (by repeat (first | exact Put.here _ | apply Put.there)) (by rfl) (by rfl) (by first | exact List.all_eq_true.1 rfl | exact Enc.one _ _ | exact Enc.one encIns _) rfl ?_
  refine Tr.q (QS.assign rfl) rfl ?_
  refine Tr.nil ?_
  refine Tr.thenN ?_
  refine Tr.seq ?_
  refine Tr.region ?_
  refine Tr.q (QS.lW rfl Try.isAgg36 Try.sizeOf36) rfl ?_
  refine Tr.q (QS.move rfl) rfl ?_
  refine Tr.q (QS.eql rfl rfl) rfl ?_
  refine Tr.storeW rfl rfl Try.sizeOf36 (by repeat (first | exact Put.here _ | apply Put.there)) (by rfl) (by rfl) (by first | exact List.all_eq_true.1 rfl | exact Enc.one _ _ | exact Enc.one encIns _) rfl ?_
  refine Tr.q (QS.assign rfl) rfl ?_
  refine Tr.nil ?_
  refine Tr.thenN ?_
  refine Tr.ret ?_
  refine Tr.retC2 Try.results27 rfl rfl (by repeat (first | exact List.Mem.head _ | apply List.Mem.tail)) Try.isAgg36 Try.sizeOf36 (by rfl) (fun w' hw => ?_)
  exact ⟨rfl, hw.below hF7⟩
set_option maxRecDepth 100000 in
set_option maxHeartbeats 2000000 in
theorem size1_any (l : List SecV) (V : Value) (a to_ : UInt32) (bl bt bd : Nat) (w : World) (hV : Sl (hp w) encSec l V) (hB : SecB l) (hD : DataIn (hp w) l) (c1 : CellsIn (hp w) bl [V]) (c2 : CellsIn (hp w) bt [.int .u32 to_.toNat]) (c3 : CellsIn (hp w) bd [.func (.func 27) #[] #[.pointer (some ⟨bl, 0, none⟩), .pointer (some ⟨bt, 0, none⟩)]]) :
    Calls Try.prog 30 #[.int .u32 a.toNat, .pointer (some ⟨bd, 0, none⟩)] w (fun e w' => e = .returned (.int .u32 (szW l to_ a).toNat) ∧ Ext w w') := by
  have hV' : Sl (Bg.of w).blk encSec l V := hV
  have hlen := hB.1
  have c3' : CellsIn (Bg.of w).blk bd [.func (.func 27) #[] #[.pointer (some ⟨bl, 0, none⟩), .pointer (some ⟨bt, 0, none⟩)]] := c3
  refine enter Try.func30 rfl Try.ntmps30 rfl ?_
  refine Tr.seq ?_
  refine Tr.region ?_
  refine Tr.q (QS.assign rfl) rfl ?_
  refine Tr.nil ?_
  refine Tr.thenN ?_
  refine Tr.seq ?_
  refine Tr.seq ?_
  refine Tr.region ?_
  refine Tr.q (QS.loadCF rfl (by assumption) Try.isAgg65 (by rfl)) rfl ?_
  refine Tr.q (QS.move rfl) rfl ?_
  refine Tr.q (QS.callV rfl rfl Try.call27 (fun w hw => dec1_any l V a to_ bl bt w (hw.slF hV) hB (hD.mono hw.bg) (c1.mono hw.bg) (c2.mono hw.bg))) rfl ?_
  refine Tr.q (QS.move rfl) rfl ?_
  refine Tr.q (QS.extract rfl rfl) rfl ?_
  refine Tr.q (QS.extract rfl rfl) rfl ?_
  refine Tr.alloc Try.zeroValue36 rfl rfl (fun b1 => ?_)
  refine Tr.storeW rfl rfl Try.sizeOf36 (by repeat (first | exact Put.here _ | apply Put.there)) (by rfl) (by rfl) (by first | exact List.all_eq_true.1 rfl | exact Enc.one _ _ | exact Enc.one encIns _) rfl ?_
  refine Tr.q (QS.assign rfl) rfl ?_
  refine Tr.nil ?_
  refine Tr.thenN ?_
  refine Tr.seq ?_
  refine Tr.region ?_
  refine Tr.q (QS.move rfl) rfl ?_
  refine Tr.nil ?_
  refine Tr.thenN ?_
  refine Tr.cond rfl (fun h2 => ?_) (fun h2 => ?_)
  · try simp only [bs] at h2
    refine Tr.seq ?_
    refine Tr.region ?_
    refine Tr.q (QS.fieldAddr (off := 8) (ft := 3) rfl Try.underlying36 rfl rfl Try.sizeOf3 (by decide)) rfl ?_
    refine Tr.q (QS.lV rfl Try.isAgg3) rfl ?_
    refine Tr.q (QS.cvtTo32 rfl Try.underlying3 Try.underlying23) rfl ?_
    refine Tr.q (QS.assign rfl) rfl ?_
    refine Tr.nil ?_
    refine Tr.thenN ?_
    refine Tr.ret ?_
    refine Tr.thenR ?_
    refine Tr.ret1 Try.results30 rfl (fun w' hw => ?_)
    exact ⟨by unfold szW; rw [if_pos (by assumption)], hw.below (Bg.le.refl _)⟩
  · try simp only [bs] at h2
    refine Tr.skip ?_
    refine Tr.thenN ?_
    refine Tr.seq ?_
    refine Tr.region ?_
    refine Tr.q (QS.assign rfl) rfl ?_
    refine Tr.nil ?_
    refine Tr.thenN ?_
    refine Tr.ret ?_
    refine Tr.ret1 Try.results30 rfl (fun w' hw => ?_)
    exact ⟨by unfold szW; rw [if_neg (by simp_all)]; rfl, hw.below (Bg.le.refl _)⟩
set_option maxRecDepth 100000 in
set_option maxHeartbeats 2000000 in
theorem positions_any (V : Value) (from_ to_ : UInt32) (Fv : Value) (hF1 : Fv.cells.toList = [Fv]) (hF2 : Fv.oneCell' = true) (hV1 : V.cells.toList = [V]) (hV2 : V.oneCell' = true) (w : World) :
    Calls Try.prog 31 #[V, .int .u32 from_.toNat, .int .u32 to_.toNat, Fv] w (fun e w' => ∃ i : Nat × Nat × Nat × Nat, e = .returned (.func (.func 64) #[] #[.pointer (some ⟨i.1, 0, none⟩), .pointer (some ⟨i.2.1, 0, none⟩), .pointer (some ⟨i.2.2.1, 0, none⟩), .pointer (some ⟨i.2.2.2, 0, none⟩)]) ∧ Ext w w' ∧ PosAt V from_ to_ Fv (newHp w w') i) := by
  refine enter Try.func31 rfl Try.ntmps31 rfl ?_
  refine Tr.seq ?_
  refine Tr.region ?_
  refine Tr.box rfl rfl rfl (fun b1 => ?_)
  refine Tr.box rfl rfl rfl (fun b2 => ?_)
  refine Tr.box rfl rfl rfl (fun b3 => ?_)
  refine Tr.box rfl rfl rfl (fun b4 => ?_)
  refine Tr.q (QS.assign rfl) rfl ?_
  refine Tr.nil ?_
  refine Tr.thenN ?_
  refine Tr.seq ?_
  refine Tr.region ?_
  refine Tr.q (QS.makeFunc rfl rfl) rfl ?_
  refine Tr.q (QS.assign rfl) rfl ?_
  refine Tr.nil ?_
  refine Tr.thenN ?_
  refine Tr.ret ?_
  refine Tr.ret1 Try.results31 rfl (fun w' hw => ?_)
  exact ⟨(b1, b2, b3, b4), rfl, hw.below (Bg.le.refl _), hV1 ▸ hw.cellNew rfl (by repeat (first | exact List.Mem.head _ | apply List.Mem.tail)), hw.cellNew rfl (by repeat (first | exact List.Mem.head _ | apply List.Mem.tail)), hw.cellNew rfl (by repeat (first | exact List.Mem.head _ | apply List.Mem.tail)), hF1 ▸ hw.cellNew rfl (by repeat (first | exact List.Mem.head _ | apply List.Mem.tail))⟩
set_option maxRecDepth 100000 in
set_option maxHeartbeats 4000000 in
theorem pos1_any (l : List SecV) (V : Value) (from_ to_ : UInt32) (b1 b2 b3 b4 bl bt bd : Nat) (bo : List Nat) (H : Hp) (hV : Sl H encSec l V) (hB : SecB l) (hD : DataIn H l) (c1 : CellsIn H b1 [V]) (c2 : CellsIn H b2 [.int .u32 from_.toNat]) (c3 : CellsIn H b3 [.int .u32 to_.toNat]) (c4 : CellsIn H b4 [.func (.func 30) #[] #[.pointer (some ⟨bd, 0, none⟩)]]) (c5 : CellsIn H bd [.func (.func 27) #[] #[.pointer (some ⟨bl, 0, none⟩), .pointer (some ⟨bt, 0, none⟩)]]) (c6 : CellsIn H bl [V]) (c7 : CellsIn H bt [.int .u32 to_.toNat]) (hHc : ∀ k o, H k = some o → o.isCells = true) (w : World) (hH : Hp.le H (hp w)) (hn : ∀ k, ownW bo w k → H k = none ∧ k < w.heap.size) (hbs : ∀ b ∈ bo, b < w.heap.size) (lv B : Nat) (J Jx : List UInt32 → World → Prop) (hJ : AbidesFrom B J) (hJx : AbidesFrom B Jx) (hY : ∀ pre x W1, J pre W1 → pre.length < 4294967296 → YieldAt Fence.wide 1 Try.prog lv #[.int .u32 x.toNat] W1 fun e W' => (e = .returned (.bool true) ∧ J (pre ++ [x]) W' ∧ KpW bo W1 W') ∨ (e = .returned (.bool false) ∧ Jx (pre ++ [x]) W')) (h0 : J [] w) :
    Calls Try.prog 64 #[.func (.yield lv) #[] #[], .pointer (some ⟨b1, 0, none⟩), .pointer (some ⟨b2, 0, none⟩), .pointer (some ⟨b3, 0, none⟩), .pointer (some ⟨b4, 0, none⟩)] w (fun e W' => (∃ v, e = .returned v) ∧ ((∃ xs, xs = posP l from_ to_ ∧ J xs W') ∨ (∃ pre, True ∧ Jx pre W'))) := by
  have hV0 : Sl (Bg.of0 w).blk encSec l V := hV.mono hH
  have c10 : CellsIn (Bg.of0 w).blk b1 [V] := c1.mono hH
  obtain ⟨rs, hrs⟩ : ∃ rs, rs = normalP (l.map spaceP) := ⟨_, rfl⟩
  refine enter0 Try.func64 rfl Try.ntmps64 rfl ?_
  refine Tr.seq ?_
  refine Tr.region ?_
  refine Tr.q (QS.loadCF rfl (by assumption) Try.isAgg22 (by rfl)) rfl ?_
  refine Tr.callRow rfl Try.call65 (fun w hw => ranges_any l V w (hw.slF hV0) hB) rfl (fun V1 => ?_)
  refine Tr.q (QS.assign rfl) rfl ?_
  refine Tr.nil ?_
  refine Tr.thenN ?_
  refine Tr.seq ?_
  rw [← hrs]
  refine Tr.now (fun W1 hW1 => ?_)
  have hR1 := (hW1.new0 (w := w) rfl (.head _)).sl
  have hBel := hW1.below0 (Bg.le.refl _)
  have hH1 : Hp.le H (hp W1) := fun k o e => by have q := hH k o e; exact (hBel.block k (Array.getElem?_eq_some_iff.1 q).1).trans q
  have hHk : Hp.le H (keptHp bo w W1) := keptHp_of hH1 hHc (fun k h => (hn k h).1)
  have hRk : Sl (keptHp bo w W1) encRng rs V1 := hR1.cellsHp.mono (newHp_kept (fun k h => (hn k h).2))
  have hRv : Sl (Bg.of0 W1).blk encRng rs V1 := hRk.mono keptHp_le
  have c20 : CellsIn (Bg.of0 W1).blk b2 [.int .u32 from_.toNat] := c2.mono hH1
  have hJ1 : J [] W1 := hJ [] w W1 none h0 ⟨hBel.os, hBel.tape, hBel.output, hBel.size, fun k hk _ => hBel.block k hk⟩ (fun r e => by cases e)
  refine Tr.region ?_
  refine Tr.q (QS.move rfl) rfl ?_
  refine Tr.q (QS.loadCF rfl (by assumption) Try.isAgg23 (by rfl)) rfl ?_
  refine Tr.q (QS.call rfl Try.call66 (fun w hw => nxt_any rs _ from_ w (hw.slF hRv))) rfl ?_
  refine Tr.q (QS.move rfl) rfl ?_
  refine Tr.q (QS.extract rfl rfl) rfl ?_
  refine Tr.q (QS.extract rfl rfl) rfl ?_
  refine Tr.q (QS.assign rfl) rfl ?_
  refine Tr.q (QS.assign rfl) rfl ?_
  refine Tr.nil ?_
  refine Tr.thenN ?_
  refine Tr.block ?_
  refine Tr.loop (ι := World × UInt32 × List UInt32 × Nat) (fun ⟨Ws, x, pre, f⟩ => Hp.le (keptHp bo w W1) (hp Ws) ∧ W1.heap.size ≤ Ws.heap.size ∧ (∀ k, ownW bo Ws k → ownW bo w k ∨ W1.heap.size ≤ k) ∧ (∀ b ∈ bo, b < Ws.heap.size) ∧ J pre Ws ∧ pre ++ posF l rs to_ f x = posP l from_ to_ ∧ pre.length ≤ x.toNat ∧ 4294967296 ≤ f + x.toNat) (fun ⟨Ws, x, pre, f⟩ => Bg.of0 Ws) (fun ⟨Ws, x, pre, f⟩ => []) (fun ⟨Ws, x, pre, f⟩ => [(7, .int .u32 ((nxtP rs x).getD 0).toNat), (8, .bool (nxtP rs x).isSome)]) (fun ⟨Ws, x, pre, f⟩ => 4294967296 - x.toNat) (W1, from_, [], 4294967296) ⟨keptHp_le, Nat.le_refl _, fun k h => .inl ((ownW_same (fun b hb => hBel.block b (hbs b hb)) k).1 h), fun b hb => Nat.lt_of_lt_of_le (hbs b hb) hBel.size, hJ1, by rw [posP, ← hrs]; rfl, Nat.zero_le _, by omega⟩ (.cons (by first | rfl | exact lookI rfl (by omega) | exact lookI rfl (by simp) | exact lookB rfl (by simp)) (.cons (by first | rfl | exact lookI rfl (by omega) | exact lookI rfl (by simp) | exact lookB rfl (by simp)) Front.nil)) (by repeat' (first | exact Pick.nil _ | exact Del.here _ | apply Pick.cons | apply Del.there)) rfl (fun i hi m hm => ?_)
  obtain ⟨Ws, x, pre, f⟩ := i
  replace hi : Hp.le (keptHp bo w W1) (hp Ws) ∧ W1.heap.size ≤ Ws.heap.size ∧ (∀ k, ownW bo Ws k → ownW bo w k ∨ W1.heap.size ≤ k) ∧ (∀ b ∈ bo, b < Ws.heap.size) ∧ J pre Ws ∧ pre ++ posF l rs to_ f x = posP l from_ to_ ∧ pre.length ≤ x.toNat ∧ 4294967296 ≤ f + x.toNat := hi
  replace hm : m = 4294967296 - x.toNat := hm
  change Tr _ (Bg.of0 Ws) [] ([(7, .int .u32 ((nxtP rs x).getD 0).toNat), (8, .bool (nxtP rs x).isSome)] ++ _) _
  obtain ⟨q1, q2, q3, q4, q5, q6, q7, q8⟩ := hi
  have hHs := hHk.trans q1
  have c3s : CellsIn (Bg.of0 Ws).blk b3 [.int .u32 to_.toNat] := c3.mono hHs
  refine Tr.seq ?_
  refine Tr.seq ?_
  refine Tr.region ?_
  refine Tr.q (QS.move rfl) rfl ?_
  refine Tr.q (QS.move rfl) rfl ?_
  apply Tr.andP
  · exact (rfl : _ = (4, 18, 22))
  · exact rfl
  · intro hT2; have hT2' := hT2
    try simp only [bs] at hT2'
    refine Tr.gq rfl rfl hT2 (QS.move rfl) rfl ?_
    refine Tr.gq rfl rfl hT2 (QS.loadCF rfl (by assumption) Try.isAgg23 (by rfl)) rfl ?_
    refine Tr.gq rfl rfl hT2 (QS.lss32 rfl rfl) rfl ?_
    refine Tr.q (QS.pickT rfl hT2 rfl) rfl ?_
    refine Tr.nil (Tr.thenN ?_)
    exact Tr.endX (Sub.cons rfl (Sub.dropN 4 (by kernel_rfl) rfl))
  · intro hF2
    refine Tr.gskip rfl rfl hF2 rfl ?_
    refine Tr.gskip rfl rfl hF2 rfl ?_
    refine Tr.gskip rfl rfl hF2 rfl ?_
    refine Tr.q (QS.pickF rfl hF2 rfl) rfl ?_
    refine Tr.nil (Tr.thenN ?_)
    exact Tr.endX (Sub.cons rfl (Sub.dropN 4 (by kernel_rfl) rfl))
  refine Tr.nil ?_
  refine Tr.thenN ?_
  refine Tr.cond rfl (fun h3 => ?_) (fun h3 => ?_)
  · try simp only [bs] at h3
    refine Tr.skip ?_
    refine Tr.thenN ?_
    refine Tr.seq ?_
    refine Tr.block ?_
    refine Tr.seq ?_
    refine Tr.seq ?_
    obtain ⟨b, hb⟩ := Option.isSome_iff_exists.1 h3.1
    have hbd : (nxtP rs x).getD 0 = b := by rw [hb]; rfl
    have hblt : b < to_ := by rw [← hbd]; exact h3.2
    have hge := nxtP_ge hb
    have hst := step_pos l to_ ((nxtP rs x).getD 0) (by rw [hbd]; exact hblt)
    have hxlt := x.toNat_lt
    rw [← hbd] at hge
    refine Tr.yield (x := (nxtP rs x).getD 0) (fun x : UInt32 => .int .u32 x.toNat) rfl rfl rfl rfl q5 hJ (fun W2 h => hY pre _ W2 h (by omega)) rfl rfl rfl rfl (fun W2 W' y1 y2 y3 => ?_) (fun W' y1 => ?_)
    · skip
      obtain ⟨r1, r2, r3, r4⟩ := keptHp_round q1 q2 q3 q4 y1.grown y2
      have hHs' := hHk.trans r1
      have hVs' : Sl (Bg.of0 W').blk encSec l V := hV.mono hHs'
      have hDs' : DataIn (Bg.of0 W').blk l := hD.mono hHs'
      have c4s' : CellsIn (Bg.of0 W').blk b4 [.func (.func 30) #[] #[.pointer (some ⟨bd, 0, none⟩)]] := c4.mono hHs'
      have c5s' : CellsIn (Bg.of0 W').blk bd [.func (.func 27) #[] #[.pointer (some ⟨bl, 0, none⟩), .pointer (some ⟨bt, 0, none⟩)]] := c5.mono hHs'
      have c6s' : CellsIn (Bg.of0 W').blk bl [V] := c6.mono hHs'
      have c7s' : CellsIn (Bg.of0 W').blk bt [.int .u32 to_.toNat] := c7.mono hHs'
      have hRv' : Sl (Bg.of0 W').blk encRng rs V1 := hRk.mono r1
      refine Tr.thenN ?_
      refine Tr.cond rfl (fun h4 => ?_) (fun h4 => ?_)
      · try simp only [bs] at h4
        first | contradiction | (exfalso; omega) | simp_all
      · try simp only [bs] at h4
        refine Tr.skip ?_
        refine Tr.thenN ?_
        refine Tr.region ?_
        refine Tr.q (QS.move rfl) rfl ?_
        refine Tr.q (QS.loadCF rfl (by assumption) Try.isAgg66 (by rfl)) rfl ?_
        refine Tr.q (QS.move rfl) rfl ?_
        refine Tr.q (QS.callV rfl rfl Try.call30 (fun w hw => size1_any l V ((nxtP rs x).getD 0) to_ bl bt bd w (hw.slF hVs') hB (hDs'.mono hw.bg) (c6s'.mono hw.bg) (c7s'.mono hw.bg) (c5s'.mono hw.bg))) rfl ?_
        refine Tr.q (QS.add32 rfl rfl) rfl ?_
        refine Tr.q (QS.assign rfl) rfl ?_
        refine Tr.nil ?_
        refine Tr.inN ?_
        refine Tr.thenN ?_
        refine Tr.region ?_
        refine Tr.q (QS.move rfl) rfl ?_
        refine Tr.q (QS.move rfl) rfl ?_
        refine Tr.q (QS.call rfl Try.call66 (fun w hw => nxt_any rs _ (((nxtP rs x).getD 0) + szW l to_ ((nxtP rs x).getD 0)) w (hw.slF hRv'))) rfl ?_
        refine Tr.q (QS.move rfl) rfl ?_
        refine Tr.q (QS.extract rfl rfl) rfl ?_
        refine Tr.q (QS.extract rfl rfl) rfl ?_
        refine Tr.q (QS.assign rfl) rfl ?_
        refine Tr.q (QS.assign rfl) rfl ?_
        refine Tr.nil ?_
        refine Tr.thenN ?_
        have hx' : (((nxtP rs x).getD 0) + szW l to_ ((nxtP rs x).getD 0)).toNat = ((nxtP rs x).getD 0).toNat + (szW l to_ ((nxtP rs x).getD 0)).toNat := hst.1
        obtain ⟨f2, rfl⟩ : ∃ f2, f = f2 + 1 := ⟨f - 1, by omega⟩
        have hpf : (pre ++ [(nxtP rs x).getD 0]) ++ posF l rs to_ f2 (((nxtP rs x).getD 0) + szW l to_ ((nxtP rs x).getD 0)) = posP l from_ to_ := by rw [← q6, posF_go hb hblt, List.append_assoc, List.singleton_append, hbd]
        have hpl : (pre ++ [(nxtP rs x).getD 0]).length = pre.length + 1 := by simp
        apply Tr.again (W', (((nxtP rs x).getD 0) + szW l to_ ((nxtP rs x).getD 0)), pre ++ [(nxtP rs x).getD 0], f2)
        · exact rfl
        · exact (.cons (by first | rfl | exact lookI rfl (by omega) | exact lookI rfl (by simp) | exact lookB rfl (by simp)) (.cons (by first | rfl | exact lookI rfl (by omega) | exact lookI rfl (by simp) | exact lookB rfl (by simp)) Front.nil))
        · exact SubX.dropN 23 (by kernel_rfl) rfl
        · exact (by repeat' (first | exact Pick.nil _ | exact Del.here _ | apply Pick.cons | apply Del.there))
        · exact ⟨r1, r2, r3, r4, y3, hpf, by omega, by omega⟩
        · exact (by show 4294967296 - _ < m; omega)
    · skip
      refine Tr.thenN ?_
      refine Tr.cond rfl (fun h5 => ?_) (fun h5 => ?_)
      · try simp only [bs] at h5
        refine Tr.ret ?_
        refine Tr.thenR ?_
        refine Tr.inR ?_
        refine Tr.thenR ?_
        refine Tr.thenR ?_
        refine Tr.inR ?_
        refine Tr.ret0 Try.results64 (fun w' hw => ?_)
        exact ⟨⟨_, rfl⟩, .inr ⟨_, trivial, hJx _ W' _ none y1 hw.grown (fun r e => by cases e)⟩⟩
      · try simp only [bs] at h5
        first | contradiction | (exfalso; omega) | simp_all
  · try simp only [bs] at h3
    refine Tr.exit ?_
    refine Tr.thenE ?_
    refine Tr.thenE ?_
    refine Tr.inHit ?_
    refine Tr.ret0n Try.results64 (fun w' hw => ?_)
    have hend : posF l rs to_ f x = [] := by
      cases hq : nxtP rs x with
      | none => exact posF_stop hq
      | some b =>
        refine posF_stop2 hq (fun hb => ?_)
        rw [hq] at h3
        rcases h3 with h3 | h3
        · cases h3
        · exact h3 hb
    rw [hend, List.append_nil] at q6
    exact ⟨⟨_, rfl⟩, .inl ⟨pre, q6, hJ pre Ws _ none q5 hw.grown (fun r e => by cases e)⟩⟩
theorem pos_stops (l : List SecV) (V : Value) (from_ to_ : UInt32) (b1 b2 b3 b4 bl bt bd : Nat) (bo : List Nat) (H : Hp) (hV : Sl H encSec l V) (hB : SecB l) (hD : DataIn H l) (c1 : CellsIn H b1 [V]) (c2 : CellsIn H b2 [.int .u32 from_.toNat]) (c3 : CellsIn H b3 [.int .u32 to_.toNat]) (c4 : CellsIn H b4 [.func (.func 30) #[] #[.pointer (some ⟨bd, 0, none⟩)]]) (c5 : CellsIn H bd [.func (.func 27) #[] #[.pointer (some ⟨bl, 0, none⟩), .pointer (some ⟨bt, 0, none⟩)]]) (c6 : CellsIn H bl [V]) (c7 : CellsIn H bt [.int .u32 to_.toNat]) (hHc : ∀ k o, H k = some o → o.isCells = true) (w : World) (hH : Hp.le H (hp w)) (hn : ∀ k, ownW bo w k → H k = none ∧ k < w.heap.size) (hbs : ∀ b ∈ bo, b < w.heap.size) :
    SeqStopsK Fence.wide 2 Try.prog 64 [.pointer (some ⟨b1, 0, none⟩), .pointer (some ⟨b2, 0, none⟩), .pointer (some ⟨b3, 0, none⟩), .pointer (some ⟨b4, 0, none⟩)].toArray (fun x : UInt32 => #[.int .u32 x.toNat]) (KpW bo) (fun xs => xs = posP l from_ to_) (fun _ => True) 4294967296 w := by
  intro lv J Jx W hBel hJ hJx hY h0
  have hs := ownW_same (bs := bo) (w := w) (w' := W) (fun b hb => hBel.block b (hbs b hb))
  exact callsIn_wide.2 (pos1_any l V from_ to_ b1 b2 b3 b4 bl bt bd bo H hV hB hD c1 c2 c3 c4 c5 c6 c7 hHc W (fun k o e => (hBel.block k (Array.getElem?_eq_some_iff.1 (hH k o e)).1).trans (hH k o e)) (fun k h => ⟨(hn k ((hs k).1 h)).1, Nat.lt_of_lt_of_le (hn k ((hs k).1 h)).2 hBel.size⟩) (fun b hb => Nat.lt_of_lt_of_le (hbs b hb) hBel.size) lv W.heap.size J Jx hJ hJx hY h0)
set_option maxRecDepth 100000 in
set_option maxHeartbeats 8000000 in
theorem sweep_any (l : List SecV) (V : Value) (from_ to_ : UInt32) (w : World) (hV : Sl (hp w) encSec l V) (hB : SecB l) (hD : DataIn (hp w) l) (hN : (posP l from_ to_).length ≤ 1000000) :
    Calls Try.prog 11 #[V, .int .u32 from_.toNat, .int .u32 to_.toNat] w (fun e w' => ∃ i : (Value × List Ins) × (Value × List Rng), e = .returned (.tuple #[i.1.1, i.2.1]) ∧ Below w.heap.size w w' ∧ NewEnts w w' [rowE i.1.1 36 encIns i.1.2, rowE i.2.1 61 encRng i.2.2] ∧ i.1.2 = foundP l to_ (posP l from_ to_) ∧ i.2.2 = normalP (badP l to_ (posP l from_ to_))) := by
  have hV0 : Sl (Bg.of0 w).blk encSec l V := hV
  have hlen := hB.1
  obtain ⟨va, vc, hv1, hv2⟩ : ∃ va vc, V = .slice va l.length vc ∧ True := by obtain ⟨a, c, h, _⟩ := hV.shape; exact ⟨a, c, h, trivial⟩
  refine enterM Try.func11 rfl Try.ntmps11 rfl ?_
  refine Tr.seq ?_
  refine Tr.region ?_
  refine Tr.box rfl rfl rfl (fun b1 => ?_)
  refine Tr.box rfl rfl rfl (fun b2 => ?_)
  refine Tr.q (QS.assign rfl) rfl ?_
  refine Tr.q (QS.assign rfl) rfl ?_
  refine Tr.nil ?_
  refine Tr.thenN ?_
  refine Tr.seq ?_
  refine Tr.region ?_
  refine Tr.alloc Try.zeroValue26 rfl rfl (fun b3 => ?_)
  refine Tr.nil ?_
  refine Tr.thenN ?_
  refine Tr.seq ?_
  refine Tr.region ?_
  refine Tr.alloc Try.zeroValue27 rfl rfl (fun b4 => ?_)
  refine Tr.nil ?_
  refine Tr.thenN ?_
  refine Tr.seq ?_
  refine Tr.region ?_
  refine Tr.q (QS.makeFunc rfl rfl) rfl ?_
  refine Tr.alloc Try.zeroValue65 rfl rfl (fun b5 => ?_)
  refine Tr.storeW rfl rfl Try.sizeOf65 (by repeat (first | exact Put.here _ | apply Put.there)) (by rfl) (by rfl) (by first | exact List.all_eq_true.1 rfl | exact Enc.one _ _) rfl ?_
  refine Tr.nil ?_
  refine Tr.thenN ?_
  refine Tr.seq ?_
  refine Tr.region ?_
  refine Tr.q (QS.makeFunc rfl rfl) rfl ?_
  refine Tr.q (QS.assign rfl) rfl ?_
  refine Tr.nil ?_
  refine Tr.thenN ?_
  refine Tr.seq ?_
  refine Tr.seq ?_
  have hVc : V.cells.toList = [V] := by rw [hv1]; rfl
  rw [hVc]
  refine Tr.region ?_
  refine Tr.q (QS.lV rfl Try.isAgg22) rfl ?_
  refine Tr.q (QS.move rfl) rfl ?_
  refine Tr.q (QS.lV rfl Try.isAgg23) rfl ?_
  refine Tr.q (QS.move rfl) rfl ?_
  refine Tr.callBg (fun i : Nat × Nat × Nat × Nat => .func (.func 64) #[] #[.pointer (some ⟨i.1, 0, none⟩), .pointer (some ⟨i.2.1, 0, none⟩), .pointer (some ⟨i.2.2.1, 0, none⟩), .pointer (some ⟨i.2.2.2, 0, none⟩)]) (R := PosAt V from_ to_ (.func (.func 30) #[] #[.pointer (some ⟨b5, 0, none⟩)])) (fun h h' i hh r => r.mono hh) rfl Try.call31 (fun w2 hw => positions_any V from_ to_ (.func (.func 30) #[] #[.pointer (some ⟨b5, 0, none⟩)]) rfl rfl (by rw [hv1]; rfl) (by rw [hv1]; rfl) w2) rfl (fun i F4 hF4 hR4 => ?_)
  refine Tr.nil ?_
  refine Tr.thenN ?_
  refine Tr.block ?_
  obtain ⟨i1, i2, i3, i4⟩ := i
  obtain ⟨p1, p2, p3, p4⟩ := hR4
  dsimp only at p1 p2 p3 p4
  refine Tr.frozenC (b := b5) (by repeat (first | exact Del.here _ | apply Del.there)) (fun F5 hF5 cd => ?_)
  refine Tr.frozenC (b := b2) (by repeat (first | exact Del.here _ | apply Del.there)) (fun F6 hF6 ct => ?_)
  refine Tr.frozenC (b := b1) (by repeat (first | exact Del.here _ | apply Del.there)) (fun F7 hF7 cl => ?_)
  have hF67 := hF6.trans hF7
  have hF57 := hF5.trans hF67
  have hF07 := hF4.trans hF57
  refine Tr.ownNil 61 encRng ?_
  refine Tr.ownNil 36 encIns ?_
  refine Tr.rangeF (α := UInt32) (ι := (Value × List Ins) × (Value × List Rng)) (lb := [.pointer (some ⟨i1, 0, none⟩), .pointer (some ⟨i2, 0, none⟩), .pointer (some ⟨i3, 0, none⟩), .pointer (some ⟨i4, 0, none⟩)]) (fun x => .int .u32 x.toNat) [b3, b4] (fun xs => xs = posP l from_ to_) (fun pre j => j.1.2 = foundP l to_ pre ∧ j.2.2 = badP l to_ pre) (fun j => [cellE b3 [j.1.1] 26, cellE b4 [j.2.1] 27, rowE j.1.1 36 encIns j.1.2, rowE j.2.1 61 encRng j.2.2]) 4294967296 ((.slice none 0 0, []), (.slice none 0 0, [])) hF07.dr rfl rfl Try.call64 rfl rfl (by repeat' (first | exact Pick.nil _ | exact Del.here _ | apply Pick.cons | apply Del.there)) ⟨rfl, rfl⟩ (fun j => .cell (.cell (.row (.row .nil)))) (by simp [blks, cellE]) (fun F' j W h k => own_two h k) ?_ ?_ ?_
  · intro w2 F1 hf h1 full1
    exact pos_stops l V from_ to_ i1 i2 i3 i4 b1 b2 b5 [b3, b4] (cellsHp F1.blk) ((hV0.mono (hF07.trans hf).blk).cellsHp) hB (fun s hs => ((hD s hs).mono (hF07.trans hf).blk).cellsHp) ((p1.mono (hF57.trans hf).blk).cellsHp) ((p2.mono (hF57.trans hf).blk).cellsHp) ((p3.mono (hF57.trans hf).blk).cellsHp) ((p4.mono (hF57.trans hf).blk).cellsHp) ((cd.mono (hF67.trans hf).blk).cellsHp) ((cl.mono hf.blk).cellsHp) ((ct.mono (hF7.trans hf).blk).cellsHp) (fun k o e => (cellsHp_some e).2) w2 (fun k o e => h1.bg k o (cellsHp_some e).1) (fun k hk => (by have hm := (own_two h1 k).1 hk; exact ⟨by cases hq : cellsHp F1.blk k with | none => rfl | some o => (have := (cellsHp_some hq).1; rw [(h1.sep k hm).1] at this; cases this), h1.lt k hm⟩)) (fun b hb => h1.lt b ((own_two h1 b).1 (.inl hb)))
  · intro pre x j l0 F1 hF1 hok hlen
    obtain ⟨⟨Vf, fs⟩, ⟨Vb, bl⟩⟩ := j
    obtain ⟨ok1, ok2⟩ := hok
    replace ok1 : fs = foundP l to_ pre := ok1
    replace ok2 : bl = badP l to_ pre := ok2
    subst ok1 ok2
    change Tr _ _ [cellE b3 [Vf] 26, cellE b4 [Vb] 27, rowE Vf 36 encIns (foundP l to_ pre), rowE Vb 61 encRng (badP l to_ pre)] _ _
    have cd1 := cd.mono (hF67.trans hF1).blk
    have ct1 := ct.mono (hF7.trans hF1).blk
    have cl1 := cl.mono hF1.blk
    have hV1 := hV0.mono (hF07.trans hF1).blk
    have hD1 : DataIn F1.blk l := fun s hs => (hD s hs).mono (hF07.trans hF1).blk
    have hfl := found_len l to_ pre
    have hbl := bad_len l to_ pre
    refine Tr.blockIn ?_
    refine Tr.seqIn ?_
    refine Tr.regionI (noThen (noIn noNormal)) rfl ?_
    refine Tr.q (QS.loadCF rfl cd1 Try.isAgg65 (by rfl)) rfl ?_
    refine Tr.q (QS.move rfl) rfl ?_
    refine Tr.q (QS.callV rfl rfl Try.call27 (fun w hw => dec1_any l V x to_ b1 b2 w (hw.slF hV1) hB (hD1.mono hw.bg) (cl1.mono hw.bg) (ct1.mono hw.bg))) rfl ?_
    refine Tr.q (QS.move rfl) rfl ?_
    refine Tr.q (QS.extract rfl rfl) rfl ?_
    refine Tr.q (QS.extract rfl rfl) rfl ?_
    refine Tr.alloc Try.zeroValue36 rfl rfl (fun b6 => ?_)
    refine Tr.storeW rfl rfl Try.sizeOf36 (by repeat (first | exact Put.here _ | apply Put.there)) (by rfl) (by rfl) (by first | exact List.all_eq_true.1 rfl | exact Enc.one _ _ | exact Enc.one encIns _) rfl ?_
    refine Tr.q (QS.assign rfl) rfl ?_
    refine Tr.nil ?_
    refine Tr.thenN ?_
    refine Tr.seqIn ?_
    refine Tr.regionI (noThen (noIn noNormal)) rfl ?_
    refine Tr.q (QS.move rfl) rfl ?_
    refine Tr.nil ?_
    refine Tr.thenN ?_
    refine Tr.condIn rfl (fun h7 => ?_) (fun h7 => ?_)
    · try simp only [bs] at h7
      refine Tr.regionI (noIn noNormal) rfl ?_
      refine Tr.q (QS.lV rfl Try.isAgg26) rfl ?_
      refine Tr.q (QS.lW rfl Try.isAgg36 Try.sizeOf36) rfl ?_
      refine Tr.lit1 (E := encIns) (decW l to_ x).1 rfl rfl Try.underlying26 Try.sizeOf36 Try.zeroValue36 (by rfl) (by rfl) rfl (fun V8 => ?_)
      refine Tr.append1 rfl rfl (by repeat (first | exact Del.here _ | apply Del.there)) (by repeat (first | exact Del.here _ | apply Del.there)) Try.underlying26 HLF.info36 (by rfl) (by rfl) (by (try simp only [List.length_cons, List.length_nil, List.length_append, List.length_take]); omega) (by unfold maxLen; (try simp only [List.length_cons, List.length_nil, List.length_append, List.length_take]); omega) rfl (fun V9 => ?_)
      refine Tr.rowShape (.head _) (fun pa pc hpv => ?_)
      subst hpv
      refine Tr.storeW rfl rfl Try.sizeOf26 (by repeat (first | exact Put.here _ | apply Put.there)) (by rfl) (by rfl) (by first | exact List.all_eq_true.1 rfl | exact Enc.one _ _) rfl ?_
      refine Tr.nil ?_
      refine Tr.inN ?_
      have hq1 := found_yes (l := l) (to_ := to_) (ps := pre) (x := x) h7
      have hq2 := bad_yes (l := l) (to_ := to_) (ps := pre) (x := x) h7
      exact fun a w ha hw => ⟨rfl, (((.slice pa (foundP l to_ pre ++ [(decW l to_ x).1]).length pc), foundP l to_ pre ++ [(decW l to_ x).1]), (Vb, badP l to_ pre)), ⟨hq1.symm, hq2.symm⟩, Pick.heap (L' := [cellE b3 [(.slice pa (foundP l to_ pre ++ [(decW l to_ x).1]).length pc)] 26, cellE b4 [Vb] 27, rowE (.slice pa (foundP l to_ pre ++ [(decW l to_ x).1]).length pc) 36 encIns (foundP l to_ pre ++ [(decW l to_ x).1]), rowE Vb 61 encRng (badP l to_ pre)]) (by repeat' (first | exact Pick.nil _ | exact Del.here _ | apply Pick.cons | apply Del.there)) hw⟩
    · try simp only [bs] at h7
      refine Tr.regionI (noIn noNormal) rfl ?_
      refine Tr.q (QS.lV rfl Try.isAgg27) rfl ?_
      refine Tr.q (QS.move rfl) rfl ?_
      refine Tr.q (QS.move rfl) rfl ?_
      refine Tr.q (QS.add32 (n := 1) rfl rfl) rfl ?_
      refine Tr.q (QS.build (vs := [(0, _), (1, _)]) rfl rfl (HLF.built61_0_1 _ _)) rfl ?_
      refine Tr.lit1 (E := encRng) (⟨x, x + 1⟩ : Rng) rfl rfl Try.underlying27 Try.sizeOf61 Try.zeroValue61 (by rfl) (by rfl) rfl (fun V10 => ?_)
      refine Tr.append1 rfl rfl (by repeat (first | exact Del.here _ | apply Del.there)) (by repeat (first | exact Del.here _ | apply Del.there)) Try.underlying27 HLF.info61 (by rfl) (by rfl) (by (try simp only [List.length_cons, List.length_nil, List.length_append, List.length_take]); omega) (by unfold maxLen; (try simp only [List.length_cons, List.length_nil, List.length_append, List.length_take]); omega) rfl (fun V11 => ?_)
      refine Tr.rowShape (.head _) (fun pa pc hpv => ?_)
      subst hpv
      refine Tr.storeW rfl rfl Try.sizeOf27 (by repeat (first | exact Put.here _ | apply Put.there)) (by rfl) (by rfl) (by first | exact List.all_eq_true.1 rfl | exact Enc.one _ _) rfl ?_
      refine Tr.nil ?_
      refine Tr.inN ?_
      have hq1 := found_no (l := l) (to_ := to_) (ps := pre) (x := x) h7
      have hq2 := bad_no (l := l) (to_ := to_) (ps := pre) (x := x) h7
      exact fun a w ha hw => ⟨rfl, ((Vf, foundP l to_ pre), ((.slice pa (badP l to_ pre ++ [(⟨x, x + 1⟩ : Rng)]).length pc), badP l to_ pre ++ [(⟨x, x + 1⟩ : Rng)])), ⟨hq1.symm, hq2.symm⟩, Pick.heap (L' := [cellE b3 [Vf] 26, cellE b4 [(.slice pa (badP l to_ pre ++ [(⟨x, x + 1⟩ : Rng)]).length pc)] 27, rowE Vf 36 encIns (foundP l to_ pre), rowE (.slice pa (badP l to_ pre ++ [(⟨x, x + 1⟩ : Rng)]).length pc) 61 encRng (badP l to_ pre ++ [(⟨x, x + 1⟩ : Rng)])]) (by repeat' (first | exact Pick.nil _ | exact Del.here _ | apply Pick.cons | apply Del.there)) hw⟩
  · intro xs j D F1 hF1 hS hok
    obtain ⟨⟨Vf, fs⟩, ⟨Vb, bl⟩⟩ := j
    obtain ⟨ok1, ok2⟩ := hok
    replace hS : xs = posP l from_ to_ := hS
    subst hS
    replace ok1 : fs = foundP l to_ (posP l from_ to_) := ok1
    replace ok2 : bl = badP l to_ (posP l from_ to_) := ok2
    subst ok1 ok2
    have hbl : (badP l to_ (posP l from_ to_)).length ≤ 1000000 := Nat.le_trans (bad_len l to_ _) hN
    change Tr _ _ [markE D, cellE b3 [Vf] 26, cellE b4 [Vb] 27, rowE Vf 36 encIns (foundP l to_ (posP l from_ to_)), rowE Vb 61 encRng (badP l to_ (posP l from_ to_))] _ _
    refine Tr.inN ?_
    refine Tr.thenN ?_
    refine Tr.seq ?_
    refine Tr.regionH ([cellE b3 [Vf] 26, cellE b4 [Vb] 27]) 5 rfl HLF.mixed ?_
    refine Tr.hT 0 rfl (by kernel_rfl) (panicThen panicRet) (QS.lV rfl Try.isAgg26) ?_
    refine Tr.hT 1 rfl (by kernel_rfl) (panicThen panicRet) (QS.lV rfl Try.isAgg27) ?_
    refine Tr.hAll [2] (by kernel_rfl) (by simp) (fun iq hq => ?_)
    obtain rfl := List.mem_singleton.1 hq
    refine Tr.hOp rfl ?_
    refine Tr.callRow rfl Try.call32 (fun w hw => normal_any (badP l to_ (posP l from_ to_)) _ w (hw.row (by repeat (first | exact List.Mem.head _ | apply List.Mem.tail))) hbl) rfl (fun V12 => ?_)
    refine Tr.hN ?_
    refine Tr.hT 3 rfl (by kernel_rfl) (panicThen panicRet) (QS.assign rfl) ?_
    refine Tr.hT 4 rfl (by kernel_rfl) (panicThen panicRet) (QS.assign rfl) ?_
    refine Tr.hDone (by kernel_rfl) ?_
    refine Tr.thenN ?_
    refine Tr.ret ?_
    refine Tr.retM2 (D := D) Try.results11 rfl rfl (by (repeat rw [look_cons, if_neg (by unfold mk0; omega)]); exact look_mark) (by repeat (first | exact Del.here _ | apply Del.there)) (fun w' hw => ?_)
    exact ⟨((_, _), (_, _)), rfl, hw.below0 (hF07.trans hF1), hw.ents0 (hF07.trans hF1).lo (by repeat' (first | exact Pick.nil _ | exact Del.here _ | apply Pick.cons | apply Del.there)), rfl, rfl⟩
end Go.Proofs.Ytfnedefgepjbpaa
namespace Go.Proofs.Ytfnedefgepjbpaa
open Go Go.HL Go.RowKit
set_option maxRecDepth 100000 in
set_option maxHeartbeats 2000000 in
theorem bounds_any (a b : List Rng) (V W : Value) (w : World) (hV : Sl (hp w) encRng a V) (hW : Sl (hp w) encRng b W) (ha : a.length ≤ 1000000) (hb : b.length ≤ 1000000) :
    Calls Try.prog 95 #[V, W] w (fun e w' => ∃ V', e = .returned V' ∧ Ext w w' ∧ NewRow w w' 23 encU32 (boundsP a b) V') := by
  have hV' : Sl (Bg.of w).blk encRng a V := hV
  have hW' : Sl (Bg.of w).blk encRng b W := hW
  refine enter Try.func95 rfl Try.ntmps95 rfl ?_
  refine Tr.seq ?_
  refine Tr.region ?_
  refine Tr.q (QS.assign rfl) rfl ?_
  refine Tr.nil ?_
  refine Tr.thenN ?_
  refine Tr.seq ?_
  refine Tr.region ?_
  refine Tr.q (QS.assign rfl) rfl ?_
  refine Tr.nil ?_
  refine Tr.thenN ?_
  refine Tr.seq ?_
  refine Tr.seq ?_
  refine Tr.region ?_
  refine Tr.q (QS.assign rfl) rfl ?_
  refine Tr.nil ?_
  refine Tr.thenN ?_
  refine Tr.block ?_
  refine Tr.ownNil 23 encU32 ?_
  refine Tr.loop (ι := Nat × Value) (fun ⟨k, V'⟩ => k ≤ a.length) (fun _ => _) (fun ⟨k, V'⟩ => [rowE V' 23 encU32 (pairsOf (a.take k))]) (fun ⟨k, V'⟩ => [(6, .int .i64 (k : Nat)), (5, V')]) (fun ⟨k, V'⟩ => a.length - k) (0, _) (Nat.zero_le _) (.cons (by first | rfl | exact lookI rfl (by omega) | exact lookI rfl (by simp) | exact lookB rfl (by simp)) (.cons (by first | rfl | exact lookI rfl (by omega) | exact lookI rfl (by simp) | exact lookB rfl (by simp)) Front.nil)) (by repeat' (first | exact Pick.nil _ | exact Del.here _ | apply Pick.cons | apply Del.there)) rfl (fun i hi m hm => ?_)
  obtain ⟨k, V'⟩ := i
  replace hi : k ≤ a.length := hi
  replace hm : m = a.length - k := hm
  change Tr _ _ [rowE V' 23 encU32 (pairsOf (a.take k))] ([(6, .int .i64 (k : Nat)), (5, V')] ++ _) _
  have hpl := pairs_len (a.take k)
  simp only [List.length_take] at hpl
  have hpa := pairs_len a
  refine Tr.seq ?_
  refine Tr.seq ?_
  refine Tr.region ?_
  refine Tr.q (QS.move rfl) rfl ?_
  refine Tr.q (QS.move rfl) rfl ?_
  refine Tr.q (QS.len rfl (by assumption) Try.underlying30) rfl ?_
  refine Tr.q (QS.lss rfl rfl) rfl ?_
  refine Tr.nil ?_
  refine Tr.thenN ?_
  refine Tr.cond rfl (fun h1 => ?_) (fun h1 => ?_)
  · try simp only [Bool.and_eq_true, Bool.or_eq_true, Bool.not_eq_true', Bool.not_eq_false', decide_eq_true_eq, decide_eq_false_iff_not, Bool.and_eq_false_iff, Bool.or_eq_false_iff, ne_eq, Decidable.not_not] at h1
    refine Tr.skip ?_
    refine Tr.thenN ?_
    refine Tr.seq ?_
    refine Tr.block ?_
    refine Tr.seq ?_
    refine Tr.region ?_
    refine Tr.q (QS.move rfl) rfl ?_
    refine Tr.q (QS.move rfl) rfl ?_
    refine Tr.q (QS.move rfl) rfl ?_
    refine Tr.q (QS.idxN rfl rfl (by assumption) Try.underlying30 Try.sizeOf73 (by rfl) (by omega)) rfl ?_
    refine Tr.q (QS.fieldAddr (off := 0) (ft := 23) rfl Try.underlying73 rfl rfl Try.sizeOf23 (by decide)) rfl ?_
    refine Tr.q (QS.el1 rfl (by assumption) Try.isAgg23 (by omega) (by rfl)) rfl ?_
    refine Tr.lit1 (E := encU32) _ rfl rfl Try.underlying130 Try.sizeOf23 Try.zeroValue23 (by rfl) (by rfl) rfl (fun V2 => ?_)
    refine Tr.append1 rfl rfl (by repeat (first | exact Del.here _ | apply Del.there)) (by repeat (first | exact Del.here _ | apply Del.there)) Try.underlying130 HLF.info23 (by rfl) (by rfl) (by (try simp only [List.length_cons, List.length_nil, List.length_append, List.length_take]); omega) (by unfold maxLen; (try simp only [List.length_cons, List.length_nil, List.length_append, List.length_take]); omega) rfl (fun V3 => ?_)
    refine Tr.q (QS.assign rfl) rfl ?_
    refine Tr.nil ?_
    refine Tr.thenN ?_
    refine Tr.region ?_
    refine Tr.q (QS.move rfl) rfl ?_
    refine Tr.q (QS.move rfl) rfl ?_
    refine Tr.q (QS.move rfl) rfl ?_
    refine Tr.q (QS.idxN rfl rfl (by assumption) Try.underlying30 Try.sizeOf73 (by rfl) (by omega)) rfl ?_
    refine Tr.q (QS.fieldAddr (off := 1) (ft := 23) rfl Try.underlying73 rfl rfl Try.sizeOf23 (by decide)) rfl ?_
    refine Tr.q (QS.elF rfl (by assumption) Try.isAgg23 (by omega) (by rfl)) rfl ?_
    refine Tr.lit1 (E := encU32) _ rfl rfl Try.underlying130 Try.sizeOf23 Try.zeroValue23 (by rfl) (by rfl) rfl (fun V4 => ?_)
    refine Tr.append1 rfl rfl (by repeat (first | exact Del.here _ | apply Del.there)) (by repeat (first | exact Del.here _ | apply Del.there)) Try.underlying130 HLF.info23 (by rfl) (by rfl) (by (try simp only [List.length_cons, List.length_nil, List.length_append, List.length_take]); omega) (by unfold maxLen; (try simp only [List.length_cons, List.length_nil, List.length_append, List.length_take]); omega) rfl (fun V5 => ?_)
    refine Tr.q (QS.assign rfl) rfl ?_
    refine Tr.nil ?_
    refine Tr.inN ?_
    refine Tr.thenN ?_
    refine Tr.region ?_
    refine Tr.q (QS.move rfl) rfl ?_
    refine Tr.q (QS.addI rfl rfl (by omega)) rfl ?_
    refine Tr.q (QS.assign rfl) rfl ?_
    refine Tr.nil ?_
    refine Tr.thenN ?_
    have hst := pairs_take_succ (l := a) (k := k) (by omega)
    rw [← hst]
    apply Tr.again (k + 1, _)
    · exact rfl
    · exact (.cons (by first | rfl | exact lookI rfl (by omega) | exact lookI rfl (by simp) | exact lookB rfl (by simp)) (.cons (by first | rfl | exact lookI rfl (by omega) | exact lookI rfl (by simp) | exact lookB rfl (by simp)) Front.nil))
    · exact SubX.dropN 27 (by kernel_rfl) rfl
    · exact (by repeat' (first | exact Pick.nil _ | exact Del.here _ | apply Pick.cons | apply Del.there))
    · exact (by show k + 1 ≤ _; omega)
    · exact (by (try dsimp only); omega)
  · try simp only [Bool.and_eq_true, Bool.or_eq_true, Bool.not_eq_true', Bool.not_eq_false', decide_eq_true_eq, decide_eq_false_iff_not, Bool.and_eq_false_iff, Bool.or_eq_false_iff, ne_eq, Decidable.not_not] at h1
    refine Tr.exit ?_
    refine Tr.thenE ?_
    refine Tr.thenE ?_
    refine Tr.inHit ?_
    refine Tr.thenN ?_
    refine Tr.seq ?_
    refine Tr.seq ?_
    refine Tr.region ?_
    refine Tr.q (QS.assign rfl) rfl ?_
    refine Tr.nil ?_
    refine Tr.thenN ?_
    refine Tr.block ?_
    rw [show a.take k = a from List.take_of_length_le (by omega), ← List.append_nil (pairsOf a)]
    refine Tr.loop (ι := Nat × Value) (fun ⟨k2, V2⟩ => k2 ≤ b.length) (fun _ => _) (fun ⟨k2, V2⟩ => [rowE V2 23 encU32 (pairsOf a ++ pairsOf (b.take k2))]) (fun ⟨k2, V2⟩ => [(7, .int .i64 (k2 : Nat)), (5, V2)]) (fun ⟨k2, V2⟩ => b.length - k2) (0, _) (Nat.zero_le _) (.cons (by first | rfl | exact lookI rfl (by omega) | exact lookI rfl (by simp) | exact lookB rfl (by simp)) (.cons (by first | rfl | exact lookI rfl (by omega) | exact lookI rfl (by simp) | exact lookB rfl (by simp)) Front.nil)) (by repeat' (first | exact Pick.nil _ | exact Del.here _ | apply Pick.cons | apply Del.there)) rfl (fun i hi m hm => ?_)
    obtain ⟨k2, V2⟩ := i
    replace hi : k2 ≤ b.length := hi
    replace hm : m = b.length - k2 := hm
    change Tr _ _ [rowE V2 23 encU32 (pairsOf a ++ pairsOf (b.take k2))] ([(7, .int .i64 (k2 : Nat)), (5, V2)] ++ _) _
    have hpl := pairs_len (b.take k2)
    simp only [List.length_take] at hpl
    have hpa := pairs_len a
    refine Tr.seq ?_
    refine Tr.seq ?_
    refine Tr.region ?_
    refine Tr.q (QS.move rfl) rfl ?_
    refine Tr.q (QS.move rfl) rfl ?_
    refine Tr.q (QS.len rfl (by assumption) Try.underlying30) rfl ?_
    refine Tr.q (QS.lss rfl rfl) rfl ?_
    refine Tr.nil ?_
    refine Tr.thenN ?_
    refine Tr.cond rfl (fun h6 => ?_) (fun h6 => ?_)
    · try simp only [Bool.and_eq_true, Bool.or_eq_true, Bool.not_eq_true', Bool.not_eq_false', decide_eq_true_eq, decide_eq_false_iff_not, Bool.and_eq_false_iff, Bool.or_eq_false_iff, ne_eq, Decidable.not_not] at h6
      refine Tr.skip ?_
      refine Tr.thenN ?_
      refine Tr.seq ?_
      refine Tr.block ?_
      refine Tr.seq ?_
      refine Tr.region ?_
      refine Tr.q (QS.move rfl) rfl ?_
      refine Tr.q (QS.move rfl) rfl ?_
      refine Tr.q (QS.move rfl) rfl ?_
      refine Tr.q (QS.idxN rfl rfl (by assumption) Try.underlying30 Try.sizeOf73 (by rfl) (by omega)) rfl ?_
      refine Tr.q (QS.fieldAddr (off := 0) (ft := 23) rfl Try.underlying73 rfl rfl Try.sizeOf23 (by decide)) rfl ?_
      refine Tr.q (QS.el1 rfl (by assumption) Try.isAgg23 (by omega) (by rfl)) rfl ?_
      refine Tr.lit1 (E := encU32) _ rfl rfl Try.underlying130 Try.sizeOf23 Try.zeroValue23 (by rfl) (by rfl) rfl (fun V7 => ?_)
      refine Tr.append1 rfl rfl (by repeat (first | exact Del.here _ | apply Del.there)) (by repeat (first | exact Del.here _ | apply Del.there)) Try.underlying130 HLF.info23 (by rfl) (by rfl) (by (try simp only [List.length_cons, List.length_nil, List.length_append, List.length_take]); omega) (by unfold maxLen; (try simp only [List.length_cons, List.length_nil, List.length_append, List.length_take]); omega) rfl (fun V8 => ?_)
      refine Tr.q (QS.assign rfl) rfl ?_
      refine Tr.nil ?_
      refine Tr.thenN ?_
      refine Tr.region ?_
      refine Tr.q (QS.move rfl) rfl ?_
      refine Tr.q (QS.move rfl) rfl ?_
      refine Tr.q (QS.move rfl) rfl ?_
      refine Tr.q (QS.idxN rfl rfl (by assumption) Try.underlying30 Try.sizeOf73 (by rfl) (by omega)) rfl ?_
      refine Tr.q (QS.fieldAddr (off := 1) (ft := 23) rfl Try.underlying73 rfl rfl Try.sizeOf23 (by decide)) rfl ?_
      refine Tr.q (QS.elF rfl (by assumption) Try.isAgg23 (by omega) (by rfl)) rfl ?_
      refine Tr.lit1 (E := encU32) _ rfl rfl Try.underlying130 Try.sizeOf23 Try.zeroValue23 (by rfl) (by rfl) rfl (fun V9 => ?_)
      refine Tr.append1 rfl rfl (by repeat (first | exact Del.here _ | apply Del.there)) (by repeat (first | exact Del.here _ | apply Del.there)) Try.underlying130 HLF.info23 (by rfl) (by rfl) (by (try simp only [List.length_cons, List.length_nil, List.length_append, List.length_take]); omega) (by unfold maxLen; (try simp only [List.length_cons, List.length_nil, List.length_append, List.length_take]); omega) rfl (fun V10 => ?_)
      refine Tr.q (QS.assign rfl) rfl ?_
      refine Tr.nil ?_
      refine Tr.inN ?_
      refine Tr.thenN ?_
      refine Tr.region ?_
      refine Tr.q (QS.move rfl) rfl ?_
      refine Tr.q (QS.addI rfl rfl (by omega)) rfl ?_
      refine Tr.q (QS.assign rfl) rfl ?_
      refine Tr.nil ?_
      refine Tr.thenN ?_
      have hst := pairs_take_succ (l := b) (k := k2) (by omega)
      rw [List.append_assoc, List.append_assoc, ← List.append_assoc (pairsOf (b.take k2)), ← hst]
      apply Tr.again (k2 + 1, _)
      · exact rfl
      · exact (.cons (by first | rfl | exact lookI rfl (by omega) | exact lookI rfl (by simp) | exact lookB rfl (by simp)) (.cons (by first | rfl | exact lookI rfl (by omega) | exact lookI rfl (by simp) | exact lookB rfl (by simp)) Front.nil))
      · exact SubX.dropN 27 (by kernel_rfl) rfl
      · exact (by repeat' (first | exact Pick.nil _ | exact Del.here _ | apply Pick.cons | apply Del.there))
      · exact (by show k2 + 1 ≤ _; omega)
      · exact (by (try dsimp only); omega)
    · try simp only [Bool.and_eq_true, Bool.or_eq_true, Bool.not_eq_true', Bool.not_eq_false', decide_eq_true_eq, decide_eq_false_iff_not, Bool.and_eq_false_iff, Bool.or_eq_false_iff, ne_eq, Decidable.not_not] at h6
      refine Tr.exit ?_
      refine Tr.thenE ?_
      refine Tr.thenE ?_
      refine Tr.inHit ?_
      refine Tr.thenN ?_
      refine Tr.seq ?_
      refine Tr.region ?_
      refine Tr.q (QS.assign rfl) rfl ?_
      refine Tr.nil ?_
      refine Tr.thenN ?_
      refine Tr.seq ?_
      refine Tr.block ?_
      rw [show b.take k2 = b from List.take_of_length_le (by omega)]
      refine Tr.ownNil 23 encU32 ?_
      refine Tr.loop (ι := Value × List UInt32) (fun ⟨V3, out⟩ => out.length ≤ (pairsOf a ++ pairsOf b).length ∧ boundsF (pairsOf a ++ pairsOf b) ((pairsOf a ++ pairsOf b).length - out.length) out = boundsP a b) (fun _ => _) (fun ⟨V3, out⟩ => [rowE V3 23 encU32 out, rowE V2 23 encU32 (pairsOf a ++ pairsOf b)]) (fun ⟨V3, out⟩ => [(8, V3)]) (fun ⟨V3, out⟩ => (pairsOf a ++ pairsOf b).length - out.length) (_, []) ⟨Nat.zero_le _, rfl⟩ (.cons (by first | rfl | exact lookI rfl (by omega) | exact lookI rfl (by simp) | exact lookB rfl (by simp)) Front.nil) (by repeat' (first | exact Pick.nil _ | exact Del.here _ | apply Pick.cons | apply Del.there)) rfl (fun i hi m hm => ?_)
      obtain ⟨V3, out⟩ := i
      replace hi : out.length ≤ (pairsOf a ++ pairsOf b).length ∧ boundsF (pairsOf a ++ pairsOf b) ((pairsOf a ++ pairsOf b).length - out.length) out = boundsP a b := hi
      replace hm : m = (pairsOf a ++ pairsOf b).length - out.length := hm
      change Tr _ _ [rowE V3 23 encU32 out, rowE V2 23 encU32 (pairsOf a ++ pairsOf b)] ([(8, V3)] ++ _) _
      obtain ⟨ho, hi2⟩ := hi
      have hpa := pairs_len a
      have hpb := pairs_len b
      have hal : (pairsOf a ++ pairsOf b).length = 2 * a.length + 2 * b.length := by simp only [List.length_append]; omega
      revert hal ho hi2 hm
      generalize (pairsOf a ++ pairsOf b) = all
      intro hm ho hi2 hal
      refine Tr.seq ?_
      refine Tr.seq ?_
      refine Tr.region ?_
      refine Tr.q (QS.move rfl) rfl ?_
      refine Tr.q (QS.lenRow rfl (by repeat (first | exact List.Mem.head _ | apply List.Mem.tail)) Try.underlying130) rfl ?_
      refine Tr.q (QS.move rfl) rfl ?_
      refine Tr.q (QS.lenRow rfl (by repeat (first | exact List.Mem.head _ | apply List.Mem.tail)) Try.underlying130) rfl ?_
      refine Tr.q (QS.lss rfl rfl) rfl ?_
      refine Tr.nil ?_
      refine Tr.thenN ?_
      refine Tr.cond rfl (fun h11 => ?_) (fun h11 => ?_)
      · try simp only [Bool.and_eq_true, Bool.or_eq_true, Bool.not_eq_true', Bool.not_eq_false', decide_eq_true_eq, decide_eq_false_iff_not, Bool.and_eq_false_iff, Bool.or_eq_false_iff, ne_eq, Decidable.not_not] at h11
        refine Tr.skip ?_
        refine Tr.thenN ?_
        refine Tr.block ?_
        refine Tr.seq ?_
        refine Tr.region ?_
        refine Tr.q (QS.assign rfl) rfl ?_
        refine Tr.nil ?_
        refine Tr.thenN ?_
        refine Tr.seq ?_
        refine Tr.region ?_
        refine Tr.q (QS.assign rfl) rfl ?_
        refine Tr.nil ?_
        refine Tr.thenN ?_
        refine Tr.seq ?_
        refine Tr.seq ?_
        refine Tr.region ?_
        refine Tr.q (QS.assign rfl) rfl ?_
        refine Tr.nil ?_
        refine Tr.thenN ?_
        refine Tr.block ?_
        refine Tr.loop (ι := Nat × (UInt32 × Bool)) (fun ⟨j, s⟩ => j ≤ all.length ∧ (all.take j).foldl (scanStep out) (0, false) = s) (fun _ => _) (fun ⟨j, s⟩ => [rowE V3 23 encU32 out, rowE V2 23 encU32 all]) (fun ⟨j, s⟩ => [(11, .int .i64 (j : Nat)), (9, .int .u32 s.1.toNat), (10, .bool s.2)]) (fun ⟨j, s⟩ => all.length - j) (0, (0, false)) ⟨Nat.zero_le _, rfl⟩ (.cons (by first | rfl | exact lookI rfl (by omega) | exact lookI rfl (by simp) | exact lookB rfl (by simp)) (.cons (by first | rfl | exact lookI rfl (by omega) | exact lookI rfl (by simp) | exact lookB rfl (by simp)) (.cons (by first | rfl | exact lookI rfl (by omega) | exact lookI rfl (by simp) | exact lookB rfl (by simp)) Front.nil))) (by repeat' (first | exact Pick.nil _ | exact Del.here _ | apply Pick.cons | apply Del.there)) rfl (fun i hi m hm => ?_)
        obtain ⟨j, s⟩ := i
        replace hi : j ≤ all.length ∧ (all.take j).foldl (scanStep out) (0, false) = s := hi
        replace hm : m = all.length - j := hm
        change Tr _ _ [rowE V3 23 encU32 out, rowE V2 23 encU32 all] ([(11, .int .i64 (j : Nat)), (9, .int .u32 s.1.toNat), (10, .bool s.2)] ++ _) _
        obtain ⟨hj, hs⟩ := hi
        refine Tr.seq ?_
        refine Tr.seq ?_
        refine Tr.region ?_
        refine Tr.q (QS.move rfl) rfl ?_
        refine Tr.q (QS.move rfl) rfl ?_
        refine Tr.q (QS.lenRow rfl (by repeat (first | exact List.Mem.head _ | apply List.Mem.tail)) Try.underlying130) rfl ?_
        refine Tr.q (QS.lss rfl rfl) rfl ?_
        refine Tr.nil ?_
        refine Tr.thenN ?_
        refine Tr.cond rfl (fun h12 => ?_) (fun h12 => ?_)
        · try simp only [Bool.and_eq_true, Bool.or_eq_true, Bool.not_eq_true', Bool.not_eq_false', decide_eq_true_eq, decide_eq_false_iff_not, Bool.and_eq_false_iff, Bool.or_eq_false_iff, ne_eq, Decidable.not_not] at h12
          refine Tr.skip ?_
          refine Tr.thenN ?_
          refine Tr.seq ?_
          refine Tr.block ?_
          refine Tr.seq ?_
          refine Tr.regionQ HLF.mixed (by kernel_rfl) ?_
          refine TrQ.q (QS.move rfl) rfl ?_
          refine TrQ.q (QS.lenRow rfl (by repeat (first | exact List.Mem.head _ | apply List.Mem.tail)) Try.underlying130) rfl ?_
          refine TrQ.q (QS.eql rfl rfl) rfl ?_
          refine TrQ.q (QS.move rfl) rfl ?_
          apply TrQ.or (t := 70) (d := 82) 12
          · exact rfl
          · intro hF13; have hF13' := hF13
            try simp only [Bool.and_eq_true, Bool.or_eq_true, Bool.not_eq_true', Bool.not_eq_false', decide_eq_true_eq, decide_eq_false_iff_not, Bool.and_eq_false_iff, Bool.or_eq_false_iff, ne_eq, Decidable.not_not] at hF13'
            refine TrQ.gq rfl rfl hF13 (QS.move rfl) rfl ?_
            refine TrQ.gq rfl rfl hF13 (QS.move rfl) rfl ?_
            refine TrQ.gq rfl rfl hF13 (QS.idxRowN rfl rfl (by repeat (first | exact List.Mem.head _ | apply List.Mem.tail)) Try.underlying130 Try.sizeOf23 (by rfl) (by omega)) rfl ?_
            refine TrQ.gq rfl rfl hF13 (QS.elR1 rfl (by repeat (first | exact List.Mem.head _ | apply List.Mem.tail)) Try.isAgg23 (by omega) (by rfl)) rfl ?_
            refine TrQ.gq rfl rfl hF13 (QS.move rfl) rfl ?_
            refine TrQ.gq rfl rfl hF13 (QS.move rfl) rfl ?_
            refine TrQ.gq rfl rfl hF13 (QS.lenRow rfl (by repeat (first | exact List.Mem.head _ | apply List.Mem.tail)) Try.underlying130) rfl ?_
            refine TrQ.gq rfl rfl hF13 (QS.subI rfl rfl (by omega)) rfl ?_
            refine TrQ.gq rfl rfl hF13 (QS.idxRow rfl rfl (by repeat (first | exact List.Mem.head _ | apply List.Mem.tail)) Try.underlying130 Try.sizeOf23 (by rfl) (by omega)) rfl ?_
            refine TrQ.gq rfl rfl hF13 (QS.elR1 rfl (by repeat (first | exact List.Mem.head _ | apply List.Mem.tail)) Try.isAgg23 (by omega) (by rfl)) rfl ?_
            refine TrQ.gq rfl rfl hF13 (QS.gtr32 rfl rfl) rfl ?_
            refine TrQ.q (QS.pickF rfl hF13 rfl) rfl ?_
            exact TrQ.end (Sub.cons rfl (Sub.dropN 12 (by kernel_rfl) rfl))
          · intro hT13
            refine TrQ.gskip rfl rfl hT13 rfl ?_
            refine TrQ.gskip rfl rfl hT13 rfl ?_
            refine TrQ.gskip rfl rfl hT13 rfl ?_
            refine TrQ.gskip rfl rfl hT13 rfl ?_
            refine TrQ.gskip rfl rfl hT13 rfl ?_
            refine TrQ.gskip rfl rfl hT13 rfl ?_
            refine TrQ.gskip rfl rfl hT13 rfl ?_
            refine TrQ.gskip rfl rfl hT13 rfl ?_
            refine TrQ.gskip rfl rfl hT13 rfl ?_
            refine TrQ.gskip rfl rfl hT13 rfl ?_
            refine TrQ.gskip rfl rfl hT13 rfl ?_
            refine TrQ.q (QS.pickT rfl hT13 rfl) rfl ?_
            exact TrQ.end (Sub.cons rfl (Sub.dropN 12 (by kernel_rfl) rfl))
          refine TrQ.q (QS.move rfl) rfl ?_
          apply TrQ.and (t := 83) (d := 94) 11
          · exact rfl
          · intro hT14; have hT14' := hT14
            try simp only [Bool.and_eq_true, Bool.or_eq_true, Bool.not_eq_true', Bool.not_eq_false', decide_eq_true_eq, decide_eq_false_iff_not, Bool.and_eq_false_iff, Bool.or_eq_false_iff, ne_eq, Decidable.not_not] at hT14'
            refine TrQ.gq rfl rfl hT14 (QS.move rfl) rfl ?_
            refine TrQ.gq rfl rfl hT14 (QS.not rfl) rfl ?_
            refine TrQ.gq rfl rfl hT14 (QS.move rfl) rfl ?_
            apply TrQ.or (t := 86) (d := 93) 7
            · exact rfl
            · intro hF15; have hF15' := hF15
              try simp only [Bool.and_eq_true, Bool.or_eq_true, Bool.not_eq_true', Bool.not_eq_false', decide_eq_true_eq, decide_eq_false_iff_not, Bool.and_eq_false_iff, Bool.or_eq_false_iff, ne_eq, Decidable.not_not] at hF15'
              refine TrQ.gq rfl rfl hF15 (QS.move rfl) rfl ?_
              refine TrQ.gq rfl rfl hF15 (QS.move rfl) rfl ?_
              refine TrQ.gq rfl rfl hF15 (QS.idxRowN rfl rfl (by repeat (first | exact List.Mem.head _ | apply List.Mem.tail)) Try.underlying130 Try.sizeOf23 (by rfl) (by omega)) rfl ?_
              refine TrQ.gq rfl rfl hF15 (QS.elR1 rfl (by repeat (first | exact List.Mem.head _ | apply List.Mem.tail)) Try.isAgg23 (by omega) (by rfl)) rfl ?_
              refine TrQ.gq rfl rfl hF15 (QS.move rfl) rfl ?_
              refine TrQ.gq rfl rfl hF15 (QS.lss32 rfl rfl) rfl ?_
              refine TrQ.gq rfl rfl hT14 (QS.pickF rfl hF15 rfl) rfl ?_
              exact TrQ.end (Sub.cons rfl (Sub.dropN 7 (by kernel_rfl) rfl))
            · intro hT15
              refine TrQ.gskip rfl rfl hT15 rfl ?_
              refine TrQ.gskip rfl rfl hT15 rfl ?_
              refine TrQ.gskip rfl rfl hT15 rfl ?_
              refine TrQ.gskip rfl rfl hT15 rfl ?_
              refine TrQ.gskip rfl rfl hT15 rfl ?_
              refine TrQ.gskip rfl rfl hT15 rfl ?_
              refine TrQ.gq rfl rfl hT14 (QS.pickT rfl hT15 rfl) rfl ?_
              exact TrQ.end (Sub.cons rfl (Sub.dropN 7 (by kernel_rfl) rfl))
            refine TrQ.q (QS.pickT rfl hT14 rfl) rfl ?_
            exact TrQ.end (Sub.cons rfl (Sub.dropN 5 (by kernel_rfl) rfl))
          · intro hF14
            refine TrQ.gskip rfl rfl hF14 rfl ?_
            refine TrQ.gskip rfl rfl hF14 rfl ?_
            refine TrQ.gskip rfl rfl hF14 rfl ?_
            refine TrQ.gskipU rfl rfl rfl ?_
            refine TrQ.gskipU rfl rfl rfl ?_
            refine TrQ.gskipU rfl rfl rfl ?_
            refine TrQ.gskipU rfl rfl rfl ?_
            refine TrQ.gskipU rfl rfl rfl ?_
            refine TrQ.gskipU rfl rfl rfl ?_
            refine TrQ.gskip rfl rfl hF14 rfl ?_
            refine TrQ.q (QS.pickF rfl hF14 rfl) rfl ?_
            exact TrQ.end (Sub.cons rfl (Sub.dropN 11 (by kernel_rfl) rfl))
          refine TrQ.nil ?_
          refine Tr.thenN ?_
          refine Tr.cond rfl (fun h16 => ?_) (fun h16 => ?_)
          · try simp only [Bool.and_eq_true, Bool.or_eq_true, Bool.not_eq_true', Bool.not_eq_false', decide_eq_true_eq, decide_eq_false_iff_not, Bool.and_eq_false_iff, Bool.or_eq_false_iff, ne_eq, Decidable.not_not] at h16
            refine Tr.seq ?_
            refine Tr.region ?_
            refine Tr.q (QS.move rfl) rfl ?_
            refine Tr.q (QS.move rfl) rfl ?_
            refine Tr.q (QS.idxRowN rfl rfl (by repeat (first | exact List.Mem.head _ | apply List.Mem.tail)) Try.underlying130 Try.sizeOf23 (by rfl) (by omega)) rfl ?_
            refine Tr.q (QS.elR1 rfl (by repeat (first | exact List.Mem.head _ | apply List.Mem.tail)) Try.isAgg23 (by omega) (by rfl)) rfl ?_
            refine Tr.q (QS.assign rfl) rfl ?_
            refine Tr.nil ?_
            refine Tr.thenN ?_
            refine Tr.region ?_
            refine Tr.q (QS.assign rfl) rfl ?_
            refine Tr.nil ?_
            refine Tr.inN ?_
            refine Tr.thenN ?_
            refine Tr.region ?_
            refine Tr.q (QS.move rfl) rfl ?_
            refine Tr.q (QS.addI rfl rfl (by omega)) rfl ?_
            refine Tr.q (QS.assign rfl) rfl ?_
            refine Tr.nil ?_
            refine Tr.thenN ?_
            apply Tr.again (j + 1, (all.getD j default, true))
            · exact rfl
            · exact (.cons (by first | rfl | exact lookI rfl (by omega) | exact lookI rfl (by simp) | exact lookB rfl (by simp)) (.cons (by first | rfl | exact lookI rfl (by omega) | exact lookI rfl (by simp) | exact lookB rfl (by simp)) (.cons (by first | rfl | exact lookI rfl (by omega) | exact lookI rfl (by simp) | exact lookB rfl (by simp)) Front.nil)))
            · exact SubX.dropN 23 (by kernel_rfl) rfl
            · exact (by repeat' (first | exact Pick.nil _ | exact Del.here _ | apply Pick.cons | apply Del.there))
            · exact ⟨by omega, by rw [foldl_take_succ (by omega), hs, scanStep, if_pos (by assumption)]⟩
            · exact (by (try dsimp only); omega)
          · try simp only [Bool.and_eq_true, Bool.or_eq_true, Bool.not_eq_true', Bool.not_eq_false', decide_eq_true_eq, decide_eq_false_iff_not, Bool.and_eq_false_iff, Bool.or_eq_false_iff, ne_eq, Decidable.not_not] at h16
            refine Tr.skip ?_
            refine Tr.inN ?_
            refine Tr.thenN ?_
            refine Tr.region ?_
            refine Tr.q (QS.move rfl) rfl ?_
            refine Tr.q (QS.addI rfl rfl (by omega)) rfl ?_
            refine Tr.q (QS.assign rfl) rfl ?_
            refine Tr.nil ?_
            refine Tr.thenN ?_
            apply Tr.again (j + 1, s)
            · exact rfl
            · exact (.cons (by first | rfl | exact lookI rfl (by omega) | exact lookI rfl (by simp) | exact lookB rfl (by simp)) (.cons (by first | rfl | exact lookI rfl (by omega) | exact lookI rfl (by simp) | exact lookB rfl (by simp)) (.cons (by first | rfl | exact lookI rfl (by omega) | exact lookI rfl (by simp) | exact lookB rfl (by simp)) Front.nil)))
            · exact SubX.dropN 17 (by kernel_rfl) rfl
            · exact (by repeat' (first | exact Pick.nil _ | exact Del.here _ | apply Pick.cons | apply Del.there))
            · exact ⟨by omega, by rw [foldl_take_succ (by omega), hs, scanStep_neg (by assumption)]⟩
            · exact (by (try dsimp only); omega)
        · try simp only [Bool.and_eq_true, Bool.or_eq_true, Bool.not_eq_true', Bool.not_eq_false', decide_eq_true_eq, decide_eq_false_iff_not, Bool.and_eq_false_iff, Bool.or_eq_false_iff, ne_eq, Decidable.not_not] at h12
          refine Tr.exit ?_
          refine Tr.thenE ?_
          refine Tr.thenE ?_
          refine Tr.inHit ?_
          refine Tr.thenN ?_
          refine Tr.seq ?_
          refine Tr.seq ?_
          have hsc : scan all out = s := by rw [← hs, List.take_of_length_le (by omega)]; rfl
          refine Tr.region ?_
          refine Tr.q (QS.move rfl) rfl ?_
          refine Tr.q (QS.not rfl) rfl ?_
          refine Tr.nil ?_
          refine Tr.thenN ?_
          refine Tr.cond rfl (fun h17 => ?_) (fun h17 => ?_)
          · try simp only [Bool.and_eq_true, Bool.or_eq_true, Bool.not_eq_true', Bool.not_eq_false', decide_eq_true_eq, decide_eq_false_iff_not, Bool.and_eq_false_iff, Bool.or_eq_false_iff, ne_eq, Decidable.not_not] at h17
            refine Tr.seq ?_
            refine Tr.region ?_
            refine Tr.q (QS.move rfl) rfl ?_
            refine Tr.q (QS.assign rfl) rfl ?_
            refine Tr.nil ?_
            refine Tr.thenN ?_
            refine Tr.ret ?_
            refine Tr.thenR ?_
            refine Tr.inR ?_
            refine Tr.thenR ?_
            refine Tr.inR ?_
            refine Tr.thenR ?_
            refine Tr.ret1 Try.results95 rfl (fun w' hw => ?_)
            have e : boundsP a b = out := by rw [← hi2, show all.length - out.length = (all.length - out.length - 1) + 1 by omega, boundsF, if_pos (by rw [hsc]; assumption)]
            exact ⟨_, rfl, hw.below (Bg.le.refl _), by rw [e]; exact hw.new (.head _)⟩
          · try simp only [Bool.and_eq_true, Bool.or_eq_true, Bool.not_eq_true', Bool.not_eq_false', decide_eq_true_eq, decide_eq_false_iff_not, Bool.and_eq_false_iff, Bool.or_eq_false_iff, ne_eq, Decidable.not_not] at h17
            refine Tr.skip ?_
            refine Tr.thenN ?_
            refine Tr.region ?_
            refine Tr.q (QS.move rfl) rfl ?_
            refine Tr.q (QS.move rfl) rfl ?_
            refine Tr.lit1 (E := encU32) _ rfl rfl Try.underlying130 Try.sizeOf23 Try.zeroValue23 (by rfl) (by rfl) rfl (fun V18 => ?_)
            refine Tr.append1 rfl rfl (by repeat (first | exact Del.here _ | apply Del.there)) (by repeat (first | exact Del.here _ | apply Del.there)) Try.underlying130 HLF.info23 (by rfl) (by rfl) (by (try simp only [List.length_cons, List.length_nil, List.length_append, List.length_take]); omega) (by unfold maxLen; (try simp only [List.length_cons, List.length_nil, List.length_append, List.length_take]); omega) rfl (fun V19 => ?_)
            refine Tr.q (QS.assign rfl) rfl ?_
            refine Tr.nil ?_
            refine Tr.inN ?_
            refine Tr.thenN ?_
            apply Tr.again (_, out ++ [s.1])
            · exact rfl
            · exact (.cons (by first | rfl | exact lookI rfl (by omega) | exact lookI rfl (by simp) | exact lookB rfl (by simp)) Front.nil)
            · exact SubX.dropN 23 (by kernel_rfl) rfl
            · exact (by repeat' (first | exact Pick.nil _ | exact Del.here _ | apply Pick.cons | apply Del.there))
            · exact ⟨by simp; omega, by rw [← hi2, show all.length - out.length = (all.length - (out ++ [s.1]).length) + 1 by simp; omega, boundsF, if_neg (by rw [hsc]; simp_all), hsc]⟩
            · exact (by simp; omega)
      · try simp only [Bool.and_eq_true, Bool.or_eq_true, Bool.not_eq_true', Bool.not_eq_false', decide_eq_true_eq, decide_eq_false_iff_not, Bool.and_eq_false_iff, Bool.or_eq_false_iff, ne_eq, Decidable.not_not] at h11
        refine Tr.exit ?_
        refine Tr.thenE ?_
        refine Tr.thenE ?_
        refine Tr.inHit ?_
        refine Tr.thenN ?_
        refine Tr.seq ?_
        refine Tr.region ?_
        refine Tr.q (QS.move rfl) rfl ?_
        refine Tr.q (QS.assign rfl) rfl ?_
        refine Tr.nil ?_
        refine Tr.thenN ?_
        refine Tr.ret ?_
        refine Tr.ret1 Try.results95 rfl (fun w' hw => ?_)
        have e : boundsP a b = out := by rw [← hi2, show all.length - out.length = 0 by omega]; rfl
        exact ⟨_, rfl, hw.below (Bg.le.refl _), by rw [e]; exact hw.new (.head _)⟩
set_option maxRecDepth 100000 in
set_option maxHeartbeats 2000000 in
theorem choose_any (a b : List Rng) (V W : Value) (both without : Bool) (w : World) (hV : Sl (hp w) encRng a V) (hW : Sl (hp w) encRng b W) (ha : a.length ≤ 1000000) (hb : b.length ≤ 1000000) :
    Calls Try.prog 73 #[V, W, .bool both, .bool without] w (fun e w' => ∃ V', e = .returned V' ∧ Ext w w' ∧ NewRow w w' 73 encRng (chooseP a b both without) V') := by
  have hV' : Sl (Bg.of w).blk encRng a V := hV
  have hW' : Sl (Bg.of w).blk encRng b W := hW
  have hbl := boundsP_len a b
  obtain ⟨cuts, hcu⟩ : ∃ cuts, cuts = boundsP a b := ⟨_, rfl⟩
  rw [← hcu] at hbl
  refine enter Try.func73 rfl Try.ntmps73 rfl ?_
  refine Tr.seq ?_
  refine Tr.region ?_
  refine Tr.q (QS.assign rfl) rfl ?_
  refine Tr.nil ?_
  refine Tr.thenN ?_
  refine Tr.seq ?_
  refine Tr.region ?_
  refine Tr.q (QS.move rfl) rfl ?_
  refine Tr.q (QS.move rfl) rfl ?_
  refine Tr.callRow rfl Try.call95 (fun w hw => bounds_any a b V W w (hw.slF hV) (hw.slF hW) ha hb) rfl (fun V1 => ?_)
  refine Tr.q (QS.assign rfl) rfl ?_
  refine Tr.nil ?_
  refine Tr.thenN ?_
  refine Tr.seq ?_
  rw [← hcu]
  refine Tr.region ?_
  refine Tr.q (QS.assign rfl) rfl ?_
  refine Tr.nil ?_
  refine Tr.thenN ?_
  refine Tr.seq ?_
  refine Tr.seq ?_
  refine Tr.region ?_
  refine Tr.q (QS.assign rfl) rfl ?_
  refine Tr.nil ?_
  refine Tr.thenN ?_
  refine Tr.block ?_
  refine Tr.ownNil 73 encRng ?_
  refine Tr.loop (ι := Nat × Value × List Rng) (fun ⟨k, V', out⟩ => (k = 0 ∨ k + 1 ≤ cuts.length) ∧ out = chF a b both without cuts k) (fun _ => _) (fun ⟨k, V', out⟩ => [rowE V' 73 encRng out, rowE V1 23 encU32 cuts]) (fun ⟨k, V', out⟩ => [(11, .int .i64 (k : Nat)), (10, V')]) (fun ⟨k, V', out⟩ => cuts.length - k) (0, _, []) ⟨.inl rfl, rfl⟩ (.cons (by first | rfl | exact lookI rfl (by omega) | exact lookI rfl (by simp) | exact lookB rfl (by simp)) (.cons (by first | rfl | exact lookI rfl (by omega) | exact lookI rfl (by simp) | exact lookB rfl (by simp)) Front.nil)) (by repeat' (first | exact Pick.nil _ | exact Del.here _ | apply Pick.cons | apply Del.there)) rfl (fun i hi m hm => ?_)
  obtain ⟨k, V', out⟩ := i
  replace hi : (k = 0 ∨ k + 1 ≤ cuts.length) ∧ out = chF a b both without cuts k := hi
  replace hm : m = cuts.length - k := hm
  change Tr _ _ [rowE V' 73 encRng out, rowE V1 23 encU32 cuts] ([(11, .int .i64 (k : Nat)), (10, V')] ++ _) _
  obtain ⟨hk, ho⟩ := hi
  have hcl := chF_len a b both without cuts k
  rw [← ho] at hcl
  refine Tr.seq ?_
  refine Tr.seq ?_
  refine Tr.region ?_
  refine Tr.q (QS.move rfl) rfl ?_
  refine Tr.q (QS.addI rfl rfl (by omega)) rfl ?_
  refine Tr.q (QS.move rfl) rfl ?_
  refine Tr.q (QS.lenRow rfl (by repeat (first | exact List.Mem.head _ | apply List.Mem.tail)) Try.underlying130) rfl ?_
  refine Tr.q (QS.lss rfl rfl) rfl ?_
  refine Tr.nil ?_
  refine Tr.thenN ?_
  refine Tr.cond rfl (fun h2 => ?_) (fun h2 => ?_)
  · try simp only [Bool.and_eq_true, Bool.or_eq_true, Bool.not_eq_true', Bool.not_eq_false', decide_eq_true_eq, decide_eq_false_iff_not, Bool.and_eq_false_iff, Bool.or_eq_false_iff, ne_eq, Decidable.not_not] at h2
    refine Tr.skip ?_
    refine Tr.thenN ?_
    refine Tr.seq ?_
    refine Tr.block ?_
    refine Tr.seq ?_
    refine Tr.region ?_
    refine Tr.q (QS.move rfl) rfl ?_
    refine Tr.q (QS.move rfl) rfl ?_
    refine Tr.q (QS.move rfl) rfl ?_
    refine Tr.q (QS.idxRowN rfl rfl (by repeat (first | exact List.Mem.head _ | apply List.Mem.tail)) Try.underlying130 Try.sizeOf23 (by rfl) (by omega)) rfl ?_
    refine Tr.q (QS.elR1 rfl (by repeat (first | exact List.Mem.head _ | apply List.Mem.tail)) Try.isAgg23 (by omega) (by rfl)) rfl ?_
    refine Tr.q (QS.call rfl Try.call96 (fun w hw => refContains_any a V _ w (hw.slF hV))) rfl ?_
    refine Tr.q (QS.move rfl) rfl ?_
    apply Tr.or (t := 30) (d := 40) 10
    · exact rfl
    · intro hF3; have hF3' := hF3
      try simp only [Bool.and_eq_true, Bool.or_eq_true, Bool.not_eq_true', Bool.not_eq_false', decide_eq_true_eq, decide_eq_false_iff_not, Bool.and_eq_false_iff, Bool.or_eq_false_iff, ne_eq, Decidable.not_not] at hF3'
      refine Tr.gq rfl rfl hF3 (QS.move rfl) rfl ?_
      refine Tr.gq rfl rfl hF3 (QS.move rfl) rfl ?_
      apply Tr.and (t := 32) (d := 39) 7
      · exact rfl
      · intro hT4; have hT4' := hT4
        try simp only [Bool.and_eq_true, Bool.or_eq_true, Bool.not_eq_true', Bool.not_eq_false', decide_eq_true_eq, decide_eq_false_iff_not, Bool.and_eq_false_iff, Bool.or_eq_false_iff, ne_eq, Decidable.not_not] at hT4'
        refine Tr.gq rfl rfl hT4 (QS.move rfl) rfl ?_
        refine Tr.gq rfl rfl hT4 (QS.move rfl) rfl ?_
        refine Tr.gq rfl rfl hT4 (QS.move rfl) rfl ?_
        refine Tr.gq rfl rfl hT4 (QS.idxRowN rfl rfl (by repeat (first | exact List.Mem.head _ | apply List.Mem.tail)) Try.underlying130 Try.sizeOf23 (by rfl) (by omega)) rfl ?_
        refine Tr.gq rfl rfl hT4 (QS.elR1 rfl (by repeat (first | exact List.Mem.head _ | apply List.Mem.tail)) Try.isAgg23 (by omega) (by rfl)) rfl ?_
        refine Tr.gq rfl rfl hT4 (QS.call rfl Try.call96 (fun w hw => refContains_any b W _ w (hw.slF hW))) rfl ?_
        refine Tr.gq rfl rfl hF3 (QS.pickT rfl hT4 rfl) rfl ?_
        refine Tr.nil (Tr.thenN ?_)
        first | exact Tr.end (Sub.cons rfl (Sub.dropN 7 (by kernel_rfl) rfl)) rfl rfl | exact Tr.endP (Sub.cons rfl (Sub.dropN 7 (by kernel_rfl) rfl)) rfl (by repeat' (first | exact Pick.nil _ | exact Del.here _ | apply Pick.cons | apply Del.there))
      · intro hF4
        refine Tr.gskip rfl rfl hF4 rfl ?_
        refine Tr.gskip rfl rfl hF4 rfl ?_
        refine Tr.gskip rfl rfl hF4 rfl ?_
        refine Tr.gskip rfl rfl hF4 rfl ?_
        refine Tr.gskip rfl rfl hF4 rfl ?_
        refine Tr.gskip rfl rfl hF4 rfl ?_
        refine Tr.gq rfl rfl hF3 (QS.pickF rfl hF4 rfl) rfl ?_
        refine Tr.nil (Tr.thenN ?_)
        first | exact Tr.end (Sub.cons rfl (Sub.dropN 7 (by kernel_rfl) rfl)) rfl rfl | exact Tr.endP (Sub.cons rfl (Sub.dropN 7 (by kernel_rfl) rfl)) rfl (by repeat' (first | exact Pick.nil _ | exact Del.here _ | apply Pick.cons | apply Del.there))
      refine Tr.q (QS.pickF rfl hF3 rfl) rfl ?_
      refine Tr.nil (Tr.thenN ?_)
      first | exact Tr.end (Sub.cons rfl (Sub.dropN 4 (by kernel_rfl) rfl)) rfl rfl | exact Tr.endP (Sub.cons rfl (Sub.dropN 4 (by kernel_rfl) rfl)) rfl (by repeat' (first | exact Pick.nil _ | exact Del.here _ | apply Pick.cons | apply Del.there))
    · intro hT3
      refine Tr.gskip rfl rfl hT3 rfl ?_
      refine Tr.gskip rfl rfl hT3 rfl ?_
      refine Tr.gskipU rfl rfl rfl ?_
      refine Tr.gskipU rfl rfl rfl ?_
      refine Tr.gskipU rfl rfl rfl ?_
      refine Tr.gskipU rfl rfl rfl ?_
      refine Tr.gskipU rfl rfl rfl ?_
      refine Tr.gskipU rfl rfl rfl ?_
      refine Tr.gskip rfl rfl hT3 rfl ?_
      refine Tr.q (QS.pickT rfl hT3 rfl) rfl ?_
      refine Tr.nil (Tr.thenN ?_)
      first | exact Tr.end (Sub.cons rfl (Sub.dropN 10 (by kernel_rfl) rfl)) rfl rfl | exact Tr.endP (Sub.cons rfl (Sub.dropN 10 (by kernel_rfl) rfl)) rfl (by repeat' (first | exact Pick.nil _ | exact Del.here _ | apply Pick.cons | apply Del.there))
    refine Tr.q (QS.assign rfl) rfl ?_
    refine Tr.nil ?_
    refine Tr.thenN ?_
    refine Tr.seq ?_
    refine Tr.seq ?_
    refine Tr.region ?_
    refine Tr.q (QS.move rfl) rfl ?_
    refine Tr.q (QS.move rfl) rfl ?_
    apply Tr.and (t := 42) (d := 49) 7
    · exact rfl
    · intro hT5; have hT5' := hT5
      try simp only [Bool.and_eq_true, Bool.or_eq_true, Bool.not_eq_true', Bool.not_eq_false', decide_eq_true_eq, decide_eq_false_iff_not, Bool.and_eq_false_iff, Bool.or_eq_false_iff, ne_eq, Decidable.not_not] at hT5'
      refine Tr.gq rfl rfl hT5 (QS.move rfl) rfl ?_
      refine Tr.gq rfl rfl hT5 (QS.move rfl) rfl ?_
      refine Tr.gq rfl rfl hT5 (QS.move rfl) rfl ?_
      refine Tr.gq rfl rfl hT5 (QS.idxRowN rfl rfl (by repeat (first | exact List.Mem.head _ | apply List.Mem.tail)) Try.underlying130 Try.sizeOf23 (by rfl) (by omega)) rfl ?_
      refine Tr.gq rfl rfl hT5 (QS.elR1 rfl (by repeat (first | exact List.Mem.head _ | apply List.Mem.tail)) Try.isAgg23 (by omega) (by rfl)) rfl ?_
      refine Tr.gq rfl rfl hT5 (QS.call rfl Try.call96 (fun w hw => refContains_any b W _ w (hw.slF hW))) rfl ?_
      refine Tr.q (QS.pickT rfl hT5 rfl) rfl ?_
      refine Tr.nil (Tr.thenN ?_)
      first | exact Tr.end (Sub.cons rfl (Sub.dropN 7 (by kernel_rfl) rfl)) rfl rfl | exact Tr.endP (Sub.cons rfl (Sub.dropN 7 (by kernel_rfl) rfl)) rfl (by repeat' (first | exact Pick.nil _ | exact Del.here _ | apply Pick.cons | apply Del.there))
    · intro hF5
      refine Tr.gskip rfl rfl hF5 rfl ?_
      refine Tr.gskip rfl rfl hF5 rfl ?_
      refine Tr.gskip rfl rfl hF5 rfl ?_
      refine Tr.gskip rfl rfl hF5 rfl ?_
      refine Tr.gskip rfl rfl hF5 rfl ?_
      refine Tr.gskip rfl rfl hF5 rfl ?_
      refine Tr.q (QS.pickF rfl hF5 rfl) rfl ?_
      refine Tr.nil (Tr.thenN ?_)
      first | exact Tr.end (Sub.cons rfl (Sub.dropN 7 (by kernel_rfl) rfl)) rfl rfl | exact Tr.endP (Sub.cons rfl (Sub.dropN 7 (by kernel_rfl) rfl)) rfl (by repeat' (first | exact Pick.nil _ | exact Del.here _ | apply Pick.cons | apply Del.there))
    refine Tr.nil ?_
    refine Tr.thenN ?_
    refine Tr.cond rfl (fun h6 => ?_) (fun h6 => ?_)
    · try simp only [Bool.and_eq_true, Bool.or_eq_true, Bool.not_eq_true', Bool.not_eq_false', decide_eq_true_eq, decide_eq_false_iff_not, Bool.and_eq_false_iff, Bool.or_eq_false_iff, ne_eq, Decidable.not_not] at h6
      refine Tr.region ?_
      refine Tr.q (QS.assign rfl) rfl ?_
      refine Tr.nil ?_
      refine Tr.thenN ?_
      refine Tr.seq ?_
      refine Tr.seq ?_
      refine Tr.region ?_
      refine Tr.q (QS.move rfl) rfl ?_
      refine Tr.q (QS.not rfl) rfl ?_
      refine Tr.nil ?_
      refine Tr.thenN ?_
      refine Tr.cond rfl (fun h7 => ?_) (fun h7 => ?_)
      · try simp only [Bool.and_eq_true, Bool.or_eq_true, Bool.not_eq_true', Bool.not_eq_false', decide_eq_true_eq, decide_eq_false_iff_not, Bool.and_eq_false_iff, Bool.or_eq_false_iff, ne_eq, Decidable.not_not] at h7
        refine Tr.exit ?_
        refine Tr.thenE ?_
        refine Tr.inHit ?_
        refine Tr.thenN ?_
        refine Tr.region ?_
        refine Tr.q (QS.move rfl) rfl ?_
        refine Tr.q (QS.addI rfl rfl (by omega)) rfl ?_
        refine Tr.q (QS.assign rfl) rfl ?_
        refine Tr.nil ?_
        refine Tr.thenN ?_
        apply Tr.again (k + 1, _, _)
        · exact rfl
        · exact (.cons (by first | rfl | exact lookI rfl (by omega) | exact lookI rfl (by simp) | exact lookB rfl (by simp)) (.cons (by first | rfl | exact lookI rfl (by omega) | exact lookI rfl (by simp) | exact lookB rfl (by simp)) Front.nil))
        · exact SubX.dropN 25 (by kernel_rfl) rfl
        · exact (by repeat' (first | exact Pick.nil _ | exact Del.here _ | apply Pick.cons | apply Del.there))
        · exact ⟨.inr (by omega), by rw [chF_succ, ← ho]; exact (chStep_no (inC_cut h6)).symm⟩
        · exact (by dsimp only; omega)
      · try simp only [Bool.and_eq_true, Bool.or_eq_true, Bool.not_eq_true', Bool.not_eq_false', decide_eq_true_eq, decide_eq_false_iff_not, Bool.and_eq_false_iff, Bool.or_eq_false_iff, ne_eq, Decidable.not_not] at h7
        refine Tr.skip ?_
        refine Tr.thenN ?_
        refine Tr.seq ?_
        refine Tr.region ?_
        refine Tr.q (QS.move rfl) rfl ?_
        refine Tr.q (QS.lenRow rfl (by repeat (first | exact List.Mem.head _ | apply List.Mem.tail)) Try.underlying30) rfl ?_
        refine Tr.q (QS.assign rfl) rfl ?_
        refine Tr.nil ?_
        refine Tr.thenN ?_
        refine Tr.seq ?_
        refine Tr.regionQ HLF.mixed (by kernel_rfl) ?_
        refine TrQ.q (QS.move rfl) rfl ?_
        refine TrQ.q (QS.gtr rfl rfl) rfl ?_
        refine TrQ.q (QS.move rfl) rfl ?_
        apply TrQ.and (t := 56) (d := 68) 12
        · exact rfl
        · intro hT8; have hT8' := hT8
          try simp only [Bool.and_eq_true, Bool.or_eq_true, Bool.not_eq_true', Bool.not_eq_false', decide_eq_true_eq, decide_eq_false_iff_not, Bool.and_eq_false_iff, Bool.or_eq_false_iff, ne_eq, Decidable.not_not] at hT8'
          refine TrQ.gq rfl rfl hT8 (QS.move rfl) rfl ?_
          refine TrQ.gq rfl rfl hT8 (QS.move rfl) rfl ?_
          refine TrQ.gq rfl rfl hT8 (QS.subI rfl rfl (by omega)) rfl ?_
          refine TrQ.gq rfl rfl hT8 (QS.idxRow rfl rfl (by repeat (first | exact List.Mem.head _ | apply List.Mem.tail)) Try.underlying30 Try.sizeOf73 (by rfl) (by omega)) rfl ?_
          refine TrQ.gq rfl rfl hT8 (QS.fieldAddr (off := 1) (ft := 23) rfl Try.underlying73 rfl rfl Try.sizeOf23 (by decide)) rfl ?_
          refine TrQ.gq rfl rfl hT8 (QS.elRF rfl (by repeat (first | exact List.Mem.head _ | apply List.Mem.tail)) Try.isAgg23 (by omega) (by rfl)) rfl ?_
          refine TrQ.gq rfl rfl hT8 (QS.move rfl) rfl ?_
          refine TrQ.gq rfl rfl hT8 (QS.move rfl) rfl ?_
          refine TrQ.gq rfl rfl hT8 (QS.idxRowN rfl rfl (by repeat (first | exact List.Mem.head _ | apply List.Mem.tail)) Try.underlying130 Try.sizeOf23 (by rfl) (by omega)) rfl ?_
          refine TrQ.gq rfl rfl hT8 (QS.elR1 rfl (by repeat (first | exact List.Mem.head _ | apply List.Mem.tail)) Try.isAgg23 (by omega) (by rfl)) rfl ?_
          refine TrQ.gq rfl rfl hT8 (QS.eql32 rfl rfl) rfl ?_
          refine TrQ.q (QS.pickT rfl hT8 rfl) rfl ?_
          exact TrQ.end (Sub.cons rfl (Sub.dropN 12 (by kernel_rfl) rfl))
        · intro hF8
          refine TrQ.gskip rfl rfl hF8 rfl ?_
          refine TrQ.gskip rfl rfl hF8 rfl ?_
          refine TrQ.gskip rfl rfl hF8 rfl ?_
          refine TrQ.gskip rfl rfl hF8 rfl ?_
          refine TrQ.gskip rfl rfl hF8 rfl ?_
          refine TrQ.gskip rfl rfl hF8 rfl ?_
          refine TrQ.gskip rfl rfl hF8 rfl ?_
          refine TrQ.gskip rfl rfl hF8 rfl ?_
          refine TrQ.gskip rfl rfl hF8 rfl ?_
          refine TrQ.gskip rfl rfl hF8 rfl ?_
          refine TrQ.gskip rfl rfl hF8 rfl ?_
          refine TrQ.q (QS.pickF rfl hF8 rfl) rfl ?_
          exact TrQ.end (Sub.cons rfl (Sub.dropN 12 (by kernel_rfl) rfl))
        refine TrQ.nil ?_
        refine Tr.thenN ?_
        refine Tr.cond rfl (fun h9 => ?_) (fun h9 => ?_)
        · try simp only [Bool.and_eq_true, Bool.or_eq_true, Bool.not_eq_true', Bool.not_eq_false', decide_eq_true_eq, decide_eq_false_iff_not, Bool.and_eq_false_iff, Bool.or_eq_false_iff, ne_eq, Decidable.not_not] at h9
          refine Tr.region ?_
          refine Tr.q (QS.move rfl) rfl ?_
          refine Tr.q (QS.move rfl) rfl ?_
          refine Tr.q (QS.subI rfl rfl (by omega)) rfl ?_
          refine Tr.q (QS.move rfl) rfl ?_
          refine Tr.q (QS.move rfl) rfl ?_
          refine Tr.q (QS.addI rfl rfl (by omega)) rfl ?_
          refine Tr.q (QS.idxRow rfl rfl (by repeat (first | exact List.Mem.head _ | apply List.Mem.tail)) Try.underlying130 Try.sizeOf23 (by rfl) (by omega)) rfl ?_
          refine Tr.q (QS.elR1 rfl (by repeat (first | exact List.Mem.head _ | apply List.Mem.tail)) Try.isAgg23 (by omega) (by rfl)) rfl ?_
          refine Tr.q (QS.idxRow rfl rfl (by repeat (first | exact List.Mem.head _ | apply List.Mem.tail)) Try.underlying30 Try.sizeOf73 (by rfl) (by omega)) rfl ?_
          refine Tr.q (QS.fieldAddr (off := 1) (ft := 23) rfl Try.underlying73 rfl rfl Try.sizeOf23 (by decide)) rfl ?_
          refine Tr.storeRow (⟨(lastR out).lo, cuts.getD (k + 1) default⟩) rfl rfl Try.sizeOf23 (by repeat (first | exact Put.here _ | apply Put.there)) (by omega) (by decide) (by rfl) rfl rfl rfl ?_
          refine Tr.nil ?_
          refine Tr.inN ?_
          refine Tr.thenN ?_
          refine Tr.region ?_
          refine Tr.q (QS.move rfl) rfl ?_
          refine Tr.q (QS.addI rfl rfl (by omega)) rfl ?_
          refine Tr.q (QS.assign rfl) rfl ?_
          refine Tr.nil ?_
          refine Tr.thenN ?_
          apply Tr.again (k + 1, _, _)
          · exact rfl
          · exact (.cons (by first | rfl | exact lookI rfl (by omega) | exact lookI rfl (by simp) | exact lookB rfl (by simp)) (.cons (by first | rfl | exact lookI rfl (by omega) | exact lookI rfl (by simp) | exact lookB rfl (by simp)) Front.nil))
          · exact SubX.dropN 42 (by kernel_rfl) rfl
          · exact (by repeat' (first | exact Pick.nil _ | exact Del.here _ | apply Pick.cons | apply Del.there))
          · exact ⟨.inr (by omega), by rw [chF_succ, ← ho]; simp at h7⟩
          · exact (by dsimp only; omega)
        · try simp only [Bool.and_eq_true, Bool.or_eq_true, Bool.not_eq_true', Bool.not_eq_false', decide_eq_true_eq, decide_eq_false_iff_not, Bool.and_eq_false_iff, Bool.or_eq_false_iff, ne_eq, Decidable.not_not] at h9
          refine Tr.regionT 1 11 HLF.mixed (by kernel_rfl) (panicIn (panicThen (panicThen (panicIn (panicThen panicBody))))) ?_
          refine TrQ.pureMove rfl rfl ?_
          refine TrQ.pureNil ?_
          refine TrQ.q (QS.move rfl) rfl ?_
          refine TrQ.q (QS.move rfl) rfl ?_
          refine TrQ.q (QS.idxRowN rfl rfl (by repeat (first | exact List.Mem.head _ | apply List.Mem.tail)) Try.underlying130 Try.sizeOf23 (by rfl) (by omega)) rfl ?_
          refine TrQ.q (QS.elR1 rfl (by repeat (first | exact List.Mem.head _ | apply List.Mem.tail)) Try.isAgg23 (by omega) (by rfl)) rfl ?_
          refine TrQ.q (QS.move rfl) rfl ?_
          refine TrQ.q (QS.move rfl) rfl ?_
          refine TrQ.q (QS.addI rfl rfl (by omega)) rfl ?_
          refine TrQ.q (QS.idxRow rfl rfl (by repeat (first | exact List.Mem.head _ | apply List.Mem.tail)) Try.underlying130 Try.sizeOf23 (by rfl) (by omega)) rfl ?_
          refine TrQ.q (QS.elR1 rfl (by repeat (first | exact List.Mem.head _ | apply List.Mem.tail)) Try.isAgg23 (by omega) (by rfl)) rfl ?_
          refine TrQ.q (QS.build (vs := [(0, _), (1, _)]) rfl rfl rfl) rfl ?_
          refine TrQ.nil ?_
          refine Tr.lit1 (E := encRng) ⟨_, _⟩ rfl rfl Try.underlying30 Try.sizeOf73 Try.zeroValue73 (by rfl) (by rfl) rfl (fun V10 => ?_)
          refine Tr.append1 rfl rfl (by repeat (first | exact Del.here _ | apply Del.there)) (by repeat (first | exact Del.here _ | apply Del.there)) Try.underlying30 HLF.info73 (by rfl) (by rfl) (by (try simp only [List.length_cons, List.length_nil, List.length_append, List.length_take]); omega) (by unfold maxLen; (try simp only [List.length_cons, List.length_nil, List.length_append, List.length_take]); omega) rfl (fun V11 => ?_)
          refine Tr.q (QS.assign rfl) rfl ?_
          refine Tr.nil ?_
          refine Tr.inN ?_
          refine Tr.thenN ?_
          refine Tr.region ?_
          refine Tr.q (QS.move rfl) rfl ?_
          refine Tr.q (QS.addI rfl rfl (by omega)) rfl ?_
          refine Tr.q (QS.assign rfl) rfl ?_
          refine Tr.nil ?_
          refine Tr.thenN ?_
          apply Tr.again (k + 1, _, _)
          · exact rfl
          · exact (.cons (by first | rfl | exact lookI rfl (by omega) | exact lookI rfl (by simp) | exact lookB rfl (by simp)) (.cons (by first | rfl | exact lookI rfl (by omega) | exact lookI rfl (by simp) | exact lookB rfl (by simp)) Front.nil))
          · exact SubX.dropN 46 (by kernel_rfl) rfl
          · exact (by repeat' (first | exact Pick.nil _ | exact Del.here _ | apply Pick.cons | apply Del.there))
          · exact ⟨.inr (by omega), by rw [chF_succ, ← ho]; simp at h7⟩
          · exact (by dsimp only; omega)
    · try simp only [Bool.and_eq_true, Bool.or_eq_true, Bool.not_eq_true', Bool.not_eq_false', decide_eq_true_eq, decide_eq_false_iff_not, Bool.and_eq_false_iff, Bool.or_eq_false_iff, ne_eq, Decidable.not_not] at h6
      refine Tr.skip ?_
      refine Tr.thenN ?_
      refine Tr.seq ?_
      refine Tr.seq ?_
      refine Tr.region ?_
      refine Tr.q (QS.move rfl) rfl ?_
      refine Tr.q (QS.not rfl) rfl ?_
      refine Tr.nil ?_
      refine Tr.thenN ?_
      refine Tr.cond rfl (fun h12 => ?_) (fun h12 => ?_)
      · try simp only [Bool.and_eq_true, Bool.or_eq_true, Bool.not_eq_true', Bool.not_eq_false', decide_eq_true_eq, decide_eq_false_iff_not, Bool.and_eq_false_iff, Bool.or_eq_false_iff, ne_eq, Decidable.not_not] at h12
        refine Tr.exit ?_
        refine Tr.thenE ?_
        refine Tr.inHit ?_
        refine Tr.thenN ?_
        refine Tr.region ?_
        refine Tr.q (QS.move rfl) rfl ?_
        refine Tr.q (QS.addI rfl rfl (by omega)) rfl ?_
        refine Tr.q (QS.assign rfl) rfl ?_
        refine Tr.nil ?_
        refine Tr.thenN ?_
        apply Tr.again (k + 1, _, _)
        · exact rfl
        · exact (.cons (by first | rfl | exact lookI rfl (by omega) | exact lookI rfl (by simp) | exact lookB rfl (by simp)) (.cons (by first | rfl | exact lookI rfl (by omega) | exact lookI rfl (by simp) | exact lookB rfl (by simp)) Front.nil))
        · exact SubX.dropN 24 (by kernel_rfl) rfl
        · exact (by repeat' (first | exact Pick.nil _ | exact Del.here _ | apply Pick.cons | apply Del.there))
        · exact ⟨.inr (by omega), by rw [chF_succ, ← ho]; exact (chStep_no (inC_no h6 h12)).symm⟩
        · exact (by dsimp only; omega)
      · try simp only [Bool.and_eq_true, Bool.or_eq_true, Bool.not_eq_true', Bool.not_eq_false', decide_eq_true_eq, decide_eq_false_iff_not, Bool.and_eq_false_iff, Bool.or_eq_false_iff, ne_eq, Decidable.not_not] at h12
        refine Tr.skip ?_
        refine Tr.thenN ?_
        refine Tr.seq ?_
        refine Tr.region ?_
        refine Tr.q (QS.move rfl) rfl ?_
        refine Tr.q (QS.lenRow rfl (by repeat (first | exact List.Mem.head _ | apply List.Mem.tail)) Try.underlying30) rfl ?_
        refine Tr.q (QS.assign rfl) rfl ?_
        refine Tr.nil ?_
        refine Tr.thenN ?_
        refine Tr.seq ?_
        refine Tr.regionQ HLF.mixed (by kernel_rfl) ?_
        refine TrQ.q (QS.move rfl) rfl ?_
        refine TrQ.q (QS.gtr rfl rfl) rfl ?_
        refine TrQ.q (QS.move rfl) rfl ?_
        apply TrQ.and (t := 56) (d := 68) 12
        · exact rfl
        · intro hT13; have hT13' := hT13
          try simp only [Bool.and_eq_true, Bool.or_eq_true, Bool.not_eq_true', Bool.not_eq_false', decide_eq_true_eq, decide_eq_false_iff_not, Bool.and_eq_false_iff, Bool.or_eq_false_iff, ne_eq, Decidable.not_not] at hT13'
          refine TrQ.gq rfl rfl hT13 (QS.move rfl) rfl ?_
          refine TrQ.gq rfl rfl hT13 (QS.move rfl) rfl ?_
          refine TrQ.gq rfl rfl hT13 (QS.subI rfl rfl (by omega)) rfl ?_
          refine TrQ.gq rfl rfl hT13 (QS.idxRow rfl rfl (by repeat (first | exact List.Mem.head _ | apply List.Mem.tail)) Try.underlying30 Try.sizeOf73 (by rfl) (by omega)) rfl ?_
          refine TrQ.gq rfl rfl hT13 (QS.fieldAddr (off := 1) (ft := 23) rfl Try.underlying73 rfl rfl Try.sizeOf23 (by decide)) rfl ?_
          refine TrQ.gq rfl rfl hT13 (QS.elRF rfl (by repeat (first | exact List.Mem.head _ | apply List.Mem.tail)) Try.isAgg23 (by omega) (by rfl)) rfl ?_
          refine TrQ.gq rfl rfl hT13 (QS.move rfl) rfl ?_
          refine TrQ.gq rfl rfl hT13 (QS.move rfl) rfl ?_
          refine TrQ.gq rfl rfl hT13 (QS.idxRowN rfl rfl (by repeat (first | exact List.Mem.head _ | apply List.Mem.tail)) Try.underlying130 Try.sizeOf23 (by rfl) (by omega)) rfl ?_
          refine TrQ.gq rfl rfl hT13 (QS.elR1 rfl (by repeat (first | exact List.Mem.head _ | apply List.Mem.tail)) Try.isAgg23 (by omega) (by rfl)) rfl ?_
          refine TrQ.gq rfl rfl hT13 (QS.eql32 rfl rfl) rfl ?_
          refine TrQ.q (QS.pickT rfl hT13 rfl) rfl ?_
          exact TrQ.end (Sub.cons rfl (Sub.dropN 12 (by kernel_rfl) rfl))
        · intro hF13
          refine TrQ.gskip rfl rfl hF13 rfl ?_
          refine TrQ.gskip rfl rfl hF13 rfl ?_
          refine TrQ.gskip rfl rfl hF13 rfl ?_
          refine TrQ.gskip rfl rfl hF13 rfl ?_
          refine TrQ.gskip rfl rfl hF13 rfl ?_
          refine TrQ.gskip rfl rfl hF13 rfl ?_
          refine TrQ.gskip rfl rfl hF13 rfl ?_
          refine TrQ.gskip rfl rfl hF13 rfl ?_
          refine TrQ.gskip rfl rfl hF13 rfl ?_
          refine TrQ.gskip rfl rfl hF13 rfl ?_
          refine TrQ.gskip rfl rfl hF13 rfl ?_
          refine TrQ.q (QS.pickF rfl hF13 rfl) rfl ?_
          exact TrQ.end (Sub.cons rfl (Sub.dropN 12 (by kernel_rfl) rfl))
        refine TrQ.nil ?_
        refine Tr.thenN ?_
        refine Tr.cond rfl (fun h14 => ?_) (fun h14 => ?_)
        · try simp only [Bool.and_eq_true, Bool.or_eq_true, Bool.not_eq_true', Bool.not_eq_false', decide_eq_true_eq, decide_eq_false_iff_not, Bool.and_eq_false_iff, Bool.or_eq_false_iff, ne_eq, Decidable.not_not] at h14
          refine Tr.region ?_
          refine Tr.q (QS.move rfl) rfl ?_
          refine Tr.q (QS.move rfl) rfl ?_
          refine Tr.q (QS.subI rfl rfl (by omega)) rfl ?_
          refine Tr.q (QS.move rfl) rfl ?_
          refine Tr.q (QS.move rfl) rfl ?_
          refine Tr.q (QS.addI rfl rfl (by omega)) rfl ?_
          refine Tr.q (QS.idxRow rfl rfl (by repeat (first | exact List.Mem.head _ | apply List.Mem.tail)) Try.underlying130 Try.sizeOf23 (by rfl) (by omega)) rfl ?_
          refine Tr.q (QS.elR1 rfl (by repeat (first | exact List.Mem.head _ | apply List.Mem.tail)) Try.isAgg23 (by omega) (by rfl)) rfl ?_
          refine Tr.q (QS.idxRow rfl rfl (by repeat (first | exact List.Mem.head _ | apply List.Mem.tail)) Try.underlying30 Try.sizeOf73 (by rfl) (by omega)) rfl ?_
          refine Tr.q (QS.fieldAddr (off := 1) (ft := 23) rfl Try.underlying73 rfl rfl Try.sizeOf23 (by decide)) rfl ?_
          refine Tr.storeRow (⟨(lastR out).lo, cuts.getD (k + 1) default⟩) rfl rfl Try.sizeOf23 (by repeat (first | exact Put.here _ | apply Put.there)) (by omega) (by decide) (by rfl) rfl rfl rfl ?_
          refine Tr.nil ?_
          refine Tr.inN ?_
          refine Tr.thenN ?_
          refine Tr.region ?_
          refine Tr.q (QS.move rfl) rfl ?_
          refine Tr.q (QS.addI rfl rfl (by omega)) rfl ?_
          refine Tr.q (QS.assign rfl) rfl ?_
          refine Tr.nil ?_
          refine Tr.thenN ?_
          apply Tr.again (k + 1, _, _)
          · exact rfl
          · exact (.cons (by first | rfl | exact lookI rfl (by omega) | exact lookI rfl (by simp) | exact lookB rfl (by simp)) (.cons (by first | rfl | exact lookI rfl (by omega) | exact lookI rfl (by simp) | exact lookB rfl (by simp)) Front.nil))
          · exact SubX.dropN 41 (by kernel_rfl) rfl
          · exact (by repeat' (first | exact Pick.nil _ | exact Del.here _ | apply Pick.cons | apply Del.there))
          · exact ⟨.inr (by omega), by rw [chF_succ, ← ho]; exact (chStep_set (inC_yes h6 h12) h14).symm⟩
          · exact (by dsimp only; omega)
        · try simp only [Bool.and_eq_true, Bool.or_eq_true, Bool.not_eq_true', Bool.not_eq_false', decide_eq_true_eq, decide_eq_false_iff_not, Bool.and_eq_false_iff, Bool.or_eq_false_iff, ne_eq, Decidable.not_not] at h14
          refine Tr.regionT 1 11 HLF.mixed (by kernel_rfl) (panicIn (panicThen (panicThen (panicIn (panicThen panicBody))))) ?_
          refine TrQ.pureMove rfl rfl ?_
          refine TrQ.pureNil ?_
          refine TrQ.q (QS.move rfl) rfl ?_
          refine TrQ.q (QS.move rfl) rfl ?_
          refine TrQ.q (QS.idxRowN rfl rfl (by repeat (first | exact List.Mem.head _ | apply List.Mem.tail)) Try.underlying130 Try.sizeOf23 (by rfl) (by omega)) rfl ?_
          refine TrQ.q (QS.elR1 rfl (by repeat (first | exact List.Mem.head _ | apply List.Mem.tail)) Try.isAgg23 (by omega) (by rfl)) rfl ?_
          refine TrQ.q (QS.move rfl) rfl ?_
          refine TrQ.q (QS.move rfl) rfl ?_
          refine TrQ.q (QS.addI rfl rfl (by omega)) rfl ?_
          refine TrQ.q (QS.idxRow rfl rfl (by repeat (first | exact List.Mem.head _ | apply List.Mem.tail)) Try.underlying130 Try.sizeOf23 (by rfl) (by omega)) rfl ?_
          refine TrQ.q (QS.elR1 rfl (by repeat (first | exact List.Mem.head _ | apply List.Mem.tail)) Try.isAgg23 (by omega) (by rfl)) rfl ?_
          refine TrQ.q (QS.build (vs := [(0, _), (1, _)]) rfl rfl rfl) rfl ?_
          refine TrQ.nil ?_
          refine Tr.lit1 (E := encRng) ⟨_, _⟩ rfl rfl Try.underlying30 Try.sizeOf73 Try.zeroValue73 (by rfl) (by rfl) rfl (fun V15 => ?_)
          refine Tr.append1 rfl rfl (by repeat (first | exact Del.here _ | apply Del.there)) (by repeat (first | exact Del.here _ | apply Del.there)) Try.underlying30 HLF.info73 (by rfl) (by rfl) (by (try simp only [List.length_cons, List.length_nil, List.length_append, List.length_take]); omega) (by unfold maxLen; (try simp only [List.length_cons, List.length_nil, List.length_append, List.length_take]); omega) rfl (fun V16 => ?_)
          refine Tr.q (QS.assign rfl) rfl ?_
          refine Tr.nil ?_
          refine Tr.inN ?_
          refine Tr.thenN ?_
          refine Tr.region ?_
          refine Tr.q (QS.move rfl) rfl ?_
          refine Tr.q (QS.addI rfl rfl (by omega)) rfl ?_
          refine Tr.q (QS.assign rfl) rfl ?_
          refine Tr.nil ?_
          refine Tr.thenN ?_
          apply Tr.again (k + 1, _, _)
          · exact rfl
          · exact (.cons (by first | rfl | exact lookI rfl (by omega) | exact lookI rfl (by simp) | exact lookB rfl (by simp)) (.cons (by first | rfl | exact lookI rfl (by omega) | exact lookI rfl (by simp) | exact lookB rfl (by simp)) Front.nil))
          · exact SubX.dropN 45 (by kernel_rfl) rfl
          · exact (by repeat' (first | exact Pick.nil _ | exact Del.here _ | apply Pick.cons | apply Del.there))
          · exact ⟨.inr (by omega), by rw [chF_succ, ← ho]; exact (chStep_app (inC_yes h6 h12) h14).symm⟩
          · exact (by dsimp only; omega)
  · try simp only [Bool.and_eq_true, Bool.or_eq_true, Bool.not_eq_true', Bool.not_eq_false', decide_eq_true_eq, decide_eq_false_iff_not, Bool.and_eq_false_iff, Bool.or_eq_false_iff, ne_eq, Decidable.not_not] at h2
    refine Tr.exit ?_
    refine Tr.thenE ?_
    refine Tr.thenE ?_
    refine Tr.inHit ?_
    refine Tr.thenN ?_
    refine Tr.seq ?_
    refine Tr.region ?_
    refine Tr.q (QS.move rfl) rfl ?_
    refine Tr.q (QS.assign rfl) rfl ?_
    refine Tr.nil ?_
    refine Tr.thenN ?_
    refine Tr.ret ?_
    refine Tr.ret1 Try.results73 rfl (fun w' hw => ?_)
    have ek : k = cuts.length - 1 := by omega
    have e : chooseP a b both without = out := by rw [chooseP, ← hcu, ← ek, ← ho]
    exact ⟨_, rfl, hw.below (Bg.le.refl _), by rw [e]; exact hw.new (.head _)⟩
set_option maxRecDepth 100000 in
set_option maxHeartbeats 2000000 in
theorem refNormal_any (l : List Rng) (V : Value) (w : World) (hV : Sl (hp w) encRng l V) (hb : l.length ≤ 1000000) :
    Calls Try.prog 38 #[V] w (fun e w' => ∃ V', e = .returned V' ∧ Ext w w' ∧ NewRow w w' 73 encRng (chooseP l [] false false) V') := by
  refine enter Try.func38 rfl Try.ntmps38 rfl ?_
  refine Tr.seq ?_
  refine Tr.region ?_
  refine Tr.q (QS.assign rfl) rfl ?_
  refine Tr.nil ?_
  refine Tr.thenN ?_
  refine Tr.seq ?_
  refine Tr.region ?_
  refine Tr.q (QS.move rfl) rfl ?_
  refine Tr.callRow rfl Try.call73 (fun w hw => choose_any l [] V _ false false w (hw.slF hV) sl_nil hb (by simp)) rfl (fun V1 => ?_)
  refine Tr.q (QS.assign rfl) rfl ?_
  refine Tr.nil ?_
  refine Tr.thenN ?_
  refine Tr.ret ?_
  refine Tr.ret1 Try.results38 rfl (fun w' hw => ?_)
  exact ⟨_, rfl, hw.below (Bg.le.refl _), hw.new (.head _)⟩
end Go.Proofs.Ytfnedefgepjbpaa
namespace Go.Proofs.Ytfnedefgepjbpaa
open Go Go.HL Go.RowKit
set_option maxRecDepth 100000 in
set_option maxHeartbeats 2000000 in
theorem refEnd_any (s : SecV) (w : World) (hs : s.data.length ≤ 200000) :
    Calls Try.prog 82 #[.agg (encSec.enc s).toArray] w (fun e w' => e = .returned (.int .i64 (endP s)) ∧ Ext w w') := by
  have hadr := s.addr.toNat_lt
  refine enter Try.func82 rfl Try.ntmps82 rfl ?_
  refine Tr.seq ?_
  refine Tr.region ?_
  refine Tr.box rfl rfl rfl (fun b1 => ?_)
  refine Tr.q (QS.assign rfl) rfl ?_
  refine Tr.nil ?_
  refine Tr.thenN ?_
  refine Tr.seq ?_
  refine Tr.region ?_
  refine Tr.q (QS.fieldAddr (off := 1) (ft := 23) rfl Try.underlying59 rfl rfl Try.sizeOf23 (by decide)) rfl ?_
  refine Tr.q (QS.lV rfl Try.isAgg23) rfl ?_
  refine Tr.q (QS.cvt32toI rfl Try.underlying23 Try.underlying3) rfl ?_
  refine Tr.q (QS.fieldAddr (off := 2) (ft := 54) rfl Try.underlying59 rfl rfl Try.sizeOf54 (by decide)) rfl ?_
  refine Tr.q (QS.lV rfl Try.isAgg54) rfl ?_
  refine Tr.q (QS.lenNil rfl Try.underlying54) rfl ?_
  refine Tr.q (QS.addI rfl rfl (by omega)) rfl ?_
  refine Tr.q (QS.assign rfl) rfl ?_
  refine Tr.nil ?_
  refine Tr.thenN ?_
  refine Tr.seq ?_
  refine Tr.seq ?_
  refine Tr.region ?_
  refine Tr.q (QS.move rfl) rfl ?_
  refine Tr.q (QS.gtr rfl rfl) rfl ?_
  refine Tr.nil ?_
  refine Tr.thenN ?_
  refine Tr.cond rfl (fun h2 => ?_) (fun h2 => ?_)
  · try simp only [bs] at h2
    refine Tr.seq ?_
    refine Tr.region ?_
    refine Tr.q (QS.assign rfl) rfl ?_
    refine Tr.nil ?_
    refine Tr.thenN ?_
    refine Tr.ret ?_
    refine Tr.thenR ?_
    refine Tr.ret1 Try.results82 rfl (fun w' hw => ?_)
    exact ⟨by unfold endP; rw [Int.min_eq_right (by omega)], hw.below (Bg.le.refl _)⟩
  · try simp only [bs] at h2
    refine Tr.skip ?_
    refine Tr.thenN ?_
    refine Tr.seq ?_
    refine Tr.region ?_
    refine Tr.q (QS.move rfl) rfl ?_
    refine Tr.q (QS.assign rfl) rfl ?_
    refine Tr.nil ?_
    refine Tr.thenN ?_
    refine Tr.ret ?_
    refine Tr.ret1 Try.results82 rfl (fun w' hw => ?_)
    exact ⟨by unfold endP; rw [Int.min_eq_left (by omega)], hw.below (Bg.le.refl _)⟩
set_option maxRecDepth 100000 in
set_option maxHeartbeats 2000000 in
theorem refName_any (s : ByteArray) (w : World) (hs : s.size ≤ 9223372036854775807) :
    Calls Try.prog 101 #[.string s] w (fun e w' => e = .returned (.bool (nameP s)) ∧ Ext w w') := by
  have hbl := bts_len s
  refine enter Try.func101 rfl Try.ntmps101 rfl ?_
  refine Tr.seq ?_
  refine Tr.region ?_
  refine Tr.q (QS.assign rfl) rfl ?_
  refine Tr.nil ?_
  refine Tr.thenN ?_
  refine Tr.seq ?_
  refine Tr.seq ?_
  refine Tr.region ?_
  refine Tr.q (QS.assign rfl) rfl ?_
  refine Tr.nil ?_
  refine Tr.thenN ?_
  refine Tr.block ?_
  refine Tr.loop (ι := Nat) (fun k => k ≤ s.size ∧ ((bts s).take k).any badB = false) (fun _ => _) (fun k => []) (fun k => [(3, .int .i64 (k : Nat))]) (fun k => s.size - k) 0 ⟨Nat.zero_le _, rfl⟩ (.cons (by first | rfl | exact lookI rfl (by omega) | exact lookI rfl (by simp) | exact lookB rfl (by simp)) Front.nil) (by repeat' (first | exact Pick.nil _ | exact Del.here _ | apply Pick.cons | apply Del.there)) rfl (fun k hi m hm => ?_)
  replace hi : k ≤ s.size ∧ ((bts s).take k).any badB = false := hi
  replace hm : m = s.size - k := hm
  change Tr _ _ [] ([(3, .int .i64 (k : Nat))] ++ _) _
  obtain ⟨hk1, hk2⟩ := hi
  refine Tr.seq ?_
  refine Tr.seq ?_
  refine Tr.region ?_
  refine Tr.q (QS.move rfl) rfl ?_
  refine Tr.q (QS.move rfl) rfl ?_
  refine Tr.q (QS.lenStr rfl Try.underlying9) rfl ?_
  refine Tr.q (QS.lss rfl rfl) rfl ?_
  refine Tr.nil ?_
  refine Tr.thenN ?_
  refine Tr.cond rfl (fun h1 => ?_) (fun h1 => ?_)
  · try simp only [bs] at h1
    refine Tr.skip ?_
    refine Tr.thenN ?_
    refine Tr.seq ?_
    refine Tr.block ?_
    refine Tr.seq ?_
    refine Tr.region ?_
    refine Tr.q (QS.move rfl) rfl ?_
    refine Tr.q (QS.move rfl) rfl ?_
    refine Tr.q (QS.strIdx rfl rfl Try.underlying9 (by omega)) rfl ?_
    refine Tr.q (QS.assign rfl) rfl ?_
    refine Tr.nil ?_
    refine Tr.thenN ?_
    refine Tr.seq ?_
    refine Tr.region ?_
    refine Tr.q (QS.move rfl) rfl ?_
    refine Tr.q (QS.geq8 (n := 97) rfl rfl) rfl ?_
    refine Tr.q (QS.move rfl) rfl ?_
    apply Tr.andP
    · exact (rfl : _ = (3, 17, 20))
    · exact rfl
    · intro hT2; have hT2' := hT2
      try simp only [bs] at hT2'
      refine Tr.gq rfl rfl hT2 (QS.move rfl) rfl ?_
      refine Tr.gq rfl rfl hT2 (QS.leq8 (n := 122) rfl rfl) rfl ?_
      refine Tr.q (QS.pickT rfl hT2 rfl) rfl ?_
      refine Tr.nil (Tr.thenN ?_)
      exact Tr.endX (Sub.cons rfl (Sub.dropN 3 (by kernel_rfl) rfl))
    · intro hF2
      refine Tr.gskip rfl rfl hF2 rfl ?_
      refine Tr.gskip rfl rfl hF2 rfl ?_
      refine Tr.q (QS.pickF rfl hF2 rfl) rfl ?_
      refine Tr.nil (Tr.thenN ?_)
      exact Tr.endX (Sub.cons rfl (Sub.dropN 3 (by kernel_rfl) rfl))
    refine Tr.q (QS.move rfl) rfl ?_
    apply Tr.orP
    · exact (rfl : _ = (7, 21, 28))
    · exact rfl
    · intro hF3; have hF3' := hF3
      try simp only [bs] at hF3'
      refine Tr.gq rfl rfl hF3 (QS.move rfl) rfl ?_
      refine Tr.gq rfl rfl hF3 (QS.geq8 (n := 65) rfl rfl) rfl ?_
      refine Tr.gq rfl rfl hF3 (QS.move rfl) rfl ?_
      apply Tr.andP
      · exact (rfl : _ = (3, 24, 27))
      · exact rfl
      · intro hT4; have hT4' := hT4
        try simp only [bs] at hT4'
        refine Tr.gq rfl rfl hT4 (QS.move rfl) rfl ?_
        refine Tr.gq rfl rfl hT4 (QS.leq8 (n := 90) rfl rfl) rfl ?_
        refine Tr.gq rfl rfl hF3 (QS.pickT rfl hT4 rfl) rfl ?_
        refine Tr.nil (Tr.thenN ?_)
        exact Tr.endX (Sub.cons rfl (Sub.dropN 3 (by kernel_rfl) rfl))
      · intro hF4
        refine Tr.gskip rfl rfl hF4 rfl ?_
        refine Tr.gskip rfl rfl hF4 rfl ?_
        refine Tr.gq rfl rfl hF3 (QS.pickF rfl hF4 rfl) rfl ?_
        refine Tr.nil (Tr.thenN ?_)
        exact Tr.endX (Sub.cons rfl (Sub.dropN 3 (by kernel_rfl) rfl))
      refine Tr.q (QS.pickF rfl hF3 rfl) rfl ?_
      refine Tr.nil (Tr.thenN ?_)
      exact Tr.endX (Sub.cons rfl (Sub.dropN 5 (by kernel_rfl) rfl))
    · intro hT3
      refine Tr.gskip rfl rfl hT3 rfl ?_
      refine Tr.gskip rfl rfl hT3 rfl ?_
      refine Tr.gskip rfl rfl hT3 rfl ?_
      refine Tr.gskipU rfl rfl rfl ?_
      refine Tr.gskipU rfl rfl rfl ?_
      refine Tr.gskip rfl rfl hT3 rfl ?_
      refine Tr.q (QS.pickT rfl hT3 rfl) rfl ?_
      refine Tr.nil (Tr.thenN ?_)
      exact Tr.endX (Sub.cons rfl (Sub.dropN 7 (by kernel_rfl) rfl))
    refine Tr.q (QS.assign rfl) rfl ?_
    refine Tr.nil ?_
    refine Tr.thenN ?_
    refine Tr.seq ?_
    refine Tr.region ?_
    refine Tr.q (QS.move rfl) rfl ?_
    refine Tr.q (QS.not rfl) rfl ?_
    refine Tr.q (QS.move rfl) rfl ?_
    apply Tr.andP
    · exact (rfl : _ = (7, 31, 38))
    · exact rfl
    · intro hT5; have hT5' := hT5
      try simp only [bs] at hT5'
      refine Tr.gq rfl rfl hT5 (QS.move rfl) rfl ?_
      refine Tr.gq rfl rfl hT5 (QS.lss8 (n := 48) rfl rfl) rfl ?_
      refine Tr.gq rfl rfl hT5 (QS.move rfl) rfl ?_
      apply Tr.orP
      · exact (rfl : _ = (3, 34, 37))
      · exact rfl
      · intro hF6; have hF6' := hF6
        try simp only [bs] at hF6'
        refine Tr.gq rfl rfl hF6 (QS.move rfl) rfl ?_
        refine Tr.gq rfl rfl hF6 (QS.gtr8 (n := 57) rfl rfl) rfl ?_
        refine Tr.gq rfl rfl hT5 (QS.pickF rfl hF6 rfl) rfl ?_
        refine Tr.nil (Tr.thenN ?_)
        exact Tr.endX (Sub.cons rfl (Sub.dropN 3 (by kernel_rfl) rfl))
      · intro hT6
        refine Tr.gskip rfl rfl hT6 rfl ?_
        refine Tr.gskip rfl rfl hT6 rfl ?_
        refine Tr.gq rfl rfl hT5 (QS.pickT rfl hT6 rfl) rfl ?_
        refine Tr.nil (Tr.thenN ?_)
        exact Tr.endX (Sub.cons rfl (Sub.dropN 3 (by kernel_rfl) rfl))
      refine Tr.q (QS.pickT rfl hT5 rfl) rfl ?_
      refine Tr.nil (Tr.thenN ?_)
      exact Tr.endX (Sub.cons rfl (Sub.dropN 5 (by kernel_rfl) rfl))
    · intro hF5
      refine Tr.gskip rfl rfl hF5 rfl ?_
      refine Tr.gskip rfl rfl hF5 rfl ?_
      refine Tr.gskip rfl rfl hF5 rfl ?_
      refine Tr.gskipU rfl rfl rfl ?_
      refine Tr.gskipU rfl rfl rfl ?_
      refine Tr.gskip rfl rfl hF5 rfl ?_
      refine Tr.q (QS.pickF rfl hF5 rfl) rfl ?_
      refine Tr.nil (Tr.thenN ?_)
      exact Tr.endX (Sub.cons rfl (Sub.dropN 7 (by kernel_rfl) rfl))
    refine Tr.q (QS.move rfl) rfl ?_
    apply Tr.andP
    · exact (rfl : _ = (3, 39, 42))
    · exact rfl
    · intro hT7; have hT7' := hT7
      try simp only [bs] at hT7'
      refine Tr.gq rfl rfl hT7 (QS.move rfl) rfl ?_
      refine Tr.gq rfl rfl hT7 (QS.neq8 (n := 95) rfl rfl) rfl ?_
      refine Tr.q (QS.pickT rfl hT7 rfl) rfl ?_
      refine Tr.nil (Tr.thenN ?_)
      exact Tr.endX (Sub.cons rfl (Sub.dropN 3 (by kernel_rfl) rfl))
    · intro hF7
      refine Tr.gskip rfl rfl hF7 rfl ?_
      refine Tr.gskip rfl rfl hF7 rfl ?_
      refine Tr.q (QS.pickF rfl hF7 rfl) rfl ?_
      refine Tr.nil (Tr.thenN ?_)
      exact Tr.endX (Sub.cons rfl (Sub.dropN 3 (by kernel_rfl) rfl))
    refine Tr.q (QS.move rfl) rfl ?_
    apply Tr.andP
    · exact (rfl : _ = (3, 43, 46))
    · exact rfl
    · intro hT8; have hT8' := hT8
      try simp only [bs] at hT8'
      refine Tr.gq rfl rfl hT8 (QS.move rfl) rfl ?_
      refine Tr.gq rfl rfl hT8 (QS.neq8 (n := 46) rfl rfl) rfl ?_
      refine Tr.q (QS.pickT rfl hT8 rfl) rfl ?_
      refine Tr.nil (Tr.thenN ?_)
      exact Tr.endX (Sub.cons rfl (Sub.dropN 3 (by kernel_rfl) rfl))
    · intro hF8
      refine Tr.gskip rfl rfl hF8 rfl ?_
      refine Tr.gskip rfl rfl hF8 rfl ?_
      refine Tr.q (QS.pickF rfl hF8 rfl) rfl ?_
      refine Tr.nil (Tr.thenN ?_)
      exact Tr.endX (Sub.cons rfl (Sub.dropN 3 (by kernel_rfl) rfl))
    refine Tr.nil ?_
    refine Tr.thenN ?_
    refine Tr.cond rfl (fun h9 => ?_) (fun h9 => ?_)
    · try simp only [bs] at h9
      refine Tr.seq ?_
      refine Tr.region ?_
      refine Tr.q (QS.assign rfl) rfl ?_
      refine Tr.nil ?_
      refine Tr.thenN ?_
      refine Tr.ret ?_
      refine Tr.inR ?_
      refine Tr.thenR ?_
      refine Tr.thenR ?_
      refine Tr.inR ?_
      refine Tr.thenR ?_
      refine Tr.ret1 Try.results101 rfl (fun w' hw => ?_)
      have hbad : badB ((bts s).getD k default) = true := by rw [refBad]; simp only [bs]; assumption
      exact ⟨by rw [nameP_bad (by omega) hbad], hw.below (Bg.le.refl _)⟩
    · try simp only [bs] at h9
      refine Tr.skip ?_
      refine Tr.inN ?_
      refine Tr.thenN ?_
      refine Tr.region ?_
      refine Tr.q (QS.move rfl) rfl ?_
      refine Tr.q (QS.addI rfl rfl (by omega)) rfl ?_
      refine Tr.q (QS.assign rfl) rfl ?_
      refine Tr.nil ?_
      refine Tr.thenN ?_
      have hbad : badB ((bts s).getD k default) = false := by rw [refBad]; simp only [bs]; assumption
      apply Tr.again (k + 1)
      · exact rfl
      · exact (.cons (by first | rfl | exact lookI rfl (by omega) | exact lookI rfl (by simp) | exact lookB rfl (by simp)) Front.nil)
      · exact SubX.dropN 27 (by kernel_rfl) rfl
      · exact (by repeat' (first | exact Pick.nil _ | exact Del.here _ | apply Pick.cons | apply Del.there))
      · exact ⟨by omega, by rw [any_take_succ (by omega), hk2, hbad]; rfl⟩
      · exact (by (try dsimp only); omega)
  · try simp only [bs] at h1
    refine Tr.exit ?_
    refine Tr.thenE ?_
    refine Tr.thenE ?_
    refine Tr.inHit ?_
    refine Tr.thenN ?_
    refine Tr.seq ?_
    refine Tr.region ?_
    refine Tr.q (QS.move rfl) rfl ?_
    refine Tr.q (QS.lenStr rfl Try.underlying9) rfl ?_
    refine Tr.q (QS.gtr rfl rfl) rfl ?_
    refine Tr.q (QS.move rfl) rfl ?_
    apply Tr.andP
    · exact (rfl : _ = (4, 50, 54))
    · exact rfl
    · intro hT10; have hT10' := hT10
      try simp only [bs] at hT10'
      refine Tr.gq rfl rfl hT10 (QS.move rfl) rfl ?_
      refine Tr.gq rfl rfl hT10 (QS.lenStr rfl Try.underlying9) rfl ?_
      refine Tr.gq rfl rfl hT10 (QS.leq rfl rfl) rfl ?_
      refine Tr.q (QS.pickT rfl hT10 rfl) rfl ?_
      refine Tr.nil (Tr.thenN ?_)
      exact Tr.endX (Sub.cons rfl (Sub.dropN 4 (by kernel_rfl) rfl))
    · intro hF10
      refine Tr.gskip rfl rfl hF10 rfl ?_
      refine Tr.gskip rfl rfl hF10 rfl ?_
      refine Tr.gskip rfl rfl hF10 rfl ?_
      refine Tr.q (QS.pickF rfl hF10 rfl) rfl ?_
      refine Tr.nil (Tr.thenN ?_)
      exact Tr.endX (Sub.cons rfl (Sub.dropN 4 (by kernel_rfl) rfl))
    refine Tr.q (QS.assign rfl) rfl ?_
    refine Tr.nil ?_
    refine Tr.thenN ?_
    refine Tr.ret ?_
    refine Tr.ret1 Try.results101 rfl (fun w' hw => ?_)
    exact ⟨by rw [nameP_end (by omega) hk2]; congr 2, hw.below (Bg.le.refl _)⟩
set_option maxRecDepth 100000 in
set_option maxHeartbeats 2000000 in
theorem refFind_any (l : List SecV) (V : Value) (a : UInt32) (w : World) (hV : Sl (hp w) encSec l V) (hB : SecB l) :
    Calls Try.prog 72 #[V, .int .u32 a.toNat] w (fun e w' => e = .returned (.int .i64 (findP l a)) ∧ Ext w w') := by
  have hV' : Sl (Bg.of w).blk encSec l V := hV
  have hlen := hB.1
  refine enter Try.func72 rfl Try.ntmps72 rfl ?_
  refine Tr.seq ?_
  refine Tr.region ?_
  refine Tr.q (QS.assign rfl) rfl ?_
  refine Tr.nil ?_
  refine Tr.thenN ?_
  refine Tr.seq ?_
  refine Tr.seq ?_
  refine Tr.region ?_
  refine Tr.q (QS.assign rfl) rfl ?_
  refine Tr.nil ?_
  refine Tr.thenN ?_
  refine Tr.block ?_
  refine Tr.loop (ι := Nat) (fun k => k ≤ l.length ∧ idxP (inS a) k (l.drop k) = idxP (inS a) 0 l) (fun _ => _) (fun k => []) (fun k => [(5, .int .i64 (k : Nat))]) (fun k => l.length - k) 0 ⟨Nat.zero_le _, rfl⟩ (.cons (by first | rfl | exact lookI rfl (by omega) | exact lookI rfl (by simp) | exact lookB rfl (by simp)) Front.nil) (by repeat' (first | exact Pick.nil _ | exact Del.here _ | apply Pick.cons | apply Del.there)) rfl (fun k hi m hm => ?_)
  replace hi : k ≤ l.length ∧ idxP (inS a) k (l.drop k) = idxP (inS a) 0 l := hi
  replace hm : m = l.length - k := hm
  change Tr _ _ [] ([(5, .int .i64 (k : Nat))] ++ _) _
  obtain ⟨hk1, hk2⟩ := hi
  refine Tr.seq ?_
  refine Tr.seq ?_
  refine Tr.region ?_
  refine Tr.q (QS.move rfl) rfl ?_
  refine Tr.q (QS.move rfl) rfl ?_
  refine Tr.q (QS.len rfl (by assumption) Try.underlying22) rfl ?_
  refine Tr.q (QS.lss rfl rfl) rfl ?_
  refine Tr.nil ?_
  refine Tr.thenN ?_
  refine Tr.cond rfl (fun h1 => ?_) (fun h1 => ?_)
  · try simp only [bs] at h1
    refine Tr.skip ?_
    refine Tr.thenN ?_
    refine Tr.seq ?_
    refine Tr.block ?_
    refine Tr.seq ?_
    refine Tr.region ?_
    refine Tr.q (QS.move rfl) rfl ?_
    refine Tr.q (QS.move rfl) rfl ?_
    refine Tr.q (QS.idxN rfl rfl (by assumption) Try.underlying22 Try.sizeOf59 (by rfl) (by omega)) rfl ?_
    refine Tr.q (QS.fieldAddr (off := 1) (ft := 23) rfl Try.underlying59 rfl rfl Try.sizeOf23 (by decide)) rfl ?_
    refine Tr.q (QS.elF rfl (by assumption) Try.isAgg23 (by omega) (by rfl)) rfl ?_
    refine Tr.q (QS.move rfl) rfl ?_
    refine Tr.q (QS.leq32 rfl rfl) rfl ?_
    refine Tr.q (QS.move rfl) rfl ?_
    apply Tr.andP
    · exact (rfl : _ = (9, 19, 28))
    · exact rfl
    · intro hT2; have hT2' := hT2
      try simp only [bs] at hT2'
      refine Tr.gq rfl rfl hT2 (QS.move rfl) rfl ?_
      refine Tr.gq rfl rfl hT2 (QS.cvt32toI rfl Try.underlying23 Try.underlying3) rfl ?_
      refine Tr.gq rfl rfl hT2 (QS.move rfl) rfl ?_
      refine Tr.gq rfl rfl hT2 (QS.move rfl) rfl ?_
      refine Tr.gq rfl rfl hT2 (QS.idxN rfl rfl (by assumption) Try.underlying22 Try.sizeOf59 (by rfl) (by omega)) rfl ?_
      refine Tr.gq rfl rfl hT2 (QS.elA rfl (by assumption) Try.isAgg59 Try.sizeOf59 (by rfl) (by omega)) rfl ?_
      refine Tr.gq rfl rfl hT2 (QS.call rfl Try.call82 (fun w hw => refEnd_any (l.getD k default) w (hB.at (by omega)))) rfl ?_
      refine Tr.gq rfl rfl hT2 (QS.lss rfl rfl) rfl ?_
      refine Tr.q (QS.pickT rfl hT2 rfl) rfl ?_
      refine Tr.nil (Tr.thenN ?_)
      exact Tr.endX (Sub.cons rfl (Sub.dropN 9 (by kernel_rfl) rfl))
    · intro hF2
      refine Tr.gskip rfl rfl hF2 rfl ?_
      refine Tr.gskip rfl rfl hF2 rfl ?_
      refine Tr.gskip rfl rfl hF2 rfl ?_
      refine Tr.gskip rfl rfl hF2 rfl ?_
      refine Tr.gskip rfl rfl hF2 rfl ?_
      refine Tr.gskip rfl rfl hF2 rfl ?_
      refine Tr.gskip rfl rfl hF2 rfl ?_
      refine Tr.gskip rfl rfl hF2 rfl ?_
      refine Tr.q (QS.pickF rfl hF2 rfl) rfl ?_
      refine Tr.nil (Tr.thenN ?_)
      exact Tr.endX (Sub.cons rfl (Sub.dropN 9 (by kernel_rfl) rfl))
    refine Tr.nil ?_
    refine Tr.thenN ?_
    refine Tr.cond rfl (fun h3 => ?_) (fun h3 => ?_)
    · try simp only [bs] at h3
      refine Tr.seq ?_
      refine Tr.region ?_
      refine Tr.q (QS.move rfl) rfl ?_
      refine Tr.q (QS.assign rfl) rfl ?_
      refine Tr.nil ?_
      refine Tr.thenN ?_
      refine Tr.ret ?_
      refine Tr.inR ?_
      refine Tr.thenR ?_
      refine Tr.thenR ?_
      refine Tr.inR ?_
      refine Tr.thenR ?_
      refine Tr.ret1 Try.results72 rfl (fun w' hw => ?_)
      exact ⟨by unfold findP; rw [← hk2, drop_cons (k := k) (by omega), idxP, if_pos (by rw [inS_iff]; simp only [UInt32.le_iff_toNat_le] at *; omega)], hw.below (Bg.le.refl _)⟩
    · try simp only [bs] at h3
      refine Tr.skip ?_
      refine Tr.inN ?_
      refine Tr.thenN ?_
      refine Tr.region ?_
      refine Tr.q (QS.move rfl) rfl ?_
      refine Tr.q (QS.addI rfl rfl (by omega)) rfl ?_
      refine Tr.q (QS.assign rfl) rfl ?_
      refine Tr.nil ?_
      refine Tr.thenN ?_
      apply Tr.again (k + 1)
      · exact rfl
      · exact (.cons (by first | rfl | exact lookI rfl (by omega) | exact lookI rfl (by simp) | exact lookB rfl (by simp)) Front.nil)
      · exact SubX.dropN 17 (by kernel_rfl) rfl
      · exact (by repeat' (first | exact Pick.nil _ | exact Del.here _ | apply Pick.cons | apply Del.there))
      · exact ⟨by omega, by rw [← hk2, drop_cons (k := k) (by omega), idxP, if_neg (by rw [inS_iff]; simp only [UInt32.le_iff_toNat_le] at *; omega)]⟩
      · exact (by (try dsimp only); omega)
  · try simp only [bs] at h1
    refine Tr.exit ?_
    refine Tr.thenE ?_
    refine Tr.thenE ?_
    refine Tr.inHit ?_
    refine Tr.thenN ?_
    refine Tr.seq ?_
    refine Tr.region ?_
    refine Tr.q (QS.assign rfl) rfl ?_
    refine Tr.nil ?_
    refine Tr.thenN ?_
    refine Tr.ret ?_
    refine Tr.ret1 Try.results72 rfl (fun w' hw => ?_)
    exact ⟨by unfold findP; rw [← hk2, List.drop_of_length_le (by omega)]; rfl, hw.below (Bg.le.refl _)⟩
set_option maxRecDepth 100000 in
set_option maxHeartbeats 2000000 in
theorem refCopy_any (s : SecV) (w : World) (hs : s.data.length ≤ 200000) (hd : Sl (hp w) encU8 s.data (.slice s.dp s.data.length s.dc)) :
    Calls Try.prog 83 #[.agg (encSec.enc s).toArray] w (fun e w' => ∃ i : SecV, e = .returned (.agg (encSec.enc i).toArray) ∧ Ext w w' ∧ NewEnts w w' [dRow 5 i] ∧ i.pl = s.pl) := by
  have hd' : Sl (Bg.of w).blk encU8 s.data (.slice s.dp s.data.length s.dc) := hd
  refine enter Try.func83 rfl Try.ntmps83 rfl ?_
  refine Tr.seq ?_
  refine Tr.region ?_
  refine Tr.box rfl rfl rfl (fun b1 => ?_)
  refine Tr.alloc Try.zeroValue59 rfl rfl (fun b2 => ?_)
  refine Tr.nil ?_
  refine Tr.thenN ?_
  refine Tr.seq ?_
  refine Tr.region ?_
  refine Tr.q (QS.assign rfl) rfl ?_
  refine Tr.nil ?_
  refine Tr.thenN ?_
  refine Tr.seq ?_
  refine Tr.region ?_
  refine Tr.q (QS.move rfl) rfl ?_
  refine Tr.q (QS.fieldAddr (off := 2) (ft := 54) rfl Try.underlying59 rfl rfl Try.sizeOf54 (by decide)) rfl ?_
  refine Tr.q (QS.lV rfl Try.isAgg54) rfl ?_
  refine Tr.ownNil _ _ (Tr.appendOf rfl rfl (by repeat (first | exact Del.here _ | apply Del.there)) (fun w hw => hw.slF (by assumption)) Try.underlying54 HLF.info5 (by rfl) (by rfl) (by (try simp only [List.length_cons, List.length_nil, List.length_append, List.length_take]); omega) (by unfold maxLen; (try simp only [List.length_cons, List.length_nil, List.length_append, List.length_take]); omega) rfl (fun V3 => ?_))
  rw [List.nil_append]
  refine Tr.rowShape (.head _) (fun pa pc hpv => ?_)
  subst hpv
  refine Tr.q (QS.assign rfl) rfl ?_
  refine Tr.nil ?_
  refine Tr.thenN ?_
  refine Tr.seq ?_
  refine Tr.region ?_
  refine Tr.q (QS.move rfl) rfl ?_
  refine Tr.q (QS.fieldAddr (off := 2) (ft := 54) rfl Try.underlying59 rfl rfl Try.sizeOf54 (by decide)) rfl ?_
  refine Tr.storeV (cs' := [_, _, _, _, _]) rfl rfl Try.sizeOf54 (by repeat (first | exact Put.here _ | apply Put.there)) rfl (by rfl) (by first | exact Nat.le_of_ble_eq_true rfl | simp) (by first | exact List.all_eq_true.1 rfl | (intro u hu; simp [Value.cells] at hu; simp_all [Value.oneCell'])) rfl ?_
  refine Tr.nil ?_
  refine Tr.thenN ?_
  refine Tr.seq ?_
  refine Tr.region ?_
  refine Tr.q (QS.lW rfl Try.isAgg59 Try.sizeOf59) rfl ?_
  refine Tr.storeW rfl rfl Try.sizeOf59 (by repeat (first | exact Put.here _ | apply Put.there)) (by rfl) (by rfl) (by first | exact List.all_eq_true.1 rfl | exact Enc.one _ _ | exact Enc.one encSec _) rfl ?_
  refine Tr.nil ?_
  refine Tr.thenN ?_
  refine Tr.ret ?_
  refine Tr.retC1 Try.results83 rfl (by repeat (first | exact List.Mem.head _ | apply List.Mem.tail)) Try.isAgg59 Try.sizeOf59 (by rfl) (fun w' hw => ?_)
  exact ⟨{ s with dp := pa, dc := pc }, rfl, hw.below (Bg.le.refl _), hw.ents (Bg.le.refl _) (by repeat' (first | exact Pick.nil _ | exact Del.here _ | apply Pick.cons | apply Del.there)), rfl⟩
set_option maxRecDepth 100000 in
set_option maxHeartbeats 2000000 in
theorem refOne_any (l : List SecV) (V : Value) (i : Nat) (w : World) (hV : Sl (hp w) encSec l V) (hB : SecB l) (hi : i < l.length) (hN : (l.getD i default).name.size ≤ 9223372036854775807) :
    Calls Try.prog 81 #[V, .int .i64 (i : Nat)] w (fun e w' => e = .returned (.int .i64 (oneP l i)) ∧ Ext w w') := by
  have hV' : Sl (Bg.of w).blk encSec l V := hV
  have hlen := hB.1
  obtain ⟨s, hs⟩ : ∃ s, s = l.getD i default := ⟨_, rfl⟩
  have hsd : s.data.length ≤ 200000 := by rw [hs]; exact hB.at hi
  have hadr := s.addr.toNat_lt
  have hst := stack_iff s
  refine enter Try.func81 rfl Try.ntmps81 rfl ?_
  refine Tr.seq ?_
  refine Tr.region ?_
  refine Tr.q (QS.assign rfl) rfl ?_
  refine Tr.nil ?_
  refine Tr.thenN ?_
  refine Tr.seq ?_
  refine Tr.region ?_
  refine Tr.q (QS.move rfl) rfl ?_
  refine Tr.q (QS.move rfl) rfl ?_
  refine Tr.q (QS.idxN rfl rfl (by assumption) Try.underlying22 Try.sizeOf59 (by rfl) (by omega)) rfl ?_
  refine Tr.q (QS.elA rfl (by assumption) Try.isAgg59 Try.sizeOf59 (by rfl) (by omega)) rfl ?_
  refine Tr.alloc Try.zeroValue59 rfl rfl (fun b1 => ?_)
  refine Tr.storeW rfl rfl Try.sizeOf59 (by repeat (first | exact Put.here _ | apply Put.there)) (by rfl) (by rfl) (by first | exact List.all_eq_true.1 rfl | exact Enc.one _ _ | exact Enc.one encSec _) rfl ?_
  refine Tr.nil ?_
  refine Tr.thenN ?_
  refine Tr.seq ?_
  refine Tr.seq ?_
  rw [← hs]
  refine Tr.region ?_
  refine Tr.q (QS.fieldAddr (off := 2) (ft := 54) rfl Try.underlying59 rfl rfl Try.sizeOf54 (by decide)) rfl ?_
  refine Tr.q (QS.lV rfl Try.isAgg54) rfl ?_
  refine Tr.q (QS.lenNil rfl Try.underlying54) rfl ?_
  refine Tr.q (QS.gtr rfl rfl) rfl ?_
  refine Tr.nil ?_
  refine Tr.thenN ?_
  refine Tr.cond rfl (fun h2 => ?_) (fun h2 => ?_)
  · try simp only [bs] at h2
    refine Tr.seq ?_
    refine Tr.region ?_
    refine Tr.q (QS.assign rfl) rfl ?_
    refine Tr.nil ?_
    refine Tr.thenN ?_
    refine Tr.ret ?_
    refine Tr.thenR ?_
    refine Tr.ret1 Try.results81 rfl (fun w' hw => ?_)
    exact ⟨by unfold oneP; dsimp only; rw [← hs, if_pos (by assumption)], hw.below (Bg.le.refl _)⟩
  · try simp only [bs] at h2
    refine Tr.skip ?_
    refine Tr.thenN ?_
    refine Tr.seq ?_
    refine Tr.seq ?_
    refine Tr.region ?_
    refine Tr.q (QS.fieldAddr (off := 0) (ft := 9) rfl Try.underlying59 rfl rfl Try.sizeOf9 (by decide)) rfl ?_
    refine Tr.q (QS.lV rfl Try.isAgg9) rfl ?_
    refine Tr.q (QS.call rfl Try.call101 (fun w hw => refName_any s.name w (by rw [hs]; exact hN))) rfl ?_
    refine Tr.q (QS.not rfl) rfl ?_
    refine Tr.nil ?_
    refine Tr.thenN ?_
    refine Tr.cond rfl (fun h3 => ?_) (fun h3 => ?_)
    · try simp only [bs] at h3
      refine Tr.seq ?_
      refine Tr.region ?_
      refine Tr.q (QS.assign rfl) rfl ?_
      refine Tr.nil ?_
      refine Tr.thenN ?_
      refine Tr.ret ?_
      refine Tr.thenR ?_
      refine Tr.ret1 Try.results81 rfl (fun w' hw => ?_)
      exact ⟨by unfold oneP; dsimp only; rw [← hs, if_neg (by assumption), if_pos (by assumption)], hw.below (Bg.le.refl _)⟩
    · try simp only [bs] at h3
      refine Tr.skip ?_
      refine Tr.thenN ?_
      refine Tr.seq ?_
      refine Tr.seq ?_
      refine Tr.region ?_
      refine Tr.q (QS.assign rfl) rfl ?_
      refine Tr.nil ?_
      refine Tr.thenN ?_
      refine Tr.block ?_
      refine Tr.loop (ι := Nat) (fun k => k ≤ i ∧ (l.take k).any (fun x => decide (x.name = s.name)) = false) (fun _ => _) (fun k => [cellE b1 (encSec.enc s) 59]) (fun k => [(6, .int .i64 (k : Nat))]) (fun k => i - k) 0 ⟨Nat.zero_le _, rfl⟩ (.cons (by first | rfl | exact lookI rfl (by omega) | exact lookI rfl (by simp) | exact lookB rfl (by simp)) Front.nil) (by repeat' (first | exact Pick.nil _ | exact Del.here _ | apply Pick.cons | apply Del.there)) rfl (fun k hi m hm => ?_)
      replace hi : k ≤ i ∧ (l.take k).any (fun x => decide (x.name = s.name)) = false := hi
      replace hm : m = i - k := hm
      change Tr _ _ [cellE b1 (encSec.enc s) 59] ([(6, .int .i64 (k : Nat))] ++ _) _
      obtain ⟨hk1, hk2⟩ := hi
      refine Tr.seq ?_
      refine Tr.seq ?_
      refine Tr.region ?_
      refine Tr.q (QS.move rfl) rfl ?_
      refine Tr.q (QS.move rfl) rfl ?_
      refine Tr.q (QS.lss rfl rfl) rfl ?_
      refine Tr.nil ?_
      refine Tr.thenN ?_
      refine Tr.cond rfl (fun h4 => ?_) (fun h4 => ?_)
      · try simp only [bs] at h4
        refine Tr.skip ?_
        refine Tr.thenN ?_
        refine Tr.seq ?_
        refine Tr.block ?_
        refine Tr.seq ?_
        refine Tr.regionQ HLF.mixed (by kernel_rfl) ?_
        refine TrQ.q (QS.move rfl) rfl ?_
        refine TrQ.q (QS.move rfl) rfl ?_
        refine TrQ.q (QS.idxN rfl rfl (by assumption) Try.underlying22 Try.sizeOf59 (by rfl) (by omega)) rfl ?_
        refine TrQ.q (QS.fieldAddr (off := 0) (ft := 9) rfl Try.underlying59 rfl rfl Try.sizeOf9 (by decide)) rfl ?_
        refine TrQ.q (QS.elF rfl (by assumption) Try.isAgg9 (by omega) (by rfl)) rfl ?_
        refine TrQ.q (QS.fieldAddr (off := 0) (ft := 9) rfl Try.underlying59 rfl rfl Try.sizeOf9 (by decide)) rfl ?_
        refine TrQ.q (QS.lV rfl Try.isAgg9) rfl ?_
        refine TrQ.q (QS.str_eql rfl rfl) rfl ?_
        refine TrQ.nil ?_
        refine Tr.thenN ?_
        refine Tr.cond rfl (fun h5 => ?_) (fun h5 => ?_)
        · try simp only [bs] at h5
          refine Tr.seq ?_
          refine Tr.region ?_
          refine Tr.q (QS.assign rfl) rfl ?_
          refine Tr.nil ?_
          refine Tr.thenN ?_
          refine Tr.ret ?_
          refine Tr.inR ?_
          refine Tr.thenR ?_
          refine Tr.thenR ?_
          refine Tr.inR ?_
          refine Tr.thenR ?_
          refine Tr.ret1 Try.results81 rfl (fun w' hw => ?_)
          have hany : (l.take i).any (fun x => decide (x.name = s.name)) = true := List.any_eq_true.2 ⟨l.getD k default, by rw [List.mem_take_iff_getElem]; exact ⟨k, by omega, by simp [List.getD_eq_getElem?_getD, show k < l.length by omega]⟩, decide_eq_true (by assumption)⟩
          exact ⟨by unfold oneP; dsimp only; rw [← hs, if_neg (by assumption), if_neg (by simp_all), if_pos hany], hw.below (Bg.le.refl _)⟩
        · try simp only [bs] at h5
          refine Tr.skip ?_
          refine Tr.inN ?_
          refine Tr.thenN ?_
          refine Tr.region ?_
          refine Tr.q (QS.move rfl) rfl ?_
          refine Tr.q (QS.addI rfl rfl (by omega)) rfl ?_
          refine Tr.q (QS.assign rfl) rfl ?_
          refine Tr.nil ?_
          refine Tr.thenN ?_
          apply Tr.again (k + 1)
          · exact rfl
          · exact (.cons (by first | rfl | exact lookI rfl (by omega) | exact lookI rfl (by simp) | exact lookB rfl (by simp)) Front.nil)
          · exact SubX.dropN 15 (by kernel_rfl) rfl
          · exact (by repeat' (first | exact Pick.nil _ | exact Del.here _ | apply Pick.cons | apply Del.there))
          · exact ⟨by omega, by rw [any_take_succ (by omega), hk2, Bool.false_or]; exact decide_eq_false (by assumption)⟩
          · exact (by (try dsimp only); omega)
      · try simp only [bs] at h4
        refine Tr.exit ?_
        refine Tr.thenE ?_
        refine Tr.thenE ?_
        refine Tr.inHit ?_
        refine Tr.thenN ?_
        refine Tr.seq ?_
        refine Tr.seq ?_
        refine Tr.region ?_
        refine Tr.q (QS.fieldAddr (off := 1) (ft := 23) rfl Try.underlying59 rfl rfl Try.sizeOf23 (by decide)) rfl ?_
        refine Tr.q (QS.lV rfl Try.isAgg23) rfl ?_
        refine Tr.q (QS.cvt32toI rfl Try.underlying23 Try.underlying3) rfl ?_
        refine Tr.q (QS.fieldAddr (off := 2) (ft := 54) rfl Try.underlying59 rfl rfl Try.sizeOf54 (by decide)) rfl ?_
        refine Tr.q (QS.lV rfl Try.isAgg54) rfl ?_
        refine Tr.q (QS.lenNil rfl Try.underlying54) rfl ?_
        refine Tr.q (QS.addI rfl rfl (by omega)) rfl ?_
        refine Tr.q (QS.gtr rfl rfl) rfl ?_
        refine Tr.nil ?_
        refine Tr.thenN ?_
        refine Tr.cond rfl (fun h6 => ?_) (fun h6 => ?_)
        · try simp only [bs] at h6
          refine Tr.seq ?_
          refine Tr.region ?_
          refine Tr.q (QS.assign rfl) rfl ?_
          refine Tr.nil ?_
          refine Tr.thenN ?_
          refine Tr.ret ?_
          refine Tr.thenR ?_
          refine Tr.ret1 Try.results81 rfl (fun w' hw => ?_)
          have hany : ¬ (l.take i).any (fun x => decide (x.name = s.name)) = true := by obtain rfl : k = i := (by omega); rw [hk2]; decide
          exact ⟨by unfold oneP; dsimp only; rw [← hs, if_neg (by assumption), if_neg (by simp_all), if_neg hany, if_pos (.inl (by assumption))], hw.below (Bg.le.refl _)⟩
        · try simp only [bs] at h6
          refine Tr.skip ?_
          refine Tr.thenN ?_
          refine Tr.seq ?_
          refine Tr.seq ?_
          refine Tr.region ?_
          refine Tr.q (QS.fieldAddr (off := 2) (ft := 54) rfl Try.underlying59 rfl rfl Try.sizeOf54 (by decide)) rfl ?_
          refine Tr.q (QS.lV rfl Try.isAgg54) rfl ?_
          refine Tr.q (QS.lenNil rfl Try.underlying54) rfl ?_
          refine Tr.q (QS.gtr rfl rfl) rfl ?_
          refine Tr.q (QS.move rfl) rfl ?_
          apply Tr.andP
          · exact (rfl : _ = (5, 44, 49))
          · exact rfl
          · intro hT7; have hT7' := hT7
            try simp only [bs] at hT7'
            refine Tr.gq rfl rfl hT7 (QS.fieldAddr (off := 1) (ft := 23) rfl Try.underlying59 rfl rfl Try.sizeOf23 (by decide)) rfl ?_
            refine Tr.gq rfl rfl hT7 (QS.lV rfl Try.isAgg23) rfl ?_
            refine Tr.gq rfl rfl hT7 (QS.cvt32toI rfl Try.underlying23 Try.underlying3) rfl ?_
            refine Tr.gq rfl rfl hT7 (QS.lss rfl rfl) rfl ?_
            refine Tr.q (QS.pickT rfl hT7 rfl) rfl ?_
            refine Tr.nil (Tr.thenN ?_)
            exact Tr.endX (Sub.cons rfl (Sub.dropN 5 (by kernel_rfl) rfl))
          · intro hF7
            refine Tr.gskip rfl rfl hF7 rfl ?_
            refine Tr.gskip rfl rfl hF7 rfl ?_
            refine Tr.gskip rfl rfl hF7 rfl ?_
            refine Tr.gskip rfl rfl hF7 rfl ?_
            refine Tr.q (QS.pickF rfl hF7 rfl) rfl ?_
            refine Tr.nil (Tr.thenN ?_)
            exact Tr.endX (Sub.cons rfl (Sub.dropN 5 (by kernel_rfl) rfl))
          refine Tr.q (QS.move rfl) rfl ?_
          apply Tr.andP
          · exact (rfl : _ = (4, 50, 54))
          · exact rfl
          · intro hT8; have hT8' := hT8
            try simp only [bs] at hT8'
            refine Tr.gq rfl rfl hT8 (QS.lW rfl Try.isAgg59 Try.sizeOf59) rfl ?_
            refine Tr.gq rfl rfl hT8 (QS.call rfl Try.call82 (fun w hw => refEnd_any s w hsd)) rfl ?_
            refine Tr.gq rfl rfl hT8 (QS.gtr rfl rfl) rfl ?_
            refine Tr.q (QS.pickT rfl hT8 rfl) rfl ?_
            refine Tr.nil (Tr.thenN ?_)
            exact Tr.endX (Sub.cons rfl (Sub.dropN 4 (by kernel_rfl) rfl))
          · intro hF8
            refine Tr.gskip rfl rfl hF8 rfl ?_
            refine Tr.gskip rfl rfl hF8 rfl ?_
            refine Tr.gskip rfl rfl hF8 rfl ?_
            refine Tr.q (QS.pickF rfl hF8 rfl) rfl ?_
            refine Tr.nil (Tr.thenN ?_)
            exact Tr.endX (Sub.cons rfl (Sub.dropN 4 (by kernel_rfl) rfl))
          refine Tr.nil ?_
          refine Tr.thenN ?_
          refine Tr.cond rfl (fun h9 => ?_) (fun h9 => ?_)
          · try simp only [bs] at h9
            refine Tr.seq ?_
            refine Tr.region ?_
            refine Tr.q (QS.assign rfl) rfl ?_
            refine Tr.nil ?_
            refine Tr.thenN ?_
            refine Tr.ret ?_
            refine Tr.thenR ?_
            refine Tr.ret1 Try.results81 rfl (fun w' hw => ?_)
            have hany : ¬ (l.take i).any (fun x => decide (x.name = s.name)) = true := by obtain rfl : k = i := (by omega); rw [hk2]; decide
            exact ⟨by unfold oneP; dsimp only; rw [← hs, if_neg (by assumption), if_neg (by simp_all), if_neg hany, if_pos (.inr (hst.2 (by omega)))], hw.below (Bg.le.refl _)⟩
          · try simp only [bs] at h9
            refine Tr.skip ?_
            refine Tr.thenN ?_
            refine Tr.seq ?_
            refine Tr.region ?_
            refine Tr.q (QS.assign rfl) rfl ?_
            refine Tr.nil ?_
            refine Tr.thenN ?_
            refine Tr.ret ?_
            refine Tr.ret1 Try.results81 rfl (fun w' hw => ?_)
            have hany : ¬ (l.take i).any (fun x => decide (x.name = s.name)) = true := by obtain rfl : k = i := (by omega); rw [hk2]; decide
            exact ⟨by unfold oneP; dsimp only; rw [← hs, if_neg (by assumption), if_neg (by simp_all), if_neg hany, if_neg (fun q => q.elim (by assumption) (fun q => by have := hst.1 q; omega))], hw.below (Bg.le.refl _)⟩
set_option maxRecDepth 100000 in
set_option maxHeartbeats 2000000 in
theorem refCheck_any (l : List SecV) (V : Value) (w : World) (hV : Sl (hp w) encSec l V) (hB : SecB l) (hN : ∀ s ∈ l, s.name.size ≤ 9223372036854775807) :
    Calls Try.prog 52 #[V] w (fun e w' => e = .returned (.int .i64 (checkS l)) ∧ Ext w w') := by
  have hV' : Sl (Bg.of w).blk encSec l V := hV
  have hlen := hB.1
  refine enter Try.func52 rfl Try.ntmps52 rfl ?_
  refine Tr.seq ?_
  refine Tr.region ?_
  refine Tr.q (QS.assign rfl) rfl ?_
  refine Tr.nil ?_
  refine Tr.thenN ?_
  refine Tr.seq ?_
  refine Tr.seq ?_
  refine Tr.region ?_
  refine Tr.q (QS.move rfl) rfl ?_
  refine Tr.q (QS.len rfl (by assumption) Try.underlying22) rfl ?_
  refine Tr.q (QS.gtr rfl rfl) rfl ?_
  refine Tr.nil ?_
  refine Tr.thenN ?_
  refine Tr.cond rfl (fun h1 => ?_) (fun h1 => ?_)
  · try simp only [bs] at h1
    refine Tr.seq ?_
    refine Tr.region ?_
    refine Tr.q (QS.assign rfl) rfl ?_
    refine Tr.nil ?_
    refine Tr.thenN ?_
    refine Tr.ret ?_
    refine Tr.thenR ?_
    refine Tr.ret1 Try.results52 rfl (fun w' hw => ?_)
    exact ⟨by rw [check_0 (by assumption)], hw.below (Bg.le.refl _)⟩
  · try simp only [bs] at h1
    refine Tr.skip ?_
    refine Tr.thenN ?_
    refine Tr.seq ?_
    refine Tr.seq ?_
    refine Tr.region ?_
    refine Tr.q (QS.assign rfl) rfl ?_
    refine Tr.nil ?_
    refine Tr.thenN ?_
    refine Tr.block ?_
    refine Tr.loop (ι := Nat) (fun k => k ≤ l.length ∧ firstP (oneP l) k (l.length - k) = firstP (oneP l) 0 l.length) (fun _ => _) (fun k => []) (fun k => [(3, .int .i64 (k : Nat))]) (fun k => l.length - k) 0 ⟨Nat.zero_le _, rfl⟩ (.cons (by first | rfl | exact lookI rfl (by omega) | exact lookI rfl (by simp) | exact lookB rfl (by simp)) Front.nil) (by repeat' (first | exact Pick.nil _ | exact Del.here _ | apply Pick.cons | apply Del.there)) rfl (fun k hi m hm => ?_)
    replace hi : k ≤ l.length ∧ firstP (oneP l) k (l.length - k) = firstP (oneP l) 0 l.length := hi
    replace hm : m = l.length - k := hm
    change Tr _ _ [] ([(3, .int .i64 (k : Nat))] ++ _) _
    obtain ⟨hk1, hk2⟩ := hi
    refine Tr.seq ?_
    refine Tr.seq ?_
    refine Tr.region ?_
    refine Tr.q (QS.move rfl) rfl ?_
    refine Tr.q (QS.move rfl) rfl ?_
    refine Tr.q (QS.len rfl (by assumption) Try.underlying22) rfl ?_
    refine Tr.q (QS.lss rfl rfl) rfl ?_
    refine Tr.nil ?_
    refine Tr.thenN ?_
    refine Tr.cond rfl (fun h2 => ?_) (fun h2 => ?_)
    · try simp only [bs] at h2
      refine Tr.skip ?_
      refine Tr.thenN ?_
      refine Tr.seq ?_
      refine Tr.block ?_
      refine Tr.seq ?_
      refine Tr.region ?_
      refine Tr.q (QS.move rfl) rfl ?_
      refine Tr.q (QS.move rfl) rfl ?_
      refine Tr.q (QS.call rfl Try.call81 (fun w hw => refOne_any l V k w (hw.slF hV) hB (by omega) (hN _ (mem_getD (by omega))))) rfl ?_
      refine Tr.q (QS.assign rfl) rfl ?_
      refine Tr.nil ?_
      refine Tr.thenN ?_
      refine Tr.seq ?_
      refine Tr.region ?_
      refine Tr.q (QS.move rfl) rfl ?_
      refine Tr.q (QS.neq rfl rfl) rfl ?_
      refine Tr.nil ?_
      refine Tr.thenN ?_
      refine Tr.cond rfl (fun h3 => ?_) (fun h3 => ?_)
      · try simp only [bs] at h3
        refine Tr.seq ?_
        refine Tr.region ?_
        refine Tr.q (QS.move rfl) rfl ?_
        refine Tr.q (QS.assign rfl) rfl ?_
        refine Tr.nil ?_
        refine Tr.thenN ?_
        refine Tr.ret ?_
        refine Tr.inR ?_
        refine Tr.thenR ?_
        refine Tr.thenR ?_
        refine Tr.inR ?_
        refine Tr.thenR ?_
        refine Tr.ret1 Try.results52 rfl (fun w' hw => ?_)
        exact ⟨by rw [check_1 (v := oneP l k) (by assumption) (by omega) hk2 rfl (by assumption)], hw.below (Bg.le.refl _)⟩
      · try simp only [bs] at h3
        refine Tr.skip ?_
        refine Tr.inN ?_
        refine Tr.thenN ?_
        refine Tr.region ?_
        refine Tr.q (QS.move rfl) rfl ?_
        refine Tr.q (QS.addI rfl rfl (by omega)) rfl ?_
        refine Tr.q (QS.assign rfl) rfl ?_
        refine Tr.nil ?_
        refine Tr.thenN ?_
        apply Tr.again (k + 1)
        · exact rfl
        · exact (.cons (by first | rfl | exact lookI rfl (by omega) | exact lookI rfl (by simp) | exact lookB rfl (by simp)) Front.nil)
        · exact SubX.dropN 14 (by kernel_rfl) rfl
        · exact (by repeat' (first | exact Pick.nil _ | exact Del.here _ | apply Pick.cons | apply Del.there))
        · exact ⟨by omega, by rw [firstP_next (by omega) (by omega), hk2]⟩
        · exact (by (try dsimp only); omega)
    · try simp only [bs] at h2
      refine Tr.exit ?_
      refine Tr.thenE ?_
      refine Tr.thenE ?_
      refine Tr.inHit ?_
      refine Tr.thenN ?_
      refine Tr.seq ?_
      refine Tr.seq ?_
      refine Tr.region ?_
      refine Tr.q (QS.assign rfl) rfl ?_
      refine Tr.nil ?_
      refine Tr.thenN ?_
      refine Tr.block ?_
      have hz1 : firstP (oneP l) 0 l.length = 0 := by rw [← hk2]; exact firstP_zero (by omega)
      clear hk2 hk1 hm
      refine Tr.loop (ι := Nat) (fun k => k ≤ l.length ∧ firstP (fun i => if overP l i = true then 10 else 0) k (l.length - k) = firstP (fun i => if overP l i = true then 10 else 0) 0 l.length) (fun _ => _) (fun k => []) (fun k => [(5, .int .i64 (k : Nat))]) (fun k => l.length - k) 0 ⟨Nat.zero_le _, rfl⟩ (.cons (by first | rfl | exact lookI rfl (by omega) | exact lookI rfl (by simp) | exact lookB rfl (by simp)) Front.nil) (by repeat' (first | exact Pick.nil _ | exact Del.here _ | apply Pick.cons | apply Del.there)) rfl (fun k hi m hm => ?_)
      replace hi : k ≤ l.length ∧ firstP (fun i => if overP l i = true then 10 else 0) k (l.length - k) = firstP (fun i => if overP l i = true then 10 else 0) 0 l.length := hi
      replace hm : m = l.length - k := hm
      change Tr _ _ [] ([(5, .int .i64 (k : Nat))] ++ _) _
      obtain ⟨hk1, hk2⟩ := hi
      refine Tr.seq ?_
      refine Tr.seq ?_
      refine Tr.region ?_
      refine Tr.q (QS.move rfl) rfl ?_
      refine Tr.q (QS.move rfl) rfl ?_
      refine Tr.q (QS.len rfl (by assumption) Try.underlying22) rfl ?_
      refine Tr.q (QS.lss rfl rfl) rfl ?_
      refine Tr.nil ?_
      refine Tr.thenN ?_
      refine Tr.cond rfl (fun h4 => ?_) (fun h4 => ?_)
      · try simp only [bs] at h4
        refine Tr.skip ?_
        refine Tr.thenN ?_
        refine Tr.seq ?_
        refine Tr.block ?_
        refine Tr.seq ?_
        refine Tr.region ?_
        refine Tr.q (QS.assign rfl) rfl ?_
        refine Tr.nil ?_
        refine Tr.thenN ?_
        refine Tr.block ?_
        refine Tr.loop (ι := Nat) (fun j => j ≤ k ∧ (l.take j).any (fun x => meetP (spaceP x) (spaceP (l.getD k default))) = false) (fun _ => _) (fun j => []) (fun j => [(6, .int .i64 (j : Nat))]) (fun j => k - j) 0 ⟨Nat.zero_le _, rfl⟩ (.cons (by first | rfl | exact lookI rfl (by omega) | exact lookI rfl (by simp) | exact lookB rfl (by simp)) Front.nil) (by repeat' (first | exact Pick.nil _ | exact Del.here _ | apply Pick.cons | apply Del.there)) rfl (fun j hi m hm => ?_)
        replace hi : j ≤ k ∧ (l.take j).any (fun x => meetP (spaceP x) (spaceP (l.getD k default))) = false := hi
        replace hm : m = k - j := hm
        change Tr _ _ [] ([(6, .int .i64 (j : Nat))] ++ _) _
        obtain ⟨hj1, hj2⟩ := hi
        have hmi := meet_iff (l.getD j default) (l.getD k default)
        refine Tr.seq ?_
        refine Tr.seq ?_
        refine Tr.region ?_
        refine Tr.q (QS.move rfl) rfl ?_
        refine Tr.q (QS.move rfl) rfl ?_
        refine Tr.q (QS.lss rfl rfl) rfl ?_
        refine Tr.nil ?_
        refine Tr.thenN ?_
        refine Tr.cond rfl (fun h5 => ?_) (fun h5 => ?_)
        · try simp only [bs] at h5
          refine Tr.skip ?_
          refine Tr.thenN ?_
          refine Tr.seq ?_
          refine Tr.block ?_
          refine Tr.seq ?_
          refine Tr.regionQ HLF.mixed (by kernel_rfl) ?_
          refine TrQ.q (QS.move rfl) rfl ?_
          refine TrQ.q (QS.move rfl) rfl ?_
          refine TrQ.q (QS.idxN rfl rfl (by assumption) Try.underlying22 Try.sizeOf59 (by rfl) (by omega)) rfl ?_
          refine TrQ.q (QS.fieldAddr (off := 2) (ft := 54) rfl Try.underlying59 rfl rfl Try.sizeOf54 (by decide)) rfl ?_
          refine TrQ.q (QS.elF rfl (by assumption) Try.isAgg54 (by omega) (by rfl)) rfl ?_
          refine TrQ.q (QS.lenNil rfl Try.underlying54) rfl ?_
          refine TrQ.q (QS.gtr rfl rfl) rfl ?_
          refine TrQ.q (QS.move rfl) rfl ?_
          apply TrQ.andP
          · exact (rfl : _ = (8, 40, 48))
          · exact rfl
          · intro hT6; have hT6' := hT6
            try simp only [bs] at hT6'
            refine TrQ.gq rfl rfl hT6 (QS.move rfl) rfl ?_
            refine TrQ.gq rfl rfl hT6 (QS.move rfl) rfl ?_
            refine TrQ.gq rfl rfl hT6 (QS.idxN rfl rfl (by assumption) Try.underlying22 Try.sizeOf59 (by rfl) (by omega)) rfl ?_
            refine TrQ.gq rfl rfl hT6 (QS.fieldAddr (off := 2) (ft := 54) rfl Try.underlying59 rfl rfl Try.sizeOf54 (by decide)) rfl ?_
            refine TrQ.gq rfl rfl hT6 (QS.elF rfl (by assumption) Try.isAgg54 (by omega) (by rfl)) rfl ?_
            refine TrQ.gq rfl rfl hT6 (QS.lenNil rfl Try.underlying54) rfl ?_
            refine TrQ.gq rfl rfl hT6 (QS.gtr rfl rfl) rfl ?_
            refine TrQ.q (QS.pickT rfl hT6 rfl) rfl ?_
            exact TrQ.end (Sub.cons rfl (Sub.dropN 8 (by kernel_rfl) rfl))
          · intro hF6
            refine TrQ.gskip rfl rfl hF6 rfl ?_
            refine TrQ.gskip rfl rfl hF6 rfl ?_
            refine TrQ.gskip rfl rfl hF6 rfl ?_
            refine TrQ.gskip rfl rfl hF6 rfl ?_
            refine TrQ.gskip rfl rfl hF6 rfl ?_
            refine TrQ.gskip rfl rfl hF6 rfl ?_
            refine TrQ.gskip rfl rfl hF6 rfl ?_
            refine TrQ.q (QS.pickF rfl hF6 rfl) rfl ?_
            exact TrQ.end (Sub.cons rfl (Sub.dropN 8 (by kernel_rfl) rfl))
          refine TrQ.q (QS.move rfl) rfl ?_
          apply TrQ.andP
          · exact (rfl : _ = (13, 49, 62))
          · exact rfl
          · intro hT7; have hT7' := hT7
            try simp only [bs] at hT7'
            refine TrQ.gq rfl rfl hT7 (QS.move rfl) rfl ?_
            refine TrQ.gq rfl rfl hT7 (QS.move rfl) rfl ?_
            refine TrQ.gq rfl rfl hT7 (QS.idxN rfl rfl (by assumption) Try.underlying22 Try.sizeOf59 (by rfl) (by omega)) rfl ?_
            refine TrQ.gq rfl rfl hT7 (QS.fieldAddr (off := 1) (ft := 23) rfl Try.underlying59 rfl rfl Try.sizeOf23 (by decide)) rfl ?_
            refine TrQ.gq rfl rfl hT7 (QS.elF rfl (by assumption) Try.isAgg23 (by omega) (by rfl)) rfl ?_
            refine TrQ.gq rfl rfl hT7 (QS.cvt32toI rfl Try.underlying23 Try.underlying3) rfl ?_
            refine TrQ.gq rfl rfl hT7 (QS.move rfl) rfl ?_
            refine TrQ.gq rfl rfl hT7 (QS.move rfl) rfl ?_
            refine TrQ.gq rfl rfl hT7 (QS.idxN rfl rfl (by assumption) Try.underlying22 Try.sizeOf59 (by rfl) (by omega)) rfl ?_
            refine TrQ.gq rfl rfl hT7 (QS.elA rfl (by assumption) Try.isAgg59 Try.sizeOf59 (by rfl) (by omega)) rfl ?_
            refine TrQ.gq rfl rfl hT7 (QS.call rfl Try.call82 (fun w hw => refEnd_any (l.getD j default) w (hB.at (by omega)))) rfl ?_
            refine TrQ.gq rfl rfl hT7 (QS.lss rfl rfl) rfl ?_
            refine TrQ.q (QS.pickT rfl hT7 rfl) rfl ?_
            exact TrQ.end (Sub.cons rfl (Sub.dropN 13 (by kernel_rfl) rfl))
          · intro hF7
            refine TrQ.gskip rfl rfl hF7 rfl ?_
            refine TrQ.gskip rfl rfl hF7 rfl ?_
            refine TrQ.gskip rfl rfl hF7 rfl ?_
            refine TrQ.gskip rfl rfl hF7 rfl ?_
            refine TrQ.gskip rfl rfl hF7 rfl ?_
            refine TrQ.gskip rfl rfl hF7 rfl ?_
            refine TrQ.gskip rfl rfl hF7 rfl ?_
            refine TrQ.gskip rfl rfl hF7 rfl ?_
            refine TrQ.gskip rfl rfl hF7 rfl ?_
            refine TrQ.gskip rfl rfl hF7 rfl ?_
            refine TrQ.gskip rfl rfl hF7 rfl ?_
            refine TrQ.gskip rfl rfl hF7 rfl ?_
            refine TrQ.q (QS.pickF rfl hF7 rfl) rfl ?_
            exact TrQ.end (Sub.cons rfl (Sub.dropN 13 (by kernel_rfl) rfl))
          refine TrQ.q (QS.move rfl) rfl ?_
          apply TrQ.andP
          · exact (rfl : _ = (13, 63, 76))
          · exact rfl
          · intro hT8; have hT8' := hT8
            try simp only [bs] at hT8'
            refine TrQ.gq rfl rfl hT8 (QS.move rfl) rfl ?_
            refine TrQ.gq rfl rfl hT8 (QS.move rfl) rfl ?_
            refine TrQ.gq rfl rfl hT8 (QS.idxN rfl rfl (by assumption) Try.underlying22 Try.sizeOf59 (by rfl) (by omega)) rfl ?_
            refine TrQ.gq rfl rfl hT8 (QS.fieldAddr (off := 1) (ft := 23) rfl Try.underlying59 rfl rfl Try.sizeOf23 (by decide)) rfl ?_
            refine TrQ.gq rfl rfl hT8 (QS.elF rfl (by assumption) Try.isAgg23 (by omega) (by rfl)) rfl ?_
            refine TrQ.gq rfl rfl hT8 (QS.cvt32toI rfl Try.underlying23 Try.underlying3) rfl ?_
            refine TrQ.gq rfl rfl hT8 (QS.move rfl) rfl ?_
            refine TrQ.gq rfl rfl hT8 (QS.move rfl) rfl ?_
            refine TrQ.gq rfl rfl hT8 (QS.idxN rfl rfl (by assumption) Try.underlying22 Try.sizeOf59 (by rfl) (by omega)) rfl ?_
            refine TrQ.gq rfl rfl hT8 (QS.elA rfl (by assumption) Try.isAgg59 Try.sizeOf59 (by rfl) (by omega)) rfl ?_
            refine TrQ.gq rfl rfl hT8 (QS.call rfl Try.call82 (fun w hw => refEnd_any (l.getD k default) w (hB.at (by omega)))) rfl ?_
            refine TrQ.gq rfl rfl hT8 (QS.lss rfl rfl) rfl ?_
            refine TrQ.q (QS.pickT rfl hT8 rfl) rfl ?_
            exact TrQ.end (Sub.cons rfl (Sub.dropN 13 (by kernel_rfl) rfl))
          · intro hF8
            refine TrQ.gskip rfl rfl hF8 rfl ?_
            refine TrQ.gskip rfl rfl hF8 rfl ?_
            refine TrQ.gskip rfl rfl hF8 rfl ?_
            refine TrQ.gskip rfl rfl hF8 rfl ?_
            refine TrQ.gskip rfl rfl hF8 rfl ?_
            refine TrQ.gskip rfl rfl hF8 rfl ?_
            refine TrQ.gskip rfl rfl hF8 rfl ?_
            refine TrQ.gskip rfl rfl hF8 rfl ?_
            refine TrQ.gskip rfl rfl hF8 rfl ?_
            refine TrQ.gskip rfl rfl hF8 rfl ?_
            refine TrQ.gskip rfl rfl hF8 rfl ?_
            refine TrQ.gskip rfl rfl hF8 rfl ?_
            refine TrQ.q (QS.pickF rfl hF8 rfl) rfl ?_
            exact TrQ.end (Sub.cons rfl (Sub.dropN 13 (by kernel_rfl) rfl))
          refine TrQ.nil ?_
          refine Tr.thenN ?_
          refine Tr.cond rfl (fun h9 => ?_) (fun h9 => ?_)
          · try simp only [bs] at h9
            refine Tr.seq ?_
            refine Tr.region ?_
            refine Tr.q (QS.assign rfl) rfl ?_
            refine Tr.nil ?_
            refine Tr.thenN ?_
            refine Tr.ret ?_
            refine Tr.inR ?_
            refine Tr.thenR ?_
            refine Tr.thenR ?_
            refine Tr.inR ?_
            refine Tr.inR ?_
            refine Tr.thenR ?_
            refine Tr.thenR ?_
            refine Tr.inR ?_
            refine Tr.thenR ?_
            refine Tr.ret1 Try.results52 rfl (fun w' hw => ?_)
            have hov : overP l k = true := List.any_eq_true.2 ⟨l.getD j default, by rw [List.mem_take_iff_getElem]; exact ⟨j, by omega, by simp [List.getD_eq_getElem?_getD, show j < l.length by omega]⟩, hmi.2 (by omega)⟩
            exact ⟨by rw [check_2 (k := k) (by assumption) hz1 (by omega) hk2 hov], hw.below (Bg.le.refl _)⟩
          · try simp only [bs] at h9
            refine Tr.skip ?_
            refine Tr.inN ?_
            refine Tr.thenN ?_
            refine Tr.region ?_
            refine Tr.q (QS.move rfl) rfl ?_
            refine Tr.q (QS.addI rfl rfl (by omega)) rfl ?_
            refine Tr.q (QS.assign rfl) rfl ?_
            refine Tr.nil ?_
            refine Tr.thenN ?_
            have hmf : meetP (spaceP (l.getD j default)) (spaceP (l.getD k default)) = false := by rw [← Bool.not_eq_true, hmi]; omega
            apply Tr.again (j + 1)
            · exact rfl
            · exact (.cons (by first | rfl | exact lookI rfl (by omega) | exact lookI rfl (by simp) | exact lookB rfl (by simp)) Front.nil)
            · exact SubX.dropN 20 (by kernel_rfl) rfl
            · exact (by repeat' (first | exact Pick.nil _ | exact Del.here _ | apply Pick.cons | apply Del.there))
            · exact ⟨by omega, by rw [any_take_succ (by omega), hj2, hmf]; rfl⟩
            · exact (by (try dsimp only); omega)
        · try simp only [bs] at h5
          refine Tr.exit ?_
          refine Tr.thenE ?_
          refine Tr.thenE ?_
          refine Tr.inHit ?_
          refine Tr.inN ?_
          refine Tr.thenN ?_
          refine Tr.region ?_
          refine Tr.q (QS.move rfl) rfl ?_
          refine Tr.q (QS.addI rfl rfl (by omega)) rfl ?_
          refine Tr.q (QS.assign rfl) rfl ?_
          refine Tr.nil ?_
          refine Tr.thenN ?_
          have hz : overP l k = false := by obtain rfl : j = k := (by omega); exact hj2
          apply Tr.again (k + 1)
          · exact rfl
          · exact (.cons (by first | rfl | exact lookI rfl (by omega) | exact lookI rfl (by simp) | exact lookB rfl (by simp)) Front.nil)
          · exact SubX.dropN 13 (by kernel_rfl) rfl
          · exact (by repeat' (first | exact Pick.nil _ | exact Del.here _ | apply Pick.cons | apply Del.there))
          · exact ⟨by omega, by rw [firstP_next (by omega) (by rw [if_neg (by rw [hz]; decide)]), hk2]⟩
          · exact (by (try dsimp only); omega)
      · try simp only [bs] at h4
        refine Tr.exit ?_
        refine Tr.thenE ?_
        refine Tr.thenE ?_
        refine Tr.inHit ?_
        refine Tr.thenN ?_
        refine Tr.seq ?_
        refine Tr.region ?_
        refine Tr.q (QS.assign rfl) rfl ?_
        refine Tr.nil ?_
        refine Tr.thenN ?_
        refine Tr.ret ?_
        refine Tr.ret1 Try.results52 rfl (fun w' hw => ?_)
        exact ⟨by rw [check_3 (by assumption) hz1 (by rw [← hk2]; exact firstP_zero (by omega))], hw.below (Bg.le.refl _)⟩
end Go.Proofs.Ytfnedefgepjbpaa
namespace Go.Proofs.Ytfnedefgepjbpaa
open Go Go.HL Go.RowKit
set_option maxRecDepth 100000 in
set_option maxHeartbeats 2000000 in
theorem isReg_any (r : Int) (w : World) :
    Calls Try.prog 71 #[.int .i64 r] w (fun e w' => e = .returned (.bool (regP r)) ∧ Ext w w') := by
  refine enter Try.func71 rfl Try.ntmps71 rfl ?_
  refine Tr.seq ?_
  refine Tr.region ?_
  refine Tr.q (QS.assign rfl) rfl ?_
  refine Tr.nil ?_
  refine Tr.thenN ?_
  refine Tr.seq ?_
  refine Tr.region ?_
  refine Tr.q (QS.move rfl) rfl ?_
  refine Tr.q (QS.geq rfl rfl) rfl ?_
  refine Tr.q (QS.move rfl) rfl ?_
  apply Tr.andP
  · exact (rfl : _ = (3, 5, 8))
  · exact rfl
  · intro hT1; have hT1' := hT1
    try simp only [bs] at hT1'
    refine Tr.gq rfl rfl hT1 (QS.move rfl) rfl ?_
    refine Tr.gq rfl rfl hT1 (QS.lss rfl rfl) rfl ?_
    refine Tr.q (QS.pickT rfl hT1 rfl) rfl ?_
    refine Tr.nil (Tr.thenN ?_)
    exact Tr.endX (Sub.cons rfl (Sub.dropN 3 (by kernel_rfl) rfl))
  · intro hF1
    refine Tr.gskip rfl rfl hF1 rfl ?_
    refine Tr.gskip rfl rfl hF1 rfl ?_
    refine Tr.q (QS.pickF rfl hF1 rfl) rfl ?_
    refine Tr.nil (Tr.thenN ?_)
    exact Tr.endX (Sub.cons rfl (Sub.dropN 3 (by kernel_rfl) rfl))
  refine Tr.q (QS.assign rfl) rfl ?_
  refine Tr.nil ?_
  refine Tr.thenN ?_
  refine Tr.ret ?_
  refine Tr.ret1 Try.results71 rfl (fun w' hw => ?_)
  exact ⟨rfl, hw.below (Bg.le.refl _)⟩
end Go.Proofs.Ytfnedefgepjbpaa
