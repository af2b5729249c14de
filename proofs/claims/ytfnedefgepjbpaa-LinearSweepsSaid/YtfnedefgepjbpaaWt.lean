/- The walks of package linear. -/
import Derived.Test.YtfnedefgepjbpaaWs
import Derived.Test.YtfnedefgepjbpaaWj
import Derived.Test.YtfnedefgepjbpaaHy
import Derived.Test.YtfnedefgepjbpaaTa
set_option linter.unusedSimpArgs false
set_option linter.unusedVariables false
namespace Go.Proofs.Ytfnedefgepjbpaa
open Go Go.HL Go.RowKit
def PosAt (V : Value) (from_ to_ : UInt32) (Fv : Value) (h : Hp) (i : Nat × Nat × Nat × Nat) : Prop := CellsIn h i.1 [V] ∧ CellsIn h i.2.1 [.int .u32 from_.toNat] ∧ CellsIn h i.2.2.1 [.int .u32 to_.toNat] ∧ CellsIn h i.2.2.2 [Fv]
theorem PosAt.mono {V : Value} {from_ to_ : UInt32} {Fv : Value} {h h' : Hp} {i : Nat × Nat × Nat × Nat} (p : PosAt V from_ to_ Fv h i) (hh : Hp.le h h') : PosAt V from_ to_ Fv h' i := ⟨p.1.mono hh, p.2.1.mono hh, p.2.2.1.mono hh, p.2.2.2.mono hh⟩

set_option maxRecDepth 100000 in
set_option maxHeartbeats 2000000 in
theorem nxt_any (l : List Rng) (V : Value) (a : UInt32) (w : World) (hV : Sl (hp w) encRng l V) :
    Calls Try.prog 66 #[V, .int .u32 a.toNat] w (fun e w' => e = .returned (.tuple #[.int .u32 ((nxtP l a).getD 0).toNat, .bool (nxtP l a).isSome]) ∧ Ext w w') := by
  have hV' : Sl (Bg.of w).blk encRng l V := hV
  have hlen := hV.len_le
  refine enter Try.func66 rfl Try.ntmps66 rfl ?_
  refine Tr.seq ?_
  refine Tr.region ?_
  refine Tr.q (QS.assign rfl) rfl ?_
  refine Tr.q (QS.assign rfl) rfl ?_
  refine Tr.nil ?_
  refine Tr.thenN ?_
  refine Tr.seq ?_
  refine Tr.seq ?_
  refine Tr.region ?_
  refine Tr.q (QS.move rfl) rfl ?_
  first | refine Tr.q (QS.len rfl (by assumption) Try.underlying27) rfl ?_ | refine Tr.q (QS.lenRow rfl (by repeat (first | exact List.Mem.head _ | apply List.Mem.tail)) Try.underlying27) rfl ?_ | refine Tr.q (QS.lenNil rfl Try.underlying27) rfl ?_
  refine Tr.q (QS.move rfl) rfl ?_
  refine Tr.nil ?_
  refine Tr.thenN ?_
  refine Tr.block ?_
  refine Tr.loop (ι := Nat) (fun k => k ≤ l.length ∧ nxtP (l.drop k) a = nxtP l a) (fun _ => _) (fun k => []) (fun k => [(10, .int .i64 (k : Nat))]) (fun k => l.length - k) 0 ⟨Nat.zero_le _, rfl⟩ (.cons (by first | rfl | exact lookI rfl (by omega) | exact lookI rfl (by simp) | exact lookB rfl (by simp)) Front.nil) (by repeat' (first | exact Pick.nil _ | exact Del.here _ | apply Pick.cons | apply Del.there)) rfl (fun k hi m hm => ?_)
  replace hi : k ≤ l.length ∧ nxtP (l.drop k) a = nxtP l a := hi
  replace hm : m = l.length - k := hm
  change Tr _ _ [] ([(10, .int .i64 (k : Nat))] ++ _) _
  obtain ⟨hk1, hk2⟩ := hi
  refine Tr.seq ?_
  refine Tr.region ?_
  refine Tr.q (QS.lss rfl rfl) rfl ?_
  refine Tr.nil ?_
  refine Tr.thenN ?_
  refine Tr.seq ?_
  refine Tr.cond rfl (fun h1 => ?_) (fun h1 => ?_)
  · try simp only [bs] at h1
    refine Tr.skip ?_
    refine Tr.thenN ?_
    refine Tr.seq ?_
    refine Tr.block ?_
    refine Tr.seq ?_
    refine Tr.region ?_
    first | refine Tr.q (QS.idxN rfl rfl (by assumption) Try.underlying27 Try.sizeOf61 (by rfl) (by omega)) rfl ?_ | refine Tr.q (QS.idxRowN rfl rfl (by repeat (first | exact List.Mem.head _ | apply List.Mem.tail)) Try.underlying27 Try.sizeOf61 (by rfl) (by omega)) rfl ?_ | refine Tr.q (QS.idx rfl rfl (by assumption) Try.underlying27 Try.sizeOf61 (by rfl) (by omega)) rfl ?_ | refine Tr.q (QS.idxRow rfl rfl (by repeat (first | exact List.Mem.head _ | apply List.Mem.tail)) Try.underlying27 Try.sizeOf61 (by rfl) (by omega)) rfl ?_
    first | refine Tr.q (QS.elA rfl (by assumption) Try.isAgg61 Try.sizeOf61 (by rfl) (by omega)) rfl ?_ | refine Tr.q (QS.elRA rfl (by repeat (first | exact List.Mem.head _ | apply List.Mem.tail)) Try.isAgg61 Try.sizeOf61 (by rfl) (by omega)) rfl ?_
    refine Tr.alloc Try.zeroValue61 rfl rfl (fun b2 => ?_)
    refine Tr.storeW rfl rfl Try.sizeOf61 (by repeat (first | exact Put.here _ | apply Put.there)) (by rfl) (by rfl) (by first | exact List.all_eq_true.1 rfl | exact Enc.one _ _ | exact Enc.one encRng _) rfl ?_
    refine Tr.nil ?_
    refine Tr.thenN ?_
    refine Tr.seq ?_
    refine Tr.region ?_
    refine Tr.q (QS.move rfl) rfl ?_
    refine Tr.q (QS.fieldAddr (off := 1) (ft := 23) rfl Try.underlying61 rfl rfl Try.sizeOf23 (by decide)) rfl ?_
    refine Tr.q (QS.lV rfl Try.isAgg23) rfl ?_
    refine Tr.q (QS.lss32 rfl rfl) rfl ?_
    refine Tr.nil ?_
    refine Tr.thenN ?_
    refine Tr.cond rfl (fun h3 => ?_) (fun h3 => ?_)
    · try simp only [bs] at h3
      refine Tr.seq ?_
      refine Tr.region ?_
      refine Tr.q (QS.move rfl) rfl ?_
      refine Tr.q (QS.fieldAddr (off := 0) (ft := 23) rfl Try.underlying61 rfl rfl Try.sizeOf23 (by decide)) rfl ?_
      refine Tr.q (QS.lV rfl Try.isAgg23) rfl ?_
      refine Tr.q (QS.max32 rfl rfl) rfl ?_
      refine Tr.q (QS.assign rfl) rfl ?_
      refine Tr.q (QS.assign rfl) rfl ?_
      refine Tr.nil ?_
      refine Tr.thenN ?_
      refine Tr.ret ?_
      refine Tr.inR ?_
      refine Tr.thenR ?_
      refine Tr.thenR ?_
      refine Tr.inR ?_
      refine Tr.thenR ?_
      refine Tr.ret2 Try.results66 rfl rfl (fun w' hw => ?_)
      have hst : nxtP l a = some (if a < (l.getD k default).lo then (l.getD k default).lo else a) := by rw [← hk2, drop_cons (k := k) (by omega), nxtP, if_pos (by assumption)]
      exact ⟨by rw [hst]; rfl, hw.below (Bg.le.refl _)⟩
    · try simp only [bs] at h3
      refine Tr.skip ?_
      refine Tr.inN ?_
      refine Tr.thenN ?_
      refine Tr.region ?_
      first | refine Tr.q (QS.addI rfl rfl (by omega)) rfl ?_ | refine Tr.q (QS.add rfl rfl) rfl ?_
      refine Tr.q (QS.move rfl) rfl ?_
      refine Tr.nil ?_
      refine Tr.thenN ?_
      have hst : nxtP (l.drop (k + 1)) a = nxtP l a := by rw [← hk2, drop_cons (k := k) (by omega), nxtP, if_neg (by assumption)]
      apply Tr.again (k + 1)
      · exact rfl
      · exact (.cons (by first | rfl | exact lookI rfl (by omega) | exact lookI rfl (by simp) | exact lookB rfl (by simp)) Front.nil)
      · exact SubX.dropN 11 (by kernel_rfl) rfl
      · exact (by repeat' (first | exact Pick.nil _ | exact Del.here _ | apply Pick.cons | apply Del.there))
      · exact ⟨by omega, hst⟩
      · exact (by (try dsimp only); omega)
  · try simp only [bs] at h1
    refine Tr.exit ?_
    refine Tr.thenE ?_
    refine Tr.thenE ?_
    refine Tr.inHit ?_
    refine Tr.thenN ?_
    refine Tr.seq ?_
    refine Tr.region ?_
    refine Tr.q (QS.assign rfl) rfl ?_
    refine Tr.q (QS.assign rfl) rfl ?_
    refine Tr.nil ?_
    refine Tr.thenN ?_
    refine Tr.ret ?_
    refine Tr.ret2 Try.results66 rfl rfl (fun w' hw => ?_)
    have hst : nxtP l a = none := by rw [← hk2, List.drop_of_length_le (by omega)]; rfl
    exact ⟨by rw [hst]; rfl, hw.below (Bg.le.refl _)⟩

set_option maxRecDepth 100000 in
set_option maxHeartbeats 2000000 in
theorem win_any (l : List SecV) (V : Value) (a to_ : UInt32) (H : Hp) (w : World) (hH : Hp.le H (hp w)) (hV : Sl H encSec l V) (hB : SecB l) (hD : DataIn H l) :
    Calls Try.prog 29 #[V, .int .u32 a.toNat, .int .u32 to_.toNat] w (fun e w' => ∃ V', e = .returned V' ∧ Ext w w' ∧ Sl H encU8 (winP l a to_) V') := by
  have hV' : Sl (Bg.of w).blk encSec l V := hV.mono hH
  have hlen := hB.1
  have hf := findP_lt (l := l) (a := a)
  have ha := a.toNat_lt
  have ht := to_.toNat_lt
  refine enter Try.func29 rfl Try.ntmps29 rfl ?_
  refine Tr.seq ?_
  refine Tr.region ?_
  refine Tr.q (QS.assign rfl) rfl ?_
  refine Tr.nil ?_
  refine Tr.thenN ?_
  refine Tr.seq ?_
  refine Tr.region ?_
  refine Tr.q (QS.move rfl) rfl ?_
  refine Tr.q (QS.move rfl) rfl ?_
  refine Tr.q (QS.call rfl Try.call20 (fun w hw => find_any l V a w (hw.slF hV') hB)) rfl ?_
  refine Tr.q (QS.assign rfl) rfl ?_
  refine Tr.nil ?_
  refine Tr.thenN ?_
  refine Tr.seq ?_
  refine Tr.seq ?_
  refine Tr.region ?_
  refine Tr.q (QS.move rfl) rfl ?_
  refine Tr.q (QS.lss rfl rfl) rfl ?_
  refine Tr.nil ?_
  refine Tr.thenN ?_
  refine Tr.cond rfl (fun h1 => ?_) (fun h1 => ?_)
  · try simp only [bs] at h1
    refine Tr.seq ?_
    refine Tr.region ?_
    refine Tr.q (QS.assign rfl) rfl ?_
    refine Tr.nil ?_
    refine Tr.thenN ?_
    refine Tr.ret ?_
    refine Tr.thenR ?_
    refine Tr.ret1 Try.results29 rfl (fun w' hw => ?_)
    exact ⟨_, rfl, hw.below (Bg.le.refl _), by unfold winP; rw [if_pos (by assumption)]; exact Sl.nil _ _⟩
  · try simp only [bs] at h1
    refine Tr.skip ?_
    refine Tr.thenN ?_
    refine Tr.seq ?_
    have hin := inS_iff.1 (findP_in (l := l) (a := a) (by omega))
    have hen : endP (l.getD (findP l a).toNat default) ≤ ((l.getD (findP l a).toNat default).addr.toNat : Int) + (l.getD (findP l a).toNat default).data.length := by unfold endP; omega
    have hsub : (a - (l.getD (findP l a).toNat default).addr).toNat = a.toNat - (l.getD (findP l a).toNat default).addr.toNat := UInt32.toNat_sub_of_le _ _ (UInt32.le_iff_toNat_le.2 hin.1)
    have hdl := hB.at (k := (findP l a).toNat) (by omega)
    have hDk0 : Sl H encU8 (l.getD (findP l a).toNat default).data (.slice (l.getD (findP l a).toNat default).dp (l.getD (findP l a).toNat default).data.length (l.getD (findP l a).toNat default).dc) := hD _ (mem_getD (by omega))
    have hDk := hDk0.mono (show Hp.le H (Bg.of w).blk from hH)
    refine Tr.regionQ HLF.mixed (by kernel_rfl) ?_
    refine TrQ.q (QS.move rfl) rfl ?_
    refine TrQ.q (QS.move rfl) rfl ?_
    first | refine TrQ.q (QS.idxN rfl rfl (by assumption) Try.underlying22 Try.sizeOf59 (by rfl) (by omega)) rfl ?_ | refine TrQ.q (QS.idxRowN rfl rfl (by repeat (first | exact List.Mem.head _ | apply List.Mem.tail)) Try.underlying22 Try.sizeOf59 (by rfl) (by omega)) rfl ?_ | refine TrQ.q (QS.idx rfl rfl (by assumption) Try.underlying22 Try.sizeOf59 (by rfl) (by omega)) rfl ?_ | refine TrQ.q (QS.idxRow rfl rfl (by repeat (first | exact List.Mem.head _ | apply List.Mem.tail)) Try.underlying22 Try.sizeOf59 (by rfl) (by omega)) rfl ?_
    refine TrQ.q (QS.fieldAddr (off := 2) (ft := 54) rfl Try.underlying59 rfl rfl Try.sizeOf54 (by decide)) rfl ?_
    first | refine TrQ.q (QS.elF rfl (by assumption) Try.isAgg54 (by omega) (by rfl)) rfl ?_ | refine TrQ.q (QS.elRF rfl (by repeat (first | exact List.Mem.head _ | apply List.Mem.tail)) Try.isAgg54 (by omega) (by rfl)) rfl ?_
    refine TrQ.q (QS.move rfl) rfl ?_
    refine TrQ.q (QS.move rfl) rfl ?_
    refine TrQ.q (QS.move rfl) rfl ?_
    first | refine TrQ.q (QS.idxN rfl rfl (by assumption) Try.underlying22 Try.sizeOf59 (by rfl) (by omega)) rfl ?_ | refine TrQ.q (QS.idxRowN rfl rfl (by repeat (first | exact List.Mem.head _ | apply List.Mem.tail)) Try.underlying22 Try.sizeOf59 (by rfl) (by omega)) rfl ?_ | refine TrQ.q (QS.idx rfl rfl (by assumption) Try.underlying22 Try.sizeOf59 (by rfl) (by omega)) rfl ?_ | refine TrQ.q (QS.idxRow rfl rfl (by repeat (first | exact List.Mem.head _ | apply List.Mem.tail)) Try.underlying22 Try.sizeOf59 (by rfl) (by omega)) rfl ?_
    refine TrQ.q (QS.fieldAddr (off := 1) (ft := 23) rfl Try.underlying59 rfl rfl Try.sizeOf23 (by decide)) rfl ?_
    first | refine TrQ.q (QS.elF rfl (by assumption) Try.isAgg23 (by omega) (by rfl)) rfl ?_ | refine TrQ.q (QS.elRF rfl (by repeat (first | exact List.Mem.head _ | apply List.Mem.tail)) Try.isAgg23 (by omega) (by rfl)) rfl ?_
    refine TrQ.q (QS.sub32 rfl rfl) rfl ?_
    first | refine TrQ.q (QS.slice (lv := some (_, _)) (hv := none) rfl (by assumption) rfl rfl Try.underlying54 Try.sizeOf5 (by rfl) (by simp only [loOf, hiOf] <;> first | omega | assumption | (simp only [NatCast.natCast, Int.ofNat_eq_natCast]; omega)) (by simp only [loOf, hiOf] <;> first | omega | assumption | (simp only [NatCast.natCast, Int.ofNat_eq_natCast]; omega)) (by simp only [loOf, hiOf] <;> first | omega | assumption | (simp only [NatCast.natCast, Int.ofNat_eq_natCast]; omega))) rfl ?_ | refine TrQ.q (QS.sliceRow (lv := some (_, _)) (hv := none) rfl (by repeat (first | exact List.Mem.head _ | apply List.Mem.tail)) rfl rfl Try.underlying54 Try.sizeOf5 (by rfl) (by simp only [loOf, hiOf] <;> first | omega | assumption | (simp only [NatCast.natCast, Int.ofNat_eq_natCast]; omega)) (by simp only [loOf, hiOf] <;> first | omega | assumption | (simp only [NatCast.natCast, Int.ofNat_eq_natCast]; omega)) (by simp only [loOf, hiOf] <;> first | omega | assumption | (simp only [NatCast.natCast, Int.ofNat_eq_natCast]; omega))) rfl ?_
    refine TrQ.q (QS.assign rfl) rfl ?_
    refine TrQ.nil ?_
    refine Tr.thenN ?_
    refine Tr.seq ?_
    have hs1 := Sl.resl (l := (a - (l.getD (findP l a).toNat default).addr).toNat) (h := (l.getD (findP l a).toNat default).data.length) hDk (by omega) (Nat.le_refl _)
    rw [List.take_length] at hs1
    have hs1l : (List.drop (a - (l.getD (findP l a).toNat default).addr).toNat (l.getD (findP l a).toNat default).data).length = (l.getD (findP l a).toNat default).data.length - (a - (l.getD (findP l a).toNat default).addr).toNat := List.length_drop
    refine Tr.region ?_
    refine Tr.q (QS.move rfl) rfl ?_
    first | refine Tr.q (QS.len rfl (by assumption) Try.underlying54) rfl ?_ | refine Tr.q (QS.lenRow rfl (by repeat (first | exact List.Mem.head _ | apply List.Mem.tail)) Try.underlying54) rfl ?_ | refine Tr.q (QS.lenNil rfl Try.underlying54) rfl ?_
    first | refine Tr.q (QS.cvtIn rfl Try.underlying3 Try.underlying76 (IntWalk.u64_in _ (by omega))) rfl ?_ | refine Tr.q (QS.cvt rfl Try.underlying3 Try.underlying76) rfl ?_
    refine Tr.q (QS.move rfl) rfl ?_
    refine Tr.q (QS.move rfl) rfl ?_
    refine Tr.q (QS.sub32 rfl rfl) rfl ?_
    refine Tr.q (QS.cvt32toU rfl Try.underlying23 Try.underlying76) rfl ?_
    refine Tr.q (QS.move rfl) rfl ?_
    refine Tr.q (QS.cvt32toU rfl Try.underlying23 Try.underlying76) rfl ?_
    first | refine Tr.q (QS.subU rfl rfl (by omega)) rfl ?_ | refine Tr.q (QS.sub rfl rfl) rfl ?_
    refine Tr.q (QS.min4 rfl rfl rfl rfl) rfl ?_
    refine Tr.q (QS.assign rfl) rfl ?_
    refine Tr.nil ?_
    refine Tr.thenN ?_
    refine Tr.seq ?_
    refine Tr.region ?_
    refine Tr.q (QS.move rfl) rfl ?_
    refine Tr.q (QS.move rfl) rfl ?_
    first | refine Tr.q (QS.slice (lv := none) (hv := some (_, _)) rfl (by assumption) rfl rfl Try.underlying54 Try.sizeOf5 (by rfl) (by simp only [loOf, hiOf] <;> first | omega | assumption | (simp only [NatCast.natCast, Int.ofNat_eq_natCast]; omega)) (by simp only [loOf, hiOf] <;> first | omega | assumption | (simp only [NatCast.natCast, Int.ofNat_eq_natCast]; omega)) (by simp only [loOf, hiOf] <;> first | omega | assumption | (simp only [NatCast.natCast, Int.ofNat_eq_natCast]; omega))) rfl ?_ | refine Tr.q (QS.sliceRow (lv := none) (hv := some (_, _)) rfl (by repeat (first | exact List.Mem.head _ | apply List.Mem.tail)) rfl rfl Try.underlying54 Try.sizeOf5 (by rfl) (by simp only [loOf, hiOf] <;> first | omega | assumption | (simp only [NatCast.natCast, Int.ofNat_eq_natCast]; omega)) (by simp only [loOf, hiOf] <;> first | omega | assumption | (simp only [NatCast.natCast, Int.ofNat_eq_natCast]; omega)) (by simp only [loOf, hiOf] <;> first | omega | assumption | (simp only [NatCast.natCast, Int.ofNat_eq_natCast]; omega))) rfl ?_
    refine Tr.q (QS.assign rfl) rfl ?_
    refine Tr.nil ?_
    refine Tr.thenN ?_
    refine Tr.ret ?_
    refine Tr.ret1 Try.results29 rfl (fun w' hw => ?_)
    have hs3 := Sl.resl (l := (a - (l.getD (findP l a).toNat default).addr).toNat) (h := (l.getD (findP l a).toNat default).data.length) hDk0 (by omega) (Nat.le_refl _)
    rw [List.take_length] at hs3
    have hs2 := Sl.resl (l := 0) (h := (winN (l.getD (findP l a).toNat default) a to_).toNat) hs3 (Nat.zero_le _) (by unfold winN; omega)
    rw [List.drop_zero] at hs2
    exact ⟨_, rfl, hw.below (Bg.le.refl _), by unfold winP; rw [if_neg (by assumption)]; exact hs2⟩

set_option maxRecDepth 100000 in
set_option maxHeartbeats 2000000 in
theorem dec1_any (l : List SecV) (V : Value) (a to_ : UInt32) (bl bt : Nat) (w : World) (hV : Sl (hp w) encSec l V) (hB : SecB l) (hD : DataIn (hp w) l) (c1 : CellsIn (hp w) bl [V]) (c2 : CellsIn (hp w) bt [.int .u32 to_.toNat]) :
    Calls Try.prog 27 #[.int .u32 a.toNat, .pointer (some ⟨bl, 0, none⟩), .pointer (some ⟨bt, 0, none⟩)] w (fun e w' => e = .returned (.tuple #[.agg (encIns.enc (decW l to_ a).1).toArray, .bool (okW l to_ a)]) ∧ Ext w w') := by
  have hV' : Sl (Bg.of w).blk encSec l V := hV
  have hlen := hB.1
  have c1' : CellsIn (Bg.of w).blk bl [V] := c1
  have c2' : CellsIn (Bg.of w).blk bt [.int .u32 to_.toNat] := c2
  refine enter Try.func27 rfl Try.ntmps27 rfl ?_
  refine Tr.seq ?_
  refine Tr.region ?_
  refine Tr.alloc Try.zeroValue36 rfl rfl (fun b1 => ?_)
  refine Tr.q (QS.assign rfl) rfl ?_
  refine Tr.nil ?_
  refine Tr.thenN ?_
  refine Tr.seq ?_
  refine Tr.region ?_
  first | refine Tr.q (QS.loadV rfl (by repeat (first | exact List.Mem.head _ | apply List.Mem.tail)) Try.isAgg22 (by rfl)) rfl ?_ | refine Tr.q (QS.loadC rfl (by assumption) Try.isAgg22) rfl ?_ | refine Tr.q (QS.loadCF rfl (by assumption) Try.isAgg22 (by rfl)) rfl ?_ | refine Tr.q (QS.el1 rfl (by assumption) Try.isAgg22 (by omega) (by rfl)) rfl ?_ | refine Tr.q (QS.elF rfl (by assumption) Try.isAgg22 (by omega) (by rfl)) rfl ?_ | refine Tr.q (QS.elR1 rfl (by repeat (first | exact List.Mem.head _ | apply List.Mem.tail)) Try.isAgg22 (by omega) (by rfl)) rfl ?_ | refine Tr.q (QS.elRF rfl (by repeat (first | exact List.Mem.head _ | apply List.Mem.tail)) Try.isAgg22 (by omega) (by rfl)) rfl ?_
  refine Tr.q (QS.move rfl) rfl ?_
  first | refine Tr.q (QS.loadV rfl (by repeat (first | exact List.Mem.head _ | apply List.Mem.tail)) Try.isAgg23 (by rfl)) rfl ?_ | refine Tr.q (QS.loadC rfl (by assumption) Try.isAgg23) rfl ?_ | refine Tr.q (QS.loadCF rfl (by assumption) Try.isAgg23 (by rfl)) rfl ?_ | refine Tr.q (QS.el1 rfl (by assumption) Try.isAgg23 (by omega) (by rfl)) rfl ?_ | refine Tr.q (QS.elF rfl (by assumption) Try.isAgg23 (by omega) (by rfl)) rfl ?_ | refine Tr.q (QS.elR1 rfl (by repeat (first | exact List.Mem.head _ | apply List.Mem.tail)) Try.isAgg23 (by omega) (by rfl)) rfl ?_ | refine Tr.q (QS.elRF rfl (by repeat (first | exact List.Mem.head _ | apply List.Mem.tail)) Try.isAgg23 (by omega) (by rfl)) rfl ?_
  refine Tr.callBg (fun V : Value => V) (R := fun _ V => Sl (hp w) encU8 (winP l a to_) V) (fun h h' i hh r => r) rfl Try.call29 (fun w2 hw => win_any l V a to_ (hp w) w2 hw.bg hV hB hD) rfl (fun V7 F7 hF7 hR7 => ?_)
  refine Tr.q (QS.move rfl) rfl ?_
  refine Tr.q (QS.call rfl Try.call28 (fun w hw => decode_isa (winP l a to_) _ a w (hw.slF (hR7.mono hF7.blk)))) rfl ?_
  refine Tr.q (QS.move rfl) rfl ?_
  refine Tr.q (QS.extract rfl rfl) rfl ?_
  refine Tr.q (QS.extract rfl rfl) rfl ?_
  refine Tr.alloc Try.zeroValue36 rfl rfl (fun b2 => ?_)
  refine Tr.storeW rfl rfl Try.sizeOf36 (by repeat (first | exact Put.here _ | apply Put.there)) (by rfl) (by rfl) (by first | exact List.all_eq_true.1 rfl | exact Enc.one _ _ | exact Enc.one encIns _) rfl ?_
  refine Tr.q (QS.assign rfl) rfl ?_
  refine Tr.nil ?_
  refine Tr.thenN ?_
  refine Tr.seq ?_
  refine Tr.region ?_
  refine Tr.q (QS.lW rfl Try.isAgg36 Try.sizeOf36) rfl ?_
  refine Tr.q (QS.move rfl) rfl ?_
  refine Tr.q (QS.eql rfl rfl) rfl ?_
  refine Tr.storeW rfl rfl Try.sizeOf36 (by repeat (first | exact Put.here _ | apply Put.there)) (by rfl) (by rfl) (by first | exact List.all_eq_true.1 rfl | exact Enc.one _ _ | exact Enc.one encIns _) rfl ?_
  refine Tr.q (QS.assign rfl) rfl ?_
  refine Tr.nil ?_
  refine Tr.thenN ?_
  refine Tr.ret ?_
  refine Tr.retC2 Try.results27 rfl rfl (by repeat (first | exact List.Mem.head _ | apply List.Mem.tail)) Try.isAgg36 Try.sizeOf36 (by rfl) (fun w' hw => ?_)
  exact ⟨rfl, hw.below hF7⟩

set_option maxRecDepth 100000 in
set_option maxHeartbeats 2000000 in
theorem size1_any (l : List SecV) (V : Value) (a to_ : UInt32) (bl bt bd : Nat) (w : World) (hV : Sl (hp w) encSec l V) (hB : SecB l) (hD : DataIn (hp w) l) (c1 : CellsIn (hp w) bl [V]) (c2 : CellsIn (hp w) bt [.int .u32 to_.toNat]) (c3 : CellsIn (hp w) bd [.func (.func 27) #[] #[.pointer (some ⟨bl, 0, none⟩), .pointer (some ⟨bt, 0, none⟩)]]) :
    Calls Try.prog 30 #[.int .u32 a.toNat, .pointer (some ⟨bd, 0, none⟩)] w (fun e w' => e = .returned (.int .u32 (szW l to_ a).toNat) ∧ Ext w w') := by
  have hV' : Sl (Bg.of w).blk encSec l V := hV
  have hlen := hB.1
  have c3' : CellsIn (Bg.of w).blk bd [.func (.func 27) #[] #[.pointer (some ⟨bl, 0, none⟩), .pointer (some ⟨bt, 0, none⟩)]] := c3
  refine enter Try.func30 rfl Try.ntmps30 rfl ?_
  refine Tr.seq ?_
  refine Tr.region ?_
  refine Tr.q (QS.assign rfl) rfl ?_
  refine Tr.nil ?_
  refine Tr.thenN ?_
  refine Tr.seq ?_
  refine Tr.seq ?_
  refine Tr.region ?_
  first | refine Tr.q (QS.loadV rfl (by repeat (first | exact List.Mem.head _ | apply List.Mem.tail)) Try.isAgg65 (by rfl)) rfl ?_ | refine Tr.q (QS.loadC rfl (by assumption) Try.isAgg65) rfl ?_ | refine Tr.q (QS.loadCF rfl (by assumption) Try.isAgg65 (by rfl)) rfl ?_ | refine Tr.q (QS.el1 rfl (by assumption) Try.isAgg65 (by omega) (by rfl)) rfl ?_ | refine Tr.q (QS.elF rfl (by assumption) Try.isAgg65 (by omega) (by rfl)) rfl ?_ | refine Tr.q (QS.elR1 rfl (by repeat (first | exact List.Mem.head _ | apply List.Mem.tail)) Try.isAgg65 (by omega) (by rfl)) rfl ?_ | refine Tr.q (QS.elRF rfl (by repeat (first | exact List.Mem.head _ | apply List.Mem.tail)) Try.isAgg65 (by omega) (by rfl)) rfl ?_
  refine Tr.q (QS.move rfl) rfl ?_
  refine Tr.q (QS.callV rfl rfl Try.call27 (fun w hw => dec1_any l V a to_ bl bt w (hw.slF hV) hB (hD.mono hw.bg) (c1.mono hw.bg) (c2.mono hw.bg))) rfl ?_
  refine Tr.q (QS.move rfl) rfl ?_
  refine Tr.q (QS.extract rfl rfl) rfl ?_
  refine Tr.q (QS.extract rfl rfl) rfl ?_
  refine Tr.alloc Try.zeroValue36 rfl rfl (fun b1 => ?_)
  refine Tr.storeW rfl rfl Try.sizeOf36 (by repeat (first | exact Put.here _ | apply Put.there)) (by rfl) (by rfl) (by first | exact List.all_eq_true.1 rfl | exact Enc.one _ _ | exact Enc.one encIns _) rfl ?_
  refine Tr.q (QS.assign rfl) rfl ?_
  refine Tr.nil ?_
  refine Tr.thenN ?_
  refine Tr.seq ?_
  refine Tr.region ?_
  refine Tr.q (QS.move rfl) rfl ?_
  refine Tr.nil ?_
  refine Tr.thenN ?_
  refine Tr.cond rfl (fun h2 => ?_) (fun h2 => ?_)
  · try simp only [bs] at h2
    refine Tr.seq ?_
    refine Tr.region ?_
    refine Tr.q (QS.fieldAddr (off := 8) (ft := 3) rfl Try.underlying36 rfl rfl Try.sizeOf3 (by decide)) rfl ?_
    refine Tr.q (QS.lV rfl Try.isAgg3) rfl ?_
    refine Tr.q (QS.cvtTo32 rfl Try.underlying3 Try.underlying23) rfl ?_
    refine Tr.q (QS.assign rfl) rfl ?_
    refine Tr.nil ?_
    refine Tr.thenN ?_
    refine Tr.ret ?_
    refine Tr.thenR ?_
    refine Tr.ret1 Try.results30 rfl (fun w' hw => ?_)
    exact ⟨by unfold szW; rw [if_pos (by assumption)], hw.below (Bg.le.refl _)⟩
  · try simp only [bs] at h2
    refine Tr.skip ?_
    refine Tr.thenN ?_
    refine Tr.seq ?_
    refine Tr.region ?_
    refine Tr.q (QS.assign rfl) rfl ?_
    refine Tr.nil ?_
    refine Tr.thenN ?_
    refine Tr.ret ?_
    refine Tr.ret1 Try.results30 rfl (fun w' hw => ?_)
    exact ⟨by unfold szW; rw [if_neg (by simp_all)]; rfl, hw.below (Bg.le.refl _)⟩

set_option maxRecDepth 100000 in
set_option maxHeartbeats 2000000 in
theorem positions_any (V : Value) (from_ to_ : UInt32) (Fv : Value) (hF1 : Fv.cells.toList = [Fv]) (hF2 : Fv.oneCell' = true) (hV1 : V.cells.toList = [V]) (hV2 : V.oneCell' = true) (w : World) :
    Calls Try.prog 31 #[V, .int .u32 from_.toNat, .int .u32 to_.toNat, Fv] w (fun e w' => ∃ i : Nat × Nat × Nat × Nat, e = .returned (.func (.func 64) #[] #[.pointer (some ⟨i.1, 0, none⟩), .pointer (some ⟨i.2.1, 0, none⟩), .pointer (some ⟨i.2.2.1, 0, none⟩), .pointer (some ⟨i.2.2.2, 0, none⟩)]) ∧ Ext w w' ∧ PosAt V from_ to_ Fv (newHp w w') i) := by
  refine enter Try.func31 rfl Try.ntmps31 rfl ?_
  refine Tr.seq ?_
  refine Tr.region ?_
  refine Tr.box rfl rfl rfl (fun b1 => ?_)
  refine Tr.box rfl rfl rfl (fun b2 => ?_)
  refine Tr.box rfl rfl rfl (fun b3 => ?_)
  refine Tr.box rfl rfl rfl (fun b4 => ?_)
  refine Tr.q (QS.assign rfl) rfl ?_
  refine Tr.nil ?_
  refine Tr.thenN ?_
  refine Tr.seq ?_
  refine Tr.region ?_
  refine Tr.q (QS.makeFunc rfl rfl) rfl ?_
  refine Tr.q (QS.assign rfl) rfl ?_
  refine Tr.nil ?_
  refine Tr.thenN ?_
  refine Tr.ret ?_
  refine Tr.ret1 Try.results31 rfl (fun w' hw => ?_)
  exact ⟨(b1, b2, b3, b4), rfl, hw.below (Bg.le.refl _), hV1 ▸ hw.cellNew rfl (by repeat (first | exact List.Mem.head _ | apply List.Mem.tail)), hw.cellNew rfl (by repeat (first | exact List.Mem.head _ | apply List.Mem.tail)), hw.cellNew rfl (by repeat (first | exact List.Mem.head _ | apply List.Mem.tail)), hF1 ▸ hw.cellNew rfl (by repeat (first | exact List.Mem.head _ | apply List.Mem.tail))⟩

set_option maxRecDepth 100000 in
set_option maxHeartbeats 4000000 in
theorem pos1_any (l : List SecV) (V : Value) (from_ to_ : UInt32) (b1 b2 b3 b4 bl bt bd : Nat) (bo : List Nat) (H : Hp) (hV : Sl H encSec l V) (hB : SecB l) (hD : DataIn H l) (c1 : CellsIn H b1 [V]) (c2 : CellsIn H b2 [.int .u32 from_.toNat]) (c3 : CellsIn H b3 [.int .u32 to_.toNat]) (c4 : CellsIn H b4 [.func (.func 30) #[] #[.pointer (some ⟨bd, 0, none⟩)]]) (c5 : CellsIn H bd [.func (.func 27) #[] #[.pointer (some ⟨bl, 0, none⟩), .pointer (some ⟨bt, 0, none⟩)]]) (c6 : CellsIn H bl [V]) (c7 : CellsIn H bt [.int .u32 to_.toNat]) (hHc : ∀ k o, H k = some o → o.isCells = true) (w : World) (hH : Hp.le H (hp w)) (hn : ∀ k, ownW bo w k → H k = none ∧ k < w.heap.size) (hbs : ∀ b ∈ bo, b < w.heap.size) (lv B : Nat) (J Jx : List UInt32 → World → Prop) (hJ : AbidesFrom B J) (hJx : AbidesFrom B Jx) (hY : ∀ pre x W1, J pre W1 → pre.length < 4294967296 → YieldAt Fence.wide 1 Try.prog lv #[.int .u32 x.toNat] W1 fun e W' => (e = .returned (.bool true) ∧ J (pre ++ [x]) W' ∧ KpW bo W1 W') ∨ (e = .returned (.bool false) ∧ Jx (pre ++ [x]) W')) (h0 : J [] w) :
    Calls Try.prog 64 #[.func (.yield lv) #[] #[], .pointer (some ⟨b1, 0, none⟩), .pointer (some ⟨b2, 0, none⟩), .pointer (some ⟨b3, 0, none⟩), .pointer (some ⟨b4, 0, none⟩)] w (fun e W' => (∃ v, e = .returned v) ∧ ((∃ xs, xs = posP l from_ to_ ∧ J xs W') ∨ (∃ pre, True ∧ Jx pre W'))) := by
  have hV0 : Sl (Bg.of0 w).blk encSec l V := hV.mono hH
  have c10 : CellsIn (Bg.of0 w).blk b1 [V] := c1.mono hH
  obtain ⟨rs, hrs⟩ : ∃ rs, rs = normalP (l.map spaceP) := ⟨_, rfl⟩
  refine enter0 Try.func64 rfl Try.ntmps64 rfl ?_
  refine Tr.seq ?_
  refine Tr.region ?_
  first | refine Tr.q (QS.loadV rfl (by repeat (first | exact List.Mem.head _ | apply List.Mem.tail)) Try.isAgg22 (by rfl)) rfl ?_ | refine Tr.q (QS.loadC rfl (by assumption) Try.isAgg22) rfl ?_ | refine Tr.q (QS.loadCF rfl (by assumption) Try.isAgg22 (by rfl)) rfl ?_ | refine Tr.q (QS.el1 rfl (by assumption) Try.isAgg22 (by omega) (by rfl)) rfl ?_ | refine Tr.q (QS.elF rfl (by assumption) Try.isAgg22 (by omega) (by rfl)) rfl ?_ | refine Tr.q (QS.elR1 rfl (by repeat (first | exact List.Mem.head _ | apply List.Mem.tail)) Try.isAgg22 (by omega) (by rfl)) rfl ?_ | refine Tr.q (QS.elRF rfl (by repeat (first | exact List.Mem.head _ | apply List.Mem.tail)) Try.isAgg22 (by omega) (by rfl)) rfl ?_
  refine Tr.callRow rfl Try.call65 (fun w hw => ranges_any l V w (hw.slF hV0) hB) rfl (fun V1 => ?_)
  refine Tr.q (QS.assign rfl) rfl ?_
  refine Tr.nil ?_
  refine Tr.thenN ?_
  refine Tr.seq ?_
  rw [← hrs]
  refine Tr.now (fun W1 hW1 => ?_)
  have hR1 := (hW1.new0 (w := w) rfl (.head _)).sl
  have hBel := hW1.below0 (Bg.le.refl _)
  have hH1 : Hp.le H (hp W1) := fun k o e => by have q := hH k o e; exact (hBel.block k (Array.getElem?_eq_some_iff.1 q).1).trans q
  have hHk : Hp.le H (keptHp bo w W1) := keptHp_of hH1 hHc (fun k h => (hn k h).1)
  have hRk : Sl (keptHp bo w W1) encRng rs V1 := hR1.cellsHp.mono (newHp_kept (fun k h => (hn k h).2))
  have hRv : Sl (Bg.of0 W1).blk encRng rs V1 := hRk.mono keptHp_le
  have c20 : CellsIn (Bg.of0 W1).blk b2 [.int .u32 from_.toNat] := c2.mono hH1
  have hJ1 : J [] W1 := hJ [] w W1 none h0 ⟨hBel.os, hBel.tape, hBel.output, hBel.size, fun k hk _ => hBel.block k hk⟩ (fun r e => by cases e)
  refine Tr.region ?_
  refine Tr.q (QS.move rfl) rfl ?_
  first | refine Tr.q (QS.loadV rfl (by repeat (first | exact List.Mem.head _ | apply List.Mem.tail)) Try.isAgg23 (by rfl)) rfl ?_ | refine Tr.q (QS.loadC rfl (by assumption) Try.isAgg23) rfl ?_ | refine Tr.q (QS.loadCF rfl (by assumption) Try.isAgg23 (by rfl)) rfl ?_ | refine Tr.q (QS.el1 rfl (by assumption) Try.isAgg23 (by omega) (by rfl)) rfl ?_ | refine Tr.q (QS.elF rfl (by assumption) Try.isAgg23 (by omega) (by rfl)) rfl ?_ | refine Tr.q (QS.elR1 rfl (by repeat (first | exact List.Mem.head _ | apply List.Mem.tail)) Try.isAgg23 (by omega) (by rfl)) rfl ?_ | refine Tr.q (QS.elRF rfl (by repeat (first | exact List.Mem.head _ | apply List.Mem.tail)) Try.isAgg23 (by omega) (by rfl)) rfl ?_
  refine Tr.q (QS.call rfl Try.call66 (fun w hw => nxt_any rs _ from_ w (hw.slF hRv))) rfl ?_
  refine Tr.q (QS.move rfl) rfl ?_
  refine Tr.q (QS.extract rfl rfl) rfl ?_
  refine Tr.q (QS.extract rfl rfl) rfl ?_
  refine Tr.q (QS.assign rfl) rfl ?_
  refine Tr.q (QS.assign rfl) rfl ?_
  refine Tr.nil ?_
  refine Tr.thenN ?_
  refine Tr.block ?_
  refine Tr.loop (ι := World × UInt32 × List UInt32 × Nat) (fun ⟨Ws, x, pre, f⟩ => Hp.le (keptHp bo w W1) (hp Ws) ∧ W1.heap.size ≤ Ws.heap.size ∧ (∀ k, ownW bo Ws k → ownW bo w k ∨ W1.heap.size ≤ k) ∧ (∀ b ∈ bo, b < Ws.heap.size) ∧ J pre Ws ∧ pre ++ posF l rs to_ f x = posP l from_ to_ ∧ pre.length ≤ x.toNat ∧ 4294967296 ≤ f + x.toNat) (fun ⟨Ws, x, pre, f⟩ => Bg.of0 Ws) (fun ⟨Ws, x, pre, f⟩ => []) (fun ⟨Ws, x, pre, f⟩ => [(7, .int .u32 ((nxtP rs x).getD 0).toNat), (8, .bool (nxtP rs x).isSome)]) (fun ⟨Ws, x, pre, f⟩ => 4294967296 - x.toNat) (W1, from_, [], 4294967296) ⟨keptHp_le, Nat.le_refl _, fun k h => .inl ((ownW_same (fun b hb => hBel.block b (hbs b hb)) k).1 h), fun b hb => Nat.lt_of_lt_of_le (hbs b hb) hBel.size, hJ1, by rw [posP, ← hrs]; rfl, Nat.zero_le _, by omega⟩ (.cons (by first | rfl | exact lookI rfl (by omega) | exact lookI rfl (by simp) | exact lookB rfl (by simp)) (.cons (by first | rfl | exact lookI rfl (by omega) | exact lookI rfl (by simp) | exact lookB rfl (by simp)) Front.nil)) (by repeat' (first | exact Pick.nil _ | exact Del.here _ | apply Pick.cons | apply Del.there)) rfl (fun i hi m hm => ?_)
  obtain ⟨Ws, x, pre, f⟩ := i
  replace hi : Hp.le (keptHp bo w W1) (hp Ws) ∧ W1.heap.size ≤ Ws.heap.size ∧ (∀ k, ownW bo Ws k → ownW bo w k ∨ W1.heap.size ≤ k) ∧ (∀ b ∈ bo, b < Ws.heap.size) ∧ J pre Ws ∧ pre ++ posF l rs to_ f x = posP l from_ to_ ∧ pre.length ≤ x.toNat ∧ 4294967296 ≤ f + x.toNat := hi
  replace hm : m = 4294967296 - x.toNat := hm
  change Tr _ (Bg.of0 Ws) [] ([(7, .int .u32 ((nxtP rs x).getD 0).toNat), (8, .bool (nxtP rs x).isSome)] ++ _) _
  obtain ⟨q1, q2, q3, q4, q5, q6, q7, q8⟩ := hi
  have hHs := hHk.trans q1
  have c3s : CellsIn (Bg.of0 Ws).blk b3 [.int .u32 to_.toNat] := c3.mono hHs
  refine Tr.seq ?_
  refine Tr.seq ?_
  refine Tr.region ?_
  refine Tr.q (QS.move rfl) rfl ?_
  refine Tr.q (QS.move rfl) rfl ?_
  apply Tr.andP
  · exact (rfl : _ = (4, 18, 22))
  · exact rfl
  · intro hT2; have hT2' := hT2
    try simp only [bs] at hT2'
    refine Tr.gq rfl rfl hT2 (QS.move rfl) rfl ?_
    first | refine Tr.gq rfl rfl hT2 (QS.loadV rfl (by repeat (first | exact List.Mem.head _ | apply List.Mem.tail)) Try.isAgg23 (by rfl)) rfl ?_ | refine Tr.gq rfl rfl hT2 (QS.loadC rfl (by assumption) Try.isAgg23) rfl ?_ | refine Tr.gq rfl rfl hT2 (QS.loadCF rfl (by assumption) Try.isAgg23 (by rfl)) rfl ?_ | refine Tr.gq rfl rfl hT2 (QS.el1 rfl (by assumption) Try.isAgg23 (by omega) (by rfl)) rfl ?_ | refine Tr.gq rfl rfl hT2 (QS.elF rfl (by assumption) Try.isAgg23 (by omega) (by rfl)) rfl ?_ | refine Tr.gq rfl rfl hT2 (QS.elR1 rfl (by repeat (first | exact List.Mem.head _ | apply List.Mem.tail)) Try.isAgg23 (by omega) (by rfl)) rfl ?_ | refine Tr.gq rfl rfl hT2 (QS.elRF rfl (by repeat (first | exact List.Mem.head _ | apply List.Mem.tail)) Try.isAgg23 (by omega) (by rfl)) rfl ?_
    refine Tr.gq rfl rfl hT2 (QS.lss32 rfl rfl) rfl ?_
    refine Tr.q (QS.pickT rfl hT2 rfl) rfl ?_
    refine Tr.nil (Tr.thenN ?_)
    exact Tr.endX (Sub.cons rfl (Sub.dropN 4 (by kernel_rfl) rfl))
  · intro hF2
    refine Tr.gskip rfl rfl hF2 rfl ?_
    refine Tr.gskip rfl rfl hF2 rfl ?_
    refine Tr.gskip rfl rfl hF2 rfl ?_
    refine Tr.q (QS.pickF rfl hF2 rfl) rfl ?_
    refine Tr.nil (Tr.thenN ?_)
    exact Tr.endX (Sub.cons rfl (Sub.dropN 4 (by kernel_rfl) rfl))
  refine Tr.nil ?_
  refine Tr.thenN ?_
  refine Tr.cond rfl (fun h3 => ?_) (fun h3 => ?_)
  · try simp only [bs] at h3
    refine Tr.skip ?_
    refine Tr.thenN ?_
    refine Tr.seq ?_
    refine Tr.block ?_
    refine Tr.seq ?_
    refine Tr.seq ?_
    obtain ⟨b, hb⟩ := Option.isSome_iff_exists.1 h3.1
    have hbd : (nxtP rs x).getD 0 = b := by rw [hb]; rfl
    have hblt : b < to_ := by rw [← hbd]; exact h3.2
    have hge := nxtP_ge hb
    have hst := step_pos l to_ ((nxtP rs x).getD 0) (by rw [hbd]; exact hblt)
    have hxlt := x.toNat_lt
    rw [← hbd] at hge
    refine Tr.yield (x := (nxtP rs x).getD 0) (fun x : UInt32 => .int .u32 x.toNat) rfl rfl rfl rfl q5 hJ (fun W2 h => hY pre _ W2 h (by omega)) rfl rfl rfl rfl (fun W2 W' y1 y2 y3 => ?_) (fun W' y1 => ?_)
    · skip
      obtain ⟨r1, r2, r3, r4⟩ := keptHp_round q1 q2 q3 q4 y1.grown y2
      have hHs' := hHk.trans r1
      have hVs' : Sl (Bg.of0 W').blk encSec l V := hV.mono hHs'
      have hDs' : DataIn (Bg.of0 W').blk l := hD.mono hHs'
      have c4s' : CellsIn (Bg.of0 W').blk b4 [.func (.func 30) #[] #[.pointer (some ⟨bd, 0, none⟩)]] := c4.mono hHs'
      have c5s' : CellsIn (Bg.of0 W').blk bd [.func (.func 27) #[] #[.pointer (some ⟨bl, 0, none⟩), .pointer (some ⟨bt, 0, none⟩)]] := c5.mono hHs'
      have c6s' : CellsIn (Bg.of0 W').blk bl [V] := c6.mono hHs'
      have c7s' : CellsIn (Bg.of0 W').blk bt [.int .u32 to_.toNat] := c7.mono hHs'
      have hRv' : Sl (Bg.of0 W').blk encRng rs V1 := hRk.mono r1
      refine Tr.thenN ?_
      refine Tr.cond rfl (fun h4 => ?_) (fun h4 => ?_)
      · try simp only [bs] at h4
        first | contradiction | (exfalso; omega) | simp_all
      · try simp only [bs] at h4
        refine Tr.skip ?_
        refine Tr.thenN ?_
        refine Tr.region ?_
        refine Tr.q (QS.move rfl) rfl ?_
        first | refine Tr.q (QS.loadV rfl (by repeat (first | exact List.Mem.head _ | apply List.Mem.tail)) Try.isAgg66 (by rfl)) rfl ?_ | refine Tr.q (QS.loadC rfl (by assumption) Try.isAgg66) rfl ?_ | refine Tr.q (QS.loadCF rfl (by assumption) Try.isAgg66 (by rfl)) rfl ?_ | refine Tr.q (QS.el1 rfl (by assumption) Try.isAgg66 (by omega) (by rfl)) rfl ?_ | refine Tr.q (QS.elF rfl (by assumption) Try.isAgg66 (by omega) (by rfl)) rfl ?_ | refine Tr.q (QS.elR1 rfl (by repeat (first | exact List.Mem.head _ | apply List.Mem.tail)) Try.isAgg66 (by omega) (by rfl)) rfl ?_ | refine Tr.q (QS.elRF rfl (by repeat (first | exact List.Mem.head _ | apply List.Mem.tail)) Try.isAgg66 (by omega) (by rfl)) rfl ?_
        refine Tr.q (QS.move rfl) rfl ?_
        refine Tr.q (QS.callV rfl rfl Try.call30 (fun w hw => size1_any l V ((nxtP rs x).getD 0) to_ bl bt bd w (hw.slF hVs') hB (hDs'.mono hw.bg) (c6s'.mono hw.bg) (c7s'.mono hw.bg) (c5s'.mono hw.bg))) rfl ?_
        refine Tr.q (QS.add32 rfl rfl) rfl ?_
        refine Tr.q (QS.assign rfl) rfl ?_
        refine Tr.nil ?_
        refine Tr.inN ?_
        refine Tr.thenN ?_
        refine Tr.region ?_
        refine Tr.q (QS.move rfl) rfl ?_
        refine Tr.q (QS.move rfl) rfl ?_
        refine Tr.q (QS.call rfl Try.call66 (fun w hw => nxt_any rs _ (((nxtP rs x).getD 0) + szW l to_ ((nxtP rs x).getD 0)) w (hw.slF hRv'))) rfl ?_
        refine Tr.q (QS.move rfl) rfl ?_
        refine Tr.q (QS.extract rfl rfl) rfl ?_
        refine Tr.q (QS.extract rfl rfl) rfl ?_
        refine Tr.q (QS.assign rfl) rfl ?_
        refine Tr.q (QS.assign rfl) rfl ?_
        refine Tr.nil ?_
        refine Tr.thenN ?_
        have hx' : (((nxtP rs x).getD 0) + szW l to_ ((nxtP rs x).getD 0)).toNat = ((nxtP rs x).getD 0).toNat + (szW l to_ ((nxtP rs x).getD 0)).toNat := hst.1
        obtain ⟨f2, rfl⟩ : ∃ f2, f = f2 + 1 := ⟨f - 1, by omega⟩
        have hpf : (pre ++ [(nxtP rs x).getD 0]) ++ posF l rs to_ f2 (((nxtP rs x).getD 0) + szW l to_ ((nxtP rs x).getD 0)) = posP l from_ to_ := by rw [← q6, posF_go hb hblt, List.append_assoc, List.singleton_append, hbd]
        have hpl : (pre ++ [(nxtP rs x).getD 0]).length = pre.length + 1 := by simp
        apply Tr.again (W', (((nxtP rs x).getD 0) + szW l to_ ((nxtP rs x).getD 0)), pre ++ [(nxtP rs x).getD 0], f2)
        · exact rfl
        · exact (.cons (by first | rfl | exact lookI rfl (by omega) | exact lookI rfl (by simp) | exact lookB rfl (by simp)) (.cons (by first | rfl | exact lookI rfl (by omega) | exact lookI rfl (by simp) | exact lookB rfl (by simp)) Front.nil))
        · exact SubX.dropN 23 (by kernel_rfl) rfl
        · exact (by repeat' (first | exact Pick.nil _ | exact Del.here _ | apply Pick.cons | apply Del.there))
        · exact ⟨r1, r2, r3, r4, y3, hpf, by omega, by omega⟩
        · exact (by show 4294967296 - _ < m; omega)
    · skip
      refine Tr.thenN ?_
      refine Tr.cond rfl (fun h5 => ?_) (fun h5 => ?_)
      · try simp only [bs] at h5
        refine Tr.ret ?_
        refine Tr.thenR ?_
        refine Tr.inR ?_
        refine Tr.thenR ?_
        refine Tr.thenR ?_
        refine Tr.inR ?_
        refine Tr.ret0 Try.results64 (fun w' hw => ?_)
        exact ⟨⟨_, rfl⟩, .inr ⟨_, trivial, hJx _ W' _ none y1 hw.grown (fun r e => by cases e)⟩⟩
      · try simp only [bs] at h5
        first | contradiction | (exfalso; omega) | simp_all
  · try simp only [bs] at h3
    refine Tr.exit ?_
    refine Tr.thenE ?_
    refine Tr.thenE ?_
    refine Tr.inHit ?_
    refine Tr.ret0n Try.results64 (fun w' hw => ?_)
    have hend : posF l rs to_ f x = [] := by
      cases hq : nxtP rs x with
      | none => exact posF_stop hq
      | some b =>
        refine posF_stop2 hq (fun hb => ?_)
        rw [hq] at h3
        rcases h3 with h3 | h3
        · cases h3
        · exact h3 hb
    rw [hend, List.append_nil] at q6
    exact ⟨⟨_, rfl⟩, .inl ⟨pre, q6, hJ pre Ws _ none q5 hw.grown (fun r e => by cases e)⟩⟩

theorem pos_stops (l : List SecV) (V : Value) (from_ to_ : UInt32) (b1 b2 b3 b4 bl bt bd : Nat) (bo : List Nat) (H : Hp) (hV : Sl H encSec l V) (hB : SecB l) (hD : DataIn H l) (c1 : CellsIn H b1 [V]) (c2 : CellsIn H b2 [.int .u32 from_.toNat]) (c3 : CellsIn H b3 [.int .u32 to_.toNat]) (c4 : CellsIn H b4 [.func (.func 30) #[] #[.pointer (some ⟨bd, 0, none⟩)]]) (c5 : CellsIn H bd [.func (.func 27) #[] #[.pointer (some ⟨bl, 0, none⟩), .pointer (some ⟨bt, 0, none⟩)]]) (c6 : CellsIn H bl [V]) (c7 : CellsIn H bt [.int .u32 to_.toNat]) (hHc : ∀ k o, H k = some o → o.isCells = true) (w : World) (hH : Hp.le H (hp w)) (hn : ∀ k, ownW bo w k → H k = none ∧ k < w.heap.size) (hbs : ∀ b ∈ bo, b < w.heap.size) :
    SeqStopsK Fence.wide 2 Try.prog 64 [.pointer (some ⟨b1, 0, none⟩), .pointer (some ⟨b2, 0, none⟩), .pointer (some ⟨b3, 0, none⟩), .pointer (some ⟨b4, 0, none⟩)].toArray (fun x : UInt32 => #[.int .u32 x.toNat]) (KpW bo) (fun xs => xs = posP l from_ to_) (fun _ => True) 4294967296 w := by
  intro lv J Jx W hBel hJ hJx hY h0
  have hs := ownW_same (bs := bo) (w := w) (w' := W) (fun b hb => hBel.block b (hbs b hb))
  exact callsIn_wide.2 (pos1_any l V from_ to_ b1 b2 b3 b4 bl bt bd bo H hV hB hD c1 c2 c3 c4 c5 c6 c7 hHc W (fun k o e => (hBel.block k (Array.getElem?_eq_some_iff.1 (hH k o e)).1).trans (hH k o e)) (fun k h => ⟨(hn k ((hs k).1 h)).1, Nat.lt_of_lt_of_le (hn k ((hs k).1 h)).2 hBel.size⟩) (fun b hb => Nat.lt_of_lt_of_le (hbs b hb) hBel.size) lv W.heap.size J Jx hJ hJx hY h0)

set_option maxRecDepth 100000 in
set_option maxHeartbeats 8000000 in
theorem sweep_any (l : List SecV) (V : Value) (from_ to_ : UInt32) (w : World) (hV : Sl (hp w) encSec l V) (hB : SecB l) (hD : DataIn (hp w) l) (hN : (posP l from_ to_).length ≤ 1000000) :
    Calls Try.prog 11 #[V, .int .u32 from_.toNat, .int .u32 to_.toNat] w (fun e w' => ∃ i : (Value × List Ins) × (Value × List Rng), e = .returned (.tuple #[i.1.1, i.2.1]) ∧ Below w.heap.size w w' ∧ NewEnts w w' [rowE i.1.1 36 encIns i.1.2, rowE i.2.1 61 encRng i.2.2] ∧ i.1.2 = foundP l to_ (posP l from_ to_) ∧ i.2.2 = normalP (badP l to_ (posP l from_ to_))) := by
  have hV0 : Sl (Bg.of0 w).blk encSec l V := hV
  have hlen := hB.1
  obtain ⟨va, vc, hv1, hv2⟩ : ∃ va vc, V = .slice va l.length vc ∧ True := by obtain ⟨a, c, h, _⟩ := hV.shape; exact ⟨a, c, h, trivial⟩
  refine enterM Try.func11 rfl Try.ntmps11 rfl ?_
  refine Tr.seq ?_
  refine Tr.region ?_
  refine Tr.box rfl rfl rfl (fun b1 => ?_)
  refine Tr.box rfl rfl rfl (fun b2 => ?_)
  refine Tr.q (QS.assign rfl) rfl ?_
  refine Tr.q (QS.assign rfl) rfl ?_
  refine Tr.nil ?_
  refine Tr.thenN ?_
  refine Tr.seq ?_
  refine Tr.region ?_
  refine Tr.alloc Try.zeroValue26 rfl rfl (fun b3 => ?_)
  refine Tr.nil ?_
  refine Tr.thenN ?_
  refine Tr.seq ?_
  refine Tr.region ?_
  refine Tr.alloc Try.zeroValue27 rfl rfl (fun b4 => ?_)
  refine Tr.nil ?_
  refine Tr.thenN ?_
  refine Tr.seq ?_
  refine Tr.region ?_
  refine Tr.q (QS.makeFunc rfl rfl) rfl ?_
  refine Tr.alloc Try.zeroValue65 rfl rfl (fun b5 => ?_)
  refine Tr.storeW rfl rfl Try.sizeOf65 (by repeat (first | exact Put.here _ | apply Put.there)) (by rfl) (by rfl) (by first | exact List.all_eq_true.1 rfl | exact Enc.one _ _) rfl ?_
  refine Tr.nil ?_
  refine Tr.thenN ?_
  refine Tr.seq ?_
  refine Tr.region ?_
  refine Tr.q (QS.makeFunc rfl rfl) rfl ?_
  refine Tr.q (QS.assign rfl) rfl ?_
  refine Tr.nil ?_
  refine Tr.thenN ?_
  refine Tr.seq ?_
  refine Tr.seq ?_
  have hVc : V.cells.toList = [V] := by rw [hv1]; rfl
  rw [hVc]
  refine Tr.region ?_
  refine Tr.q (QS.lV rfl Try.isAgg22) rfl ?_
  refine Tr.q (QS.move rfl) rfl ?_
  refine Tr.q (QS.lV rfl Try.isAgg23) rfl ?_
  refine Tr.q (QS.move rfl) rfl ?_
  refine Tr.callBg (fun i : Nat × Nat × Nat × Nat => .func (.func 64) #[] #[.pointer (some ⟨i.1, 0, none⟩), .pointer (some ⟨i.2.1, 0, none⟩), .pointer (some ⟨i.2.2.1, 0, none⟩), .pointer (some ⟨i.2.2.2, 0, none⟩)]) (R := PosAt V from_ to_ (.func (.func 30) #[] #[.pointer (some ⟨b5, 0, none⟩)])) (fun h h' i hh r => r.mono hh) rfl Try.call31 (fun w2 hw => positions_any V from_ to_ (.func (.func 30) #[] #[.pointer (some ⟨b5, 0, none⟩)]) rfl rfl (by rw [hv1]; rfl) (by rw [hv1]; rfl) w2) rfl (fun i F4 hF4 hR4 => ?_)
  refine Tr.nil ?_
  refine Tr.thenN ?_
  refine Tr.block ?_
  obtain ⟨i1, i2, i3, i4⟩ := i
  obtain ⟨p1, p2, p3, p4⟩ := hR4
  dsimp only at p1 p2 p3 p4
  refine Tr.frozenC (b := b5) (by repeat (first | exact Del.here _ | apply Del.there)) (fun F5 hF5 cd => ?_)
  refine Tr.frozenC (b := b2) (by repeat (first | exact Del.here _ | apply Del.there)) (fun F6 hF6 ct => ?_)
  refine Tr.frozenC (b := b1) (by repeat (first | exact Del.here _ | apply Del.there)) (fun F7 hF7 cl => ?_)
  have hF67 := hF6.trans hF7
  have hF57 := hF5.trans hF67
  have hF07 := hF4.trans hF57
  refine Tr.ownNil 61 encRng ?_
  refine Tr.ownNil 36 encIns ?_
  refine Tr.rangeF (α := UInt32) (ι := (Value × List Ins) × (Value × List Rng)) (lb := [.pointer (some ⟨i1, 0, none⟩), .pointer (some ⟨i2, 0, none⟩), .pointer (some ⟨i3, 0, none⟩), .pointer (some ⟨i4, 0, none⟩)]) (fun x => .int .u32 x.toNat) [b3, b4] (fun xs => xs = posP l from_ to_) (fun pre j => j.1.2 = foundP l to_ pre ∧ j.2.2 = badP l to_ pre) (fun j => [cellE b3 [j.1.1] 26, cellE b4 [j.2.1] 27, rowE j.1.1 36 encIns j.1.2, rowE j.2.1 61 encRng j.2.2]) 4294967296 ((.slice none 0 0, []), (.slice none 0 0, [])) hF07.dr rfl rfl Try.call64 rfl rfl (by repeat' (first | exact Pick.nil _ | exact Del.here _ | apply Pick.cons | apply Del.there)) ⟨rfl, rfl⟩ (fun j => .cell (.cell (.row (.row .nil)))) (by simp [blks, cellE]) (fun F' j W h k => own_two h k) ?_ ?_ ?_
  · intro w2 F1 hf h1 full1
    exact pos_stops l V from_ to_ i1 i2 i3 i4 b1 b2 b5 [b3, b4] (cellsHp F1.blk) ((hV0.mono (hF07.trans hf).blk).cellsHp) hB (fun s hs => ((hD s hs).mono (hF07.trans hf).blk).cellsHp) ((p1.mono (hF57.trans hf).blk).cellsHp) ((p2.mono (hF57.trans hf).blk).cellsHp) ((p3.mono (hF57.trans hf).blk).cellsHp) ((p4.mono (hF57.trans hf).blk).cellsHp) ((cd.mono (hF67.trans hf).blk).cellsHp) ((cl.mono hf.blk).cellsHp) ((ct.mono (hF7.trans hf).blk).cellsHp) (fun k o e => (cellsHp_some e).2) w2 (fun k o e => h1.bg k o (cellsHp_some e).1) (fun k hk => (by have hm := (own_two h1 k).1 hk; exact ⟨by cases hq : cellsHp F1.blk k with | none => rfl | some o => (have := (cellsHp_some hq).1; rw [(h1.sep k hm).1] at this; cases this), h1.lt k hm⟩)) (fun b hb => h1.lt b ((own_two h1 b).1 (.inl hb)))
  · intro pre x j l0 F1 hF1 hok hlen
    obtain ⟨⟨Vf, fs⟩, ⟨Vb, bl⟩⟩ := j
    obtain ⟨ok1, ok2⟩ := hok
    replace ok1 : fs = foundP l to_ pre := ok1
    replace ok2 : bl = badP l to_ pre := ok2
    subst ok1 ok2
    change Tr _ _ [cellE b3 [Vf] 26, cellE b4 [Vb] 27, rowE Vf 36 encIns (foundP l to_ pre), rowE Vb 61 encRng (badP l to_ pre)] _ _
    have cd1 := cd.mono (hF67.trans hF1).blk
    have ct1 := ct.mono (hF7.trans hF1).blk
    have cl1 := cl.mono hF1.blk
    have hV1 := hV0.mono (hF07.trans hF1).blk
    have hD1 : DataIn F1.blk l := fun s hs => (hD s hs).mono (hF07.trans hF1).blk
    have hfl := found_len l to_ pre
    have hbl := bad_len l to_ pre
    refine Tr.blockIn ?_
    refine Tr.seqIn ?_
    refine Tr.regionI (noThen (noIn noNormal)) rfl ?_
    refine Tr.q (QS.loadCF rfl cd1 Try.isAgg65 (by rfl)) rfl ?_
    refine Tr.q (QS.move rfl) rfl ?_
    refine Tr.q (QS.callV rfl rfl Try.call27 (fun w hw => dec1_any l V x to_ b1 b2 w (hw.slF hV1) hB (hD1.mono hw.bg) (cl1.mono hw.bg) (ct1.mono hw.bg))) rfl ?_
    refine Tr.q (QS.move rfl) rfl ?_
    refine Tr.q (QS.extract rfl rfl) rfl ?_
    refine Tr.q (QS.extract rfl rfl) rfl ?_
    refine Tr.alloc Try.zeroValue36 rfl rfl (fun b6 => ?_)
    refine Tr.storeW rfl rfl Try.sizeOf36 (by repeat (first | exact Put.here _ | apply Put.there)) (by rfl) (by rfl) (by first | exact List.all_eq_true.1 rfl | exact Enc.one _ _ | exact Enc.one encIns _) rfl ?_
    refine Tr.q (QS.assign rfl) rfl ?_
    refine Tr.nil ?_
    refine Tr.thenN ?_
    refine Tr.seqIn ?_
    refine Tr.regionI (noThen (noIn noNormal)) rfl ?_
    refine Tr.q (QS.move rfl) rfl ?_
    refine Tr.nil ?_
    refine Tr.thenN ?_
    refine Tr.condIn rfl (fun h7 => ?_) (fun h7 => ?_)
    · try simp only [bs] at h7
      refine Tr.regionI (noIn noNormal) rfl ?_
      refine Tr.q (QS.lV rfl Try.isAgg26) rfl ?_
      refine Tr.q (QS.lW rfl Try.isAgg36 Try.sizeOf36) rfl ?_
      refine Tr.lit1 (E := encIns) (decW l to_ x).1 rfl rfl Try.underlying26 Try.sizeOf36 Try.zeroValue36 (by rfl) (by rfl) rfl (fun V8 => ?_)
      refine Tr.append1 rfl rfl (by repeat (first | exact Del.here _ | apply Del.there)) (by repeat (first | exact Del.here _ | apply Del.there)) Try.underlying26 HLF.info36 (by rfl) (by rfl) (by (try simp only [List.length_cons, List.length_nil, List.length_append, List.length_take]); omega) (by unfold maxLen; (try simp only [List.length_cons, List.length_nil, List.length_append, List.length_take]); omega) rfl (fun V9 => ?_)
      refine Tr.rowShape (.head _) (fun pa pc hpv => ?_)
      subst hpv
      refine Tr.storeW rfl rfl Try.sizeOf26 (by repeat (first | exact Put.here _ | apply Put.there)) (by rfl) (by rfl) (by first | exact List.all_eq_true.1 rfl | exact Enc.one _ _) rfl ?_
      refine Tr.nil ?_
      refine Tr.inN ?_
      have hq1 := found_yes (l := l) (to_ := to_) (ps := pre) (x := x) h7
      have hq2 := bad_yes (l := l) (to_ := to_) (ps := pre) (x := x) h7
      exact fun a w ha hw => ⟨rfl, (((.slice pa (foundP l to_ pre ++ [(decW l to_ x).1]).length pc), foundP l to_ pre ++ [(decW l to_ x).1]), (Vb, badP l to_ pre)), ⟨hq1.symm, hq2.symm⟩, Pick.heap (L' := [cellE b3 [(.slice pa (foundP l to_ pre ++ [(decW l to_ x).1]).length pc)] 26, cellE b4 [Vb] 27, rowE (.slice pa (foundP l to_ pre ++ [(decW l to_ x).1]).length pc) 36 encIns (foundP l to_ pre ++ [(decW l to_ x).1]), rowE Vb 61 encRng (badP l to_ pre)]) (by repeat' (first | exact Pick.nil _ | exact Del.here _ | apply Pick.cons | apply Del.there)) hw⟩
    · try simp only [bs] at h7
      refine Tr.regionI (noIn noNormal) rfl ?_
      refine Tr.q (QS.lV rfl Try.isAgg27) rfl ?_
      refine Tr.q (QS.move rfl) rfl ?_
      refine Tr.q (QS.move rfl) rfl ?_
      refine Tr.q (QS.add32 (n := 1) rfl rfl) rfl ?_
      refine Tr.q (QS.build (vs := [(0, _), (1, _)]) rfl rfl (HLF.built61_0_1 _ _)) rfl ?_
      refine Tr.lit1 (E := encRng) (⟨x, x + 1⟩ : Rng) rfl rfl Try.underlying27 Try.sizeOf61 Try.zeroValue61 (by rfl) (by rfl) rfl (fun V10 => ?_)
      refine Tr.append1 rfl rfl (by repeat (first | exact Del.here _ | apply Del.there)) (by repeat (first | exact Del.here _ | apply Del.there)) Try.underlying27 HLF.info61 (by rfl) (by rfl) (by (try simp only [List.length_cons, List.length_nil, List.length_append, List.length_take]); omega) (by unfold maxLen; (try simp only [List.length_cons, List.length_nil, List.length_append, List.length_take]); omega) rfl (fun V11 => ?_)
      refine Tr.rowShape (.head _) (fun pa pc hpv => ?_)
      subst hpv
      refine Tr.storeW rfl rfl Try.sizeOf27 (by repeat (first | exact Put.here _ | apply Put.there)) (by rfl) (by rfl) (by first | exact List.all_eq_true.1 rfl | exact Enc.one _ _) rfl ?_
      refine Tr.nil ?_
      refine Tr.inN ?_
      have hq1 := found_no (l := l) (to_ := to_) (ps := pre) (x := x) h7
      have hq2 := bad_no (l := l) (to_ := to_) (ps := pre) (x := x) h7
      exact fun a w ha hw => ⟨rfl, ((Vf, foundP l to_ pre), ((.slice pa (badP l to_ pre ++ [(⟨x, x + 1⟩ : Rng)]).length pc), badP l to_ pre ++ [(⟨x, x + 1⟩ : Rng)])), ⟨hq1.symm, hq2.symm⟩, Pick.heap (L' := [cellE b3 [Vf] 26, cellE b4 [(.slice pa (badP l to_ pre ++ [(⟨x, x + 1⟩ : Rng)]).length pc)] 27, rowE Vf 36 encIns (foundP l to_ pre), rowE (.slice pa (badP l to_ pre ++ [(⟨x, x + 1⟩ : Rng)]).length pc) 61 encRng (badP l to_ pre ++ [(⟨x, x + 1⟩ : Rng)])]) (by repeat' (first | exact Pick.nil _ | exact Del.here _ | apply Pick.cons | apply Del.there)) hw⟩
  · intro xs j D F1 hF1 hS hok
    obtain ⟨⟨Vf, fs⟩, ⟨Vb, bl⟩⟩ := j
    obtain ⟨ok1, ok2⟩ := hok
    replace hS : xs = posP l from_ to_ := hS
    subst hS
    replace ok1 : fs = foundP l to_ (posP l from_ to_) := ok1
    replace ok2 : bl = badP l to_ (posP l from_ to_) := ok2
    subst ok1 ok2
    have hbl : (badP l to_ (posP l from_ to_)).length ≤ 1000000 := Nat.le_trans (bad_len l to_ _) hN
    change Tr _ _ [markE D, cellE b3 [Vf] 26, cellE b4 [Vb] 27, rowE Vf 36 encIns (foundP l to_ (posP l from_ to_)), rowE Vb 61 encRng (badP l to_ (posP l from_ to_))] _ _
    refine Tr.inN ?_
    refine Tr.thenN ?_
    refine Tr.seq ?_
    refine Tr.regionH ([cellE b3 [Vf] 26, cellE b4 [Vb] 27]) 5 rfl HLF.mixed ?_
    refine Tr.hT 0 rfl (by kernel_rfl) (panicThen panicRet) (QS.lV rfl Try.isAgg26) ?_
    refine Tr.hT 1 rfl (by kernel_rfl) (panicThen panicRet) (QS.lV rfl Try.isAgg27) ?_
    refine Tr.hAll [2] (by kernel_rfl) (by simp) (fun iq hq => ?_)
    obtain rfl := List.mem_singleton.1 hq
    refine Tr.hOp rfl ?_
    refine Tr.callRow rfl Try.call32 (fun w hw => normal_any (badP l to_ (posP l from_ to_)) _ w (hw.row (by repeat (first | exact List.Mem.head _ | apply List.Mem.tail))) hbl) rfl (fun V12 => ?_)
    refine Tr.hN ?_
    refine Tr.hT 3 rfl (by kernel_rfl) (panicThen panicRet) (QS.assign rfl) ?_
    refine Tr.hT 4 rfl (by kernel_rfl) (panicThen panicRet) (QS.assign rfl) ?_
    refine Tr.hDone (by kernel_rfl) ?_
    refine Tr.thenN ?_
    refine Tr.ret ?_
    refine Tr.retM2 (D := D) Try.results11 rfl rfl (by (repeat rw [look_cons, if_neg (by unfold mk0; omega)]); exact look_mark) (by repeat (first | exact Del.here _ | apply Del.there)) (fun w' hw => ?_)
    exact ⟨((_, _), (_, _)), rfl, hw.below0 (hF07.trans hF1), hw.ents0 (hF07.trans hF1).lo (by repeat' (first | exact Pick.nil _ | exact Del.here _ | apply Pick.cons | apply Del.there)), rfl, rfl⟩

end Go.Proofs.Ytfnedefgepjbpaa
