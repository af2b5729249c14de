/- Chapter 05: Sorted and its reference; the law SectionLists. -/
import Derived.Test.YtfmhhakhbopfdaaWv
import Derived.Test.YtfmhhakhbopfdaaSg
import Derived.Test.YtfmhhakhbopfdaaLp
set_option linter.unusedSimpArgs false
set_option linter.unusedVariables false
namespace Go.Proofs.Ytfmhhakhbopfdaa
open Go Go.HL Go.RowKit
def orP : List Int → Int
  | [] => 0
  | x :: t => if x ≠ 0 then x else orP t
theorem orP2 (p q : Int) : orP [p, q] = if p ≠ 0 then p else q := by simp only [orP]; split <;> (try split) <;> simp_all
theorem ltC_eq : ltC cmpS = ltP := ltC_cmpS


set_option maxRecDepth 100000 in
set_option maxHeartbeats 2000000 in
theorem nanU_any (a : UInt32) (w : World) :
    Calls Try.prog 97 #[.int .u32 a.toNat] w (fun e w' => e = .returned (.bool false) ∧ Ext w w') := by
  refine enter Try.func97 rfl Try.ntmps97 rfl ?_
  refine Tr.seq ?_
  refine Tr.region ?_
  refine Tr.q (QS.assign rfl) rfl ?_
  refine Tr.nil ?_
  refine Tr.thenN ?_
  refine Tr.seq ?_
  refine Tr.region ?_
  refine Tr.q (QS.move rfl) rfl ?_
  refine Tr.q (QS.move rfl) rfl ?_
  refine Tr.q (QS.neq32 rfl rfl) rfl ?_
  refine Tr.q (QS.assign rfl) rfl ?_
  refine Tr.nil ?_
  refine Tr.thenN ?_
  refine Tr.ret ?_
  refine Tr.ret1 Try.results97 rfl (fun w' hw => ?_)
  exact ⟨by simp, hw.below (Bg.le.refl _)⟩

set_option maxRecDepth 100000 in
set_option maxHeartbeats 2000000 in
theorem nanB_any (a : ByteArray) (w : World) :
    Calls Try.prog 98 #[.string a] w (fun e w' => e = .returned (.bool false) ∧ Ext w w') := by
  refine enter Try.func98 rfl Try.ntmps98 rfl ?_
  refine Tr.seq ?_
  refine Tr.region ?_
  refine Tr.q (QS.assign rfl) rfl ?_
  refine Tr.nil ?_
  refine Tr.thenN ?_
  refine Tr.seq ?_
  refine Tr.region ?_
  refine Tr.q (QS.move rfl) rfl ?_
  refine Tr.q (QS.move rfl) rfl ?_
  refine Tr.q (QS.str_neq rfl rfl) rfl ?_
  refine Tr.q (QS.assign rfl) rfl ?_
  refine Tr.nil ?_
  refine Tr.thenN ?_
  refine Tr.ret ?_
  refine Tr.ret1 Try.results98 rfl (fun w' hw => ?_)
  exact ⟨by simp, hw.below (Bg.le.refl _)⟩

set_option maxRecDepth 100000 in
set_option maxHeartbeats 2000000 in
theorem cmpU_any (a b : UInt32) (w : World) :
    Calls Try.prog 87 #[.int .u32 a.toNat, .int .u32 b.toNat] w (fun e w' => e = .returned (.int .i64 (cmpU a b)) ∧ Ext w w') := by
  refine enter Try.func87 rfl Try.ntmps87 rfl ?_
  refine Tr.seq ?_
  refine Tr.region ?_
  refine Tr.q (QS.assign rfl) rfl ?_
  refine Tr.nil ?_
  refine Tr.thenN ?_
  refine Tr.seq ?_
  refine Tr.region ?_
  refine Tr.q (QS.move rfl) rfl ?_
  refine Tr.q (QS.call rfl Try.call97 (fun w hw => nanU_any a w)) rfl ?_
  refine Tr.q (QS.assign rfl) rfl ?_
  refine Tr.nil ?_
  refine Tr.thenN ?_
  refine Tr.seq ?_
  refine Tr.region ?_
  refine Tr.q (QS.move rfl) rfl ?_
  refine Tr.q (QS.call rfl Try.call97 (fun w hw => nanU_any b w)) rfl ?_
  refine Tr.q (QS.assign rfl) rfl ?_
  refine Tr.nil ?_
  refine Tr.thenN ?_
  refine Tr.seq ?_
  refine Tr.seq ?_
  refine Tr.region ?_
  refine Tr.q (QS.move rfl) rfl ?_
  refine Tr.nil ?_
  refine Tr.thenN ?_
  refine Tr.cond rfl (fun h1 => ?_) (fun h1 => ?_)
  · try simp only [bs] at h1
    first | (exfalso; omega) | simp_all
  · try simp only [bs] at h1
    refine Tr.skip ?_
    refine Tr.thenN ?_
    refine Tr.seq ?_
    refine Tr.seq ?_
    refine Tr.region ?_
    refine Tr.q (QS.move rfl) rfl ?_
    refine Tr.nil ?_
    refine Tr.thenN ?_
    refine Tr.cond rfl (fun h2 => ?_) (fun h2 => ?_)
    · try simp only [bs] at h2
      first | (exfalso; omega) | simp_all
    · try simp only [bs] at h2
      refine Tr.skip ?_
      refine Tr.thenN ?_
      refine Tr.seq ?_
      refine Tr.seq ?_
      refine Tr.region ?_
      refine Tr.q (QS.move rfl) rfl ?_
      refine Tr.q (QS.move rfl) rfl ?_
      refine Tr.q (QS.lss32 rfl rfl) rfl ?_
      refine Tr.nil ?_
      refine Tr.thenN ?_
      refine Tr.cond rfl (fun h3 => ?_) (fun h3 => ?_)
      · try simp only [bs] at h3
        refine Tr.seq ?_
        refine Tr.region ?_
        refine Tr.q (QS.assign rfl) rfl ?_
        refine Tr.nil ?_
        refine Tr.thenN ?_
        refine Tr.ret ?_
        refine Tr.thenR ?_
        refine Tr.ret1 Try.results87 rfl (fun w' hw => ?_)
        exact ⟨by rw [cmpU, if_pos (by assumption)], hw.below (Bg.le.refl _)⟩
      · try simp only [bs] at h3
        refine Tr.skip ?_
        refine Tr.thenN ?_
        refine Tr.seq ?_
        refine Tr.seq ?_
        refine Tr.region ?_
        refine Tr.q (QS.move rfl) rfl ?_
        refine Tr.q (QS.move rfl) rfl ?_
        refine Tr.q (QS.gtr32 rfl rfl) rfl ?_
        refine Tr.nil ?_
        refine Tr.thenN ?_
        refine Tr.cond rfl (fun h4 => ?_) (fun h4 => ?_)
        · try simp only [bs] at h4
          refine Tr.seq ?_
          refine Tr.region ?_
          refine Tr.q (QS.assign rfl) rfl ?_
          refine Tr.nil ?_
          refine Tr.thenN ?_
          refine Tr.ret ?_
          refine Tr.thenR ?_
          refine Tr.ret1 Try.results87 rfl (fun w' hw => ?_)
          exact ⟨by rw [cmpU, if_neg (by assumption), if_pos (by assumption)], hw.below (Bg.le.refl _)⟩
        · try simp only [bs] at h4
          refine Tr.skip ?_
          refine Tr.thenN ?_
          refine Tr.seq ?_
          refine Tr.region ?_
          refine Tr.q (QS.assign rfl) rfl ?_
          refine Tr.nil ?_
          refine Tr.thenN ?_
          refine Tr.ret ?_
          refine Tr.ret1 Try.results87 rfl (fun w' hw => ?_)
          exact ⟨by rw [cmpU, if_neg (by assumption), if_neg (by assumption)], hw.below (Bg.le.refl _)⟩

set_option maxRecDepth 100000 in
set_option maxHeartbeats 2000000 in
theorem cmpB_any (a b : ByteArray) (w : World) :
    Calls Try.prog 88 #[.string a, .string b] w (fun e w' => e = .returned (.int .i64 (cmpB a b)) ∧ Ext w w') := by
  refine enter Try.func88 rfl Try.ntmps88 rfl ?_
  refine Tr.seq ?_
  refine Tr.region ?_
  refine Tr.q (QS.assign rfl) rfl ?_
  refine Tr.nil ?_
  refine Tr.thenN ?_
  refine Tr.seq ?_
  refine Tr.region ?_
  refine Tr.q (QS.move rfl) rfl ?_
  refine Tr.q (QS.call rfl Try.call98 (fun w hw => nanB_any a w)) rfl ?_
  refine Tr.q (QS.assign rfl) rfl ?_
  refine Tr.nil ?_
  refine Tr.thenN ?_
  refine Tr.seq ?_
  refine Tr.region ?_
  refine Tr.q (QS.move rfl) rfl ?_
  refine Tr.q (QS.call rfl Try.call98 (fun w hw => nanB_any b w)) rfl ?_
  refine Tr.q (QS.assign rfl) rfl ?_
  refine Tr.nil ?_
  refine Tr.thenN ?_
  refine Tr.seq ?_
  refine Tr.seq ?_
  refine Tr.region ?_
  refine Tr.q (QS.move rfl) rfl ?_
  refine Tr.nil ?_
  refine Tr.thenN ?_
  refine Tr.cond rfl (fun h1 => ?_) (fun h1 => ?_)
  · try simp only [bs] at h1
    first | (exfalso; omega) | simp_all
  · try simp only [bs] at h1
    refine Tr.skip ?_
    refine Tr.thenN ?_
    refine Tr.seq ?_
    refine Tr.seq ?_
    refine Tr.region ?_
    refine Tr.q (QS.move rfl) rfl ?_
    refine Tr.nil ?_
    refine Tr.thenN ?_
    refine Tr.cond rfl (fun h2 => ?_) (fun h2 => ?_)
    · try simp only [bs] at h2
      first | (exfalso; omega) | simp_all
    · try simp only [bs] at h2
      refine Tr.skip ?_
      refine Tr.thenN ?_
      refine Tr.seq ?_
      refine Tr.seq ?_
      refine Tr.region ?_
      refine Tr.q (QS.move rfl) rfl ?_
      refine Tr.q (QS.move rfl) rfl ?_
      refine Tr.q (QS.str_lss rfl rfl) rfl ?_
      refine Tr.nil ?_
      refine Tr.thenN ?_
      refine Tr.cond rfl (fun h3 => ?_) (fun h3 => ?_)
      · try simp only [bs] at h3
        refine Tr.seq ?_
        refine Tr.region ?_
        refine Tr.q (QS.assign rfl) rfl ?_
        refine Tr.nil ?_
        refine Tr.thenN ?_
        refine Tr.ret ?_
        refine Tr.thenR ?_
        refine Tr.ret1 Try.results88 rfl (fun w' hw => ?_)
        exact ⟨by simp_all [cmpB, bl], hw.below (Bg.le.refl _)⟩
      · try simp only [bs] at h3
        refine Tr.skip ?_
        refine Tr.thenN ?_
        refine Tr.seq ?_
        refine Tr.seq ?_
        refine Tr.region ?_
        refine Tr.q (QS.move rfl) rfl ?_
        refine Tr.q (QS.move rfl) rfl ?_
        refine Tr.q (QS.str_gtr rfl rfl) rfl ?_
        refine Tr.nil ?_
        refine Tr.thenN ?_
        refine Tr.cond rfl (fun h4 => ?_) (fun h4 => ?_)
        · try simp only [bs] at h4
          refine Tr.seq ?_
          refine Tr.region ?_
          refine Tr.q (QS.assign rfl) rfl ?_
          refine Tr.nil ?_
          refine Tr.thenN ?_
          refine Tr.ret ?_
          refine Tr.thenR ?_
          refine Tr.ret1 Try.results88 rfl (fun w' hw => ?_)
          exact ⟨by simp_all [cmpB, bl], hw.below (Bg.le.refl _)⟩
        · try simp only [bs] at h4
          refine Tr.skip ?_
          refine Tr.thenN ?_
          refine Tr.seq ?_
          refine Tr.region ?_
          refine Tr.q (QS.assign rfl) rfl ?_
          refine Tr.nil ?_
          refine Tr.thenN ?_
          refine Tr.ret ?_
          refine Tr.ret1 Try.results88 rfl (fun w' hw => ?_)
          exact ⟨by simp_all [cmpB, bl], hw.below (Bg.le.refl _)⟩

set_option maxRecDepth 100000 in
set_option maxHeartbeats 2000000 in
theorem or_any (l : List Int) (V : Value) (w : World) (hV : Sl (hp w) encInt l V) :
    Calls Try.prog 86 #[V] w (fun e w' => e = .returned (.int .i64 (orP l)) ∧ Ext w w') := by
  have hV' : Sl (Bg.of w).blk encInt l V := hV
  have hlen := hV.len_le
  refine enter Try.func86 rfl Try.ntmps86 rfl ?_
  refine Tr.seq ?_
  refine Tr.region ?_
  refine Tr.q (QS.assign rfl) rfl ?_
  refine Tr.nil ?_
  refine Tr.thenN ?_
  refine Tr.seq ?_
  refine Tr.region ?_
  refine Tr.q (QS.assign rfl) rfl ?_
  refine Tr.nil ?_
  refine Tr.thenN ?_
  refine Tr.seq ?_
  refine Tr.seq ?_
  refine Tr.region ?_
  refine Tr.q (QS.move rfl) rfl ?_
  first | refine Tr.q (QS.len rfl (by assumption) Try.underlying110) rfl ?_ | refine Tr.q (QS.lenRow rfl (by repeat (first | exact List.Mem.head _ | apply List.Mem.tail)) Try.underlying110) rfl ?_ | refine Tr.q (QS.lenNil rfl Try.underlying110) rfl ?_
  refine Tr.q (QS.move rfl) rfl ?_
  refine Tr.nil ?_
  refine Tr.thenN ?_
  refine Tr.block ?_
  refine Tr.loop (ι := Nat) (fun k => k ≤ l.length ∧ orP (l.drop k) = orP l) (fun _ => _) (fun k => []) (fun k => [(8, .int .i64 (k : Nat))]) (fun k => l.length - k) 0 ⟨Nat.zero_le _, rfl⟩ (.cons (by first | rfl | exact lookI rfl (by omega) | exact lookI rfl (by simp) | exact lookB rfl (by simp)) Front.nil) (by repeat' (first | exact Pick.nil _ | exact Del.here _ | apply Pick.cons | apply Del.there)) rfl (fun k hi m hm => ?_)
  replace hi : k ≤ l.length ∧ orP (l.drop k) = orP l := hi
  replace hm : m = l.length - k := hm
  change Tr _ _ [] ([(8, .int .i64 (k : Nat))] ++ _) _
  obtain ⟨hk1, hk2⟩ := hi
  refine Tr.seq ?_
  refine Tr.region ?_
  refine Tr.q (QS.lss rfl rfl) rfl ?_
  refine Tr.nil ?_
  refine Tr.thenN ?_
  refine Tr.seq ?_
  refine Tr.cond rfl (fun h1 => ?_) (fun h1 => ?_)
  · try simp only [bs] at h1
    refine Tr.skip ?_
    refine Tr.thenN ?_
    refine Tr.seq ?_
    refine Tr.block ?_
    refine Tr.seq ?_
    refine Tr.region ?_
    first | refine Tr.q (QS.idxN rfl rfl (by assumption) Try.underlying110 Try.sizeOf3 (by rfl) (by omega)) rfl ?_ | refine Tr.q (QS.idxRowN rfl rfl (by repeat (first | exact List.Mem.head _ | apply List.Mem.tail)) Try.underlying110 Try.sizeOf3 (by rfl) (by omega)) rfl ?_ | refine Tr.q (QS.idx rfl rfl (by assumption) Try.underlying110 Try.sizeOf3 (by rfl) (by omega)) rfl ?_ | refine Tr.q (QS.idxRow rfl rfl (by repeat (first | exact List.Mem.head _ | apply List.Mem.tail)) Try.underlying110 Try.sizeOf3 (by rfl) (by omega)) rfl ?_
    first | refine Tr.q (QS.el1 rfl (by assumption) Try.isAgg3 (by omega) (by rfl)) rfl ?_ | refine Tr.q (QS.elR1 rfl (by repeat (first | exact List.Mem.head _ | apply List.Mem.tail)) Try.isAgg3 (by omega) (by rfl)) rfl ?_
    refine Tr.q (QS.assign rfl) rfl ?_
    refine Tr.nil ?_
    refine Tr.thenN ?_
    refine Tr.seq ?_
    refine Tr.region ?_
    refine Tr.q (QS.move rfl) rfl ?_
    refine Tr.q (QS.move rfl) rfl ?_
    refine Tr.q (QS.neq rfl rfl) rfl ?_
    refine Tr.nil ?_
    refine Tr.thenN ?_
    refine Tr.cond rfl (fun h2 => ?_) (fun h2 => ?_)
    · try simp only [bs] at h2
      refine Tr.seq ?_
      refine Tr.region ?_
      refine Tr.q (QS.move rfl) rfl ?_
      refine Tr.q (QS.assign rfl) rfl ?_
      refine Tr.nil ?_
      refine Tr.thenN ?_
      refine Tr.ret ?_
      refine Tr.inR ?_
      refine Tr.thenR ?_
      refine Tr.thenR ?_
      refine Tr.inR ?_
      refine Tr.thenR ?_
      refine Tr.ret1 Try.results86 rfl (fun w' hw => ?_)
      exact ⟨by rw [← hk2, drop_cons (k := k) (by omega), orP, if_pos (by assumption)], hw.below (Bg.le.refl _)⟩
    · try simp only [bs] at h2
      refine Tr.skip ?_
      refine Tr.inN ?_
      refine Tr.thenN ?_
      refine Tr.region ?_
      first | refine Tr.q (QS.addI rfl rfl (by omega)) rfl ?_ | refine Tr.q (QS.add rfl rfl) rfl ?_
      refine Tr.q (QS.move rfl) rfl ?_
      refine Tr.nil ?_
      refine Tr.thenN ?_
      apply Tr.again (k + 1)
      · exact rfl
      · exact (.cons (by first | rfl | exact lookI rfl (by omega) | exact lookI rfl (by simp) | exact lookB rfl (by simp)) Front.nil)
      · exact SubX.dropN 10 (by kernel_rfl) rfl
      · exact (by repeat' (first | exact Pick.nil _ | exact Del.here _ | apply Pick.cons | apply Del.there))
      · exact ⟨by omega, by rw [← hk2, drop_cons (k := k) (by omega), orP, if_neg (by simp_all)]⟩
      · exact (by (try dsimp only); omega)
  · try simp only [bs] at h1
    refine Tr.exit ?_
    refine Tr.thenE ?_
    refine Tr.thenE ?_
    refine Tr.inHit ?_
    refine Tr.thenN ?_
    refine Tr.seq ?_
    refine Tr.region ?_
    refine Tr.q (QS.move rfl) rfl ?_
    refine Tr.q (QS.assign rfl) rfl ?_
    refine Tr.nil ?_
    refine Tr.thenN ?_
    refine Tr.ret ?_
    refine Tr.ret1 Try.results86 rfl (fun w' hw => ?_)
    exact ⟨by rw [← hk2, List.drop_of_length_le (by omega)]; rfl, hw.below (Bg.le.refl _)⟩

set_option maxRecDepth 100000 in
set_option maxHeartbeats 2000000 in
theorem sorted1_any (x y : SecV) (w : World) :
    Calls Try.prog 85 #[.agg (encSec.enc x).toArray, .agg (encSec.enc y).toArray] w (fun e w' => e = .returned (.int .i64 (cmpS x y)) ∧ Ext w w') := by
  refine enter Try.func85 rfl Try.ntmps85 rfl ?_
  refine Tr.seq ?_
  refine Tr.region ?_
  refine Tr.box rfl rfl rfl (fun b1 => ?_)
  refine Tr.box rfl rfl rfl (fun b2 => ?_)
  refine Tr.q (QS.assign rfl) rfl ?_
  refine Tr.nil ?_
  refine Tr.thenN ?_
  refine Tr.seq ?_
  refine Tr.regionT 0 10 HLF.mixed (by kernel_rfl) (panicThen panicBody) ?_
  refine TrQ.pureNil ?_
  refine TrQ.q (QS.fieldAddr (off := 1) (ft := 23) rfl Try.underlying81 rfl rfl Try.sizeOf23 (by decide)) rfl ?_
  refine TrQ.q (QS.lV rfl Try.isAgg23) rfl ?_
  refine TrQ.q (QS.fieldAddr (off := 1) (ft := 23) rfl Try.underlying81 rfl rfl Try.sizeOf23 (by decide)) rfl ?_
  refine TrQ.q (QS.lV rfl Try.isAgg23) rfl ?_
  refine TrQ.q (QS.call rfl Try.call87 (fun w hw => cmpU_any x.addr y.addr w)) rfl ?_
  refine TrQ.q (QS.fieldAddr (off := 0) (ft := 9) rfl Try.underlying81 rfl rfl Try.sizeOf9 (by decide)) rfl ?_
  refine TrQ.q (QS.lV rfl Try.isAgg9) rfl ?_
  refine TrQ.q (QS.fieldAddr (off := 0) (ft := 9) rfl Try.underlying81 rfl rfl Try.sizeOf9 (by decide)) rfl ?_
  refine TrQ.q (QS.lV rfl Try.isAgg9) rfl ?_
  refine TrQ.q (QS.call rfl Try.call88 (fun w hw => cmpB_any x.name y.name w)) rfl ?_
  refine TrQ.nil ?_
  refine Tr.litN (E := encInt) [cmpU x.addr y.addr, cmpB x.name y.name] (vs := [(0, _), (1, _)]) rfl rfl Try.underlying110 Try.sizeOf3 Try.zeroValue3 (by rfl) (by rfl) rfl (by first | kernel_rfl | rfl) rfl (fun V3 => ?_)
  refine Tr.q (QS.call rfl Try.call86 (fun w hw => or_any [cmpU x.addr y.addr, cmpB x.name y.name] _ w (hw.row (.head _)))) rfl ?_
  refine Tr.q (QS.assign rfl) rfl ?_
  refine Tr.nil ?_
  refine Tr.thenN ?_
  refine Tr.ret ?_
  refine Tr.ret1 Try.results85 rfl (fun w' hw => ?_)
  exact ⟨by rw [orP2, cmpS], hw.below (Bg.le.refl _)⟩

set_option maxRecDepth 100000 in
set_option maxHeartbeats 2000000 in
theorem sorted_sec (l : List SecV) (V : Value) (w : World) (hV : Sl (hp w) encSec l V) (hB : SecB l) (hD : DataIn (hp w) l) :
    Calls Try.prog 56 #[V] w (fun e w' => ∃ i : Value × List Sec, e = .returned i.1 ∧ Ext w w' ∧ SrtAt (l.map SecV.pl) (newHp w w') i) := by
  have hV' : Sl (Bg.of w).blk encSec l V := hV
  have hlen := hB.1
  refine enter Try.func56 rfl Try.ntmps56 rfl ?_
  refine Tr.seq ?_
  refine Tr.region ?_
  refine Tr.q (QS.assign rfl) rfl ?_
  refine Tr.nil ?_
  refine Tr.thenN ?_
  refine Tr.seq ?_
  refine Tr.region ?_
  refine Tr.q (QS.move rfl) rfl ?_
  refine Tr.callEnts (fun i : Value × List SecV => i.1) (fun i => secEnts 81 5 i.1 i.2) (ok := fun i => i.2.map SecV.pl = l.map SecV.pl) rfl Try.call75 (fun w hw => own_sec l V w (hw.slF hV) hB (hD.mono hw.bg)) rfl (fun i hi => ?_)
  refine Tr.q (QS.assign rfl) rfl ?_
  refine Tr.nil ?_
  refine Tr.thenN ?_
  refine Tr.seq ?_
  obtain ⟨Vo, xs⟩ := i
  dsimp only
  replace hi : xs.map SecV.pl = l.map SecV.pl := hi
  have hxl := map_pl_len hi
  change Tr _ _ (rowE Vo _ encSec xs :: (xs.reverse.map (dRow _) ++ [])) _ _
  refine Tr.region ?_
  refine Tr.q (QS.move rfl) rfl ?_
  refine Tr.callMutR (fun c => Stab ltP xs c ∧ Fram 0 xs.length xs c ∧ Srt ltP c 0 xs.length) rfl Try.call84 (fun w hw => by have q := sortStable_sec xs Vo 85 cmpS Try.call85 (fun x y w' => sorted1_any x y w') (by rw [ltC_eq]; exact wo_ltP) w (hw.ent _ (.head _)) (by omega); unfold srtP at q; rw [ltC_eq] at q; exact q) rfl (fun c2 hc2 => ?_)
  refine Tr.nil ?_
  refine Tr.thenN ?_
  refine Tr.seq ?_
  refine Tr.region ?_
  refine Tr.q (QS.move rfl) rfl ?_
  refine Tr.q (QS.assign rfl) rfl ?_
  refine Tr.nil ?_
  refine Tr.thenN ?_
  refine Tr.ret ?_
  refine Tr.ret1 Try.results56 rfl (fun w' hw => ?_)
  have hcl := hc2.1.len
  rw [List.append_nil] at hw
  exact ⟨(Vo, c2.map SecV.pl), rfl, hw.below (Bg.le.refl _), (hw.ents (w := w) (Bg.le.refl _) (Pick.refl _)).secsOf (fun s hs => List.mem_reverse.2 (hc2.1.1.symm.subset hs)), by rw [← hi]; exact hc2.1.pl, sorted_pl (Srt.all (by rw [hcl]; exact hc2.2.2))⟩

set_option maxRecDepth 100000 in
set_option maxHeartbeats 8000000 in
theorem refSorted_any (l : List SecV) (V : Value) (w : World) (hV : Sl (hp w) encSec l V) (hB : SecB l) (hD : DataIn (hp w) l) :
    Calls Try.prog 57 #[V] w (fun e w' => ∃ i : Value × List Sec, e = .returned i.1 ∧ Ext w w' ∧ SrtAt (l.map SecV.pl) (newHp w w') i) := by
  have hV' : Sl (Bg.of w).blk encSec l V := hV
  have hlen := hB.1
  refine enter Try.func57 rfl Try.ntmps57 rfl ?_
  refine Tr.seq ?_
  refine Tr.region ?_
  refine Tr.q (QS.assign rfl) rfl ?_
  refine Tr.nil ?_
  refine Tr.thenN ?_
  refine Tr.seq ?_
  refine Tr.region ?_
  refine Tr.q (QS.assign rfl) rfl ?_
  refine Tr.nil ?_
  refine Tr.thenN ?_
  refine Tr.seq ?_
  refine Tr.seq ?_
  refine Tr.region ?_
  refine Tr.q (QS.assign rfl) rfl ?_
  refine Tr.nil ?_
  refine Tr.thenN ?_
  refine Tr.block ?_
  refine Tr.ownNil 81 encSec ?_
  refine Tr.loop (ι := Nat × Value × List SecV × List SecV) (fun ⟨i, V', ys, xs⟩ => i ≤ l.length ∧ xs.length = i ∧ ys.map SecV.pl = (l.take i).map SecV.pl ∧ Stab ltP ys xs ∧ Srt ltP xs 0 i) (fun _ => _) (fun ⟨i, V', ys, xs⟩ => (rowE V' 81 encSec xs :: ys.reverse.map (dRow 5))) (fun ⟨i, V', ys, xs⟩ => [(4, .int .i64 (i : Nat)), (3, V')]) (fun ⟨i, V', ys, xs⟩ => l.length - i) (0, _, [], []) ⟨Nat.zero_le _, rfl, rfl, .refl _ _, .one (by omega)⟩ (.cons (by first | rfl | exact lookI rfl (by omega) | exact lookI rfl (by simp) | exact lookB rfl (by simp)) (.cons (by first | rfl | exact lookI rfl (by omega) | exact lookI rfl (by simp) | exact lookB rfl (by simp)) Front.nil)) (by repeat' (first | exact Pick.nil _ | exact Del.here _ | apply Pick.cons | apply Del.there)) rfl (fun i hi m hm => ?_)
  obtain ⟨i, V', ys, xs⟩ := i
  replace hi : i ≤ l.length ∧ xs.length = i ∧ ys.map SecV.pl = (l.take i).map SecV.pl ∧ Stab ltP ys xs ∧ Srt ltP xs 0 i := hi
  replace hm : m = l.length - i := hm
  change Tr _ _ (rowE V' 81 encSec xs :: ys.reverse.map (dRow 5)) ([(4, .int .i64 (i : Nat)), (3, V')] ++ _) _
  obtain ⟨hi1, hi2, hi3, hi4, hi5⟩ := hi
  refine Tr.seq ?_
  refine Tr.seq ?_
  refine Tr.region ?_
  refine Tr.q (QS.move rfl) rfl ?_
  refine Tr.q (QS.move rfl) rfl ?_
  first | refine Tr.q (QS.len rfl (by assumption) Try.underlying53) rfl ?_ | refine Tr.q (QS.lenRow rfl (by repeat (first | exact List.Mem.head _ | apply List.Mem.tail)) Try.underlying53) rfl ?_ | refine Tr.q (QS.lenNil rfl Try.underlying53) rfl ?_
  refine Tr.q (QS.lss rfl rfl) rfl ?_
  refine Tr.nil ?_
  refine Tr.thenN ?_
  refine Tr.cond rfl (fun h1 => ?_) (fun h1 => ?_)
  · try simp only [bs] at h1
    refine Tr.skip ?_
    refine Tr.thenN ?_
    refine Tr.seq ?_
    refine Tr.block ?_
    refine Tr.seq ?_
    refine Tr.region ?_
    refine Tr.q (QS.move rfl) rfl ?_
    refine Tr.q (QS.move rfl) rfl ?_
    first | refine Tr.q (QS.idxN rfl rfl (by assumption) Try.underlying53 Try.sizeOf81 (by rfl) (by omega)) rfl ?_ | refine Tr.q (QS.idxRowN rfl rfl (by repeat (first | exact List.Mem.head _ | apply List.Mem.tail)) Try.underlying53 Try.sizeOf81 (by rfl) (by omega)) rfl ?_ | refine Tr.q (QS.idx rfl rfl (by assumption) Try.underlying53 Try.sizeOf81 (by rfl) (by omega)) rfl ?_ | refine Tr.q (QS.idxRow rfl rfl (by repeat (first | exact List.Mem.head _ | apply List.Mem.tail)) Try.underlying53 Try.sizeOf81 (by rfl) (by omega)) rfl ?_
    first | refine Tr.q (QS.elA rfl (by assumption) Try.isAgg81 Try.sizeOf81 (by rfl) (by omega)) rfl ?_ | refine Tr.q (QS.elRA rfl (by repeat (first | exact List.Mem.head _ | apply List.Mem.tail)) Try.isAgg81 Try.sizeOf81 (by rfl) (by omega)) rfl ?_
    refine Tr.callEnts (fun s' : SecV => .agg (encSec.enc s').toArray) (fun s' => [dRow 5 s']) (ok := fun s' => s'.pl = (l.getD i default).pl) rfl Try.call89 (fun w hw => refCopy_any (l.getD i default) w (hB.at (by omega)) ((hD.mono hw.bg) _ (mem_getD (by omega)))) rfl (fun s' hs' => ?_)
    refine Tr.alloc Try.zeroValue81 rfl rfl (fun b2 => ?_)
    refine Tr.storeW rfl rfl Try.sizeOf81 (by repeat (first | exact Put.here _ | apply Put.there)) (by rfl) (by rfl) (by first | exact List.all_eq_true.1 rfl | exact Enc.one _ _ | exact Enc.one encSec _) rfl ?_
    refine Tr.nil ?_
    refine Tr.thenN ?_
    refine Tr.seq ?_
    refine Tr.region ?_
    refine Tr.q (QS.move rfl) rfl ?_
    refine Tr.q (QS.lW rfl Try.isAgg81 Try.sizeOf81) rfl ?_
    refine Tr.lit1 (E := encSec) s' rfl rfl Try.underlying53 Try.sizeOf81 Try.zeroValue81 (by rfl) (by rfl) rfl (fun V3 => ?_)
    refine Tr.append1 rfl rfl (by repeat (first | exact Del.here _ | apply Del.there)) (by repeat (first | exact Del.here _ | apply Del.there)) Try.underlying53 HLF.info81 (by rfl) (by rfl) (by (try simp only [List.length_cons, List.length_nil, List.length_append, List.length_take]); omega) (by unfold maxLen; (try simp only [List.length_cons, List.length_nil, List.length_append, List.length_take]); omega) rfl (fun V4 => ?_)
    refine Tr.q (QS.assign rfl) rfl ?_
    refine Tr.nil ?_
    refine Tr.thenN ?_
    refine Tr.seq ?_
    have hXl : (xs ++ [s']).length = i + 1 := by simp [hi2]
    refine Tr.region ?_
    refine Tr.q (QS.move rfl) rfl ?_
    first | refine Tr.q (QS.len rfl (by assumption) Try.underlying53) rfl ?_ | refine Tr.q (QS.lenRow rfl (by repeat (first | exact List.Mem.head _ | apply List.Mem.tail)) Try.underlying53) rfl ?_ | refine Tr.q (QS.lenNil rfl Try.underlying53) rfl ?_
    first | refine Tr.q (QS.subI rfl rfl (by omega)) rfl ?_ | refine Tr.q (QS.sub rfl rfl) rfl ?_
    refine Tr.q (QS.assign rfl) rfl ?_
    refine Tr.nil ?_
    refine Tr.thenN ?_
    refine Tr.seq ?_
    refine Tr.block ?_
    refine Tr.loop (ι := Nat × List SecV) (fun ⟨k, cur⟩ => k ≤ i ∧ cur.length = i + 1 ∧ (∀ q, q < k → cur.getD q default = (xs ++ [s']).getD q default) ∧ (∀ q, k < q → q ≤ i → cur.getD q default = (xs ++ [s']).getD (q - 1) default) ∧ (∀ q, k ≤ q → q < i → ltP s' ((xs ++ [s']).getD q default) = true)) (fun _ => _) (fun ⟨k, cur⟩ => (rowE V4 81 encSec cur :: cellE b2 (encSec.enc s') 81 :: dRow 5 s' :: ys.reverse.map (dRow 5))) (fun ⟨k, cur⟩ => [(6, .int .i64 (k : Nat))]) (fun ⟨k, cur⟩ => k) (i, xs ++ [s']) ⟨Nat.le_refl _, hXl, fun q x => rfl, fun q x y => by omega, fun q x y => by omega⟩ (.cons (by first | rfl | exact lookI rfl (by omega) | exact lookI rfl (by simp) | exact lookB rfl (by simp)) Front.nil) (Pick.refl _) rfl (fun i hi m hm => ?_)
    obtain ⟨k, cur⟩ := i
    replace hi : k ≤ i ∧ cur.length = i + 1 ∧ (∀ q, q < k → cur.getD q default = (xs ++ [s']).getD q default) ∧ (∀ q, k < q → q ≤ i → cur.getD q default = (xs ++ [s']).getD (q - 1) default) ∧ (∀ q, k ≤ q → q < i → ltP s' ((xs ++ [s']).getD q default) = true) := hi
    replace hm : m = k := hm
    change Tr _ _ (rowE V4 81 encSec cur :: cellE b2 (encSec.enc s') 81 :: dRow 5 s' :: ys.reverse.map (dRow 5)) ([(6, .int .i64 (k : Nat))] ++ _) _
    obtain ⟨hk1, hk2, hk3, hk4, hk5⟩ := hi
    have ej : ((k : Int) - 1).toNat = k - 1 := by omega
    refine Tr.seq ?_
    refine Tr.seq ?_
    refine Tr.regionQ HLF.mixed (by kernel_rfl) ?_
    refine TrQ.q (QS.move rfl) rfl ?_
    refine TrQ.q (QS.gtr rfl rfl) rfl ?_
    refine TrQ.q (QS.move rfl) rfl ?_
    apply TrQ.andP
    · exact (rfl : _ = (32, 27, 59))
    · exact rfl
    · intro hT5; have hT5' := hT5
      try simp only [bs] at hT5'
      refine TrQ.gq rfl rfl hT5 (QS.fieldAddr (off := 1) (ft := 23) rfl Try.underlying81 rfl rfl Try.sizeOf23 (by decide)) rfl ?_
      refine TrQ.gq rfl rfl hT5 (QS.lV rfl Try.isAgg23) rfl ?_
      refine TrQ.gq rfl rfl hT5 (QS.move rfl) rfl ?_
      refine TrQ.gq rfl rfl hT5 (QS.move rfl) rfl ?_
      first | refine TrQ.gq rfl rfl hT5 (QS.subI rfl rfl (by omega)) rfl ?_ | refine TrQ.gq rfl rfl hT5 (QS.sub rfl rfl) rfl ?_
      first | refine TrQ.gq rfl rfl hT5 (QS.idxN rfl rfl (by assumption) Try.underlying53 Try.sizeOf81 (by rfl) (by omega)) rfl ?_ | refine TrQ.gq rfl rfl hT5 (QS.idxRowN rfl rfl (by repeat (first | exact List.Mem.head _ | apply List.Mem.tail)) Try.underlying53 Try.sizeOf81 (by rfl) (by omega)) rfl ?_ | refine TrQ.gq rfl rfl hT5 (QS.idx rfl rfl (by assumption) Try.underlying53 Try.sizeOf81 (by rfl) (by omega)) rfl ?_ | refine TrQ.gq rfl rfl hT5 (QS.idxRow rfl rfl (by repeat (first | exact List.Mem.head _ | apply List.Mem.tail)) Try.underlying53 Try.sizeOf81 (by rfl) (by omega)) rfl ?_
      refine TrQ.gq rfl rfl hT5 (QS.fieldAddr (off := 1) (ft := 23) rfl Try.underlying81 rfl rfl Try.sizeOf23 (by decide)) rfl ?_
      first | refine TrQ.gq rfl rfl hT5 (QS.elF rfl (by assumption) Try.isAgg23 (by omega) (by rfl)) rfl ?_ | refine TrQ.gq rfl rfl hT5 (QS.elRF rfl (by repeat (first | exact List.Mem.head _ | apply List.Mem.tail)) Try.isAgg23 (by omega) (by rfl)) rfl ?_
      refine TrQ.gq rfl rfl hT5 (QS.lss32 rfl rfl) rfl ?_
      refine TrQ.gq rfl rfl hT5 (QS.move rfl) rfl ?_
      apply TrQ.orP
      · exact (rfl : _ = (21, 37, 58))
      · exact rfl
      · intro hF6; have hF6' := hF6
        try simp only [bs] at hF6'
        refine TrQ.gq rfl rfl hF6 (QS.fieldAddr (off := 1) (ft := 23) rfl Try.underlying81 rfl rfl Try.sizeOf23 (by decide)) rfl ?_
        refine TrQ.gq rfl rfl hF6 (QS.lV rfl Try.isAgg23) rfl ?_
        refine TrQ.gq rfl rfl hF6 (QS.move rfl) rfl ?_
        refine TrQ.gq rfl rfl hF6 (QS.move rfl) rfl ?_
        first | refine TrQ.gq rfl rfl hF6 (QS.subI rfl rfl (by omega)) rfl ?_ | refine TrQ.gq rfl rfl hF6 (QS.sub rfl rfl) rfl ?_
        first | refine TrQ.gq rfl rfl hF6 (QS.idxN rfl rfl (by assumption) Try.underlying53 Try.sizeOf81 (by rfl) (by omega)) rfl ?_ | refine TrQ.gq rfl rfl hF6 (QS.idxRowN rfl rfl (by repeat (first | exact List.Mem.head _ | apply List.Mem.tail)) Try.underlying53 Try.sizeOf81 (by rfl) (by omega)) rfl ?_ | refine TrQ.gq rfl rfl hF6 (QS.idx rfl rfl (by assumption) Try.underlying53 Try.sizeOf81 (by rfl) (by omega)) rfl ?_ | refine TrQ.gq rfl rfl hF6 (QS.idxRow rfl rfl (by repeat (first | exact List.Mem.head _ | apply List.Mem.tail)) Try.underlying53 Try.sizeOf81 (by rfl) (by omega)) rfl ?_
        refine TrQ.gq rfl rfl hF6 (QS.fieldAddr (off := 1) (ft := 23) rfl Try.underlying81 rfl rfl Try.sizeOf23 (by decide)) rfl ?_
        first | refine TrQ.gq rfl rfl hF6 (QS.elF rfl (by assumption) Try.isAgg23 (by omega) (by rfl)) rfl ?_ | refine TrQ.gq rfl rfl hF6 (QS.elRF rfl (by repeat (first | exact List.Mem.head _ | apply List.Mem.tail)) Try.isAgg23 (by omega) (by rfl)) rfl ?_
        refine TrQ.gq rfl rfl hF6 (QS.eql32 rfl rfl) rfl ?_
        refine TrQ.gq rfl rfl hF6 (QS.move rfl) rfl ?_
        apply TrQ.andP
        · exact (rfl : _ = (10, 47, 57))
        · exact rfl
        · intro hT7; have hT7' := hT7
          try simp only [bs] at hT7'
          refine TrQ.gq rfl rfl hT7 (QS.fieldAddr (off := 0) (ft := 9) rfl Try.underlying81 rfl rfl Try.sizeOf9 (by decide)) rfl ?_
          refine TrQ.gq rfl rfl hT7 (QS.lV rfl Try.isAgg9) rfl ?_
          refine TrQ.gq rfl rfl hT7 (QS.move rfl) rfl ?_
          refine TrQ.gq rfl rfl hT7 (QS.move rfl) rfl ?_
          first | refine TrQ.gq rfl rfl hT7 (QS.subI rfl rfl (by omega)) rfl ?_ | refine TrQ.gq rfl rfl hT7 (QS.sub rfl rfl) rfl ?_
          first | refine TrQ.gq rfl rfl hT7 (QS.idxN rfl rfl (by assumption) Try.underlying53 Try.sizeOf81 (by rfl) (by omega)) rfl ?_ | refine TrQ.gq rfl rfl hT7 (QS.idxRowN rfl rfl (by repeat (first | exact List.Mem.head _ | apply List.Mem.tail)) Try.underlying53 Try.sizeOf81 (by rfl) (by omega)) rfl ?_ | refine TrQ.gq rfl rfl hT7 (QS.idx rfl rfl (by assumption) Try.underlying53 Try.sizeOf81 (by rfl) (by omega)) rfl ?_ | refine TrQ.gq rfl rfl hT7 (QS.idxRow rfl rfl (by repeat (first | exact List.Mem.head _ | apply List.Mem.tail)) Try.underlying53 Try.sizeOf81 (by rfl) (by omega)) rfl ?_
          refine TrQ.gq rfl rfl hT7 (QS.fieldAddr (off := 0) (ft := 9) rfl Try.underlying81 rfl rfl Try.sizeOf9 (by decide)) rfl ?_
          first | refine TrQ.gq rfl rfl hT7 (QS.elF rfl (by assumption) Try.isAgg9 (by omega) (by rfl)) rfl ?_ | refine TrQ.gq rfl rfl hT7 (QS.elRF rfl (by repeat (first | exact List.Mem.head _ | apply List.Mem.tail)) Try.isAgg9 (by omega) (by rfl)) rfl ?_
          refine TrQ.gq rfl rfl hT7 (QS.str_lss rfl rfl) rfl ?_
          refine TrQ.gq rfl rfl hF6 (QS.pickT rfl hT7 rfl) rfl ?_
          exact TrQ.end (Sub.cons rfl (Sub.dropN 10 (by kernel_rfl) rfl))
        · intro hF7
          refine TrQ.gskip rfl rfl hF7 rfl ?_
          refine TrQ.gskip rfl rfl hF7 rfl ?_
          refine TrQ.gskip rfl rfl hF7 rfl ?_
          refine TrQ.gskip rfl rfl hF7 rfl ?_
          refine TrQ.gskip rfl rfl hF7 rfl ?_
          refine TrQ.gskip rfl rfl hF7 rfl ?_
          refine TrQ.gskip rfl rfl hF7 rfl ?_
          refine TrQ.gskip rfl rfl hF7 rfl ?_
          refine TrQ.gskip rfl rfl hF7 rfl ?_
          refine TrQ.gq rfl rfl hF6 (QS.pickF rfl hF7 rfl) rfl ?_
          exact TrQ.end (Sub.cons rfl (Sub.dropN 10 (by kernel_rfl) rfl))
        refine TrQ.gq rfl rfl hT5 (QS.pickF rfl hF6 rfl) rfl ?_
        exact TrQ.end (Sub.cons rfl (Sub.dropN 12 (by kernel_rfl) rfl))
      · intro hT6
        refine TrQ.gskip rfl rfl hT6 rfl ?_
        refine TrQ.gskip rfl rfl hT6 rfl ?_
        refine TrQ.gskip rfl rfl hT6 rfl ?_
        refine TrQ.gskip rfl rfl hT6 rfl ?_
        refine TrQ.gskip rfl rfl hT6 rfl ?_
        refine TrQ.gskip rfl rfl hT6 rfl ?_
        refine TrQ.gskip rfl rfl hT6 rfl ?_
        refine TrQ.gskip rfl rfl hT6 rfl ?_
        refine TrQ.gskip rfl rfl hT6 rfl ?_
        refine TrQ.gskip rfl rfl hT6 rfl ?_
        refine TrQ.gskipU rfl rfl rfl ?_
        refine TrQ.gskipU rfl rfl rfl ?_
        refine TrQ.gskipU rfl rfl rfl ?_
        refine TrQ.gskipU rfl rfl rfl ?_
        refine TrQ.gskipU rfl rfl rfl ?_
        refine TrQ.gskipU rfl rfl rfl ?_
        refine TrQ.gskipU rfl rfl rfl ?_
        refine TrQ.gskipU rfl rfl rfl ?_
        refine TrQ.gskipU rfl rfl rfl ?_
        refine TrQ.gskip rfl rfl hT6 rfl ?_
        refine TrQ.gq rfl rfl hT5 (QS.pickT rfl hT6 rfl) rfl ?_
        exact TrQ.end (Sub.cons rfl (Sub.dropN 21 (by kernel_rfl) rfl))
      refine TrQ.q (QS.pickT rfl hT5 rfl) rfl ?_
      exact TrQ.end (Sub.cons rfl (Sub.dropN 12 (by kernel_rfl) rfl))
    · intro hF5
      refine TrQ.gskip rfl rfl hF5 rfl ?_
      refine TrQ.gskip rfl rfl hF5 rfl ?_
      refine TrQ.gskip rfl rfl hF5 rfl ?_
      refine TrQ.gskip rfl rfl hF5 rfl ?_
      refine TrQ.gskip rfl rfl hF5 rfl ?_
      refine TrQ.gskip rfl rfl hF5 rfl ?_
      refine TrQ.gskip rfl rfl hF5 rfl ?_
      refine TrQ.gskip rfl rfl hF5 rfl ?_
      refine TrQ.gskip rfl rfl hF5 rfl ?_
      refine TrQ.gskip rfl rfl hF5 rfl ?_
      refine TrQ.gskipU rfl rfl rfl ?_
      refine TrQ.gskipU rfl rfl rfl ?_
      refine TrQ.gskipU rfl rfl rfl ?_
      refine TrQ.gskipU rfl rfl rfl ?_
      refine TrQ.gskipU rfl rfl rfl ?_
      refine TrQ.gskipU rfl rfl rfl ?_
      refine TrQ.gskipU rfl rfl rfl ?_
      refine TrQ.gskipU rfl rfl rfl ?_
      refine TrQ.gskipU rfl rfl rfl ?_
      refine TrQ.gskipU rfl rfl rfl ?_
      refine TrQ.gskipU rfl rfl rfl ?_
      refine TrQ.gskipU rfl rfl rfl ?_
      refine TrQ.gskipU rfl rfl rfl ?_
      refine TrQ.gskipU rfl rfl rfl ?_
      refine TrQ.gskipU rfl rfl rfl ?_
      refine TrQ.gskipU rfl rfl rfl ?_
      refine TrQ.gskipU rfl rfl rfl ?_
      refine TrQ.gskipU rfl rfl rfl ?_
      refine TrQ.gskipU rfl rfl rfl ?_
      refine TrQ.gskipU rfl rfl rfl ?_
      refine TrQ.gskip rfl rfl hF5 rfl ?_
      refine TrQ.q (QS.pickF rfl hF5 rfl) rfl ?_
      exact TrQ.end (Sub.cons rfl (Sub.dropN 32 (by kernel_rfl) rfl))
    refine TrQ.nil ?_
    refine Tr.thenN ?_
    refine Tr.cond rfl (fun h8 => ?_) (fun h8 => ?_)
    · try simp only [bs] at h8
      refine Tr.skip ?_
      refine Tr.thenN ?_
      refine Tr.block ?_
      refine Tr.seq ?_
      refine Tr.region ?_
      refine Tr.q (QS.move rfl) rfl ?_
      refine Tr.q (QS.move rfl) rfl ?_
      refine Tr.q (QS.move rfl) rfl ?_
      refine Tr.q (QS.move rfl) rfl ?_
      first | refine Tr.q (QS.subI rfl rfl (by omega)) rfl ?_ | refine Tr.q (QS.sub rfl rfl) rfl ?_
      first | refine Tr.q (QS.idxN rfl rfl (by assumption) Try.underlying53 Try.sizeOf81 (by rfl) (by omega)) rfl ?_ | refine Tr.q (QS.idxRowN rfl rfl (by repeat (first | exact List.Mem.head _ | apply List.Mem.tail)) Try.underlying53 Try.sizeOf81 (by rfl) (by omega)) rfl ?_ | refine Tr.q (QS.idx rfl rfl (by assumption) Try.underlying53 Try.sizeOf81 (by rfl) (by omega)) rfl ?_ | refine Tr.q (QS.idxRow rfl rfl (by repeat (first | exact List.Mem.head _ | apply List.Mem.tail)) Try.underlying53 Try.sizeOf81 (by rfl) (by omega)) rfl ?_
      first | refine Tr.q (QS.elA rfl (by assumption) Try.isAgg81 Try.sizeOf81 (by rfl) (by omega)) rfl ?_ | refine Tr.q (QS.elRA rfl (by repeat (first | exact List.Mem.head _ | apply List.Mem.tail)) Try.isAgg81 Try.sizeOf81 (by rfl) (by omega)) rfl ?_
      first | refine Tr.q (QS.idxN rfl rfl (by assumption) Try.underlying53 Try.sizeOf81 (by rfl) (by omega)) rfl ?_ | refine Tr.q (QS.idxRowN rfl rfl (by repeat (first | exact List.Mem.head _ | apply List.Mem.tail)) Try.underlying53 Try.sizeOf81 (by rfl) (by omega)) rfl ?_ | refine Tr.q (QS.idx rfl rfl (by assumption) Try.underlying53 Try.sizeOf81 (by rfl) (by omega)) rfl ?_ | refine Tr.q (QS.idxRow rfl rfl (by repeat (first | exact List.Mem.head _ | apply List.Mem.tail)) Try.underlying53 Try.sizeOf81 (by rfl) (by omega)) rfl ?_
      refine Tr.storeEl (l := cur) (i := k) (cur.getD ((k : Int) - 1).toNat default) rfl rfl Try.sizeOf81 (by repeat (first | exact Put.here _ | apply Put.there)) (by (try simp only [List.length_set]); omega) (by rfl) rfl ?_
      have hls9 : (List.set cur (k) (cur.getD ((k : Int) - 1).toNat default)).length = (cur).length := List.length_set
      refine Tr.nil ?_
      refine Tr.thenN ?_
      refine Tr.region ?_
      refine Tr.q (QS.move rfl) rfl ?_
      first | refine Tr.q (QS.subI rfl rfl (by omega)) rfl ?_ | refine Tr.q (QS.sub rfl rfl) rfl ?_
      refine Tr.q (QS.assign rfl) rfl ?_
      refine Tr.nil ?_
      refine Tr.inN ?_
      refine Tr.thenN ?_
      have hlt : ltP s' (cur.getD (k - 1) default) = true := by
        rw [← ej]
        simpa [ltP, ltS, SecV.pl, bl] using h8.2
      have hlt2 := hk3 (k - 1) (by omega)
      rw [hlt2] at hlt
      have n1 : ∀ q, q < k - 1 → (cur.set k (cur.getD (k - 1) default)).getD q default = (xs ++ [s']).getD q default := fun q x => by rw [getD_set_ne' (by omega)]; exact hk3 q (by omega)
      have n2 : ∀ q, k - 1 < q → q ≤ i → (cur.set k (cur.getD (k - 1) default)).getD q default = (xs ++ [s']).getD (q - 1) default := fun q x y => by
        by_cases c : q = k
        · subst c
          rw [List.getD_eq_getElem?_getD, List.getElem?_set_self (by omega)]
          exact hlt2
        · rw [getD_set_ne' (by omega)]; exact hk4 q (by omega) y
      have n3 : ∀ q, k - 1 ≤ q → q < i → ltP s' ((xs ++ [s']).getD q default) = true := fun q x y => by
        by_cases c : q = k - 1
        · rw [c]; exact hlt
        · exact hk5 q (by omega) y
      rw [ej]
      apply Tr.again (k - 1, cur.set k (cur.getD (k - 1) default))
      · exact rfl
      · exact (.cons (by first | rfl | exact lookI rfl (by omega) | exact lookI rfl (by simp) | exact lookB rfl (by simp)) Front.nil)
      · exact SubX.dropN 16 (by kernel_rfl) rfl
      · exact (Pick.refl _)
      · exact ⟨by omega, by rw [List.length_set]; exact hk2, n1, n2, n3⟩
      · exact (by (try dsimp only); omega)
    · try simp only [bs] at h8
      refine Tr.exit ?_
      refine Tr.thenE ?_
      refine Tr.thenE ?_
      refine Tr.inHit ?_
      refine Tr.thenN ?_
      refine Tr.region ?_
      refine Tr.q (QS.move rfl) rfl ?_
      refine Tr.q (QS.move rfl) rfl ?_
      refine Tr.q (QS.lW rfl Try.isAgg81 Try.sizeOf81) rfl ?_
      first | refine Tr.q (QS.idxN rfl rfl (by assumption) Try.underlying53 Try.sizeOf81 (by rfl) (by omega)) rfl ?_ | refine Tr.q (QS.idxRowN rfl rfl (by repeat (first | exact List.Mem.head _ | apply List.Mem.tail)) Try.underlying53 Try.sizeOf81 (by rfl) (by omega)) rfl ?_ | refine Tr.q (QS.idx rfl rfl (by assumption) Try.underlying53 Try.sizeOf81 (by rfl) (by omega)) rfl ?_ | refine Tr.q (QS.idxRow rfl rfl (by repeat (first | exact List.Mem.head _ | apply List.Mem.tail)) Try.underlying53 Try.sizeOf81 (by rfl) (by omega)) rfl ?_
      refine Tr.storeEl (l := cur) (i := k) (s') rfl rfl Try.sizeOf81 (by repeat (first | exact Put.here _ | apply Put.there)) (by (try simp only [List.length_set]); omega) (by rfl) rfl ?_
      have hls10 : (List.set cur (k) (s')).length = (cur).length := List.length_set
      refine Tr.nil ?_
      refine Tr.inN ?_
      refine Tr.thenN ?_
      refine Tr.region ?_
      refine Tr.q (QS.move rfl) rfl ?_
      first | refine Tr.q (QS.addI rfl rfl (by omega)) rfl ?_ | refine Tr.q (QS.add rfl rfl) rfl ?_
      refine Tr.q (QS.assign rfl) rfl ?_
      refine Tr.nil ?_
      refine Tr.thenN ?_
      rw [ins_set hi2 hk1 hk2 hk3 hk4]
      have hXi : (xs ++ [s']).getD i default = s' := by rw [List.getD_eq_getElem?_getD, List.getElem?_append_right (by omega)]; simp [hi2]
      have hXq : ∀ q, q < i → (xs ++ [s']).getD q default = xs.getD q default := fun q x => by rw [List.getD_eq_getElem?_getD, List.getElem?_append_left (by omega), ← List.getD_eq_getElem?_getD]
      have hsx : Srt ltP (xs ++ [s']) 0 i := fun p q x y z => by rw [hXq p (by omega), hXq q z]; exact hi5 p q x y z
      have hk5' : ∀ q, k ≤ q → q < i → ltP ((xs ++ [s']).getD i default) ((xs ++ [s']).getD q default) = true := fun q x y => by rw [hXi]; exact hk5 q x y
      have hB0 : k = 0 ∨ ltP ((xs ++ [s']).getD i default) ((xs ++ [s']).getD (k - 1) default) = false := by
        by_cases c : k = 0
        · exact .inl c
        · refine .inr ?_
          rw [hXi, ← hk3 (k - 1) (by omega), ← ej]
          obtain ⟨g1, g2⟩ := h8.resolve_left (by omega)
          simp only [ltP, ltS, SecV.pl, bl, Bool.or_eq_false_iff, Bool.and_eq_false_iff]
          exact ⟨decide_eq_false g1, g2.imp (fun q => decide_eq_false q) id⟩
      have hys : (ys ++ [s']).map SecV.pl = (l.take (i + 1)).map SecV.pl := by rw [List.map_append, hi3, take_succ (by omega), List.map_append, List.map_cons, hs']; rfl
      have hin := srt_ins wo_ltP (l := (xs ++ [s'])) (a := 0) (i := i) (j := k) hsx (by rw [hXl]; omega) (Nat.zero_le _) hk1 hk5' hB0
      apply Tr.again (i + 1, _, ys ++ [s'], mp (rotF k i (i + 1)) (xs ++ [s']))
      · exact rfl
      · exact (.cons (by first | rfl | exact lookI rfl (by omega) | exact lookI rfl (by simp) | exact lookB rfl (by simp)) (.cons (by first | rfl | exact lookI rfl (by omega) | exact lookI rfl (by simp) | exact lookB rfl (by simp)) Front.nil))
      · exact SubX.dropN 33 (by kernel_rfl) rfl
      · exact (by show Pick _ (rowE _ _ _ _ :: (ys ++ [s']).reverse.map (dRow 5)); rw [List.reverse_append]; exact .cons (.here _) (.cons (.there _ (.here _)) (Pick.tl _ _)))
      · exact ⟨by omega, by rw [mp_len, hXl], hys, (hi4.append [s']).trans hin.1, hin.2⟩
      · exact (by (try dsimp only); omega)
  · try simp only [bs] at h1
    refine Tr.exit ?_
    refine Tr.thenE ?_
    refine Tr.thenE ?_
    refine Tr.inHit ?_
    refine Tr.thenN ?_
    refine Tr.seq ?_
    refine Tr.region ?_
    refine Tr.q (QS.move rfl) rfl ?_
    refine Tr.q (QS.assign rfl) rfl ?_
    refine Tr.nil ?_
    refine Tr.thenN ?_
    refine Tr.ret ?_
    refine Tr.ret1 Try.results57 rfl (fun w' hw => ?_)
    have hl2 : i = l.length := by omega
    rw [hl2, List.take_of_length_le (Nat.le_refl _)] at hi3
    exact ⟨(V', xs.map SecV.pl), rfl, hw.below (Bg.le.refl _), (hw.ents (w := w) (Bg.le.refl _) (Pick.refl _)).secsOf (fun s hs => List.mem_reverse.2 (hi4.1.symm.subset hs)), by rw [← hi3]; exact hi4.pl, sorted_pl (Srt.all (by rw [hi2]; exact hi5))⟩

set_option maxRecDepth 100000 in
set_option maxHeartbeats 2000000 in
theorem same_any (l : List Rng) (V W : Value) (w : World) (hV : Sl (hp w) encRng l V) (hW : Sl (hp w) encRng l W) :
    Calls Try.prog 54 #[V, W] w (fun e w' => e = .returned (.bool true) ∧ Ext w w') := by
  have hV' : Sl (Bg.of w).blk encRng l V := hV
  have hW' : Sl (Bg.of w).blk encRng l W := hW
  have hlen := hV.len_le
  refine enter Try.func54 rfl Try.ntmps54 rfl ?_
  refine Tr.seq ?_
  refine Tr.region ?_
  refine Tr.q (QS.assign rfl) rfl ?_
  refine Tr.nil ?_
  refine Tr.thenN ?_
  refine Tr.seq ?_
  refine Tr.seq ?_
  refine Tr.region ?_
  refine Tr.q (QS.move rfl) rfl ?_
  first | refine Tr.q (QS.len rfl (by assumption) Try.underlying31) rfl ?_ | refine Tr.q (QS.lenRow rfl (by repeat (first | exact List.Mem.head _ | apply List.Mem.tail)) Try.underlying31) rfl ?_ | refine Tr.q (QS.lenNil rfl Try.underlying31) rfl ?_
  refine Tr.q (QS.move rfl) rfl ?_
  first | refine Tr.q (QS.len rfl (by assumption) Try.underlying32) rfl ?_ | refine Tr.q (QS.lenRow rfl (by repeat (first | exact List.Mem.head _ | apply List.Mem.tail)) Try.underlying32) rfl ?_ | refine Tr.q (QS.lenNil rfl Try.underlying32) rfl ?_
  refine Tr.q (QS.neq rfl rfl) rfl ?_
  refine Tr.nil ?_
  refine Tr.thenN ?_
  refine Tr.cond rfl (fun h1 => ?_) (fun h1 => ?_)
  · try simp only [bs] at h1
    first | (exfalso; omega) | simp_all
  · try simp only [bs] at h1
    refine Tr.skip ?_
    refine Tr.thenN ?_
    refine Tr.seq ?_
    refine Tr.seq ?_
    refine Tr.region ?_
    refine Tr.q (QS.assign rfl) rfl ?_
    refine Tr.nil ?_
    refine Tr.thenN ?_
    refine Tr.block ?_
    refine Tr.loop (ι := Nat) (fun k => k ≤ l.length) (fun _ => _) (fun k => []) (fun k => [(5, .int .i64 (k : Nat))]) (fun k => l.length - k) 0 (Nat.zero_le _) (.cons (by first | rfl | exact lookI rfl (by omega) | exact lookI rfl (by simp) | exact lookB rfl (by simp)) Front.nil) (by repeat' (first | exact Pick.nil _ | exact Del.here _ | apply Pick.cons | apply Del.there)) rfl (fun k hi m hm => ?_)
    replace hi : k ≤ l.length := hi
    replace hm : m = l.length - k := hm
    change Tr _ _ [] ([(5, .int .i64 (k : Nat))] ++ _) _
    refine Tr.seq ?_
    refine Tr.seq ?_
    refine Tr.region ?_
    refine Tr.q (QS.move rfl) rfl ?_
    refine Tr.q (QS.move rfl) rfl ?_
    first | refine Tr.q (QS.len rfl (by assumption) Try.underlying31) rfl ?_ | refine Tr.q (QS.lenRow rfl (by repeat (first | exact List.Mem.head _ | apply List.Mem.tail)) Try.underlying31) rfl ?_ | refine Tr.q (QS.lenNil rfl Try.underlying31) rfl ?_
    refine Tr.q (QS.lss rfl rfl) rfl ?_
    refine Tr.nil ?_
    refine Tr.thenN ?_
    refine Tr.cond rfl (fun h2 => ?_) (fun h2 => ?_)
    · try simp only [bs] at h2
      refine Tr.skip ?_
      refine Tr.thenN ?_
      refine Tr.seq ?_
      refine Tr.block ?_
      refine Tr.seq ?_
      refine Tr.regionQ HLF.mixed (by kernel_rfl) ?_
      refine TrQ.q (QS.move rfl) rfl ?_
      refine TrQ.q (QS.move rfl) rfl ?_
      first | refine TrQ.q (QS.idxN rfl rfl (by assumption) Try.underlying31 Try.sizeOf51 (by rfl) (by omega)) rfl ?_ | refine TrQ.q (QS.idxRowN rfl rfl (by repeat (first | exact List.Mem.head _ | apply List.Mem.tail)) Try.underlying31 Try.sizeOf51 (by rfl) (by omega)) rfl ?_ | refine TrQ.q (QS.idx rfl rfl (by assumption) Try.underlying31 Try.sizeOf51 (by rfl) (by omega)) rfl ?_ | refine TrQ.q (QS.idxRow rfl rfl (by repeat (first | exact List.Mem.head _ | apply List.Mem.tail)) Try.underlying31 Try.sizeOf51 (by rfl) (by omega)) rfl ?_
      refine TrQ.q (QS.fieldAddr (off := 0) (ft := 23) rfl Try.underlying51 rfl rfl Try.sizeOf23 (by decide)) rfl ?_
      first | refine TrQ.q (QS.elF rfl (by assumption) Try.isAgg23 (by omega) (by rfl)) rfl ?_ | refine TrQ.q (QS.elRF rfl (by repeat (first | exact List.Mem.head _ | apply List.Mem.tail)) Try.isAgg23 (by omega) (by rfl)) rfl ?_
      refine TrQ.q (QS.move rfl) rfl ?_
      refine TrQ.q (QS.move rfl) rfl ?_
      first | refine TrQ.q (QS.idxN rfl rfl (by assumption) Try.underlying32 Try.sizeOf73 (by rfl) (by omega)) rfl ?_ | refine TrQ.q (QS.idxRowN rfl rfl (by repeat (first | exact List.Mem.head _ | apply List.Mem.tail)) Try.underlying32 Try.sizeOf73 (by rfl) (by omega)) rfl ?_ | refine TrQ.q (QS.idx rfl rfl (by assumption) Try.underlying32 Try.sizeOf73 (by rfl) (by omega)) rfl ?_ | refine TrQ.q (QS.idxRow rfl rfl (by repeat (first | exact List.Mem.head _ | apply List.Mem.tail)) Try.underlying32 Try.sizeOf73 (by rfl) (by omega)) rfl ?_
      refine TrQ.q (QS.fieldAddr (off := 0) (ft := 23) rfl Try.underlying73 rfl rfl Try.sizeOf23 (by decide)) rfl ?_
      first | refine TrQ.q (QS.elF rfl (by assumption) Try.isAgg23 (by omega) (by rfl)) rfl ?_ | refine TrQ.q (QS.elRF rfl (by repeat (first | exact List.Mem.head _ | apply List.Mem.tail)) Try.isAgg23 (by omega) (by rfl)) rfl ?_
      refine TrQ.q (QS.neq32 rfl rfl) rfl ?_
      refine TrQ.q (QS.move rfl) rfl ?_
      apply TrQ.orP
      · exact (rfl : _ = (12, 28, 40))
      · exact rfl
      · intro hF3; have hF3' := hF3
        try simp only [bs] at hF3'
        refine TrQ.gq rfl rfl hF3 (QS.move rfl) rfl ?_
        refine TrQ.gq rfl rfl hF3 (QS.move rfl) rfl ?_
        first | refine TrQ.gq rfl rfl hF3 (QS.idxN rfl rfl (by assumption) Try.underlying31 Try.sizeOf51 (by rfl) (by omega)) rfl ?_ | refine TrQ.gq rfl rfl hF3 (QS.idxRowN rfl rfl (by repeat (first | exact List.Mem.head _ | apply List.Mem.tail)) Try.underlying31 Try.sizeOf51 (by rfl) (by omega)) rfl ?_ | refine TrQ.gq rfl rfl hF3 (QS.idx rfl rfl (by assumption) Try.underlying31 Try.sizeOf51 (by rfl) (by omega)) rfl ?_ | refine TrQ.gq rfl rfl hF3 (QS.idxRow rfl rfl (by repeat (first | exact List.Mem.head _ | apply List.Mem.tail)) Try.underlying31 Try.sizeOf51 (by rfl) (by omega)) rfl ?_
        refine TrQ.gq rfl rfl hF3 (QS.fieldAddr (off := 1) (ft := 23) rfl Try.underlying51 rfl rfl Try.sizeOf23 (by decide)) rfl ?_
        first | refine TrQ.gq rfl rfl hF3 (QS.elF rfl (by assumption) Try.isAgg23 (by omega) (by rfl)) rfl ?_ | refine TrQ.gq rfl rfl hF3 (QS.elRF rfl (by repeat (first | exact List.Mem.head _ | apply List.Mem.tail)) Try.isAgg23 (by omega) (by rfl)) rfl ?_
        refine TrQ.gq rfl rfl hF3 (QS.move rfl) rfl ?_
        refine TrQ.gq rfl rfl hF3 (QS.move rfl) rfl ?_
        first | refine TrQ.gq rfl rfl hF3 (QS.idxN rfl rfl (by assumption) Try.underlying32 Try.sizeOf73 (by rfl) (by omega)) rfl ?_ | refine TrQ.gq rfl rfl hF3 (QS.idxRowN rfl rfl (by repeat (first | exact List.Mem.head _ | apply List.Mem.tail)) Try.underlying32 Try.sizeOf73 (by rfl) (by omega)) rfl ?_ | refine TrQ.gq rfl rfl hF3 (QS.idx rfl rfl (by assumption) Try.underlying32 Try.sizeOf73 (by rfl) (by omega)) rfl ?_ | refine TrQ.gq rfl rfl hF3 (QS.idxRow rfl rfl (by repeat (first | exact List.Mem.head _ | apply List.Mem.tail)) Try.underlying32 Try.sizeOf73 (by rfl) (by omega)) rfl ?_
        refine TrQ.gq rfl rfl hF3 (QS.fieldAddr (off := 1) (ft := 23) rfl Try.underlying73 rfl rfl Try.sizeOf23 (by decide)) rfl ?_
        first | refine TrQ.gq rfl rfl hF3 (QS.elF rfl (by assumption) Try.isAgg23 (by omega) (by rfl)) rfl ?_ | refine TrQ.gq rfl rfl hF3 (QS.elRF rfl (by repeat (first | exact List.Mem.head _ | apply List.Mem.tail)) Try.isAgg23 (by omega) (by rfl)) rfl ?_
        refine TrQ.gq rfl rfl hF3 (QS.neq32 rfl rfl) rfl ?_
        refine TrQ.q (QS.pickF rfl hF3 rfl) rfl ?_
        exact TrQ.end (Sub.cons rfl (Sub.dropN 12 (by kernel_rfl) rfl))
      · intro hT3
        refine TrQ.gskip rfl rfl hT3 rfl ?_
        refine TrQ.gskip rfl rfl hT3 rfl ?_
        refine TrQ.gskip rfl rfl hT3 rfl ?_
        refine TrQ.gskip rfl rfl hT3 rfl ?_
        refine TrQ.gskip rfl rfl hT3 rfl ?_
        refine TrQ.gskip rfl rfl hT3 rfl ?_
        refine TrQ.gskip rfl rfl hT3 rfl ?_
        refine TrQ.gskip rfl rfl hT3 rfl ?_
        refine TrQ.gskip rfl rfl hT3 rfl ?_
        refine TrQ.gskip rfl rfl hT3 rfl ?_
        refine TrQ.gskip rfl rfl hT3 rfl ?_
        refine TrQ.q (QS.pickT rfl hT3 rfl) rfl ?_
        exact TrQ.end (Sub.cons rfl (Sub.dropN 12 (by kernel_rfl) rfl))
      refine TrQ.nil ?_
      refine Tr.thenN ?_
      refine Tr.cond rfl (fun h4 => ?_) (fun h4 => ?_)
      · try simp only [bs] at h4
        refine Tr.seq ?_
        refine Tr.region ?_
        refine Tr.q (QS.assign rfl) rfl ?_
        refine Tr.nil ?_
        refine Tr.thenN ?_
        refine Tr.ret ?_
        refine Tr.inR ?_
        refine Tr.thenR ?_
        refine Tr.thenR ?_
        refine Tr.inR ?_
        refine Tr.thenR ?_
        refine Tr.ret1 Try.results54 rfl (fun w' hw => ?_)
        exfalso; simp_all
      · try simp only [bs] at h4
        refine Tr.skip ?_
        refine Tr.inN ?_
        refine Tr.thenN ?_
        refine Tr.region ?_
        refine Tr.q (QS.move rfl) rfl ?_
        first | refine Tr.q (QS.addI rfl rfl (by omega)) rfl ?_ | refine Tr.q (QS.add rfl rfl) rfl ?_
        refine Tr.q (QS.assign rfl) rfl ?_
        refine Tr.nil ?_
        refine Tr.thenN ?_
        apply Tr.again (k + 1)
        · exact rfl
        · exact (.cons (by first | rfl | exact lookI rfl (by omega) | exact lookI rfl (by simp) | exact lookB rfl (by simp)) Front.nil)
        · exact SubX.dropN 21 (by kernel_rfl) rfl
        · exact (by repeat' (first | exact Pick.nil _ | exact Del.here _ | apply Pick.cons | apply Del.there))
        · exact (by show k + 1 ≤ _; omega)
        · exact (by (try dsimp only); omega)
    · try simp only [bs] at h2
      refine Tr.exit ?_
      refine Tr.thenE ?_
      refine Tr.thenE ?_
      refine Tr.inHit ?_
      refine Tr.thenN ?_
      refine Tr.seq ?_
      refine Tr.region ?_
      refine Tr.q (QS.assign rfl) rfl ?_
      refine Tr.nil ?_
      refine Tr.thenN ?_
      refine Tr.ret ?_
      refine Tr.ret1 Try.results54 rfl (fun w' hw => ?_)
      exact ⟨rfl, hw.below (Bg.le.refl _)⟩

set_option maxRecDepth 100000 in
set_option maxHeartbeats 2000000 in
theorem lists_true (l : List SecV) (V : Value) (w : World) (hV : Sl (hp w) encSec l V) (hD : DataIn (hp w) l) (hz : ∀ s ∈ l, s.data.length ≤ 140737488351232) :
    Calls Try.prog 15 #[V] w (fun e w' => e = .returned (.bool true) ∧ Ext w w') := by
  have hV' : Sl (Bg.of w).blk encSec l V := hV
  have hlar := @large_sec l
  refine enter Try.func15 rfl Try.ntmps15 rfl ?_
  refine Tr.seq ?_
  refine Tr.region ?_
  refine Tr.q (QS.assign rfl) rfl ?_
  refine Tr.nil ?_
  refine Tr.thenN ?_
  refine Tr.seq ?_
  refine Tr.seq ?_
  refine Tr.region ?_
  refine Tr.q (QS.move rfl) rfl ?_
  refine Tr.q (QS.call rfl Try.call38 (fun w hw => large_any l V w (hw.slF hV) hz)) rfl ?_
  refine Tr.nil ?_
  refine Tr.thenN ?_
  refine Tr.cond rfl (fun h1 => ?_) (fun h1 => ?_)
  · try simp only [bs] at h1
    refine Tr.seq ?_
    refine Tr.region ?_
    refine Tr.q (QS.call rfl Try.call39 (fun w hw => example05_any w)) rfl ?_
    refine Tr.q (QS.assign rfl) rfl ?_
    refine Tr.nil ?_
    refine Tr.thenN ?_
    refine Tr.ret ?_
    refine Tr.thenR ?_
    refine Tr.ret1 Try.results15 rfl (fun w' hw => ?_)
    exact ⟨rfl, hw.below (Bg.le.refl _)⟩
  · try simp only [bs] at h1
    refine Tr.skip ?_
    refine Tr.thenN ?_
    refine Tr.seq ?_
    obtain ⟨hB, hl40⟩ := hlar (by simp_all)
    refine Tr.region ?_
    refine Tr.q (QS.move rfl) rfl ?_
    refine Tr.callRow rfl Try.call42 (fun w hw => ranges_any l V w (hw.slF hV) hB) rfl (fun V2 => ?_)
    refine Tr.q (QS.move rfl) rfl ?_
    refine Tr.callRow rfl Try.call55 (fun w hw => refRanges_any l V w (hw.slF hV) hB) rfl (fun V3 => ?_)
    refine Tr.q (QS.call rfl Try.call54 (fun w hw => same_any (normalP (l.map spaceP)) _ _ w (hw.row (.tail _ (.head _))) (hw.row (.head _)))) rfl ?_
    refine Tr.q (QS.move rfl) rfl ?_
    refine Tr.gq rfl rfl rfl (QS.move rfl) rfl ?_
    refine Tr.gdo rfl rfl rfl ?_
    refine Tr.callBg (fun i : Value × List Sec => i.1) (R := SrtAt (l.map SecV.pl)) (fun h h' i hh r => r.mono hh) rfl Try.call56 (fun w hw => sorted_sec l V w (hw.slF hV) hB (hD.mono hw.bg)) rfl (fun i71 F71 hF71 hR71 => ?_)
    have hV1 := hV'.mono hF71.blk
    have hD1 : DataIn F71.blk l := hD.mono hF71.blk
    refine Tr.gq rfl rfl rfl (QS.move rfl) rfl ?_
    refine Tr.gdo rfl rfl rfl ?_
    refine Tr.callBg (fun i : Value × List Sec => i.1) (R := SrtAt (l.map SecV.pl)) (fun h h' i hh r => r.mono hh) rfl Try.call57 (fun w hw => refSorted_any l V w (hw.slF hV1) hB (hD1.mono hw.bg)) rfl (fun i72 F72 hF72 hR72 => ?_)
    obtain ⟨⟨l1, s11, s12, s13⟩, so1⟩ := hR71
    replace s11 := s11.mono hF72.blk
    replace s12 := s12.mono hF72.blk
    obtain ⟨⟨l2, s21, s22, s23⟩, so2⟩ := hR72
    have hso := so1.eq so2
    refine Tr.gq rfl rfl rfl (QS.call rfl Try.call49 (fun w hw => sameSections_any l1 l2 _ _ w (hw.slF s11) (hw.slF s21) (s12.mono hw.bg) (s22.mono hw.bg))) rfl ?_
    refine Tr.q (QS.pickT rfl rfl rfl) rfl ?_
    refine Tr.q (QS.move rfl) rfl ?_
    apply Tr.andP
    · exact (rfl : _ = (2, 18, 20))
    · exact rfl
    · intro hT4; have hT4' := hT4
      try simp only [bs] at hT4'
      refine Tr.gq rfl rfl hT4 (QS.call rfl Try.call39 (fun w hw => example05_any w)) rfl ?_
      refine Tr.q (QS.pickT rfl hT4 rfl) rfl ?_
      refine Tr.nil (Tr.thenN ?_)
      exact Tr.endX (Sub.cons rfl (Sub.dropN 2 (by kernel_rfl) rfl))
    · intro hF4
      refine Tr.gskip rfl rfl hF4 rfl ?_
      refine Tr.q (QS.pickF rfl hF4 rfl) rfl ?_
      refine Tr.nil (Tr.thenN ?_)
      exact Tr.endX (Sub.cons rfl (Sub.dropN 2 (by kernel_rfl) rfl))
    refine Tr.q (QS.assign rfl) rfl ?_
    refine Tr.nil ?_
    refine Tr.thenN ?_
    refine Tr.ret ?_
    refine Tr.ret1 Try.results15 rfl (fun w' hw => ?_)
    exact ⟨by rw [s13, s23, hso]; simp, hw.below (hF71.trans hF72)⟩

end Go.Proofs.Ytfmhhakhbopfdaa
