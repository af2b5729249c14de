/- Own rules and walks, part 5. -/
import Derived.Test.YtnmaokalpbnmaaaB4
set_option linter.unusedSimpArgs false
set_option linter.unusedVariables false
set_option linter.unusedSectionVars false
namespace Go.Proofs.Ytnmaokalpbnmaaa
open Go Go.HL Go.RowKit
theorem all_take_succ {α : Type} [Inhabited α] {p : α → Bool} {l : List α} {k : Nat} (h : k < l.length) : (l.take (k + 1)).all p = ((l.take k).all p && p (l.getD k default)) := by
 rw [take_succ h, List.all_append]; simp
theorem all_take8 {α : Type} {p : α → Bool} {l : List α} {k : Nat} (hk : k ≤ l.length) (h8 : k ≤ 8) (h : k = l.length ∨ k = 8) (hp : (l.take k).all p = true) : (l.take 8).all p = true := by
 rcases h with h | h
 ·subst h; rw [List.take_length] at hp; rw [List.take_of_length_le h8]; exact hp
 ·subst h; exact hp
theorem all_no {α : Type} [Inhabited α] {p : α → Bool} {l : List α} {k n : Nat} (hk : k < l.length) (hn : k < n) (h : p (l.getD k default) = false) : (l.take n).all p = false := by
 rw [List.all_eq_false]
 refine ⟨l.getD k default, ?_, by rw [h]; simp⟩
 rw [List.mem_take_iff_getElem]
 exact ⟨k, by omega, by simp [List.getD_eq_getElem?_getD, hk]⟩
set_option maxRecDepth 100000 in
set_option maxHeartbeats 2000000 in
theorem same03_any (a b : List Ins) (V W : Value) (w : World) (hV : Sl (hp w) encIns a V) (hW : Sl (hp w) encIns b W) :
  Calls Try.prog 47 #[V, W] w (fun e w' => e = .returned (.bool (decide (a = b))) ∧ Ext w w') := by
 have hV' : Sl (Bg.of w).blk encIns a V := hV
 have hW' : Sl (Bg.of w).blk encIns b W := hW
 have hl1 := hV.len_le
 have hl2 := hW.len_le
 refine enter Try.func47 rfl Try.ntmps47 rfl ?_
 refine Tr.seq (Tr.region ?_)
 refine Tr.q (QS.assign rfl) rfl ?_
 refine Tr.nil (Tr.thenN (Tr.seq (Tr.seq (Tr.region ?_))))
 refine Tr.q (QS.move rfl) rfl ?_
 refine Tr.q (QS.len rfl (by assumption) Try.underlying29) rfl ?_
 refine Tr.q (QS.move rfl) rfl ?_
 refine Tr.q (QS.len rfl (by assumption) Try.underlying29) rfl ?_
 refine Tr.q (QS.neq rfl rfl) rfl ?_
 refine Tr.nil (Tr.thenN ?_)
 refine Tr.cond rfl (fun h1 => ?_) (fun h1 => ?_)
 ·try simp only [bs] at h1
  refine Tr.seq (Tr.region ?_)
  refine Tr.q (QS.assign rfl) rfl ?_
  refine Tr.nil (Tr.thenN (Tr.ret (Tr.thenR ?_)))
  refine Tr.ret1 Try.results47 rfl (fun w' hw => ?_)
  exact ⟨by rw [decide_eq_false (fun e => by subst e; omega)], hw.below (Bg.le.refl _)⟩
 ·try simp only [bs] at h1
  refine Tr.skip (Tr.thenN (Tr.seq (Tr.seq (Tr.region ?_))))
  refine Tr.q (QS.assign rfl) rfl ?_
  refine Tr.nil (Tr.thenN (Tr.block ?_))
  refine Tr.loop (ι := Nat) (fun k => k ≤ a.length ∧ a.take k = b.take k) (fun _ => _) (fun k => []) (fun k => [(5, .int .i64 (k : Nat))]) (fun k => a.length - k) 0 ⟨by omega, rfl⟩ (.cons (by first | rfl | exact lookI rfl (by omega) | exact lookI rfl (by simp) | exact lookB rfl (by simp)) Front.nil) (by repeat' constructor) rfl (fun k hi m hm => ?_)
  replace hi : k ≤ a.length ∧ a.take k = b.take k := hi
  replace hm : m = a.length - k := hm
  change Tr _ _ [] ([(5, .int .i64 (k : Nat))] ++ _) _
  obtain ⟨hk1, hk3⟩ := hi
  refine Tr.seq (Tr.seq (Tr.region ?_))
  refine Tr.q (QS.move rfl) rfl ?_
  refine Tr.q (QS.move rfl) rfl ?_
  refine Tr.q (QS.len rfl (by assumption) Try.underlying29) rfl ?_
  refine Tr.q (QS.lss rfl rfl) rfl ?_
  refine Tr.nil (Tr.thenN ?_)
  refine Tr.cond rfl (fun h2 => ?_) (fun h2 => ?_)
  ·try simp only [bs] at h2
   refine Tr.skip (Tr.thenN (Tr.seq (Tr.block (Tr.seq ?_))))
   refine Tr.regionQ HLF.mixed (by kernel_rfl) ?_
   refine TrQ.q (QS.move rfl) rfl ?_
   refine TrQ.q (QS.move rfl) rfl ?_
   refine TrQ.q (QS.idxN rfl rfl (by assumption) Try.underlying29 Try.sizeOf41 (by rfl) (by omega)) rfl ?_
   refine TrQ.q (QS.elA rfl (by assumption) Try.isAgg41 Try.sizeOf41 (by rfl) (by omega)) rfl ?_
   refine TrQ.q (QS.move rfl) rfl ?_
   refine TrQ.q (QS.move rfl) rfl ?_
   refine TrQ.q (QS.idxN rfl rfl (by assumption) Try.underlying29 Try.sizeOf41 (by rfl) (by omega)) rfl ?_
   refine TrQ.q (QS.elA rfl (by assumption) Try.isAgg41 Try.sizeOf41 (by rfl) (by omega)) rfl ?_
   refine TrQ.q (QS.neqE rfl rfl insEqEnc Try.underlying41 (HLF.words41 _ Try.underlying41) rfl HLF.held41 HLF.eqg41) rfl ?_
   refine TrQ.nil ?_
   refine Tr.thenN ?_
   refine Tr.cond rfl (fun h3 => ?_) (fun h3 => ?_)
   ·try simp only [bs] at h3
    refine Tr.seq (Tr.region ?_)
    refine Tr.q (QS.assign rfl) rfl ?_
    refine Tr.nil (Tr.thenN (Tr.ret ?_))
    refine Tr.inR ?_
    refine Tr.thenR (Tr.thenR ?_)
    refine Tr.inR ?_
    refine Tr.thenR ?_
    refine Tr.ret1 Try.results47 rfl (fun w' hw => ?_)
    exact ⟨by rw [decide_eq_false (fun e => by subst e; simp_all)], hw.below (Bg.le.refl _)⟩
   ·try simp only [bs] at h3
    refine Tr.skip (Tr.inN (Tr.thenN (Tr.region ?_)))
    refine Tr.q (QS.move rfl) rfl ?_
    refine Tr.q (QS.addI rfl rfl (by omega)) rfl ?_
    refine Tr.q (QS.assign rfl) rfl ?_
    refine Tr.nil (Tr.thenN ?_)
    apply Tr.again (k + 1)
    ·exact rfl
    ·exact (.cons (by first | rfl | exact lookI rfl (by omega) | exact lookI rfl (by simp) | exact lookB rfl (by simp)) Front.nil)
    ·exact SubX.dropN 17 (by kernel_rfl) rfl
    ·exact (by repeat' constructor)
    ·exact ⟨by omega, by rw [take_succ (by omega), take_succ (by omega), hk3]; congr 2⟩
    ·exact (by (try dsimp only); omega)
  ·try simp only [bs] at h2
   refine Tr.exit ?_
   refine Tr.thenE (Tr.thenE (Tr.inHit (Tr.thenN (Tr.seq (Tr.region ?_)))))
   refine Tr.q (QS.assign rfl) rfl ?_
   refine Tr.nil (Tr.thenN (Tr.ret ?_))
   refine Tr.ret1 Try.results47 rfl (fun w' hw => ?_)
   exact ⟨by rw [decide_eq_true (show a = b by rw [← List.take_of_length_le (show a.length ≤ k by omega), hk3, List.take_of_length_le (by omega)])], hw.below (Bg.le.refl _)⟩
set_option maxRecDepth 100000 in
set_option maxHeartbeats 2000000 in
theorem reach1_any (i : Ins) (a : UInt32) (b : Nat) (w : World) (hc : Cell (hp w) b 0 (.int .u32 a.toNat)) :
  Calls Try.prog 39 #[.agg (encIns.enc i).toArray, .pointer (some ⟨b, 0, none⟩)] w (fun e w' => e = .returned (.bool (decide (i.addr = a))) ∧ Ext w w') := by
 have hc' : Cell (Bg.of w).blk b 0 (.int .u32 a.toNat) := hc
 refine enter Try.func39 rfl Try.ntmps39 rfl ?_
 refine Tr.seq (Tr.region ?_)
 refine Tr.box rfl rfl rfl (fun b1 => ?_)
 refine Tr.q (QS.assign rfl) rfl ?_
 refine Tr.nil (Tr.thenN (Tr.seq (Tr.region ?_)))
 refine Tr.q (QS.fieldAddr (off := 0) (ft := 39) rfl Try.underlying41 rfl rfl Try.sizeOf39 (by decide)) rfl ?_
 refine Tr.q (QS.lV rfl Try.isAgg39) rfl ?_
 refine Tr.q (QS.loadC rfl (by assumption) Try.isAgg39) rfl ?_
 refine Tr.q (QS.eql32 rfl rfl) rfl ?_
 refine Tr.q (QS.assign rfl) rfl ?_
 refine Tr.nil (Tr.thenN (Tr.ret ?_))
 refine Tr.ret1 Try.results39 rfl (fun w' hw => ?_)
 exact ⟨rfl, hw.below (Bg.le.refl _)⟩
set_option maxRecDepth 100000 in
set_option maxHeartbeats 2000000 in
theorem dreach_any (li : List Ins) (a : UInt32) (Vi Ve Vu Vb : Value) (w : World) (hI : Sl (hp w) encIns li Vi) :
  Calls Try.prog 21 #[.agg #[Vi, Ve, Vu, Vb], .int .u32 a.toNat] w (fun e w' => e = .returned (.bool (reachedP li a)) ∧ Ext w w') := by
 have hI' : Sl (Bg.of w).blk encIns li Vi := hI
 refine enter Try.func21 rfl Try.ntmps21 rfl ?_
 refine Tr.seq (Tr.region ?_)
 refine Tr.box rfl rfl rfl (fun b1 => ?_)
 refine Tr.box rfl rfl rfl (fun b2 => ?_)
 refine Tr.q (QS.assign rfl) rfl ?_
 refine Tr.nil (Tr.thenN (Tr.seq (Tr.region ?_)))
 refine Tr.q (QS.fieldAddr (off := 0) (ft := 29) rfl Try.underlying31 rfl rfl Try.sizeOf29 (by decide)) rfl ?_
 refine Tr.q (QS.lV rfl Try.isAgg29) rfl ?_
 refine Tr.q (QS.makeFunc rfl rfl) rfl ?_
 refine Tr.q (QS.call rfl Try.call38 (fun w hw => containsFunc_ins li Vi _ _ w (hw.slF hI') Try.call39 (fun i => decide (i.addr = a)) (fun x hx w'' h => reach1_any x a _ w'' (cellE.cell (hw.ent _ (.head _)) h rfl)))) rfl ?_
 refine Tr.q (QS.assign rfl) rfl ?_
 refine Tr.nil (Tr.thenN (Tr.ret ?_))
 refine Tr.ret1 Try.results21 rfl (fun w' hw => ?_)
 exact ⟨rfl, hw.below (Bg.le.refl _)⟩
set_option maxRecDepth 100000 in
set_option maxHeartbeats 4000000 in
theorem few12_any (l : List SecV) (es : List UInt32) (ts : List TabV) (at_ : List UInt32) (V VE VT VP : Value) (w : World) (hV : Sl (hp w) encSec l V) (hE : Sl (hp w) encU32 es VE) (hT : Sl (hp w) encTab ts VT) (hP : Sl (hp w) encU32 at_ VP) :
  Calls Try.prog 10 #[.agg #[V, VE, VT, VP]] w (fun e w' => e = .returned (.bool (fewP l es ts at_)) ∧ Ext w w') := by
 have hV' : Sl (Bg.of w).blk encSec l V := hV
 have hE' : Sl (Bg.of w).blk encU32 es VE := hE
 have hT' : Sl (Bg.of w).blk encTab ts VT := hT
 have hP' : Sl (Bg.of w).blk encU32 at_ VP := hP
 have hl1 := hV.len_le
 have hl2 := hT.len_le
 refine enter Try.func10 rfl Try.ntmps10 rfl ?_
 refine Tr.seq (Tr.region ?_)
 refine Tr.box rfl rfl rfl (fun b1 => ?_)
 refine Tr.q (QS.assign rfl) rfl ?_
 refine Tr.nil (Tr.thenN (Tr.seq (Tr.seq (Tr.region ?_))))
 refine Tr.q (QS.assign rfl) rfl ?_
 refine Tr.nil (Tr.thenN (Tr.block ?_))
 refine Tr.loop (ι := Nat) (fun k => (k ≤ l.length ∧ k ≤ 8) ∧ (l.take k).all fewS = true) (fun _ => _) (fun k => [cellE b1 [V, VE, VT, VP] 26]) (fun k => [(3, .int .i64 (k : Nat))]) (fun k => l.length - k) 0 ⟨⟨Nat.zero_le _, by omega⟩, rfl⟩ (.cons (by first | rfl | exact lookI rfl (by omega) | exact lookI rfl (by simp) | exact lookB rfl (by simp)) Front.nil) (by repeat' constructor) rfl (fun k hi m hm => ?_)
 replace hi : (k ≤ l.length ∧ k ≤ 8) ∧ (l.take k).all fewS = true := hi
 replace hm : m = l.length - k := hm
 change Tr _ _ [cellE b1 [V, VE, VT, VP] 26] ([(3, .int .i64 (k : Nat))] ++ _) _
 obtain ⟨hk1, hk2⟩ := hi
 refine Tr.seq (Tr.seq (Tr.region ?_))
 refine Tr.q (QS.move rfl) rfl ?_
 refine Tr.q (QS.fieldAddr (off := 0) (ft := 22) rfl Try.underlying26 rfl rfl Try.sizeOf22 (by decide)) rfl ?_
 refine Tr.q (QS.lV rfl Try.isAgg22) rfl ?_
 refine Tr.q (QS.len rfl (by assumption) Try.underlying22) rfl ?_
 refine Tr.q (QS.lss rfl rfl) rfl ?_
 refine Tr.q (QS.move rfl) rfl ?_
 apply Tr.andP
 ·exact (rfl : _ = (3, 10, 13))
 ·exact rfl
 ·intro hT2; have hT2' := hT2
  try simp only [bs] at hT2'
  refine Tr.gq rfl rfl hT2 (QS.move rfl) rfl ?_
  refine Tr.gq rfl rfl hT2 (QS.lss rfl rfl) rfl ?_
  refine Tr.q (QS.pickT rfl hT2 rfl) rfl ?_
  refine Tr.nil (Tr.thenN ?_)
  exact Tr.endX (Sub.cons rfl (Sub.dropN 3 (by kernel_rfl) rfl))
 ·intro hF2
  refine Tr.gskip rfl rfl hF2 rfl ?_
  refine Tr.gskip rfl rfl hF2 rfl ?_
  refine Tr.q (QS.pickF rfl hF2 rfl) rfl ?_
  refine Tr.nil (Tr.thenN ?_)
  exact Tr.endX (Sub.cons rfl (Sub.dropN 3 (by kernel_rfl) rfl))
 refine Tr.nil (Tr.thenN ?_)
 refine Tr.cond rfl (fun h3 => ?_) (fun h3 => ?_)
 ·try simp only [bs] at h3
  refine Tr.skip (Tr.thenN (Tr.seq (Tr.block (Tr.seq (Tr.region ?_)))))
  refine Tr.q (QS.fieldAddr (off := 0) (ft := 22) rfl Try.underlying26 rfl rfl Try.sizeOf22 (by decide)) rfl ?_
  refine Tr.q (QS.lV rfl Try.isAgg22) rfl ?_
  refine Tr.q (QS.move rfl) rfl ?_
  refine Tr.q (QS.idxN rfl rfl (by assumption) Try.underlying22 Try.sizeOf63 (by rfl) (by omega)) rfl ?_
  refine Tr.q (QS.fieldAddr (off := 2) (ft := 61) rfl Try.underlying63 rfl rfl Try.sizeOf61 (by decide)) rfl ?_
  refine Tr.q (QS.elF rfl (by assumption) Try.isAgg61 (by omega) (by rfl)) rfl ?_
  refine Tr.q (QS.lenNil rfl Try.underlying61) rfl ?_
  refine Tr.q (QS.gtr rfl rfl) rfl ?_
  refine Tr.q (QS.move rfl) rfl ?_
  apply Tr.orP
  ·exact (rfl : _ = (9, 24, 33))
  ·exact rfl
  ·intro hF4; have hF4' := hF4
   try simp only [bs] at hF4'
   refine Tr.gq rfl rfl hF4 (QS.fieldAddr (off := 0) (ft := 22) rfl Try.underlying26 rfl rfl Try.sizeOf22 (by decide)) rfl ?_
   refine Tr.gq rfl rfl hF4 (QS.lV rfl Try.isAgg22) rfl ?_
   refine Tr.gq rfl rfl hF4 (QS.move rfl) rfl ?_
   refine Tr.gq rfl rfl hF4 (QS.idxN rfl rfl (by assumption) Try.underlying22 Try.sizeOf63 (by rfl) (by omega)) rfl ?_
   refine Tr.gq rfl rfl hF4 (QS.fieldAddr (off := 0) (ft := 9) rfl Try.underlying63 rfl rfl Try.sizeOf9 (by decide)) rfl ?_
   refine Tr.gq rfl rfl hF4 (QS.elF rfl (by assumption) Try.isAgg9 (by omega) (by rfl)) rfl ?_
   refine Tr.gq rfl rfl hF4 (QS.lenStr rfl Try.underlying9) rfl ?_
   refine Tr.gq rfl rfl hF4 (QS.gtr rfl rfl) rfl ?_
   refine Tr.q (QS.pickF rfl hF4 rfl) rfl ?_
   refine Tr.nil (Tr.thenN ?_)
   exact Tr.endX (Sub.cons rfl (Sub.dropN 9 (by kernel_rfl) rfl))
  ·intro hT4
   refine Tr.gskip rfl rfl hT4 rfl ?_
   refine Tr.gskip rfl rfl hT4 rfl ?_
   refine Tr.gskip rfl rfl hT4 rfl ?_
   refine Tr.gskip rfl rfl hT4 rfl ?_
   refine Tr.gskip rfl rfl hT4 rfl ?_
   refine Tr.gskip rfl rfl hT4 rfl ?_
   refine Tr.gskip rfl rfl hT4 rfl ?_
   refine Tr.gskip rfl rfl hT4 rfl ?_
   refine Tr.q (QS.pickT rfl hT4 rfl) rfl ?_
   refine Tr.nil (Tr.thenN ?_)
   exact Tr.endX (Sub.cons rfl (Sub.dropN 9 (by kernel_rfl) rfl))
  refine Tr.nil (Tr.thenN ?_)
  refine Tr.cond rfl (fun h5 => ?_) (fun h5 => ?_)
  ·try simp only [bs] at h5
   refine Tr.seq (Tr.region ?_)
   refine Tr.q (QS.assign rfl) rfl ?_
   refine Tr.nil (Tr.thenN (Tr.ret ?_))
   refine Tr.inR ?_
   refine Tr.thenR (Tr.thenR ?_)
   refine Tr.inR ?_
   refine Tr.thenR ?_
   refine Tr.ret1 Try.results10 rfl (fun w' hw => ?_)
   have hs : fewS (l.getD k default) = false := by unfold fewS; rw [Bool.not_eq_false', Bool.or_eq_true, decide_eq_true_eq, decide_eq_true_eq]; assumption
   exact ⟨by unfold fewP; rw [all_no (k := k) (by omega) (by omega) hs]; rfl, hw.below (Bg.le.refl _)⟩
  ·try simp only [bs] at h5
   refine Tr.skip (Tr.inN (Tr.thenN (Tr.region ?_)))
   refine Tr.q (QS.move rfl) rfl ?_
   refine Tr.q (QS.addI rfl rfl (by omega)) rfl ?_
   refine Tr.q (QS.assign rfl) rfl ?_
   refine Tr.nil (Tr.thenN ?_)
   have hs : fewS (l.getD k default) = true := by unfold fewS; rw [Bool.not_eq_true', Bool.or_eq_false_iff, decide_eq_false_iff_not, decide_eq_false_iff_not]; assumption
   apply Tr.again (k + 1)
   ·exact rfl
   ·exact (.cons (by first | rfl | exact lookI rfl (by omega) | exact lookI rfl (by simp) | exact lookB rfl (by simp)) Front.nil)
   ·exact SubX.dropN 21 (by kernel_rfl) rfl
   ·exact (by repeat' constructor)
   ·exact ⟨by omega, by rw [all_take_succ (by omega), hk2, hs]; rfl⟩
   ·exact (by (try dsimp only); omega)
 ·try simp only [bs] at h3
  refine Tr.exit ?_
  refine Tr.thenE (Tr.thenE (Tr.inHit (Tr.thenN (Tr.seq (Tr.seq (Tr.region ?_))))))
  refine Tr.q (QS.assign rfl) rfl ?_
  refine Tr.nil (Tr.thenN (Tr.block ?_))
  have hA := all_take8 hk1.1 hk1.2 (by omega) hk2
  refine Tr.loop (ι := Nat) (fun j => (j ≤ ts.length ∧ j ≤ 8) ∧ (ts.take j).all fewT = true) (fun _ => _) (fun j => [cellE b1 [V, VE, VT, VP] 26]) (fun j => [(4, .int .i64 (j : Nat))]) (fun j => ts.length - j) 0 ⟨⟨Nat.zero_le _, by omega⟩, rfl⟩ (.cons (by first | rfl | exact lookI rfl (by omega) | exact lookI rfl (by simp) | exact lookB rfl (by simp)) Front.nil) (by repeat' constructor) rfl (fun j hi m hm => ?_)
  replace hi : (j ≤ ts.length ∧ j ≤ 8) ∧ (ts.take j).all fewT = true := hi
  replace hm : m = ts.length - j := hm
  change Tr _ _ [cellE b1 [V, VE, VT, VP] 26] ([(4, .int .i64 (j : Nat))] ++ _) _
  obtain ⟨hj1, hj2⟩ := hi
  refine Tr.seq (Tr.seq (Tr.region ?_))
  refine Tr.q (QS.move rfl) rfl ?_
  refine Tr.q (QS.fieldAddr (off := 2) (ft := 24) rfl Try.underlying26 rfl rfl Try.sizeOf24 (by decide)) rfl ?_
  refine Tr.q (QS.lV rfl Try.isAgg24) rfl ?_
  refine Tr.q (QS.len rfl (by assumption) Try.underlying24) rfl ?_
  refine Tr.q (QS.lss rfl rfl) rfl ?_
  refine Tr.q (QS.move rfl) rfl ?_
  apply Tr.andP
  ·exact (rfl : _ = (3, 39, 42))
  ·exact rfl
  ·intro hT6; have hT6' := hT6
   try simp only [bs] at hT6'
   refine Tr.gq rfl rfl hT6 (QS.move rfl) rfl ?_
   refine Tr.gq rfl rfl hT6 (QS.lss rfl rfl) rfl ?_
   refine Tr.q (QS.pickT rfl hT6 rfl) rfl ?_
   refine Tr.nil (Tr.thenN ?_)
   exact Tr.endX (Sub.cons rfl (Sub.dropN 3 (by kernel_rfl) rfl))
  ·intro hF6
   refine Tr.gskip rfl rfl hF6 rfl ?_
   refine Tr.gskip rfl rfl hF6 rfl ?_
   refine Tr.q (QS.pickF rfl hF6 rfl) rfl ?_
   refine Tr.nil (Tr.thenN ?_)
   exact Tr.endX (Sub.cons rfl (Sub.dropN 3 (by kernel_rfl) rfl))
  refine Tr.nil (Tr.thenN ?_)
  refine Tr.cond rfl (fun h7 => ?_) (fun h7 => ?_)
  ·try simp only [bs] at h7
   refine Tr.skip (Tr.thenN (Tr.seq (Tr.block (Tr.seq (Tr.region ?_)))))
   refine Tr.q (QS.fieldAddr (off := 2) (ft := 24) rfl Try.underlying26 rfl rfl Try.sizeOf24 (by decide)) rfl ?_
   refine Tr.q (QS.lV rfl Try.isAgg24) rfl ?_
   refine Tr.q (QS.move rfl) rfl ?_
   refine Tr.q (QS.idxN rfl rfl (by assumption) Try.underlying24 Try.sizeOf23 (by rfl) (by omega)) rfl ?_
   refine Tr.q (QS.el1 rfl (by assumption) Try.isAgg23 (by omega) (by rfl)) rfl ?_
   refine Tr.q (QS.lenNil rfl Try.underlying23) rfl ?_
   refine Tr.q (QS.gtr rfl rfl) rfl ?_
   refine Tr.nil (Tr.thenN ?_)
   refine Tr.cond rfl (fun h8 => ?_) (fun h8 => ?_)
   ·try simp only [bs] at h8
    refine Tr.seq (Tr.region ?_)
    refine Tr.q (QS.assign rfl) rfl ?_
    refine Tr.nil (Tr.thenN (Tr.ret ?_))
    refine Tr.inR ?_
    refine Tr.thenR (Tr.thenR ?_)
    refine Tr.inR ?_
    refine Tr.thenR ?_
    refine Tr.ret1 Try.results10 rfl (fun w' hw => ?_)
    have hs : fewT (ts.getD j default) = false := by unfold fewT; rw [Bool.not_eq_false', decide_eq_true_eq]; assumption
    exact ⟨by unfold fewP; rw [hA, all_no (k := j) (by omega) (by omega) hs]; rfl, hw.below (Bg.le.refl _)⟩
   ·try simp only [bs] at h8
    refine Tr.skip (Tr.inN (Tr.thenN (Tr.region ?_)))
    refine Tr.q (QS.move rfl) rfl ?_
    refine Tr.q (QS.addI rfl rfl (by omega)) rfl ?_
    refine Tr.q (QS.assign rfl) rfl ?_
    refine Tr.nil (Tr.thenN ?_)
    have hs : fewT (ts.getD j default) = true := by unfold fewT; rw [Bool.not_eq_true', decide_eq_false_iff_not]; assumption
    apply Tr.again (j + 1)
    ·exact rfl
    ·exact (.cons (by first | rfl | exact lookI rfl (by omega) | exact lookI rfl (by simp) | exact lookB rfl (by simp)) Front.nil)
    ·exact SubX.dropN 18 (by kernel_rfl) rfl
    ·exact (by repeat' constructor)
    ·exact ⟨by omega, by rw [all_take_succ (by omega), hj2, hs]; rfl⟩
    ·exact (by (try dsimp only); omega)
  ·try simp only [bs] at h7
   refine Tr.exit ?_
   refine Tr.thenE (Tr.thenE (Tr.inHit (Tr.thenN (Tr.seq (Tr.region ?_)))))
   refine Tr.q (QS.fieldAddr (off := 0) (ft := 22) rfl Try.underlying26 rfl rfl Try.sizeOf22 (by decide)) rfl ?_
   refine Tr.q (QS.lV rfl Try.isAgg22) rfl ?_
   refine Tr.q (QS.len rfl (by assumption) Try.underlying22) rfl ?_
   refine Tr.q (QS.leq rfl rfl) rfl ?_
   refine Tr.q (QS.move rfl) rfl ?_
   apply Tr.andP
   ·exact (rfl : _ = (5, 56, 61))
   ·exact rfl
   ·intro hT9; have hT9' := hT9
    try simp only [bs] at hT9'
    refine Tr.gq rfl rfl hT9 (QS.fieldAddr (off := 1) (ft := 23) rfl Try.underlying26 rfl rfl Try.sizeOf23 (by decide)) rfl ?_
    refine Tr.gq rfl rfl hT9 (QS.lV rfl Try.isAgg23) rfl ?_
    refine Tr.gq rfl rfl hT9 (QS.len rfl (by assumption) Try.underlying23) rfl ?_
    refine Tr.gq rfl rfl hT9 (QS.leq rfl rfl) rfl ?_
    refine Tr.q (QS.pickT rfl hT9 rfl) rfl ?_
    refine Tr.nil (Tr.thenN ?_)
    exact Tr.endX (Sub.cons rfl (Sub.dropN 5 (by kernel_rfl) rfl))
   ·intro hF9
    refine Tr.gskip rfl rfl hF9 rfl ?_
    refine Tr.gskip rfl rfl hF9 rfl ?_
    refine Tr.gskip rfl rfl hF9 rfl ?_
    refine Tr.gskip rfl rfl hF9 rfl ?_
    refine Tr.q (QS.pickF rfl hF9 rfl) rfl ?_
    refine Tr.nil (Tr.thenN ?_)
    exact Tr.endX (Sub.cons rfl (Sub.dropN 5 (by kernel_rfl) rfl))
   refine Tr.q (QS.move rfl) rfl ?_
   apply Tr.andP
   ·exact (rfl : _ = (5, 62, 67))
   ·exact rfl
   ·intro hT10; have hT10' := hT10
    try simp only [bs] at hT10'
    refine Tr.gq rfl rfl hT10 (QS.fieldAddr (off := 2) (ft := 24) rfl Try.underlying26 rfl rfl Try.sizeOf24 (by decide)) rfl ?_
    refine Tr.gq rfl rfl hT10 (QS.lV rfl Try.isAgg24) rfl ?_
    refine Tr.gq rfl rfl hT10 (QS.len rfl (by assumption) Try.underlying24) rfl ?_
    refine Tr.gq rfl rfl hT10 (QS.leq rfl rfl) rfl ?_
    refine Tr.q (QS.pickT rfl hT10 rfl) rfl ?_
    refine Tr.nil (Tr.thenN ?_)
    exact Tr.endX (Sub.cons rfl (Sub.dropN 5 (by kernel_rfl) rfl))
   ·intro hF10
    refine Tr.gskip rfl rfl hF10 rfl ?_
    refine Tr.gskip rfl rfl hF10 rfl ?_
    refine Tr.gskip rfl rfl hF10 rfl ?_
    refine Tr.gskip rfl rfl hF10 rfl ?_
    refine Tr.q (QS.pickF rfl hF10 rfl) rfl ?_
    refine Tr.nil (Tr.thenN ?_)
    exact Tr.endX (Sub.cons rfl (Sub.dropN 5 (by kernel_rfl) rfl))
   refine Tr.q (QS.move rfl) rfl ?_
   apply Tr.andP
   ·exact (rfl : _ = (5, 68, 73))
   ·exact rfl
   ·intro hT11; have hT11' := hT11
    try simp only [bs] at hT11'
    refine Tr.gq rfl rfl hT11 (QS.fieldAddr (off := 3) (ft := 23) rfl Try.underlying26 rfl rfl Try.sizeOf23 (by decide)) rfl ?_
    refine Tr.gq rfl rfl hT11 (QS.lV rfl Try.isAgg23) rfl ?_
    refine Tr.gq rfl rfl hT11 (QS.len rfl (by assumption) Try.underlying23) rfl ?_
    refine Tr.gq rfl rfl hT11 (QS.leq rfl rfl) rfl ?_
    refine Tr.q (QS.pickT rfl hT11 rfl) rfl ?_
    refine Tr.nil (Tr.thenN ?_)
    exact Tr.endX (Sub.cons rfl (Sub.dropN 5 (by kernel_rfl) rfl))
   ·intro hF11
    refine Tr.gskip rfl rfl hF11 rfl ?_
    refine Tr.gskip rfl rfl hF11 rfl ?_
    refine Tr.gskip rfl rfl hF11 rfl ?_
    refine Tr.gskip rfl rfl hF11 rfl ?_
    refine Tr.q (QS.pickF rfl hF11 rfl) rfl ?_
    refine Tr.nil (Tr.thenN ?_)
    exact Tr.endX (Sub.cons rfl (Sub.dropN 5 (by kernel_rfl) rfl))
   refine Tr.q (QS.assign rfl) rfl ?_
   refine Tr.nil (Tr.thenN (Tr.ret ?_))
   refine Tr.ret1 Try.results10 rfl (fun w' hw => ?_)
   have hB := all_take8 hj1.1 hj1.2 (by omega) hj2
   exact ⟨by unfold fewP; rw [hA, hB]; rfl, hw.below (Bg.le.refl _)⟩
set_option maxRecDepth 100000 in
set_option maxHeartbeats 4000000 in
theorem lwalk_any (l : List SecV) (ts : List TabV) (at_ es : List UInt32) (V VE VT VP : Value) (w : World) (hV : Sl (hp w) encSec l V) (hB : SecB l) (hD : DataIn (hp w) l) (hN : ∀ s ∈ l, s.name.size ≤ 140737488351232) (hE : Sl (hp w) encU32 es VE) (hT : Sl (hp w) encTab ts VT) (hTI : TabIn (hp w) ts) (hTB : TabB ts) (hP : Sl (hp w) encU32 at_ VP) (ht : totD l ≤ 480) (hel : es.length ≤ 100) :
  Calls Try.prog 12 #[.agg #[V, VE, VT, VP]] w (fun e w' => ∃ i : ((Value × Value × Value × Value) × CodeP × Int), e = .returned ((fun i : ((Value × Value × Value × Value) × CodeP × Int) => .tuple #[.agg #[i.1.1, i.1.2.1, i.1.2.2.1, i.1.2.2.2], .int .i64 i.2.2]) i) ∧ Below w.heap.size w w' ∧ NewEnts w w' ((fun i : ((Value × Value × Value × Value) × CodeP × Int) => [rowE i.1.1 41 encIns i.2.1.ins, rowE i.1.2.1 39 encU32 i.2.1.ents, rowE i.1.2.2.1 39 encU32 i.2.1.unk, rowE i.1.2.2.2 39 encU32 i.2.1.bad]) i) ∧ WalkIs l ts at_ es i.2.1 i.2.2) := by
 have hV0 : Sl (Bg.of0 w).blk encSec l V := hV
 have hD0 : DataIn (Bg.of0 w).blk l := hD
 have hE0 : Sl (Bg.of0 w).blk encU32 es VE := hE
 have hT0 : Sl (Bg.of0 w).blk encTab ts VT := hT
 have hTI0 : TabIn (Bg.of0 w).blk ts := hTI
 have hP0 : Sl (Bg.of0 w).blk encU32 at_ VP := hP
 refine enter0 Try.func12 rfl Try.ntmps12 rfl ?_
 refine Tr.seq (Tr.region ?_)
 refine Tr.box rfl rfl rfl (fun b1 => ?_)
 refine Tr.alloc Try.zeroValue31 rfl rfl (fun b2 => ?_)
 refine Tr.q (QS.assign rfl) rfl ?_
 refine Tr.nil (Tr.thenN (Tr.seq (Tr.region ?_)))
 refine Tr.q (QS.fieldAddr (off := 0) (ft := 22) rfl Try.underlying26 rfl rfl Try.sizeOf22 (by decide)) rfl ?_
 refine Tr.q (QS.lV rfl Try.isAgg22) rfl ?_
 refine Tr.q (QS.fieldAddr (off := 1) (ft := 23) rfl Try.underlying26 rfl rfl Try.sizeOf23 (by decide)) rfl ?_
 refine Tr.q (QS.lV rfl Try.isAgg23) rfl ?_
 refine Tr.q (QS.fieldAddr (off := 2) (ft := 24) rfl Try.underlying26 rfl rfl Try.sizeOf24 (by decide)) rfl ?_
 refine Tr.q (QS.lV rfl Try.isAgg24) rfl ?_
 refine Tr.q (QS.fieldAddr (off := 3) (ft := 23) rfl Try.underlying26 rfl rfl Try.sizeOf23 (by decide)) rfl ?_
 refine Tr.q (QS.lV rfl Try.isAgg23) rfl ?_
 refine Tr.callEnts0 (fun i : ((Value × Value × Value × Value) × CodeP × Int) => .tuple #[.agg #[i.1.1, i.1.2.1, i.1.2.2.1, i.1.2.2.2], .int .i64 i.2.2]) (fun i : ((Value × Value × Value × Value) × CodeP × Int) => [rowE i.1.1 41 encIns i.2.1.ins, rowE i.1.2.1 39 encU32 i.2.1.ents, rowE i.1.2.2.1 39 encU32 i.2.1.unk, rowE i.1.2.2.2 39 encU32 i.2.1.bad]) (ok := fun i => WalkIs l ts at_ es i.2.1 i.2.2) (rfl) rfl Try.call22 (fun w hw => walk_any l ts at_ es V VE VT VP w (hw.slF hV0) hB (hD0.mono hw.bg) hN (hw.slF hE0) (hw.slF hT0) (hTI0.mono hw.bg) hTB (hw.slF hP0) ht hel) rfl (fun i hi => ?_)
 obtain ⟨⟨Vi, Ve, Vu, Vb⟩, c, e0⟩ := i
 replace hi : WalkIs l ts at_ es c e0 := hi
 change Tr _ _ ([rowE Vi 41 encIns c.ins, rowE Ve 39 encU32 c.ents, rowE Vu 39 encU32 c.unk, rowE Vb 39 encU32 c.bad] ++ _) _ _
 refine Tr.rowShape (V := Vi) (by repeat constructor) (fun pVi cVi hpv => ?_)
 subst hpv
 refine Tr.rowShape (V := Ve) (by repeat constructor) (fun pVe cVe hpv => ?_)
 subst hpv
 refine Tr.rowShape (V := Vu) (by repeat constructor) (fun pVu cVu hpv => ?_)
 subst hpv
 refine Tr.rowShape (V := Vb) (by repeat constructor) (fun pVb cVb hpv => ?_)
 subst hpv
 refine Tr.q (QS.extract rfl rfl) rfl ?_
 refine Tr.q (QS.extract rfl rfl) rfl ?_
 refine Tr.storeW rfl rfl Try.sizeOf31 (by repeat constructor) (by rfl) (by rfl) (by first | exact List.all_eq_true.1 rfl | exact Enc.one _ _ | (intro u hu; simp [Value.cells] at hu; simp_all [Value.oneCell'])) rfl ?_
 refine Tr.q (QS.assign rfl) rfl ?_
 refine Tr.nil (Tr.thenN (Tr.ret ?_))
 refine Tr.retC2 Try.results12 rfl rfl (by repeat constructor) Try.isAgg31 Try.sizeOf31 (by rfl) (fun w' hw => ?_)
 exact ⟨((_, _, _, _), c, e0), rfl, hw.below0 (Bg.le.refl _), hw.ents0 rfl (by repeat' constructor), hi⟩
set_option maxRecDepth 100000 in
set_option maxHeartbeats 2000000 in
theorem toRef_any (ai ae au ab : Option Addr) (ni ne nu nb ci ce cu cb : Nat) (w : World) :
  Calls Try.prog 24 #[.agg #[.slice ai ni ci, .slice ae ne ce, .slice au nu cu, .slice ab nb cb]] w (fun e w' => e = .returned (.agg #[.slice ai ni ci, .slice ae ne ce, .slice au nu cu, .slice ab nb cb]) ∧ Ext w w') := by
 refine enter Try.func24 rfl Try.ntmps24 rfl ?_
 refine Tr.seq (Tr.region ?_)
 refine Tr.box rfl rfl rfl (fun b1 => ?_)
 refine Tr.alloc Try.zeroValue51 rfl rfl (fun b2 => ?_)
 refine Tr.nil (Tr.thenN (Tr.seq (Tr.region ?_)))
 refine Tr.q (QS.fieldAddr (off := 0) (ft := 29) rfl Try.underlying31 rfl rfl Try.sizeOf29 (by decide)) rfl ?_
 refine Tr.q (QS.lV rfl Try.isAgg29) rfl ?_
 refine Tr.q (QS.fieldAddr (off := 1) (ft := 23) rfl Try.underlying31 rfl rfl Try.sizeOf23 (by decide)) rfl ?_
 refine Tr.q (QS.lV rfl Try.isAgg23) rfl ?_
 refine Tr.q (QS.fieldAddr (off := 2) (ft := 23) rfl Try.underlying31 rfl rfl Try.sizeOf23 (by decide)) rfl ?_
 refine Tr.q (QS.lV rfl Try.isAgg23) rfl ?_
 refine Tr.q (QS.fieldAddr (off := 3) (ft := 23) rfl Try.underlying31 rfl rfl Try.sizeOf23 (by decide)) rfl ?_
 refine Tr.q (QS.lV rfl Try.isAgg23) rfl ?_
 refine Tr.q (QS.build (vs := [(0, _), (1, _), (2, _), (3, _)]) (cs := #[.slice ai ni ci, .slice ae ne ce, .slice au nu cu, .slice ab nb cb]) rfl rfl (by kernel_rfl)) rfl ?_
 refine Tr.storeW rfl rfl Try.sizeOf51 (by repeat constructor) (by rfl) (by rfl) (by first | exact List.all_eq_true.1 rfl | exact Enc.one _ _ | (intro u hu; simp [Value.cells] at hu; simp_all [Value.oneCell'])) rfl ?_
 refine Tr.nil (Tr.thenN (Tr.ret ?_))
 refine Tr.retC1 Try.results24 rfl (by repeat constructor) Try.isAgg51 Try.sizeOf51 (by rfl) (fun w' hw => ?_)
 exact ⟨rfl, hw.below (Bg.le.refl _)⟩
set_option maxRecDepth 100000 in
set_option maxHeartbeats 2000000 in
theorem same12_any (c c' : CodeP) (Vi Ve Vu Vb Wi We Wu Wb : Value) (w : World) (h1 : Sl (hp w) encIns c.ins Vi) (h2 : Sl (hp w) encU32 c.ents Ve) (h3 : Sl (hp w) encU32 c.unk Vu) (h4 : Sl (hp w) encU32 c.bad Vb) (k1 : Sl (hp w) encIns c'.ins Wi) (k2 : Sl (hp w) encU32 c'.ents We) (k3 : Sl (hp w) encU32 c'.unk Wu) (k4 : Sl (hp w) encU32 c'.bad Wb) :
  Calls Try.prog 23 #[.agg #[Vi, Ve, Vu, Vb], .agg #[Wi, We, Wu, Wb]] w (fun e w' => e = .returned (.bool (((decide (c.ins = c'.ins) && decide (c.ents = c'.ents)) && decide (c.unk = c'.unk)) && decide (c.bad = c'.bad))) ∧ Ext w w') := by
 have g1 : Sl (Bg.of w).blk encIns c.ins Vi := h1
 have g2 : Sl (Bg.of w).blk encU32 c.ents Ve := h2
 have g3 : Sl (Bg.of w).blk encU32 c.unk Vu := h3
 have g4 : Sl (Bg.of w).blk encU32 c.bad Vb := h4
 have m1 : Sl (Bg.of w).blk encIns c'.ins Wi := k1
 have m2 : Sl (Bg.of w).blk encU32 c'.ents We := k2
 have m3 : Sl (Bg.of w).blk encU32 c'.unk Wu := k3
 have m4 : Sl (Bg.of w).blk encU32 c'.bad Wb := k4
 refine enter Try.func23 rfl Try.ntmps23 rfl ?_
 refine Tr.seq (Tr.region ?_)
 refine Tr.box rfl rfl rfl (fun b1 => ?_)
 refine Tr.box rfl rfl rfl (fun b2 => ?_)
 refine Tr.q (QS.assign rfl) rfl ?_
 refine Tr.nil (Tr.thenN (Tr.seq (Tr.region ?_)))
 refine Tr.q (QS.fieldAddr (off := 0) (ft := 29) rfl Try.underlying51 rfl rfl Try.sizeOf29 (by decide)) rfl ?_
 refine Tr.q (QS.lV rfl Try.isAgg29) rfl ?_
 refine Tr.q (QS.fieldAddr (off := 0) (ft := 29) rfl Try.underlying51 rfl rfl Try.sizeOf29 (by decide)) rfl ?_
 refine Tr.q (QS.lV rfl Try.isAgg29) rfl ?_
 refine Tr.q (QS.call rfl Try.call47 (fun w hw => same03_any c.ins c'.ins Vi Wi w (hw.slF g1) (hw.slF m1))) rfl ?_
 refine Tr.q (QS.move rfl) rfl ?_
 apply Tr.andP
 ·exact (rfl : _ = (6, 10, 16))
 ·exact rfl
 ·intro hT3; have hT3' := hT3
  try simp only [bs] at hT3'
  refine Tr.gq rfl rfl hT3 (QS.fieldAddr (off := 1) (ft := 23) rfl Try.underlying51 rfl rfl Try.sizeOf23 (by decide)) rfl ?_
  refine Tr.gq rfl rfl hT3 (QS.lV rfl Try.isAgg23) rfl ?_
  refine Tr.gq rfl rfl hT3 (QS.fieldAddr (off := 1) (ft := 23) rfl Try.underlying51 rfl rfl Try.sizeOf23 (by decide)) rfl ?_
  refine Tr.gq rfl rfl hT3 (QS.lV rfl Try.isAgg23) rfl ?_
  refine Tr.gq rfl rfl hT3 (QS.call rfl Try.call48 (fun w hw => words_any c.ents c'.ents Ve We w (hw.slF g2) (hw.slF m2))) rfl ?_
  refine Tr.q (QS.pickT rfl hT3 rfl) rfl ?_
  refine Tr.nil (Tr.thenN ?_)
  exact Tr.endX (Sub.cons rfl (Sub.dropN 6 (by kernel_rfl) rfl))
 ·intro hF3
  refine Tr.gskip rfl rfl hF3 rfl ?_
  refine Tr.gskip rfl rfl hF3 rfl ?_
  refine Tr.gskip rfl rfl hF3 rfl ?_
  refine Tr.gskip rfl rfl hF3 rfl ?_
  refine Tr.gskip rfl rfl hF3 rfl ?_
  refine Tr.q (QS.pickF rfl hF3 rfl) rfl ?_
  refine Tr.nil (Tr.thenN ?_)
  exact Tr.endX (Sub.cons rfl (Sub.dropN 6 (by kernel_rfl) rfl))
 refine Tr.q (QS.move rfl) rfl ?_
 apply Tr.andP
 ·exact (rfl : _ = (6, 17, 23))
 ·exact rfl
 ·intro hT4; have hT4' := hT4
  try simp only [bs] at hT4'
  refine Tr.gq rfl rfl hT4 (QS.fieldAddr (off := 2) (ft := 23) rfl Try.underlying51 rfl rfl Try.sizeOf23 (by decide)) rfl ?_
  refine Tr.gq rfl rfl hT4 (QS.lV rfl Try.isAgg23) rfl ?_
  refine Tr.gq rfl rfl hT4 (QS.fieldAddr (off := 2) (ft := 23) rfl Try.underlying51 rfl rfl Try.sizeOf23 (by decide)) rfl ?_
  refine Tr.gq rfl rfl hT4 (QS.lV rfl Try.isAgg23) rfl ?_
  refine Tr.gq rfl rfl hT4 (QS.call rfl Try.call48 (fun w hw => words_any c.unk c'.unk Vu Wu w (hw.slF g3) (hw.slF m3))) rfl ?_
  refine Tr.q (QS.pickT rfl hT4 rfl) rfl ?_
  refine Tr.nil (Tr.thenN ?_)
  exact Tr.endX (Sub.cons rfl (Sub.dropN 6 (by kernel_rfl) rfl))
 ·intro hF4
  refine Tr.gskip rfl rfl hF4 rfl ?_
  refine Tr.gskip rfl rfl hF4 rfl ?_
  refine Tr.gskip rfl rfl hF4 rfl ?_
  refine Tr.gskip rfl rfl hF4 rfl ?_
  refine Tr.gskip rfl rfl hF4 rfl ?_
  refine Tr.q (QS.pickF rfl hF4 rfl) rfl ?_
  refine Tr.nil (Tr.thenN ?_)
  exact Tr.endX (Sub.cons rfl (Sub.dropN 6 (by kernel_rfl) rfl))
 refine Tr.q (QS.move rfl) rfl ?_
 apply Tr.andP
 ·exact (rfl : _ = (6, 24, 30))
 ·exact rfl
 ·intro hT5; have hT5' := hT5
  try simp only [bs] at hT5'
  refine Tr.gq rfl rfl hT5 (QS.fieldAddr (off := 3) (ft := 23) rfl Try.underlying51 rfl rfl Try.sizeOf23 (by decide)) rfl ?_
  refine Tr.gq rfl rfl hT5 (QS.lV rfl Try.isAgg23) rfl ?_
  refine Tr.gq rfl rfl hT5 (QS.fieldAddr (off := 3) (ft := 23) rfl Try.underlying51 rfl rfl Try.sizeOf23 (by decide)) rfl ?_
  refine Tr.gq rfl rfl hT5 (QS.lV rfl Try.isAgg23) rfl ?_
  refine Tr.gq rfl rfl hT5 (QS.call rfl Try.call48 (fun w hw => words_any c.bad c'.bad Vb Wb w (hw.slF g4) (hw.slF m4))) rfl ?_
  refine Tr.q (QS.pickT rfl hT5 rfl) rfl ?_
  refine Tr.nil (Tr.thenN ?_)
  exact Tr.endX (Sub.cons rfl (Sub.dropN 6 (by kernel_rfl) rfl))
 ·intro hF5
  refine Tr.gskip rfl rfl hF5 rfl ?_
  refine Tr.gskip rfl rfl hF5 rfl ?_
  refine Tr.gskip rfl rfl hF5 rfl ?_
  refine Tr.gskip rfl rfl hF5 rfl ?_
  refine Tr.gskip rfl rfl hF5 rfl ?_
  refine Tr.q (QS.pickF rfl hF5 rfl) rfl ?_
  refine Tr.nil (Tr.thenN ?_)
  exact Tr.endX (Sub.cons rfl (Sub.dropN 6 (by kernel_rfl) rfl))
 refine Tr.q (QS.assign rfl) rfl ?_
 refine Tr.nil (Tr.thenN (Tr.ret ?_))
 refine Tr.ret1 Try.results23 rfl (fun w' hw => ?_)
 exact ⟨rfl, hw.below (Bg.le.refl _)⟩
set_option maxRecDepth 100000 in
set_option maxHeartbeats 8000000 in
theorem example12_any (w : World) :
  Calls Try.prog 11 #[] w (fun e w' => e = .returned (.bool true) ∧ Below w.heap.size w w') := by
 refine enter0 Try.func11 rfl Try.ntmps11 rfl ?_
 refine Tr.seq (Tr.region ?_)
 refine Tr.q (QS.assign rfl) rfl ?_
 refine Tr.nil (Tr.thenN (Tr.seq (Tr.region ?_)))
 refine Tr.litN (E := encU8) exB (vs := [(0, _), (1, _), (2, _), (3, _), (4, _), (5, _), (6, _), (7, _), (8, _), (9, _), (10, _)]) rfl rfl Try.underlying61 Try.sizeOf5 Try.zeroValue5 (by rfl) (by rfl) rfl (by first | kernel_rfl | rfl) rfl (fun V1 => ?_)
 refine Tr.rowShape (.head _) (fun pa pc hpv => ?_)
 subst hpv
 refine Tr.frozen (.here _) (fun F1 hF1 hD1 => ?_)
 refine Tr.q (QS.build (vs := [(0, _), (1, _), (2, _), (4, _)]) rfl rfl rfl) rfl ?_
 refine Tr.lit1 (E := encSec) (exS pa pc) rfl rfl Try.underlying22 Try.sizeOf63 Try.zeroValue63 (by rfl) (by rfl) rfl (fun V2 => ?_)
 refine Tr.frozen (.here _) (fun F2 hF2 hS => ?_)
 replace hD1 := hD1.mono hF2.blk
 refine Tr.q (QS.assign rfl) rfl ?_
 refine Tr.nil (Tr.thenN (Tr.seq (Tr.region ?_)))
 refine Tr.q (QS.move rfl) rfl ?_
 refine Tr.lit1 (E := encU32) (4096 : UInt32) rfl rfl Try.underlying23 Try.sizeOf39 Try.zeroValue39 (by rfl) (by rfl) rfl (fun V3 => ?_)
 refine Tr.frozen (.here _) (fun F3 hF3 hE3 => ?_)
 have hS3 := hS.mono hF3.blk
 have hD3 := hD1.mono hF3.blk
 have hdr3 := (hF1.trans (hF2.trans hF3)).dr
 refine Tr.callEnts0 (fun i : ((Value × Value × Value × Value) × CodeP × Int) => .tuple #[.agg #[i.1.1, i.1.2.1, i.1.2.2.1, i.1.2.2.2], .int .i64 i.2.2]) (fun i : ((Value × Value × Value × Value) × CodeP × Int) => [rowE i.1.1 41 encIns i.2.1.ins, rowE i.1.2.1 39 encU32 i.2.1.ents, rowE i.1.2.2.1 39 encU32 i.2.1.unk, rowE i.1.2.2.2 39 encU32 i.2.1.bad]) (ok := fun i => WalkIs [exS pa pc] [] [] [4096] i.2.1 i.2.2) (hdr3) rfl Try.call22 (fun w hw => walk_any [exS pa pc] [] [] [4096] _ _ (.slice none 0 0) (.slice none 0 0) w (hw.slF hS3) ⟨by simp, by simp [exS, exB]⟩ (fun s hs => by simp only [List.mem_singleton] at hs; subst hs; exact hw.slF hD3) (by simp [exS]; decide) (hw.slF hE3) (Sl.nil _ _) (fun t ht => by cases ht) ⟨by simp, fun t ht => by cases ht⟩ (Sl.nil _ _) (by simp [totD, exS, exB]) (by simp)) rfl (fun i hi => ?_)
 obtain ⟨⟨Vi, Ve, Vu, Vb⟩, c, e0⟩ := i
 obtain ⟨hc, he⟩ := ex_walk hi
 replace hc : c = ⟨exI, exE, [], []⟩ := hc
 replace he : e0 = 0 := he
 subst hc he
 change Tr _ _ ([rowE Vi 41 encIns exI, rowE Ve 39 encU32 exE, rowE Vu 39 encU32 [], rowE Vb 39 encU32 []] ++ _) _ _
 refine Tr.rowShape (V := Vi) (by repeat constructor) (fun pVi cVi hpv => ?_)
 subst hpv
 refine Tr.rowShape (V := Ve) (by repeat constructor) (fun pVe cVe hpv => ?_)
 subst hpv
 refine Tr.rowShape (V := Vu) (by repeat constructor) (fun pVu cVu hpv => ?_)
 subst hpv
 refine Tr.rowShape (V := Vb) (by repeat constructor) (fun pVb cVb hpv => ?_)
 subst hpv
 have hxi : exI.length = 4 := rfl
 have hxe : exE.length = 2 := rfl
 refine Tr.q (QS.move rfl) rfl ?_
 refine Tr.q (QS.extract rfl rfl) rfl ?_
 refine Tr.q (QS.extract rfl rfl) rfl ?_
 refine Tr.alloc Try.zeroValue31 rfl rfl (fun b4 => ?_)
 refine Tr.storeW rfl rfl Try.sizeOf31 (by repeat constructor) (by rfl) (by rfl) (by first | exact List.all_eq_true.1 rfl | exact Enc.one _ _ | (intro u hu; simp [Value.cells] at hu; simp_all [Value.oneCell'])) rfl ?_
 refine Tr.q (QS.assign rfl) rfl ?_
 refine Tr.nil (Tr.thenN (Tr.seq (Tr.region ?_)))
 refine Tr.q (QS.move rfl) rfl ?_
 refine Tr.q (QS.eql rfl rfl) rfl ?_
 refine Tr.q (QS.move rfl) rfl ?_
 apply Tr.andP
 ·exact (rfl : _ = (5, 15, 20))
 ·exact rfl
 ·intro hT5; have hT5' := hT5
  try simp only [bs] at hT5'
  refine Tr.gq rfl rfl hT5 (QS.fieldAddr (off := 0) (ft := 29) rfl Try.underlying31 rfl rfl Try.sizeOf29 (by decide)) rfl ?_
  refine Tr.gq rfl rfl hT5 (QS.lV rfl Try.isAgg29) rfl ?_
  refine Tr.gq rfl rfl hT5 (QS.lenRow rfl (by repeat constructor) Try.underlying29) rfl ?_
  refine Tr.gq rfl rfl hT5 (QS.eql rfl rfl) rfl ?_
  refine Tr.q (QS.pickT rfl hT5 rfl) rfl ?_
  refine Tr.nil (Tr.thenN ?_)
  exact Tr.endX (Sub.cons rfl (Sub.dropN 5 (by kernel_rfl) rfl))
 ·intro hF5
  refine Tr.gskip rfl rfl hF5 rfl ?_
  refine Tr.gskip rfl rfl hF5 rfl ?_
  refine Tr.gskip rfl rfl hF5 rfl ?_
  refine Tr.gskip rfl rfl hF5 rfl ?_
  refine Tr.q (QS.pickF rfl hF5 rfl) rfl ?_
  refine Tr.nil (Tr.thenN ?_)
  exact Tr.endX (Sub.cons rfl (Sub.dropN 5 (by kernel_rfl) rfl))
 refine Tr.q (QS.move rfl) rfl ?_
 apply Tr.andP
 ·exact (rfl : _ = (7, 21, 28))
 ·exact rfl
 ·intro hT6; have hT6' := hT6
  try simp only [bs] at hT6'
  refine Tr.gq rfl rfl hT6 (QS.fieldAddr (off := 0) (ft := 29) rfl Try.underlying31 rfl rfl Try.sizeOf29 (by decide)) rfl ?_
  refine Tr.gq rfl rfl hT6 (QS.lV rfl Try.isAgg29) rfl ?_
  refine Tr.gq rfl rfl hT6 (QS.idxRow rfl rfl (by repeat constructor) Try.underlying29 Try.sizeOf41 (by rfl) (by omega)) rfl ?_
  refine Tr.gq rfl rfl hT6 (QS.elRA rfl (by repeat constructor) Try.isAgg41 Try.sizeOf41 (by rfl) (by omega)) rfl ?_
  refine Tr.gq rfl rfl hT6 (QS.build (vs := [(0, _), (1, _), (2, _), (8, _)]) (cs := (encIns.enc (⟨4099, 4106, 23, 0, 0, 0, 0, 0, 5⟩ : Ins)).toArray) rfl rfl (by kernel_rfl)) rfl ?_
  refine Tr.gq rfl rfl hT6 (QS.eqlE rfl rfl insEqEnc Try.underlying41 (HLF.words41 _ Try.underlying41) rfl HLF.held41 HLF.eqg41) rfl ?_
  refine Tr.q (QS.pickT rfl hT6 rfl) rfl ?_
  refine Tr.nil (Tr.thenN ?_)
  exact Tr.endX (Sub.cons rfl (Sub.dropN 7 (by kernel_rfl) rfl))
 ·intro hF6
  refine Tr.gskip rfl rfl hF6 rfl ?_
  refine Tr.gskip rfl rfl hF6 rfl ?_
  refine Tr.gskip rfl rfl hF6 rfl ?_
  refine Tr.gskip rfl rfl hF6 rfl ?_
  refine Tr.gskip rfl rfl hF6 rfl ?_
  refine Tr.gskip rfl rfl hF6 rfl ?_
  refine Tr.q (QS.pickF rfl hF6 rfl) rfl ?_
  refine Tr.nil (Tr.thenN ?_)
  exact Tr.endX (Sub.cons rfl (Sub.dropN 7 (by kernel_rfl) rfl))
 refine Tr.q (QS.move rfl) rfl ?_
 apply Tr.andP
 ·exact (rfl : _ = (7, 29, 36))
 ·exact rfl
 ·intro hT7; have hT7' := hT7
  try simp only [bs] at hT7'
  refine Tr.gq rfl rfl hT7 (QS.fieldAddr (off := 0) (ft := 29) rfl Try.underlying31 rfl rfl Try.sizeOf29 (by decide)) rfl ?_
  refine Tr.gq rfl rfl hT7 (QS.lV rfl Try.isAgg29) rfl ?_
  refine Tr.gq rfl rfl hT7 (QS.idxRow rfl rfl (by repeat constructor) Try.underlying29 Try.sizeOf41 (by rfl) (by omega)) rfl ?_
  refine Tr.gq rfl rfl hT7 (QS.fieldAddr (off := 0) (ft := 39) rfl Try.underlying41 rfl rfl Try.sizeOf39 (by decide)) rfl ?_
  refine Tr.gq rfl rfl hT7 (QS.elRF rfl (by repeat constructor) Try.isAgg39 (by omega) (by rfl)) rfl ?_
  refine Tr.gq rfl rfl hT7 (QS.eql32 (n := 4106) rfl rfl) rfl ?_
  refine Tr.q (QS.pickT rfl hT7 rfl) rfl ?_
  refine Tr.nil (Tr.thenN ?_)
  exact Tr.endX (Sub.cons rfl (Sub.dropN 7 (by kernel_rfl) rfl))
 ·intro hF7
  refine Tr.gskip rfl rfl hF7 rfl ?_
  refine Tr.gskip rfl rfl hF7 rfl ?_
  refine Tr.gskip rfl rfl hF7 rfl ?_
  refine Tr.gskip rfl rfl hF7 rfl ?_
  refine Tr.gskip rfl rfl hF7 rfl ?_
  refine Tr.gskip rfl rfl hF7 rfl ?_
  refine Tr.q (QS.pickF rfl hF7 rfl) rfl ?_
  refine Tr.nil (Tr.thenN ?_)
  exact Tr.endX (Sub.cons rfl (Sub.dropN 7 (by kernel_rfl) rfl))
 refine Tr.q (QS.move rfl) rfl ?_
 apply Tr.andP
 ·exact (rfl : _ = (5, 37, 42))
 ·exact rfl
 ·intro hT8; have hT8' := hT8
  try simp only [bs] at hT8'
  refine Tr.gq rfl rfl hT8 (QS.fieldAddr (off := 1) (ft := 23) rfl Try.underlying31 rfl rfl Try.sizeOf23 (by decide)) rfl ?_
  refine Tr.gq rfl rfl hT8 (QS.lV rfl Try.isAgg23) rfl ?_
  refine Tr.gq rfl rfl hT8 (QS.lenRow rfl (by repeat constructor) Try.underlying23) rfl ?_
  refine Tr.gq rfl rfl hT8 (QS.eql rfl rfl) rfl ?_
  refine Tr.q (QS.pickT rfl hT8 rfl) rfl ?_
  refine Tr.nil (Tr.thenN ?_)
  exact Tr.endX (Sub.cons rfl (Sub.dropN 5 (by kernel_rfl) rfl))
 ·intro hF8
  refine Tr.gskip rfl rfl hF8 rfl ?_
  refine Tr.gskip rfl rfl hF8 rfl ?_
  refine Tr.gskip rfl rfl hF8 rfl ?_
  refine Tr.gskip rfl rfl hF8 rfl ?_
  refine Tr.q (QS.pickF rfl hF8 rfl) rfl ?_
  refine Tr.nil (Tr.thenN ?_)
  exact Tr.endX (Sub.cons rfl (Sub.dropN 5 (by kernel_rfl) rfl))
 refine Tr.q (QS.move rfl) rfl ?_
 apply Tr.andP
 ·exact (rfl : _ = (6, 43, 49))
 ·exact rfl
 ·intro hT9; have hT9' := hT9
  try simp only [bs] at hT9'
  refine Tr.gq rfl rfl hT9 (QS.fieldAddr (off := 1) (ft := 23) rfl Try.underlying31 rfl rfl Try.sizeOf23 (by decide)) rfl ?_
  refine Tr.gq rfl rfl hT9 (QS.lV rfl Try.isAgg23) rfl ?_
  refine Tr.gq rfl rfl hT9 (QS.idxRow rfl rfl (by repeat constructor) Try.underlying23 Try.sizeOf39 (by rfl) (by omega)) rfl ?_
  refine Tr.gq rfl rfl hT9 (QS.elR1 rfl (by repeat constructor) Try.isAgg39 (by omega) (by rfl)) rfl ?_
  refine Tr.gq rfl rfl hT9 (QS.eql32 (n := 4096) rfl rfl) rfl ?_
  refine Tr.q (QS.pickT rfl hT9 rfl) rfl ?_
  refine Tr.nil (Tr.thenN ?_)
  exact Tr.endX (Sub.cons rfl (Sub.dropN 6 (by kernel_rfl) rfl))
 ·intro hF9
  refine Tr.gskip rfl rfl hF9 rfl ?_
  refine Tr.gskip rfl rfl hF9 rfl ?_
  refine Tr.gskip rfl rfl hF9 rfl ?_
  refine Tr.gskip rfl rfl hF9 rfl ?_
  refine Tr.gskip rfl rfl hF9 rfl ?_
  refine Tr.q (QS.pickF rfl hF9 rfl) rfl ?_
  refine Tr.nil (Tr.thenN ?_)
  exact Tr.endX (Sub.cons rfl (Sub.dropN 6 (by kernel_rfl) rfl))
 refine Tr.q (QS.move rfl) rfl ?_
 apply Tr.andP
 ·exact (rfl : _ = (6, 50, 56))
 ·exact rfl
 ·intro hT10; have hT10' := hT10
  try simp only [bs] at hT10'
  refine Tr.gq rfl rfl hT10 (QS.fieldAddr (off := 1) (ft := 23) rfl Try.underlying31 rfl rfl Try.sizeOf23 (by decide)) rfl ?_
  refine Tr.gq rfl rfl hT10 (QS.lV rfl Try.isAgg23) rfl ?_
  refine Tr.gq rfl rfl hT10 (QS.idxRow rfl rfl (by repeat constructor) Try.underlying23 Try.sizeOf39 (by rfl) (by omega)) rfl ?_
  refine Tr.gq rfl rfl hT10 (QS.elR1 rfl (by repeat constructor) Try.isAgg39 (by omega) (by rfl)) rfl ?_
  refine Tr.gq rfl rfl hT10 (QS.eql32 (n := 4106) rfl rfl) rfl ?_
  refine Tr.q (QS.pickT rfl hT10 rfl) rfl ?_
  refine Tr.nil (Tr.thenN ?_)
  exact Tr.endX (Sub.cons rfl (Sub.dropN 6 (by kernel_rfl) rfl))
 ·intro hF10
  refine Tr.gskip rfl rfl hF10 rfl ?_
  refine Tr.gskip rfl rfl hF10 rfl ?_
  refine Tr.gskip rfl rfl hF10 rfl ?_
  refine Tr.gskip rfl rfl hF10 rfl ?_
  refine Tr.gskip rfl rfl hF10 rfl ?_
  refine Tr.q (QS.pickF rfl hF10 rfl) rfl ?_
  refine Tr.nil (Tr.thenN ?_)
  exact Tr.endX (Sub.cons rfl (Sub.dropN 6 (by kernel_rfl) rfl))
 refine Tr.q (QS.move rfl) rfl ?_
 apply Tr.andP
 ·exact (rfl : _ = (9, 57, 66))
 ·exact rfl
 ·intro hT11; have hT11' := hT11
  try simp only [bs] at hT11'
  refine Tr.gq rfl rfl hT11 (QS.fieldAddr (off := 2) (ft := 23) rfl Try.underlying31 rfl rfl Try.sizeOf23 (by decide)) rfl ?_
  refine Tr.gq rfl rfl hT11 (QS.lV rfl Try.isAgg23) rfl ?_
  refine Tr.gq rfl rfl hT11 (QS.lenRow rfl (by repeat constructor) Try.underlying23) rfl ?_
  refine Tr.gq rfl rfl hT11 (QS.fieldAddr (off := 3) (ft := 23) rfl Try.underlying31 rfl rfl Try.sizeOf23 (by decide)) rfl ?_
  refine Tr.gq rfl rfl hT11 (QS.lV rfl Try.isAgg23) rfl ?_
  refine Tr.gq rfl rfl hT11 (QS.lenRow rfl (by repeat constructor) Try.underlying23) rfl ?_
  refine Tr.gq rfl rfl hT11 (QS.add rfl rfl) rfl ?_
  refine Tr.gq rfl rfl hT11 (QS.eql rfl rfl) rfl ?_
  refine Tr.q (QS.pickT rfl hT11 rfl) rfl ?_
  refine Tr.nil (Tr.thenN ?_)
  exact Tr.endX (Sub.cons rfl (Sub.dropN 9 (by kernel_rfl) rfl))
 ·intro hF11
  refine Tr.gskip rfl rfl hF11 rfl ?_
  refine Tr.gskip rfl rfl hF11 rfl ?_
  refine Tr.gskip rfl rfl hF11 rfl ?_
  refine Tr.gskip rfl rfl hF11 rfl ?_
  refine Tr.gskip rfl rfl hF11 rfl ?_
  refine Tr.gskip rfl rfl hF11 rfl ?_
  refine Tr.gskip rfl rfl hF11 rfl ?_
  refine Tr.gskip rfl rfl hF11 rfl ?_
  refine Tr.q (QS.pickF rfl hF11 rfl) rfl ?_
  refine Tr.nil (Tr.thenN ?_)
  exact Tr.endX (Sub.cons rfl (Sub.dropN 9 (by kernel_rfl) rfl))
 refine Tr.q (QS.move rfl) rfl ?_
 apply Tr.andP
 ·exact (rfl : _ = (3, 67, 70))
 ·exact rfl
 ·intro hT12; have hT12' := hT12
  try simp only [bs] at hT12'
  refine Tr.gq rfl rfl hT12 (QS.lW rfl Try.isAgg31 Try.sizeOf31) rfl ?_
  refine Tr.gq rfl rfl hT12 (QS.call rfl Try.call21 (fun w hw => dreach_any exI 4104 _ _ _ _ w (hw.row (by repeat constructor)))) rfl ?_
  refine Tr.q (QS.pickT rfl hT12 rfl) rfl ?_
  refine Tr.nil (Tr.thenN ?_)
  exact Tr.endX (Sub.cons rfl (Sub.dropN 3 (by kernel_rfl) rfl))
 ·intro hF12
  refine Tr.gskip rfl rfl hF12 rfl ?_
  refine Tr.gskip rfl rfl hF12 rfl ?_
  refine Tr.q (QS.pickF rfl hF12 rfl) rfl ?_
  refine Tr.nil (Tr.thenN ?_)
  exact Tr.endX (Sub.cons rfl (Sub.dropN 3 (by kernel_rfl) rfl))
 refine Tr.q (QS.move rfl) rfl ?_
 apply Tr.andP
 ·exact (rfl : _ = (4, 71, 75))
 ·exact rfl
 ·intro hT13; have hT13' := hT13
  try simp only [bs] at hT13'
  refine Tr.gq rfl rfl hT13 (QS.lW rfl Try.isAgg31 Try.sizeOf31) rfl ?_
  refine Tr.gq rfl rfl hT13 (QS.call rfl Try.call21 (fun w hw => dreach_any exI 4098 _ _ _ _ w (hw.row (by repeat constructor)))) rfl ?_
  refine Tr.gq rfl rfl hT13 (QS.not rfl) rfl ?_
  refine Tr.q (QS.pickT rfl hT13 rfl) rfl ?_
  refine Tr.nil (Tr.thenN ?_)
  exact Tr.endX (Sub.cons rfl (Sub.dropN 4 (by kernel_rfl) rfl))
 ·intro hF13
  refine Tr.gskip rfl rfl hF13 rfl ?_
  refine Tr.gskip rfl rfl hF13 rfl ?_
  refine Tr.gskip rfl rfl hF13 rfl ?_
  refine Tr.q (QS.pickF rfl hF13 rfl) rfl ?_
  refine Tr.nil (Tr.thenN ?_)
  exact Tr.endX (Sub.cons rfl (Sub.dropN 4 (by kernel_rfl) rfl))
 refine Tr.q (QS.assign rfl) rfl ?_
 refine Tr.nil (Tr.thenN (Tr.ret ?_))
 refine Tr.ret1 Try.results11 rfl (fun w' hw => ?_)
 exact ⟨by first | rfl | (simp; decide), hw.below0 (hF1.trans (hF2.trans hF3))⟩
end Go.Proofs.Ytnmaokalpbnmaaa
namespace Go.HL
open Go Go.Deep Go.ChangeShapes Go.WideShapes
section
variable {H : Type} {enc : TypeId × Value → H} {P : Program} {w : World} {base : Nat} {spare : Nat → Bool} {held : Bool}
theorem sl_of_trod {α : Type} [Inhabited α] {E : Enc α} {R : α → Prop} {t e : TypeId} {fuel : Nat} {V : Value} {x : DataW H × List MemPlace} (ht : P.underlying t = some (.slice e)) (hc : P.cellsOf e = E.k) (hk : 0 < E.k)
    (hf : ∀ n cs y, cs.length = E.k → DataW.trod enc P w base spare held n e cs = some y → ∃ a : α, cs = E.enc a ∧ R a)
    (h : DataW.trod enc P w base spare held fuel t [V] = some x) : ∃ l : List α, Sl (hp w) E l V ∧ ∀ a ∈ l, R a := by
  rcases open_slice ht h with ⟨h0, _⟩ | ⟨a, len, cap, m, n, D, Pl, hv, hb, hl, hm, hmm, _, hx⟩
  · simp only [List.cons.injEq, and_true] at h0
    subst h0
    exact ⟨[], Sl.nil _ _, by simp⟩
  · simp only [List.cons.injEq, and_true] at hv
    subst hv
    have hlm : len ≤ m := by rw [hmm]; split <;> omega
    have each : ∀ i, i < len → ∃ q : α, w.cells? base (a.add (i * E.k)) E.k = some (E.enc q) ∧ R q := fun i hi => by
      obtain ⟨cs', h1, h2⟩ := hx i (by omega)
      rw [hc] at h1
      obtain ⟨q, rfl, hq⟩ := hf n cs' _ (World.cells?_some h1).2.1 h2
      exact ⟨q, h1, hq⟩
    obtain ⟨f, hfn⟩ := choose_lt each
    have hsp : 0 < len → a = ⟨a.block, a.off, none⟩ := fun hl0 => by
      have h1 := (World.cells?_some (hfn 0 hl0).1).2.2 0 hk
      have hlen : 0 < (E.enc (f 0)).length := by rw [E.len]; exact hk
      rw [List.getElem?_eq_getElem hlen] at h1
      have hsp := World.cell?_spot h1
      obtain ⟨b, o, sp⟩ := a
      have : sp = none := by simpa [Addr.add] using hsp
      subst this
      rfl
    refine ⟨(List.range len).map f, ⟨⟨some a, cap, by simp, by simpa using hl, hm, fun hne => ?_⟩, fun i q hq => ?_⟩, fun q hq => ?_⟩
    · have hl0 : 0 < len := by
        rcases Nat.eq_zero_or_pos len with h | h
        · subst h; simp at hne
        · exact h
      rw [hsp hl0]; rfl
    · have hi : i < len := by
        have := (List.getElem?_eq_some_iff.1 hq).1
        simpa using this
      have hq' : f i = q := by simpa [hi] using hq
      subst hq'
      have ha := hsp (by omega)
      obtain ⟨b, o, sp⟩ := a
      obtain rfl : sp = none := by simpa using ha
      have hc' := (World.cells?_some (hfn i hi).1).2.2
      have hlen : (E.enc (f i)).length = E.k := E.len _
      have eA : ∀ j, (((⟨b, o, none⟩ : Addr).add (i * E.k)).add j) = ⟨b, o + i * E.k + j, none⟩ := fun j => by
        rw [Go.Deep.add_add]; simp only [Addr.add]
        by_cases h0 : i * E.k + j = 0
        · rw [if_pos h0]
          have : i * E.k = 0 := by omega
          have : j = 0 := by omega
          simp_all
        · rw [if_neg h0, Nat.add_assoc]
      have h1 := hc' 0 hk
      rw [List.getElem?_eq_getElem (by omega), eA] at h1
      have hb1 : ∃ cs T fz, w.heap[b]? = some (.cells cs T fz) := by
        unfold World.cell? at h1
        split at h1
        · rename_i cs T fz hh; exact ⟨cs, T, fz, hh⟩
        · simp at h1
      obtain ⟨cs, T, fz, hh⟩ := hb1
      refine ⟨cs, T, fz, hh, fun j v hj => ?_⟩
      have hjk : j < E.k := by have := (List.getElem?_eq_some_iff.1 hj).1; omega
      have h2 := hc' j hjk
      rw [hj, eA] at h2
      unfold World.cell? at h2
      simp only [hh] at h2
      simp only [ofs]
      simpa using h2
    · obtain ⟨i, hi, rfl⟩ := List.mem_map.1 hq
      exact (hfn i (List.mem_range.1 hi)).2
theorem u8_of_wf {n : Int} (h : (Lit.int .u8 n).wf = true) : ∃ x : UInt8, n = (x.toNat : Int) := by
  have := bounds_u8 h
  refine ⟨UInt8.ofNat n.toNat, ?_⟩
  rw [UInt8.toNat_ofNat']; omega
theorem u32_of_wf {n : Int} (h : (Lit.int .u32 n).wf = true) : ∃ x : UInt32, n = (x.toNat : Int) := by
  have := bounds_u32 h
  refine ⟨UInt32.ofNat n.toNat, ?_⟩
  rw [UInt32.toNat_ofNat']; omega
theorem flat_u8 {e : TypeId} (he : P.underlying e = some (.int .u8)) {n : Nat} {cs : List Value} {y : DataW H × List MemPlace} (h : DataW.trod enc P w base spare held n e cs = some y) : ∃ a, cs = encU8.enc a ∧ True := by
  obtain ⟨z, rfl, _, hw⟩ := DataW.trod_int he h
  obtain ⟨x, rfl⟩ := u8_of_wf hw
  exact ⟨x, rfl, trivial⟩
end
end Go.HL
namespace Go.HL
open Go Go.Deep Go.ChangeShapes Go.WideShapes
section
variable {H : Type} {enc : TypeId × Value → H} {P : Program} {w : World} {base : Nat} {spare : Nat → Bool} {held : Bool}
theorem agg_of {cs : Array Value} {l : List Value} (h : (Value.agg cs).cells.toList = l) : cs = l.toArray := by
  subst h; simp [Value.cells]
end
end Go.HL
namespace Go.HL
open Go Go.Deep Go.ChangeShapes Go.WideShapes
section
variable {H : Type} {enc : TypeId × Value → H} {P : Program} {w : World} {base : Nat} {spare : Nat → Bool} {held : Bool}
theorem flat_u32 {e : TypeId} (he : P.underlying e = some (.int .u32)) {n : Nat} {cs : List Value} {y : DataW H × List MemPlace} (h : DataW.trod enc P w base spare held n e cs = some y) : ∃ a, cs = encU32.enc a ∧ True := by
  obtain ⟨z, rfl, _, hw⟩ := DataW.trod_int he h
  obtain ⟨x, rfl⟩ := u32_of_wf hw
  exact ⟨x, rfl, trivial⟩
end
end Go.HL
namespace Go.HL
open Go Go.Deep Go.ChangeShapes Go.WideShapes
section
variable {H : Type} {enc : TypeId × Value → H} {P : Program} {w : World} {base : Nat} {spare : Nat → Bool} {held : Bool}
/-- No slice and no text in it is beyond what the form reaches. -/
def Light (P : Program) (t : TypeId) (d : DataW H) : Prop := ∀ n ∈ d.weights P t, n ≤ reachBytes
theorem weightsAll_mem {P : Program} {e : TypeId} : ∀ {l : List (DataW H)} {d : DataW H}, d ∈ l → ∀ n ∈ d.weights P e, n ∈ DataW.weightsAll P e l
  | x :: l, d, h, n, hn => by
    simp only [DataW.weightsAll, List.mem_append]
    rcases List.mem_cons.1 h with rfl | h
    · exact .inl hn
    · exact .inr (weightsAll_mem h n hn)
theorem sl_of_trodW {α : Type} [Inhabited α] {E : Enc α} {R : α → Prop} {t e : TypeId} {fuel : Nat} {V : Value} {x : DataW H × List MemPlace} (ht : P.underlying t = some (.slice e)) (hc : P.cellsOf e = E.k) (hk : 0 < E.k) (hL : Light P t x.1)
    (hf : ∀ n cs y, cs.length = E.k → DataW.trod enc P w base spare held n e cs = some y → Light P e y.1 → ∃ a : α, cs = E.enc a ∧ R a)
    (h : DataW.trod enc P w base spare held fuel t [V] = some x) : ∃ l : List α, Sl (hp w) E l V ∧ (∀ a ∈ l, R a) ∧ l.length * P.bytesOf e ≤ reachBytes := by
  rcases open_slice ht h with ⟨h0, _⟩ | ⟨a, len, cap, m, n, D, Pl, hv, hb, hl, hm, hmm, hxx, hx⟩
  · simp only [List.cons.injEq, and_true] at h0
    subst h0
    exact ⟨[], Sl.nil _ _, by simp, by simp⟩
  · simp only [List.cons.injEq, and_true] at hv
    subst hv
    subst hxx
    have hlm : len ≤ m := by rw [hmm]; split <;> omega
    have hw : DataW.weights P t (.slice ((List.range len).map D) ((List.range (m - len)).map fun j => D (len + j))) = (((List.range len).map D).length + ((List.range (m - len)).map fun j => D (len + j)).length) * P.bytesOf e :: (DataW.weightsAll P e ((List.range len).map D) ++ DataW.weightsAll P e ((List.range (m - len)).map fun j => D (len + j))) := by
      simp only [DataW.weights, ht]
    have each : ∀ i, i < len → ∃ q : α, w.cells? base (a.add (i * E.k)) E.k = some (E.enc q) ∧ R q := fun i hi => by
      obtain ⟨cs', h1, h2⟩ := hx i (by omega)
      rw [hc] at h1
      obtain ⟨q, rfl, hq⟩ := hf n cs' _ (World.cells?_some h1).2.1 h2 (fun z hz => hL z (by
        rw [hw]
        exact .tail _ (List.mem_append.2 (.inl (weightsAll_mem (List.mem_map.2 ⟨i, List.mem_range.2 hi, rfl⟩) z hz)))))
      exact ⟨q, h1, hq⟩
    obtain ⟨f, hfn⟩ := choose_lt each
    have hsp : 0 < len → a = ⟨a.block, a.off, none⟩ := fun hl0 => by
      have h1 := (World.cells?_some (hfn 0 hl0).1).2.2 0 hk
      have hlen : 0 < (E.enc (f 0)).length := by rw [E.len]; exact hk
      rw [List.getElem?_eq_getElem hlen] at h1
      have hsp := World.cell?_spot h1
      obtain ⟨b, o, sp⟩ := a
      have : sp = none := by simpa [Addr.add] using hsp
      subst this
      rfl
    refine ⟨(List.range len).map f, ⟨⟨some a, cap, by simp, by simpa using hl, hm, fun hne => ?_⟩, fun i q hq => ?_⟩, fun q hq => ?_, ?_⟩
    · have hl0 : 0 < len := by
        rcases Nat.eq_zero_or_pos len with h | h
        · subst h; simp at hne
        · exact h
      rw [hsp hl0]; rfl
    · have hi : i < len := by
        have := (List.getElem?_eq_some_iff.1 hq).1
        simpa using this
      have hq' : f i = q := by simpa [hi] using hq
      subst hq'
      have ha := hsp (by omega)
      obtain ⟨b, o, sp⟩ := a
      obtain rfl : sp = none := by simpa using ha
      have hc' := (World.cells?_some (hfn i hi).1).2.2
      have hlen : (E.enc (f i)).length = E.k := E.len _
      have eA : ∀ j, (((⟨b, o, none⟩ : Addr).add (i * E.k)).add j) = ⟨b, o + i * E.k + j, none⟩ := fun j => by
        rw [Go.Deep.add_add]; simp only [Addr.add]
        by_cases h0 : i * E.k + j = 0
        · rw [if_pos h0]
          have : i * E.k = 0 := by omega
          have : j = 0 := by omega
          simp_all
        · rw [if_neg h0, Nat.add_assoc]
      have h1 := hc' 0 hk
      rw [List.getElem?_eq_getElem (by omega), eA] at h1
      have hb1 : ∃ cs T fz, w.heap[b]? = some (.cells cs T fz) := by
        unfold World.cell? at h1
        split at h1
        · rename_i cs T fz hh; exact ⟨cs, T, fz, hh⟩
        · simp at h1
      obtain ⟨cs, T, fz, hh⟩ := hb1
      refine ⟨cs, T, fz, hh, fun j v hj => ?_⟩
      have hjk : j < E.k := by have := (List.getElem?_eq_some_iff.1 hj).1; omega
      have h2 := hc' j hjk
      rw [hj, eA] at h2
      unfold World.cell? at h2
      simp only [hh] at h2
      simp only [ofs]
      simpa using h2
    · obtain ⟨i, hi, rfl⟩ := List.mem_map.1 hq
      exact (hfn i (List.mem_range.1 hi)).2
    · have := hL _ (by rw [hw]; exact .head _)
      simp only [List.length_map, List.length_range] at this ⊢
      exact Nat.le_trans (Nat.mul_le_mul_right _ (by omega)) this
theorem flat_sec {e ts tu tb tB eu : TypeId} {f0 f1 f2 f3 f4 : Field} (he : P.underlying e = some (.struct #[f0, f1, f2, f3, f4]))
    (ho : [f0.offset, f1.offset, f2.offset, f3.offset, f4.offset] = [0, 1, 2, 3, 4]) (ht : [f0.type, f1.type, f2.type, f3.type, f4.type] = [ts, tu, tb, tB, tB])
    (c0 : P.cellsOf ts = 1) (c1 : P.cellsOf tu = 1) (c2 : P.cellsOf tb = 1) (c3 : P.cellsOf tB = 1) (us : P.underlying ts = some .string) (uu : P.underlying tu = some (.int .u32))
    (ub : P.underlying tb = some (.slice eu)) (ue : P.underlying eu = some (.int .u8)) (ce : P.cellsOf eu = 1) (be : P.bytesOf eu = 1) (uB : P.underlying tB = some .bool)
    {n : Nat} {cs : List Value} {y : DataW H × List MemPlace} (hl : cs.length = 5) (h : DataW.trod enc P w base spare held n e cs = some y) (hL : Light P e y.1) :
    ∃ s : SecV, cs = encSec.enc s ∧ Sl (hp w) encU8 s.data (.slice s.dp s.data.length s.dc) ∧ s.data.length ≤ reachBytes ∧ s.name.size ≤ reachBytes := by
  simp only [List.cons.injEq, and_true] at ho ht
  obtain ⟨o0, o1, o2, o3, o4⟩ := ho
  obtain ⟨t0, t1, t2, t3, t4⟩ := ht
  obtain ⟨xs, k, hk, hxy, _, hxl, hf⟩ := DataW.trod_struct he h
  match xs, hxl, cs, hl with
  | [y0, y1, y2, y3, y4], _, [v0, v1, v2, v3, v4], _ =>
    have g0 := hf 0 f0 rfl
    have g1 := hf 1 f1 rfl
    have g2 := hf 2 f2 rfl
    have g3 := hf 3 f3 rfl
    have g4 := hf 4 f4 rfl
    simp [o0, o1, o2, o3, o4, t0, t1, t2, t3, t4, c0, c1, c2, c3] at g0 g1 g2 g3 g4
    subst hxy
    have hw : ∀ j t d, [ts, tu, tb, tB, tB][j]? = some t → [y0.1, y1.1, y2.1, y3.1, y4.1][j]? = some d → Light P t d := fun j t d q1 q2 z hz => hL z (by
      simp only [DataW.weights, he, List.map_cons, List.map_nil, t0, t1, t2, t3, t4]
      exact DataW.weights_mem_each (j := j) q1 q2 z hz)
    have w0' := hw 0 ts y0.1 rfl rfl
    have w2' := hw 2 tb y2.1 rfl rfl
    obtain ⟨z0, e0, q0, w0⟩ := DataW.trod_string us g0
    obtain ⟨z1, e1, _, w1⟩ := DataW.trod_int uu g1
    obtain ⟨l, s2, _, hbl⟩ := sl_of_trodW (E := encU8) (R := fun _ => True) ub ce (by decide) w2' (fun n cs y _ hh _ => flat_u8 ue hh) g2
    obtain ⟨z3, e3, _⟩ := DataW.trod_bool uB g3
    obtain ⟨z4, e4, _⟩ := DataW.trod_bool uB g4
    obtain ⟨x1, rfl⟩ := u32_of_wf w1
    simp only [List.cons.injEq, and_true] at e0 e1 e3 e4
    subst e0; subst e1; subst e3; subst e4
    obtain ⟨a, c, hv, _⟩ := s2.shape
    subst hv
    refine ⟨⟨z0, x1, l, a, c, z3, z4⟩, rfl, s2, by rw [be, Nat.mul_one] at hbl; exact hbl, ?_⟩
    have := w0' z0.data.toList.length (by rw [q0]; simp [DataW.weights])
    rw [Array.length_toList] at this
    exact this
end
end Go.HL
namespace Go.HL
open Go Go.Deep Go.ChangeShapes Go.WideShapes
section
variable {H : Type} {enc : TypeId × Value → H} {P : Program} {w : World} {base : Nat} {spare : Nat → Bool} {held : Bool}
theorem flat_tab {e eu : TypeId} (he : P.underlying e = some (.slice eu)) (ue : P.underlying eu = some (.int .u32)) (cu : P.cellsOf eu = 1)
    {n : Nat} {cs : List Value} {y : DataW H × List MemPlace} (hl : cs.length = 1) (h : DataW.trod enc P w base spare held n e cs = some y) :
    ∃ t : TabV, cs = encTab.enc t ∧ Sl (hp w) encU32 t.data (.slice t.dp t.data.length t.dc) := by
  match cs, hl with
  | [V], _ =>
    obtain ⟨l, s, _⟩ := sl_of_trod (E := encU32) (R := fun _ => True) he cu (by decide) (fun n cs y _ hh => flat_u32 ue hh) h
    obtain ⟨a, c, hv, _⟩ := s.shape
    subst hv
    exact ⟨⟨l, a, c⟩, rfl, s⟩
theorem flat_prog {e tl tu tt el et eu : TypeId} {f0 f1 f2 f3 : Field} (he : P.underlying e = some (.struct #[f0, f1, f2, f3]))
    (ho : [f0.offset, f1.offset, f2.offset, f3.offset] = [0, 1, 2, 3]) (ht : [f0.type, f1.type, f2.type, f3.type] = [tl, tu, tt, tu])
    (c0 : P.cellsOf tl = 1) (c1 : P.cellsOf tu = 1) (c2 : P.cellsOf tt = 1) (ul : P.underlying tl = some (.slice el)) (uu : P.underlying tu = some (.slice eu)) (ut : P.underlying tt = some (.slice et)) (uet : P.underlying et = some (.slice eu)) (ue : P.underlying eu = some (.int .u32))
    (cl : P.cellsOf el = 5) (cet : P.cellsOf et = 1) (cu : P.cellsOf eu = 1)
    (hfs : ∀ n cs (y : DataW H × List MemPlace), cs.length = 5 → DataW.trod enc P w base spare held n el cs = some y → Light P el y.1 → ∃ s : SecV, cs = encSec.enc s ∧ Sl (hp w) encU8 s.data (.slice s.dp s.data.length s.dc) ∧ s.data.length ≤ reachBytes ∧ s.name.size ≤ reachBytes)
    {n : Nat} {cs : List Value} {y : DataW H × List MemPlace} (hl : cs.length = 4) (h : DataW.trod enc P w base spare held n e cs = some y) (hL : Light P e y.1) :
    ∃ (l : List SecV) (es : List UInt32) (ts : List TabV) (at_ : List UInt32) (V VE VT VP : Value), cs = [V, VE, VT, VP] ∧ Sl (hp w) encSec l V ∧ Sl (hp w) encU32 es VE ∧ Sl (hp w) encTab ts VT ∧ Sl (hp w) encU32 at_ VP ∧ DataIn (hp w) l ∧ TabIn (hp w) ts ∧ ∀ s ∈ l, s.name.size ≤ 140737488351232 := by
  simp only [List.cons.injEq, and_true] at ho ht
  obtain ⟨o0, o1, o2, o3⟩ := ho
  obtain ⟨t0', t1', t2', t3'⟩ := ht
  obtain ⟨xs, k, hk, hxy, _, hxl, hf⟩ := DataW.trod_struct he h
  match xs, hxl, cs, hl with
  | [y0, y1, y2, y3], _, [v0, v1, v2, v3], _ =>
    have g0 := hf 0 f0 rfl
    have g1 := hf 1 f1 rfl
    have g2 := hf 2 f2 rfl
    have g3 := hf 3 f3 rfl
    simp [o0, o1, o2, o3, t0', t1', t2', t3', c0, c1, c2] at g0 g1 g2 g3
    subst hxy
    have hw : Light P tl y0.1 := fun z hz => hL z (by
      simp only [DataW.weights, he, List.map_cons, List.map_nil, t0', t1', t2', t3']
      exact DataW.weights_mem_each (j := 0) rfl rfl z hz)
    obtain ⟨l, s0, R0, _⟩ := sl_of_trodW (E := encSec) (R := fun s => Sl (hp w) encU8 s.data (.slice s.dp s.data.length s.dc) ∧ s.data.length ≤ reachBytes ∧ s.name.size ≤ reachBytes) ul cl (by decide) hw hfs g0
    obtain ⟨le, s1, _⟩ := sl_of_trod (E := encU32) (R := fun _ => True) uu cu (by decide) (fun n cs y _ hh => flat_u32 ue hh) g1
    obtain ⟨lt, s2, R2⟩ := sl_of_trod (E := encTab) (R := fun t => Sl (hp w) encU32 t.data (.slice t.dp t.data.length t.dc)) ut cet (by decide) (fun n cs y hl hh => flat_tab uet ue cu hl hh) g2
    obtain ⟨la, s3, _⟩ := sl_of_trod (E := encU32) (R := fun _ => True) uu cu (by decide) (fun n cs y _ hh => flat_u32 ue hh) g3
    exact ⟨l, le, lt, la, v0, v1, v2, v3, rfl, s0, s1, s2, s3, fun s hs => (R0 s hs).1, R2, fun s hs => (R0 s hs).2.2⟩
end
end Go.HL
namespace Go.HL
open Go
/-- Where the reference puts an instruction: behind the last one that is not above it. -/
def posB (l : List Ins) (a : UInt32) : Nat → Nat
  | 0 => 0
  | k + 1 => if a < (l.getD k default).addr then posB l a k else k + 1
def putI (l : List Ins) (i : Ins) : List Ins := l.take (posB l i.addr l.length) ++ [i] ++ l.drop (posB l i.addr l.length)
theorem posB_le (l : List Ins) (a : UInt32) : ∀ k, posB l a k ≤ k
  | 0 => Nat.le_refl _
  | k + 1 => by
    unfold posB
    split
    · have := posB_le l a k; omega
    · exact Nat.le_refl _
theorem posB_low (l : List Ins) (a : UInt32) : ∀ k, posB l a k = 0 ∨ ¬ a < (l.getD (posB l a k - 1) default).addr
  | 0 => .inl rfl
  | k + 1 => by
    unfold posB
    split
    · exact posB_low l a k
    · rename_i hh
      right; rw [Nat.add_sub_cancel]; exact hh
theorem posB_up (l : List Ins) (a : UInt32) : ∀ k j, posB l a k ≤ j → j < k → a < (l.getD j default).addr
  | 0, j, _, h => absurd h (Nat.not_lt_zero _)
  | k + 1, j, h1, h2 => by
    unfold posB at h1
    split at h1
    · rename_i hh
      by_cases e : j = k
      · subst e; exact hh
      · exact posB_up l a k j h1 (by omega)
    · omega
theorem putI_len (l : List Ins) (i : Ins) : (putI l i).length = l.length + 1 := by
  have := posB_le l i.addr l.length
  unfold putI
  simp only [List.length_append, List.length_take, List.length_drop, List.length_singleton]
  omega
theorem putI_map {f : UInt32 → Ins} {ks : List UInt32} (hk : ks.Pairwise (· < ·)) (hf : ∀ b ∈ ks, (f b).addr = b) {a : UInt32} (ha : (f a).addr = a) (hn : a ∉ ks) :
    ∃ ks' : List UInt32, ks'.Pairwise (· < ·) ∧ (∀ b, b ∈ ks' ↔ b ∈ ks ∨ b = a) ∧ putI (ks.map f) (f a) = ks'.map f := by
  obtain ⟨p, hp⟩ : ∃ p, p = posB (ks.map f) a (ks.map f).length := ⟨_, rfl⟩
  have hpl := posB_le (ks.map f) a (ks.map f).length
  have hlow := posB_low (ks.map f) a (ks.map f).length
  have hup := posB_up (ks.map f) a (ks.map f).length
  rw [← hp] at hpl hlow hup
  rw [List.length_map] at hpl hup
  have hget : ∀ j, (hj : j < ks.length) → ((ks.map f).getD j default).addr = ks[j] := fun j hj => by
    rw [List.getD_eq_getElem?_getD, List.getElem?_map, List.getElem?_eq_getElem hj]
    exact hf _ (List.getElem_mem hj)
  refine ⟨ks.take p ++ [a] ++ ks.drop p, ?_, fun b => ?_, ?_⟩
  · have hlt : ∀ b ∈ ks.take p, b < a := fun b hb => by
      obtain ⟨j, hj, rfl⟩ := List.mem_take_iff_getElem.1 hb
      have hq : p - 1 < ks.length := by omega
      have h1 : ¬ a < ks[p - 1] := by
        rcases hlow with h | h
        · omega
        · rw [hget _ hq] at h; exact h
      have h2 : ks[j] = ks[p - 1] ∨ ks[j] < ks[p - 1] := by
        by_cases e : j = p - 1
        · left; simp only [e]
        · right; exact List.pairwise_iff_getElem.1 hk j (p - 1) (by omega) hq (by omega)
      have h3 : ks[j] ≠ a := fun e => hn (e ▸ List.getElem_mem _)
      rw [Ne, ← UInt32.toNat_inj] at h3
      rw [UInt32.lt_iff_toNat_lt] at h1 ⊢
      rcases h2 with h2 | h2
      · rw [← UInt32.toNat_inj] at h2; omega
      · rw [UInt32.lt_iff_toNat_lt] at h2; omega
    have hgt : ∀ b ∈ ks.drop p, a < b := fun b hb => by
      obtain ⟨j, hj, rfl⟩ := List.mem_drop_iff_getElem.1 hb
      have := hup (p + j) (by omega) (by omega)
      rw [hget _ (by omega)] at this
      exact this
    refine List.pairwise_append.2 ⟨List.pairwise_append.2 ⟨hk.sublist (List.take_sublist _ _), List.pairwise_singleton _ _, fun x hx y hy => ?_⟩, hk.sublist (List.drop_sublist _ _), fun x hx y hy => ?_⟩
    · rw [List.mem_singleton.1 hy]; exact hlt x hx
    · rcases List.mem_append.1 hx with hx | hx
      · have h1 := hlt x hx
        have h2 := hgt y hy
        rw [UInt32.lt_iff_toNat_lt] at *; omega
      · rw [List.mem_singleton.1 hx]; exact hgt y hy
  · rw [List.mem_append, List.mem_append, List.mem_singleton]
    constructor
    · rintro ((h | h) | h)
      · exact .inl (List.mem_of_mem_take h)
      · exact .inr h
      · exact .inl (List.mem_of_mem_drop h)
    · rintro (h | h)
      · rw [← List.take_append_drop p ks] at h
        rcases List.mem_append.1 h with h | h
        · exact .inl (.inl h)
        · exact .inr h
      · exact .inl (.inr h)
  · unfold putI
    rw [ha, ← hp, ← List.map_take, ← List.map_drop, List.map_append, List.map_append]
    rfl
theorem ltU_lt {l : List UInt32} : l.Pairwise (fun a b => ltU a b = true) ↔ l.Pairwise (· < ·) := by
  unfold ltU
  simp only [decide_eq_true_eq]
structure RInv (l : List SecV) (ts : List TabV) (at_ es : List UInt32) (k : Nat) (work : List UInt32) (ins : List Ins) (bad : List UInt32) : Prop where
  le : k ≤ work.length
  rest : ∀ a ∈ work, Reach l ts at_ es a
  start : ∀ a ∈ es, a ∈ work
  close : ∀ a ∈ work.take k, (atP l a).2 = true → ∀ b ∈ leadP ts at_ (atP l a).1, b ∈ work
  isI : ∃ ks : List UInt32, ks.Pairwise (· < ·) ∧ (∀ a, a ∈ ks ↔ a ∈ work.take k ∧ (atP l a).2 = true) ∧ ins = ks.map fun a => (atP l a).1
  isB : bad.Pairwise (fun a b => ltU a b = true) ∧ ∀ a, a ∈ bad ↔ a ∈ work.take k ∧ (atP l a).2 = false
  lWork : work.length ≤ es.length + 14 * ins.length
  lBad : bad.length ≤ k
section
variable {l : List SecV} {ts : List TabV} {at_ es : List UInt32} {k : Nat} {work : List UInt32} {ins : List Ins} {bad : List UInt32} {a : UInt32}
theorem RInv.begin : RInv l ts at_ es 0 es [] [] :=
  ⟨Nat.zero_le _, fun a h => .ent a h, fun a h => h, fun a h => by simp at h, ⟨[], List.Pairwise.nil, fun a => by simp, rfl⟩, ⟨List.Pairwise.nil, fun a => by simp⟩, by simp, Nat.le_refl _⟩
theorem mem_take_succ (hk : k < work.length) (ha : a = work.getD k default) (b : UInt32) : b ∈ work.take (k + 1) ↔ b ∈ work.take k ∨ b = a := by
  rw [take_succ hk, List.mem_append, List.mem_singleton, ha]
theorem RInv.skip (h : RInv l ts at_ es k work ins bad) (hk : k < work.length) (ha : a = work.getD k default) (hs : hasU (work.take k) a = true) : RInv l ts at_ es (k + 1) work ins bad := by
  have hm := hasU_iff.1 hs
  have he : ∀ b, b ∈ work.take (k + 1) ↔ b ∈ work.take k := fun b => by
    rw [mem_take_succ hk ha]
    exact ⟨fun q => q.elim id (fun e => e ▸ hm), .inl⟩
  obtain ⟨ks, k1, k2, k3⟩ := h.isI
  exact ⟨hk, h.rest, h.start, fun b hb => h.close b ((he b).1 hb), ⟨ks, k1, fun b => by rw [k2, he], k3⟩, ⟨h.isB.1, fun b => by rw [h.isB.2, he]⟩, h.lWork, by have := h.lBad; omega⟩
theorem RInv.isBad (h : RInv l ts at_ es k work ins bad) (hk : k < work.length) (ha : a = work.getD k default) (hf : (atP l a).2 = false) : RInv l ts at_ es (k + 1) work ins (insR ltU bad a) := by
  have he := mem_take_succ hk ha
  obtain ⟨ks, k1, k2, k3⟩ := h.isI
  refine ⟨hk, h.rest, h.start, fun b hb hb2 => ?_, ⟨ks, k1, fun b => ?_, k3⟩, ⟨insR_sorted lo_ltU h.isB.1, fun b => ?_⟩, h.lWork, ?_⟩
  · rcases (he b).1 hb with q | q
    · exact h.close b q hb2
    · rw [q, hf] at hb2; cases hb2
  · rw [k2, he]
    constructor
    · rintro ⟨h1, h2⟩; exact ⟨.inl h1, h2⟩
    · rintro ⟨h1 | h1, h2⟩
      · exact ⟨h1, h2⟩
      · rw [h1, hf] at h2; cases h2
  · rw [insR_mem, h.isB.2, he]
    constructor
    · rintro (⟨h1, h2⟩ | rfl)
      · exact ⟨.inl h1, h2⟩
      · exact ⟨.inr rfl, hf⟩
    · rintro ⟨h1 | h1, h2⟩
      · exact .inl ⟨h1, h2⟩
      · exact .inr h1
  · have := insR_len ltU bad a
    have := h.lBad
    omega
theorem RInv.found (hT : TabB ts) (h : RInv l ts at_ es k work ins bad) (hk : k < work.length) (ha : a = work.getD k default) (hs : hasU (work.take k) a = false) (hf : (atP l a).2 = true) :
    RInv l ts at_ es (k + 1) (work ++ leadP ts at_ (atP l a).1) (putI ins (atP l a).1) bad := by
  have he : ∀ b, b ∈ (work ++ leadP ts at_ (atP l a).1).take (k + 1) ↔ b ∈ work.take k ∨ b = a := fun b => by
    rw [List.take_append_of_le_length (by omega)]; exact mem_take_succ hk ha b
  have hn : a ∉ work.take k := fun q => by rw [hasU_iff.2 q] at hs; cases hs
  have hra : Reach l ts at_ es a := h.rest a (by rw [ha]; exact mem_getD hk)
  obtain ⟨ks, k1, k2, k3⟩ := h.isI
  obtain ⟨ks', q1, q2, q3⟩ := putI_map (f := fun a => (atP l a).1) k1 (fun b hb => (at_addr ((k2 b).1 hb).2).1) (at_addr hf).1 (fun q => hn ((k2 a).1 q).1)
  have hll := lead_len hT at_ (atP l a).1
  refine ⟨by rw [List.length_append]; omega, fun b hb => ?_, fun b hb => List.mem_append_left _ (h.start b hb), fun b hb hb2 c hc => ?_, ⟨ks', q1, fun b => ?_, by rw [k3]; exact q3⟩, ⟨h.isB.1, fun b => ?_⟩, ?_, by have := h.lBad; omega⟩
  · rcases List.mem_append.1 hb with q | q
    · exact h.rest b q
    · exact .step a b hra hf q
  · rcases (he b).1 hb with q | q
    · exact List.mem_append_left _ (h.close b q hb2 c hc)
    · rw [q] at hc; exact List.mem_append_right _ hc
  · rw [q2, k2, he]
    constructor
    · rintro (⟨h1, h2⟩ | rfl)
      · exact ⟨.inl h1, h2⟩
      · exact ⟨.inr rfl, hf⟩
    · rintro ⟨h1 | h1, h2⟩
      · exact .inl ⟨h1, h2⟩
      · exact .inr h1
  · rw [h.isB.2, he]
    constructor
    · rintro ⟨h1, h2⟩; exact ⟨.inl h1, h2⟩
    · rintro ⟨h1 | h1, h2⟩
      · exact ⟨h1, h2⟩
      · rw [h1, hf] at h2; cases h2
  · have := h.lWork
    rw [List.length_append, putI_len]; omega
theorem RInv.count (h : RInv l ts at_ es k work ins bad) : ins.length ≤ totD l := by
  obtain ⟨ks, k1, k2, k3⟩ := h.isI
  have := nodup_len (l := ks) (l' := spotL l) (lt_nodup k1) fun b hb => at_spot ((k2 b).1 hb).2
  rw [k3, List.length_map, ← spot_len]
  exact this
theorem RInv.all (h : RInv l ts at_ es k work ins bad) (hk : k = work.length) (b : UInt32) : b ∈ work ↔ Reach l ts at_ es b := by
  have hc := h.close
  rw [hk, List.take_length] at hc
  refine ⟨h.rest b, fun q => ?_⟩
  induction q with
  | ent a q => exact h.start a q
  | step b a _ q1 q2 ih => exact hc b ih q1 a q2
def entF (ins : List Ins) (xs e : List UInt32) : List UInt32 := xs.foldl (fun e a => if reachedP ins a = true then insR ltU e a else e) e
def entG (ts : List TabV) (at_ : List UInt32) (ins is : List Ins) (e : List UInt32) : List UInt32 := is.foldl (fun e i => entF ins (callP ts at_ i) e) e
def unkF (ts : List TabV) (at_ : List UInt32) (is : List Ins) (u : List UInt32) : List UInt32 := is.foldl (fun u i => if unkP ts at_ i = true then insR ltU u i.addr else u) u
theorem entF_ok (ins : List Ins) : ∀ (xs e : List UInt32), e.Pairwise (fun a b => ltU a b = true) →
    (entF ins xs e).Pairwise (fun a b => ltU a b = true) ∧ (∀ b, b ∈ entF ins xs e ↔ b ∈ e ∨ (b ∈ xs ∧ reachedP ins b = true))
  | [], e, h => ⟨h, fun b => by simp [entF]⟩
  | x :: xs, e, h => by
    have hs : entF ins (x :: xs) e = entF ins xs (if reachedP ins x = true then insR ltU e x else e) := rfl
    rw [hs]
    by_cases c : reachedP ins x = true
    · rw [if_pos c]
      obtain ⟨h1, h2⟩ := entF_ok ins xs (insR ltU e x) (insR_sorted lo_ltU h)
      refine ⟨h1, fun b => ?_⟩
      rw [h2, insR_mem, List.mem_cons]
      constructor
      · rintro ((q | q) | q)
        · exact .inl q
        · subst q; exact .inr ⟨.inl rfl, c⟩
        · exact .inr ⟨.inr q.1, q.2⟩
      · rintro (q | ⟨q | q, q2⟩)
        · exact .inl (.inl q)
        · exact .inl (.inr q)
        · exact .inr ⟨q, q2⟩
    · rw [if_neg c]
      obtain ⟨h1, h2⟩ := entF_ok ins xs e h
      refine ⟨h1, fun b => ?_⟩
      rw [h2, List.mem_cons]
      constructor
      · rintro (q | q)
        · exact .inl q
        · exact .inr ⟨.inr q.1, q.2⟩
      · rintro (q | ⟨q | q, q2⟩)
        · exact .inl q
        · subst q; exact absurd q2 c
        · exact .inr ⟨q, q2⟩
theorem entG_ok (ins : List Ins) : ∀ (is : List Ins) (e : List UInt32), e.Pairwise (fun a b => ltU a b = true) →
    (entG ts at_ ins is e).Pairwise (fun a b => ltU a b = true) ∧ (∀ b, b ∈ entG ts at_ ins is e ↔ b ∈ e ∨ ((∃ i ∈ is, b ∈ callP ts at_ i) ∧ reachedP ins b = true))
  | [], e, h => ⟨h, fun b => by simp [entG]⟩
  | x :: xs, e, h => by
    have hs : entG ts at_ ins (x :: xs) e = entG ts at_ ins xs (entF ins (callP ts at_ x) e) := rfl
    rw [hs]
    obtain ⟨g1, g2⟩ := entF_ok ins (callP ts at_ x) e h
    obtain ⟨h1, h2⟩ := entG_ok ins xs _ g1
    refine ⟨h1, fun b => ?_⟩
    rw [h2, g2]
    constructor
    · rintro ((q | q) | ⟨⟨i, q1, q2⟩, q3⟩)
      · exact .inl q
      · exact .inr ⟨⟨x, .head _, q.1⟩, q.2⟩
      · exact .inr ⟨⟨i, .tail _ q1, q2⟩, q3⟩
    · rintro (q | ⟨⟨i, q1, q2⟩, q3⟩)
      · exact .inl (.inl q)
      · rcases List.mem_cons.1 q1 with rfl | q1
        · exact .inl (.inr ⟨q2, q3⟩)
        · exact .inr ⟨⟨i, q1, q2⟩, q3⟩
theorem unkF_ok : ∀ (is : List Ins) (u : List UInt32), u.Pairwise (fun a b => ltU a b = true) →
    (unkF ts at_ is u).Pairwise (fun a b => ltU a b = true) ∧ (∀ b, b ∈ unkF ts at_ is u ↔ b ∈ u ∨ ∃ i ∈ is, unkP ts at_ i = true ∧ i.addr = b)
  | [], e, h => ⟨h, fun b => by simp [unkF]⟩
  | x :: xs, e, h => by
    have hs : unkF ts at_ (x :: xs) e = unkF ts at_ xs (if unkP ts at_ x = true then insR ltU e x.addr else e) := rfl
    rw [hs]
    by_cases c : unkP ts at_ x = true
    · rw [if_pos c]
      obtain ⟨h1, h2⟩ := unkF_ok xs (insR ltU e x.addr) (insR_sorted lo_ltU h)
      refine ⟨h1, fun b => ?_⟩
      rw [h2, insR_mem]
      constructor
      · rintro ((q | q) | ⟨i, q1, q2⟩)
        · exact .inl q
        · exact .inr ⟨x, .head _, c, q.symm⟩
        · exact .inr ⟨i, .tail _ q1, q2⟩
      · rintro (q | ⟨i, q1, q2⟩)
        · exact .inl (.inl q)
        · rcases List.mem_cons.1 q1 with rfl | q1
          · exact .inl (.inr q2.2.symm)
          · exact .inr ⟨i, q1, q2⟩
    · rw [if_neg c]
      obtain ⟨h1, h2⟩ := unkF_ok xs e h
      refine ⟨h1, fun b => ?_⟩
      rw [h2]
      constructor
      · rintro (q | ⟨i, q1, q2⟩)
        · exact .inl q
        · exact .inr ⟨i, .tail _ q1, q2⟩
      · rintro (q | ⟨i, q1, q2⟩)
        · exact .inl q
        · rcases List.mem_cons.1 q1 with rfl | q1
          · exact absurd q2.1 c
          · exact .inr ⟨i, q1, q2⟩
theorem RInv.code (h : RInv l ts at_ es k work ins bad) (hk : k = work.length) : IsCode l ts at_ es ⟨ins, entG ts at_ ins ins (entF ins es []), unkF ts at_ ins [], bad⟩ := by
  have ha := h.all hk
  obtain ⟨ks, k1, k2, k3⟩ := h.isI
  have hb := h.isB.2
  rw [hk, List.take_length] at k2 hb
  have hI : IsCode l ts at_ es ⟨ins, [], [], []⟩ → True := fun _ => trivial
  have hr : ∀ b, reachedP ins b = true ↔ Reach l ts at_ es b ∧ (atP l b).2 = true := fun b => by
    rw [reachedP, List.any_eq_true]
    constructor
    · rintro ⟨i, hi, hb⟩
      have hb := of_decide_eq_true hb
      rw [k3] at hi
      obtain ⟨c, hc, rfl⟩ := List.mem_map.1 hi
      have h2 := (k2 c).1 hc
      change (atP l c).1.addr = b at hb
      rw [(at_addr h2.2).1] at hb
      subst hb
      exact ⟨(ha c).1 h2.1, h2.2⟩
    · rintro ⟨h1, h2⟩
      exact ⟨(atP l b).1, by rw [k3]; exact List.mem_map.2 ⟨b, (k2 b).2 ⟨(ha b).2 h1, h2⟩, rfl⟩, decide_eq_true (at_addr h2).1⟩
  obtain ⟨e1, e2⟩ := entF_ok ins es [] List.Pairwise.nil
  obtain ⟨g1, g2⟩ := entG_ok (ts := ts) (at_ := at_) ins ins _ e1
  obtain ⟨u1, u2⟩ := unkF_ok (ts := ts) (at_ := at_) ins [] List.Pairwise.nil
  refine ⟨⟨ks, k1, fun b => by rw [k2, ha], k3⟩, ⟨ltU_lt.1 h.isB.1, fun b => by show b ∈ bad ↔ _; rw [hb, ha]⟩, ⟨ltU_lt.1 g1, fun b => ?_⟩, ⟨ltU_lt.1 u1, fun b => ?_⟩⟩
  · show b ∈ entG _ _ _ _ _ ↔ _
    rw [g2, e2, hr]
    constructor
    · rintro ((q | q) | ⟨⟨i, q1, q2⟩, q3⟩)
      · cases q
      · exact ⟨q.2, .inl q.1⟩
      · rw [k3] at q1
        obtain ⟨c, hc, rfl⟩ := List.mem_map.1 q1
        have := (k2 c).1 hc
        exact ⟨q3, .inr ⟨c, ⟨(ha c).1 this.1, this.2⟩, q2⟩⟩
    · rintro ⟨q, q2 | ⟨c, ⟨c1, c2⟩, c3⟩⟩
      · exact .inl (.inr ⟨q2, q⟩)
      · exact .inr ⟨⟨(atP l c).1, by rw [k3]; exact List.mem_map.2 ⟨c, (k2 c).2 ⟨(ha c).2 c1, c2⟩, rfl⟩, c3⟩, q⟩
  · show b ∈ unkF _ _ _ _ ↔ _
    rw [u2]
    constructor
    · rintro (q | ⟨i, q1, q2, q3⟩)
      · cases q
      · rw [k3] at q1
        obtain ⟨c, hc, rfl⟩ := List.mem_map.1 q1
        have h2 := (k2 c).1 hc
        change (atP l c).1.addr = b at q3
        rw [(at_addr h2.2).1] at q3
        subst q3
        exact ⟨⟨(ha c).1 h2.1, h2.2⟩, q2⟩
    · rintro ⟨⟨q1, q2⟩, q3⟩
      exact .inr ⟨(atP l b).1, by rw [k3]; exact List.mem_map.2 ⟨b, (k2 b).2 ⟨(ha b).2 q1, q2⟩, rfl⟩, q3, (at_addr q2).1⟩
end
section
variable {P : Program} {ops : Array Oper} {Q : Exit → Act → World → Prop} {N : Nat} {F : Bg} {L : List Ent} {M : Fr} {ty : TypeId} {pos : String} {after : Array Edge} {rest : List Oper} {d : Nat}
end
end Go.HL
namespace Go.HL
open Go
/-- A slice of slices: what each reads as, and where it lies. -/
structure RowV (α : Type) where
  data : List α
  dp : Option Addr
  dc : Nat
  deriving Inhabited
def encRowV {α : Type} : Enc (RowV α) := ⟨1, fun t => [.slice t.dp t.data.length t.dc], fun _ => rfl, fun x v h => by simp at h; subst h; rfl⟩
def RowIn {α : Type} [Inhabited α] (E : Enc α) (h : Hp) (l : List (RowV α)) : Prop := ∀ t ∈ l, Sl h E t.data (.slice t.dp t.data.length t.dc)
def sumL {α : Type} (ts : List (RowV α)) (i : Nat) : Nat := ((ts.take i).map fun t => t.data.length).sum
theorem sumL_succ {α : Type} {ts : List (RowV α)} {i : Nat} (h : i < ts.length) : sumL ts (i + 1) = sumL ts i + (ts.getD i default).data.length := by
  unfold sumL
  rw [take_succ h, List.map_append, List.sum_append]; simp
theorem sumL_le {α : Type} (ts : List (RowV α)) (i : Nat) : sumL ts i ≤ sumL ts ts.length := by
  unfold sumL
  rw [List.take_length]
  conv => rhs; rw [← List.take_append_drop i ts]
  rw [List.map_append, List.sum_append]; omega
def catL {α : Type} (ts : List (RowV α)) (i : Nat) : List α := (ts.take i).flatMap fun t => t.data
theorem catL_succ {α : Type} {ts : List (RowV α)} {i : Nat} (h : i < ts.length) : catL ts i ++ (ts.getD i default).data = catL ts (i + 1) := by
  unfold catL
  rw [take_succ h, List.flatMap_append]; simp
theorem catL_len {α : Type} (ts : List (RowV α)) (i : Nat) : (catL ts i).length = sumL ts i := by
  unfold catL sumL
  rw [List.length_flatMap]
def joinU (l1 l2 : List UInt32) : List UInt32 := compactP (srtU (l1 ++ l2))
theorem joinU_ok (l1 l2 : List UInt32) : (joinU l1 l2).Pairwise (· < ·) ∧ ∀ a, a ∈ joinU l1 l2 ↔ a ∈ l1 ∨ a ∈ l2 := by
  have hs : (srtU (l1 ++ l2)).Pairwise (fun a b => ltU b a = false) := (srtU_sorted (l1 ++ l2)).imp fun {a b} h => by
    unfold ltU
    rw [decide_eq_false_iff_not, UInt32.not_lt]; exact h
  obtain ⟨h1, h2⟩ := compact_lo lo_ltU hs
  exact ⟨ltU_lt.1 h1, fun a => by unfold joinU; rw [h2, mem_srtU, List.mem_append]⟩
/-- An instruction joins those that are there, if none stands at its address. -/
def addM (m : List (UInt32 × Ins)) (i : Ins) : List (UInt32 × Ins) := if (mget m i.addr).isSome = true then m else mput m i.addr i
def addMs (is : List Ins) : List (UInt32 × Ins) := is.foldl addM []
def addR (c : List Ins) (i : Ins) : List Ins := if reachedP c i.addr = true then c else putI c i
def addRs (is : List Ins) : List Ins := is.foldl addR []
def ofM (m : List (UInt32 × Ins)) : List Ins := (srtU (m.map (·.1))).map fun k => (mget m k).getD zeroIns
structure MInv (m : List (UInt32 × Ins)) (c : List Ins) : Prop where
  nd : (m.map (·.1)).Nodup
  ad : ∀ k x, mget m k = some x → x.addr = k
  eq : c = ofM m
theorem MInv.step {m : List (UInt32 × Ins)} {c : List Ins} (h : MInv m c) (i : Ins) : MInv (addM m i) (addR c i) := by
  have hr : reachedP c i.addr = (mget m i.addr).isSome := by
    rw [Bool.eq_iff_iff, mget_mem, reachedP, List.any_eq_true, h.eq]
    constructor
    · rintro ⟨x, hx, he⟩
      obtain ⟨k, hk, rfl⟩ := List.mem_map.1 hx
      have hk := mem_srtU.1 hk
      obtain ⟨y, hy⟩ := mem_key hk
      have he := of_decide_eq_true he
      rw [hy] at he
      change y.addr = i.addr at he
      rw [← he, h.ad k y hy]; exact hk
    · intro hk
      obtain ⟨y, hy⟩ := mem_key hk
      exact ⟨(mget m i.addr).getD zeroIns, List.mem_map.2 ⟨i.addr, mem_srtU.2 hk, rfl⟩, decide_eq_true (by rw [hy]; exact h.ad _ _ hy)⟩
  unfold addM addR
  rw [hr]
  by_cases hc : (mget m i.addr).isSome = true
  · rw [if_pos hc, if_pos hc]; exact h
  · rw [if_neg hc, if_neg hc]
    have hn : i.addr ∉ m.map (·.1) := fun q => hc (mget_mem.2 q)
    refine ⟨mput_nodup _ _ h.nd, fun k x hx => ?_, ?_⟩
    · rw [mget_put] at hx
      split at hx
      · rename_i e; cases hx; exact e.symm
      · exact h.ad k x hx
    · have hg : ∀ k, k ∈ m.map (·.1) → (mget (mput m i.addr i) k).getD zeroIns = (mget m k).getD zeroIns := fun k hk => by
        rw [mget_put, if_neg (fun e : k = i.addr => hn (e ▸ hk))]
      obtain ⟨ks', q1, q2, q3⟩ := putI_map (f := fun k => (mget (mput m i.addr i) k).getD zeroIns) (ks := srtU (m.map (·.1))) (srtU_asc h.nd)
        (fun b hb => by
          have hb := mem_srtU.1 hb
          obtain ⟨y, hy⟩ := mem_key hb
          show ((mget (mput m i.addr i) b).getD zeroIns).addr = b
          rw [hg b hb, hy]; exact h.ad b y hy)
        (a := i.addr) (by show ((mget (mput m i.addr i) i.addr).getD zeroIns).addr = i.addr; rw [mget_put, if_pos rfl]; rfl) (fun q => hn (mem_srtU.1 q))
      have e1 : (mget (mput m i.addr i) i.addr).getD zeroIns = i := by rw [mget_put, if_pos rfl]; rfl
      have e2 : c = (srtU (m.map (·.1))).map fun k => (mget (mput m i.addr i) k).getD zeroIns := by
        rw [h.eq]
        exact List.map_congr_left fun k hk => (hg k (mem_srtU.1 hk)).symm
      have e3 : ks' = srtU ((mput m i.addr i).map (·.1)) := asc_eq q1 (srtU_asc (mput_nodup _ _ h.nd)) fun b => by rw [q2, mem_srtU, mem_srtU, mem_mput]; exact or_comm
      simp only [e1] at q3
      rw [← e2, e3] at q3
      exact q3
theorem addM_yes {is : List Ins} {m : List (UInt32 × Ins)} {k : Nat} (h : k < is.length) (hr : (mget ((is.take k).foldl addM m) (is.getD k default).addr).isSome = false) : mput ((is.take k).foldl addM m) (is.getD k default).addr (is.getD k default) = (is.take (k + 1)).foldl addM m := by
  rw [take_succ h, List.foldl_append]
  show _ = addM _ _
  unfold addM
  rw [if_neg]
  exact fun q => by
    have q : (mget ((is.take k).foldl addM m) (is.getD k default).addr).isSome = true := q
    rw [hr] at q; cases q
theorem addM_no {is : List Ins} {m : List (UInt32 × Ins)} {k : Nat} (h : k < is.length) (hr : (mget ((is.take k).foldl addM m) (is.getD k default).addr).isSome = true) : (is.take k).foldl addM m = (is.take (k + 1)).foldl addM m := by
  rw [take_succ h, List.foldl_append]
  show _ = addM _ _
  have e : ∀ m i, (mget m i.addr).isSome = true → addM m i = m := fun m i q => by unfold addM; rw [if_pos q]
  exact (e _ _ hr).symm
theorem addM_len (is : List Ins) (m : List (UInt32 × Ins)) : (is.foldl addM m).length ≤ m.length + is.length := by
  induction is generalizing m with
  | nil => exact Nat.le_refl _
  | cons x xs ih =>
    have h1 := ih (addM m x)
    have h2 : (addM m x).length ≤ m.length + 1 := by
      unfold addM
      split
      · omega
      · exact mput_len _ _ _
    rw [List.foldl_cons, List.length_cons]; omega
theorem MInv.all (is : List Ins) : MInv (addMs is) (addRs is) := by
  have key : ∀ (is : List Ins) (m : List (UInt32 × Ins)) (c : List Ins), MInv m c → MInv (is.foldl addM m) (is.foldl addR c) := by
    intro is
    induction is with
    | nil => intro m c h; exact h
    | cons x xs ih => intro m c h; exact ih _ _ (h.step x)
  exact key is [] [] ⟨List.nodup_nil, fun k x h => by simp [mget] at h, by simp [ofM, srtU]⟩
section
variable {P : Program} {ops : Array Oper} {Q : Exit → Act → World → Prop} {N : Nat} {F : Bg} {L : List Ent} {M : Fr} {ty : TypeId} {pos : String} {after : Array Edge} {rest : List Oper} {d : Nat}
section
variable {dst : Option Tmp} {g : Option (Nat × Bool)}
theorem QS.capS {x : Operand} {n c : Nat} {a : Option Addr} {t e : TypeId} (hx : opv M x = some (.slice a n c)) (ht : P.underlying t = some (.slice e)) :
    QS P N F L M ⟨dst, .call { callee := .builtin .cap, args := #[x], argTypes := #[t] }, ty, pos, after, g⟩ (.int .i64 c) :=
  QS.of_run fun A w ha hw => by
    simp [execOp, resolve, invoke, builtin, Builtin.cap_, ha.eval hx, run_underlying ht, goInt]
end
/-- append(nil, make([]T, n)...). -/
theorem Tr.appendZeros {α : Type} {E : Enc α} (z0 : α) (n : Nat) {x y : Operand} {t tn e : TypeId} {z : Value} {k bytes : Nat} {kq kn : IntKind} {m : Int} (hx : opv M x = some (.slice none 0 0)) (hy : opv M y = some (.int kq m)) (hm : m = (n : Nat)) (hn : 0 < n)
    (ht : P.underlying t = some (.slice e)) (htn : P.underlying tn = some (.int kn)) (hinfo : (P.info? e).map (fun i => (i.zero, i.size, i.bytes)) = some (some z, k, bytes)) (hk : k = E.k) (hk0 : 0 < k) (hz : z.cells.toList = E.enc z0)
    (hbytes : n * bytes ≤ 140737488355328) (h63 : n ≤ maxLen) (hd : Nat.ble (d + 1) N = true)
    (K : ∀ V', Tr N F (rowE V' e E (List.replicate n z0) :: L) ((d, V') :: M) (wpList P ops Q rest)) :
    Tr N F L M (wpList P ops Q (⟨some d, .call { callee := .builtin .append, args := #[x, y], argTypes := #[t, tn] }, ty, pos, after, none⟩ :: rest)) := by
  subst hm
  intro a w ha hw
  refine wpList_plain rfl fun K' hK => ?_
  obtain ⟨i, hi, hz', hsize, hby⟩ := info_parts' hinfo
  have hzs : z.cells.size = E.k := by rw [← Array.length_toList, hz, E.len]
  have hr := Lib.run_append_nil_zeros (P := P) w t tn ty e i z kq kn ht htn hi hz' n hn (by omega) (by simp only [maxLen] at h63; omega) (by rw [hby]; omega)
  unfold Oper.wp execOp
  simp only [resolve, invoke, builtin, Sem.run_bind, Sem.run_pure, Result.andThen_ok, List.map_toArray, List.map_cons, List.map_nil, ha.eval hx, ha.eval hy, hr]
  have hnil : HpOK F (rowE (.slice none 0 0) e E ([] : List α) :: L) w := own_nil e E hw
  have hge := grownCap_ge w n 0 e
  have hcm : grownCap w n 0 e ≤ maxLen := grownCap_le_maxLen w _ 0 e h63
  refine hK _ _ (K _ _ _ (ha.put (Nat.le_of_ble_eq_true hd)) (hnil.regrow ?_ rfl rfl rfl ⟨by simp, by simp⟩ (.inr (.inl ⟨rfl, by simp, fun k hk => heap_alloc_old w.drew _ hk⟩))))
  have hw' := heap_alloc_new w.drew (.cells (Builtin.zeroCells z.cells n ++ Builtin.zeroCells z.cells (grownCap w n 0 e - n)) e)
  have hw'' : (w.drew.alloc (.cells (Builtin.zeroCells z.cells n ++ Builtin.zeroCells z.cells (grownCap w n 0 e - n)) e)).heap[w.heap.size]? = some (.cells (Builtin.zeroCells z.cells n ++ Builtin.zeroCells z.cells (grownCap w n 0 e - n)) e) := by simpa using hw'
  unfold rowE Ent.holds
  simp only [Value.ownBlock, Option.bind_some, hw'']
  have := rowOK_new (E := E) (l := List.replicate n z0) (T := e) (b := w.heap.size) (cap := grownCap w n 0 e) (cells := Builtin.zeroCells z.cells n ++ Builtin.zeroCells z.cells (grownCap w n 0 e - n)) (by simpa using hge) hcm
    (by
      simp only [Array.size_append, size_zeroCells, hzs, ← Nat.add_mul]
      exact Nat.mul_le_mul_right _ (by omega))
    (by
      have hll : (List.replicate n z0).length * E.k = ((List.replicate n z0).flatMap E.enc).length := by rw [flatMap_length]
      rw [hll, Array.toList_append, zeroCells_toList, hz, ← flat_replicate]
      exact List.take_left)
  simpa using this
end
end Go.HL
namespace Go.Proofs.Ytnmaokalpbnmaaa
open Go Go.HL Go.RowKit
set_option maxRecDepth 100000 in
set_option maxHeartbeats 4000000 in
theorem grow_u32 (n : Nat) (w : World) (hn : n ≤ 100000) :
  Calls Try.prog 111 #[.slice none 0 0, .int .i64 (n : Nat)] w (fun e w' => ∃ V', e = .returned V' ∧ Ext w w' ∧ NewRow w w' 39 encU32 (([] : List UInt32)) V') := by
 refine enter Try.func111 rfl Try.ntmps111 rfl ?_
 refine Tr.seq (Tr.region ?_)
 refine Tr.q (QS.assign rfl) rfl ?_
 refine Tr.nil (Tr.thenN (Tr.seq (Tr.seq (Tr.region ?_))))
 refine Tr.q (QS.move rfl) rfl ?_
 refine Tr.q (QS.lss rfl rfl) rfl ?_
 refine Tr.nil (Tr.thenN ?_)
 refine Tr.cond rfl (fun h1 => ?_) (fun h1 => ?_)
 ·try simp only [bs] at h1
  first | contradiction | (exfalso; omega) | simp_all
 ·try simp only [bs] at h1
  refine Tr.skip (Tr.thenN ?_)
  refine Tr.seqJ (ι := Value) (fun V43 => True) (fun _ => Bg.of w) (fun V43 => [rowE V43 39 encU32 ([] : List UInt32)]) (fun V43 => [(0, V43), (1, .int .i64 (n : Nat))]) ?_ (fun V43 hi => ?_)
  ·skip
   refine Tr.seq (Tr.region ?_)
   refine Tr.q (QS.move rfl) rfl ?_
   refine Tr.q (QS.move rfl) rfl ?_
   refine Tr.q (QS.capS rfl Try.underlying23) rfl ?_
   refine Tr.q (QS.move rfl) rfl ?_
   refine Tr.q (QS.lenNil rfl Try.underlying23) rfl ?_
   refine Tr.q (QS.subI rfl rfl (by omega)) rfl ?_
   refine Tr.q (QS.subI rfl rfl (by omega)) rfl ?_
   refine Tr.q (QS.assign rfl) rfl ?_
   refine Tr.nil (Tr.thenN (Tr.seq (Tr.region ?_)))
   refine Tr.q (QS.move rfl) rfl ?_
   refine Tr.q (QS.gtr rfl rfl) rfl ?_
   refine Tr.nil (Tr.thenN ?_)
   refine Tr.cond rfl (fun h2 => ?_) (fun h2 => ?_)
   ·try simp only [bs] at h2
    refine Tr.region ?_
    refine Tr.q (QS.move rfl) rfl ?_
    refine Tr.q (QS.move rfl) rfl ?_
    refine Tr.q (QS.capS rfl Try.underlying23) rfl ?_
    refine Tr.q (QS.slice (lv := none) (hv := some (_, _)) rfl (Sl.nil _ encU32) rfl rfl Try.underlying23 Try.sizeOf39 (by rfl) (by simp only [loOf, hiOf] <;> first | omega | rfl | decide) (by simp only [loOf, hiOf] <;> first | omega | rfl | decide) (by simp only [loOf, hiOf] <;> first | omega | rfl | decide)) rfl ?_
    refine Tr.q (QS.move rfl) rfl ?_
    refine Tr.appendZeros (E := encU32) 0 n rfl rfl (by omega) (by omega) Try.underlying23 Try.underlying3 HLF.info39 rfl (by decide) (by rfl) (by omega) (by unfold maxLen; omega) rfl (fun V41 => ?_)
    refine Tr.q (QS.move rfl) rfl ?_
    refine Tr.q (QS.lenNil rfl Try.underlying23) rfl ?_
    refine Tr.shrink rfl (by repeat constructor) rfl Try.underlying23 Try.sizeOf39 (by omega) rfl (fun V42 => ?_)
    refine Tr.q (QS.assign rfl) rfl ?_
    refine Tr.nil (Tr.thenN ?_)
    apply Tr.joined _
    ·exact rfl
    ·exact (.cons (by first | rfl | exact lookI rfl (by omega) | exact lookI rfl (by simp) | exact lookB rfl (by simp)) (.cons (by first | rfl | exact lookI rfl (by omega) | exact lookI rfl (by simp) | exact lookB rfl (by simp)) Front.nil))
    ·exact SubX.dropN 20 (by kernel_rfl) rfl
    ·exact (by repeat' constructor)
    ·exact trivial
   ·try simp only [bs] at h2
    refine Tr.skip (Tr.thenN ?_)
    refine Tr.ownNil 39 encU32 ?_
    apply Tr.joined _
    ·exact rfl
    ·exact (.cons (by first | rfl | exact lookI rfl (by omega) | exact lookI rfl (by simp) | exact lookB rfl (by simp)) (.cons (by first | rfl | exact lookI rfl (by omega) | exact lookI rfl (by simp) | exact lookB rfl (by simp)) Front.nil))
    ·exact SubX.dropN 10 (by kernel_rfl) rfl
    ·exact (by repeat' constructor)
    ·exact trivial
  ·skip
   replace hi : True := hi
   change Tr _ _ [rowE V43 39 encU32 ([] : List UInt32)] ([(0, V43), (1, .int .i64 (n : Nat))] ++ _) _
   refine Tr.seq (Tr.region ?_)
   refine Tr.q (QS.move rfl) rfl ?_
   refine Tr.q (QS.assign rfl) rfl ?_
   refine Tr.nil (Tr.thenN (Tr.ret ?_))
   refine Tr.ret1 Try.results111 rfl (fun w' hw => ?_)
   exact ⟨_, rfl, hw.below (Bg.le.refl _), hw.new (.head _)⟩
set_option maxRecDepth 100000 in
set_option maxHeartbeats 4000000 in
theorem grow_ins (n : Nat) (w : World) (hn : n ≤ 100000) :
  Calls Try.prog 83 #[.slice none 0 0, .int .i64 (n : Nat)] w (fun e w' => ∃ V', e = .returned V' ∧ Ext w w' ∧ NewRow w w' 41 encIns (([] : List Ins)) V') := by
 refine enter Try.func83 rfl Try.ntmps83 rfl ?_
 refine Tr.seq (Tr.region ?_)
 refine Tr.q (QS.assign rfl) rfl ?_
 refine Tr.nil (Tr.thenN (Tr.seq (Tr.seq (Tr.region ?_))))
 refine Tr.q (QS.move rfl) rfl ?_
 refine Tr.q (QS.lss rfl rfl) rfl ?_
 refine Tr.nil (Tr.thenN ?_)
 refine Tr.cond rfl (fun h1 => ?_) (fun h1 => ?_)
 ·try simp only [bs] at h1
  first | contradiction | (exfalso; omega) | simp_all
 ·try simp only [bs] at h1
  refine Tr.skip (Tr.thenN ?_)
  refine Tr.seqJ (ι := Value) (fun V43 => True) (fun _ => Bg.of w) (fun V43 => [rowE V43 41 encIns ([] : List Ins)]) (fun V43 => [(0, V43), (1, .int .i64 (n : Nat))]) ?_ (fun V43 hi => ?_)
  ·skip
   refine Tr.seq (Tr.region ?_)
   refine Tr.q (QS.move rfl) rfl ?_
   refine Tr.q (QS.move rfl) rfl ?_
   refine Tr.q (QS.capS rfl Try.underlying29) rfl ?_
   refine Tr.q (QS.move rfl) rfl ?_
   refine Tr.q (QS.lenNil rfl Try.underlying29) rfl ?_
   refine Tr.q (QS.subI rfl rfl (by omega)) rfl ?_
   refine Tr.q (QS.subI rfl rfl (by omega)) rfl ?_
   refine Tr.q (QS.assign rfl) rfl ?_
   refine Tr.nil (Tr.thenN (Tr.seq (Tr.region ?_)))
   refine Tr.q (QS.move rfl) rfl ?_
   refine Tr.q (QS.gtr rfl rfl) rfl ?_
   refine Tr.nil (Tr.thenN ?_)
   refine Tr.cond rfl (fun h2 => ?_) (fun h2 => ?_)
   ·try simp only [bs] at h2
    refine Tr.region ?_
    refine Tr.q (QS.move rfl) rfl ?_
    refine Tr.q (QS.move rfl) rfl ?_
    refine Tr.q (QS.capS rfl Try.underlying29) rfl ?_
    refine Tr.q (QS.slice (lv := none) (hv := some (_, _)) rfl (Sl.nil _ encIns) rfl rfl Try.underlying29 Try.sizeOf41 (by rfl) (by simp only [loOf, hiOf] <;> first | omega | rfl | decide) (by simp only [loOf, hiOf] <;> first | omega | rfl | decide) (by simp only [loOf, hiOf] <;> first | omega | rfl | decide)) rfl ?_
    refine Tr.q (QS.move rfl) rfl ?_
    refine Tr.appendZeros (E := encIns) zeroIns n rfl rfl (by omega) (by omega) Try.underlying29 Try.underlying3 HLF.info41 rfl (by decide) (by rfl) (by omega) (by unfold maxLen; omega) rfl (fun V41 => ?_)
    refine Tr.q (QS.move rfl) rfl ?_
    refine Tr.q (QS.lenNil rfl Try.underlying29) rfl ?_
    refine Tr.shrink rfl (by repeat constructor) rfl Try.underlying29 Try.sizeOf41 (by omega) rfl (fun V42 => ?_)
    refine Tr.q (QS.assign rfl) rfl ?_
    refine Tr.nil (Tr.thenN ?_)
    apply Tr.joined _
    ·exact rfl
    ·exact (.cons (by first | rfl | exact lookI rfl (by omega) | exact lookI rfl (by simp) | exact lookB rfl (by simp)) (.cons (by first | rfl | exact lookI rfl (by omega) | exact lookI rfl (by simp) | exact lookB rfl (by simp)) Front.nil))
    ·exact SubX.dropN 20 (by kernel_rfl) rfl
    ·exact (by repeat' constructor)
    ·exact trivial
   ·try simp only [bs] at h2
    refine Tr.skip (Tr.thenN ?_)
    refine Tr.ownNil 41 encIns ?_
    apply Tr.joined _
    ·exact rfl
    ·exact (.cons (by first | rfl | exact lookI rfl (by omega) | exact lookI rfl (by simp) | exact lookB rfl (by simp)) (.cons (by first | rfl | exact lookI rfl (by omega) | exact lookI rfl (by simp) | exact lookB rfl (by simp)) Front.nil))
    ·exact SubX.dropN 10 (by kernel_rfl) rfl
    ·exact (by repeat' constructor)
    ·exact trivial
  ·skip
   replace hi : True := hi
   change Tr _ _ [rowE V43 41 encIns ([] : List Ins)] ([(0, V43), (1, .int .i64 (n : Nat))] ++ _) _
   refine Tr.seq (Tr.region ?_)
   refine Tr.q (QS.move rfl) rfl ?_
   refine Tr.q (QS.assign rfl) rfl ?_
   refine Tr.nil (Tr.thenN (Tr.ret ?_))
   refine Tr.ret1 Try.results83 rfl (fun w' hw => ?_)
   exact ⟨_, rfl, hw.below (Bg.le.refl _), hw.new (.head _)⟩
set_option maxRecDepth 100000 in
set_option maxHeartbeats 4000000 in
theorem concat_u32 (ts : List (RowV UInt32)) (VL : Value) (w : World) (hL : Sl (hp w) encRowV ts VL) (hI : RowIn encU32 (hp w) ts) (hs : sumL ts ts.length ≤ 100000) :
  Calls Try.prog 84 #[VL] w (fun e w' => ∃ V', e = .returned V' ∧ Ext w w' ∧ NewRow w w' 39 encU32 (catL ts ts.length) V') := by
 have hL' : Sl (Bg.of w).blk encRowV ts VL := hL
 have hI' : RowIn encU32 (Bg.of w).blk ts := hI
 have hlen := hL.len_le
 refine enter Try.func84 rfl Try.ntmps84 rfl ?_
 refine Tr.seq (Tr.region ?_)
 refine Tr.q (QS.assign rfl) rfl ?_
 refine Tr.nil (Tr.thenN (Tr.seq (Tr.region ?_)))
 refine Tr.q (QS.assign rfl) rfl ?_
 refine Tr.nil (Tr.thenN (Tr.seq (Tr.seq (Tr.region ?_))))
 refine Tr.q (QS.move rfl) rfl ?_
 refine Tr.q (QS.len rfl (by assumption) Try.underlying24) rfl ?_
 refine Tr.q (QS.move rfl) rfl ?_
 refine Tr.nil (Tr.thenN (Tr.block ?_))
 refine Tr.loop (ι := Nat) (fun i => i ≤ ts.length) (fun _ => _) (fun i => []) (fun i => [(11, .int .i64 (i : Nat)), (3, .int .i64 (sumL ts i : Nat))]) (fun i => ts.length - i) 0 (Nat.zero_le _) (.cons (by first | rfl | exact lookI rfl (by omega) | exact lookI rfl (by simp) | exact lookB rfl (by simp)) (.cons (by first | rfl | exact lookI rfl (by omega) | exact lookI rfl (by simp) | exact lookB rfl (by simp)) Front.nil)) (by repeat' constructor) rfl (fun i hi m hm => ?_)
 replace hi : i ≤ ts.length := hi
 replace hm : m = ts.length - i := hm
 change Tr _ _ [] ([(11, .int .i64 (i : Nat)), (3, .int .i64 (sumL ts i : Nat))] ++ _) _
 refine Tr.seq (Tr.region ?_)
 refine Tr.q (QS.lss rfl rfl) rfl ?_
 refine Tr.nil (Tr.thenN (Tr.seq ?_))
 refine Tr.cond rfl (fun h1 => ?_) (fun h1 => ?_)
 ·try simp only [bs] at h1
  refine Tr.skip (Tr.thenN (Tr.seq (Tr.block (Tr.seq (Tr.region ?_)))))
  refine Tr.q (QS.idxN rfl rfl (by assumption) Try.underlying24 Try.sizeOf23 (by rfl) (by omega)) rfl ?_
  refine Tr.q (QS.el1 rfl (by assumption) Try.isAgg23 (by omega) (by rfl)) rfl ?_
  refine Tr.q (QS.assign rfl) rfl ?_
  refine Tr.nil (Tr.thenN (Tr.seq ?_))
  have hss := sumL_succ (ts := ts) (i := i) (by omega)
  have hsl := sumL_le ts (i + 1)
  refine Tr.region ?_
  refine Tr.q (QS.move rfl) rfl ?_
  refine Tr.q (QS.move rfl) rfl ?_
  refine Tr.q (QS.lenNil rfl Try.underlying23) rfl ?_
  refine Tr.q (QS.addI rfl rfl (by omega)) rfl ?_
  refine Tr.q (QS.assign rfl) rfl ?_
  refine Tr.nil (Tr.thenN (Tr.seq (Tr.region ?_)))
  refine Tr.q (QS.move rfl) rfl ?_
  refine Tr.q (QS.lss rfl rfl) rfl ?_
  refine Tr.nil (Tr.thenN ?_)
  refine Tr.cond rfl (fun h2 => ?_) (fun h2 => ?_)
  ·try simp only [bs] at h2
   first | contradiction | (exfalso; omega) | simp_all
  ·try simp only [bs] at h2
   refine Tr.skip (Tr.inN (Tr.thenN (Tr.region ?_)))
   refine Tr.q (QS.addI rfl rfl (by omega)) rfl ?_
   refine Tr.q (QS.move rfl) rfl ?_
   refine Tr.nil (Tr.thenN ?_)
   apply Tr.again (i + 1)
   ·exact rfl
   ·exact (.cons (by first | rfl | exact lookI rfl (by omega) | exact lookI rfl (by simp) | exact lookB rfl (by simp)) (.cons (by first | rfl | exact lookI rfl (by omega) | exact lookI rfl (by simp) | exact lookB rfl (by simp)) Front.nil))
   ·exact SubX.dropN 15 (by kernel_rfl) rfl
   ·exact (by repeat' constructor)
   ·exact (by show i + 1 ≤ _; omega)
   ·exact (by (try dsimp only); omega)
 ·try simp only [bs] at h1
  refine Tr.exit ?_
  refine Tr.thenE (Tr.thenE (Tr.inHit (Tr.thenN (Tr.seq ?_))))
  obtain rfl : i = ts.length := by omega
  refine Tr.region ?_
  refine Tr.q (QS.move rfl) rfl ?_
  refine Tr.callRow rfl Try.call111 (fun w hw => grow_u32 (sumL ts ts.length) w hs) rfl (fun V3 => ?_)
  refine Tr.q (QS.assign rfl) rfl ?_
  refine Tr.nil (Tr.thenN (Tr.seq (Tr.seq (Tr.region ?_))))
  refine Tr.q (QS.move rfl) rfl ?_
  refine Tr.q (QS.len rfl (by assumption) Try.underlying24) rfl ?_
  refine Tr.q (QS.move rfl) rfl ?_
  refine Tr.nil (Tr.thenN (Tr.block ?_))
  refine Tr.loop (ι := Nat × Value) (fun ⟨i, Vg⟩ => i ≤ ts.length) (fun _ => _) (fun ⟨i, Vg⟩ => [rowE Vg 39 encU32 (catL ts i)]) (fun ⟨i, Vg⟩ => [(27, .int .i64 (i : Nat)), (6, Vg)]) (fun ⟨i, Vg⟩ => ts.length - i) (0, _) (Nat.zero_le _) (.cons (by first | rfl | exact lookI rfl (by omega) | exact lookI rfl (by simp) | exact lookB rfl (by simp)) (.cons (by first | rfl | exact lookI rfl (by omega) | exact lookI rfl (by simp) | exact lookB rfl (by simp)) Front.nil)) (by repeat' constructor) rfl (fun i hi m hm => ?_)
  obtain ⟨i, Vg⟩ := i
  replace hi : i ≤ ts.length := hi
  replace hm : m = ts.length - i := hm
  change Tr _ _ [rowE Vg 39 encU32 (catL ts i)] ([(27, .int .i64 (i : Nat)), (6, Vg)] ++ _) _
  refine Tr.seq (Tr.region ?_)
  refine Tr.q (QS.lss rfl rfl) rfl ?_
  refine Tr.nil (Tr.thenN (Tr.seq ?_))
  refine Tr.cond rfl (fun h4 => ?_) (fun h4 => ?_)
  ·try simp only [bs] at h4
   refine Tr.skip (Tr.thenN (Tr.seq (Tr.block (Tr.seq ?_))))
   have hti := hI' _ (mem_getD (l := ts) (k := i) (by omega))
   have hss := sumL_succ (ts := ts) (i := i) (by omega)
   have hsl := sumL_le ts (i + 1)
   have hcl := catL_len ts i
   refine Tr.region ?_
   refine Tr.q (QS.idxN rfl rfl (by assumption) Try.underlying24 Try.sizeOf23 (by rfl) (by omega)) rfl ?_
   refine Tr.q (QS.el1 rfl (by assumption) Try.isAgg23 (by omega) (by rfl)) rfl ?_
   refine Tr.q (QS.assign rfl) rfl ?_
   refine Tr.nil (Tr.thenN (Tr.region ?_))
   refine Tr.q (QS.move rfl) rfl ?_
   refine Tr.q (QS.move rfl) rfl ?_
   refine Tr.appendOf rfl rfl (by repeat constructor) (fun w hw => hw.slF (by assumption)) Try.underlying23 HLF.info39 (by rfl) (by rfl) (by (try simp only [List.length_cons, List.length_nil, List.length_append, List.length_take]); omega) (by unfold maxLen; (try simp only [List.length_cons, List.length_nil, List.length_append, List.length_take]); omega) rfl (fun V5 => ?_)
   refine Tr.q (QS.assign rfl) rfl ?_
   refine Tr.nil (Tr.inN (Tr.thenN (Tr.region ?_)))
   refine Tr.q (QS.addI rfl rfl (by omega)) rfl ?_
   refine Tr.q (QS.move rfl) rfl ?_
   refine Tr.nil (Tr.thenN ?_)
   rw [catL_succ (by omega)]
   apply Tr.again (i + 1, _)
   ·exact rfl
   ·exact (.cons (by first | rfl | exact lookI rfl (by omega) | exact lookI rfl (by simp) | exact lookB rfl (by simp)) (.cons (by first | rfl | exact lookI rfl (by omega) | exact lookI rfl (by simp) | exact lookB rfl (by simp)) Front.nil))
   ·exact SubX.dropN 12 (by kernel_rfl) rfl
   ·exact (by repeat' constructor)
   ·exact (by show i + 1 ≤ _; omega)
   ·exact (by (try dsimp only); omega)
  ·try simp only [bs] at h4
   refine Tr.exit ?_
   refine Tr.thenE (Tr.thenE (Tr.inHit (Tr.thenN (Tr.seq ?_))))
   obtain rfl : i = ts.length := by omega
   refine Tr.region ?_
   refine Tr.q (QS.move rfl) rfl ?_
   refine Tr.q (QS.assign rfl) rfl ?_
   refine Tr.nil (Tr.thenN (Tr.ret ?_))
   refine Tr.ret1 Try.results84 rfl (fun w' hw => ?_)
   exact ⟨_, rfl, hw.below (Bg.le.refl _), hw.new (.head _)⟩
set_option maxRecDepth 100000 in
set_option maxHeartbeats 4000000 in
theorem concat_ins (ts : List (RowV Ins)) (VL : Value) (w : World) (hL : Sl (hp w) encRowV ts VL) (hI : RowIn encIns (hp w) ts) (hs : sumL ts ts.length ≤ 100000) :
  Calls Try.prog 53 #[VL] w (fun e w' => ∃ V', e = .returned V' ∧ Ext w w' ∧ NewRow w w' 41 encIns (catL ts ts.length) V') := by
 have hL' : Sl (Bg.of w).blk encRowV ts VL := hL
 have hI' : RowIn encIns (Bg.of w).blk ts := hI
 have hlen := hL.len_le
 refine enter Try.func53 rfl Try.ntmps53 rfl ?_
 refine Tr.seq (Tr.region ?_)
 refine Tr.q (QS.assign rfl) rfl ?_
 refine Tr.nil (Tr.thenN (Tr.seq (Tr.region ?_)))
 refine Tr.q (QS.assign rfl) rfl ?_
 refine Tr.nil (Tr.thenN (Tr.seq (Tr.seq (Tr.region ?_))))
 refine Tr.q (QS.move rfl) rfl ?_
 refine Tr.q (QS.len rfl (by assumption) Try.underlying115) rfl ?_
 refine Tr.q (QS.move rfl) rfl ?_
 refine Tr.nil (Tr.thenN (Tr.block ?_))
 refine Tr.loop (ι := Nat) (fun i => i ≤ ts.length) (fun _ => _) (fun i => []) (fun i => [(11, .int .i64 (i : Nat)), (3, .int .i64 (sumL ts i : Nat))]) (fun i => ts.length - i) 0 (Nat.zero_le _) (.cons (by first | rfl | exact lookI rfl (by omega) | exact lookI rfl (by simp) | exact lookB rfl (by simp)) (.cons (by first | rfl | exact lookI rfl (by omega) | exact lookI rfl (by simp) | exact lookB rfl (by simp)) Front.nil)) (by repeat' constructor) rfl (fun i hi m hm => ?_)
 replace hi : i ≤ ts.length := hi
 replace hm : m = ts.length - i := hm
 change Tr _ _ [] ([(11, .int .i64 (i : Nat)), (3, .int .i64 (sumL ts i : Nat))] ++ _) _
 refine Tr.seq (Tr.region ?_)
 refine Tr.q (QS.lss rfl rfl) rfl ?_
 refine Tr.nil (Tr.thenN (Tr.seq ?_))
 refine Tr.cond rfl (fun h1 => ?_) (fun h1 => ?_)
 ·try simp only [bs] at h1
  refine Tr.skip (Tr.thenN (Tr.seq (Tr.block (Tr.seq (Tr.region ?_)))))
  refine Tr.q (QS.idxN rfl rfl (by assumption) Try.underlying115 Try.sizeOf29 (by rfl) (by omega)) rfl ?_
  refine Tr.q (QS.el1 rfl (by assumption) Try.isAgg29 (by omega) (by rfl)) rfl ?_
  refine Tr.q (QS.assign rfl) rfl ?_
  refine Tr.nil (Tr.thenN (Tr.seq ?_))
  have hss := sumL_succ (ts := ts) (i := i) (by omega)
  have hsl := sumL_le ts (i + 1)
  refine Tr.region ?_
  refine Tr.q (QS.move rfl) rfl ?_
  refine Tr.q (QS.move rfl) rfl ?_
  refine Tr.q (QS.lenNil rfl Try.underlying29) rfl ?_
  refine Tr.q (QS.addI rfl rfl (by omega)) rfl ?_
  refine Tr.q (QS.assign rfl) rfl ?_
  refine Tr.nil (Tr.thenN (Tr.seq (Tr.region ?_)))
  refine Tr.q (QS.move rfl) rfl ?_
  refine Tr.q (QS.lss rfl rfl) rfl ?_
  refine Tr.nil (Tr.thenN ?_)
  refine Tr.cond rfl (fun h2 => ?_) (fun h2 => ?_)
  ·try simp only [bs] at h2
   first | contradiction | (exfalso; omega) | simp_all
  ·try simp only [bs] at h2
   refine Tr.skip (Tr.inN (Tr.thenN (Tr.region ?_)))
   refine Tr.q (QS.addI rfl rfl (by omega)) rfl ?_
   refine Tr.q (QS.move rfl) rfl ?_
   refine Tr.nil (Tr.thenN ?_)
   apply Tr.again (i + 1)
   ·exact rfl
   ·exact (.cons (by first | rfl | exact lookI rfl (by omega) | exact lookI rfl (by simp) | exact lookB rfl (by simp)) (.cons (by first | rfl | exact lookI rfl (by omega) | exact lookI rfl (by simp) | exact lookB rfl (by simp)) Front.nil))
   ·exact SubX.dropN 15 (by kernel_rfl) rfl
   ·exact (by repeat' constructor)
   ·exact (by show i + 1 ≤ _; omega)
   ·exact (by (try dsimp only); omega)
 ·try simp only [bs] at h1
  refine Tr.exit ?_
  refine Tr.thenE (Tr.thenE (Tr.inHit (Tr.thenN (Tr.seq ?_))))
  obtain rfl : i = ts.length := by omega
  refine Tr.region ?_
  refine Tr.q (QS.move rfl) rfl ?_
  refine Tr.callRow rfl Try.call83 (fun w hw => grow_ins (sumL ts ts.length) w hs) rfl (fun V3 => ?_)
  refine Tr.q (QS.assign rfl) rfl ?_
  refine Tr.nil (Tr.thenN (Tr.seq (Tr.seq (Tr.region ?_))))
  refine Tr.q (QS.move rfl) rfl ?_
  refine Tr.q (QS.len rfl (by assumption) Try.underlying115) rfl ?_
  refine Tr.q (QS.move rfl) rfl ?_
  refine Tr.nil (Tr.thenN (Tr.block ?_))
  refine Tr.loop (ι := Nat × Value) (fun ⟨i, Vg⟩ => i ≤ ts.length) (fun _ => _) (fun ⟨i, Vg⟩ => [rowE Vg 41 encIns (catL ts i)]) (fun ⟨i, Vg⟩ => [(27, .int .i64 (i : Nat)), (6, Vg)]) (fun ⟨i, Vg⟩ => ts.length - i) (0, _) (Nat.zero_le _) (.cons (by first | rfl | exact lookI rfl (by omega) | exact lookI rfl (by simp) | exact lookB rfl (by simp)) (.cons (by first | rfl | exact lookI rfl (by omega) | exact lookI rfl (by simp) | exact lookB rfl (by simp)) Front.nil)) (by repeat' constructor) rfl (fun i hi m hm => ?_)
  obtain ⟨i, Vg⟩ := i
  replace hi : i ≤ ts.length := hi
  replace hm : m = ts.length - i := hm
  change Tr _ _ [rowE Vg 41 encIns (catL ts i)] ([(27, .int .i64 (i : Nat)), (6, Vg)] ++ _) _
  refine Tr.seq (Tr.region ?_)
  refine Tr.q (QS.lss rfl rfl) rfl ?_
  refine Tr.nil (Tr.thenN (Tr.seq ?_))
  refine Tr.cond rfl (fun h4 => ?_) (fun h4 => ?_)
  ·try simp only [bs] at h4
   refine Tr.skip (Tr.thenN (Tr.seq (Tr.block (Tr.seq ?_))))
   have hti := hI' _ (mem_getD (l := ts) (k := i) (by omega))
   have hss := sumL_succ (ts := ts) (i := i) (by omega)
   have hsl := sumL_le ts (i + 1)
   have hcl := catL_len ts i
   refine Tr.region ?_
   refine Tr.q (QS.idxN rfl rfl (by assumption) Try.underlying115 Try.sizeOf29 (by rfl) (by omega)) rfl ?_
   refine Tr.q (QS.el1 rfl (by assumption) Try.isAgg29 (by omega) (by rfl)) rfl ?_
   refine Tr.q (QS.assign rfl) rfl ?_
   refine Tr.nil (Tr.thenN (Tr.region ?_))
   refine Tr.q (QS.move rfl) rfl ?_
   refine Tr.q (QS.move rfl) rfl ?_
   refine Tr.appendOf rfl rfl (by repeat constructor) (fun w hw => hw.slF (by assumption)) Try.underlying29 HLF.info41 (by rfl) (by rfl) (by (try simp only [List.length_cons, List.length_nil, List.length_append, List.length_take]); omega) (by unfold maxLen; (try simp only [List.length_cons, List.length_nil, List.length_append, List.length_take]); omega) rfl (fun V5 => ?_)
   refine Tr.q (QS.assign rfl) rfl ?_
   refine Tr.nil (Tr.inN (Tr.thenN (Tr.region ?_)))
   refine Tr.q (QS.addI rfl rfl (by omega)) rfl ?_
   refine Tr.q (QS.move rfl) rfl ?_
   refine Tr.nil (Tr.thenN ?_)
   rw [catL_succ (by omega)]
   apply Tr.again (i + 1, _)
   ·exact rfl
   ·exact (.cons (by first | rfl | exact lookI rfl (by omega) | exact lookI rfl (by simp) | exact lookB rfl (by simp)) (.cons (by first | rfl | exact lookI rfl (by omega) | exact lookI rfl (by simp) | exact lookB rfl (by simp)) Front.nil))
   ·exact SubX.dropN 12 (by kernel_rfl) rfl
   ·exact (by repeat' constructor)
   ·exact (by show i + 1 ≤ _; omega)
   ·exact (by (try dsimp only); omega)
  ·try simp only [bs] at h4
   refine Tr.exit ?_
   refine Tr.thenE (Tr.thenE (Tr.inHit (Tr.thenN (Tr.seq ?_))))
   obtain rfl : i = ts.length := by omega
   refine Tr.region ?_
   refine Tr.q (QS.move rfl) rfl ?_
   refine Tr.q (QS.assign rfl) rfl ?_
   refine Tr.nil (Tr.thenN (Tr.ret ?_))
   refine Tr.ret1 Try.results53 rfl (fun w' hw => ?_)
   exact ⟨_, rfl, hw.below (Bg.le.refl _), hw.new (.head _)⟩
set_option maxRecDepth 100000 in
set_option maxHeartbeats 4000000 in
theorem compact_u32 (l : List UInt32) (V : Value) (w : World) (hr : (rowE V 39 encU32 l).holds w) (hl : l.length ≤ 1000000) :
  Calls Try.prog 85 #[V] w (fun e w' => ∃ V', e = .returned V' ∧ V'.ownBlock = V.ownBlock ∧ Mut w w' V ∧ (rowE V' 39 encU32 (compactP l)).holds w') := by
 refine enterOwn (l := l) (E := encU32) (T := 39) hr Try.func85 rfl Try.ntmps85 rfl ?_
 refine Tr.seq (Tr.region ?_)
 refine Tr.q (QS.assign rfl) rfl ?_
 refine Tr.nil (Tr.thenN (Tr.seq (Tr.seq (Tr.region ?_))))
 refine Tr.q (QS.move rfl) rfl ?_
 refine Tr.q (QS.lenRow rfl (by repeat constructor) Try.underlying23) rfl ?_
 refine Tr.q (QS.lss rfl rfl) rfl ?_
 refine Tr.nil (Tr.thenN ?_)
 refine Tr.cond rfl (fun h1 => ?_) (fun h1 => ?_)
 ·try simp only [bs] at h1
  refine Tr.seq (Tr.region ?_)
  refine Tr.q (QS.move rfl) rfl ?_
  refine Tr.q (QS.assign rfl) rfl ?_
  refine Tr.nil (Tr.thenN (Tr.ret (Tr.thenR ?_)))
  refine Tr.ret1 Try.results85 rfl (fun w' hw => ?_)
  have e : compactP l = l := by rw [← List.take_length (l := l)]; exact compact_same (Nat.le_refl _) (fun j a b => by omega)
  exact ⟨_, rfl, rfl, (HpOK.mutOwn hw (.head _) rfl).1, by rw [e]; exact (HpOK.mutOwn hw (.head _) rfl).2⟩
 ·try simp only [bs] at h1
  refine Tr.skip (Tr.thenN (Tr.seq (Tr.seq (Tr.region ?_))))
  refine Tr.q (QS.assign rfl) rfl ?_
  refine Tr.nil (Tr.thenN (Tr.block ?_))
  refine Tr.loop (ι := Nat) (fun k => 1 ≤ k ∧ k ≤ l.length ∧ ∀ j, 0 < j → j < k → l.getD j default ≠ l.getD (j - 1) default) (fun _ => _) (fun k => [rowE V 39 encU32 l]) (fun k => [(3, .int .i64 (k : Nat))]) (fun k => l.length - k) 1 ⟨Nat.le_refl _, by omega, fun j a b => by omega⟩ (.cons (by first | rfl | exact lookI rfl (by omega) | exact lookI rfl (by simp) | exact lookB rfl (by simp)) Front.nil) (by repeat' constructor) rfl (fun k hi m hm => ?_)
  replace hi : 1 ≤ k ∧ k ≤ l.length ∧ ∀ j, 0 < j → j < k → l.getD j default ≠ l.getD (j - 1) default := hi
  replace hm : m = l.length - k := hm
  change Tr _ _ [rowE V 39 encU32 l] ([(3, .int .i64 (k : Nat))] ++ _) _
  obtain ⟨hk1, hk2, hk3⟩ := hi
  have hj : ((k : Int) - 1).toNat = k - 1 := by omega
  refine Tr.seq (Tr.seq (Tr.region ?_))
  refine Tr.q (QS.move rfl) rfl ?_
  refine Tr.q (QS.move rfl) rfl ?_
  refine Tr.q (QS.lenRow rfl (by repeat constructor) Try.underlying23) rfl ?_
  refine Tr.q (QS.lss rfl rfl) rfl ?_
  refine Tr.nil (Tr.thenN ?_)
  refine Tr.cond rfl (fun h2 => ?_) (fun h2 => ?_)
  ·try simp only [bs] at h2
   refine Tr.skip (Tr.thenN (Tr.seq (Tr.block (Tr.seq ?_))))
   refine Tr.regionQ HLF.mixed (by kernel_rfl) ?_
   refine TrQ.q (QS.move rfl) rfl ?_
   refine TrQ.q (QS.move rfl) rfl ?_
   refine TrQ.q (QS.idxRowN rfl rfl (by repeat constructor) Try.underlying23 Try.sizeOf39 (by rfl) (by omega)) rfl ?_
   refine TrQ.q (QS.elR1 rfl (by repeat constructor) Try.isAgg39 (by omega) (by rfl)) rfl ?_
   refine TrQ.q (QS.move rfl) rfl ?_
   refine TrQ.q (QS.move rfl) rfl ?_
   refine TrQ.q (QS.subI rfl rfl (by omega)) rfl ?_
   refine TrQ.q (QS.idxRow rfl rfl (by repeat constructor) Try.underlying23 Try.sizeOf39 (by rfl) (by omega)) rfl ?_
   refine TrQ.q (QS.elR1 rfl (by repeat constructor) Try.isAgg39 (by omega) (by rfl)) rfl ?_
   refine TrQ.q (QS.eql32 rfl rfl) rfl ?_
   refine TrQ.nil ?_
   refine Tr.thenN ?_
   refine Tr.cond rfl (fun h3 => ?_) (fun h3 => ?_)
   ·try simp only [bs] at h3
    refine Tr.seq (Tr.region ?_)
    refine Tr.q (QS.move rfl) rfl ?_
    refine Tr.q (QS.move rfl) rfl ?_
    refine Tr.q (QS.sliceFrom rfl (by repeat constructor) rfl Try.underlying23 Try.sizeOf39 rfl (by omega)) rfl ?_
    refine Tr.q (QS.assign rfl) rfl ?_
    refine Tr.nil (Tr.thenN (Tr.seq (Tr.seq (Tr.region ?_))))
    refine Tr.q (QS.assign rfl) rfl ?_
    refine Tr.nil (Tr.thenN (Tr.block ?_))
    refine Tr.loop (ι := Nat × Nat × List UInt32) (fun ⟨wi, k2, cur⟩ => (1 ≤ k2 ∧ k + k2 ≤ l.length ∧ wi < k + k2) ∧ cur.length = l.length ∧ cur.take wi = compactP (l.take (k + k2)) ∧ ∀ j, k + k2 - 1 ≤ j → cur.getD j default = l.getD j default) (fun _ => _) (fun ⟨wi, k2, cur⟩ => [rowE V 39 encU32 cur]) (fun ⟨wi, k2, cur⟩ => [(3, .int .i64 (wi : Nat)), (5, .int .i64 (k2 : Nat))]) (fun ⟨wi, k2, cur⟩ => l.length - (k + k2)) (k, 1, l) ⟨⟨Nat.le_refl _, by omega, by omega⟩, rfl, by rw [compact_snoc (by omega) (by omega), if_pos (by rw [← hj]; assumption), compact_same (by omega) hk3], fun j _ => rfl⟩ (.cons (by first | rfl | exact lookI rfl (by omega) | exact lookI rfl (by simp) | exact lookB rfl (by simp)) (.cons (by first | rfl | exact lookI rfl (by omega) | exact lookI rfl (by simp) | exact lookB rfl (by simp)) Front.nil)) (by repeat' constructor) rfl (fun i hi m hm => ?_)
    obtain ⟨wi, k2, cur⟩ := i
    replace hi : (1 ≤ k2 ∧ k + k2 ≤ l.length ∧ wi < k + k2) ∧ cur.length = l.length ∧ cur.take wi = compactP (l.take (k + k2)) ∧ ∀ j, k + k2 - 1 ≤ j → cur.getD j default = l.getD j default := hi
    replace hm : m = l.length - (k + k2) := hm
    change Tr _ _ [rowE V 39 encU32 cur] ([(3, .int .i64 (wi : Nat)), (5, .int .i64 (k2 : Nat))] ++ _) _
    obtain ⟨⟨hq1, hq2, hq3⟩, hq4, hq5, hq6⟩ := hi
    have hA := hq6 (k + k2) (by omega)
    have hB := hq6 (k + k2 - 1) (by omega)
    have hi1 : k + (k2 : Int).toNat = k + k2 := rfl
    have hi2 : k + ((k2 : Int) - 1).toNat = k + k2 - 1 := by omega
    refine Tr.seq (Tr.seq (Tr.region ?_))
    refine Tr.q (QS.move rfl) rfl ?_
    refine Tr.q (QS.move rfl) rfl ?_
    refine Tr.q (QS.lenResl rfl (by repeat constructor) Try.underlying23) rfl ?_
    refine Tr.q (QS.lss rfl rfl) rfl ?_
    refine Tr.nil (Tr.thenN ?_)
    refine Tr.cond rfl (fun h4 => ?_) (fun h4 => ?_)
    ·try simp only [bs] at h4
     refine Tr.skip (Tr.thenN (Tr.seq (Tr.block (Tr.seq ?_))))
     refine Tr.regionQ HLF.mixed (by kernel_rfl) ?_
     refine TrQ.q (QS.move rfl) rfl ?_
     refine TrQ.q (QS.move rfl) rfl ?_
     refine TrQ.q (QS.idxResl rfl rfl (by repeat constructor) Try.underlying23 Try.sizeOf39 rfl (by omega) (by omega)) rfl ?_
     refine TrQ.q (QS.elR1 rfl (by repeat constructor) Try.isAgg39 (by omega) (by rfl)) rfl ?_
     refine TrQ.q (QS.move rfl) rfl ?_
     refine TrQ.q (QS.move rfl) rfl ?_
     refine TrQ.q (QS.subI rfl rfl (by omega)) rfl ?_
     refine TrQ.q (QS.idxResl rfl rfl (by repeat constructor) Try.underlying23 Try.sizeOf39 rfl (by omega) (by omega)) rfl ?_
     refine TrQ.q (QS.elR1 rfl (by repeat constructor) Try.isAgg39 (by omega) (by rfl)) rfl ?_
     refine TrQ.q (QS.neq32 rfl rfl) rfl ?_
     refine TrQ.nil ?_
     refine Tr.thenN ?_
     refine Tr.cond rfl (fun h5 => ?_) (fun h5 => ?_)
     ·try simp only [bs] at h5
      refine Tr.seq (Tr.region ?_)
      refine Tr.q (QS.move rfl) rfl ?_
      refine Tr.q (QS.move rfl) rfl ?_
      refine Tr.q (QS.move rfl) rfl ?_
      refine Tr.q (QS.move rfl) rfl ?_
      refine Tr.q (QS.idxResl rfl rfl (by repeat constructor) Try.underlying23 Try.sizeOf39 rfl (by omega) (by omega)) rfl ?_
      refine Tr.q (QS.elR1 rfl (by repeat constructor) Try.isAgg39 (by omega) (by rfl)) rfl ?_
      refine Tr.q (QS.idxRowN rfl rfl (by repeat constructor) Try.underlying23 Try.sizeOf39 (by rfl) (by omega)) rfl ?_
      refine Tr.storeEl (l := cur) (i := wi) (cur.getD (k + (k2 : Int).toNat) default) rfl rfl Try.sizeOf39 (by repeat constructor) (by (try simp only [List.length_set]); omega) (by rfl) rfl ?_
      have hls6 : (List.set cur (wi) (cur.getD (k + (k2 : Int).toNat) default)).length = (cur).length := List.length_set
      refine Tr.nil (Tr.thenN (Tr.region ?_))
      refine Tr.q (QS.move rfl) rfl ?_
      refine Tr.q (QS.addI rfl rfl (by omega)) rfl ?_
      refine Tr.q (QS.assign rfl) rfl ?_
      refine Tr.nil (Tr.inN (Tr.thenN (Tr.region ?_)))
      refine Tr.q (QS.move rfl) rfl ?_
      refine Tr.q (QS.addI rfl rfl (by omega)) rfl ?_
      refine Tr.q (QS.assign rfl) rfl ?_
      refine Tr.nil (Tr.thenN ?_)
      rw [hi1, hi2, hA, hB] at h5
      have hcs := compact_snoc (l := l) (k := k + k2) (by omega) (by omega)
      rw [if_neg h5, ← hq5] at hcs
      have hcm : (cur.set wi (cur.getD (k + (k2 : Int).toNat) default)).take (wi + 1) = compactP (l.take (k + (k2 + 1))) := by
       rw [show k + (k2 + 1) = k + k2 + 1 by omega, hcs, take_succ (by rw [List.length_set]; omega), hi1, hA]
       congr 1
       ·rw [List.take_set_of_le (Nat.le_refl _)]
       ·simp [List.getD_eq_getElem?_getD, show wi < cur.length by omega]
      apply Tr.again (wi + 1, k2 + 1, cur.set wi (cur.getD (k + (k2 : Int).toNat) default))
      ·exact rfl
      ·exact (.cons (by first | rfl | exact lookI rfl (by omega) | exact lookI rfl (by simp) | exact lookB rfl (by simp)) (.cons (by first | rfl | exact lookI rfl (by omega) | exact lookI rfl (by simp) | exact lookB rfl (by simp)) Front.nil))
      ·exact SubX.dropN 29 (by kernel_rfl) rfl
      ·exact (by repeat' constructor)
      ·exact ⟨⟨by omega, by omega, by omega⟩, by rw [List.length_set]; exact hq4, hcm, fun j a => by rw [List.getD_eq_getElem?_getD, List.getElem?_set_ne (by omega), ← List.getD_eq_getElem?_getD]; exact hq6 j (by omega)⟩
      ·exact (by (try dsimp only); omega)
     ·try simp only [bs] at h5
      refine Tr.skip (Tr.inN (Tr.thenN (Tr.region ?_)))
      refine Tr.q (QS.move rfl) rfl ?_
      refine Tr.q (QS.addI rfl rfl (by omega)) rfl ?_
      refine Tr.q (QS.assign rfl) rfl ?_
      refine Tr.nil (Tr.thenN ?_)
      rw [hi1, hi2, hA, hB] at h5
      have hcs := compact_snoc (l := l) (k := k + k2) (by omega) (by omega)
      rw [if_pos h5, ← hq5] at hcs
      apply Tr.again (wi, k2 + 1, cur)
      ·exact rfl
      ·exact (.cons (by first | rfl | exact lookI rfl (by omega) | exact lookI rfl (by simp) | exact lookB rfl (by simp)) (.cons (by first | rfl | exact lookI rfl (by omega) | exact lookI rfl (by simp) | exact lookB rfl (by simp)) Front.nil))
      ·exact SubX.dropN 19 (by kernel_rfl) rfl
      ·exact (by repeat' constructor)
      ·exact ⟨⟨by omega, by omega, by omega⟩, hq4, by rw [show k + (k2 + 1) = k + k2 + 1 by omega, hcs], fun j a => hq6 j (by omega)⟩
      ·exact (by (try dsimp only); omega)
    ·try simp only [bs] at h4
     refine Tr.exit ?_
     refine Tr.thenE (Tr.thenE (Tr.inHit (Tr.thenN (Tr.seq (Tr.region ?_)))))
     refine Tr.q (QS.move rfl) rfl ?_
     refine Tr.q (QS.move rfl) rfl ?_
     refine Tr.q (QS.sliceFrom rfl (by repeat constructor) rfl Try.underlying23 Try.sizeOf39 rfl (by omega)) rfl ?_
     refine Tr.clearResl 0 rfl (by repeat constructor) (by omega) Try.underlying23 Try.zeroValue39 rfl rfl rfl ?_
     refine Tr.nil (Tr.thenN (Tr.seq (Tr.region ?_)))
     refine Tr.q (QS.move rfl) rfl ?_
     refine Tr.q (QS.move rfl) rfl ?_
     refine Tr.q (QS.sliceTo rfl (by repeat constructor) rfl Try.underlying23 Try.sizeOf39 rfl (by rw [List.length_append, List.length_take]; omega)) rfl ?_
     refine Tr.q (QS.assign rfl) rfl ?_
     refine Tr.nil (Tr.thenN (Tr.ret ?_))
     refine Tr.inR ?_
     refine Tr.thenR (Tr.thenR ?_)
     refine Tr.inR ?_
     refine Tr.thenR ?_
     refine Tr.ret1 Try.results85 rfl (fun w' hw => ?_)
     have hkn : k + k2 = l.length := by omega
     rw [hkn, List.take_length] at hq5
     have hm := HpOK.mutOwn hw (.head _) rfl
     have hh := rowE.resl0 (hw.ent _ (.head _)) (k := wi) (by rw [List.length_append, List.length_take]; omega)
     have e : (cur.take wi ++ List.replicate (cur.length - wi) (0 : UInt32)).take wi = compactP l := by rw [← hq5, List.take_append_of_le_length (by rw [List.length_take]; omega), List.take_take, Nat.min_self]
     exact ⟨_, rfl, hh.2, hm.1, by rw [← e]; exact hh.1⟩
   ·try simp only [bs] at h3
    refine Tr.skip (Tr.inN (Tr.thenN (Tr.region ?_)))
    refine Tr.q (QS.move rfl) rfl ?_
    refine Tr.q (QS.addI rfl rfl (by omega)) rfl ?_
    refine Tr.q (QS.assign rfl) rfl ?_
    refine Tr.nil (Tr.thenN ?_)
    have hk4 : ∀ j, 0 < j → j < k + 1 → l.getD j default ≠ l.getD (j - 1) default := fun j a b => by
     by_cases c : j = k
     ·subst c; rw [← hj]; assumption
     ·exact hk3 j a (by omega)
    apply Tr.again (k + 1)
    ·exact rfl
    ·exact (.cons (by first | rfl | exact lookI rfl (by omega) | exact lookI rfl (by simp) | exact lookB rfl (by simp)) Front.nil)
    ·exact SubX.dropN 18 (by kernel_rfl) rfl
    ·exact (by repeat' constructor)
    ·exact ⟨by omega, by omega, hk4⟩
    ·exact (by (try dsimp only); omega)
  ·try simp only [bs] at h2
   refine Tr.exit ?_
   refine Tr.thenE (Tr.thenE (Tr.inHit (Tr.thenN (Tr.seq (Tr.region ?_)))))
   refine Tr.q (QS.move rfl) rfl ?_
   refine Tr.q (QS.assign rfl) rfl ?_
   refine Tr.nil (Tr.thenN (Tr.ret ?_))
   refine Tr.ret1 Try.results85 rfl (fun w' hw => ?_)
   have e : compactP l = l := by rw [← List.take_length (l := l)]; exact compact_same (Nat.le_refl _) (fun j a b => hk3 j a (by omega))
   exact ⟨_, rfl, rfl, (HpOK.mutOwn hw (.head _) rfl).1, by rw [e]; exact (HpOK.mutOwn hw (.head _) rfl).2⟩
set_option maxRecDepth 100000 in
set_option maxHeartbeats 4000000 in
theorem union_any (l1 l2 : List UInt32) (V1 V2 : Value) (w : World) (h1 : Sl (hp w) encU32 l1 V1) (h2 : Sl (hp w) encU32 l2 V2) (hb1 : l1.length ≤ 20000) (hb2 : l2.length ≤ 20000) :
  Calls Try.prog 54 #[V1, V2] w (fun e w' => ∃ V', e = .returned V' ∧ Ext w w' ∧ NewRow w w' 39 encU32 (joinU l1 l2) V') := by
 obtain ⟨a1, c1, hv1, _⟩ := h1.shape
 subst hv1
 obtain ⟨a2, c2, hv2, _⟩ := h2.shape
 subst hv2
 have hri : RowIn encU32 (Bg.of w).blk [⟨l1, a1, c1⟩, ⟨l2, a2, c2⟩] := by
  intro t ht
  simp only [List.mem_cons, List.not_mem_nil, or_false] at ht
  rcases ht with rfl | rfl
  ·exact h1
  ·exact h2
 refine enter Try.func54 rfl Try.ntmps54 rfl ?_
 refine Tr.seq (Tr.region ?_)
 refine Tr.q (QS.assign rfl) rfl ?_
 refine Tr.nil (Tr.thenN (Tr.seq (Tr.region ?_)))
 refine Tr.q (QS.move rfl) rfl ?_
 refine Tr.q (QS.move rfl) rfl ?_
 refine Tr.litN (E := encRowV) ([⟨l1, a1, c1⟩, ⟨l2, a2, c2⟩] : List (RowV UInt32)) (vs := [(0, _), (1, _)]) rfl rfl Try.underlying24 Try.sizeOf23 Try.zeroValue23 (by rfl) (by rfl) rfl (by first | kernel_rfl | rfl) rfl (fun V1 => ?_)
 refine Tr.callRow rfl Try.call84 (fun w hw => concat_u32 [⟨l1, a1, c1⟩, ⟨l2, a2, c2⟩] _ w (hw.row (by repeat constructor)) (fun t ht => hw.slF (hri t ht)) (by simp [sumL]; omega)) rfl (fun V2 => ?_)
 refine Tr.rowEq (l' := l1 ++ l2) (by simp [catL]) ?_
 refine Tr.q (QS.assign rfl) rfl ?_
 refine Tr.nil (Tr.thenN (Tr.seq (Tr.region ?_)))
 refine Tr.q (QS.move rfl) rfl ?_
 refine Tr.callMut rfl Try.call79 (by repeat constructor) (fun w hw => sortU_any (l1 ++ l2).toArray _ w (hw.ent _ (.head _)) (by rw [List.size_toArray, List.length_append]; omega)) rfl ?_
 rw [sort_srt]
 refine Tr.nil (Tr.thenN (Tr.seq (Tr.region ?_)))
 refine Tr.q (QS.move rfl) rfl ?_
 refine Tr.callMutRow rfl Try.call85 (by repeat constructor) (fun w hw => compact_u32 (srtU (l1 ++ l2)) _ w (hw.ent _ (.head _)) (by rw [srtU_len, List.length_append]; omega)) rfl (fun V3 hV3 => ?_)
 refine Tr.q (QS.assign rfl) rfl ?_
 refine Tr.nil (Tr.thenN (Tr.ret ?_))
 refine Tr.ret1 Try.results54 rfl (fun w' hw => ?_)
 exact ⟨_, rfl, hw.below (Bg.le.refl _), hw.new (.head _)⟩
set_option maxRecDepth 100000 in
set_option maxHeartbeats 16000000 in
theorem merge_any (li mi : List Ins) (le lu lb me mu_ mb : List UInt32) (Vi Ve Vu Vb Wi We Wu Wb : Value) (w : World) (hI : Sl (hp w) encIns li Vi) (hE : Sl (hp w) encU32 le Ve) (hU : Sl (hp w) encU32 lu Vu) (hBd : Sl (hp w) encU32 lb Vb) (hI2 : Sl (hp w) encIns mi Wi) (hE2 : Sl (hp w) encU32 me We) (hU2 : Sl (hp w) encU32 mu_ Wu) (hB2 : Sl (hp w) encU32 mb Wb) (hn : ((li.length ≤ 1000 ∧ le.length ≤ 20000) ∧ lu.length ≤ 1000 ∧ lb.length ≤ 20000) ∧ (mi.length ≤ 1000 ∧ me.length ≤ 20000) ∧ mu_.length ≤ 1000 ∧ mb.length ≤ 20000) :
  Calls Try.prog 26 #[.agg #[Vi, Ve, Vu, Vb], .agg #[Wi, We, Wu, Wb]] w (fun e w' => ∃ j : Value × Value × Value × Value, e = .returned (.agg #[j.1, j.2.1, j.2.2.1, j.2.2.2]) ∧ Below w.heap.size w w' ∧ NewEnts w w' [rowE j.1 41 encIns (ofM (addMs (li ++ mi))), rowE j.2.1 39 encU32 (joinU le me), rowE j.2.2.1 39 encU32 (joinU lu mu_), rowE j.2.2.2 39 encU32 (joinU lb mb)] ∧ True) := by
 have hI' : Sl (Bg.of0 w).blk encIns li Vi := hI
 have hE' : Sl (Bg.of0 w).blk encU32 le Ve := hE
 have hU' : Sl (Bg.of0 w).blk encU32 lu Vu := hU
 have hBd' : Sl (Bg.of0 w).blk encU32 lb Vb := hBd
 have hI2' : Sl (Bg.of0 w).blk encIns mi Wi := hI2
 have hE2' : Sl (Bg.of0 w).blk encU32 me We := hE2
 have hU2' : Sl (Bg.of0 w).blk encU32 mu_ Wu := hU2
 have hB2' : Sl (Bg.of0 w).blk encU32 mb Wb := hB2
 obtain ⟨⟨⟨n1, n2⟩, n3, n4⟩, ⟨n5, n6⟩, n7, n8⟩ := hn
 obtain ⟨a1, c1, hvi, _⟩ := hI.shape
 obtain ⟨a2, c2, hvw, _⟩ := hI2.shape
 subst hvi hvw
 have hri : RowIn encIns (Bg.of0 w).blk [⟨li, a1, c1⟩, ⟨mi, a2, c2⟩] := by
  intro t ht
  simp only [List.mem_cons, List.not_mem_nil, or_false] at ht
  rcases ht with rfl | rfl
  ·exact hI
  ·exact hI2
 refine enter0 Try.func26 rfl Try.ntmps26 rfl ?_
 refine Tr.seq (Tr.region ?_)
 refine Tr.box rfl rfl rfl (fun b1 => ?_)
 refine Tr.box rfl rfl rfl (fun b2 => ?_)
 refine Tr.alloc Try.zeroValue31 rfl rfl (fun b3 => ?_)
 refine Tr.nil (Tr.thenN (Tr.seq (Tr.region ?_)))
 refine Tr.makeMap insV rfl (fun b4 => ?_)
 refine Tr.q (QS.assign rfl) rfl ?_
 refine Tr.nil (Tr.thenN (Tr.seq (Tr.seq (Tr.region ?_))))
 refine Tr.q (QS.fieldAddr (off := 0) (ft := 29) rfl Try.underlying31 rfl rfl Try.sizeOf29 (by decide)) rfl ?_
 refine Tr.q (QS.lV rfl Try.isAgg29) rfl ?_
 refine Tr.q (QS.fieldAddr (off := 0) (ft := 29) rfl Try.underlying31 rfl rfl Try.sizeOf29 (by decide)) rfl ?_
 refine Tr.q (QS.lV rfl Try.isAgg29) rfl ?_
 refine Tr.litN (E := encRowV) ([⟨li, a1, c1⟩, ⟨mi, a2, c2⟩] : List (RowV Ins)) (vs := [(0, _), (1, _)]) rfl rfl Try.underlying115 Try.sizeOf29 Try.zeroValue29 (by rfl) (by rfl) rfl (by first | kernel_rfl | rfl) rfl (fun V5 => ?_)
 refine Tr.callRow rfl Try.call53 (fun w hw => concat_ins [⟨li, a1, c1⟩, ⟨mi, a2, c2⟩] _ w (hw.row (by repeat constructor)) (fun t ht => hw.slF (hri t ht)) (by simp [sumL]; omega)) rfl (fun VC => ?_)
 refine Tr.rowEq (l' := li ++ mi) (by simp [catL]) ?_
 refine Tr.q (QS.lenRow rfl (by repeat constructor) Try.underlying29) rfl ?_
 refine Tr.q (QS.move rfl) rfl ?_
 refine Tr.nil (Tr.thenN (Tr.block ?_))
 refine Tr.loop (ι := Nat) (fun k => k ≤ (li ++ mi).length) (fun _ => _) (fun k => [rowE VC 41 encIns (li ++ mi), mapE b4 insV (((li ++ mi).take k).foldl addM []), cellE b1 [.slice a1 li.length c1, Ve, Vu, Vb] 31, cellE b2 [.slice a2 mi.length c2, We, Wu, Wb] 31, cellE b3 [.slice none 0 0, .slice none 0 0, .slice none 0 0, .slice none 0 0] 31]) (fun k => [(21, .int .i64 (k : Nat))]) (fun k => (li ++ mi).length - k) 0 (Nat.zero_le _) (.cons (by first | rfl | exact lookI rfl (by omega) | exact lookI rfl (by simp) | exact lookB rfl (by simp)) Front.nil) (by repeat' constructor) rfl (fun k hi m hm => ?_)
 replace hi : k ≤ (li ++ mi).length := hi
 replace hm : m = (li ++ mi).length - k := hm
 change Tr _ _ [rowE VC 41 encIns (li ++ mi), mapE b4 insV (((li ++ mi).take k).foldl addM []), cellE b1 [.slice a1 li.length c1, Ve, Vu, Vb] 31, cellE b2 [.slice a2 mi.length c2, We, Wu, Wb] 31, cellE b3 [.slice none 0 0, .slice none 0 0, .slice none 0 0, .slice none 0 0] 31] ([(21, .int .i64 (k : Nat))] ++ _) _
 have hlm : (li ++ mi).length = li.length + mi.length := List.length_append
 have hml := addM_len ((li ++ mi).take k) []
 rw [List.length_take, List.length_nil] at hml
 refine Tr.seq (Tr.region ?_)
 refine Tr.q (QS.lss rfl rfl) rfl ?_
 refine Tr.nil (Tr.thenN (Tr.seq ?_))
 refine Tr.cond rfl (fun h6 => ?_) (fun h6 => ?_)
 ·try simp only [bs] at h6
  refine Tr.skip (Tr.thenN (Tr.seq (Tr.block (Tr.seq (Tr.region ?_)))))
  refine Tr.q (QS.idxRowN rfl rfl (by repeat constructor) Try.underlying29 Try.sizeOf41 (by rfl) (by omega)) rfl ?_
  refine Tr.q (QS.elRA rfl (by repeat constructor) Try.isAgg41 Try.sizeOf41 (by rfl) (by omega)) rfl ?_
  refine Tr.alloc Try.zeroValue41 rfl rfl (fun b7 => ?_)
  refine Tr.storeW rfl rfl Try.sizeOf41 (by repeat constructor) (by rfl) (by rfl) (by first | exact List.all_eq_true.1 rfl | exact Enc.one _ _ | exact Enc.one encIns _) rfl ?_
  refine Tr.nil (Tr.thenN (Tr.seq (Tr.region ?_)))
  refine Tr.q (QS.move rfl) rfl ?_
  refine Tr.q (QS.fieldAddr (off := 0) (ft := 39) rfl Try.underlying41 rfl rfl Try.sizeOf39 (by decide)) rfl ?_
  refine Tr.q (QS.lV rfl Try.isAgg39) rfl ?_
  refine Tr.q (QS.lookIOk rfl rfl (by repeat constructor) Try.underlying73 Try.underlying39 Try.zeroValue41 (by rfl)) rfl ?_
  refine Tr.q (QS.move rfl) rfl ?_
  refine Tr.q (QS.extract rfl rfl) rfl ?_
  refine Tr.q (QS.extract rfl rfl) rfl ?_
  refine Tr.alloc Try.zeroValue41 rfl rfl (fun b8 => ?_)
  refine Tr.storeW rfl rfl Try.sizeOf41 (by repeat constructor) (by rfl) (by rfl) (by first | exact List.all_eq_true.1 rfl | exact Enc.one _ _ | exact Enc.one encIns _) rfl ?_
  refine Tr.q (QS.assign rfl) rfl ?_
  refine Tr.nil (Tr.thenN (Tr.seq (Tr.region ?_)))
  refine Tr.q (QS.move rfl) rfl ?_
  refine Tr.q (QS.not rfl) rfl ?_
  refine Tr.nil (Tr.thenN ?_)
  refine Tr.cond rfl (fun h9 => ?_) (fun h9 => ?_)
  ·try simp only [bs] at h9
   refine Tr.region ?_
   refine Tr.q (QS.move rfl) rfl ?_
   refine Tr.q (QS.fieldAddr (off := 0) (ft := 39) rfl Try.underlying41 rfl rfl Try.sizeOf39 (by decide)) rfl ?_
   refine Tr.q (QS.lV rfl Try.isAgg39) rfl ?_
   refine Tr.q (QS.lW rfl Try.isAgg41 Try.sizeOf41) rfl ?_
   refine Tr.mapUpdate ((li ++ mi).getD k default) rfl rfl rfl (by repeat constructor) Try.underlying73 Try.underlying39 rfl ?_
   refine Tr.nil (Tr.inN (Tr.thenN (Tr.region ?_)))
   refine Tr.q (QS.addI rfl rfl (by omega)) rfl ?_
   refine Tr.q (QS.move rfl) rfl ?_
   refine Tr.nil (Tr.thenN ?_)
   rw [addM_yes (by omega) (by first | assumption | simp_all)]
   apply Tr.again (k + 1)
   ·exact rfl
   ·exact (.cons (by first | rfl | exact lookI rfl (by omega) | exact lookI rfl (by simp) | exact lookB rfl (by simp)) Front.nil)
   ·exact SubX.dropN 22 (by kernel_rfl) rfl
   ·exact (by repeat' constructor)
   ·exact (by show k + 1 ≤ _; omega)
   ·exact (by (try dsimp only); omega)
  ·try simp only [bs] at h9
   refine Tr.skip (Tr.inN (Tr.thenN (Tr.region ?_)))
   refine Tr.q (QS.addI rfl rfl (by omega)) rfl ?_
   refine Tr.q (QS.move rfl) rfl ?_
   refine Tr.nil (Tr.thenN ?_)
   rw [addM_no (by omega) (by first | assumption | simp_all)]
   apply Tr.again (k + 1)
   ·exact rfl
   ·exact (.cons (by first | rfl | exact lookI rfl (by omega) | exact lookI rfl (by simp) | exact lookB rfl (by simp)) Front.nil)
   ·exact SubX.dropN 18 (by kernel_rfl) rfl
   ·exact (by repeat' constructor)
   ·exact (by show k + 1 ≤ _; omega)
   ·exact (by (try dsimp only); omega)
 ·try simp only [bs] at h6
  refine Tr.exit ?_
  refine Tr.thenE (Tr.thenE (Tr.inHit (Tr.thenN ?_)))
  obtain rfl : k = (li ++ mi).length := by omega
  rw [List.take_length]
  have hml := addM_len (li ++ mi) []
  rw [List.length_nil, List.length_append] at hml
  have hml2 : (addMs (li ++ mi)).length ≤ 2000 := by show (((li ++ mi).foldl addM [])).length ≤ 2000; omega
  refine Tr.seqJ (ι := Value × Value × Value × Nat) (fun ⟨X1, X2, X3, bc⟩ => True) (fun _ => Bg.of0 w) (fun ⟨X1, X2, X3, bc⟩ => [rowE X1 39 encU32 (joinU le me), rowE X2 39 encU32 (joinU lu mu_), rowE X3 39 encU32 (joinU lb mb), cellE bc [.slice none 0 0, X1, X2, X3] 31, cellE b1 [.slice a1 li.length c1, Ve, Vu, Vb] 31, cellE b2 [.slice a2 mi.length c2, We, Wu, Wb] 31, cellE b3 [.slice none 0 0, .slice none 0 0, .slice none 0 0, .slice none 0 0] 31, mapE b4 insV (addMs (li ++ mi))]) (fun ⟨X1, X2, X3, bc⟩ => [(10, .pointer (some ⟨bc, 0, none⟩))]) ?_ (fun i hi => ?_)
  ·skip
   refine Tr.regionH ([cellE b1 [.slice a1 li.length c1, Ve, Vu, Vb] 31, cellE b2 [.slice a2 mi.length c2, We, Wu, Wb] 31, cellE b3 [.slice none 0 0, .slice none 0 0, .slice none 0 0, .slice none 0 0] 31, mapE b4 insV (addMs (li ++ mi))]) 18 rfl HLF.mixed ?_
   refine Tr.hT 0 rfl (by kernel_rfl) (panicThen panicBody) (QS.fieldAddr (off := 1) (ft := 23) rfl Try.underlying31 rfl rfl Try.sizeOf23 (by decide)) ?_
   refine Tr.hT 1 rfl (by kernel_rfl) (panicThen panicBody) (QS.lV rfl Try.isAgg23) ?_
   refine Tr.hT 2 rfl (by kernel_rfl) (panicThen panicBody) (QS.fieldAddr (off := 1) (ft := 23) rfl Try.underlying31 rfl rfl Try.sizeOf23 (by decide)) ?_
   refine Tr.hT 3 rfl (by kernel_rfl) (panicThen panicBody) (QS.lV rfl Try.isAgg23) ?_
   refine Tr.hT 5 rfl (by kernel_rfl) (panicThen panicBody) (QS.fieldAddr (off := 2) (ft := 23) rfl Try.underlying31 rfl rfl Try.sizeOf23 (by decide)) ?_
   refine Tr.hT 6 rfl (by kernel_rfl) (panicThen panicBody) (QS.lV rfl Try.isAgg23) ?_
   refine Tr.hT 7 rfl (by kernel_rfl) (panicThen panicBody) (QS.fieldAddr (off := 2) (ft := 23) rfl Try.underlying31 rfl rfl Try.sizeOf23 (by decide)) ?_
   refine Tr.hT 8 rfl (by kernel_rfl) (panicThen panicBody) (QS.lV rfl Try.isAgg23) ?_
   refine Tr.hT 10 rfl (by kernel_rfl) (panicThen panicBody) (QS.fieldAddr (off := 3) (ft := 23) rfl Try.underlying31 rfl rfl Try.sizeOf23 (by decide)) ?_
   refine Tr.hT 11 rfl (by kernel_rfl) (panicThen panicBody) (QS.lV rfl Try.isAgg23) ?_
   refine Tr.hT 12 rfl (by kernel_rfl) (panicThen panicBody) (QS.fieldAddr (off := 3) (ft := 23) rfl Try.underlying31 rfl rfl Try.sizeOf23 (by decide)) ?_
   refine Tr.hT 13 rfl (by kernel_rfl) (panicThen panicBody) (QS.lV rfl Try.isAgg23) ?_
   refine Tr.hAll [4, 16] (by kernel_rfl) (by simp) (fun iq hq => ?_)
   rcases List.mem_cons.1 hq with rfl | hq
   ·skip
    refine Tr.hOp rfl ?_
    refine Tr.callRow rfl Try.call54 (fun w hw => union_any le me _ _ w (hw.slF hE') (hw.slF hE2') n2 n6) rfl (fun V21 => ?_)
    refine Tr.rowShape (V := V21) (by repeat constructor) (fun p4 c4 hpv => ?_)
    subst hpv
    refine Tr.hN ?_
    refine Tr.hAll [9, 16] (by kernel_rfl) (by simp) (fun iq hq => ?_)
    rcases List.mem_cons.1 hq with rfl | hq
    ·skip
     refine Tr.hOp rfl ?_
     refine Tr.callRow rfl Try.call54 (fun w hw => union_any lu mu_ _ _ w (hw.slF hU') (hw.slF hU2') (by omega) (by omega)) rfl (fun V22 => ?_)
     refine Tr.rowShape (V := V22) (by repeat constructor) (fun p5 c5 hpv => ?_)
     subst hpv
     refine Tr.hN ?_
     refine Tr.hAll [14, 16] (by kernel_rfl) (by simp) (fun iq hq => ?_)
     rcases List.mem_cons.1 hq with rfl | hq
     ·skip
      refine Tr.hOp rfl ?_
      refine Tr.callRow rfl Try.call54 (fun w hw => union_any lb mb _ _ w (hw.slF hBd') (hw.slF hB2') n4 n8) rfl (fun V23 => ?_)
      refine Tr.rowShape (V := V23) (by repeat constructor) (fun p6 c6 hpv => ?_)
      subst hpv
      refine Tr.hN ?_
      refine Tr.hT 15 rfl (by kernel_rfl) (panicThen panicBody) (QS.build (vs := [(1, _), (2, _), (3, _)]) (cs := #[.slice none 0 0, .slice p4 (joinU le me).length c4, .slice p5 (joinU lu mu_).length c5, .slice p6 (joinU lb mb).length c6]) rfl rfl (by kernel_rfl)) ?_
      refine Tr.hAll [16] (by kernel_rfl) (by simp) (fun iq hq => ?_)
      obtain rfl := List.mem_singleton.1 hq
      refine Tr.hOp rfl ?_
      refine Tr.alloc Try.zeroValue31 rfl rfl (fun b10 => ?_)
      refine Tr.hN ?_
      refine Tr.hAll [17] (by kernel_rfl) (by simp) (fun iq hq => ?_)
      obtain rfl := List.mem_singleton.1 hq
      refine Tr.hOp rfl ?_
      refine Tr.storeW rfl rfl Try.sizeOf31 (by repeat constructor) (by rfl) (by rfl) (by first | exact List.all_eq_true.1 rfl | exact Enc.one _ _ | (intro u hu; simp [Value.cells] at hu; simp_all [Value.oneCell'])) rfl ?_
      refine Tr.hN ?_
      refine Tr.hDone (by kernel_rfl) ?_
      refine Tr.thenN ?_
      apply Tr.joined (_, _, _, _)
      ·exact rfl
      ·exact (.cons (by first | rfl | exact lookI rfl (by omega) | exact lookI rfl (by simp) | exact lookB rfl (by simp)) Front.nil)
      ·exact SubX.dropN 17 (by kernel_rfl) rfl
      ·exact (by repeat' constructor)
      ·exact trivial
     obtain rfl := List.mem_singleton.1 hq
     refine Tr.hOp rfl ?_
     refine Tr.alloc Try.zeroValue31 rfl rfl (fun b11 => ?_)
     refine Tr.hN ?_
     refine Tr.hAll [14] (by kernel_rfl) (by simp) (fun iq hq => ?_)
     obtain rfl := List.mem_singleton.1 hq
     refine Tr.hOp rfl ?_
     refine Tr.callRow rfl Try.call54 (fun w hw => union_any lb mb _ _ w (hw.slF hBd') (hw.slF hB2') n4 n8) rfl (fun V23 => ?_)
     refine Tr.rowShape (V := V23) (by repeat constructor) (fun p6 c6 hpv => ?_)
     subst hpv
     refine Tr.hN ?_
     refine Tr.hT 15 rfl (by kernel_rfl) (panicThen panicBody) (QS.build (vs := [(1, _), (2, _), (3, _)]) (cs := #[.slice none 0 0, .slice p4 (joinU le me).length c4, .slice p5 (joinU lu mu_).length c5, .slice p6 (joinU lb mb).length c6]) rfl rfl (by kernel_rfl)) ?_
     refine Tr.hAll [17] (by kernel_rfl) (by simp) (fun iq hq => ?_)
     obtain rfl := List.mem_singleton.1 hq
     refine Tr.hOp rfl ?_
     refine Tr.storeW rfl rfl Try.sizeOf31 (by repeat constructor) (by rfl) (by rfl) (by first | exact List.all_eq_true.1 rfl | exact Enc.one _ _ | (intro u hu; simp [Value.cells] at hu; simp_all [Value.oneCell'])) rfl ?_
     refine Tr.hN ?_
     refine Tr.hDone (by kernel_rfl) ?_
     refine Tr.thenN ?_
     apply Tr.joined (_, _, _, _)
     ·exact rfl
     ·exact (.cons (by first | rfl | exact lookI rfl (by omega) | exact lookI rfl (by simp) | exact lookB rfl (by simp)) Front.nil)
     ·exact SubX.dropN 17 (by kernel_rfl) rfl
     ·exact (by repeat' constructor)
     ·exact trivial
    obtain rfl := List.mem_singleton.1 hq
    refine Tr.hOp rfl ?_
    refine Tr.alloc Try.zeroValue31 rfl rfl (fun b12 => ?_)
    refine Tr.hN ?_
    refine Tr.hAll [9] (by kernel_rfl) (by simp) (fun iq hq => ?_)
    obtain rfl := List.mem_singleton.1 hq
    refine Tr.hOp rfl ?_
    refine Tr.callRow rfl Try.call54 (fun w hw => union_any lu mu_ _ _ w (hw.slF hU') (hw.slF hU2') (by omega) (by omega)) rfl (fun V22 => ?_)
    refine Tr.rowShape (V := V22) (by repeat constructor) (fun p5 c5 hpv => ?_)
    subst hpv
    refine Tr.hN ?_
    refine Tr.hAll [14] (by kernel_rfl) (by simp) (fun iq hq => ?_)
    obtain rfl := List.mem_singleton.1 hq
    refine Tr.hOp rfl ?_
    refine Tr.callRow rfl Try.call54 (fun w hw => union_any lb mb _ _ w (hw.slF hBd') (hw.slF hB2') n4 n8) rfl (fun V23 => ?_)
    refine Tr.rowShape (V := V23) (by repeat constructor) (fun p6 c6 hpv => ?_)
    subst hpv
    refine Tr.hN ?_
    refine Tr.hT 15 rfl (by kernel_rfl) (panicThen panicBody) (QS.build (vs := [(1, _), (2, _), (3, _)]) (cs := #[.slice none 0 0, .slice p4 (joinU le me).length c4, .slice p5 (joinU lu mu_).length c5, .slice p6 (joinU lb mb).length c6]) rfl rfl (by kernel_rfl)) ?_
    refine Tr.hAll [17] (by kernel_rfl) (by simp) (fun iq hq => ?_)
    obtain rfl := List.mem_singleton.1 hq
    refine Tr.hOp rfl ?_
    refine Tr.storeW rfl rfl Try.sizeOf31 (by repeat constructor) (by rfl) (by rfl) (by first | exact List.all_eq_true.1 rfl | exact Enc.one _ _ | (intro u hu; simp [Value.cells] at hu; simp_all [Value.oneCell'])) rfl ?_
    refine Tr.hN ?_
    refine Tr.hDone (by kernel_rfl) ?_
    refine Tr.thenN ?_
    apply Tr.joined (_, _, _, _)
    ·exact rfl
    ·exact (.cons (by first | rfl | exact lookI rfl (by omega) | exact lookI rfl (by simp) | exact lookB rfl (by simp)) Front.nil)
    ·exact SubX.dropN 17 (by kernel_rfl) rfl
    ·exact (by repeat' constructor)
    ·exact trivial
   obtain rfl := List.mem_singleton.1 hq
   refine Tr.hOp rfl ?_
   refine Tr.alloc Try.zeroValue31 rfl rfl (fun b13 => ?_)
   refine Tr.hN ?_
   refine Tr.hAll [4] (by kernel_rfl) (by simp) (fun iq hq => ?_)
   obtain rfl := List.mem_singleton.1 hq
   refine Tr.hOp rfl ?_
   refine Tr.callRow rfl Try.call54 (fun w hw => union_any le me _ _ w (hw.slF hE') (hw.slF hE2') n2 n6) rfl (fun V21 => ?_)
   refine Tr.rowShape (V := V21) (by repeat constructor) (fun p4 c4 hpv => ?_)
   subst hpv
   refine Tr.hN ?_
   refine Tr.hAll [9] (by kernel_rfl) (by simp) (fun iq hq => ?_)
   obtain rfl := List.mem_singleton.1 hq
   refine Tr.hOp rfl ?_
   refine Tr.callRow rfl Try.call54 (fun w hw => union_any lu mu_ _ _ w (hw.slF hU') (hw.slF hU2') (by omega) (by omega)) rfl (fun V22 => ?_)
   refine Tr.rowShape (V := V22) (by repeat constructor) (fun p5 c5 hpv => ?_)
   subst hpv
   refine Tr.hN ?_
   refine Tr.hAll [14] (by kernel_rfl) (by simp) (fun iq hq => ?_)
   obtain rfl := List.mem_singleton.1 hq
   refine Tr.hOp rfl ?_
   refine Tr.callRow rfl Try.call54 (fun w hw => union_any lb mb _ _ w (hw.slF hBd') (hw.slF hB2') n4 n8) rfl (fun V23 => ?_)
   refine Tr.rowShape (V := V23) (by repeat constructor) (fun p6 c6 hpv => ?_)
   subst hpv
   refine Tr.hN ?_
   refine Tr.hT 15 rfl (by kernel_rfl) (panicThen panicBody) (QS.build (vs := [(1, _), (2, _), (3, _)]) (cs := #[.slice none 0 0, .slice p4 (joinU le me).length c4, .slice p5 (joinU lu mu_).length c5, .slice p6 (joinU lb mb).length c6]) rfl rfl (by kernel_rfl)) ?_
   refine Tr.hAll [17] (by kernel_rfl) (by simp) (fun iq hq => ?_)
   obtain rfl := List.mem_singleton.1 hq
   refine Tr.hOp rfl ?_
   refine Tr.storeW rfl rfl Try.sizeOf31 (by repeat constructor) (by rfl) (by rfl) (by first | exact List.all_eq_true.1 rfl | exact Enc.one _ _ | (intro u hu; simp [Value.cells] at hu; simp_all [Value.oneCell'])) rfl ?_
   refine Tr.hN ?_
   refine Tr.hDone (by kernel_rfl) ?_
   refine Tr.thenN ?_
   apply Tr.joined (_, _, _, _)
   ·exact rfl
   ·exact (.cons (by first | rfl | exact lookI rfl (by omega) | exact lookI rfl (by simp) | exact lookB rfl (by simp)) Front.nil)
   ·exact SubX.dropN 17 (by kernel_rfl) rfl
   ·exact (by repeat' constructor)
   ·exact trivial
  ·obtain ⟨X1, X2, X3, bc⟩ := i
   replace hi : True := hi
   change Tr _ _ [rowE X1 39 encU32 (joinU le me), rowE X2 39 encU32 (joinU lu mu_), rowE X3 39 encU32 (joinU lb mb), cellE bc [.slice none 0 0, X1, X2, X3] 31, cellE b1 [.slice a1 li.length c1, Ve, Vu, Vb] 31, cellE b2 [.slice a2 mi.length c2, We, Wu, Wb] 31, cellE b3 [.slice none 0 0, .slice none 0 0, .slice none 0 0, .slice none 0 0] 31, mapE b4 insV (addMs (li ++ mi))] ([(10, .pointer (some ⟨bc, 0, none⟩))] ++ _) _
   refine Tr.seq (Tr.seq ?_)
   refine Tr.frozenM (b := b4) (by repeat constructor) (fun F5 hF5 hmI5 => ?_)
   have hdr5 : F5.dr = 0 := hF5.dr
   refine Tr.region ?_
   refine Tr.q (QS.move rfl) rfl ?_
   refine Tr.callBg (fun i : Nat => .func (.func 80) #[] #[.pointer (some ⟨i, 0, none⟩)]) (R := fun h i => CellsIn h i [.map (some b4)]) (fun h h' i hh r => r.mono hh) rfl Try.call46 (fun w hw => keys_ins b4 w) rfl (fun i9 F9 hF9 hR9 => ?_)
   have hmI9 := hmI5.mono hF9.blk
   refine Tr.callEnts0 (fun V : Value => V) (fun V => [rowE V 39 encU32 (srtU ((addMs (li ++ mi)).map (·.1)))]) (ok := fun _ => True) (hF9.dr.trans hdr5) rfl Try.call45 (fun w hw => sorted_any _ _ ((addMs (li ++ mi)).map (·.1)) (addMs (li ++ mi)).length (by omega) Try.call80 (by rw [List.length_map]; omega) w (keys_stops_ins b4 i9 w (hmI9.mono hw.bg) (hR9.mono hw.bg))) rfl (fun V30 _ => ?_)
   obtain ⟨ks, hks⟩ : ∃ ks, ks = srtU ((addMs (li ++ mi)).map (·.1)) := ⟨_, rfl⟩
   rw [← hks]
   refine Tr.q (QS.lenRow rfl (by repeat constructor) Try.underlying23) rfl ?_
   refine Tr.q (QS.move rfl) rfl ?_
   refine Tr.nil (Tr.thenN (Tr.block ?_))
   refine Tr.ownNil 41 encIns ?_
   refine Tr.loop (ι := Nat × Value) (fun ⟨j, Vo⟩ => j ≤ ks.length) (fun _ => _) (fun ⟨j, Vo⟩ => [rowE V30 39 encU32 ks, rowE Vo 41 encIns ((ks.take j).map (fun k => (mget (addMs (li ++ mi)) k).getD zeroIns)), rowE X1 39 encU32 (joinU le me), rowE X2 39 encU32 (joinU lu mu_), rowE X3 39 encU32 (joinU lb mb), cellE bc [Vo, X1, X2, X3] 31, cellE b1 [.slice a1 li.length c1, Ve, Vu, Vb] 31, cellE b2 [.slice a2 mi.length c2, We, Wu, Wb] 31, cellE b3 [.slice none 0 0, .slice none 0 0, .slice none 0 0, .slice none 0 0] 31]) (fun ⟨j, Vo⟩ => [(59, .int .i64 (j : Nat))]) (fun ⟨j, Vo⟩ => ks.length - j) (0, _) (Nat.zero_le _) (.cons (by first | rfl | exact lookI rfl (by omega) | exact lookI rfl (by simp) | exact lookB rfl (by simp)) Front.nil) (by repeat' constructor) rfl (fun i hi m hm => ?_)
   obtain ⟨j, Vo⟩ := i
   replace hi : j ≤ ks.length := hi
   replace hm : m = ks.length - j := hm
   change Tr _ _ [rowE V30 39 encU32 ks, rowE Vo 41 encIns ((ks.take j).map (fun k => (mget (addMs (li ++ mi)) k).getD zeroIns)), rowE X1 39 encU32 (joinU le me), rowE X2 39 encU32 (joinU lu mu_), rowE X3 39 encU32 (joinU lb mb), cellE bc [Vo, X1, X2, X3] 31, cellE b1 [.slice a1 li.length c1, Ve, Vu, Vb] 31, cellE b2 [.slice a2 mi.length c2, We, Wu, Wb] 31, cellE b3 [.slice none 0 0, .slice none 0 0, .slice none 0 0, .slice none 0 0] 31] ([(59, .int .i64 (j : Nat))] ++ _) _
   have hksl : ks.length ≤ 2000 := by rw [hks, srtU_len, List.length_map]; omega
   have hkml : ((ks.take j).map (fun k => (mget (addMs (li ++ mi)) k).getD zeroIns)).length ≤ 2000 := by rw [List.length_map, List.length_take]; omega
   refine Tr.seq (Tr.region ?_)
   refine Tr.q (QS.lss rfl rfl) rfl ?_
   refine Tr.nil (Tr.thenN (Tr.seq ?_))
   refine Tr.cond rfl (fun h14 => ?_) (fun h14 => ?_)
   ·try simp only [bs] at h14
    refine Tr.skip (Tr.thenN (Tr.seq (Tr.block (Tr.seq (Tr.region ?_)))))
    refine Tr.q (QS.idxRowN rfl rfl (by repeat constructor) Try.underlying23 Try.sizeOf39 (by rfl) (by omega)) rfl ?_
    refine Tr.q (QS.elR1 rfl (by repeat constructor) Try.isAgg39 (by omega) (by rfl)) rfl ?_
    refine Tr.q (QS.assign rfl) rfl ?_
    refine Tr.nil (Tr.thenN (Tr.region ?_))
    refine Tr.q (QS.fieldAddr (off := 0) (ft := 29) rfl Try.underlying31 rfl rfl Try.sizeOf29 (by decide)) rfl ?_
    refine Tr.q (QS.lV rfl Try.isAgg29) rfl ?_
    refine Tr.q (QS.move rfl) rfl ?_
    refine Tr.q (QS.move rfl) rfl ?_
    refine Tr.q (QS.lookIB rfl rfl (by assumption) Try.underlying73 Try.underlying39 Try.zeroValue41 (by rfl)) rfl ?_
    refine Tr.lit1 (E := encIns) ((mget (addMs (li ++ mi)) (ks.getD j default)).getD zeroIns) rfl rfl Try.underlying29 Try.sizeOf41 Try.zeroValue41 (by rfl) (by rfl) rfl (fun V15 => ?_)
    refine Tr.append1 rfl rfl (by repeat constructor) (by repeat constructor) Try.underlying29 HLF.info41 (by rfl) (by rfl) (by (try simp only [List.length_cons, List.length_nil, List.length_append, List.length_take]); omega) (by unfold maxLen; (try simp only [List.length_cons, List.length_nil, List.length_append, List.length_take]); omega) rfl (fun V16 => ?_)
    refine Tr.rowShape (.head _) (fun pi ci hpv => ?_)
    subst hpv
    refine Tr.q (QS.fieldAddr (off := 0) (ft := 29) rfl Try.underlying31 rfl rfl Try.sizeOf29 (by decide)) rfl ?_
    refine Tr.storeV (cs' := [_, _, _, _]) rfl rfl Try.sizeOf29 (by repeat constructor) rfl (by rfl) (by first | exact Nat.le_of_ble_eq_true rfl | simp) (by first | exact List.all_eq_true.1 rfl | (intro u hu; simp [Value.cells] at hu; simp_all [Value.oneCell'])) rfl ?_
    refine Tr.nil (Tr.inN (Tr.thenN (Tr.region ?_)))
    refine Tr.q (QS.addI rfl rfl (by omega)) rfl ?_
    refine Tr.q (QS.move rfl) rfl ?_
    refine Tr.nil (Tr.thenN ?_)
    rw [map_take_snoc (fun k => (mget (addMs (li ++ mi)) k).getD zeroIns) (by omega)]
    apply Tr.again (j + 1, _)
    ·exact rfl
    ·exact (.cons (by first | rfl | exact lookI rfl (by omega) | exact lookI rfl (by simp) | exact lookB rfl (by simp)) Front.nil)
    ·exact SubX.dropN 15 (by kernel_rfl) rfl
    ·exact (by repeat' constructor)
    ·exact (by show j + 1 ≤ _; omega)
    ·exact (by (try dsimp only); omega)
   ·try simp only [bs] at h14
    refine Tr.exit ?_
    refine Tr.thenE (Tr.thenE (Tr.inHit (Tr.thenN (Tr.seq ?_))))
    obtain rfl : j = ks.length := by omega
    rw [List.take_length]
    refine Tr.rowShape (V := Vo) (by repeat constructor) (fun p9 c9 hpv => ?_)
    subst hpv
    refine Tr.rowShape (V := X1) (by repeat constructor) (fun p14 c14 hpv => ?_)
    subst hpv
    refine Tr.rowShape (V := X2) (by repeat constructor) (fun p15 c15 hpv => ?_)
    subst hpv
    refine Tr.rowShape (V := X3) (by repeat constructor) (fun p16 c16 hpv => ?_)
    subst hpv
    refine Tr.region ?_
    refine Tr.q (QS.lW rfl Try.isAgg31 Try.sizeOf31) rfl ?_
    refine Tr.storeW rfl rfl Try.sizeOf31 (by repeat constructor) (by rfl) (by rfl) (by first | exact List.all_eq_true.1 rfl | exact Enc.one _ _ | (intro u hu; simp [Value.cells] at hu; simp_all [Value.oneCell'])) rfl ?_
    refine Tr.nil (Tr.thenN (Tr.ret ?_))
    refine Tr.retC1 Try.results26 rfl (by repeat constructor) Try.isAgg31 Try.sizeOf31 (by rfl) (fun w' hw => ?_)
    have hko : ks.map (fun k => (mget (addMs (li ++ mi)) k).getD zeroIns) = ofM (addMs (li ++ mi)) := by rw [hks]; rfl
    rw [hko] at hw ⊢
    exact ⟨(.slice p9 _ c9, .slice p14 _ c14, .slice p15 _ c15, .slice p16 _ c16), rfl, hw.below0 (hF5.trans hF9), hw.ents0 (hF5.trans hF9).lo (by repeat' constructor), trivial⟩
end Go.Proofs.Ytnmaokalpbnmaaa
namespace Go.HL
open Go
/-- The row of an opcode: what it says, checked at all 256 bytes. -/
def rowOK (c : UInt8) : Bool :=
  let k := (rowP c).1
  let s := (opcodeP k).2.1
  !(rowP c).2 || (decide (opcodeP k = (c, s, true)) && decide (k.addr = 0) && decide (k.imm = 0) && decide (k.b = 0) && decide (k.size = 0) && (decide (s = 1) || decide (k.a = 0)) && decide (0 ≤ k.a) && decide (k.a < 8) &&
    ((decide (5 ≤ k.op) && decide (k.op ≤ 15)) || decide (k.op = 20) || decide (k.form = 0)) && (decide (k.op = 16) || decide (k.op = 17) || decide (k.op = 18) || decide (k.width = 0)) && (decide (k.op = 20) || decide (k.op = 25) || decide (k.cc = 0)) &&
    (!(decide (k.op = 3) || decide (k.op = 4)) || decide (s = 1)) && (decide (k.op = 20) || decide (k.op = 23)) == (decide (s = 7) || decide (s = 8)))
theorem row_all (c : UInt8) : rowOK c = true := by
  revert c
  exact all_u8 (by decide +kernel)
structure RowFacts (c : UInt8) (k : Ins) (s : Int) : Prop where
  op : opcodeP k = (c, s, true)
  addr : k.addr = 0
  imm : k.imm = 0
  b : k.b = 0
  size : k.size = 0
  a : s = 1 ∨ k.a = 0
  ar : 0 ≤ k.a ∧ k.a < 8
  form : (5 ≤ k.op ∧ k.op ≤ 15) ∨ k.op = 20 ∨ k.form = 0
  width : k.op = 16 ∨ k.op = 17 ∨ k.op = 18 ∨ k.width = 0
  cc : k.op = 20 ∨ k.op = 25 ∨ k.cc = 0
  one : k.op = 3 ∨ k.op = 4 → s = 1
  jump : (k.op = 20 ∨ k.op = 23) ↔ (s = 7 ∨ s = 8)
theorem row_facts {c : UInt8} (h : (rowP c).2 = true) : RowFacts c (rowP c).1 (opcodeP (rowP c).1).2.1 := by
  have h1 := row_all c
  simp only [rowOK, h, Bool.not_true, Bool.false_or, Bool.and_eq_true, Bool.or_eq_true, Bool.not_eq_true', Bool.or_eq_false_iff, decide_eq_true_eq, decide_eq_false_iff_not, beq_iff_eq] at h1
  obtain ⟨⟨⟨⟨⟨⟨⟨⟨⟨⟨⟨⟨h01, h02⟩, h03⟩, h04⟩, h05⟩, h06⟩, h07⟩, h08⟩, h09⟩, h10⟩, h11⟩, h12⟩, h13⟩ := h1
  refine ⟨h01, h02, h03, h04, h05, h06, ⟨h07, h08⟩, by omega, by omega, by omega, fun k => by omega, ?_⟩
  rw [Bool.eq_iff_iff] at h13
  simpa using h13
theorem opcodeP_congr {i k : Ins} (ho : i.op = k.op) (hf : i.form = k.form) (hw : i.width = k.width) (hc : i.cc = k.cc) (ha : (k.op = 3 ∨ k.op = 4) → i.a = k.a) : opcodeP i = opcodeP k := by
  unfold opcodeP accessP condP
  rw [ho, hf, hw, hc]
  by_cases h : k.op = 3 ∨ k.op = 4
  · rw [ha h]
  · rw [if_neg (c := k.op = 3) (by omega), if_neg (c := k.op = 4) (by omega), if_neg (c := k.op = 3) (by omega), if_neg (c := k.op = 4) (by omega)]
theorem sext_narrow (x : UInt8) : narrowP (sextP x) = true := by
  revert x; exact all_u8 (by decide +kernel)
theorem sext_byte (x : UInt8) : (sextP x).toUInt8 = x := by
  revert x; exact all_u8 (by decide +kernel)
theorem split16 (x : UInt8) : u8 (((x / 16).toNat : Nat) * 16 + ((x % 16).toNat : Nat)) = x := by
  revert x; exact all_u8 (by decide +kernel)
theorem put_bytes (n : UInt32) : putP [] n 4 = [(shr32 n 0).toUInt8, (shr32 n 8).toUInt8, (shr32 n 16).toUInt8, (shr32 n 24).toUInt8] := rfl
theorem put_long {b : List UInt8} {k : Nat} (h : k + 4 ≤ b.length) : putP [] (longP b k) 4 = [b.getD k default, b.getD (k + 1) default, b.getD (k + 2) default, b.getD (k + 3) default] := by
  rw [put_bytes]
  unfold longP
  generalize b.getD k default = x0
  generalize b.getD (k + 1) default = x1
  generalize b.getD (k + 2) default = x2
  generalize b.getD (k + 3) default = x3
  have h0 := x0.toNat_lt; have h1 := x1.toNat_lt; have h2 := x2.toNat_lt; have h3 := x3.toNat_lt
  have key : ∀ (n : UInt32) (j : Nat) (x : UInt8), n.toNat / 2 ^ j % 256 = x.toNat → (shr32 n j).toUInt8 = x := fun n j x e => by
    apply UInt8.toNat_inj.1
    rw [UInt32.toNat_toUInt8, shr32_toNat]
    exact e
  have e1 : (256 : UInt32).toNat = 256 := rfl
  have e2 : (65536 : UInt32).toNat = 65536 := rfl
  have e3 : (16777216 : UInt32).toNat = 16777216 := rfl
  have hn : (x0.toUInt32 + 256 * x1.toUInt32 + 65536 * x2.toUInt32 + 16777216 * x3.toUInt32).toNat = x0.toNat + 256 * x1.toNat + 65536 * x2.toNat + 16777216 * x3.toNat := by
    simp only [UInt32.toNat_add, UInt32.toNat_mul, UInt8.toNat_toUInt32, e1, e2, e3]
    omega
  congr 1
  · exact key _ _ _ (by rw [hn]; omega)
  congr 1
  · exact key _ _ _ (by rw [hn]; omega)
  congr 1
  · exact key _ _ _ (by rw [hn]; omega)
  congr 1
  exact key _ _ _ (by rw [hn]; omega)
theorem applyP_fields (s : Int) (k : Ins) (b : List UInt8) (nx : UInt32) : (applyP s k b nx).op = k.op ∧ (applyP s k b nx).form = k.form ∧ (applyP s k b nx).width = k.width ∧ (applyP s k b nx).cc = k.cc ∧ (applyP s k b nx).size = k.size ∧ (applyP s k b nx).addr = k.addr := by
  unfold applyP; repeat' split
  all_goals exact ⟨rfl, rfl, rfl, rfl, rfl, rfl⟩
theorem shape_cases {s : Int} (h : 0 ≤ s ∧ s ≤ 8) : s = 0 ∨ s = 1 ∨ s = 2 ∨ s = 3 ∨ s = 4 ∨ s = 5 ∨ s = 6 ∨ s = 7 ∨ s = 8 := by omega
theorem take_list {b : List UInt8} {n : Nat} (h : n ≤ b.length) : b.take n = (List.range n).map fun j => b.getD j default := by
  apply List.ext_getElem?
  intro j
  rw [List.getElem?_take]
  by_cases hj : j < n
  · rw [if_pos hj]
    have : j < b.length := by omega
    simp [hj, List.getD_eq_getElem?_getD, this]
  · rw [if_neg hj]; simp [hj]
/-- What Decode hands back is valid, and encoding it gives the bytes. -/
theorem dec_canon {b : List UInt8} {addr : UInt32} (h : (decP b addr).2 = 0) :
    ∃ s : Int, (decP b addr).1.size = sizeP s ∧ 1 ≤ sizeP s ∧ sizeP s ≤ b.length ∧ (decP b addr).1.addr = addr ∧ errP (decP b addr).1 = 0 ∧ lengthPI (decP b addr).1 = sizeP s ∧ encodeP (decP b addr).1 = b.take (sizeP s).toNat := by
  by_cases h0 : b.length = 0
  · rw [decP_1 h0] at h; cases h
  by_cases hr : (rowP (b.getD 0 default)).2 = true
  case neg => rw [decP_2 h0 (by simpa using hr)] at h; cases h
  by_cases hl : (b.length : Int) < sizeP (opcodeP (rowP (b.getD 0 default)).1).2.1
  · rw [decP_3 h0 hr hl] at h; cases h
  have hf := row_facts hr
  have hsh := opcodeP_shape (rowP (b.getD 0 default)).1
  have e4 := decP_4 (addr := addr) h0 hr hl (k := _) rfl
  rw [← applyP_two] at e4
  generalize hk : (rowP (b.getD 0 default)).1 = k at *
  generalize hs : (opcodeP k).2.1 = s at *
  generalize hi : applyP s { k with addr := addr, size := sizeP s } b (addr + u32 (sizeP s)) = i at *
  have hff := applyP_fields s { k with addr := addr, size := sizeP s } b (addr + u32 (sizeP s))
  rw [hi] at hff
  obtain ⟨fo, fF, fw, fc, fs, fa⟩ := hff
  have hra : regP i.a = true ∧ regP i.b = true := by
    rw [e4] at h
    split at h
    · cases h
    · rename_i q; simpa [not_or] using q
  rw [if_neg (by simp [hra.1, hra.2])] at e4
  rw [e4]
  have hpos : 1 ≤ sizeP s := by unfold sizeP; repeat' split
                                all_goals omega
  have opc : opcodeP i = (b.getD 0 default, s, true) := by
    rw [← hf.op]
    refine opcodeP_congr fo fF fw fc fun q => ?_
    have := hf.one q
    subst this
    rw [← hi]; rfl
  have sp := sizeP_spec s
  have hn : ¬ (b.length : Int) < sizeP s := hl
  -- the operands, shape by shape
  have body : keptP i s = i ∧ ((s = 4 ∨ s = 5) → narrowP i.imm = true) ∧ (s = 7 → narrowP (i.imm - i.addr - 2) = true) ∧ (b.getD 0 default) :: argsP s i (i.addr + u32 (sizeP s)) = b.take (sizeP s).toNat := by
    have kpt : keptP i s = i ↔ ((s = 4 ∨ s = 5 ∨ s = 6 ∨ s = 7 ∨ s = 8) ∨ i.imm = 0) ∧ ((s = 1 ∨ s = 2 ∨ s = 3 ∨ s = 4 ∨ s = 5 ∨ s = 6) ∨ i.a = 0) ∧ ((s = 3 ∨ s = 5) ∨ i.b = 0) := by
      rw [kept_iff, fo, fF, fw, fc]
      have := hf.form; have := hf.width; have := hf.cc
      constructor
      · rintro ⟨q1, q2, q3, q4, q5, q6⟩; exact ⟨q1, q5, q6⟩
      · rintro ⟨q1, q5, q6⟩
        refine ⟨q1, ?_, ?_, ?_, q5, q6⟩
        · rcases hf.form with q | q | q
          · exact .inl (.inl q)
          · exact .inl (.inr q)
          · exact .inr q
        · rcases hf.width with q | q | q | q
          · exact .inl (.inl q)
          · exact .inl (.inr (.inl q))
          · exact .inl (.inr (.inr q))
          · exact .inr q
        · rcases hf.cc with q | q | q
          · exact .inl (.inl q)
          · exact .inl (.inr q)
          · exact .inr q
    rw [kpt, fa]
    have him := hf.imm; have hfb := hf.b; have hfa := hf.a
    rcases shape_cases hsh with rfl | rfl | rfl | rfl | rfl | rfl | rfl | rfl | rfl
    · have e : i = { k with addr := addr, size := sizeP 0 } := hi.symm
      subst e
      refine ⟨⟨.inr him, .inr (by rcases hfa with q | q; omega; exact q), .inr hfb⟩, fun q => by omega, fun q => by omega, ?_⟩
      rw [take_list (n := (sizeP 0).toNat) (by show 1 ≤ _; omega)]; rfl
    · have e : i = { k with addr := addr, size := sizeP 1 } := hi.symm
      subst e
      refine ⟨⟨.inr him, .inl (by omega), .inr hfb⟩, fun q => by omega, fun q => by omega, ?_⟩
      rw [take_list (n := (sizeP 1).toNat) (by show 1 ≤ _; omega)]; rfl
    · have e : i = { k with addr := addr, size := sizeP 2, a := (b.getD 1 default).toNat } := hi.symm
      subst e
      refine ⟨⟨.inr him, .inl (by omega), .inr hfb⟩, fun q => by omega, fun q => by omega, ?_⟩
      rw [take_list (n := (sizeP 2).toNat) (by show 2 ≤ _; omega)]
      show [_, u8 ((b.getD 1 default).toNat : Nat)] = [_, _]
      rw [u8_of_byte]
    · have e : i = { k with addr := addr, size := sizeP 3, a := (b.getD 1 default / 16).toNat, b := (b.getD 1 default % 16).toNat } := hi.symm
      subst e
      refine ⟨⟨.inr him, .inl (by omega), .inl (by omega)⟩, fun q => by omega, fun q => by omega, ?_⟩
      rw [take_list (n := (sizeP 3).toNat) (by show 2 ≤ _; omega)]
      show [_, u8 (((b.getD 1 default / 16).toNat : Nat) * 16 + ((b.getD 1 default % 16).toNat : Nat))] = [_, _]
      rw [split16]
    · have e : i = { k with addr := addr, size := sizeP 4, a := (b.getD 1 default).toNat, imm := sextP (b.getD 2 default) } := hi.symm
      subst e
      refine ⟨⟨.inl (by omega), .inl (by omega), .inr hfb⟩, fun q => sext_narrow _, fun q => by omega, ?_⟩
      rw [take_list (n := (sizeP 4).toNat) (by show 3 ≤ _; omega)]
      show [_, u8 ((b.getD 1 default).toNat : Nat), (sextP (b.getD 2 default)).toUInt8] = [_, _, _]
      rw [u8_of_byte, sext_byte]
    · have e : i = { k with addr := addr, size := sizeP 5, a := (b.getD 1 default / 16).toNat, b := (b.getD 1 default % 16).toNat, imm := sextP (b.getD 2 default) } := hi.symm
      subst e
      refine ⟨⟨.inl (by omega), .inl (by omega), .inl (by omega)⟩, fun q => sext_narrow _, fun q => by omega, ?_⟩
      rw [take_list (n := (sizeP 5).toNat) (by show 3 ≤ _; omega)]
      show [_, u8 (((b.getD 1 default / 16).toNat : Nat) * 16 + ((b.getD 1 default % 16).toNat : Nat)), (sextP (b.getD 2 default)).toUInt8] = [_, _, _]
      rw [split16, sext_byte]
    · have e : i = { k with addr := addr, size := sizeP 6, a := (b.getD 1 default).toNat, imm := longP b 2 } := hi.symm
      subst e
      refine ⟨⟨.inl (by omega), .inl (by omega), .inr hfb⟩, fun q => by omega, fun q => by omega, ?_⟩
      have h6 : sizeP 6 = 6 := rfl
      rw [take_list (n := (sizeP 6).toNat) (by show 6 ≤ _; omega)]
      show _ :: u8 ((b.getD 1 default).toNat : Nat) :: putP [] (longP b 2) 4 = _
      rw [u8_of_byte, put_long (by omega)]
      rfl
    · have e : i = { k with addr := addr, size := sizeP 7, imm := (addr + u32 (sizeP 7)) + sextP (b.getD 1 default) } := hi.symm
      subst e
      have e2 : (addr + u32 (sizeP 7)) + sextP (b.getD 1 default) - addr - 2 = sextP (b.getD 1 default) := by
        rw [← sub_add32]
        show (addr + 2) + sextP (b.getD 1 default) - (addr + 2) = _
        rw [UInt32.add_comm (addr + 2), UInt32.add_sub_cancel]
      have e3 : (addr + u32 (sizeP 7)) + sextP (b.getD 1 default) - (addr + u32 (sizeP 7)) = sextP (b.getD 1 default) := by
        rw [UInt32.add_comm (addr + _), UInt32.add_sub_cancel]
      refine ⟨⟨.inl (by omega), .inr (by rcases hfa with q | q; omega; exact q), .inr hfb⟩, fun q => by omega, fun q => by rw [e2]; exact sext_narrow _, ?_⟩
      rw [take_list (n := (sizeP 7).toNat) (by show 2 ≤ _; omega)]
      show [_, ((addr + u32 (sizeP 7)) + sextP (b.getD 1 default) - (addr + u32 (sizeP 7))).toUInt8] = [_, _]
      rw [e3, sext_byte]
    · have e : i = { k with addr := addr, size := sizeP 8, imm := (addr + u32 (sizeP 8)) + longP b 1 } := hi.symm
      subst e
      have e3 : (addr + u32 (sizeP 8)) + longP b 1 - (addr + u32 (sizeP 8)) = longP b 1 := by
        rw [UInt32.add_comm (addr + _), UInt32.add_sub_cancel]
      refine ⟨⟨.inl (by omega), .inr (by rcases hfa with q | q; omega; exact q), .inr hfb⟩, fun q => by omega, fun q => by omega, ?_⟩
      have h8 : sizeP 8 = 5 := rfl
      rw [take_list (n := (sizeP 8).toNat) (by show 5 ≤ _; omega)]
      show _ :: putP [] ((addr + u32 (sizeP 8)) + longP b 1 - (addr + u32 (sizeP 8))) 4 = _
      rw [e3, put_long (by omega)]
      rfl
  obtain ⟨b1, b2, b3, b4⟩ := body
  have er : errP i = 0 := by
    rw [err_of opc, if_neg (by simp [hra.1, hra.2, b1]), if_neg]
    rintro (⟨q1, q2⟩ | ⟨q1, q2⟩)
    · rw [b2 q1] at q2; cases q2
    · rw [b3 q1] at q2; cases q2
  refine ⟨s, fs, hpos, by omega, fa, er, ?_, ?_⟩
  · unfold lengthPI; rw [if_pos er, opc]
  · unfold encodeP; rw [if_pos er, opc]; exact b4
end Go.HL
namespace Go.HL
open Go
def mergeC (c d : CodeP) : CodeP := ⟨ofM (addMs (c.ins ++ d.ins)), joinU c.ents d.ents, joinU c.unk d.unk, joinU c.bad d.bad⟩
theorem addMs_ok (is : List Ins) : (∀ k x, mget (addMs is) k = some x → x ∈ is ∧ x.addr = k) ∧ ∀ k, k ∈ (addMs is).map (·.1) ↔ ∃ x ∈ is, x.addr = k := by
  have key : ∀ (is : List Ins) (m : List (UInt32 × Ins)) (all : List Ins), (∀ k x, mget m k = some x → x ∈ all ∧ x.addr = k) → (∀ x ∈ is, x ∈ all) →
      (∀ k x, mget (is.foldl addM m) k = some x → x ∈ all ∧ x.addr = k) ∧ ∀ k, k ∈ (is.foldl addM m).map (·.1) ↔ k ∈ m.map (·.1) ∨ ∃ x ∈ is, x.addr = k := by
    intro is
    induction is with
    | nil => intro m all h _; exact ⟨h, fun k => by simp⟩
    | cons y ys ih =>
      intro m all h ha
      have h1 : ∀ k x, mget (addM m y) k = some x → x ∈ all ∧ x.addr = k := by
        intro k x hx
        unfold addM at hx
        split at hx
        · exact h k x hx
        · rw [mget_put] at hx
          split at hx
          · rename_i e; cases hx; exact ⟨ha _ (.head _), e.symm⟩
          · exact h k x hx
      have h2 : ∀ k, k ∈ (addM m y).map (·.1) ↔ k ∈ m.map (·.1) ∨ y.addr = k := by
        intro k
        unfold addM
        split
        · rename_i hs
          have := mget_mem.1 hs
          exact ⟨.inl, fun q => q.elim id (fun e => e ▸ this)⟩
        · rw [mem_mput]
          exact ⟨fun q => q.elim (fun e => .inr e.symm) .inl, fun q => q.elim .inr (fun e => .inl e.symm)⟩
      obtain ⟨g1, g2⟩ := ih (addM m y) all h1 (fun x hx => ha x (.tail _ hx))
      refine ⟨g1, fun k => ?_⟩
      rw [List.foldl_cons, g2, h2]
      constructor
      · rintro ((q | q) | ⟨x, q1, q2⟩)
        · exact .inl q
        · exact .inr ⟨y, .head _, q⟩
        · exact .inr ⟨x, .tail _ q1, q2⟩
      · rintro (q | ⟨x, q1, q2⟩)
        · exact .inl (.inl q)
        · rcases List.mem_cons.1 q1 with rfl | q1
          · exact .inl (.inr q2)
          · exact .inr ⟨x, q1, q2⟩
  obtain ⟨h1, h2⟩ := key is [] is (fun k x h => by simp [mget] at h) (fun x h => h)
  exact ⟨h1, fun k => by rw [show addMs is = is.foldl addM [] from rfl, h2]; simp⟩
section
variable {l : List SecV} {ts : List TabV} {at_ es more : List UInt32} {c d : CodeP}
theorem reach_both (a : UInt32) : Reach l ts at_ (es ++ more) a ↔ Reach l ts at_ es a ∨ Reach l ts at_ more a := by
  constructor
  · intro h
    induction h with
    | ent a h => exact (List.mem_append.1 h).imp (.ent a) (.ent a)
    | step b a _ h1 h2 ih => exact ih.imp (fun q => .step b a q h1 h2) (fun q => .step b a q h1 h2)
  · have up : ∀ xs : List UInt32, (∀ a ∈ xs, a ∈ es ++ more) → ∀ a, Reach l ts at_ xs a → Reach l ts at_ (es ++ more) a := by
      intro xs hx a h
      induction h with
      | ent a h => exact .ent a (hx a h)
      | step b a _ h1 h2 ih => exact .step b a ih h1 h2
    rintro (h | h)
    · exact up es (fun a q => List.mem_append_left _ q) a h
    · exact up more (fun a q => List.mem_append_right _ q) a h
theorem call_lead {b a : UInt32} (hb : (atP l b).2 = true) (ha : a ∈ callP ts at_ (atP l b).1) : a ∈ leadP ts at_ (atP l b).1 := by
  have he : errP (atP l b).1 = 0 := by
    obtain ⟨_, hn, hd⟩ := at_addr hb
    unfold atP
    rw [if_neg (by rw [hn]; simp)]
    obtain ⟨_, _, _, _, _, h5, _⟩ := dec_canon hd
    exact h5
  unfold callP at ha
  unfold leadP
  split at ha
  · rename_i ho
    refine List.mem_append_left _ ?_
    unfold succP
    rw [if_pos he]
    refine List.mem_append_left _ ?_
    have ht : targetP (atP l b).1 = ((atP l b).1.imm, true) := by unfold targetP; exact if_pos (.inr ho)
    rw [ht, if_pos rfl]
    exact ha
  · split at ha
    · rename_i ho
      rw [if_pos (by unfold indP; rw [decide_eq_true_eq]; exact .inr (.inr ho))]
      exact List.mem_append_right _ ha
    · cases ha
theorem IsCode.merge (h : IsCode l ts at_ es c) (g : IsCode l ts at_ more d) : IsCode l ts at_ (es ++ more) (mergeC c d) := by
  obtain ⟨m1, m2⟩ := addMs_ok (c.ins ++ d.ins)
  have nd := (MInv.all (c.ins ++ d.ins)).nd
  have mem : ∀ x ∈ c.ins ++ d.ins, Reach l ts at_ (es ++ more) x.addr ∧ (atP l x.addr).2 = true ∧ x = (atP l x.addr).1 := fun x hx => by
    rw [reach_both]
    rcases List.mem_append.1 hx with q | q
    · obtain ⟨a1, a2, a3⟩ := h.mem q; exact ⟨.inl a1, a2, a3⟩
    · obtain ⟨a1, a2, a3⟩ := g.mem q; exact ⟨.inr a1, a2, a3⟩
  refine ⟨⟨srtU ((addMs (c.ins ++ d.ins)).map (·.1)), srtU_asc nd, fun a => ?_, ?_⟩, ⟨(joinU_ok _ _).1, fun a => ?_⟩, ⟨(joinU_ok _ _).1, fun a => ?_⟩, ⟨(joinU_ok _ _).1, fun a => ?_⟩⟩
  · rw [mem_srtU, m2]
    constructor
    · rintro ⟨x, hx, rfl⟩
      exact ⟨(mem x hx).1, (mem x hx).2.1⟩
    · rintro ⟨q1, q2⟩
      rcases (reach_both a).1 q1 with q1 | q1
      · obtain ⟨ks, k1, k2, k3⟩ := h.ins
        exact ⟨(atP l a).1, List.mem_append_left _ (by rw [k3]; exact List.mem_map.2 ⟨a, (k2 a).2 ⟨q1, q2⟩, rfl⟩), (at_addr q2).1⟩
      · obtain ⟨ks, k1, k2, k3⟩ := g.ins
        exact ⟨(atP l a).1, List.mem_append_right _ (by rw [k3]; exact List.mem_map.2 ⟨a, (k2 a).2 ⟨q1, q2⟩, rfl⟩), (at_addr q2).1⟩
  · show ofM _ = _
    unfold ofM
    refine List.map_congr_left fun k hk => ?_
    obtain ⟨x, hx⟩ := mem_key (mem_srtU.1 hk)
    obtain ⟨q1, q2⟩ := m1 k x hx
    rw [hx, Option.getD_some, (mem x q1).2.2, q2]
  · show a ∈ joinU _ _ ↔ _
    rw [(joinU_ok _ _).2, h.bad.2, g.bad.2, reach_both]
    exact ⟨fun q => q.elim (fun q => ⟨.inl q.1, q.2⟩) (fun q => ⟨.inr q.1, q.2⟩), fun q => q.1.imp (fun r => ⟨r, q.2⟩) (fun r => ⟨r, q.2⟩)⟩
  · show a ∈ joinU _ _ ↔ _
    rw [(joinU_ok _ _).2, h.ents.2, g.ents.2, reach_both, List.mem_append]
    constructor
    · rintro (⟨⟨q1, q2⟩, q3 | ⟨b, ⟨b1, b2⟩, b3⟩⟩ | ⟨⟨q1, q2⟩, q3 | ⟨b, ⟨b1, b2⟩, b3⟩⟩)
      · exact ⟨⟨.inl q1, q2⟩, .inl (.inl q3)⟩
      · exact ⟨⟨.inl q1, q2⟩, .inr ⟨b, ⟨(reach_both b).2 (.inl b1), b2⟩, b3⟩⟩
      · exact ⟨⟨.inr q1, q2⟩, .inl (.inr q3)⟩
      · exact ⟨⟨.inr q1, q2⟩, .inr ⟨b, ⟨(reach_both b).2 (.inr b1), b2⟩, b3⟩⟩
    · rintro ⟨⟨_, q2⟩, (q3 | q3) | ⟨b, ⟨b1, b2⟩, b3⟩⟩
      · exact .inl ⟨⟨.ent a q3, q2⟩, .inl q3⟩
      · exact .inr ⟨⟨.ent a q3, q2⟩, .inl q3⟩
      · rcases (reach_both b).1 b1 with b1 | b1
        · exact .inl ⟨⟨.step b a b1 b2 (call_lead b2 b3), q2⟩, .inr ⟨b, ⟨b1, b2⟩, b3⟩⟩
        · exact .inr ⟨⟨.step b a b1 b2 (call_lead b2 b3), q2⟩, .inr ⟨b, ⟨b1, b2⟩, b3⟩⟩
  · show a ∈ joinU _ _ ↔ _
    rw [(joinU_ok _ _).2, h.unk.2, g.unk.2, reach_both]
    exact ⟨fun q => q.elim (fun q => ⟨⟨.inl q.1.1, q.1.2⟩, q.2⟩) (fun q => ⟨⟨.inr q.1.1, q.1.2⟩, q.2⟩), fun q => q.1.1.imp (fun r => ⟨⟨r, q.1.2⟩, q.2⟩) (fun r => ⟨⟨r, q.1.2⟩, q.2⟩)⟩
theorem walk_merge {b : CodeP} {e f v : Int} (h : WalkIs l ts at_ es c e) (g : WalkIs l ts at_ more d f) (k : WalkIs l ts at_ (es ++ more) b v) : e = f ∧ e = v ∧ mergeC c d = b := by
  have z : mergeC ⟨[], [], [], []⟩ ⟨[], [], [], []⟩ = ⟨[], [], [], []⟩ := by simp [mergeC, ofM, addMs, joinU, srtU, compactP]
  cases h with
  | arg h1 h2 h3 => cases g with
    | arg g1 g2 g3 => cases k with
      | arg k1 k2 k3 => exact ⟨by rw [h2, g2], by rw [h2, k2], by rw [h3, g3, k3, z]⟩
      | chk k1 => exact absurd k1 h1
      | ok k1 => exact absurd k1 h1
    | chk g1 => exact absurd g1 h1
    | ok g1 => exact absurd g1 h1
  | chk h0 h1 h2 h3 => cases g with
    | arg g1 => exact absurd h0 g1
    | chk g0 g1 g2 g3 => cases k with
      | arg k1 => exact absurd h0 k1
      | chk k0 k1 k2 k3 => exact ⟨by rw [h2, g2], by rw [h2, k2], by rw [h3, g3, k3, z]⟩
      | ok k0 k1 => exact absurd k1 h1
    | ok g0 g1 => exact absurd g1 h1
  | ok h0 h1 h2 h3 => cases g with
    | arg g1 => exact absurd h0 g1
    | chk g0 g1 => exact absurd h1 g1
    | ok g0 g1 g2 g3 => cases k with
      | arg k1 => exact absurd h0 k1
      | chk k0 k1 => exact absurd h1 k1
      | ok k0 k1 k2 k3 => exact ⟨by rw [h2, g2], by rw [h2, k2], (h3.merge g3).eq k3 (fun a => Iff.rfl) (fun a => Iff.rfl)⟩
theorem IsCode.lens (hT : TabB ts) (h : IsCode l ts at_ es c) : c.ins.length ≤ totD l ∧ c.ents.length ≤ totD l ∧ c.unk.length ≤ totD l ∧ c.bad.length ≤ es.length + totD l * 14 := by
  have key : ∀ xs : List UInt32, xs.Pairwise (· < ·) → (∀ a ∈ xs, (atP l a).2 = true) → xs.length ≤ totD l := fun xs h1 h2 => by
    rw [← spot_len]; exact nodup_len (lt_nodup h1) (fun a ha => at_spot (h2 a ha))
  refine ⟨?_, key _ h.ents.1 (fun a ha => ((h.ents.2 a).1 ha).1.2), key _ h.unk.1 (fun a ha => ((h.unk.2 a).1 ha).1.2), ?_⟩
  · obtain ⟨ks, k1, k2, k3⟩ := h.ins
    rw [k3, List.length_map]; exact key ks k1 (fun a ha => ((k2 a).1 ha).2)
  · have hsub : ∀ a ∈ c.bad, a ∈ es ++ (spotL l).flatMap (fun b => leadP ts at_ (atP l b).1) := fun a ha => by
      cases ((h.bad.2 a).1 ha).1 with
      | ent a q => exact List.mem_append_left _ q
      | step b a q1 q2 q3 => exact List.mem_append_right _ (List.mem_flatMap.2 ⟨b, at_spot q2, q3⟩)
    have h1 := nodup_len (lt_nodup h.bad.1) hsub
    rw [List.length_append] at h1
    have h2 : ∀ xs : List UInt32, (xs.flatMap (fun b => leadP ts at_ (atP l b).1)).length ≤ xs.length * 14 := by
      intro xs
      induction xs with
      | nil => simp
      | cons x xs ih =>
        rw [List.flatMap_cons, List.length_append, List.length_cons]
        have := lead_len hT at_ (atP l x).1
        omega
    have h3 := h2 (spotL l)
    rw [spot_len] at h3
    omega
theorem WalkIs.lens {e : Int} (hT : TabB ts) (h : WalkIs l ts at_ es c e) : c.ins.length ≤ totD l ∧ c.ents.length ≤ totD l ∧ c.unk.length ≤ totD l ∧ c.bad.length ≤ es.length + totD l * 14 := by
  cases h with
  | arg h1 h2 h3 => subst h3; simp
  | chk h0 h1 h2 h3 => subst h3; simp
  | ok h0 h1 h2 h3 => exact h3.lens hT
/-- What is found from some entries is found from more. -/
theorem WalkIs.moreOf {b : CodeP} {e v : Int} (h : WalkIs l ts at_ es c e) (k : WalkIs l ts at_ (es ++ more) b v) {i : Ins} (hi : i ∈ c.ins) : reachedP b.ins i.addr = true := by
  cases h with
  | arg h1 h2 h3 => subst h3; cases hi
  | chk h0 h1 h2 h3 => subst h3; cases hi
  | ok h0 h1 h2 h3 => cases k with
    | arg k1 => exact absurd h0 k1
    | chk k0 k1 => exact absurd h1 k1
    | ok k0 k1 k2 k3 =>
      obtain ⟨q1, q2, _⟩ := h3.mem hi
      exact (k3.reached _).2 ⟨(reach_both _).2 (.inl q1), q2⟩
end
end Go.HL
namespace Go.Proofs.Ytnmaokalpbnmaaa
open Go Go.HL Go.RowKit
set_option maxRecDepth 100000 in
set_option maxHeartbeats 16000000 in
theorem more12_true (l : List SecV) (es : List UInt32) (ts : List TabV) (at_ : List UInt32) (V VE VT VP : Value) (more : List UInt32) (VM : Value) (w : World) (hV : Sl (hp w) encSec l V) (hE : Sl (hp w) encU32 es VE) (hT : Sl (hp w) encTab ts VT) (hP : Sl (hp w) encU32 at_ VP) (hM : Sl (hp w) encU32 more VM) (hD : DataIn (hp w) l) (hTI : TabIn (hp w) ts) (hN : ∀ s ∈ l, s.name.size ≤ 140737488351232) :
  Calls Try.prog 8 #[.agg #[V, VE, VT, VP], VM] w (fun e w' => e = .returned (.bool true) ∧ Below w.heap.size w w') := by
 have hV0 : Sl (Bg.of0 w).blk encSec l V := hV
 have hD0 : DataIn (Bg.of0 w).blk l := hD
 have hE0 : Sl (Bg.of0 w).blk encU32 es VE := hE
 have hT0 : Sl (Bg.of0 w).blk encTab ts VT := hT
 have hTI0 : TabIn (Bg.of0 w).blk ts := hTI
 have hP0 : Sl (Bg.of0 w).blk encU32 at_ VP := hP
 obtain ⟨sa1, sc1, hv1, _⟩ := hV.shape
 subst hv1
 obtain ⟨sa2, sc2, hv2, _⟩ := hE.shape
 subst hv2
 obtain ⟨sa3, sc3, hv3, _⟩ := hT.shape
 subst hv3
 obtain ⟨sa4, sc4, hv4, _⟩ := hP.shape
 subst hv4
 obtain ⟨sa5, sc5, hv5, _⟩ := hM.shape
 subst hv5
 have hM0 : Sl (Bg.of0 w).blk encU32 more (.slice sa5 more.length sc5) := hM
 refine enter0 Try.func8 rfl Try.ntmps8 rfl ?_
 refine Tr.seq (Tr.region ?_)
 refine Tr.box rfl rfl rfl (fun b1 => ?_)
 refine Tr.q (QS.assign rfl) rfl ?_
 refine Tr.nil (Tr.thenN (Tr.seq (Tr.seq (Tr.region ?_))))
 refine Tr.q (QS.lW rfl Try.isAgg26 Try.sizeOf26) rfl ?_
 refine Tr.q (QS.call rfl Try.call10 (fun w hw => few12_any l es ts at_ _ _ _ _ w (hw.slF hV0) (hw.slF hE0) (hw.slF hT0) (hw.slF hP0))) rfl ?_
 refine Tr.q (QS.not rfl) rfl ?_
 refine Tr.q (QS.move rfl) rfl ?_
 apply Tr.orP
 ·exact (rfl : _ = (4, 15, 19))
 ·exact rfl
 ·intro hF2; have hF2' := hF2
  try simp only [bs] at hF2'
  refine Tr.gq rfl rfl hF2 (QS.move rfl) rfl ?_
  refine Tr.gq rfl rfl hF2 (QS.len rfl (by assumption) Try.underlying23) rfl ?_
  refine Tr.gq rfl rfl hF2 (QS.gtr rfl rfl) rfl ?_
  refine Tr.q (QS.pickF rfl hF2 rfl) rfl ?_
  refine Tr.nil (Tr.thenN ?_)
  exact Tr.endX (Sub.cons rfl (Sub.dropN 4 (by kernel_rfl) rfl))
 ·intro hT2
  refine Tr.gskip rfl rfl hT2 rfl ?_
  refine Tr.gskip rfl rfl hT2 rfl ?_
  refine Tr.gskip rfl rfl hT2 rfl ?_
  refine Tr.q (QS.pickT rfl hT2 rfl) rfl ?_
  refine Tr.nil (Tr.thenN ?_)
  exact Tr.endX (Sub.cons rfl (Sub.dropN 4 (by kernel_rfl) rfl))
 refine Tr.nil (Tr.thenN ?_)
 refine Tr.cond rfl (fun h3 => ?_) (fun h3 => ?_)
 ·try simp only [bs] at h3
  refine Tr.seq (Tr.region ?_)
  refine Tr.q (QS.call0 rfl rfl Try.call11 (fun w hw => example12_any w)) rfl ?_
  refine Tr.q (QS.assign rfl) rfl ?_
  refine Tr.nil (Tr.thenN (Tr.ret (Tr.thenR ?_)))
  refine Tr.ret1 Try.results8 rfl (fun w' hw => ?_)
  exact ⟨rfl, hw.below0 (Bg.le.refl _)⟩
 ·try simp only [bs] at h3
  refine Tr.skip (Tr.thenN (Tr.seq ?_))
  have hfw := few_of (by first | assumption | exact (by assumption : _ ∧ _).1)
  have hml : more.length ≤ 12 := by simp_all; omega
  refine Tr.region ?_
  refine Tr.q (QS.lW rfl Try.isAgg26 Try.sizeOf26) rfl ?_
  refine Tr.callEnts0 (fun i : ((Value × Value × Value × Value) × CodeP × Int) => .tuple #[.agg #[i.1.1, i.1.2.1, i.1.2.2.1, i.1.2.2.2], .int .i64 i.2.2]) (fun i : ((Value × Value × Value × Value) × CodeP × Int) => [rowE i.1.1 41 encIns i.2.1.ins, rowE i.1.2.1 39 encU32 i.2.1.ents, rowE i.1.2.2.1 39 encU32 i.2.1.unk, rowE i.1.2.2.2 39 encU32 i.2.1.bad]) (ok := fun i => WalkIs l ts at_ es i.2.1 i.2.2) (rfl) rfl Try.call12 (fun w hw => lwalk_any l ts at_ es _ _ _ _ w (hw.slF hV0) hfw.secB (hD0.mono hw.bg) hN (hw.slF hE0) (hw.slF hT0) (hTI0.mono hw.bg) hfw.tab (hw.slF hP0) hfw.tot (by have := hfw.es; omega)) rfl (fun i hi => ?_)
  obtain ⟨⟨Vi, Ve, Vu, Vb⟩, c, e0⟩ := i
  replace hi : WalkIs l ts at_ es c e0 := hi
  change Tr _ _ ([rowE Vi 41 encIns c.ins, rowE Ve 39 encU32 c.ents, rowE Vu 39 encU32 c.unk, rowE Vb 39 encU32 c.bad] ++ _) _ _
  refine Tr.rowShape (V := Vi) (by repeat constructor) (fun pVi cVi hpv => ?_)
  subst hpv
  refine Tr.rowShape (V := Ve) (by repeat constructor) (fun pVe cVe hpv => ?_)
  subst hpv
  refine Tr.rowShape (V := Vu) (by repeat constructor) (fun pVu cVu hpv => ?_)
  subst hpv
  refine Tr.rowShape (V := Vb) (by repeat constructor) (fun pVb cVb hpv => ?_)
  subst hpv
  refine Tr.q (QS.move rfl) rfl ?_
  refine Tr.q (QS.extract rfl rfl) rfl ?_
  refine Tr.q (QS.extract rfl rfl) rfl ?_
  refine Tr.alloc Try.zeroValue31 rfl rfl (fun b4 => ?_)
  refine Tr.storeW rfl rfl Try.sizeOf31 (by repeat constructor) (by rfl) (by rfl) (by first | exact List.all_eq_true.1 rfl | exact Enc.one _ _ | (intro u hu; simp [Value.cells] at hu; simp_all [Value.oneCell'])) rfl ?_
  refine Tr.q (QS.assign rfl) rfl ?_
  refine Tr.nil (Tr.thenN (Tr.seq ?_))
  refine Tr.frozen (V := .slice pVi c.ins.length cVi) (by repeat constructor) (fun F1 hF1 hcI0 => ?_)
  refine Tr.frozen (V := .slice pVe c.ents.length cVe) (by repeat constructor) (fun F2 hF2 hcE0 => ?_)
  refine Tr.frozen (V := .slice pVu c.unk.length cVu) (by repeat constructor) (fun F3 hF3 hcU0 => ?_)
  refine Tr.frozen (V := .slice pVb c.bad.length cVb) (by repeat constructor) (fun F4 hF4 hcB => ?_)
  have hcI := hcI0.mono (hF2.trans (hF3.trans hF4)).blk
  have hcE := hcE0.mono (hF3.trans hF4).blk
  have hcU := hcU0.mono hF4.blk
  have hF04 := hF1.trans (hF2.trans (hF3.trans hF4))
  have hdr4 : F4.dr = 0 := hF04.dr
  have hV4 := hV0.mono hF04.blk
  have hD4 := hD0.mono hF04.blk
  have hE4 := hE0.mono hF04.blk
  have hT4 := hT0.mono hF04.blk
  have hTI4 := hTI0.mono hF04.blk
  have hP4 := hP0.mono hF04.blk
  have hM4 := hM0.mono hF04.blk
  have hwk := hi
  refine Tr.region ?_
  refine Tr.q (QS.fieldAddr (off := 0) (ft := 22) rfl Try.underlying26 rfl rfl Try.sizeOf22 (by decide)) rfl ?_
  refine Tr.q (QS.lV rfl Try.isAgg22) rfl ?_
  refine Tr.q (QS.move rfl) rfl ?_
  refine Tr.q (QS.fieldAddr (off := 2) (ft := 24) rfl Try.underlying26 rfl rfl Try.sizeOf24 (by decide)) rfl ?_
  refine Tr.q (QS.lV rfl Try.isAgg24) rfl ?_
  refine Tr.q (QS.fieldAddr (off := 3) (ft := 23) rfl Try.underlying26 rfl rfl Try.sizeOf23 (by decide)) rfl ?_
  refine Tr.q (QS.lV rfl Try.isAgg23) rfl ?_
  refine Tr.callEnts0 (fun i : ((Value × Value × Value × Value) × CodeP × Int) => .tuple #[.agg #[i.1.1, i.1.2.1, i.1.2.2.1, i.1.2.2.2], .int .i64 i.2.2]) (fun i : ((Value × Value × Value × Value) × CodeP × Int) => [rowE i.1.1 41 encIns i.2.1.ins, rowE i.1.2.1 39 encU32 i.2.1.ents, rowE i.1.2.2.1 39 encU32 i.2.1.unk, rowE i.1.2.2.2 39 encU32 i.2.1.bad]) (ok := fun i => WalkIs l ts at_ more i.2.1 i.2.2) (hdr4) rfl Try.call22 (fun w hw => walk_any l ts at_ more _ _ _ _ w (hw.slF hV4) hfw.secB (hD4.mono hw.bg) hN (hw.slF hM4) (hw.slF hT4) (hTI4.mono hw.bg) hfw.tab (hw.slF hP4) hfw.tot (by have := hfw.es; omega)) rfl (fun i2 hi2 => ?_)
  obtain ⟨⟨Yi, Ye, Yu, Yb⟩, d, f0⟩ := i2
  replace hi2 : WalkIs l ts at_ more d f0 := hi2
  change Tr _ _ ([rowE Yi 41 encIns d.ins, rowE Ye 39 encU32 d.ents, rowE Yu 39 encU32 d.unk, rowE Yb 39 encU32 d.bad] ++ _) _ _
  refine Tr.rowShape (V := Yi) (by repeat constructor) (fun pYi cYi hpv => ?_)
  subst hpv
  refine Tr.rowShape (V := Ye) (by repeat constructor) (fun pYe cYe hpv => ?_)
  subst hpv
  refine Tr.rowShape (V := Yu) (by repeat constructor) (fun pYu cYu hpv => ?_)
  subst hpv
  refine Tr.rowShape (V := Yb) (by repeat constructor) (fun pYb cYb hpv => ?_)
  subst hpv
  refine Tr.q (QS.move rfl) rfl ?_
  refine Tr.q (QS.extract rfl rfl) rfl ?_
  refine Tr.q (QS.extract rfl rfl) rfl ?_
  refine Tr.alloc Try.zeroValue31 rfl rfl (fun b5 => ?_)
  refine Tr.storeW rfl rfl Try.sizeOf31 (by repeat constructor) (by rfl) (by rfl) (by first | exact List.all_eq_true.1 rfl | exact Enc.one _ _ | (intro u hu; simp [Value.cells] at hu; simp_all [Value.oneCell'])) rfl ?_
  refine Tr.q (QS.assign rfl) rfl ?_
  refine Tr.nil (Tr.thenN ?_)
  refine Tr.frozen (V := .slice pYi d.ins.length cYi) (by repeat constructor) (fun F5 hF5 hdI0 => ?_)
  refine Tr.frozen (V := .slice pYe d.ents.length cYe) (by repeat constructor) (fun F6 hF6 hdE0 => ?_)
  refine Tr.frozen (V := .slice pYu d.unk.length cYu) (by repeat constructor) (fun F7 hF7 hdU0 => ?_)
  refine Tr.frozen (V := .slice pYb d.bad.length cYb) (by repeat constructor) (fun F8 hF8 hdB => ?_)
  have hdI := hdI0.mono (hF6.trans (hF7.trans hF8)).blk
  have hdE := hdE0.mono (hF7.trans hF8).blk
  have hdU := hdU0.mono hF8.blk
  have hG8 := hF5.trans (hF6.trans (hF7.trans hF8))
  have hV8 := hV4.mono hG8.blk
  have hD8 := hD4.mono hG8.blk
  have hE8 := hE4.mono hG8.blk
  have hT8 := hT4.mono hG8.blk
  have hTI8 := hTI4.mono hG8.blk
  have hP8 := hP4.mono hG8.blk
  have hM8 := hM4.mono hG8.blk
  have hcI8 := hcI.mono hG8.blk
  have hcE8 := hcE.mono hG8.blk
  have hcU8 := hcU.mono hG8.blk
  have hcB8 := hcB.mono hG8.blk
  have hdr8 : F8.dr = 0 := hG8.dr.trans hdr4
  have hwk2 := hi2
  have hes := hfw.es
  have htot := hfw.tot
  have hl1 := hwk.lens hfw.tab
  have hl2 := hwk2.lens hfw.tab
  refine Tr.seqJ (ι := (Value × Value × Value × Value) × Nat × CodeP × Int) (fun ⟨⟨Xi, Xe, Xu, Xb⟩, bc, b, g0⟩ => WalkIs l ts at_ (es ++ more) b g0) (fun _ => F8) (fun ⟨⟨Xi, Xe, Xu, Xb⟩, bc, b, g0⟩ => [rowE Xi 41 encIns b.ins, rowE Xe 39 encU32 b.ents, rowE Xu 39 encU32 b.unk, rowE Xb 39 encU32 b.bad, cellE bc [Xi, Xe, Xu, Xb] 31, cellE b5 [.slice pYi d.ins.length cYi, .slice pYe d.ents.length cYe, .slice pYu d.unk.length cYu, .slice pYb d.bad.length cYb] 31, cellE b4 [.slice pVi c.ins.length cVi, .slice pVe c.ents.length cVe, .slice pVu c.unk.length cVu, .slice pVb c.bad.length cVb] 31, cellE b1 [.slice sa1 l.length sc1, .slice sa2 es.length sc2, .slice sa3 ts.length sc3, .slice sa4 at_.length sc4] 26]) (fun ⟨⟨Xi, Xe, Xu, Xb⟩, bc, b, g0⟩ => [(9, .pointer (some ⟨bc, 0, none⟩)), (10, .int .i64 g0)]) ?_ (fun i hi => ?_)
  ·skip
   refine Tr.regionH ([cellE b5 [.slice pYi d.ins.length cYi, .slice pYe d.ents.length cYe, .slice pYu d.unk.length cYu, .slice pYb d.bad.length cYb] 31, cellE b4 [.slice pVi c.ins.length cVi, .slice pVe c.ents.length cVe, .slice pVu c.unk.length cVu, .slice pVb c.bad.length cVb] 31, cellE b1 [.slice sa1 l.length sc1, .slice sa2 es.length sc2, .slice sa3 ts.length sc3, .slice sa4 at_.length sc4] 26]) 19 rfl HLF.mixed ?_
   refine Tr.hT 0 rfl (by kernel_rfl) (panicThen panicBody) (QS.fieldAddr (off := 0) (ft := 22) rfl Try.underlying26 rfl rfl Try.sizeOf22 (by decide)) ?_
   refine Tr.hT 1 rfl (by kernel_rfl) (panicThen panicBody) (QS.lV rfl Try.isAgg22) ?_
   refine Tr.hT 3 rfl (by kernel_rfl) (panicThen panicBody) (QS.fieldAddr (off := 1) (ft := 23) rfl Try.underlying26 rfl rfl Try.sizeOf23 (by decide)) ?_
   refine Tr.hT 4 rfl (by kernel_rfl) (panicThen panicBody) (QS.lV rfl Try.isAgg23) ?_
   refine Tr.hT 6 rfl (by kernel_rfl) (panicThen panicBody) (QS.move rfl) ?_
   refine Tr.hT 8 rfl (by kernel_rfl) (panicThen panicBody) (QS.fieldAddr (off := 2) (ft := 24) rfl Try.underlying26 rfl rfl Try.sizeOf24 (by decide)) ?_
   refine Tr.hT 9 rfl (by kernel_rfl) (panicThen panicBody) (QS.lV rfl Try.isAgg24) ?_
   refine Tr.hT 10 rfl (by kernel_rfl) (panicThen panicBody) (QS.fieldAddr (off := 3) (ft := 23) rfl Try.underlying26 rfl rfl Try.sizeOf23 (by decide)) ?_
   refine Tr.hT 11 rfl (by kernel_rfl) (panicThen panicBody) (QS.lV rfl Try.isAgg23) ?_
   refine Tr.hAll [2, 16] (by kernel_rfl) (by simp) (fun iq hq => ?_)
   rcases List.mem_cons.1 hq with rfl | hq
   ·skip
    refine Tr.hOp rfl ?_
    refine Tr.lit0 encU32 Try.underlying23 Try.sizeOf39 rfl (fun V6 => ?_)
    refine Tr.hN ?_
    refine Tr.hAll [5, 16] (by kernel_rfl) (by simp) (fun iq hq => ?_)
    rcases List.mem_cons.1 hq with rfl | hq
    ·skip
     refine Tr.hOp rfl ?_
     refine Tr.appendOf rfl rfl (by repeat constructor) (fun w hw => hw.slF (by assumption)) Try.underlying23 HLF.info39 (by rfl) (by rfl) (by (try simp only [List.length_cons, List.length_nil, List.length_append, List.length_take]); omega) (by unfold maxLen; (try simp only [List.length_cons, List.length_nil, List.length_append, List.length_take]); omega) rfl (fun V7 => ?_)
     refine Tr.hN ?_
     refine Tr.hAll [7, 16] (by kernel_rfl) (by simp) (fun iq hq => ?_)
     rcases List.mem_cons.1 hq with rfl | hq
     ·skip
      refine Tr.hOp rfl ?_
      refine Tr.appendOf rfl rfl (by repeat constructor) (fun w hw => hw.slF (by assumption)) Try.underlying23 HLF.info39 (by rfl) (by rfl) (by (try simp only [List.length_cons, List.length_nil, List.length_append, List.length_take]); omega) (by unfold maxLen; (try simp only [List.length_cons, List.length_nil, List.length_append, List.length_take]); omega) rfl (fun V8 => ?_)
      refine Tr.rowEq (l' := es ++ more) (by simp) ?_
      refine Tr.hN ?_
      refine Tr.hAll [12, 16] (by kernel_rfl) (by simp) (fun iq hq => ?_)
      rcases List.mem_cons.1 hq with rfl | hq
      ·skip
       refine Tr.hOp rfl ?_
       refine Tr.callEnts0 (fun i : ((Value × Value × Value × Value) × CodeP × Int) => .tuple #[.agg #[i.1.1, i.1.2.1, i.1.2.2.1, i.1.2.2.2], .int .i64 i.2.2]) (fun i : ((Value × Value × Value × Value) × CodeP × Int) => [rowE i.1.1 41 encIns i.2.1.ins, rowE i.1.2.1 39 encU32 i.2.1.ents, rowE i.1.2.2.1 39 encU32 i.2.1.unk, rowE i.1.2.2.2 39 encU32 i.2.1.bad]) (ok := fun i => WalkIs l ts at_ (es ++ more) i.2.1 i.2.2) (hdr8) rfl Try.call22 (fun w hw => walk_any l ts at_ (es ++ more) _ _ _ _ w (hw.slF hV8) hfw.secB (hD8.mono hw.bg) hN (hw.row (by repeat constructor)) (hw.slF hT8) (hTI8.mono hw.bg) hfw.tab (hw.slF hP8) hfw.tot (by have := hfw.es; simp only [List.length_append]; omega)) rfl (fun i3 hi3 => ?_)
       obtain ⟨⟨Xi, Xe, Xu, Xb⟩, b, g0⟩ := i3
       replace hi3 : WalkIs l ts at_ (es ++ more) b g0 := hi3
       change Tr _ _ ([rowE Xi 41 encIns b.ins, rowE Xe 39 encU32 b.ents, rowE Xu 39 encU32 b.unk, rowE Xb 39 encU32 b.bad] ++ _) _ _
       refine Tr.rowShape (V := Xi) (by repeat constructor) (fun pXi cXi hpv => ?_)
       subst hpv
       refine Tr.rowShape (V := Xe) (by repeat constructor) (fun pXe cXe hpv => ?_)
       subst hpv
       refine Tr.rowShape (V := Xu) (by repeat constructor) (fun pXu cXu hpv => ?_)
       subst hpv
       refine Tr.rowShape (V := Xb) (by repeat constructor) (fun pXb cXb hpv => ?_)
       subst hpv
       refine Tr.hN ?_
       refine Tr.hT 13 rfl (by kernel_rfl) (panicThen panicBody) (QS.move rfl) ?_
       refine Tr.hT 14 rfl (by kernel_rfl) (panicThen panicBody) (QS.extract rfl rfl) ?_
       refine Tr.hT 15 rfl (by kernel_rfl) (panicThen panicBody) (QS.extract rfl rfl) ?_
       refine Tr.hAll [16] (by kernel_rfl) (by simp) (fun iq hq => ?_)
       obtain rfl := List.mem_singleton.1 hq
       refine Tr.hOp rfl ?_
       refine Tr.alloc Try.zeroValue31 rfl rfl (fun b9 => ?_)
       refine Tr.hN ?_
       refine Tr.hAll [17] (by kernel_rfl) (by simp) (fun iq hq => ?_)
       obtain rfl := List.mem_singleton.1 hq
       refine Tr.hOp rfl ?_
       refine Tr.storeW rfl rfl Try.sizeOf31 (by repeat constructor) (by rfl) (by rfl) (by first | exact List.all_eq_true.1 rfl | exact Enc.one _ _ | (intro u hu; simp [Value.cells] at hu; simp_all [Value.oneCell'])) rfl ?_
       refine Tr.hN ?_
       refine Tr.hT 18 rfl (by kernel_rfl) (panicThen panicBody) (QS.assign rfl) ?_
       refine Tr.hDone (by kernel_rfl) ?_
       refine Tr.thenN ?_
       apply Tr.joined ((_, _, _, _), _, b, g0)
       ·exact rfl
       ·exact (.cons (by first | rfl | exact lookI rfl (by omega) | exact lookI rfl (by simp) | exact lookB rfl (by simp)) (.cons (by first | rfl | exact lookI rfl (by omega) | exact lookI rfl (by simp) | exact lookB rfl (by simp)) Front.nil))
       ·exact SubX.dropN 18 (by kernel_rfl) rfl
       ·exact (by repeat' constructor)
       ·exact hi3
      obtain rfl := List.mem_singleton.1 hq
      refine Tr.hOp rfl ?_
      refine Tr.alloc Try.zeroValue31 rfl rfl (fun b10 => ?_)
      refine Tr.hN ?_
      refine Tr.hAll [12] (by kernel_rfl) (by simp) (fun iq hq => ?_)
      obtain rfl := List.mem_singleton.1 hq
      refine Tr.hOp rfl ?_
      refine Tr.callEnts0 (fun i : ((Value × Value × Value × Value) × CodeP × Int) => .tuple #[.agg #[i.1.1, i.1.2.1, i.1.2.2.1, i.1.2.2.2], .int .i64 i.2.2]) (fun i : ((Value × Value × Value × Value) × CodeP × Int) => [rowE i.1.1 41 encIns i.2.1.ins, rowE i.1.2.1 39 encU32 i.2.1.ents, rowE i.1.2.2.1 39 encU32 i.2.1.unk, rowE i.1.2.2.2 39 encU32 i.2.1.bad]) (ok := fun i => WalkIs l ts at_ (es ++ more) i.2.1 i.2.2) (hdr8) rfl Try.call22 (fun w hw => walk_any l ts at_ (es ++ more) _ _ _ _ w (hw.slF hV8) hfw.secB (hD8.mono hw.bg) hN (hw.row (by repeat constructor)) (hw.slF hT8) (hTI8.mono hw.bg) hfw.tab (hw.slF hP8) hfw.tot (by have := hfw.es; simp only [List.length_append]; omega)) rfl (fun i3 hi3 => ?_)
      obtain ⟨⟨Xi, Xe, Xu, Xb⟩, b, g0⟩ := i3
      replace hi3 : WalkIs l ts at_ (es ++ more) b g0 := hi3
      change Tr _ _ ([rowE Xi 41 encIns b.ins, rowE Xe 39 encU32 b.ents, rowE Xu 39 encU32 b.unk, rowE Xb 39 encU32 b.bad] ++ _) _ _
      refine Tr.rowShape (V := Xi) (by repeat constructor) (fun pXi cXi hpv => ?_)
      subst hpv
      refine Tr.rowShape (V := Xe) (by repeat constructor) (fun pXe cXe hpv => ?_)
      subst hpv
      refine Tr.rowShape (V := Xu) (by repeat constructor) (fun pXu cXu hpv => ?_)
      subst hpv
      refine Tr.rowShape (V := Xb) (by repeat constructor) (fun pXb cXb hpv => ?_)
      subst hpv
      refine Tr.hN ?_
      refine Tr.hT 13 rfl (by kernel_rfl) (panicThen panicBody) (QS.move rfl) ?_
      refine Tr.hT 14 rfl (by kernel_rfl) (panicThen panicBody) (QS.extract rfl rfl) ?_
      refine Tr.hT 15 rfl (by kernel_rfl) (panicThen panicBody) (QS.extract rfl rfl) ?_
      refine Tr.hAll [17] (by kernel_rfl) (by simp) (fun iq hq => ?_)
      obtain rfl := List.mem_singleton.1 hq
      refine Tr.hOp rfl ?_
      refine Tr.storeW rfl rfl Try.sizeOf31 (by repeat constructor) (by rfl) (by rfl) (by first | exact List.all_eq_true.1 rfl | exact Enc.one _ _ | (intro u hu; simp [Value.cells] at hu; simp_all [Value.oneCell'])) rfl ?_
      refine Tr.hN ?_
      refine Tr.hT 18 rfl (by kernel_rfl) (panicThen panicBody) (QS.assign rfl) ?_
      refine Tr.hDone (by kernel_rfl) ?_
      refine Tr.thenN ?_
      apply Tr.joined ((_, _, _, _), _, b, g0)
      ·exact rfl
      ·exact (.cons (by first | rfl | exact lookI rfl (by omega) | exact lookI rfl (by simp) | exact lookB rfl (by simp)) (.cons (by first | rfl | exact lookI rfl (by omega) | exact lookI rfl (by simp) | exact lookB rfl (by simp)) Front.nil))
      ·exact SubX.dropN 18 (by kernel_rfl) rfl
      ·exact (by repeat' constructor)
      ·exact hi3
     obtain rfl := List.mem_singleton.1 hq
     refine Tr.hOp rfl ?_
     refine Tr.alloc Try.zeroValue31 rfl rfl (fun b11 => ?_)
     refine Tr.hN ?_
     refine Tr.hAll [7] (by kernel_rfl) (by simp) (fun iq hq => ?_)
     obtain rfl := List.mem_singleton.1 hq
     refine Tr.hOp rfl ?_
     refine Tr.appendOf rfl rfl (by repeat constructor) (fun w hw => hw.slF (by assumption)) Try.underlying23 HLF.info39 (by rfl) (by rfl) (by (try simp only [List.length_cons, List.length_nil, List.length_append, List.length_take]); omega) (by unfold maxLen; (try simp only [List.length_cons, List.length_nil, List.length_append, List.length_take]); omega) rfl (fun V12 => ?_)
     refine Tr.rowEq (l' := es ++ more) (by simp) ?_
     refine Tr.hN ?_
     refine Tr.hAll [12] (by kernel_rfl) (by simp) (fun iq hq => ?_)
     obtain rfl := List.mem_singleton.1 hq
     refine Tr.hOp rfl ?_
     refine Tr.callEnts0 (fun i : ((Value × Value × Value × Value) × CodeP × Int) => .tuple #[.agg #[i.1.1, i.1.2.1, i.1.2.2.1, i.1.2.2.2], .int .i64 i.2.2]) (fun i : ((Value × Value × Value × Value) × CodeP × Int) => [rowE i.1.1 41 encIns i.2.1.ins, rowE i.1.2.1 39 encU32 i.2.1.ents, rowE i.1.2.2.1 39 encU32 i.2.1.unk, rowE i.1.2.2.2 39 encU32 i.2.1.bad]) (ok := fun i => WalkIs l ts at_ (es ++ more) i.2.1 i.2.2) (hdr8) rfl Try.call22 (fun w hw => walk_any l ts at_ (es ++ more) _ _ _ _ w (hw.slF hV8) hfw.secB (hD8.mono hw.bg) hN (hw.row (by repeat constructor)) (hw.slF hT8) (hTI8.mono hw.bg) hfw.tab (hw.slF hP8) hfw.tot (by have := hfw.es; simp only [List.length_append]; omega)) rfl (fun i3 hi3 => ?_)
     obtain ⟨⟨Xi, Xe, Xu, Xb⟩, b, g0⟩ := i3
     replace hi3 : WalkIs l ts at_ (es ++ more) b g0 := hi3
     change Tr _ _ ([rowE Xi 41 encIns b.ins, rowE Xe 39 encU32 b.ents, rowE Xu 39 encU32 b.unk, rowE Xb 39 encU32 b.bad] ++ _) _ _
     refine Tr.rowShape (V := Xi) (by repeat constructor) (fun pXi cXi hpv => ?_)
     subst hpv
     refine Tr.rowShape (V := Xe) (by repeat constructor) (fun pXe cXe hpv => ?_)
     subst hpv
     refine Tr.rowShape (V := Xu) (by repeat constructor) (fun pXu cXu hpv => ?_)
     subst hpv
     refine Tr.rowShape (V := Xb) (by repeat constructor) (fun pXb cXb hpv => ?_)
     subst hpv
     refine Tr.hN ?_
     refine Tr.hT 13 rfl (by kernel_rfl) (panicThen panicBody) (QS.move rfl) ?_
     refine Tr.hT 14 rfl (by kernel_rfl) (panicThen panicBody) (QS.extract rfl rfl) ?_
     refine Tr.hT 15 rfl (by kernel_rfl) (panicThen panicBody) (QS.extract rfl rfl) ?_
     refine Tr.hAll [17] (by kernel_rfl) (by simp) (fun iq hq => ?_)
     obtain rfl := List.mem_singleton.1 hq
     refine Tr.hOp rfl ?_
     refine Tr.storeW rfl rfl Try.sizeOf31 (by repeat constructor) (by rfl) (by rfl) (by first | exact List.all_eq_true.1 rfl | exact Enc.one _ _ | (intro u hu; simp [Value.cells] at hu; simp_all [Value.oneCell'])) rfl ?_
     refine Tr.hN ?_
     refine Tr.hT 18 rfl (by kernel_rfl) (panicThen panicBody) (QS.assign rfl) ?_
     refine Tr.hDone (by kernel_rfl) ?_
     refine Tr.thenN ?_
     apply Tr.joined ((_, _, _, _), _, b, g0)
     ·exact rfl
     ·exact (.cons (by first | rfl | exact lookI rfl (by omega) | exact lookI rfl (by simp) | exact lookB rfl (by simp)) (.cons (by first | rfl | exact lookI rfl (by omega) | exact lookI rfl (by simp) | exact lookB rfl (by simp)) Front.nil))
     ·exact SubX.dropN 18 (by kernel_rfl) rfl
     ·exact (by repeat' constructor)
     ·exact hi3
    obtain rfl := List.mem_singleton.1 hq
    refine Tr.hOp rfl ?_
    refine Tr.alloc Try.zeroValue31 rfl rfl (fun b13 => ?_)
    refine Tr.hN ?_
    refine Tr.hAll [5] (by kernel_rfl) (by simp) (fun iq hq => ?_)
    obtain rfl := List.mem_singleton.1 hq
    refine Tr.hOp rfl ?_
    refine Tr.appendOf rfl rfl (by repeat constructor) (fun w hw => hw.slF (by assumption)) Try.underlying23 HLF.info39 (by rfl) (by rfl) (by (try simp only [List.length_cons, List.length_nil, List.length_append, List.length_take]); omega) (by unfold maxLen; (try simp only [List.length_cons, List.length_nil, List.length_append, List.length_take]); omega) rfl (fun V14 => ?_)
    refine Tr.hN ?_
    refine Tr.hAll [7] (by kernel_rfl) (by simp) (fun iq hq => ?_)
    obtain rfl := List.mem_singleton.1 hq
    refine Tr.hOp rfl ?_
    refine Tr.appendOf rfl rfl (by repeat constructor) (fun w hw => hw.slF (by assumption)) Try.underlying23 HLF.info39 (by rfl) (by rfl) (by (try simp only [List.length_cons, List.length_nil, List.length_append, List.length_take]); omega) (by unfold maxLen; (try simp only [List.length_cons, List.length_nil, List.length_append, List.length_take]); omega) rfl (fun V15 => ?_)
    refine Tr.rowEq (l' := es ++ more) (by simp) ?_
    refine Tr.hN ?_
    refine Tr.hAll [12] (by kernel_rfl) (by simp) (fun iq hq => ?_)
    obtain rfl := List.mem_singleton.1 hq
    refine Tr.hOp rfl ?_
    refine Tr.callEnts0 (fun i : ((Value × Value × Value × Value) × CodeP × Int) => .tuple #[.agg #[i.1.1, i.1.2.1, i.1.2.2.1, i.1.2.2.2], .int .i64 i.2.2]) (fun i : ((Value × Value × Value × Value) × CodeP × Int) => [rowE i.1.1 41 encIns i.2.1.ins, rowE i.1.2.1 39 encU32 i.2.1.ents, rowE i.1.2.2.1 39 encU32 i.2.1.unk, rowE i.1.2.2.2 39 encU32 i.2.1.bad]) (ok := fun i => WalkIs l ts at_ (es ++ more) i.2.1 i.2.2) (hdr8) rfl Try.call22 (fun w hw => walk_any l ts at_ (es ++ more) _ _ _ _ w (hw.slF hV8) hfw.secB (hD8.mono hw.bg) hN (hw.row (by repeat constructor)) (hw.slF hT8) (hTI8.mono hw.bg) hfw.tab (hw.slF hP8) hfw.tot (by have := hfw.es; simp only [List.length_append]; omega)) rfl (fun i3 hi3 => ?_)
    obtain ⟨⟨Xi, Xe, Xu, Xb⟩, b, g0⟩ := i3
    replace hi3 : WalkIs l ts at_ (es ++ more) b g0 := hi3
    change Tr _ _ ([rowE Xi 41 encIns b.ins, rowE Xe 39 encU32 b.ents, rowE Xu 39 encU32 b.unk, rowE Xb 39 encU32 b.bad] ++ _) _ _
    refine Tr.rowShape (V := Xi) (by repeat constructor) (fun pXi cXi hpv => ?_)
    subst hpv
    refine Tr.rowShape (V := Xe) (by repeat constructor) (fun pXe cXe hpv => ?_)
    subst hpv
    refine Tr.rowShape (V := Xu) (by repeat constructor) (fun pXu cXu hpv => ?_)
    subst hpv
    refine Tr.rowShape (V := Xb) (by repeat constructor) (fun pXb cXb hpv => ?_)
    subst hpv
    refine Tr.hN ?_
    refine Tr.hT 13 rfl (by kernel_rfl) (panicThen panicBody) (QS.move rfl) ?_
    refine Tr.hT 14 rfl (by kernel_rfl) (panicThen panicBody) (QS.extract rfl rfl) ?_
    refine Tr.hT 15 rfl (by kernel_rfl) (panicThen panicBody) (QS.extract rfl rfl) ?_
    refine Tr.hAll [17] (by kernel_rfl) (by simp) (fun iq hq => ?_)
    obtain rfl := List.mem_singleton.1 hq
    refine Tr.hOp rfl ?_
    refine Tr.storeW rfl rfl Try.sizeOf31 (by repeat constructor) (by rfl) (by rfl) (by first | exact List.all_eq_true.1 rfl | exact Enc.one _ _ | (intro u hu; simp [Value.cells] at hu; simp_all [Value.oneCell'])) rfl ?_
    refine Tr.hN ?_
    refine Tr.hT 18 rfl (by kernel_rfl) (panicThen panicBody) (QS.assign rfl) ?_
    refine Tr.hDone (by kernel_rfl) ?_
    refine Tr.thenN ?_
    apply Tr.joined ((_, _, _, _), _, b, g0)
    ·exact rfl
    ·exact (.cons (by first | rfl | exact lookI rfl (by omega) | exact lookI rfl (by simp) | exact lookB rfl (by simp)) (.cons (by first | rfl | exact lookI rfl (by omega) | exact lookI rfl (by simp) | exact lookB rfl (by simp)) Front.nil))
    ·exact SubX.dropN 18 (by kernel_rfl) rfl
    ·exact (by repeat' constructor)
    ·exact hi3
   obtain rfl := List.mem_singleton.1 hq
   refine Tr.hOp rfl ?_
   refine Tr.alloc Try.zeroValue31 rfl rfl (fun b16 => ?_)
   refine Tr.hN ?_
   refine Tr.hAll [2] (by kernel_rfl) (by simp) (fun iq hq => ?_)
   obtain rfl := List.mem_singleton.1 hq
   refine Tr.hOp rfl ?_
   refine Tr.lit0 encU32 Try.underlying23 Try.sizeOf39 rfl (fun V17 => ?_)
   refine Tr.hN ?_
   refine Tr.hAll [5] (by kernel_rfl) (by simp) (fun iq hq => ?_)
   obtain rfl := List.mem_singleton.1 hq
   refine Tr.hOp rfl ?_
   refine Tr.appendOf rfl rfl (by repeat constructor) (fun w hw => hw.slF (by assumption)) Try.underlying23 HLF.info39 (by rfl) (by rfl) (by (try simp only [List.length_cons, List.length_nil, List.length_append, List.length_take]); omega) (by unfold maxLen; (try simp only [List.length_cons, List.length_nil, List.length_append, List.length_take]); omega) rfl (fun V18 => ?_)
   refine Tr.hN ?_
   refine Tr.hAll [7] (by kernel_rfl) (by simp) (fun iq hq => ?_)
   obtain rfl := List.mem_singleton.1 hq
   refine Tr.hOp rfl ?_
   refine Tr.appendOf rfl rfl (by repeat constructor) (fun w hw => hw.slF (by assumption)) Try.underlying23 HLF.info39 (by rfl) (by rfl) (by (try simp only [List.length_cons, List.length_nil, List.length_append, List.length_take]); omega) (by unfold maxLen; (try simp only [List.length_cons, List.length_nil, List.length_append, List.length_take]); omega) rfl (fun V19 => ?_)
   refine Tr.rowEq (l' := es ++ more) (by simp) ?_
   refine Tr.hN ?_
   refine Tr.hAll [12] (by kernel_rfl) (by simp) (fun iq hq => ?_)
   obtain rfl := List.mem_singleton.1 hq
   refine Tr.hOp rfl ?_
   refine Tr.callEnts0 (fun i : ((Value × Value × Value × Value) × CodeP × Int) => .tuple #[.agg #[i.1.1, i.1.2.1, i.1.2.2.1, i.1.2.2.2], .int .i64 i.2.2]) (fun i : ((Value × Value × Value × Value) × CodeP × Int) => [rowE i.1.1 41 encIns i.2.1.ins, rowE i.1.2.1 39 encU32 i.2.1.ents, rowE i.1.2.2.1 39 encU32 i.2.1.unk, rowE i.1.2.2.2 39 encU32 i.2.1.bad]) (ok := fun i => WalkIs l ts at_ (es ++ more) i.2.1 i.2.2) (hdr8) rfl Try.call22 (fun w hw => walk_any l ts at_ (es ++ more) _ _ _ _ w (hw.slF hV8) hfw.secB (hD8.mono hw.bg) hN (hw.row (by repeat constructor)) (hw.slF hT8) (hTI8.mono hw.bg) hfw.tab (hw.slF hP8) hfw.tot (by have := hfw.es; simp only [List.length_append]; omega)) rfl (fun i3 hi3 => ?_)
   obtain ⟨⟨Xi, Xe, Xu, Xb⟩, b, g0⟩ := i3
   replace hi3 : WalkIs l ts at_ (es ++ more) b g0 := hi3
   change Tr _ _ ([rowE Xi 41 encIns b.ins, rowE Xe 39 encU32 b.ents, rowE Xu 39 encU32 b.unk, rowE Xb 39 encU32 b.bad] ++ _) _ _
   refine Tr.rowShape (V := Xi) (by repeat constructor) (fun pXi cXi hpv => ?_)
   subst hpv
   refine Tr.rowShape (V := Xe) (by repeat constructor) (fun pXe cXe hpv => ?_)
   subst hpv
   refine Tr.rowShape (V := Xu) (by repeat constructor) (fun pXu cXu hpv => ?_)
   subst hpv
   refine Tr.rowShape (V := Xb) (by repeat constructor) (fun pXb cXb hpv => ?_)
   subst hpv
   refine Tr.hN ?_
   refine Tr.hT 13 rfl (by kernel_rfl) (panicThen panicBody) (QS.move rfl) ?_
   refine Tr.hT 14 rfl (by kernel_rfl) (panicThen panicBody) (QS.extract rfl rfl) ?_
   refine Tr.hT 15 rfl (by kernel_rfl) (panicThen panicBody) (QS.extract rfl rfl) ?_
   refine Tr.hAll [17] (by kernel_rfl) (by simp) (fun iq hq => ?_)
   obtain rfl := List.mem_singleton.1 hq
   refine Tr.hOp rfl ?_
   refine Tr.storeW rfl rfl Try.sizeOf31 (by repeat constructor) (by rfl) (by rfl) (by first | exact List.all_eq_true.1 rfl | exact Enc.one _ _ | (intro u hu; simp [Value.cells] at hu; simp_all [Value.oneCell'])) rfl ?_
   refine Tr.hN ?_
   refine Tr.hT 18 rfl (by kernel_rfl) (panicThen panicBody) (QS.assign rfl) ?_
   refine Tr.hDone (by kernel_rfl) ?_
   refine Tr.thenN ?_
   apply Tr.joined ((_, _, _, _), _, b, g0)
   ·exact rfl
   ·exact (.cons (by first | rfl | exact lookI rfl (by omega) | exact lookI rfl (by simp) | exact lookB rfl (by simp)) (.cons (by first | rfl | exact lookI rfl (by omega) | exact lookI rfl (by simp) | exact lookB rfl (by simp)) Front.nil))
   ·exact SubX.dropN 18 (by kernel_rfl) rfl
   ·exact (by repeat' constructor)
   ·exact hi3
  ·obtain ⟨⟨Xi, Xe, Xu, Xb⟩, bc, b, g0⟩ := i
   replace hi : WalkIs l ts at_ (es ++ more) b g0 := hi
   change Tr _ _ [rowE Xi 41 encIns b.ins, rowE Xe 39 encU32 b.ents, rowE Xu 39 encU32 b.unk, rowE Xb 39 encU32 b.bad, cellE bc [Xi, Xe, Xu, Xb] 31, cellE b5 [.slice pYi d.ins.length cYi, .slice pYe d.ents.length cYe, .slice pYu d.unk.length cYu, .slice pYb d.bad.length cYb] 31, cellE b4 [.slice pVi c.ins.length cVi, .slice pVe c.ents.length cVe, .slice pVu c.unk.length cVu, .slice pVb c.bad.length cVb] 31, cellE b1 [.slice sa1 l.length sc1, .slice sa2 es.length sc2, .slice sa3 ts.length sc3, .slice sa4 at_.length sc4] 26] ([(9, .pointer (some ⟨bc, 0, none⟩)), (10, .int .i64 g0)] ++ _) _
   have hwk3 := hi
   obtain ⟨hef, heg, hmc⟩ := walk_merge hwk hwk2 hwk3
   subst hef heg
   refine Tr.seq (Tr.seq (Tr.region ?_))
   refine Tr.q (QS.move rfl) rfl ?_
   refine Tr.q (QS.move rfl) rfl ?_
   refine Tr.q (QS.neq rfl rfl) rfl ?_
   refine Tr.q (QS.move rfl) rfl ?_
   apply Tr.orP
   ·exact (rfl : _ = (4, 56, 60))
   ·exact rfl
   ·intro hF20; have hF20' := hF20
    try simp only [bs] at hF20'
    refine Tr.gq rfl rfl hF20 (QS.move rfl) rfl ?_
    refine Tr.gq rfl rfl hF20 (QS.move rfl) rfl ?_
    refine Tr.gq rfl rfl hF20 (QS.neq rfl rfl) rfl ?_
    refine Tr.q (QS.pickF rfl hF20 rfl) rfl ?_
    refine Tr.nil (Tr.thenN ?_)
    exact Tr.endX (Sub.cons rfl (Sub.dropN 4 (by kernel_rfl) rfl))
   ·intro hT20
    refine Tr.gskip rfl rfl hT20 rfl ?_
    refine Tr.gskip rfl rfl hT20 rfl ?_
    refine Tr.gskip rfl rfl hT20 rfl ?_
    refine Tr.q (QS.pickT rfl hT20 rfl) rfl ?_
    refine Tr.nil (Tr.thenN ?_)
    exact Tr.endX (Sub.cons rfl (Sub.dropN 4 (by kernel_rfl) rfl))
   refine Tr.nil (Tr.thenN ?_)
   refine Tr.cond rfl (fun h21 => ?_) (fun h21 => ?_)
   ·try simp only [bs] at h21
    first | contradiction | (exfalso; omega) | simp_all
   ·try simp only [bs] at h21
    refine Tr.skip (Tr.thenN (Tr.seq (Tr.seq (Tr.region ?_))))
    refine Tr.q (QS.assign rfl) rfl ?_
    refine Tr.nil (Tr.thenN (Tr.block ?_))
    refine Tr.rowShape (V := Xi) (by repeat constructor) (fun pXi cXi hpv => ?_)
    subst hpv
    refine Tr.rowShape (V := Xe) (by repeat constructor) (fun pXe cXe hpv => ?_)
    subst hpv
    refine Tr.rowShape (V := Xu) (by repeat constructor) (fun pXu cXu hpv => ?_)
    subst hpv
    refine Tr.rowShape (V := Xb) (by repeat constructor) (fun pXb cXb hpv => ?_)
    subst hpv
    have hcl1 := hcI8.len_le
    refine Tr.loop (ι := Nat) (fun k => k ≤ c.ins.length) (fun _ => F8) (fun k => [rowE (.slice pXi b.ins.length cXi) 41 encIns b.ins, rowE (.slice pXe b.ents.length cXe) 39 encU32 b.ents, rowE (.slice pXu b.unk.length cXu) 39 encU32 b.unk, rowE (.slice pXb b.bad.length cXb) 39 encU32 b.bad, cellE bc [.slice pXi b.ins.length cXi, .slice pXe b.ents.length cXe, .slice pXu b.unk.length cXu, .slice pXb b.bad.length cXb] 31, cellE b5 [.slice pYi d.ins.length cYi, .slice pYe d.ents.length cYe, .slice pYu d.unk.length cYu, .slice pYb d.bad.length cYb] 31, cellE b4 [.slice pVi c.ins.length cVi, .slice pVe c.ents.length cVe, .slice pVu c.unk.length cVu, .slice pVb c.bad.length cVb] 31, cellE b1 [.slice sa1 l.length sc1, .slice sa2 es.length sc2, .slice sa3 ts.length sc3, .slice sa4 at_.length sc4] 26]) (fun k => [(11, .int .i64 (k : Nat))]) (fun k => c.ins.length - k) 0 (Nat.zero_le _) (.cons (by first | rfl | exact lookI rfl (by omega) | exact lookI rfl (by simp) | exact lookB rfl (by simp)) Front.nil) (by repeat' constructor) rfl (fun k hi m hm => ?_)
    replace hi : k ≤ c.ins.length := hi
    replace hm : m = c.ins.length - k := hm
    change Tr _ _ [rowE (.slice pXi b.ins.length cXi) 41 encIns b.ins, rowE (.slice pXe b.ents.length cXe) 39 encU32 b.ents, rowE (.slice pXu b.unk.length cXu) 39 encU32 b.unk, rowE (.slice pXb b.bad.length cXb) 39 encU32 b.bad, cellE bc [.slice pXi b.ins.length cXi, .slice pXe b.ents.length cXe, .slice pXu b.unk.length cXu, .slice pXb b.bad.length cXb] 31, cellE b5 [.slice pYi d.ins.length cYi, .slice pYe d.ents.length cYe, .slice pYu d.unk.length cYu, .slice pYb d.bad.length cYb] 31, cellE b4 [.slice pVi c.ins.length cVi, .slice pVe c.ents.length cVe, .slice pVu c.unk.length cVu, .slice pVb c.bad.length cVb] 31, cellE b1 [.slice sa1 l.length sc1, .slice sa2 es.length sc2, .slice sa3 ts.length sc3, .slice sa4 at_.length sc4] 26] ([(11, .int .i64 (k : Nat))] ++ _) _
    refine Tr.seq (Tr.seq (Tr.region ?_))
    refine Tr.q (QS.move rfl) rfl ?_
    refine Tr.q (QS.fieldAddr (off := 0) (ft := 29) rfl Try.underlying31 rfl rfl Try.sizeOf29 (by decide)) rfl ?_
    refine Tr.q (QS.lV rfl Try.isAgg29) rfl ?_
    refine Tr.q (QS.len rfl (by assumption) Try.underlying29) rfl ?_
    refine Tr.q (QS.lss rfl rfl) rfl ?_
    refine Tr.nil (Tr.thenN ?_)
    refine Tr.cond rfl (fun h22 => ?_) (fun h22 => ?_)
    ·try simp only [bs] at h22
     refine Tr.skip (Tr.thenN (Tr.seq (Tr.block (Tr.seq ?_))))
     refine Tr.regionH ([rowE (.slice pXi b.ins.length cXi) 41 encIns b.ins, rowE (.slice pXe b.ents.length cXe) 39 encU32 b.ents, rowE (.slice pXu b.unk.length cXu) 39 encU32 b.unk, rowE (.slice pXb b.bad.length cXb) 39 encU32 b.bad, cellE bc [.slice pXi b.ins.length cXi, .slice pXe b.ents.length cXe, .slice pXu b.unk.length cXu, .slice pXb b.bad.length cXb] 31, cellE b5 [.slice pYi d.ins.length cYi, .slice pYe d.ents.length cYe, .slice pYu d.unk.length cYu, .slice pYb d.bad.length cYb] 31, cellE b4 [.slice pVi c.ins.length cVi, .slice pVe c.ents.length cVe, .slice pVu c.unk.length cVu, .slice pVb c.bad.length cVb] 31, cellE b1 [.slice sa1 l.length sc1, .slice sa2 es.length sc2, .slice sa3 ts.length sc3, .slice sa4 at_.length sc4] 26]) 9 rfl HLF.mixed ?_
     refine Tr.hT 0 rfl (by kernel_rfl) (panicThen (panicIn (panicThen (panicThen (panicIn (panicThen panicBody)))))) (QS.lW rfl Try.isAgg31 Try.sizeOf31) ?_
     refine Tr.hT 1 rfl (by kernel_rfl) (panicThen (panicIn (panicThen (panicThen (panicIn (panicThen panicBody)))))) (QS.fieldAddr (off := 0) (ft := 29) rfl Try.underlying31 rfl rfl Try.sizeOf29 (by decide)) ?_
     refine Tr.hT 2 rfl (by kernel_rfl) (panicThen (panicIn (panicThen (panicThen (panicIn (panicThen panicBody)))))) (QS.lV rfl Try.isAgg29) ?_
     refine Tr.hT 3 rfl (by kernel_rfl) (panicThen (panicIn (panicThen (panicThen (panicIn (panicThen panicBody)))))) (QS.move rfl) ?_
     refine Tr.hT 4 rfl (by kernel_rfl) (panicThen (panicIn (panicThen (panicThen (panicIn (panicThen panicBody)))))) (QS.idxN rfl rfl (by assumption) Try.underlying29 Try.sizeOf41 (by rfl) (by omega)) ?_
     refine Tr.hT 5 rfl (by kernel_rfl) (panicThen (panicIn (panicThen (panicThen (panicIn (panicThen panicBody)))))) (QS.fieldAddr (off := 0) (ft := 39) rfl Try.underlying41 rfl rfl Try.sizeOf39 (by decide)) ?_
     refine Tr.hT 6 rfl (by kernel_rfl) (panicThen (panicIn (panicThen (panicThen (panicIn (panicThen panicBody)))))) (QS.elF rfl (by assumption) Try.isAgg39 (by omega) (by rfl)) ?_
     refine Tr.hAll [7] (by kernel_rfl) (by simp) (fun iq hq => ?_)
     obtain rfl := List.mem_singleton.1 hq
     refine Tr.hOp rfl ?_
     refine Tr.q (QS.call rfl Try.call21 (fun w hw => dreach_any b.ins (c.ins.getD k default).addr _ _ _ _ w (hw.row (by repeat constructor)))) rfl ?_
     refine Tr.hN ?_
     refine Tr.hT 8 rfl (by kernel_rfl) (panicThen (panicIn (panicThen (panicThen (panicIn (panicThen panicBody)))))) (QS.not rfl) ?_
     refine Tr.hDone (by kernel_rfl) ?_
     refine Tr.thenN ?_
     refine Tr.cond rfl (fun h23 => ?_) (fun h23 => ?_)
     ·try simp only [bs] at h23
      rw [hwk.moreOf hwk3 (mem_getD (l := c.ins) (k := k) (by omega))] at h23
      cases h23
     ·try simp only [bs] at h23
      refine Tr.skip (Tr.inN (Tr.thenN (Tr.region ?_)))
      refine Tr.q (QS.move rfl) rfl ?_
      refine Tr.q (QS.addI rfl rfl (by omega)) rfl ?_
      refine Tr.q (QS.assign rfl) rfl ?_
      refine Tr.nil (Tr.thenN ?_)
      apply Tr.again (k + 1)
      ·exact rfl
      ·exact (.cons (by first | rfl | exact lookI rfl (by omega) | exact lookI rfl (by simp) | exact lookB rfl (by simp)) Front.nil)
      ·exact SubX.dropN 18 (by kernel_rfl) rfl
      ·exact (by repeat' constructor)
      ·exact (by show k + 1 ≤ _; omega)
      ·exact (by (try dsimp only); omega)
    ·try simp only [bs] at h22
     refine Tr.exit ?_
     refine Tr.thenE (Tr.thenE (Tr.inHit (Tr.thenN (Tr.seq ?_))))
     obtain rfl : k = c.ins.length := by omega
     refine Tr.regionH ([rowE (.slice pXi b.ins.length cXi) 41 encIns b.ins, rowE (.slice pXe b.ents.length cXe) 39 encU32 b.ents, rowE (.slice pXu b.unk.length cXu) 39 encU32 b.unk, rowE (.slice pXb b.bad.length cXb) 39 encU32 b.bad, cellE bc [.slice pXi b.ins.length cXi, .slice pXe b.ents.length cXe, .slice pXu b.unk.length cXu, .slice pXb b.bad.length cXb] 31, cellE b5 [.slice pYi d.ins.length cYi, .slice pYe d.ents.length cYe, .slice pYu d.unk.length cYu, .slice pYb d.bad.length cYb] 31, cellE b4 [.slice pVi c.ins.length cVi, .slice pVe c.ents.length cVe, .slice pVu c.unk.length cVu, .slice pVb c.bad.length cVb] 31, cellE b1 [.slice sa1 l.length sc1, .slice sa2 es.length sc2, .slice sa3 ts.length sc3, .slice sa4 at_.length sc4] 26]) 22 rfl HLF.mixed ?_
     refine Tr.hT 0 rfl (by kernel_rfl) (panicThen panicBody) (QS.lW rfl Try.isAgg31 Try.sizeOf31) ?_
     refine Tr.hT 1 rfl (by kernel_rfl) (panicThen panicBody) (QS.lW rfl Try.isAgg31 Try.sizeOf31) ?_
     refine Tr.hT 5 rfl (by kernel_rfl) (panicThen panicBody) (QS.fieldAddr (off := 0) (ft := 29) rfl Try.underlying31 rfl rfl Try.sizeOf29 (by decide)) ?_
     refine Tr.hT 6 rfl (by kernel_rfl) (panicThen panicBody) (QS.lV rfl Try.isAgg29) ?_
     refine Tr.hT 7 rfl (by kernel_rfl) (panicThen panicBody) (QS.build (vs := [(0, _)]) (cs := #[.slice pXi b.ins.length cXi, .slice none 0 0, .slice none 0 0, .slice none 0 0]) rfl rfl (by kernel_rfl)) ?_
     refine Tr.hAll [2] (by kernel_rfl) (by simp) (fun iq hq => ?_)
     obtain rfl := List.mem_singleton.1 hq
     refine Tr.hOp rfl ?_
     refine Tr.callEnts0 (fun j : Value × Value × Value × Value => .agg #[j.1, j.2.1, j.2.2.1, j.2.2.2]) (fun j => [rowE j.1 41 encIns (mergeC c d).ins, rowE j.2.1 39 encU32 (mergeC c d).ents, rowE j.2.2.1 39 encU32 (mergeC c d).unk, rowE j.2.2.2 39 encU32 (mergeC c d).bad]) (ok := fun _ => True) hdr8 rfl Try.call26 (fun w hw => merge_any c.ins d.ins c.ents c.unk c.bad d.ents d.unk d.bad _ _ _ _ _ _ _ _ w (hw.slF hcI8) (hw.slF hcE8) (hw.slF hcU8) (hw.slF hcB8) (hw.slF hdI) (hw.slF hdE) (hw.slF hdU) (hw.slF hdB) ⟨⟨⟨by omega, by omega⟩, by omega, by omega⟩, ⟨by omega, by omega⟩, by omega, by omega⟩) rfl (fun j1 _ => ?_)
     obtain ⟨Zi, Ze, Zu, Zb⟩ := j1
     change Tr _ _ ([rowE Zi 41 encIns (mergeC c d).ins, rowE Ze 39 encU32 (mergeC c d).ents, rowE Zu 39 encU32 (mergeC c d).unk, rowE Zb 39 encU32 (mergeC c d).bad] ++ _) _ _
     rw [hmc]
     refine Tr.rowShape (V := Zi) (by repeat constructor) (fun pZi cZi hpv => ?_)
     subst hpv
     refine Tr.rowShape (V := Ze) (by repeat constructor) (fun pZe cZe hpv => ?_)
     subst hpv
     refine Tr.rowShape (V := Zu) (by repeat constructor) (fun pZu cZu hpv => ?_)
     subst hpv
     refine Tr.rowShape (V := Zb) (by repeat constructor) (fun pZb cZb hpv => ?_)
     subst hpv
     refine Tr.hN ?_
     refine Tr.hT 3 rfl (by kernel_rfl) (panicThen panicBody) (QS.field (k := 0) (off := 0) (ft := 29) rfl Try.underlying31 rfl rfl Try.isAgg29 rfl) ?_
     refine Tr.hT 4 rfl (by kernel_rfl) (panicThen panicBody) (QS.build (vs := [(0, _)]) (cs := #[.slice pZi b.ins.length cZi, .slice none 0 0, .slice none 0 0, .slice none 0 0]) rfl rfl (by kernel_rfl)) ?_
     refine Tr.hAll [8] (by kernel_rfl) (by simp) (fun iq hq => ?_)
     obtain rfl := List.mem_singleton.1 hq
     refine Tr.hOp rfl ?_
     refine Tr.q (QS.call rfl Try.call23 (fun w hw => same12_any ⟨b.ins, [], [], []⟩ ⟨b.ins, [], [], []⟩ _ _ _ _ _ _ _ _ w (hw.row (by repeat constructor)) (Sl.nil _ _) (Sl.nil _ _) (Sl.nil _ _) (hw.row (by repeat constructor)) (Sl.nil _ _) (Sl.nil _ _) (Sl.nil _ _))) rfl ?_
     refine Tr.hN ?_
     refine Tr.hT 9 rfl (by kernel_rfl) (panicThen panicBody) (QS.move rfl) ?_
     refine Tr.hGuard (t := 86) rfl (fun hG24 => ?_) (fun hG24 => ?_)
     ·have hG24' := hG24
      try simp only [bs] at hG24'
      refine Tr.hTakeG 10 rfl (by kernel_rfl) (panicThen panicBody) rfl rfl rfl hG24 (QS.lW rfl Try.isAgg31 Try.sizeOf31) (by repeat' constructor) rfl ?_
      refine Tr.hTakeG 11 rfl (by kernel_rfl) (panicThen panicBody) rfl rfl rfl hG24 (QS.lW rfl Try.isAgg31 Try.sizeOf31) (by repeat' constructor) rfl ?_
      refine Tr.hTakeG 14 rfl (by kernel_rfl) (panicThen panicBody) rfl rfl rfl hG24 (QS.lW rfl Try.isAgg31 Try.sizeOf31) (by repeat' constructor) rfl ?_
      refine Tr.hAll [12] (by kernel_rfl) (by simp) (fun iq hq => ?_)
      obtain rfl := List.mem_singleton.1 hq
      refine Tr.hOp rfl ?_
      refine Tr.gdo rfl rfl hG24 ?_
      refine Tr.callEnts0 (fun j : Value × Value × Value × Value => .agg #[j.1, j.2.1, j.2.2.1, j.2.2.2]) (fun j => [rowE j.1 41 encIns (mergeC c d).ins, rowE j.2.1 39 encU32 (mergeC c d).ents, rowE j.2.2.1 39 encU32 (mergeC c d).unk, rowE j.2.2.2 39 encU32 (mergeC c d).bad]) (ok := fun _ => True) hdr8 rfl Try.call26 (fun w hw => merge_any c.ins d.ins c.ents c.unk c.bad d.ents d.unk d.bad _ _ _ _ _ _ _ _ w (hw.slF hcI8) (hw.slF hcE8) (hw.slF hcU8) (hw.slF hcB8) (hw.slF hdI) (hw.slF hdE) (hw.slF hdU) (hw.slF hdB) ⟨⟨⟨by omega, by omega⟩, by omega, by omega⟩, ⟨by omega, by omega⟩, by omega, by omega⟩) rfl (fun j2 _ => ?_)
      obtain ⟨Ui, Ue, Uu, Ub⟩ := j2
      change Tr _ _ ([rowE Ui 41 encIns (mergeC c d).ins, rowE Ue 39 encU32 (mergeC c d).ents, rowE Uu 39 encU32 (mergeC c d).unk, rowE Ub 39 encU32 (mergeC c d).bad] ++ _) _ _
      rw [hmc]
      refine Tr.rowShape (V := Ui) (by repeat constructor) (fun pUi cUi hpv => ?_)
      subst hpv
      refine Tr.rowShape (V := Ue) (by repeat constructor) (fun pUe cUe hpv => ?_)
      subst hpv
      refine Tr.rowShape (V := Uu) (by repeat constructor) (fun pUu cUu hpv => ?_)
      subst hpv
      refine Tr.rowShape (V := Ub) (by repeat constructor) (fun pUb cUb hpv => ?_)
      subst hpv
      refine Tr.hN ?_
      refine Tr.hAll [13] (by kernel_rfl) (by simp) (fun iq hq => ?_)
      obtain rfl := List.mem_singleton.1 hq
      refine Tr.hOp rfl ?_
      refine Tr.gq rfl rfl hG24 (QS.call rfl Try.call24 (fun w hw => toRef_any _ _ _ _ _ _ _ _ _ _ _ _ w)) rfl ?_
      refine Tr.hN ?_
      refine Tr.hAll [15] (by kernel_rfl) (by simp) (fun iq hq => ?_)
      obtain rfl := List.mem_singleton.1 hq
      refine Tr.hOp rfl ?_
      refine Tr.gq rfl rfl hG24 (QS.call rfl Try.call24 (fun w hw => toRef_any _ _ _ _ _ _ _ _ _ _ _ _ w)) rfl ?_
      refine Tr.hN ?_
      refine Tr.hAll [16] (by kernel_rfl) (by simp) (fun iq hq => ?_)
      obtain rfl := List.mem_singleton.1 hq
      refine Tr.hOp rfl ?_
      refine Tr.gq rfl rfl hG24 (QS.call rfl Try.call23 (fun w hw => same12_any b b _ _ _ _ _ _ _ _ w (hw.row (by repeat constructor)) (hw.row (by repeat constructor)) (hw.row (by repeat constructor)) (hw.row (by repeat constructor)) (hw.row (by repeat constructor)) (hw.row (by repeat constructor)) (hw.row (by repeat constructor)) (hw.row (by repeat constructor)))) rfl ?_
      refine Tr.hN ?_
      refine Tr.hT 17 rfl (by kernel_rfl) (panicThen panicBody) (QS.pickT rfl hG24 rfl) ?_
      refine Tr.hT 18 rfl (by kernel_rfl) (panicThen panicBody) (QS.move rfl) ?_
      refine Tr.hGuard (t := 95) rfl (fun hG25 => ?_) (fun hG25 => ?_)
      ·have hG25' := hG25
       try simp only [bs] at hG25'
       refine Tr.hAll [19] (by kernel_rfl) (by simp) (fun iq hq => ?_)
       obtain rfl := List.mem_singleton.1 hq
       refine Tr.hOp rfl ?_
       refine Tr.gq rfl rfl hG25 (QS.call0 hdr8 rfl Try.call11 (fun w hw => example12_any w)) rfl ?_
       refine Tr.hN ?_
       refine Tr.hT 20 rfl (by kernel_rfl) (panicThen panicBody) (QS.pickT rfl hG25 rfl) ?_
       refine Tr.hT 21 rfl (by kernel_rfl) (panicThen panicBody) (QS.assign rfl) ?_
       refine Tr.hDone (by kernel_rfl) ?_
       refine Tr.thenN (Tr.ret ?_)
       refine Tr.ret1 Try.results8 rfl (fun w' hw => ?_)
       first | (exfalso; simp_all; done) | exact ⟨by simp, hw.below0 (hF04.trans hG8)⟩ | (refine ⟨?_, hw.below0 (hF04.trans hG8)⟩; simp_all)
      ·have hG25' := hG25
       try simp only [bs] at hG25'
       refine Tr.hSkip 19 rfl (by kernel_rfl) (panicThen panicBody) rfl rfl hG25 (by repeat' constructor) rfl ?_
       refine Tr.hT 20 rfl (by kernel_rfl) (panicThen panicBody) (QS.pickF rfl hG25 rfl) ?_
       refine Tr.hT 21 rfl (by kernel_rfl) (panicThen panicBody) (QS.assign rfl) ?_
       refine Tr.hDone (by kernel_rfl) ?_
       refine Tr.thenN (Tr.ret ?_)
       refine Tr.ret1 Try.results8 rfl (fun w' hw => ?_)
       first | (exfalso; simp_all; done) | exact ⟨by simp, hw.below0 (hF04.trans hG8)⟩ | (refine ⟨?_, hw.below0 (hF04.trans hG8)⟩; simp_all)
     ·have hG24' := hG24
      try simp only [bs] at hG24'
      refine Tr.hSkip 10 rfl (by kernel_rfl) (panicThen panicBody) rfl rfl hG24 (by repeat' constructor) rfl ?_
      refine Tr.hSkip 11 rfl (by kernel_rfl) (panicThen panicBody) rfl rfl hG24 (by repeat' constructor) rfl ?_
      refine Tr.hSkip 12 rfl (by kernel_rfl) (panicThen panicBody) rfl rfl hG24 (by repeat' constructor) rfl ?_
      refine Tr.hSkip 13 rfl (by kernel_rfl) (panicThen panicBody) rfl rfl hG24 (by repeat' constructor) rfl ?_
      refine Tr.hSkip 14 rfl (by kernel_rfl) (panicThen panicBody) rfl rfl hG24 (by repeat' constructor) rfl ?_
      refine Tr.hSkip 15 rfl (by kernel_rfl) (panicThen panicBody) rfl rfl hG24 (by repeat' constructor) rfl ?_
      refine Tr.hSkip 16 rfl (by kernel_rfl) (panicThen panicBody) rfl rfl hG24 (by repeat' constructor) rfl ?_
      refine Tr.hT 17 rfl (by kernel_rfl) (panicThen panicBody) (QS.pickF rfl hG24 rfl) ?_
      refine Tr.hT 18 rfl (by kernel_rfl) (panicThen panicBody) (QS.move rfl) ?_
      refine Tr.hGuard (t := 95) rfl (fun hG26 => ?_) (fun hG26 => ?_)
      ·have hG26' := hG26
       try simp only [bs] at hG26'
       refine Tr.hAll [19] (by kernel_rfl) (by simp) (fun iq hq => ?_)
       obtain rfl := List.mem_singleton.1 hq
       refine Tr.hOp rfl ?_
       refine Tr.gq rfl rfl hG26 (QS.call0 hdr8 rfl Try.call11 (fun w hw => example12_any w)) rfl ?_
       refine Tr.hN ?_
       refine Tr.hT 20 rfl (by kernel_rfl) (panicThen panicBody) (QS.pickT rfl hG26 rfl) ?_
       refine Tr.hT 21 rfl (by kernel_rfl) (panicThen panicBody) (QS.assign rfl) ?_
       refine Tr.hDone (by kernel_rfl) ?_
       refine Tr.thenN (Tr.ret ?_)
       refine Tr.ret1 Try.results8 rfl (fun w' hw => ?_)
       first | (exfalso; simp_all; done) | exact ⟨by simp, hw.below0 (hF04.trans hG8)⟩ | (refine ⟨?_, hw.below0 (hF04.trans hG8)⟩; simp_all)
      ·have hG26' := hG26
       try simp only [bs] at hG26'
       refine Tr.hSkip 19 rfl (by kernel_rfl) (panicThen panicBody) rfl rfl hG26 (by repeat' constructor) rfl ?_
       refine Tr.hT 20 rfl (by kernel_rfl) (panicThen panicBody) (QS.pickF rfl hG26 rfl) ?_
       refine Tr.hT 21 rfl (by kernel_rfl) (panicThen panicBody) (QS.assign rfl) ?_
       refine Tr.hDone (by kernel_rfl) ?_
       refine Tr.thenN (Tr.ret ?_)
       refine Tr.ret1 Try.results8 rfl (fun w' hw => ?_)
       first | (exfalso; simp_all; done) | exact ⟨by simp, hw.below0 (hF04.trans hG8)⟩ | (refine ⟨?_, hw.below0 (hF04.trans hG8)⟩; simp_all)
end Go.Proofs.Ytnmaokalpbnmaaa
