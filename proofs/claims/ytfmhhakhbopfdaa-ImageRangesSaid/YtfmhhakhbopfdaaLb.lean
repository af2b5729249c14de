/- The law ImageRanges. -/
import Derived.Test.YtfmhhakhbopfdaaWc
import Derived.Test.YtfmhhakhbopfdaaWd
import Derived.Test.YtfmhhakhbopfdaaMs
set_option linter.unusedSimpArgs false
set_option linter.unusedVariables false
namespace Go.Proofs.Ytfmhhakhbopfdaa
open Go Go.HL Go.RowKit

set_option maxRecDepth 100000 in
set_option maxHeartbeats 2000000 in
theorem ranges_true (a b : List Rng) (V W : Value) (x : UInt32) (w : World) (hV : Sl (hp w) encRng a V) (hW : Sl (hp w) encRng b W) :
    Calls Try.prog 8 #[V, W, .int .u32 x.toNat] w (fun e w' => e = .returned (.bool true) ∧ Ext w w') := by
  have hV' : Sl (Bg.of w).blk encRng a V := hV
  have hW' : Sl (Bg.of w).blk encRng b W := hW
  obtain ⟨nl, hnl⟩ : ∃ nl, nl = normalP a := ⟨_, rfl⟩
  have hno : Norm nl := by rw [hnl]; exact (normal_ok a).1
  have hlen : nl.length ≤ a.length := by rw [hnl]; exact normalP_len a
  have hnx : nl.any (inR x) = a.any (inR x) := by rw [hnl]; exact any_normal a x
  refine enter Try.func8 rfl Try.ntmps8 rfl ?_
  refine Tr.seq ?_
  refine Tr.region ?_
  refine Tr.q (QS.assign rfl) rfl ?_
  refine Tr.nil ?_
  refine Tr.thenN ?_
  refine Tr.seq ?_
  refine Tr.seq ?_
  refine Tr.region ?_
  refine Tr.q (QS.move rfl) rfl ?_
  first | refine Tr.q (QS.len rfl (by assumption) Try.underlying31) rfl ?_ | refine Tr.q (QS.lenRow rfl (by repeat (first | exact List.Mem.head _ | apply List.Mem.tail)) Try.underlying31) rfl ?_ | refine Tr.q (QS.lenNil rfl Try.underlying31) rfl ?_
  refine Tr.q (QS.gtr rfl rfl) rfl ?_
  refine Tr.q (QS.move rfl) rfl ?_
  apply Tr.or (t := 16) (d := 20) 4
  · exact rfl
  · intro hF1; have hF1' := hF1
    try simp only [Bool.and_eq_true, Bool.or_eq_true, Bool.not_eq_true', Bool.not_eq_false', decide_eq_true_eq, decide_eq_false_iff_not, Bool.and_eq_false_iff, Bool.or_eq_false_iff, ne_eq, Decidable.not_not] at hF1'
    refine Tr.gq rfl rfl hF1 (QS.move rfl) rfl ?_
    first | refine Tr.gq rfl rfl hF1 (QS.len rfl (by assumption) Try.underlying31) rfl ?_ | refine Tr.gq rfl rfl hF1 (QS.lenRow rfl (by repeat (first | exact List.Mem.head _ | apply List.Mem.tail)) Try.underlying31) rfl ?_ | refine Tr.gq rfl rfl hF1 (QS.lenNil rfl Try.underlying31) rfl ?_
    refine Tr.gq rfl rfl hF1 (QS.gtr rfl rfl) rfl ?_
    refine Tr.q (QS.pickF rfl hF1 rfl) rfl ?_
    refine Tr.nil (Tr.thenN ?_)
    first | exact Tr.end (Sub.cons rfl (Sub.dropN 4 (by kernel_rfl) rfl)) rfl rfl | exact Tr.endP (Sub.cons rfl (Sub.dropN 4 (by kernel_rfl) rfl)) rfl (by repeat' (first | exact Pick.nil _ | exact Del.here _ | apply Pick.cons | apply Del.there))
  · intro hT1
    refine Tr.gskip rfl rfl hT1 rfl ?_
    refine Tr.gskip rfl rfl hT1 rfl ?_
    refine Tr.gskip rfl rfl hT1 rfl ?_
    refine Tr.q (QS.pickT rfl hT1 rfl) rfl ?_
    refine Tr.nil (Tr.thenN ?_)
    first | exact Tr.end (Sub.cons rfl (Sub.dropN 4 (by kernel_rfl) rfl)) rfl rfl | exact Tr.endP (Sub.cons rfl (Sub.dropN 4 (by kernel_rfl) rfl)) rfl (by repeat' (first | exact Pick.nil _ | exact Del.here _ | apply Pick.cons | apply Del.there))
  refine Tr.nil ?_
  refine Tr.thenN ?_
  refine Tr.cond rfl (fun h2 => ?_) (fun h2 => ?_)
  · try simp only [Bool.and_eq_true, Bool.or_eq_true, Bool.not_eq_true', Bool.not_eq_false', decide_eq_true_eq, decide_eq_false_iff_not, Bool.and_eq_false_iff, Bool.or_eq_false_iff, ne_eq, Decidable.not_not] at h2
    refine Tr.seq ?_
    refine Tr.region ?_
    refine Tr.q (QS.call rfl Try.call16 (fun w hw => example02_any w)) rfl ?_
    refine Tr.q (QS.assign rfl) rfl ?_
    refine Tr.nil ?_
    refine Tr.thenN ?_
    refine Tr.ret ?_
    refine Tr.thenR ?_
    refine Tr.ret1 Try.results8 rfl (fun w' hw => ?_)
    exact ⟨rfl, hw.below (Bg.le.refl _)⟩
  · try simp only [Bool.and_eq_true, Bool.or_eq_true, Bool.not_eq_true', Bool.not_eq_false', decide_eq_true_eq, decide_eq_false_iff_not, Bool.and_eq_false_iff, Bool.or_eq_false_iff, ne_eq, Decidable.not_not] at h2
    refine Tr.skip ?_
    refine Tr.thenN ?_
    refine Tr.seq ?_
    refine Tr.region ?_
    refine Tr.q (QS.move rfl) rfl ?_
    refine Tr.callRow rfl Try.call24 (fun w hw => normal_any a V w (hw.slF hV) (by omega)) rfl (fun V3 => ?_)
    refine Tr.q (QS.assign rfl) rfl ?_
    refine Tr.nil ?_
    refine Tr.thenN ?_
    refine Tr.seq ?_
    refine Tr.seq ?_
    rw [← hnl]
    refine Tr.region ?_
    refine Tr.q (QS.assign rfl) rfl ?_
    refine Tr.nil ?_
    refine Tr.thenN ?_
    refine Tr.block ?_
    refine Tr.loop (ι := Nat) (fun k => k ≤ nl.length) (fun _ => _) (fun k => [rowE V3 51 encRng nl]) (fun k => [(8, .int .i64 (k : Nat))]) (fun k => nl.length - k) 0 (Nat.zero_le _) (.cons (by first | rfl | exact lookI rfl (by omega) | exact lookI rfl (by simp) | exact lookB rfl (by simp)) Front.nil) (by repeat' (first | exact Pick.nil _ | exact Del.here _ | apply Pick.cons | apply Del.there)) rfl (fun k hi m hm => ?_)
    replace hi : k ≤ nl.length := hi
    replace hm : m = nl.length - k := hm
    change Tr _ _ [rowE V3 51 encRng nl] ([(8, .int .i64 (k : Nat))] ++ _) _
    refine Tr.seq ?_
    refine Tr.seq ?_
    refine Tr.region ?_
    refine Tr.q (QS.move rfl) rfl ?_
    refine Tr.q (QS.move rfl) rfl ?_
    first | refine Tr.q (QS.len rfl (by assumption) Try.underlying31) rfl ?_ | refine Tr.q (QS.lenRow rfl (by repeat (first | exact List.Mem.head _ | apply List.Mem.tail)) Try.underlying31) rfl ?_ | refine Tr.q (QS.lenNil rfl Try.underlying31) rfl ?_
    refine Tr.q (QS.lss rfl rfl) rfl ?_
    refine Tr.nil ?_
    refine Tr.thenN ?_
    refine Tr.cond rfl (fun h4 => ?_) (fun h4 => ?_)
    · try simp only [Bool.and_eq_true, Bool.or_eq_true, Bool.not_eq_true', Bool.not_eq_false', decide_eq_true_eq, decide_eq_false_iff_not, Bool.and_eq_false_iff, Bool.or_eq_false_iff, ne_eq, Decidable.not_not] at h4
      refine Tr.skip ?_
      refine Tr.thenN ?_
      refine Tr.seq ?_
      refine Tr.block ?_
      refine Tr.seq ?_
      refine Tr.regionQ HLF.mixed (by kernel_rfl) ?_
      refine TrQ.q (QS.move rfl) rfl ?_
      refine TrQ.q (QS.move rfl) rfl ?_
      first | refine TrQ.q (QS.idxN rfl rfl (by assumption) Try.underlying31 Try.sizeOf51 (by rfl) (by omega)) rfl ?_ | refine TrQ.q (QS.idxRowN rfl rfl (by repeat (first | exact List.Mem.head _ | apply List.Mem.tail)) Try.underlying31 Try.sizeOf51 (by rfl) (by omega)) rfl ?_ | refine TrQ.q (QS.idx rfl rfl (by assumption) Try.underlying31 Try.sizeOf51 (by rfl) (by omega)) rfl ?_ | refine TrQ.q (QS.idxRow rfl rfl (by repeat (first | exact List.Mem.head _ | apply List.Mem.tail)) Try.underlying31 Try.sizeOf51 (by rfl) (by omega)) rfl ?_
      refine TrQ.q (QS.fieldAddr (off := 0) (ft := 23) rfl Try.underlying51 rfl rfl Try.sizeOf23 (by decide)) rfl ?_
      first | refine TrQ.q (QS.loadV rfl (by repeat (first | exact List.Mem.head _ | apply List.Mem.tail)) Try.isAgg23 (by rfl)) rfl ?_ | refine TrQ.q (QS.loadC rfl (by assumption) Try.isAgg23) rfl ?_ | refine TrQ.q (QS.el1 rfl (by assumption) Try.isAgg23 (by omega) (by rfl)) rfl ?_ | refine TrQ.q (QS.elF rfl (by assumption) Try.isAgg23 (by omega) (by rfl)) rfl ?_ | refine TrQ.q (QS.elR1 rfl (by repeat (first | exact List.Mem.head _ | apply List.Mem.tail)) Try.isAgg23 (by omega) (by rfl)) rfl ?_ | refine TrQ.q (QS.elRF rfl (by repeat (first | exact List.Mem.head _ | apply List.Mem.tail)) Try.isAgg23 (by omega) (by rfl)) rfl ?_
      refine TrQ.q (QS.move rfl) rfl ?_
      refine TrQ.q (QS.move rfl) rfl ?_
      first | refine TrQ.q (QS.idxN rfl rfl (by assumption) Try.underlying31 Try.sizeOf51 (by rfl) (by omega)) rfl ?_ | refine TrQ.q (QS.idxRowN rfl rfl (by repeat (first | exact List.Mem.head _ | apply List.Mem.tail)) Try.underlying31 Try.sizeOf51 (by rfl) (by omega)) rfl ?_ | refine TrQ.q (QS.idx rfl rfl (by assumption) Try.underlying31 Try.sizeOf51 (by rfl) (by omega)) rfl ?_ | refine TrQ.q (QS.idxRow rfl rfl (by repeat (first | exact List.Mem.head _ | apply List.Mem.tail)) Try.underlying31 Try.sizeOf51 (by rfl) (by omega)) rfl ?_
      refine TrQ.q (QS.fieldAddr (off := 1) (ft := 23) rfl Try.underlying51 rfl rfl Try.sizeOf23 (by decide)) rfl ?_
      first | refine TrQ.q (QS.loadV rfl (by repeat (first | exact List.Mem.head _ | apply List.Mem.tail)) Try.isAgg23 (by rfl)) rfl ?_ | refine TrQ.q (QS.loadC rfl (by assumption) Try.isAgg23) rfl ?_ | refine TrQ.q (QS.el1 rfl (by assumption) Try.isAgg23 (by omega) (by rfl)) rfl ?_ | refine TrQ.q (QS.elF rfl (by assumption) Try.isAgg23 (by omega) (by rfl)) rfl ?_ | refine TrQ.q (QS.elR1 rfl (by repeat (first | exact List.Mem.head _ | apply List.Mem.tail)) Try.isAgg23 (by omega) (by rfl)) rfl ?_ | refine TrQ.q (QS.elRF rfl (by repeat (first | exact List.Mem.head _ | apply List.Mem.tail)) Try.isAgg23 (by omega) (by rfl)) rfl ?_
      refine TrQ.q (QS.geq32 rfl rfl) rfl ?_
      refine TrQ.q (QS.move rfl) rfl ?_
      apply TrQ.or (t := 41) (d := 58) 17
      · exact rfl
      · intro hF5; have hF5' := hF5
        try simp only [Bool.and_eq_true, Bool.or_eq_true, Bool.not_eq_true', Bool.not_eq_false', decide_eq_true_eq, decide_eq_false_iff_not, Bool.and_eq_false_iff, Bool.or_eq_false_iff, ne_eq, Decidable.not_not] at hF5'
        refine TrQ.gq rfl rfl hF5 (QS.move rfl) rfl ?_
        refine TrQ.gq rfl rfl hF5 (QS.gtr rfl rfl) rfl ?_
        refine TrQ.gq rfl rfl hF5 (QS.move rfl) rfl ?_
        apply TrQ.and (t := 44) (d := 57) 13
        · exact rfl
        · intro hT6; have hT6' := hT6
          try simp only [Bool.and_eq_true, Bool.or_eq_true, Bool.not_eq_true', Bool.not_eq_false', decide_eq_true_eq, decide_eq_false_iff_not, Bool.and_eq_false_iff, Bool.or_eq_false_iff, ne_eq, Decidable.not_not] at hT6'
          refine TrQ.gq rfl rfl hT6 (QS.move rfl) rfl ?_
          refine TrQ.gq rfl rfl hT6 (QS.move rfl) rfl ?_
          first | refine TrQ.gq rfl rfl hT6 (QS.subI rfl rfl (by omega)) rfl ?_ | refine TrQ.gq rfl rfl hT6 (QS.sub rfl rfl) rfl ?_
          first | refine TrQ.gq rfl rfl hT6 (QS.idxN rfl rfl (by assumption) Try.underlying31 Try.sizeOf51 (by rfl) (by omega)) rfl ?_ | refine TrQ.gq rfl rfl hT6 (QS.idxRowN rfl rfl (by repeat (first | exact List.Mem.head _ | apply List.Mem.tail)) Try.underlying31 Try.sizeOf51 (by rfl) (by omega)) rfl ?_ | refine TrQ.gq rfl rfl hT6 (QS.idx rfl rfl (by assumption) Try.underlying31 Try.sizeOf51 (by rfl) (by omega)) rfl ?_ | refine TrQ.gq rfl rfl hT6 (QS.idxRow rfl rfl (by repeat (first | exact List.Mem.head _ | apply List.Mem.tail)) Try.underlying31 Try.sizeOf51 (by rfl) (by omega)) rfl ?_
          refine TrQ.gq rfl rfl hT6 (QS.fieldAddr (off := 1) (ft := 23) rfl Try.underlying51 rfl rfl Try.sizeOf23 (by decide)) rfl ?_
          first | refine TrQ.gq rfl rfl hT6 (QS.loadV rfl (by repeat (first | exact List.Mem.head _ | apply List.Mem.tail)) Try.isAgg23 (by rfl)) rfl ?_ | refine TrQ.gq rfl rfl hT6 (QS.loadC rfl (by assumption) Try.isAgg23) rfl ?_ | refine TrQ.gq rfl rfl hT6 (QS.el1 rfl (by assumption) Try.isAgg23 (by omega) (by rfl)) rfl ?_ | refine TrQ.gq rfl rfl hT6 (QS.elF rfl (by assumption) Try.isAgg23 (by omega) (by rfl)) rfl ?_ | refine TrQ.gq rfl rfl hT6 (QS.elR1 rfl (by repeat (first | exact List.Mem.head _ | apply List.Mem.tail)) Try.isAgg23 (by omega) (by rfl)) rfl ?_ | refine TrQ.gq rfl rfl hT6 (QS.elRF rfl (by repeat (first | exact List.Mem.head _ | apply List.Mem.tail)) Try.isAgg23 (by omega) (by rfl)) rfl ?_
          refine TrQ.gq rfl rfl hT6 (QS.move rfl) rfl ?_
          refine TrQ.gq rfl rfl hT6 (QS.move rfl) rfl ?_
          first | refine TrQ.gq rfl rfl hT6 (QS.idxN rfl rfl (by assumption) Try.underlying31 Try.sizeOf51 (by rfl) (by omega)) rfl ?_ | refine TrQ.gq rfl rfl hT6 (QS.idxRowN rfl rfl (by repeat (first | exact List.Mem.head _ | apply List.Mem.tail)) Try.underlying31 Try.sizeOf51 (by rfl) (by omega)) rfl ?_ | refine TrQ.gq rfl rfl hT6 (QS.idx rfl rfl (by assumption) Try.underlying31 Try.sizeOf51 (by rfl) (by omega)) rfl ?_ | refine TrQ.gq rfl rfl hT6 (QS.idxRow rfl rfl (by repeat (first | exact List.Mem.head _ | apply List.Mem.tail)) Try.underlying31 Try.sizeOf51 (by rfl) (by omega)) rfl ?_
          refine TrQ.gq rfl rfl hT6 (QS.fieldAddr (off := 0) (ft := 23) rfl Try.underlying51 rfl rfl Try.sizeOf23 (by decide)) rfl ?_
          first | refine TrQ.gq rfl rfl hT6 (QS.loadV rfl (by repeat (first | exact List.Mem.head _ | apply List.Mem.tail)) Try.isAgg23 (by rfl)) rfl ?_ | refine TrQ.gq rfl rfl hT6 (QS.loadC rfl (by assumption) Try.isAgg23) rfl ?_ | refine TrQ.gq rfl rfl hT6 (QS.el1 rfl (by assumption) Try.isAgg23 (by omega) (by rfl)) rfl ?_ | refine TrQ.gq rfl rfl hT6 (QS.elF rfl (by assumption) Try.isAgg23 (by omega) (by rfl)) rfl ?_ | refine TrQ.gq rfl rfl hT6 (QS.elR1 rfl (by repeat (first | exact List.Mem.head _ | apply List.Mem.tail)) Try.isAgg23 (by omega) (by rfl)) rfl ?_ | refine TrQ.gq rfl rfl hT6 (QS.elRF rfl (by repeat (first | exact List.Mem.head _ | apply List.Mem.tail)) Try.isAgg23 (by omega) (by rfl)) rfl ?_
          refine TrQ.gq rfl rfl hT6 (QS.geq32 rfl rfl) rfl ?_
          refine TrQ.gq rfl rfl hF5 (QS.pickT rfl hT6 rfl) rfl ?_
          exact TrQ.end (Sub.cons rfl (Sub.dropN 13 (by kernel_rfl) rfl))
        · intro hF6
          refine TrQ.gskip rfl rfl hF6 rfl ?_
          refine TrQ.gskip rfl rfl hF6 rfl ?_
          refine TrQ.gskip rfl rfl hF6 rfl ?_
          refine TrQ.gskip rfl rfl hF6 rfl ?_
          refine TrQ.gskip rfl rfl hF6 rfl ?_
          refine TrQ.gskip rfl rfl hF6 rfl ?_
          refine TrQ.gskip rfl rfl hF6 rfl ?_
          refine TrQ.gskip rfl rfl hF6 rfl ?_
          refine TrQ.gskip rfl rfl hF6 rfl ?_
          refine TrQ.gskip rfl rfl hF6 rfl ?_
          refine TrQ.gskip rfl rfl hF6 rfl ?_
          refine TrQ.gskip rfl rfl hF6 rfl ?_
          refine TrQ.gq rfl rfl hF5 (QS.pickF rfl hF6 rfl) rfl ?_
          exact TrQ.end (Sub.cons rfl (Sub.dropN 13 (by kernel_rfl) rfl))
        refine TrQ.q (QS.pickF rfl hF5 rfl) rfl ?_
        exact TrQ.end (Sub.cons rfl (Sub.dropN 5 (by kernel_rfl) rfl))
      · intro hT5
        refine TrQ.gskip rfl rfl hT5 rfl ?_
        refine TrQ.gskip rfl rfl hT5 rfl ?_
        refine TrQ.gskip rfl rfl hT5 rfl ?_
        refine TrQ.gskipU rfl rfl rfl ?_
        refine TrQ.gskipU rfl rfl rfl ?_
        refine TrQ.gskipU rfl rfl rfl ?_
        refine TrQ.gskipU rfl rfl rfl ?_
        refine TrQ.gskipU rfl rfl rfl ?_
        refine TrQ.gskipU rfl rfl rfl ?_
        refine TrQ.gskipU rfl rfl rfl ?_
        refine TrQ.gskipU rfl rfl rfl ?_
        refine TrQ.gskipU rfl rfl rfl ?_
        refine TrQ.gskipU rfl rfl rfl ?_
        refine TrQ.gskipU rfl rfl rfl ?_
        refine TrQ.gskipU rfl rfl rfl ?_
        refine TrQ.gskip rfl rfl hT5 rfl ?_
        refine TrQ.q (QS.pickT rfl hT5 rfl) rfl ?_
        exact TrQ.end (Sub.cons rfl (Sub.dropN 17 (by kernel_rfl) rfl))
      refine TrQ.nil ?_
      refine Tr.thenN ?_
      refine Tr.cond rfl (fun h7 => ?_) (fun h7 => ?_)
      · try simp only [Bool.and_eq_true, Bool.or_eq_true, Bool.not_eq_true', Bool.not_eq_false', decide_eq_true_eq, decide_eq_false_iff_not, Bool.and_eq_false_iff, Bool.or_eq_false_iff, ne_eq, Decidable.not_not] at h7
        refine Tr.seq ?_
        refine Tr.region ?_
        refine Tr.q (QS.assign rfl) rfl ?_
        refine Tr.nil ?_
        refine Tr.thenN ?_
        refine Tr.ret ?_
        refine Tr.inR ?_
        refine Tr.thenR ?_
        refine Tr.thenR ?_
        refine Tr.inR ?_
        refine Tr.thenR ?_
        refine Tr.ret1 Try.results8 rfl (fun w' hw => ?_)
        exact absurd (no_bad (k := k) hno (by omega) (by assumption)) (fun q => q)
      · try simp only [Bool.and_eq_true, Bool.or_eq_true, Bool.not_eq_true', Bool.not_eq_false', decide_eq_true_eq, decide_eq_false_iff_not, Bool.and_eq_false_iff, Bool.or_eq_false_iff, ne_eq, Decidable.not_not] at h7
        refine Tr.skip ?_
        refine Tr.inN ?_
        refine Tr.thenN ?_
        refine Tr.region ?_
        refine Tr.q (QS.move rfl) rfl ?_
        first | refine Tr.q (QS.addI rfl rfl (by omega)) rfl ?_ | refine Tr.q (QS.add rfl rfl) rfl ?_
        refine Tr.q (QS.assign rfl) rfl ?_
        refine Tr.nil ?_
        refine Tr.thenN ?_
        apply Tr.again (k + 1)
        · exact rfl
        · exact (.cons (by first | rfl | exact lookI rfl (by omega) | exact lookI rfl (by simp) | exact lookB rfl (by simp)) Front.nil)
        · exact SubX.dropN 21 (by kernel_rfl) rfl
        · exact (by repeat' (first | exact Pick.nil _ | exact Del.here _ | apply Pick.cons | apply Del.there))
        · exact (by show k + 1 ≤ _; omega)
        · exact (by (try dsimp only); omega)
    · try simp only [Bool.and_eq_true, Bool.or_eq_true, Bool.not_eq_true', Bool.not_eq_false', decide_eq_true_eq, decide_eq_false_iff_not, Bool.and_eq_false_iff, Bool.or_eq_false_iff, ne_eq, Decidable.not_not] at h4
      refine Tr.exit ?_
      refine Tr.thenE ?_
      refine Tr.thenE ?_
      refine Tr.inHit ?_
      refine Tr.thenN ?_
      refine Tr.seq ?_
      refine Tr.region ?_
      refine Tr.q (QS.move rfl) rfl ?_
      refine Tr.q (QS.move rfl) rfl ?_
      refine Tr.callRow rfl Try.call36 (fun w hw => subtract_any a b V W w (hw.slF hV) (hw.slF hW) (by omega) (by omega)) rfl (fun V8 => ?_)
      refine Tr.q (QS.assign rfl) rfl ?_
      refine Tr.nil ?_
      refine Tr.thenN ?_
      refine Tr.seq ?_
      refine Tr.region ?_
      refine Tr.q (QS.move rfl) rfl ?_
      refine Tr.q (QS.move rfl) rfl ?_
      refine Tr.callRow rfl Try.call34 (fun w hw => union_any a b V W w (hw.slF hV) (hw.slF hW) (by omega) (by omega)) rfl (fun V9 => ?_)
      refine Tr.q (QS.assign rfl) rfl ?_
      refine Tr.nil ?_
      refine Tr.thenN ?_
      refine Tr.seq ?_
      refine Tr.region ?_
      refine Tr.q (QS.move rfl) rfl ?_
      refine Tr.q (QS.move rfl) rfl ?_
      refine Tr.q (QS.call rfl Try.call26 (fun w hw => contains_any a V x w (hw.slF hV))) rfl ?_
      refine Tr.q (QS.move rfl) rfl ?_
      refine Tr.q (QS.move rfl) rfl ?_
      refine Tr.q (QS.call rfl Try.call26 (fun w hw => contains_any b W x w (hw.slF hW))) rfl ?_
      refine Tr.q (QS.assign rfl) rfl ?_
      refine Tr.q (QS.assign rfl) rfl ?_
      refine Tr.nil ?_
      refine Tr.thenN ?_
      refine Tr.seq ?_
      refine Tr.seq ?_
      refine Tr.region ?_
      refine Tr.q (QS.move rfl) rfl ?_
      refine Tr.q (QS.move rfl) rfl ?_
      refine Tr.q (QS.call rfl Try.call26 (fun w hw => (contains_any nl _ x w (hw.row (.tail _ (.tail _ (.head _))))).mono (fun e w' h => by rw [hnx] at h; exact h))) rfl ?_
      refine Tr.q (QS.move rfl) rfl ?_
      refine Tr.q (QS.bool_neq rfl rfl Try.underlying4) rfl ?_
      refine Tr.q (QS.move rfl) rfl ?_
      apply Tr.or (t := 76) (d := 86) 10
      · exact rfl
      · intro hF10; have hF10' := hF10
        try simp only [Bool.and_eq_true, Bool.or_eq_true, Bool.not_eq_true', Bool.not_eq_false', decide_eq_true_eq, decide_eq_false_iff_not, Bool.and_eq_false_iff, Bool.or_eq_false_iff, ne_eq, Decidable.not_not] at hF10'
        refine Tr.gq rfl rfl hF10 (QS.move rfl) rfl ?_
        refine Tr.gq rfl rfl hF10 (QS.move rfl) rfl ?_
        refine Tr.gq rfl rfl hF10 (QS.call rfl Try.call26 (fun w hw => (contains_any (subtractP a b) _ x w (hw.row (.tail _ (.head _)))).mono (fun e w' h => by rw [any_sub] at h; exact h))) rfl ?_
        refine Tr.gq rfl rfl hF10 (QS.move rfl) rfl ?_
        refine Tr.gq rfl rfl hF10 (QS.move rfl) rfl ?_
        apply Tr.and (t := 81) (d := 84) 3
        · exact rfl
        · intro hT11; have hT11' := hT11
          try simp only [Bool.and_eq_true, Bool.or_eq_true, Bool.not_eq_true', Bool.not_eq_false', decide_eq_true_eq, decide_eq_false_iff_not, Bool.and_eq_false_iff, Bool.or_eq_false_iff, ne_eq, Decidable.not_not] at hT11'
          refine Tr.gq rfl rfl hT11 (QS.move rfl) rfl ?_
          refine Tr.gq rfl rfl hT11 (QS.not rfl) rfl ?_
          refine Tr.gq rfl rfl hF10 (QS.pickT rfl hT11 rfl) rfl ?_
          refine Tr.nil (Tr.thenN ?_)
          first | exact Tr.end (Sub.cons rfl (Sub.dropN 3 (by kernel_rfl) rfl)) rfl rfl | exact Tr.endP (Sub.cons rfl (Sub.dropN 3 (by kernel_rfl) rfl)) rfl (by repeat' (first | exact Pick.nil _ | exact Del.here _ | apply Pick.cons | apply Del.there))
        · intro hF11
          refine Tr.gskip rfl rfl hF11 rfl ?_
          refine Tr.gskip rfl rfl hF11 rfl ?_
          refine Tr.gq rfl rfl hF10 (QS.pickF rfl hF11 rfl) rfl ?_
          refine Tr.nil (Tr.thenN ?_)
          first | exact Tr.end (Sub.cons rfl (Sub.dropN 3 (by kernel_rfl) rfl)) rfl rfl | exact Tr.endP (Sub.cons rfl (Sub.dropN 3 (by kernel_rfl) rfl)) rfl (by repeat' (first | exact Pick.nil _ | exact Del.here _ | apply Pick.cons | apply Del.there))
        refine Tr.gq rfl rfl hF10 (QS.bool_neq rfl rfl Try.underlying4) rfl ?_
        refine Tr.q (QS.pickF rfl hF10 rfl) rfl ?_
        refine Tr.nil (Tr.thenN ?_)
        first | exact Tr.end (Sub.cons rfl (Sub.dropN 8 (by kernel_rfl) rfl)) rfl rfl | exact Tr.endP (Sub.cons rfl (Sub.dropN 8 (by kernel_rfl) rfl)) rfl (by repeat' (first | exact Pick.nil _ | exact Del.here _ | apply Pick.cons | apply Del.there))
      · intro hT10
        refine Tr.gskip rfl rfl hT10 rfl ?_
        refine Tr.gskip rfl rfl hT10 rfl ?_
        refine Tr.gskip rfl rfl hT10 rfl ?_
        refine Tr.gskip rfl rfl hT10 rfl ?_
        refine Tr.gskip rfl rfl hT10 rfl ?_
        refine Tr.gskipU rfl rfl rfl ?_
        refine Tr.gskipU rfl rfl rfl ?_
        refine Tr.gskip rfl rfl hT10 rfl ?_
        refine Tr.gskip rfl rfl hT10 rfl ?_
        refine Tr.q (QS.pickT rfl hT10 rfl) rfl ?_
        refine Tr.nil (Tr.thenN ?_)
        first | exact Tr.end (Sub.cons rfl (Sub.dropN 10 (by kernel_rfl) rfl)) rfl rfl | exact Tr.endP (Sub.cons rfl (Sub.dropN 10 (by kernel_rfl) rfl)) rfl (by repeat' (first | exact Pick.nil _ | exact Del.here _ | apply Pick.cons | apply Del.there))
      refine Tr.q (QS.move rfl) rfl ?_
      apply Tr.or (t := 87) (d := 96) 9
      · exact rfl
      · intro hF12; have hF12' := hF12
        try simp only [Bool.and_eq_true, Bool.or_eq_true, Bool.not_eq_true', Bool.not_eq_false', decide_eq_true_eq, decide_eq_false_iff_not, Bool.and_eq_false_iff, Bool.or_eq_false_iff, ne_eq, Decidable.not_not] at hF12'
        refine Tr.gq rfl rfl hF12 (QS.move rfl) rfl ?_
        refine Tr.gq rfl rfl hF12 (QS.move rfl) rfl ?_
        refine Tr.gq rfl rfl hF12 (QS.call rfl Try.call26 (fun w hw => (contains_any (normalP (a ++ b)) _ x w (hw.row (.head _))).mono (fun e w' h => by rw [any_union] at h; exact h))) rfl ?_
        refine Tr.gq rfl rfl hF12 (QS.move rfl) rfl ?_
        refine Tr.gq rfl rfl hF12 (QS.move rfl) rfl ?_
        apply Tr.or (t := 92) (d := 94) 2
        · exact rfl
        · intro hF13; have hF13' := hF13
          try simp only [Bool.and_eq_true, Bool.or_eq_true, Bool.not_eq_true', Bool.not_eq_false', decide_eq_true_eq, decide_eq_false_iff_not, Bool.and_eq_false_iff, Bool.or_eq_false_iff, ne_eq, Decidable.not_not] at hF13'
          refine Tr.gq rfl rfl hF13 (QS.move rfl) rfl ?_
          refine Tr.gq rfl rfl hF12 (QS.pickF rfl hF13 rfl) rfl ?_
          refine Tr.nil (Tr.thenN ?_)
          first | exact Tr.end (Sub.cons rfl (Sub.dropN 2 (by kernel_rfl) rfl)) rfl rfl | exact Tr.endP (Sub.cons rfl (Sub.dropN 2 (by kernel_rfl) rfl)) rfl (by repeat' (first | exact Pick.nil _ | exact Del.here _ | apply Pick.cons | apply Del.there))
        · intro hT13
          refine Tr.gskip rfl rfl hT13 rfl ?_
          refine Tr.gq rfl rfl hF12 (QS.pickT rfl hT13 rfl) rfl ?_
          refine Tr.nil (Tr.thenN ?_)
          first | exact Tr.end (Sub.cons rfl (Sub.dropN 2 (by kernel_rfl) rfl)) rfl rfl | exact Tr.endP (Sub.cons rfl (Sub.dropN 2 (by kernel_rfl) rfl)) rfl (by repeat' (first | exact Pick.nil _ | exact Del.here _ | apply Pick.cons | apply Del.there))
        refine Tr.gq rfl rfl hF12 (QS.bool_neq rfl rfl Try.underlying4) rfl ?_
        refine Tr.q (QS.pickF rfl hF12 rfl) rfl ?_
        refine Tr.nil (Tr.thenN ?_)
        first | exact Tr.end (Sub.cons rfl (Sub.dropN 8 (by kernel_rfl) rfl)) rfl rfl | exact Tr.endP (Sub.cons rfl (Sub.dropN 8 (by kernel_rfl) rfl)) rfl (by repeat' (first | exact Pick.nil _ | exact Del.here _ | apply Pick.cons | apply Del.there))
      · intro hT12
        refine Tr.gskip rfl rfl hT12 rfl ?_
        refine Tr.gskip rfl rfl hT12 rfl ?_
        refine Tr.gskip rfl rfl hT12 rfl ?_
        refine Tr.gskip rfl rfl hT12 rfl ?_
        refine Tr.gskip rfl rfl hT12 rfl ?_
        refine Tr.gskipU rfl rfl rfl ?_
        refine Tr.gskip rfl rfl hT12 rfl ?_
        refine Tr.gskip rfl rfl hT12 rfl ?_
        refine Tr.q (QS.pickT rfl hT12 rfl) rfl ?_
        refine Tr.nil (Tr.thenN ?_)
        first | exact Tr.end (Sub.cons rfl (Sub.dropN 9 (by kernel_rfl) rfl)) rfl rfl | exact Tr.endP (Sub.cons rfl (Sub.dropN 9 (by kernel_rfl) rfl)) rfl (by repeat' (first | exact Pick.nil _ | exact Del.here _ | apply Pick.cons | apply Del.there))
      refine Tr.nil ?_
      refine Tr.thenN ?_
      refine Tr.cond rfl (fun h14 => ?_) (fun h14 => ?_)
      · try simp only [Bool.and_eq_true, Bool.or_eq_true, Bool.not_eq_true', Bool.not_eq_false', decide_eq_true_eq, decide_eq_false_iff_not, Bool.and_eq_false_iff, Bool.or_eq_false_iff, ne_eq, Decidable.not_not] at h14
        refine Tr.seq ?_
        refine Tr.region ?_
        refine Tr.q (QS.assign rfl) rfl ?_
        refine Tr.nil ?_
        refine Tr.thenN ?_
        refine Tr.ret ?_
        refine Tr.thenR ?_
        refine Tr.ret1 Try.results8 rfl (fun w' hw => ?_)
        exfalso; simp_all
      · try simp only [Bool.and_eq_true, Bool.or_eq_true, Bool.not_eq_true', Bool.not_eq_false', decide_eq_true_eq, decide_eq_false_iff_not, Bool.and_eq_false_iff, Bool.or_eq_false_iff, ne_eq, Decidable.not_not] at h14
        refine Tr.skip ?_
        refine Tr.thenN ?_
        refine Tr.seq ?_
        have hls := lengthP_sets a b
        have hl1 := lenFold_le (normalP (subtractP a b)) 0
        have hl2 := lenFold_le (normalP b) 0
        have hl3 := normalP_len (subtractP a b)
        have hl4 := normalP_len b
        have hl5 := subtractP_len a b (by omega) (by omega)
        have hl6 : lengthP (subtractP a b) = (normalP (subtractP a b)).foldl lenStep 0 := rfl
        have hl7 : lengthP b = (normalP b).foldl lenStep 0 := rfl
        refine Tr.region ?_
        refine Tr.q (QS.move rfl) rfl ?_
        refine Tr.q (QS.call rfl Try.call28 (fun w hw => length_any (normalP (a ++ b)) _ w (hw.row (.head _)) (by have := normalP_len (a ++ b); simp only [List.length_append] at this; omega))) rfl ?_
        refine Tr.q (QS.move rfl) rfl ?_
        refine Tr.q (QS.call rfl Try.call28 (fun w hw => length_any (subtractP a b) _ w (hw.row (.tail _ (.head _))) (subtractP_len a b (by omega) (by omega)))) rfl ?_
        refine Tr.q (QS.move rfl) rfl ?_
        refine Tr.q (QS.call rfl Try.call28 (fun w hw => length_any b W w (hw.slF hW) (by omega))) rfl ?_
        first | refine Tr.q (QS.addI rfl rfl (by omega)) rfl ?_ | refine Tr.q (QS.add rfl rfl) rfl ?_
        refine Tr.q (QS.eql rfl rfl) rfl ?_
        refine Tr.q (QS.move rfl) rfl ?_
        apply Tr.and (t := 105) (d := 107) 2
        · exact rfl
        · intro hT15; have hT15' := hT15
          try simp only [Bool.and_eq_true, Bool.or_eq_true, Bool.not_eq_true', Bool.not_eq_false', decide_eq_true_eq, decide_eq_false_iff_not, Bool.and_eq_false_iff, Bool.or_eq_false_iff, ne_eq, Decidable.not_not] at hT15'
          refine Tr.gq rfl rfl hT15 (QS.call rfl Try.call16 (fun w hw => example02_any w)) rfl ?_
          refine Tr.q (QS.pickT rfl hT15 rfl) rfl ?_
          refine Tr.nil (Tr.thenN ?_)
          first | exact Tr.end (Sub.cons rfl (Sub.dropN 2 (by kernel_rfl) rfl)) rfl rfl | exact Tr.endP (Sub.cons rfl (Sub.dropN 2 (by kernel_rfl) rfl)) rfl (by repeat' (first | exact Pick.nil _ | exact Del.here _ | apply Pick.cons | apply Del.there))
        · intro hF15
          refine Tr.gskip rfl rfl hF15 rfl ?_
          refine Tr.q (QS.pickF rfl hF15 rfl) rfl ?_
          refine Tr.nil (Tr.thenN ?_)
          first | exact Tr.end (Sub.cons rfl (Sub.dropN 2 (by kernel_rfl) rfl)) rfl rfl | exact Tr.endP (Sub.cons rfl (Sub.dropN 2 (by kernel_rfl) rfl)) rfl (by repeat' (first | exact Pick.nil _ | exact Del.here _ | apply Pick.cons | apply Del.there))
        refine Tr.q (QS.assign rfl) rfl ?_
        refine Tr.nil ?_
        refine Tr.thenN ?_
        refine Tr.ret ?_
        refine Tr.ret1 Try.results8 rfl (fun w' hw => ?_)
        exact ⟨by rw [hls]; simp, hw.below (Bg.le.refl _)⟩

end Go.Proofs.Ytfmhhakhbopfdaa
