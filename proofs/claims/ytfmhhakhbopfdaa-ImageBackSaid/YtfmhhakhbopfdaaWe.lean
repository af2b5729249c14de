/- The walks of texts: PutText, GetText and their references. -/
import Derived.Test.YtfmhhakhbopfdaaWb
import Derived.Test.YtfmhhakhbopfdaaMt
set_option linter.unusedSimpArgs false
set_option linter.unusedVariables false
namespace Go.Proofs.Ytfmhhakhbopfdaa
open Go Go.HL Go.RowKit

set_option maxRecDepth 100000 in
set_option maxHeartbeats 2000000 in
theorem getText_any (b : List UInt8) (V : Value) (at_ : Int) (w : World) (hV : Sl (hp w) encU8 b V) (ha : -9223372036854775808 ≤ at_ ∧ at_ ≤ 9223372036854775807) :
    Calls Try.prog 32 #[V, .int .i64 at_] w (fun e w' => e = .returned (.tuple #[.string (getTextP b at_).1, .int .i64 (getTextP b at_).2.1, .int .i64 (getTextP b at_).2.2]) ∧ Ext w w') := by
  have hV' : Sl (Bg.of w).blk encU8 b V := hV
  have hlen := hV.len_le
  have hbt := (b.getD at_.toNat default).toNat_lt
  refine enter Try.func32 rfl Try.ntmps32 rfl ?_
  refine Tr.seq ?_
  refine Tr.region ?_
  refine Tr.q (QS.assign rfl) rfl ?_
  refine Tr.q (QS.assign rfl) rfl ?_
  refine Tr.q (QS.assign rfl) rfl ?_
  refine Tr.nil ?_
  refine Tr.thenN ?_
  refine Tr.seq ?_
  refine Tr.seq ?_
  refine Tr.region ?_
  refine Tr.q (QS.move rfl) rfl ?_
  refine Tr.q (QS.lss rfl rfl) rfl ?_
  refine Tr.q (QS.move rfl) rfl ?_
  apply Tr.or (t := 10) (d := 15) 5
  · exact rfl
  · intro hF1; have hF1' := hF1
    try simp only [Bool.and_eq_true, Bool.or_eq_true, Bool.not_eq_true', Bool.not_eq_false', decide_eq_true_eq, decide_eq_false_iff_not, Bool.and_eq_false_iff, Bool.or_eq_false_iff, ne_eq, Decidable.not_not] at hF1'
    refine Tr.gq rfl rfl hF1 (QS.move rfl) rfl ?_
    refine Tr.gq rfl rfl hF1 (QS.move rfl) rfl ?_
    first | refine Tr.gq rfl rfl hF1 (QS.len rfl (by assumption) Try.underlying22) rfl ?_ | refine Tr.gq rfl rfl hF1 (QS.lenRow rfl (by repeat (first | exact List.Mem.head _ | apply List.Mem.tail)) Try.underlying22) rfl ?_ | refine Tr.gq rfl rfl hF1 (QS.lenNil rfl Try.underlying22) rfl ?_
    refine Tr.gq rfl rfl hF1 (QS.geq rfl rfl) rfl ?_
    refine Tr.q (QS.pickF rfl hF1 rfl) rfl ?_
    refine Tr.nil (Tr.thenN ?_)
    first | exact Tr.end (Sub.cons rfl (Sub.dropN 5 (by kernel_rfl) rfl)) rfl rfl | exact Tr.endP (Sub.cons rfl (Sub.dropN 5 (by kernel_rfl) rfl)) rfl (by repeat' (first | exact Pick.nil _ | exact Del.here _ | apply Pick.cons | apply Del.there))
  · intro hT1
    refine Tr.gskip rfl rfl hT1 rfl ?_
    refine Tr.gskip rfl rfl hT1 rfl ?_
    refine Tr.gskip rfl rfl hT1 rfl ?_
    refine Tr.gskip rfl rfl hT1 rfl ?_
    refine Tr.q (QS.pickT rfl hT1 rfl) rfl ?_
    refine Tr.nil (Tr.thenN ?_)
    first | exact Tr.end (Sub.cons rfl (Sub.dropN 5 (by kernel_rfl) rfl)) rfl rfl | exact Tr.endP (Sub.cons rfl (Sub.dropN 5 (by kernel_rfl) rfl)) rfl (by repeat' (first | exact Pick.nil _ | exact Del.here _ | apply Pick.cons | apply Del.there))
  refine Tr.nil ?_
  refine Tr.thenN ?_
  refine Tr.cond rfl (fun h2 => ?_) (fun h2 => ?_)
  · try simp only [Bool.and_eq_true, Bool.or_eq_true, Bool.not_eq_true', Bool.not_eq_false', decide_eq_true_eq, decide_eq_false_iff_not, Bool.and_eq_false_iff, Bool.or_eq_false_iff, ne_eq, Decidable.not_not] at h2
    refine Tr.seq ?_
    refine Tr.region ?_
    refine Tr.q (QS.assign rfl) rfl ?_
    refine Tr.q (QS.assign rfl) rfl ?_
    refine Tr.q (QS.assign rfl) rfl ?_
    refine Tr.nil ?_
    refine Tr.thenN ?_
    refine Tr.ret ?_
    refine Tr.thenR ?_
    refine Tr.ret3 Try.results32 rfl rfl rfl (fun w' hw => ?_)
    exact ⟨by rw [getTextP_1 (by omega)]; rfl, hw.below (Bg.le.refl _)⟩
  · try simp only [Bool.and_eq_true, Bool.or_eq_true, Bool.not_eq_true', Bool.not_eq_false', decide_eq_true_eq, decide_eq_false_iff_not, Bool.and_eq_false_iff, Bool.or_eq_false_iff, ne_eq, Decidable.not_not] at h2
    refine Tr.skip ?_
    refine Tr.thenN ?_
    refine Tr.seq ?_
    refine Tr.region ?_
    refine Tr.q (QS.move rfl) rfl ?_
    refine Tr.q (QS.move rfl) rfl ?_
    first | refine Tr.q (QS.idxN rfl rfl (by assumption) Try.underlying22 Try.sizeOf5 (by rfl) (by omega)) rfl ?_ | refine Tr.q (QS.idxRowN rfl rfl (by repeat (first | exact List.Mem.head _ | apply List.Mem.tail)) Try.underlying22 Try.sizeOf5 (by rfl) (by omega)) rfl ?_ | refine Tr.q (QS.idx rfl rfl (by assumption) Try.underlying22 Try.sizeOf5 (by rfl) (by omega)) rfl ?_ | refine Tr.q (QS.idxRow rfl rfl (by repeat (first | exact List.Mem.head _ | apply List.Mem.tail)) Try.underlying22 Try.sizeOf5 (by rfl) (by omega)) rfl ?_
    first | refine Tr.q (QS.loadV rfl (by repeat (first | exact List.Mem.head _ | apply List.Mem.tail)) Try.isAgg5 (by rfl)) rfl ?_ | refine Tr.q (QS.loadC rfl (by assumption) Try.isAgg5) rfl ?_ | refine Tr.q (QS.el1 rfl (by assumption) Try.isAgg5 (by omega) (by rfl)) rfl ?_ | refine Tr.q (QS.elF rfl (by assumption) Try.isAgg5 (by omega) (by rfl)) rfl ?_ | refine Tr.q (QS.elR1 rfl (by repeat (first | exact List.Mem.head _ | apply List.Mem.tail)) Try.isAgg5 (by omega) (by rfl)) rfl ?_ | refine Tr.q (QS.elRF rfl (by repeat (first | exact List.Mem.head _ | apply List.Mem.tail)) Try.isAgg5 (by omega) (by rfl)) rfl ?_
    refine Tr.q (QS.cvt8toI rfl Try.underlying5 Try.underlying3) rfl ?_
    refine Tr.q (QS.assign rfl) rfl ?_
    refine Tr.nil ?_
    refine Tr.thenN ?_
    refine Tr.seq ?_
    refine Tr.seq ?_
    refine Tr.region ?_
    refine Tr.q (QS.move rfl) rfl ?_
    refine Tr.q (QS.gtr rfl rfl) rfl ?_
    refine Tr.nil ?_
    refine Tr.thenN ?_
    refine Tr.cond rfl (fun h3 => ?_) (fun h3 => ?_)
    · try simp only [Bool.and_eq_true, Bool.or_eq_true, Bool.not_eq_true', Bool.not_eq_false', decide_eq_true_eq, decide_eq_false_iff_not, Bool.and_eq_false_iff, Bool.or_eq_false_iff, ne_eq, Decidable.not_not] at h3
      refine Tr.seq ?_
      refine Tr.region ?_
      refine Tr.q (QS.assign rfl) rfl ?_
      refine Tr.q (QS.assign rfl) rfl ?_
      refine Tr.q (QS.assign rfl) rfl ?_
      refine Tr.nil ?_
      refine Tr.thenN ?_
      refine Tr.ret ?_
      refine Tr.thenR ?_
      refine Tr.ret3 Try.results32 rfl rfl rfl (fun w' hw => ?_)
      exact ⟨by rw [getTextP_2 (by omega) (by omega)]; rfl, hw.below (Bg.le.refl _)⟩
    · try simp only [Bool.and_eq_true, Bool.or_eq_true, Bool.not_eq_true', Bool.not_eq_false', decide_eq_true_eq, decide_eq_false_iff_not, Bool.and_eq_false_iff, Bool.or_eq_false_iff, ne_eq, Decidable.not_not] at h3
      refine Tr.skip ?_
      refine Tr.thenN ?_
      refine Tr.seq ?_
      refine Tr.seq ?_
      refine Tr.region ?_
      refine Tr.q (QS.move rfl) rfl ?_
      refine Tr.q (QS.move rfl) rfl ?_
      first | refine Tr.q (QS.len rfl (by assumption) Try.underlying22) rfl ?_ | refine Tr.q (QS.lenRow rfl (by repeat (first | exact List.Mem.head _ | apply List.Mem.tail)) Try.underlying22) rfl ?_ | refine Tr.q (QS.lenNil rfl Try.underlying22) rfl ?_
      refine Tr.q (QS.move rfl) rfl ?_
      first | refine Tr.q (QS.subI rfl rfl (by omega)) rfl ?_ | refine Tr.q (QS.sub rfl rfl) rfl ?_
      first | refine Tr.q (QS.subI rfl rfl (by omega)) rfl ?_ | refine Tr.q (QS.sub rfl rfl) rfl ?_
      refine Tr.q (QS.gtr rfl rfl) rfl ?_
      refine Tr.nil ?_
      refine Tr.thenN ?_
      refine Tr.cond rfl (fun h4 => ?_) (fun h4 => ?_)
      · try simp only [Bool.and_eq_true, Bool.or_eq_true, Bool.not_eq_true', Bool.not_eq_false', decide_eq_true_eq, decide_eq_false_iff_not, Bool.and_eq_false_iff, Bool.or_eq_false_iff, ne_eq, Decidable.not_not] at h4
        refine Tr.seq ?_
        refine Tr.region ?_
        refine Tr.q (QS.assign rfl) rfl ?_
        refine Tr.q (QS.assign rfl) rfl ?_
        refine Tr.q (QS.assign rfl) rfl ?_
        refine Tr.nil ?_
        refine Tr.thenN ?_
        refine Tr.ret ?_
        refine Tr.thenR ?_
        refine Tr.ret3 Try.results32 rfl rfl rfl (fun w' hw => ?_)
        exact ⟨by rw [getTextP_3 (by omega) (by omega) (by omega)]; rfl, hw.below (Bg.le.refl _)⟩
      · try simp only [Bool.and_eq_true, Bool.or_eq_true, Bool.not_eq_true', Bool.not_eq_false', decide_eq_true_eq, decide_eq_false_iff_not, Bool.and_eq_false_iff, Bool.or_eq_false_iff, ne_eq, Decidable.not_not] at h4
        refine Tr.skip ?_
        refine Tr.thenN ?_
        refine Tr.seq ?_
        refine Tr.region ?_
        refine Tr.q (QS.move rfl) rfl ?_
        refine Tr.q (QS.move rfl) rfl ?_
        first | refine Tr.q (QS.addI rfl rfl (by omega)) rfl ?_ | refine Tr.q (QS.add rfl rfl) rfl ?_
        refine Tr.q (QS.move rfl) rfl ?_
        first | refine Tr.q (QS.addI rfl rfl (by omega)) rfl ?_ | refine Tr.q (QS.add rfl rfl) rfl ?_
        refine Tr.q (QS.move rfl) rfl ?_
        first | refine Tr.q (QS.addI rfl rfl (by omega)) rfl ?_ | refine Tr.q (QS.add rfl rfl) rfl ?_
        refine Tr.q (QS.slice (lv := some (_, _)) (hv := some (_, _)) rfl (by assumption) rfl rfl Try.underlying22 Try.sizeOf5 (by rfl) (by simp only [loOf, hiOf]; omega) (by simp only [loOf, hiOf]; omega) (by simp only [loOf, hiOf]; omega)) rfl ?_
        first | refine Tr.q (QS.bytesStr rfl (by assumption) Try.underlying22 Try.underlying5 Try.underlying9) rfl ?_ | refine Tr.q (QS.bytesStrRow rfl (by repeat (first | exact List.Mem.head _ | apply List.Mem.tail)) Try.underlying22 Try.underlying5 Try.underlying9) rfl ?_ | refine Tr.q (QS.bytesStr rfl (Sl.resl (by assumption) (by simp only [loOf, hiOf]; omega) (by simp only [loOf, hiOf]; omega)) Try.underlying22 Try.underlying5 Try.underlying9) rfl ?_
        refine Tr.q (QS.move rfl) rfl ?_
        first | refine Tr.q (QS.addI rfl rfl (by omega)) rfl ?_ | refine Tr.q (QS.add rfl rfl) rfl ?_
        refine Tr.q (QS.move rfl) rfl ?_
        first | refine Tr.q (QS.addI rfl rfl (by omega)) rfl ?_ | refine Tr.q (QS.add rfl rfl) rfl ?_
        refine Tr.q (QS.assign rfl) rfl ?_
        refine Tr.q (QS.assign rfl) rfl ?_
        refine Tr.q (QS.assign rfl) rfl ?_
        refine Tr.nil ?_
        refine Tr.thenN ?_
        refine Tr.ret ?_
        refine Tr.ret3 Try.results32 rfl rfl rfl (fun w' hw => ?_)
        exact ⟨by rw [getTextP_4 (by omega) (by omega) (by omega)]; rfl, hw.below (Bg.le.refl _)⟩

set_option maxRecDepth 100000 in
set_option maxHeartbeats 2000000 in
theorem refGetText_any (b : List UInt8) (V : Value) (at_ : Int) (w : World) (hV : Sl (hp w) encU8 b V) (ha : -9223372036854775808 ≤ at_ ∧ at_ ≤ 9223372036854775807) :
    Calls Try.prog 33 #[V, .int .i64 at_] w (fun e w' => e = .returned (.tuple #[.string (getTextP b at_).1, .int .i64 (getTextP b at_).2.1, .int .i64 (getTextP b at_).2.2]) ∧ Ext w w') := by
  have hV' : Sl (Bg.of w).blk encU8 b V := hV
  have hlen := hV.len_le
  have hbt := (b.getD at_.toNat default).toNat_lt
  refine enter Try.func33 rfl Try.ntmps33 rfl ?_
  refine Tr.seq ?_
  refine Tr.region ?_
  refine Tr.q (QS.assign rfl) rfl ?_
  refine Tr.q (QS.assign rfl) rfl ?_
  refine Tr.q (QS.assign rfl) rfl ?_
  refine Tr.nil ?_
  refine Tr.thenN ?_
  refine Tr.seq ?_
  refine Tr.seq ?_
  refine Tr.region ?_
  refine Tr.q (QS.move rfl) rfl ?_
  refine Tr.q (QS.lss rfl rfl) rfl ?_
  refine Tr.q (QS.move rfl) rfl ?_
  apply Tr.or (t := 10) (d := 15) 5
  · exact rfl
  · intro hF1; have hF1' := hF1
    try simp only [Bool.and_eq_true, Bool.or_eq_true, Bool.not_eq_true', Bool.not_eq_false', decide_eq_true_eq, decide_eq_false_iff_not, Bool.and_eq_false_iff, Bool.or_eq_false_iff, ne_eq, Decidable.not_not] at hF1'
    refine Tr.gq rfl rfl hF1 (QS.move rfl) rfl ?_
    refine Tr.gq rfl rfl hF1 (QS.move rfl) rfl ?_
    first | refine Tr.gq rfl rfl hF1 (QS.len rfl (by assumption) Try.underlying22) rfl ?_ | refine Tr.gq rfl rfl hF1 (QS.lenRow rfl (by repeat (first | exact List.Mem.head _ | apply List.Mem.tail)) Try.underlying22) rfl ?_ | refine Tr.gq rfl rfl hF1 (QS.lenNil rfl Try.underlying22) rfl ?_
    refine Tr.gq rfl rfl hF1 (QS.geq rfl rfl) rfl ?_
    refine Tr.q (QS.pickF rfl hF1 rfl) rfl ?_
    refine Tr.nil (Tr.thenN ?_)
    first | exact Tr.end (Sub.cons rfl (Sub.dropN 5 (by kernel_rfl) rfl)) rfl rfl | exact Tr.endP (Sub.cons rfl (Sub.dropN 5 (by kernel_rfl) rfl)) rfl (by repeat' (first | exact Pick.nil _ | exact Del.here _ | apply Pick.cons | apply Del.there))
  · intro hT1
    refine Tr.gskip rfl rfl hT1 rfl ?_
    refine Tr.gskip rfl rfl hT1 rfl ?_
    refine Tr.gskip rfl rfl hT1 rfl ?_
    refine Tr.gskip rfl rfl hT1 rfl ?_
    refine Tr.q (QS.pickT rfl hT1 rfl) rfl ?_
    refine Tr.nil (Tr.thenN ?_)
    first | exact Tr.end (Sub.cons rfl (Sub.dropN 5 (by kernel_rfl) rfl)) rfl rfl | exact Tr.endP (Sub.cons rfl (Sub.dropN 5 (by kernel_rfl) rfl)) rfl (by repeat' (first | exact Pick.nil _ | exact Del.here _ | apply Pick.cons | apply Del.there))
  refine Tr.nil ?_
  refine Tr.thenN ?_
  refine Tr.cond rfl (fun h2 => ?_) (fun h2 => ?_)
  · try simp only [Bool.and_eq_true, Bool.or_eq_true, Bool.not_eq_true', Bool.not_eq_false', decide_eq_true_eq, decide_eq_false_iff_not, Bool.and_eq_false_iff, Bool.or_eq_false_iff, ne_eq, Decidable.not_not] at h2
    refine Tr.seq ?_
    refine Tr.region ?_
    refine Tr.q (QS.assign rfl) rfl ?_
    refine Tr.q (QS.assign rfl) rfl ?_
    refine Tr.q (QS.assign rfl) rfl ?_
    refine Tr.nil ?_
    refine Tr.thenN ?_
    refine Tr.ret ?_
    refine Tr.thenR ?_
    refine Tr.ret3 Try.results33 rfl rfl rfl (fun w' hw => ?_)
    exact ⟨by rw [getTextP_1 (by omega)]; rfl, hw.below (Bg.le.refl _)⟩
  · try simp only [Bool.and_eq_true, Bool.or_eq_true, Bool.not_eq_true', Bool.not_eq_false', decide_eq_true_eq, decide_eq_false_iff_not, Bool.and_eq_false_iff, Bool.or_eq_false_iff, ne_eq, Decidable.not_not] at h2
    refine Tr.skip ?_
    refine Tr.thenN ?_
    refine Tr.seq ?_
    refine Tr.region ?_
    refine Tr.q (QS.move rfl) rfl ?_
    refine Tr.q (QS.move rfl) rfl ?_
    first | refine Tr.q (QS.idxN rfl rfl (by assumption) Try.underlying22 Try.sizeOf5 (by rfl) (by omega)) rfl ?_ | refine Tr.q (QS.idxRowN rfl rfl (by repeat (first | exact List.Mem.head _ | apply List.Mem.tail)) Try.underlying22 Try.sizeOf5 (by rfl) (by omega)) rfl ?_ | refine Tr.q (QS.idx rfl rfl (by assumption) Try.underlying22 Try.sizeOf5 (by rfl) (by omega)) rfl ?_ | refine Tr.q (QS.idxRow rfl rfl (by repeat (first | exact List.Mem.head _ | apply List.Mem.tail)) Try.underlying22 Try.sizeOf5 (by rfl) (by omega)) rfl ?_
    first | refine Tr.q (QS.loadV rfl (by repeat (first | exact List.Mem.head _ | apply List.Mem.tail)) Try.isAgg5 (by rfl)) rfl ?_ | refine Tr.q (QS.loadC rfl (by assumption) Try.isAgg5) rfl ?_ | refine Tr.q (QS.el1 rfl (by assumption) Try.isAgg5 (by omega) (by rfl)) rfl ?_ | refine Tr.q (QS.elF rfl (by assumption) Try.isAgg5 (by omega) (by rfl)) rfl ?_ | refine Tr.q (QS.elR1 rfl (by repeat (first | exact List.Mem.head _ | apply List.Mem.tail)) Try.isAgg5 (by omega) (by rfl)) rfl ?_ | refine Tr.q (QS.elRF rfl (by repeat (first | exact List.Mem.head _ | apply List.Mem.tail)) Try.isAgg5 (by omega) (by rfl)) rfl ?_
    refine Tr.q (QS.cvt8toI rfl Try.underlying5 Try.underlying3) rfl ?_
    refine Tr.q (QS.assign rfl) rfl ?_
    refine Tr.nil ?_
    refine Tr.thenN ?_
    refine Tr.seq ?_
    refine Tr.seq ?_
    refine Tr.region ?_
    refine Tr.q (QS.move rfl) rfl ?_
    refine Tr.q (QS.gtr rfl rfl) rfl ?_
    refine Tr.nil ?_
    refine Tr.thenN ?_
    refine Tr.cond rfl (fun h3 => ?_) (fun h3 => ?_)
    · try simp only [Bool.and_eq_true, Bool.or_eq_true, Bool.not_eq_true', Bool.not_eq_false', decide_eq_true_eq, decide_eq_false_iff_not, Bool.and_eq_false_iff, Bool.or_eq_false_iff, ne_eq, Decidable.not_not] at h3
      refine Tr.seq ?_
      refine Tr.region ?_
      refine Tr.q (QS.assign rfl) rfl ?_
      refine Tr.q (QS.assign rfl) rfl ?_
      refine Tr.q (QS.assign rfl) rfl ?_
      refine Tr.nil ?_
      refine Tr.thenN ?_
      refine Tr.ret ?_
      refine Tr.thenR ?_
      refine Tr.ret3 Try.results33 rfl rfl rfl (fun w' hw => ?_)
      exact ⟨by rw [getTextP_2 (by omega) (by omega)]; rfl, hw.below (Bg.le.refl _)⟩
    · try simp only [Bool.and_eq_true, Bool.or_eq_true, Bool.not_eq_true', Bool.not_eq_false', decide_eq_true_eq, decide_eq_false_iff_not, Bool.and_eq_false_iff, Bool.or_eq_false_iff, ne_eq, Decidable.not_not] at h3
      refine Tr.skip ?_
      refine Tr.thenN ?_
      refine Tr.seq ?_
      refine Tr.seq ?_
      refine Tr.region ?_
      refine Tr.q (QS.move rfl) rfl ?_
      refine Tr.q (QS.move rfl) rfl ?_
      first | refine Tr.q (QS.len rfl (by assumption) Try.underlying22) rfl ?_ | refine Tr.q (QS.lenRow rfl (by repeat (first | exact List.Mem.head _ | apply List.Mem.tail)) Try.underlying22) rfl ?_ | refine Tr.q (QS.lenNil rfl Try.underlying22) rfl ?_
      refine Tr.q (QS.move rfl) rfl ?_
      first | refine Tr.q (QS.subI rfl rfl (by omega)) rfl ?_ | refine Tr.q (QS.sub rfl rfl) rfl ?_
      first | refine Tr.q (QS.subI rfl rfl (by omega)) rfl ?_ | refine Tr.q (QS.sub rfl rfl) rfl ?_
      refine Tr.q (QS.gtr rfl rfl) rfl ?_
      refine Tr.nil ?_
      refine Tr.thenN ?_
      refine Tr.cond rfl (fun h4 => ?_) (fun h4 => ?_)
      · try simp only [Bool.and_eq_true, Bool.or_eq_true, Bool.not_eq_true', Bool.not_eq_false', decide_eq_true_eq, decide_eq_false_iff_not, Bool.and_eq_false_iff, Bool.or_eq_false_iff, ne_eq, Decidable.not_not] at h4
        refine Tr.seq ?_
        refine Tr.region ?_
        refine Tr.q (QS.assign rfl) rfl ?_
        refine Tr.q (QS.assign rfl) rfl ?_
        refine Tr.q (QS.assign rfl) rfl ?_
        refine Tr.nil ?_
        refine Tr.thenN ?_
        refine Tr.ret ?_
        refine Tr.thenR ?_
        refine Tr.ret3 Try.results33 rfl rfl rfl (fun w' hw => ?_)
        exact ⟨by rw [getTextP_3 (by omega) (by omega) (by omega)]; rfl, hw.below (Bg.le.refl _)⟩
      · try simp only [Bool.and_eq_true, Bool.or_eq_true, Bool.not_eq_true', Bool.not_eq_false', decide_eq_true_eq, decide_eq_false_iff_not, Bool.and_eq_false_iff, Bool.or_eq_false_iff, ne_eq, Decidable.not_not] at h4
        refine Tr.skip ?_
        refine Tr.thenN ?_
        refine Tr.seq ?_
        refine Tr.region ?_
        refine Tr.q (QS.move rfl) rfl ?_
        refine Tr.q (QS.move rfl) rfl ?_
        first | refine Tr.q (QS.addI rfl rfl (by omega)) rfl ?_ | refine Tr.q (QS.add rfl rfl) rfl ?_
        refine Tr.q (QS.move rfl) rfl ?_
        first | refine Tr.q (QS.addI rfl rfl (by omega)) rfl ?_ | refine Tr.q (QS.add rfl rfl) rfl ?_
        refine Tr.q (QS.move rfl) rfl ?_
        first | refine Tr.q (QS.addI rfl rfl (by omega)) rfl ?_ | refine Tr.q (QS.add rfl rfl) rfl ?_
        refine Tr.q (QS.slice (lv := some (_, _)) (hv := some (_, _)) rfl (by assumption) rfl rfl Try.underlying22 Try.sizeOf5 (by rfl) (by simp only [loOf, hiOf]; omega) (by simp only [loOf, hiOf]; omega) (by simp only [loOf, hiOf]; omega)) rfl ?_
        first | refine Tr.q (QS.bytesStr rfl (by assumption) Try.underlying22 Try.underlying5 Try.underlying9) rfl ?_ | refine Tr.q (QS.bytesStrRow rfl (by repeat (first | exact List.Mem.head _ | apply List.Mem.tail)) Try.underlying22 Try.underlying5 Try.underlying9) rfl ?_ | refine Tr.q (QS.bytesStr rfl (Sl.resl (by assumption) (by simp only [loOf, hiOf]; omega) (by simp only [loOf, hiOf]; omega)) Try.underlying22 Try.underlying5 Try.underlying9) rfl ?_
        refine Tr.q (QS.move rfl) rfl ?_
        first | refine Tr.q (QS.addI rfl rfl (by omega)) rfl ?_ | refine Tr.q (QS.add rfl rfl) rfl ?_
        refine Tr.q (QS.move rfl) rfl ?_
        first | refine Tr.q (QS.addI rfl rfl (by omega)) rfl ?_ | refine Tr.q (QS.add rfl rfl) rfl ?_
        refine Tr.q (QS.assign rfl) rfl ?_
        refine Tr.q (QS.assign rfl) rfl ?_
        refine Tr.q (QS.assign rfl) rfl ?_
        refine Tr.nil ?_
        refine Tr.thenN ?_
        refine Tr.ret ?_
        refine Tr.ret3 Try.results33 rfl rfl rfl (fun w' hw => ?_)
        exact ⟨by rw [getTextP_4 (by omega) (by omega) (by omega)]; rfl, hw.below (Bg.le.refl _)⟩

set_option maxRecDepth 100000 in
set_option maxHeartbeats 2000000 in
theorem putText_any (b : List UInt8) (V : Value) (s : ByteArray) (w : World) (hV : Sl (hp w) encU8 b V) (hb : b.length ≤ 1000000) :
    Calls Try.prog 30 #[V, .string s] w (fun e w' => ∃ V', e = .returned (.tuple #[V', .int .i64 (putTextE s)]) ∧ Ext w w' ∧ NewRow w w' 5 encU8 (putTextP b s) V') := by
  refine enter Try.func30 rfl Try.ntmps30 rfl ?_
  refine Tr.seq ?_
  refine Tr.region ?_
  refine Tr.q (QS.assign rfl) rfl ?_
  refine Tr.q (QS.assign rfl) rfl ?_
  refine Tr.nil ?_
  refine Tr.thenN ?_
  refine Tr.seq ?_
  refine Tr.seq ?_
  refine Tr.region ?_
  refine Tr.q (QS.move rfl) rfl ?_
  refine Tr.q (QS.lenStr rfl Try.underlying9) rfl ?_
  refine Tr.q (QS.gtr rfl rfl) rfl ?_
  refine Tr.nil ?_
  refine Tr.thenN ?_
  refine Tr.cond rfl (fun h1 => ?_) (fun h1 => ?_)
  · try simp only [Bool.and_eq_true, Bool.or_eq_true, Bool.not_eq_true', Bool.not_eq_false', decide_eq_true_eq, decide_eq_false_iff_not, Bool.and_eq_false_iff, Bool.or_eq_false_iff, ne_eq, Decidable.not_not] at h1
    refine Tr.seq ?_
    refine Tr.region ?_
    refine Tr.q (QS.assign rfl) rfl ?_
    refine Tr.q (QS.assign rfl) rfl ?_
    refine Tr.nil ?_
    refine Tr.thenN ?_
    refine Tr.ret ?_
    refine Tr.thenR ?_
    refine Tr.ret2 Try.results30 rfl rfl (fun w' hw => ?_)
    exact ⟨_, by rw [(putTextP_big (b := b) h1).2], hw.below (Bg.le.refl _), newRow_nil (putTextP_big h1).1⟩
  · try simp only [Bool.and_eq_true, Bool.or_eq_true, Bool.not_eq_true', Bool.not_eq_false', decide_eq_true_eq, decide_eq_false_iff_not, Bool.and_eq_false_iff, Bool.or_eq_false_iff, ne_eq, Decidable.not_not] at h1
    refine Tr.skip ?_
    refine Tr.thenN ?_
    refine Tr.seq ?_
    refine Tr.region ?_
    refine Tr.q (QS.move rfl) rfl ?_
    refine Tr.callRow rfl Try.call59 (fun w hw => own_u8 b V w (hw.slF hV) (by omega)) rfl (fun V2 => ?_)
    refine Tr.q (QS.move rfl) rfl ?_
    refine Tr.q (QS.lenStr rfl Try.underlying9) rfl ?_
    refine Tr.q (QS.cvtTo8 rfl Try.underlying3 Try.underlying5) rfl ?_
    refine Tr.lit1 (E := encU8) _ rfl rfl Try.underlying22 Try.sizeOf5 Try.zeroValue5 (by rfl) (by rfl) rfl (fun V3 => ?_)
    first | refine Tr.append1 rfl rfl (by repeat (first | exact Del.here _ | apply Del.there)) (by repeat (first | exact Del.here _ | apply Del.there)) Try.underlying22 HLF.info5 (by rfl) (by rfl) (by (try simp only [List.length_cons, List.length_nil, List.length_append, List.length_take]); omega) (by unfold maxLen; (try simp only [List.length_cons, List.length_nil, List.length_append, List.length_take]); omega) rfl (fun V4 => ?_) | refine Tr.ownNil _ _ (Tr.append1 rfl rfl (by repeat (first | exact Del.here _ | apply Del.there)) (by repeat (first | exact Del.here _ | apply Del.there)) Try.underlying22 HLF.info5 (by rfl) (by rfl) (by (try simp only [List.length_cons, List.length_nil, List.length_append, List.length_take]); omega) (by unfold maxLen; (try simp only [List.length_cons, List.length_nil, List.length_append, List.length_take]); omega) rfl (fun V4 => ?_)) | refine Tr.appendOf rfl rfl (by repeat (first | exact Del.here _ | apply Del.there)) (fun w hw => hw.slF (by assumption)) Try.underlying22 HLF.info5 (by rfl) (by rfl) (by (try simp only [List.length_cons, List.length_nil, List.length_append, List.length_take]); omega) (by unfold maxLen; (try simp only [List.length_cons, List.length_nil, List.length_append, List.length_take]); omega) rfl (fun V4 => ?_) | refine Tr.ownNil _ _ (Tr.appendOf rfl rfl (by repeat (first | exact Del.here _ | apply Del.there)) (fun w hw => hw.slF (by assumption)) Try.underlying22 HLF.info5 (by rfl) (by rfl) (by (try simp only [List.length_cons, List.length_nil, List.length_append, List.length_take]); omega) (by unfold maxLen; (try simp only [List.length_cons, List.length_nil, List.length_append, List.length_take]); omega) rfl (fun V4 => ?_)) | refine Tr.appendOf rfl rfl (by repeat (first | exact Del.here _ | apply Del.there)) (fun w hw => hw.row (by repeat (first | exact List.Mem.head _ | apply List.Mem.tail))) Try.underlying22 HLF.info5 (by rfl) (by rfl) (by (try simp only [List.length_cons, List.length_nil, List.length_append, List.length_take]); omega) (by unfold maxLen; (try simp only [List.length_cons, List.length_nil, List.length_append, List.length_take]); omega) rfl (fun V4 => ?_)
    refine Tr.q (QS.move rfl) rfl ?_
    refine Tr.appendStr rfl rfl (by repeat (first | exact Del.here _ | apply Del.there)) Try.underlying22 Try.underlying9 HLF.info5 (by rfl) (by rfl) (by (try simp only [List.length_cons, List.length_nil, List.length_append, List.length_take]); omega) (by unfold maxLen; (try simp only [List.length_cons, List.length_nil, List.length_append, List.length_take]); omega) rfl (fun V5 => ?_)
    refine Tr.q (QS.assign rfl) rfl ?_
    refine Tr.q (QS.assign rfl) rfl ?_
    refine Tr.nil ?_
    refine Tr.thenN ?_
    refine Tr.ret ?_
    refine Tr.ret2 Try.results30 rfl rfl (fun w' hw => ?_)
    exact ⟨_, by rw [(putTextP_ok (b := b) h1).2], hw.below (Bg.le.refl _), by rw [(putTextP_ok h1).1]; exact hw.new (.head _)⟩

set_option maxRecDepth 100000 in
set_option maxHeartbeats 2000000 in
theorem refPutText_any (b : List UInt8) (V : Value) (s : ByteArray) (w : World) (hV : Sl (hp w) encU8 b V) (hb : b.length ≤ 1000000) :
    Calls Try.prog 31 #[V, .string s] w (fun e w' => ∃ V', e = .returned (.tuple #[V', .int .i64 (putTextE s)]) ∧ Ext w w' ∧ NewRow w w' 5 encU8 (putTextP b s) V') := by
  refine enter Try.func31 rfl Try.ntmps31 rfl ?_
  refine Tr.seq ?_
  refine Tr.region ?_
  refine Tr.q (QS.assign rfl) rfl ?_
  refine Tr.q (QS.assign rfl) rfl ?_
  refine Tr.nil ?_
  refine Tr.thenN ?_
  refine Tr.seq ?_
  refine Tr.seq ?_
  refine Tr.region ?_
  refine Tr.q (QS.move rfl) rfl ?_
  refine Tr.q (QS.lenStr rfl Try.underlying9) rfl ?_
  refine Tr.q (QS.gtr rfl rfl) rfl ?_
  refine Tr.nil ?_
  refine Tr.thenN ?_
  refine Tr.cond rfl (fun h1 => ?_) (fun h1 => ?_)
  · try simp only [Bool.and_eq_true, Bool.or_eq_true, Bool.not_eq_true', Bool.not_eq_false', decide_eq_true_eq, decide_eq_false_iff_not, Bool.and_eq_false_iff, Bool.or_eq_false_iff, ne_eq, Decidable.not_not] at h1
    refine Tr.seq ?_
    refine Tr.region ?_
    refine Tr.q (QS.assign rfl) rfl ?_
    refine Tr.q (QS.assign rfl) rfl ?_
    refine Tr.nil ?_
    refine Tr.thenN ?_
    refine Tr.ret ?_
    refine Tr.thenR ?_
    refine Tr.ret2 Try.results31 rfl rfl (fun w' hw => ?_)
    exact ⟨_, by rw [(putTextP_big (b := b) h1).2], hw.below (Bg.le.refl _), newRow_nil (putTextP_big h1).1⟩
  · try simp only [Bool.and_eq_true, Bool.or_eq_true, Bool.not_eq_true', Bool.not_eq_false', decide_eq_true_eq, decide_eq_false_iff_not, Bool.and_eq_false_iff, Bool.or_eq_false_iff, ne_eq, Decidable.not_not] at h1
    refine Tr.skip ?_
    refine Tr.thenN ?_
    refine Tr.seq ?_
    refine Tr.region ?_
    refine Tr.q (QS.move rfl) rfl ?_
    refine Tr.q (QS.move rfl) rfl ?_
    refine Tr.q (QS.lenStr rfl Try.underlying9) rfl ?_
    refine Tr.q (QS.cvtTo32 rfl Try.underlying3 Try.underlying23) rfl ?_
    refine Tr.callRow rfl Try.call21 (fun w hw => refPut_any b V (u32 (s.size : Nat)) 1 w (hw.slF hV) (by omega)) rfl (fun V2 => ?_)
    refine Tr.q (QS.assign rfl) rfl ?_
    refine Tr.nil ?_
    refine Tr.thenN ?_
    refine Tr.seq ?_
    refine Tr.seq ?_
    refine Tr.region ?_
    refine Tr.q (QS.assign rfl) rfl ?_
    refine Tr.nil ?_
    refine Tr.thenN ?_
    refine Tr.block ?_
    have hbl := bts_len s
    rw [put_one b s (by omega), ← List.append_nil (b ++ [u8 (s.size : Nat)])]
    refine Tr.loop (ι := Nat × Value) (fun ⟨k, V'⟩ => k ≤ s.size) (fun _ => _) (fun ⟨k, V'⟩ => [rowE V' 5 encU8 (b ++ [u8 (s.size : Nat)] ++ (bts s).take k)]) (fun ⟨k, V'⟩ => [(7, .int .i64 (k : Nat)), (6, V')]) (fun ⟨k, V'⟩ => s.size - k) (0, _) (Nat.zero_le _) (.cons (by first | rfl | exact lookI rfl (by omega) | exact lookI rfl (by simp) | exact lookB rfl (by simp)) (.cons (by first | rfl | exact lookI rfl (by omega) | exact lookI rfl (by simp) | exact lookB rfl (by simp)) Front.nil)) (by repeat' (first | exact Pick.nil _ | exact Del.here _ | apply Pick.cons | apply Del.there)) rfl (fun i hi m hm => ?_)
    obtain ⟨k, V'⟩ := i
    replace hi : k ≤ s.size := hi
    replace hm : m = s.size - k := hm
    change Tr _ _ [rowE V' 5 encU8 (b ++ [u8 (s.size : Nat)] ++ (bts s).take k)] ([(7, .int .i64 (k : Nat)), (6, V')] ++ _) _
    refine Tr.seq ?_
    refine Tr.seq ?_
    refine Tr.region ?_
    refine Tr.q (QS.move rfl) rfl ?_
    refine Tr.q (QS.move rfl) rfl ?_
    refine Tr.q (QS.lenStr rfl Try.underlying9) rfl ?_
    refine Tr.q (QS.lss rfl rfl) rfl ?_
    refine Tr.nil ?_
    refine Tr.thenN ?_
    refine Tr.cond rfl (fun h3 => ?_) (fun h3 => ?_)
    · try simp only [Bool.and_eq_true, Bool.or_eq_true, Bool.not_eq_true', Bool.not_eq_false', decide_eq_true_eq, decide_eq_false_iff_not, Bool.and_eq_false_iff, Bool.or_eq_false_iff, ne_eq, Decidable.not_not] at h3
      refine Tr.skip ?_
      refine Tr.thenN ?_
      refine Tr.seq ?_
      refine Tr.block ?_
      refine Tr.region ?_
      refine Tr.q (QS.move rfl) rfl ?_
      refine Tr.q (QS.move rfl) rfl ?_
      refine Tr.q (QS.move rfl) rfl ?_
      refine Tr.q (QS.strIdx rfl rfl Try.underlying9 (by omega)) rfl ?_
      refine Tr.lit1 (E := encU8) _ rfl rfl Try.underlying22 Try.sizeOf5 Try.zeroValue5 (by rfl) (by rfl) rfl (fun V4 => ?_)
      first | refine Tr.append1 rfl rfl (by repeat (first | exact Del.here _ | apply Del.there)) (by repeat (first | exact Del.here _ | apply Del.there)) Try.underlying22 HLF.info5 (by rfl) (by rfl) (by (try simp only [List.length_cons, List.length_nil, List.length_append, List.length_take]); omega) (by unfold maxLen; (try simp only [List.length_cons, List.length_nil, List.length_append, List.length_take]); omega) rfl (fun V5 => ?_) | refine Tr.ownNil _ _ (Tr.append1 rfl rfl (by repeat (first | exact Del.here _ | apply Del.there)) (by repeat (first | exact Del.here _ | apply Del.there)) Try.underlying22 HLF.info5 (by rfl) (by rfl) (by (try simp only [List.length_cons, List.length_nil, List.length_append, List.length_take]); omega) (by unfold maxLen; (try simp only [List.length_cons, List.length_nil, List.length_append, List.length_take]); omega) rfl (fun V5 => ?_)) | refine Tr.appendOf rfl rfl (by repeat (first | exact Del.here _ | apply Del.there)) (fun w hw => hw.slF (by assumption)) Try.underlying22 HLF.info5 (by rfl) (by rfl) (by (try simp only [List.length_cons, List.length_nil, List.length_append, List.length_take]); omega) (by unfold maxLen; (try simp only [List.length_cons, List.length_nil, List.length_append, List.length_take]); omega) rfl (fun V5 => ?_) | refine Tr.ownNil _ _ (Tr.appendOf rfl rfl (by repeat (first | exact Del.here _ | apply Del.there)) (fun w hw => hw.slF (by assumption)) Try.underlying22 HLF.info5 (by rfl) (by rfl) (by (try simp only [List.length_cons, List.length_nil, List.length_append, List.length_take]); omega) (by unfold maxLen; (try simp only [List.length_cons, List.length_nil, List.length_append, List.length_take]); omega) rfl (fun V5 => ?_)) | refine Tr.appendOf rfl rfl (by repeat (first | exact Del.here _ | apply Del.there)) (fun w hw => hw.row (by repeat (first | exact List.Mem.head _ | apply List.Mem.tail))) Try.underlying22 HLF.info5 (by rfl) (by rfl) (by (try simp only [List.length_cons, List.length_nil, List.length_append, List.length_take]); omega) (by unfold maxLen; (try simp only [List.length_cons, List.length_nil, List.length_append, List.length_take]); omega) rfl (fun V5 => ?_)
      refine Tr.q (QS.assign rfl) rfl ?_
      refine Tr.nil ?_
      refine Tr.inN ?_
      refine Tr.thenN ?_
      refine Tr.region ?_
      refine Tr.q (QS.move rfl) rfl ?_
      first | refine Tr.q (QS.addI rfl rfl (by omega)) rfl ?_ | refine Tr.q (QS.add rfl rfl) rfl ?_
      refine Tr.q (QS.assign rfl) rfl ?_
      refine Tr.nil ?_
      refine Tr.thenN ?_
      have hst := take_succ (l := bts s) (k := k) (by omega)
      rw [List.append_assoc (b ++ [u8 (s.size : Nat)])]
      replace hst : _ = _ ++ [(s.data.toList.getD ((k : Nat) : Int).toNat 0)] := hst
      rw [← hst]
      apply Tr.again (k + 1, _)
      · exact rfl
      · exact (.cons (by first | rfl | exact lookI rfl (by omega) | exact lookI rfl (by simp) | exact lookB rfl (by simp)) (.cons (by first | rfl | exact lookI rfl (by omega) | exact lookI rfl (by simp) | exact lookB rfl (by simp)) Front.nil))
      · exact SubX.dropN 16 (by kernel_rfl) rfl
      · exact (by repeat' (first | exact Pick.nil _ | exact Del.here _ | apply Pick.cons | apply Del.there))
      · exact (by show k + 1 ≤ _; omega)
      · exact (by (try dsimp only); omega)
    · try simp only [Bool.and_eq_true, Bool.or_eq_true, Bool.not_eq_true', Bool.not_eq_false', decide_eq_true_eq, decide_eq_false_iff_not, Bool.and_eq_false_iff, Bool.or_eq_false_iff, ne_eq, Decidable.not_not] at h3
      refine Tr.exit ?_
      refine Tr.thenE ?_
      refine Tr.thenE ?_
      refine Tr.inHit ?_
      refine Tr.thenN ?_
      refine Tr.seq ?_
      refine Tr.region ?_
      refine Tr.q (QS.move rfl) rfl ?_
      refine Tr.q (QS.assign rfl) rfl ?_
      refine Tr.q (QS.assign rfl) rfl ?_
      refine Tr.nil ?_
      refine Tr.thenN ?_
      refine Tr.ret ?_
      refine Tr.ret2 Try.results31 rfl rfl (fun w' hw => ?_)
      exact ⟨_, by rw [(putTextP_ok (b := b) h1).2], hw.below (Bg.le.refl _), by rw [(putTextP_ok h1).1]; rw [List.take_of_length_le (by omega)] at hw; exact hw.new (.head _)⟩

end Go.Proofs.Ytfmhhakhbopfdaa
