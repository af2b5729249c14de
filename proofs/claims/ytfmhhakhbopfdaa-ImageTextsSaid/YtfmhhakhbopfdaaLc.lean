/- The laws ImageTexts, ImageBack. -/
import Derived.Test.YtfmhhakhbopfdaaWe
set_option linter.unusedSimpArgs false
set_option linter.unusedVariables false
namespace Go.Proofs.Ytfmhhakhbopfdaa
open Go Go.HL Go.RowKit

set_option maxRecDepth 100000 in
set_option maxHeartbeats 2000000 in
theorem texts_true (b : List UInt8) (V : Value) (s : ByteArray) (at_ : Int) (w : World) (hV : Sl (hp w) encU8 b V) (ha : -9223372036854775808 ≤ at_ ∧ at_ ≤ 9223372036854775807) :
    Calls Try.prog 5 #[V, .string s, .int .i64 at_] w (fun e w' => e = .returned (.bool true) ∧ Ext w w') := by
  have hV' : Sl (Bg.of w).blk encU8 b V := hV
  refine enter Try.func5 rfl Try.ntmps5 rfl ?_
  refine Tr.seq ?_
  refine Tr.region ?_
  refine Tr.q (QS.assign rfl) rfl ?_
  refine Tr.nil ?_
  refine Tr.thenN ?_
  refine Tr.seq ?_
  refine Tr.seq ?_
  refine Tr.region ?_
  refine Tr.q (QS.move rfl) rfl ?_
  first | refine Tr.q (QS.len rfl (by assumption) Try.underlying22) rfl ?_ | refine Tr.q (QS.lenRow rfl (by repeat (first | exact List.Mem.head _ | apply List.Mem.tail)) Try.underlying22) rfl ?_ | refine Tr.q (QS.lenNil rfl Try.underlying22) rfl ?_
  refine Tr.q (QS.gtr rfl rfl) rfl ?_
  refine Tr.q (QS.move rfl) rfl ?_
  apply Tr.or (t := 20) (d := 24) 4
  · exact rfl
  · intro hF1; have hF1' := hF1
    try simp only [Bool.and_eq_true, Bool.or_eq_true, Bool.not_eq_true', Bool.not_eq_false', decide_eq_true_eq, decide_eq_false_iff_not, Bool.and_eq_false_iff, Bool.or_eq_false_iff, ne_eq, Decidable.not_not] at hF1'
    refine Tr.gq rfl rfl hF1 (QS.move rfl) rfl ?_
    refine Tr.gq rfl rfl hF1 (QS.lenStr rfl Try.underlying9) rfl ?_
    refine Tr.gq rfl rfl hF1 (QS.gtr rfl rfl) rfl ?_
    refine Tr.q (QS.pickF rfl hF1 rfl) rfl ?_
    refine Tr.nil (Tr.thenN ?_)
    first | exact Tr.end (Sub.cons rfl (Sub.dropN 4 (by kernel_rfl) rfl)) rfl rfl | exact Tr.endP (Sub.cons rfl (Sub.dropN 4 (by kernel_rfl) rfl)) rfl (by repeat' (first | exact Pick.nil _ | exact Del.here _ | apply Pick.cons | apply Del.there))
  · intro hT1
    refine Tr.gskip rfl rfl hT1 rfl ?_
    refine Tr.gskip rfl rfl hT1 rfl ?_
    refine Tr.gskip rfl rfl hT1 rfl ?_
    refine Tr.q (QS.pickT rfl hT1 rfl) rfl ?_
    refine Tr.nil (Tr.thenN ?_)
    first | exact Tr.end (Sub.cons rfl (Sub.dropN 4 (by kernel_rfl) rfl)) rfl rfl | exact Tr.endP (Sub.cons rfl (Sub.dropN 4 (by kernel_rfl) rfl)) rfl (by repeat' (first | exact Pick.nil _ | exact Del.here _ | apply Pick.cons | apply Del.there))
  refine Tr.nil ?_
  refine Tr.thenN ?_
  refine Tr.cond rfl (fun h2 => ?_) (fun h2 => ?_)
  · try simp only [Bool.and_eq_true, Bool.or_eq_true, Bool.not_eq_true', Bool.not_eq_false', decide_eq_true_eq, decide_eq_false_iff_not, Bool.and_eq_false_iff, Bool.or_eq_false_iff, ne_eq, Decidable.not_not] at h2
    refine Tr.seq ?_
    refine Tr.region ?_
    refine Tr.q (QS.call rfl Try.call16 (fun w hw => example02_any w)) rfl ?_
    refine Tr.q (QS.assign rfl) rfl ?_
    refine Tr.nil ?_
    refine Tr.thenN ?_
    refine Tr.ret ?_
    refine Tr.thenR ?_
    refine Tr.ret1 Try.results5 rfl (fun w' hw => ?_)
    exact ⟨rfl, hw.below (Bg.le.refl _)⟩
  · try simp only [Bool.and_eq_true, Bool.or_eq_true, Bool.not_eq_true', Bool.not_eq_false', decide_eq_true_eq, decide_eq_false_iff_not, Bool.and_eq_false_iff, Bool.or_eq_false_iff, ne_eq, Decidable.not_not] at h2
    refine Tr.skip ?_
    refine Tr.thenN ?_
    refine Tr.seq ?_
    refine Tr.region ?_
    refine Tr.q (QS.move rfl) rfl ?_
    refine Tr.q (QS.move rfl) rfl ?_
    refine Tr.callRowF (fun V => .tuple #[V, .int .i64 (putTextE s)]) rfl Try.call30 (fun w hw => putText_any b V s w (hw.slF hV) (by omega)) rfl (fun V3 => ?_)
    refine Tr.q (QS.move rfl) rfl ?_
    refine Tr.q (QS.extract rfl rfl) rfl ?_
    refine Tr.q (QS.extract rfl rfl) rfl ?_
    refine Tr.q (QS.assign rfl) rfl ?_
    refine Tr.q (QS.assign rfl) rfl ?_
    refine Tr.nil ?_
    refine Tr.thenN ?_
    refine Tr.seq ?_
    refine Tr.region ?_
    refine Tr.q (QS.move rfl) rfl ?_
    refine Tr.q (QS.move rfl) rfl ?_
    refine Tr.callRowF (fun V => .tuple #[V, .int .i64 (putTextE s)]) rfl Try.call31 (fun w hw => refPutText_any b V s w (hw.slF hV) (by omega)) rfl (fun V4 => ?_)
    refine Tr.q (QS.move rfl) rfl ?_
    refine Tr.q (QS.extract rfl rfl) rfl ?_
    refine Tr.q (QS.extract rfl rfl) rfl ?_
    refine Tr.q (QS.assign rfl) rfl ?_
    refine Tr.q (QS.assign rfl) rfl ?_
    refine Tr.nil ?_
    refine Tr.thenN ?_
    refine Tr.seq ?_
    refine Tr.region ?_
    refine Tr.q (QS.move rfl) rfl ?_
    refine Tr.q (QS.move rfl) rfl ?_
    refine Tr.q (QS.call rfl Try.call32 (fun w hw => getText_any b V at_ w (hw.slF hV) ha)) rfl ?_
    refine Tr.q (QS.move rfl) rfl ?_
    refine Tr.q (QS.extract rfl rfl) rfl ?_
    refine Tr.q (QS.extract rfl rfl) rfl ?_
    refine Tr.q (QS.extract rfl rfl) rfl ?_
    refine Tr.q (QS.assign rfl) rfl ?_
    refine Tr.q (QS.assign rfl) rfl ?_
    refine Tr.q (QS.assign rfl) rfl ?_
    refine Tr.nil ?_
    refine Tr.thenN ?_
    refine Tr.seq ?_
    refine Tr.region ?_
    refine Tr.q (QS.move rfl) rfl ?_
    refine Tr.q (QS.move rfl) rfl ?_
    refine Tr.q (QS.call rfl Try.call33 (fun w hw => refGetText_any b V at_ w (hw.slF hV) ha)) rfl ?_
    refine Tr.q (QS.move rfl) rfl ?_
    refine Tr.q (QS.extract rfl rfl) rfl ?_
    refine Tr.q (QS.extract rfl rfl) rfl ?_
    refine Tr.q (QS.extract rfl rfl) rfl ?_
    refine Tr.q (QS.assign rfl) rfl ?_
    refine Tr.q (QS.assign rfl) rfl ?_
    refine Tr.q (QS.assign rfl) rfl ?_
    refine Tr.nil ?_
    refine Tr.thenN ?_
    refine Tr.seq ?_
    refine Tr.region ?_
    refine Tr.q (QS.move rfl) rfl ?_
    refine Tr.q (QS.move rfl) rfl ?_
    refine Tr.q (QS.call rfl Try.call19 (fun w hw => same02_any (putTextP b s) (putTextP b s) _ _ w (hw.row (.tail _ (.head _))) (hw.row (.head _)))) rfl ?_
    refine Tr.q (QS.move rfl) rfl ?_
    apply Tr.and (t := 55) (d := 59) 4
    · exact rfl
    · intro hT5; have hT5' := hT5
      try simp only [Bool.and_eq_true, Bool.or_eq_true, Bool.not_eq_true', Bool.not_eq_false', decide_eq_true_eq, decide_eq_false_iff_not, Bool.and_eq_false_iff, Bool.or_eq_false_iff, ne_eq, Decidable.not_not] at hT5'
      refine Tr.gq rfl rfl hT5 (QS.move rfl) rfl ?_
      refine Tr.gq rfl rfl hT5 (QS.move rfl) rfl ?_
      refine Tr.gq rfl rfl hT5 (QS.eql rfl rfl) rfl ?_
      refine Tr.q (QS.pickT rfl hT5 rfl) rfl ?_
      refine Tr.nil (Tr.thenN ?_)
      first | exact Tr.end (Sub.cons rfl (Sub.dropN 4 (by kernel_rfl) rfl)) rfl rfl | exact Tr.endP (Sub.cons rfl (Sub.dropN 4 (by kernel_rfl) rfl)) rfl (by repeat' (first | exact Pick.nil _ | exact Del.here _ | apply Pick.cons | apply Del.there))
    · intro hF5
      refine Tr.gskip rfl rfl hF5 rfl ?_
      refine Tr.gskip rfl rfl hF5 rfl ?_
      refine Tr.gskip rfl rfl hF5 rfl ?_
      refine Tr.q (QS.pickF rfl hF5 rfl) rfl ?_
      refine Tr.nil (Tr.thenN ?_)
      first | exact Tr.end (Sub.cons rfl (Sub.dropN 4 (by kernel_rfl) rfl)) rfl rfl | exact Tr.endP (Sub.cons rfl (Sub.dropN 4 (by kernel_rfl) rfl)) rfl (by repeat' (first | exact Pick.nil _ | exact Del.here _ | apply Pick.cons | apply Del.there))
    refine Tr.q (QS.move rfl) rfl ?_
    apply Tr.and (t := 60) (d := 64) 4
    · exact rfl
    · intro hT6; have hT6' := hT6
      try simp only [Bool.and_eq_true, Bool.or_eq_true, Bool.not_eq_true', Bool.not_eq_false', decide_eq_true_eq, decide_eq_false_iff_not, Bool.and_eq_false_iff, Bool.or_eq_false_iff, ne_eq, Decidable.not_not] at hT6'
      refine Tr.gq rfl rfl hT6 (QS.move rfl) rfl ?_
      refine Tr.gq rfl rfl hT6 (QS.move rfl) rfl ?_
      refine Tr.gq rfl rfl hT6 (QS.str_eql rfl rfl) rfl ?_
      refine Tr.q (QS.pickT rfl hT6 rfl) rfl ?_
      refine Tr.nil (Tr.thenN ?_)
      first | exact Tr.end (Sub.cons rfl (Sub.dropN 4 (by kernel_rfl) rfl)) rfl rfl | exact Tr.endP (Sub.cons rfl (Sub.dropN 4 (by kernel_rfl) rfl)) rfl (by repeat' (first | exact Pick.nil _ | exact Del.here _ | apply Pick.cons | apply Del.there))
    · intro hF6
      refine Tr.gskip rfl rfl hF6 rfl ?_
      refine Tr.gskip rfl rfl hF6 rfl ?_
      refine Tr.gskip rfl rfl hF6 rfl ?_
      refine Tr.q (QS.pickF rfl hF6 rfl) rfl ?_
      refine Tr.nil (Tr.thenN ?_)
      first | exact Tr.end (Sub.cons rfl (Sub.dropN 4 (by kernel_rfl) rfl)) rfl rfl | exact Tr.endP (Sub.cons rfl (Sub.dropN 4 (by kernel_rfl) rfl)) rfl (by repeat' (first | exact Pick.nil _ | exact Del.here _ | apply Pick.cons | apply Del.there))
    refine Tr.q (QS.move rfl) rfl ?_
    apply Tr.and (t := 65) (d := 69) 4
    · exact rfl
    · intro hT7; have hT7' := hT7
      try simp only [Bool.and_eq_true, Bool.or_eq_true, Bool.not_eq_true', Bool.not_eq_false', decide_eq_true_eq, decide_eq_false_iff_not, Bool.and_eq_false_iff, Bool.or_eq_false_iff, ne_eq, Decidable.not_not] at hT7'
      refine Tr.gq rfl rfl hT7 (QS.move rfl) rfl ?_
      refine Tr.gq rfl rfl hT7 (QS.move rfl) rfl ?_
      refine Tr.gq rfl rfl hT7 (QS.eql rfl rfl) rfl ?_
      refine Tr.q (QS.pickT rfl hT7 rfl) rfl ?_
      refine Tr.nil (Tr.thenN ?_)
      first | exact Tr.end (Sub.cons rfl (Sub.dropN 4 (by kernel_rfl) rfl)) rfl rfl | exact Tr.endP (Sub.cons rfl (Sub.dropN 4 (by kernel_rfl) rfl)) rfl (by repeat' (first | exact Pick.nil _ | exact Del.here _ | apply Pick.cons | apply Del.there))
    · intro hF7
      refine Tr.gskip rfl rfl hF7 rfl ?_
      refine Tr.gskip rfl rfl hF7 rfl ?_
      refine Tr.gskip rfl rfl hF7 rfl ?_
      refine Tr.q (QS.pickF rfl hF7 rfl) rfl ?_
      refine Tr.nil (Tr.thenN ?_)
      first | exact Tr.end (Sub.cons rfl (Sub.dropN 4 (by kernel_rfl) rfl)) rfl rfl | exact Tr.endP (Sub.cons rfl (Sub.dropN 4 (by kernel_rfl) rfl)) rfl (by repeat' (first | exact Pick.nil _ | exact Del.here _ | apply Pick.cons | apply Del.there))
    refine Tr.q (QS.move rfl) rfl ?_
    apply Tr.and (t := 70) (d := 74) 4
    · exact rfl
    · intro hT8; have hT8' := hT8
      try simp only [Bool.and_eq_true, Bool.or_eq_true, Bool.not_eq_true', Bool.not_eq_false', decide_eq_true_eq, decide_eq_false_iff_not, Bool.and_eq_false_iff, Bool.or_eq_false_iff, ne_eq, Decidable.not_not] at hT8'
      refine Tr.gq rfl rfl hT8 (QS.move rfl) rfl ?_
      refine Tr.gq rfl rfl hT8 (QS.move rfl) rfl ?_
      refine Tr.gq rfl rfl hT8 (QS.eql rfl rfl) rfl ?_
      refine Tr.q (QS.pickT rfl hT8 rfl) rfl ?_
      refine Tr.nil (Tr.thenN ?_)
      first | exact Tr.end (Sub.cons rfl (Sub.dropN 4 (by kernel_rfl) rfl)) rfl rfl | exact Tr.endP (Sub.cons rfl (Sub.dropN 4 (by kernel_rfl) rfl)) rfl (by repeat' (first | exact Pick.nil _ | exact Del.here _ | apply Pick.cons | apply Del.there))
    · intro hF8
      refine Tr.gskip rfl rfl hF8 rfl ?_
      refine Tr.gskip rfl rfl hF8 rfl ?_
      refine Tr.gskip rfl rfl hF8 rfl ?_
      refine Tr.q (QS.pickF rfl hF8 rfl) rfl ?_
      refine Tr.nil (Tr.thenN ?_)
      first | exact Tr.end (Sub.cons rfl (Sub.dropN 4 (by kernel_rfl) rfl)) rfl rfl | exact Tr.endP (Sub.cons rfl (Sub.dropN 4 (by kernel_rfl) rfl)) rfl (by repeat' (first | exact Pick.nil _ | exact Del.here _ | apply Pick.cons | apply Del.there))
    refine Tr.q (QS.move rfl) rfl ?_
    apply Tr.and (t := 75) (d := 77) 2
    · exact rfl
    · intro hT9; have hT9' := hT9
      try simp only [Bool.and_eq_true, Bool.or_eq_true, Bool.not_eq_true', Bool.not_eq_false', decide_eq_true_eq, decide_eq_false_iff_not, Bool.and_eq_false_iff, Bool.or_eq_false_iff, ne_eq, Decidable.not_not] at hT9'
      refine Tr.gq rfl rfl hT9 (QS.call rfl Try.call16 (fun w hw => example02_any w)) rfl ?_
      refine Tr.q (QS.pickT rfl hT9 rfl) rfl ?_
      refine Tr.nil (Tr.thenN ?_)
      first | exact Tr.end (Sub.cons rfl (Sub.dropN 2 (by kernel_rfl) rfl)) rfl rfl | exact Tr.endP (Sub.cons rfl (Sub.dropN 2 (by kernel_rfl) rfl)) rfl (by repeat' (first | exact Pick.nil _ | exact Del.here _ | apply Pick.cons | apply Del.there))
    · intro hF9
      refine Tr.gskip rfl rfl hF9 rfl ?_
      refine Tr.q (QS.pickF rfl hF9 rfl) rfl ?_
      refine Tr.nil (Tr.thenN ?_)
      first | exact Tr.end (Sub.cons rfl (Sub.dropN 2 (by kernel_rfl) rfl)) rfl rfl | exact Tr.endP (Sub.cons rfl (Sub.dropN 2 (by kernel_rfl) rfl)) rfl (by repeat' (first | exact Pick.nil _ | exact Del.here _ | apply Pick.cons | apply Del.there))
    refine Tr.q (QS.assign rfl) rfl ?_
    refine Tr.nil ?_
    refine Tr.thenN ?_
    refine Tr.ret ?_
    refine Tr.ret1 Try.results5 rfl (fun w' hw => ?_)
    exact ⟨by simp [sameP_self], hw.below (Bg.le.refl _)⟩

end Go.Proofs.Ytfmhhakhbopfdaa
