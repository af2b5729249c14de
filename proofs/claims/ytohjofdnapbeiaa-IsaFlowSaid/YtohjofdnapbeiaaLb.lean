/- The laws IsaEncodes, IsaFlow. -/
import Derived.Test.YtohjofdnapbeiaaLa
import Derived.Test.YtohjofdnapbeiaaIm
set_option linter.unusedSimpArgs false
set_option linter.unusedVariables false
namespace Go.Proofs.Ytohjofdnapbeiaa
open Go Go.HL Go.RowKit

theorem refEncode_rowF (i : Ins) (w : World) (hI : InsOK i) : Calls Try.prog 22 [Value.agg (encIns.enc i).toArray].toArray w fun e w' => ∃ V, e = .returned ((fun V => .tuple #[V, .int .i64 (refErrP i)]) V) ∧ Ext w w' ∧ NewRow w w' 5 encU8 (refEncP i) V := refEncode_any i w hI

set_option maxRecDepth 100000 in
set_option maxHeartbeats 2000000 in
theorem encodes_true (i : Ins) (w : World) (hI : InsOK i) :
    Calls Try.prog 7 #[.agg (encIns.enc i).toArray] w (fun e w' => e = .returned (.bool true) ∧ Ext w w') := by
  refine enter Try.func7 rfl Try.ntmps7 rfl ?_
  refine Tr.seq ?_
  refine Tr.region ?_
  refine Tr.box rfl rfl rfl (fun b1 => ?_)
  refine Tr.q (QS.assign rfl) rfl ?_
  refine Tr.nil ?_
  refine Tr.thenN ?_
  refine Tr.seq ?_
  refine Tr.region ?_
  refine Tr.q (QS.lW rfl Try.isAgg27 Try.sizeOf27) rfl ?_
  refine Tr.callRowF (fun V => .tuple #[V, .int .i64 (errP i)]) rfl Try.call15 (fun w hw => encode_rowF i w hI) rfl (fun V2 => ?_)
  refine Tr.q (QS.move rfl) rfl ?_
  refine Tr.q (QS.extract rfl rfl) rfl ?_
  refine Tr.q (QS.extract rfl rfl) rfl ?_
  refine Tr.q (QS.assign rfl) rfl ?_
  refine Tr.q (QS.assign rfl) rfl ?_
  refine Tr.nil ?_
  refine Tr.thenN ?_
  refine Tr.seq ?_
  refine Tr.region ?_
  refine Tr.q (QS.lW rfl Try.isAgg27 Try.sizeOf27) rfl ?_
  refine Tr.callRowF (fun V => .tuple #[V, .int .i64 (refErrP i)]) rfl Try.call22 (fun w hw => refEncode_rowF i w hI) rfl (fun V3 => ?_)
  refine Tr.q (QS.move rfl) rfl ?_
  refine Tr.q (QS.extract rfl rfl) rfl ?_
  refine Tr.q (QS.extract rfl rfl) rfl ?_
  refine Tr.q (QS.assign rfl) rfl ?_
  refine Tr.q (QS.assign rfl) rfl ?_
  refine Tr.nil ?_
  refine Tr.thenN ?_
  refine Tr.seq ?_
  refine Tr.regionQ HLF.mixed (by kernel_rfl) ?_
  refine TrQ.q (QS.move rfl) rfl ?_
  first | refine TrQ.q (QS.bytesStr rfl (by assumption) Try.underlying22 Try.underlying5 Try.underlying9) rfl ?_ | refine TrQ.q (QS.bytesStrRow rfl (by repeat (first | exact List.Mem.head _ | apply List.Mem.tail)) Try.underlying22 Try.underlying5 Try.underlying9) rfl ?_ | refine TrQ.q (QS.bytesStr rfl (Sl.resl (by assumption) (by simp only [loOf, hiOf]; omega) (by simp only [loOf, hiOf]; omega)) Try.underlying22 Try.underlying5 Try.underlying9) rfl ?_
  refine TrQ.q (QS.move rfl) rfl ?_
  first | refine TrQ.q (QS.bytesStr rfl (by assumption) Try.underlying22 Try.underlying5 Try.underlying9) rfl ?_ | refine TrQ.q (QS.bytesStrRow rfl (by repeat (first | exact List.Mem.head _ | apply List.Mem.tail)) Try.underlying22 Try.underlying5 Try.underlying9) rfl ?_ | refine TrQ.q (QS.bytesStr rfl (Sl.resl (by assumption) (by simp only [loOf, hiOf]; omega) (by simp only [loOf, hiOf]; omega)) Try.underlying22 Try.underlying5 Try.underlying9) rfl ?_
  refine TrQ.q (QS.str_eql rfl rfl) rfl ?_
  refine TrQ.q (QS.move rfl) rfl ?_
  apply TrQ.andP
  · exact (rfl : _ = (4, 22, 26))
  · exact rfl
  · intro hT4; have hT4' := hT4
    try simp only [bs] at hT4'
    refine TrQ.gq rfl rfl hT4 (QS.move rfl) rfl ?_
    refine TrQ.gq rfl rfl hT4 (QS.move rfl) rfl ?_
    refine TrQ.gq rfl rfl hT4 (QS.eql rfl rfl) rfl ?_
    refine TrQ.q (QS.pickT rfl hT4 rfl) rfl ?_
    exact TrQ.end (Sub.cons rfl (Sub.dropN 4 (by kernel_rfl) rfl))
  · intro hF4
    refine TrQ.gskip rfl rfl hF4 rfl ?_
    refine TrQ.gskip rfl rfl hF4 rfl ?_
    refine TrQ.gskip rfl rfl hF4 rfl ?_
    refine TrQ.q (QS.pickF rfl hF4 rfl) rfl ?_
    exact TrQ.end (Sub.cons rfl (Sub.dropN 4 (by kernel_rfl) rfl))
  refine TrQ.q (QS.move rfl) rfl ?_
  apply TrQ.andP
  · exact (rfl : _ = (6, 27, 33))
  · exact rfl
  · intro hT5; have hT5' := hT5
    try simp only [bs] at hT5'
    refine TrQ.gq rfl rfl hT5 (QS.lW rfl Try.isAgg27 Try.sizeOf27) rfl ?_
    refine TrQ.gq rfl rfl hT5 (QS.call rfl Try.call23 (fun w hw => valid_isa i w hI)) rfl ?_
    refine TrQ.gq rfl rfl hT5 (QS.lW rfl Try.isAgg27 Try.sizeOf27) rfl ?_
    refine TrQ.gq rfl rfl hT5 (QS.call rfl Try.call24 (fun w hw => refValid_any i w)) rfl ?_
    refine TrQ.gq rfl rfl hT5 (QS.bool_eql rfl rfl Try.underlying4) rfl ?_
    refine TrQ.q (QS.pickT rfl hT5 rfl) rfl ?_
    exact TrQ.end (Sub.cons rfl (Sub.dropN 6 (by kernel_rfl) rfl))
  · intro hF5
    refine TrQ.gskip rfl rfl hF5 rfl ?_
    refine TrQ.gskip rfl rfl hF5 rfl ?_
    refine TrQ.gskip rfl rfl hF5 rfl ?_
    refine TrQ.gskip rfl rfl hF5 rfl ?_
    refine TrQ.gskip rfl rfl hF5 rfl ?_
    refine TrQ.q (QS.pickF rfl hF5 rfl) rfl ?_
    exact TrQ.end (Sub.cons rfl (Sub.dropN 6 (by kernel_rfl) rfl))
  refine TrQ.q (QS.move rfl) rfl ?_
  apply TrQ.andP
  · exact (rfl : _ = (6, 34, 40))
  · exact rfl
  · intro hT6; have hT6' := hT6
    try simp only [bs] at hT6'
    refine TrQ.gq rfl rfl hT6 (QS.lW rfl Try.isAgg27 Try.sizeOf27) rfl ?_
    refine TrQ.gq rfl rfl hT6 (QS.call rfl Try.call25 (fun w hw => length_isa i w hI)) rfl ?_
    refine TrQ.gq rfl rfl hT6 (QS.lW rfl Try.isAgg27 Try.sizeOf27) rfl ?_
    refine TrQ.gq rfl rfl hT6 (QS.call rfl Try.call26 (fun w hw => refLength_any i w hI)) rfl ?_
    refine TrQ.gq rfl rfl hT6 (QS.eql rfl rfl) rfl ?_
    refine TrQ.q (QS.pickT rfl hT6 rfl) rfl ?_
    exact TrQ.end (Sub.cons rfl (Sub.dropN 6 (by kernel_rfl) rfl))
  · intro hF6
    refine TrQ.gskip rfl rfl hF6 rfl ?_
    refine TrQ.gskip rfl rfl hF6 rfl ?_
    refine TrQ.gskip rfl rfl hF6 rfl ?_
    refine TrQ.gskip rfl rfl hF6 rfl ?_
    refine TrQ.gskip rfl rfl hF6 rfl ?_
    refine TrQ.q (QS.pickF rfl hF6 rfl) rfl ?_
    exact TrQ.end (Sub.cons rfl (Sub.dropN 6 (by kernel_rfl) rfl))
  refine TrQ.q (QS.move rfl) rfl ?_
  apply TrQ.andP
  · exact (rfl : _ = (2, 41, 43))
  · exact rfl
  · intro hT7; have hT7' := hT7
    try simp only [bs] at hT7'
    refine TrQ.gq rfl rfl hT7 (QS.call rfl Try.call12 (fun w hw => example03_any w)) rfl ?_
    refine TrQ.q (QS.pickT rfl hT7 rfl) rfl ?_
    exact TrQ.end (Sub.cons rfl (Sub.dropN 2 (by kernel_rfl) rfl))
  · intro hF7
    refine TrQ.gskip rfl rfl hF7 rfl ?_
    refine TrQ.q (QS.pickF rfl hF7 rfl) rfl ?_
    exact TrQ.end (Sub.cons rfl (Sub.dropN 2 (by kernel_rfl) rfl))
  refine TrQ.q (QS.assign rfl) rfl ?_
  refine TrQ.nil ?_
  refine Tr.thenN ?_
  refine Tr.ret ?_
  refine Tr.ret1 Try.results7 rfl (fun w' hw => ?_)
  exact ⟨by rw [err_ref, enc_ref, len_ref]; simp, hw.below (Bg.le.refl _)⟩

set_option maxRecDepth 100000 in
set_option maxHeartbeats 2000000 in
theorem flow_true (i : Ins) (w : World) (hI : InsOK i) :
    Calls Try.prog 10 #[.agg (encIns.enc i).toArray] w (fun e w' => e = .returned (.bool true) ∧ Ext w w') := by
  refine enter Try.func10 rfl Try.ntmps10 rfl ?_
  refine Tr.seq ?_
  refine Tr.region ?_
  refine Tr.box rfl rfl rfl (fun b1 => ?_)
  refine Tr.q (QS.assign rfl) rfl ?_
  refine Tr.nil ?_
  refine Tr.thenN ?_
  refine Tr.seq ?_
  refine Tr.region ?_
  refine Tr.q (QS.lW rfl Try.isAgg27 Try.sizeOf27) rfl ?_
  refine Tr.q (QS.call rfl Try.call21 (fun w hw => target_isa i w)) rfl ?_
  refine Tr.q (QS.move rfl) rfl ?_
  refine Tr.q (QS.extract rfl rfl) rfl ?_
  refine Tr.q (QS.extract rfl rfl) rfl ?_
  refine Tr.q (QS.assign rfl) rfl ?_
  refine Tr.q (QS.assign rfl) rfl ?_
  refine Tr.nil ?_
  refine Tr.thenN ?_
  refine Tr.seq ?_
  refine Tr.region ?_
  refine Tr.q (QS.lW rfl Try.isAgg27 Try.sizeOf27) rfl ?_
  refine Tr.q (QS.call rfl Try.call28 (fun w hw => refTarget_any i w)) rfl ?_
  refine Tr.q (QS.move rfl) rfl ?_
  refine Tr.q (QS.extract rfl rfl) rfl ?_
  refine Tr.q (QS.extract rfl rfl) rfl ?_
  refine Tr.q (QS.assign rfl) rfl ?_
  refine Tr.q (QS.assign rfl) rfl ?_
  refine Tr.nil ?_
  refine Tr.thenN ?_
  refine Tr.seq ?_
  refine Tr.regionQ HLF.mixed (by kernel_rfl) ?_
  refine TrQ.q (QS.lW rfl Try.isAgg27 Try.sizeOf27) rfl ?_
  refine TrQ.q (QS.call rfl Try.call29 (fun w hw => ends_isa i w)) rfl ?_
  refine TrQ.q (QS.lW rfl Try.isAgg27 Try.sizeOf27) rfl ?_
  refine TrQ.q (QS.call rfl Try.call30 (fun w hw => refEnds_any i w)) rfl ?_
  refine TrQ.q (QS.bool_eql rfl rfl Try.underlying4) rfl ?_
  refine TrQ.q (QS.move rfl) rfl ?_
  apply TrQ.andP
  · exact (rfl : _ = (4, 22, 26))
  · exact rfl
  · intro hT2; have hT2' := hT2
    try simp only [bs] at hT2'
    refine TrQ.gq rfl rfl hT2 (QS.move rfl) rfl ?_
    refine TrQ.gq rfl rfl hT2 (QS.move rfl) rfl ?_
    refine TrQ.gq rfl rfl hT2 (QS.eql32 rfl rfl) rfl ?_
    refine TrQ.q (QS.pickT rfl hT2 rfl) rfl ?_
    exact TrQ.end (Sub.cons rfl (Sub.dropN 4 (by kernel_rfl) rfl))
  · intro hF2
    refine TrQ.gskip rfl rfl hF2 rfl ?_
    refine TrQ.gskip rfl rfl hF2 rfl ?_
    refine TrQ.gskip rfl rfl hF2 rfl ?_
    refine TrQ.q (QS.pickF rfl hF2 rfl) rfl ?_
    exact TrQ.end (Sub.cons rfl (Sub.dropN 4 (by kernel_rfl) rfl))
  refine TrQ.q (QS.move rfl) rfl ?_
  apply TrQ.andP
  · exact (rfl : _ = (4, 27, 31))
  · exact rfl
  · intro hT3; have hT3' := hT3
    try simp only [bs] at hT3'
    refine TrQ.gq rfl rfl hT3 (QS.move rfl) rfl ?_
    refine TrQ.gq rfl rfl hT3 (QS.move rfl) rfl ?_
    refine TrQ.gq rfl rfl hT3 (QS.bool_eql rfl rfl Try.underlying4) rfl ?_
    refine TrQ.q (QS.pickT rfl hT3 rfl) rfl ?_
    exact TrQ.end (Sub.cons rfl (Sub.dropN 4 (by kernel_rfl) rfl))
  · intro hF3
    refine TrQ.gskip rfl rfl hF3 rfl ?_
    refine TrQ.gskip rfl rfl hF3 rfl ?_
    refine TrQ.gskip rfl rfl hF3 rfl ?_
    refine TrQ.q (QS.pickF rfl hF3 rfl) rfl ?_
    exact TrQ.end (Sub.cons rfl (Sub.dropN 4 (by kernel_rfl) rfl))
  refine TrQ.q (QS.move rfl) rfl ?_
  apply TrQ.andP
  · exact (rfl : _ = (6, 32, 38))
  · exact rfl
  · intro hT4; have hT4' := hT4
    try simp only [bs] at hT4'
    refine TrQ.gq rfl rfl hT4 (QS.lW rfl Try.isAgg27 Try.sizeOf27) rfl ?_
    refine TrQ.gq rfl rfl hT4 (QS.call rfl Try.call27 (fun w hw => next_isa i w hI)) rfl ?_
    refine TrQ.gq rfl rfl hT4 (QS.lW rfl Try.isAgg27 Try.sizeOf27) rfl ?_
    refine TrQ.gq rfl rfl hT4 (QS.call rfl Try.call31 (fun w hw => refNext_any i w hI)) rfl ?_
    refine TrQ.gq rfl rfl hT4 (QS.eql32 rfl rfl) rfl ?_
    refine TrQ.q (QS.pickT rfl hT4 rfl) rfl ?_
    exact TrQ.end (Sub.cons rfl (Sub.dropN 6 (by kernel_rfl) rfl))
  · intro hF4
    refine TrQ.gskip rfl rfl hF4 rfl ?_
    refine TrQ.gskip rfl rfl hF4 rfl ?_
    refine TrQ.gskip rfl rfl hF4 rfl ?_
    refine TrQ.gskip rfl rfl hF4 rfl ?_
    refine TrQ.gskip rfl rfl hF4 rfl ?_
    refine TrQ.q (QS.pickF rfl hF4 rfl) rfl ?_
    exact TrQ.end (Sub.cons rfl (Sub.dropN 6 (by kernel_rfl) rfl))
  refine TrQ.q (QS.move rfl) rfl ?_
  apply TrQ.andP
  · exact (rfl : _ = (2, 39, 41))
  · exact rfl
  · intro hT5; have hT5' := hT5
    try simp only [bs] at hT5'
    refine TrQ.gq rfl rfl hT5 (QS.call rfl Try.call12 (fun w hw => example03_any w)) rfl ?_
    refine TrQ.q (QS.pickT rfl hT5 rfl) rfl ?_
    exact TrQ.end (Sub.cons rfl (Sub.dropN 2 (by kernel_rfl) rfl))
  · intro hF5
    refine TrQ.gskip rfl rfl hF5 rfl ?_
    refine TrQ.q (QS.pickF rfl hF5 rfl) rfl ?_
    exact TrQ.end (Sub.cons rfl (Sub.dropN 2 (by kernel_rfl) rfl))
  refine TrQ.q (QS.assign rfl) rfl ?_
  refine TrQ.nil ?_
  refine Tr.thenN ?_
  refine Tr.ret ?_
  refine Tr.ret1 Try.results10 rfl (fun w' hw => ?_)
  exact ⟨by rw [len_ref]; simp [nextP], hw.below (Bg.le.refl _)⟩

end Go.Proofs.Ytohjofdnapbeiaa
