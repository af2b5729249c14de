/- The law IsaRegisters. -/
import Derived.Test.YtohjofdnapbeiaaLa
import Derived.Test.YtohjofdnapbeiaaIo
set_option linter.unusedSimpArgs false
set_option linter.unusedVariables false
namespace Go.Proofs.Ytohjofdnapbeiaa
open Go Go.HL Go.RowKit

set_option maxRecDepth 100000 in
set_option maxHeartbeats 2000000 in
theorem registers_true (i : Ins) (w : World) (hI : InsOK i) :
    Calls Try.prog 5 #[.agg (encIns.enc i).toArray] w (fun e w' => e = .returned (.bool true) ∧ Ext w w') := by
  refine enter Try.func5 rfl Try.ntmps5 rfl ?_
  refine Tr.seq ?_
  refine Tr.region ?_
  refine Tr.box rfl rfl rfl (fun b1 => ?_)
  refine Tr.q (QS.assign rfl) rfl ?_
  refine Tr.nil ?_
  refine Tr.thenN ?_
  refine Tr.seq ?_
  refine Tr.regionH ([cellE b1 (encIns.enc i) 27]) 16 rfl HLF.mixed ?_
  refine Tr.hT 0 rfl (by kernel_rfl) (panicThen panicBody) (QS.lW rfl Try.isAgg27 Try.sizeOf27) ?_
  refine Tr.hT 2 rfl (by kernel_rfl) (panicThen panicBody) (QS.lW rfl Try.isAgg27 Try.sizeOf27) ?_
  refine Tr.hAll [1] (by kernel_rfl) (by simp) (fun iq hq => ?_)
  obtain rfl := List.mem_singleton.1 hq
  refine Tr.hOp rfl ?_
  refine Tr.callRow rfl Try.call17 (fun w hw => reads_any i w hI) rfl (fun V2 => ?_)
  refine Tr.hN ?_
  refine Tr.hAll [3] (by kernel_rfl) (by simp) (fun iq hq => ?_)
  obtain rfl := List.mem_singleton.1 hq
  refine Tr.hOp rfl ?_
  refine Tr.callRow rfl Try.call18 (fun w hw => refReads_any i w) rfl (fun V3 => ?_)
  refine Tr.hN ?_
  refine Tr.hAll [4] (by kernel_rfl) (by simp) (fun iq hq => ?_)
  obtain rfl := List.mem_singleton.1 hq
  refine Tr.hOp rfl ?_
  refine Tr.q (QS.call rfl Try.call16 (fun w hw => ints_any (readsP i) (refReadsP i) _ _ w (hw.row (.tail _ (.head _))) (hw.row (.head _)))) rfl ?_
  refine Tr.hN ?_
  refine Tr.hT 5 rfl (by kernel_rfl) (panicThen panicBody) (QS.move rfl) ?_
  refine Tr.hGuard (t := 8) rfl (fun hG4 => ?_) (fun hG4 => ?_)
  · have hG4' := hG4
    try simp only [bs] at hG4'
    refine Tr.hTakeG 6 rfl (by kernel_rfl) (panicThen panicBody) rfl rfl rfl hG4 (QS.lW rfl Try.isAgg27 Try.sizeOf27) (by repeat' (first | exact Pick.nil _ | exact Del.here _ | apply Pick.cons | apply Del.there)) rfl ?_
    refine Tr.hTakeG 8 rfl (by kernel_rfl) (panicThen panicBody) rfl rfl rfl hG4 (QS.lW rfl Try.isAgg27 Try.sizeOf27) (by repeat' (first | exact Pick.nil _ | exact Del.here _ | apply Pick.cons | apply Del.there)) rfl ?_
    refine Tr.hAll [7] (by kernel_rfl) (by simp) (fun iq hq => ?_)
    obtain rfl := List.mem_singleton.1 hq
    refine Tr.hOp rfl ?_
    refine Tr.gdo rfl rfl hG4 ?_
    refine Tr.callRow rfl Try.call19 (fun w hw => writes_any i w hI) rfl (fun V5 => ?_)
    refine Tr.hN ?_
    refine Tr.hAll [9] (by kernel_rfl) (by simp) (fun iq hq => ?_)
    obtain rfl := List.mem_singleton.1 hq
    refine Tr.hOp rfl ?_
    refine Tr.gdo rfl rfl hG4 ?_
    refine Tr.callRow rfl Try.call20 (fun w hw => refWrites_any i w) rfl (fun V6 => ?_)
    refine Tr.hN ?_
    refine Tr.hAll [10] (by kernel_rfl) (by simp) (fun iq hq => ?_)
    obtain rfl := List.mem_singleton.1 hq
    refine Tr.hOp rfl ?_
    refine Tr.gq rfl rfl hG4 (QS.call rfl Try.call16 (fun w hw => ints_any (writesP i) (refWritesP i) _ _ w (hw.row (.tail _ (.head _))) (hw.row (.head _)))) rfl ?_
    refine Tr.hN ?_
    refine Tr.hT 11 rfl (by kernel_rfl) (panicThen panicBody) (QS.pickT rfl hG4 rfl) ?_
    refine Tr.hT 12 rfl (by kernel_rfl) (panicThen panicBody) (QS.move rfl) ?_
    refine Tr.hGuard (t := 15) rfl (fun hG7 => ?_) (fun hG7 => ?_)
    · have hG7' := hG7
      try simp only [bs] at hG7'
      refine Tr.hAll [13] (by kernel_rfl) (by simp) (fun iq hq => ?_)
      obtain rfl := List.mem_singleton.1 hq
      refine Tr.hOp rfl ?_
      refine Tr.gq rfl rfl hG7 (QS.call rfl Try.call12 (fun w hw => example03_any w)) rfl ?_
      refine Tr.hN ?_
      refine Tr.hT 14 rfl (by kernel_rfl) (panicThen panicBody) (QS.pickT rfl hG7 rfl) ?_
      refine Tr.hT 15 rfl (by kernel_rfl) (panicThen panicBody) (QS.assign rfl) ?_
      refine Tr.hDone (by kernel_rfl) ?_
      refine Tr.thenN ?_
      refine Tr.ret ?_
      refine Tr.ret1 Try.results5 rfl (fun w' hw => ?_)
      first | exact ⟨rfl, hw.below (Bg.le.refl _)⟩ | exact absurd (reads_ref i).symm (by assumption) | exact absurd (writes_ref i).symm (by assumption)
    · have hG7' := hG7
      try simp only [bs] at hG7'
      refine Tr.hSkip 13 rfl (by kernel_rfl) (panicThen panicBody) rfl rfl hG7 (by repeat' (first | exact Pick.nil _ | exact Del.here _ | apply Pick.cons | apply Del.there)) rfl ?_
      refine Tr.hT 14 rfl (by kernel_rfl) (panicThen panicBody) (QS.pickF rfl hG7 rfl) ?_
      refine Tr.hT 15 rfl (by kernel_rfl) (panicThen panicBody) (QS.assign rfl) ?_
      refine Tr.hDone (by kernel_rfl) ?_
      refine Tr.thenN ?_
      refine Tr.ret ?_
      refine Tr.ret1 Try.results5 rfl (fun w' hw => ?_)
      first | exact ⟨rfl, hw.below (Bg.le.refl _)⟩ | exact absurd (reads_ref i).symm (by assumption) | exact absurd (writes_ref i).symm (by assumption)
  · have hG4' := hG4
    try simp only [bs] at hG4'
    refine Tr.hSkip 6 rfl (by kernel_rfl) (panicThen panicBody) rfl rfl hG4 (by repeat' (first | exact Pick.nil _ | exact Del.here _ | apply Pick.cons | apply Del.there)) rfl ?_
    refine Tr.hSkip 7 rfl (by kernel_rfl) (panicThen panicBody) rfl rfl hG4 (by repeat' (first | exact Pick.nil _ | exact Del.here _ | apply Pick.cons | apply Del.there)) rfl ?_
    refine Tr.hSkip 8 rfl (by kernel_rfl) (panicThen panicBody) rfl rfl hG4 (by repeat' (first | exact Pick.nil _ | exact Del.here _ | apply Pick.cons | apply Del.there)) rfl ?_
    refine Tr.hSkip 9 rfl (by kernel_rfl) (panicThen panicBody) rfl rfl hG4 (by repeat' (first | exact Pick.nil _ | exact Del.here _ | apply Pick.cons | apply Del.there)) rfl ?_
    refine Tr.hSkip 10 rfl (by kernel_rfl) (panicThen panicBody) rfl rfl hG4 (by repeat' (first | exact Pick.nil _ | exact Del.here _ | apply Pick.cons | apply Del.there)) rfl ?_
    refine Tr.hT 11 rfl (by kernel_rfl) (panicThen panicBody) (QS.pickF rfl hG4 rfl) ?_
    refine Tr.hT 12 rfl (by kernel_rfl) (panicThen panicBody) (QS.move rfl) ?_
    refine Tr.hGuard (t := 15) rfl (fun hG8 => ?_) (fun hG8 => ?_)
    · have hG8' := hG8
      try simp only [bs] at hG8'
      refine Tr.hAll [13] (by kernel_rfl) (by simp) (fun iq hq => ?_)
      obtain rfl := List.mem_singleton.1 hq
      refine Tr.hOp rfl ?_
      refine Tr.gq rfl rfl hG8 (QS.call rfl Try.call12 (fun w hw => example03_any w)) rfl ?_
      refine Tr.hN ?_
      refine Tr.hT 14 rfl (by kernel_rfl) (panicThen panicBody) (QS.pickT rfl hG8 rfl) ?_
      refine Tr.hT 15 rfl (by kernel_rfl) (panicThen panicBody) (QS.assign rfl) ?_
      refine Tr.hDone (by kernel_rfl) ?_
      refine Tr.thenN ?_
      refine Tr.ret ?_
      refine Tr.ret1 Try.results5 rfl (fun w' hw => ?_)
      first | exact ⟨rfl, hw.below (Bg.le.refl _)⟩ | exact absurd (reads_ref i).symm (by assumption) | exact absurd (writes_ref i).symm (by assumption)
    · have hG8' := hG8
      try simp only [bs] at hG8'
      refine Tr.hSkip 13 rfl (by kernel_rfl) (panicThen panicBody) rfl rfl hG8 (by repeat' (first | exact Pick.nil _ | exact Del.here _ | apply Pick.cons | apply Del.there)) rfl ?_
      refine Tr.hT 14 rfl (by kernel_rfl) (panicThen panicBody) (QS.pickF rfl hG8 rfl) ?_
      refine Tr.hT 15 rfl (by kernel_rfl) (panicThen panicBody) (QS.assign rfl) ?_
      refine Tr.hDone (by kernel_rfl) ?_
      refine Tr.thenN ?_
      refine Tr.ret ?_
      refine Tr.ret1 Try.results5 rfl (fun w' hw => ?_)
      first | exact ⟨rfl, hw.below (Bg.le.refl _)⟩ | exact absurd (reads_ref i).symm (by assumption) | exact absurd (writes_ref i).symm (by assumption)

end Go.Proofs.Ytohjofdnapbeiaa
