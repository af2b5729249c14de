/- More walks of chapter 03's reference. -/
import Derived.Test.YtohjofdnapbeiaaWk
import Derived.Test.YtohjofdnapbeiaaIg
set_option linter.unusedSimpArgs false
set_option linter.unusedVariables false
namespace Go.Proofs.Ytohjofdnapbeiaa
open Go Go.HL Go.RowKit

set_option maxRecDepth 100000 in
set_option maxHeartbeats 2000000 in
theorem bytesOf_any (i : Ins) (w : World) (hop : 0 ≤ i.op ∧ i.op ≤ 27) (hcc : -100 ≤ i.cc ∧ i.cc ≤ 100) (hwd : 0 ≤ i.width ∧ i.width ≤ 4) (ha : 0 ≤ i.a ∧ i.a ≤ 100) (hbb : 0 ≤ i.b ∧ i.b ≤ 100) :
    Calls Try.prog 52 #[.agg (encIns.enc i).toArray] w (fun e w' => ∃ V, e = .returned V ∧ Ext w w' ∧ NewRow w w' 5 encU8 (bytesP i) V) := by
  refine enter Try.func52 rfl Try.ntmps52 rfl ?_
  refine Tr.seq ?_
  refine Tr.region ?_
  refine Tr.box rfl rfl rfl (fun b1 => ?_)
  refine Tr.q (QS.assign rfl) rfl ?_
  refine Tr.nil ?_
  refine Tr.thenN ?_
  refine Tr.seq ?_
  refine Tr.region ?_
  refine Tr.q (QS.fieldAddr (off := 6) (ft := 3) rfl Try.underlying27 rfl rfl Try.sizeOf3 (by decide)) rfl ?_
  refine Tr.q (QS.lV rfl Try.isAgg3) rfl ?_
  first | refine Tr.q (QS.mulI rfl rfl (by omega)) rfl ?_ | refine Tr.q (QS.mul rfl rfl) rfl ?_
  refine Tr.q (QS.fieldAddr (off := 7) (ft := 3) rfl Try.underlying27 rfl rfl Try.sizeOf3 (by decide)) rfl ?_
  refine Tr.q (QS.lV rfl Try.isAgg3) rfl ?_
  first | refine Tr.q (QS.addI rfl rfl (by omega)) rfl ?_ | refine Tr.q (QS.add rfl rfl) rfl ?_
  refine Tr.q (QS.cvtTo8 rfl Try.underlying3 Try.underlying5) rfl ?_
  refine Tr.q (QS.assign rfl) rfl ?_
  refine Tr.nil ?_
  refine Tr.thenN ?_
  refine Tr.seq ?_
  refine Tr.seq ?_
  refine Tr.region ?_
  refine Tr.q (QS.fieldAddr (off := 2) (ft := 3) rfl Try.underlying27 rfl rfl Try.sizeOf3 (by decide)) rfl ?_
  refine Tr.q (QS.lV rfl Try.isAgg3) rfl ?_
  refine Tr.q (QS.call rfl Try.call64 (fun w hw => isTwo_any i.op w)) rfl ?_
  refine Tr.nil ?_
  refine Tr.thenN ?_
  refine Tr.cond rfl (fun h2 => ?_) (fun h2 => ?_)
  · try simp only [bs] at h2
    refine Tr.seq ?_
    refine Tr.region ?_
    refine Tr.q (QS.fieldAddr (off := 2) (ft := 3) rfl Try.underlying27 rfl rfl Try.sizeOf3 (by decide)) rfl ?_
    refine Tr.q (QS.lV rfl Try.isAgg3) rfl ?_
    first | refine Tr.q (QS.subI rfl rfl (by omega)) rfl ?_ | refine Tr.q (QS.sub rfl rfl) rfl ?_
    refine Tr.q (QS.assign rfl) rfl ?_
    refine Tr.nil ?_
    refine Tr.thenN ?_
    refine Tr.seq ?_
    refine Tr.seq ?_
    refine Tr.region ?_
    refine Tr.q (QS.fieldAddr (off := 3) (ft := 3) rfl Try.underlying27 rfl rfl Try.sizeOf3 (by decide)) rfl ?_
    refine Tr.q (QS.lV rfl Try.isAgg3) rfl ?_
    refine Tr.q (QS.eql rfl rfl) rfl ?_
    refine Tr.nil ?_
    refine Tr.thenN ?_
    refine Tr.cond rfl (fun h3 => ?_) (fun h3 => ?_)
    · try simp only [bs] at h3
      refine Tr.seq ?_
      refine Tr.region ?_
      refine Tr.q (QS.move rfl) rfl ?_
      first | refine Tr.q (QS.addI rfl rfl (by omega)) rfl ?_ | refine Tr.q (QS.add rfl rfl) rfl ?_
      refine Tr.q (QS.cvtTo8 rfl Try.underlying3 Try.underlying5) rfl ?_
      refine Tr.q (QS.move rfl) rfl ?_
      refine Tr.litN (E := encU8) [u8 (32 + (i.op - 5)), u8 (16 * i.a + i.b)] (vs := [(0, _), (1, _)]) rfl rfl Try.underlying22 Try.sizeOf5 Try.zeroValue5 (by rfl) (by rfl) rfl (by first | kernel_rfl | rfl) rfl (fun V4 => ?_)
      refine Tr.q (QS.assign rfl) rfl ?_
      refine Tr.nil ?_
      refine Tr.thenN ?_
      refine Tr.ret ?_
      refine Tr.thenR ?_
      refine Tr.thenR ?_
      refine Tr.ret1 Try.results52 rfl (fun w' hw => ?_)
      exact ⟨_, rfl, hw.below (Bg.le.refl _), by unfold bytesP; (repeat (first | rw [if_pos (by first | assumption | omega | grind)] | rw [if_neg (by first | assumption | omega | grind)])); exact hw.new (.head _)⟩
    · try simp only [bs] at h3
      refine Tr.skip ?_
      refine Tr.thenN ?_
      refine Tr.seq ?_
      refine Tr.seq ?_
      refine Tr.region ?_
      refine Tr.q (QS.fieldAddr (off := 3) (ft := 3) rfl Try.underlying27 rfl rfl Try.sizeOf3 (by decide)) rfl ?_
      refine Tr.q (QS.lV rfl Try.isAgg3) rfl ?_
      refine Tr.q (QS.eql rfl rfl) rfl ?_
      refine Tr.nil ?_
      refine Tr.thenN ?_
      refine Tr.cond rfl (fun h5 => ?_) (fun h5 => ?_)
      · try simp only [bs] at h5
        refine Tr.seq ?_
        refine Tr.region ?_
        refine Tr.q (QS.move rfl) rfl ?_
        first | refine Tr.q (QS.addI rfl rfl (by omega)) rfl ?_ | refine Tr.q (QS.add rfl rfl) rfl ?_
        refine Tr.q (QS.cvtTo8 rfl Try.underlying3 Try.underlying5) rfl ?_
        refine Tr.q (QS.fieldAddr (off := 6) (ft := 3) rfl Try.underlying27 rfl rfl Try.sizeOf3 (by decide)) rfl ?_
        refine Tr.q (QS.lV rfl Try.isAgg3) rfl ?_
        refine Tr.q (QS.cvtTo8 rfl Try.underlying3 Try.underlying5) rfl ?_
        refine Tr.q (QS.fieldAddr (off := 1) (ft := 23) rfl Try.underlying27 rfl rfl Try.sizeOf23 (by decide)) rfl ?_
        refine Tr.q (QS.lV rfl Try.isAgg23) rfl ?_
        refine Tr.q (QS.rem32 (n := 256) rfl rfl (by first | decide | assumption)) rfl ?_
        refine Tr.q (QS.cvt32to8 rfl Try.underlying23 Try.underlying5) rfl ?_
        refine Tr.litN (E := encU8) [u8 (48 + (i.op - 5)), u8 i.a, (i.imm % 256).toUInt8] (vs := [(0, _), (1, _), (2, _)]) rfl rfl Try.underlying22 Try.sizeOf5 Try.zeroValue5 (by rfl) (by rfl) rfl (by first | kernel_rfl | rfl) rfl (fun V6 => ?_)
        refine Tr.q (QS.assign rfl) rfl ?_
        refine Tr.nil ?_
        refine Tr.thenN ?_
        refine Tr.ret ?_
        refine Tr.thenR ?_
        refine Tr.thenR ?_
        refine Tr.ret1 Try.results52 rfl (fun w' hw => ?_)
        exact ⟨_, rfl, hw.below (Bg.le.refl _), by unfold bytesP; (repeat (first | rw [if_pos (by first | assumption | omega | grind)] | rw [if_neg (by first | assumption | omega | grind)])); exact hw.new (.head _)⟩
      · try simp only [bs] at h5
        refine Tr.skip ?_
        refine Tr.thenN ?_
        refine Tr.seq ?_
        refine Tr.regionH ([cellE b1 (encIns.enc i) 27]) 12 rfl HLF.mixed ?_
        refine Tr.hT 0 rfl (by kernel_rfl) (panicThen (panicThen panicBody)) (QS.move rfl) ?_
        first | refine Tr.hT 1 rfl (by kernel_rfl) (panicThen (panicThen panicBody)) (QS.addI rfl rfl (by omega)) ?_ | refine Tr.hT 1 rfl (by kernel_rfl) (panicThen (panicThen panicBody)) (QS.add rfl rfl) ?_
        refine Tr.hT 2 rfl (by kernel_rfl) (panicThen (panicThen panicBody)) (QS.cvtTo8 rfl Try.underlying3 Try.underlying5) ?_
        refine Tr.hT 3 rfl (by kernel_rfl) (panicThen (panicThen panicBody)) (QS.fieldAddr (off := 6) (ft := 3) rfl Try.underlying27 rfl rfl Try.sizeOf3 (by decide)) ?_
        refine Tr.hT 4 rfl (by kernel_rfl) (panicThen (panicThen panicBody)) (QS.lV rfl Try.isAgg3) ?_
        refine Tr.hT 5 rfl (by kernel_rfl) (panicThen (panicThen panicBody)) (QS.cvtTo8 rfl Try.underlying3 Try.underlying5) ?_
        refine Tr.hT 7 rfl (by kernel_rfl) (panicThen (panicThen panicBody)) (QS.fieldAddr (off := 1) (ft := 23) rfl Try.underlying27 rfl rfl Try.sizeOf23 (by decide)) ?_
        refine Tr.hT 8 rfl (by kernel_rfl) (panicThen (panicThen panicBody)) (QS.lV rfl Try.isAgg23) ?_
        refine Tr.hAll [6, 9] (by kernel_rfl) (by simp) (fun iq hq => ?_)
        rcases List.mem_cons.1 hq with rfl | hq
        · skip
          refine Tr.hOp rfl ?_
          refine Tr.litN (E := encU8) [u8 (64 + (i.op - 5)), u8 i.a] (vs := [(0, _), (1, _)]) rfl rfl Try.underlying22 Try.sizeOf5 Try.zeroValue5 (by rfl) (by rfl) rfl (by first | kernel_rfl | rfl) rfl (fun V7 => ?_)
          refine Tr.hN ?_
          refine Tr.hAll [9] (by kernel_rfl) (by simp) (fun iq hq => ?_)
          obtain rfl := List.mem_singleton.1 hq
          refine Tr.hOp rfl ?_
          refine Tr.callRow rfl Try.call72 (fun w hw => word_any i.imm w) rfl (fun V8 => ?_)
          refine Tr.hN ?_
          refine Tr.hAll [10] (by kernel_rfl) (by simp) (fun iq hq => ?_)
          obtain rfl := List.mem_singleton.1 hq
          refine Tr.hOp rfl ?_
          first | refine Tr.append1 rfl rfl (by repeat (first | exact Del.here _ | apply Del.there)) (by repeat (first | exact Del.here _ | apply Del.there)) Try.underlying22 HLF.info5 (by rfl) (by rfl) (by simp [wordP]) (by unfold maxLen; simp [wordP]) rfl (fun V9 => ?_) | refine Tr.ownNil _ _ (Tr.append1 rfl rfl (by repeat (first | exact Del.here _ | apply Del.there)) (by repeat (first | exact Del.here _ | apply Del.there)) Try.underlying22 HLF.info5 (by rfl) (by rfl) (by simp [wordP]) (by unfold maxLen; simp [wordP]) rfl (fun V9 => ?_)) | refine Tr.appendOf rfl rfl (by repeat (first | exact Del.here _ | apply Del.there)) (fun w hw => hw.slF (by assumption)) Try.underlying22 HLF.info5 (by rfl) (by rfl) (by simp [wordP]) (by unfold maxLen; simp [wordP]) rfl (fun V9 => ?_) | refine Tr.ownNil _ _ (Tr.appendOf rfl rfl (by repeat (first | exact Del.here _ | apply Del.there)) (fun w hw => hw.slF (by assumption)) Try.underlying22 HLF.info5 (by rfl) (by rfl) (by simp [wordP]) (by unfold maxLen; simp [wordP]) rfl (fun V9 => ?_)) | refine Tr.appendOf rfl rfl (by repeat (first | exact Del.here _ | apply Del.there)) (fun w hw => hw.row (by repeat (first | exact List.Mem.head _ | apply List.Mem.tail))) Try.underlying22 HLF.info5 (by rfl) (by rfl) (by simp [wordP]) (by unfold maxLen; simp [wordP]) rfl (fun V9 => ?_)
          refine Tr.hN ?_
          refine Tr.hT 11 rfl (by kernel_rfl) (panicThen (panicThen panicBody)) (QS.assign rfl) ?_
          refine Tr.hDone (by kernel_rfl) ?_
          refine Tr.thenN ?_
          refine Tr.ret ?_
          refine Tr.thenR ?_
          refine Tr.ret1 Try.results52 rfl (fun w' hw => ?_)
          exact ⟨_, rfl, hw.below (Bg.le.refl _), by unfold bytesP; (repeat (first | rw [if_pos (by first | assumption | omega | grind)] | rw [if_neg (by first | assumption | omega | grind)])); exact hw.new (.head _)⟩
        obtain rfl := List.mem_singleton.1 hq
        refine Tr.hOp rfl ?_
        refine Tr.callRow rfl Try.call72 (fun w hw => word_any i.imm w) rfl (fun V10 => ?_)
        refine Tr.hN ?_
        refine Tr.hAll [6] (by kernel_rfl) (by simp) (fun iq hq => ?_)
        obtain rfl := List.mem_singleton.1 hq
        refine Tr.hOp rfl ?_
        refine Tr.litN (E := encU8) [u8 (64 + (i.op - 5)), u8 i.a] (vs := [(0, _), (1, _)]) rfl rfl Try.underlying22 Try.sizeOf5 Try.zeroValue5 (by rfl) (by rfl) rfl (by first | kernel_rfl | rfl) rfl (fun V11 => ?_)
        refine Tr.hN ?_
        refine Tr.hAll [10] (by kernel_rfl) (by simp) (fun iq hq => ?_)
        obtain rfl := List.mem_singleton.1 hq
        refine Tr.hOp rfl ?_
        first | refine Tr.append1 rfl rfl (by repeat (first | exact Del.here _ | apply Del.there)) (by repeat (first | exact Del.here _ | apply Del.there)) Try.underlying22 HLF.info5 (by rfl) (by rfl) (by simp [wordP]) (by unfold maxLen; simp [wordP]) rfl (fun V12 => ?_) | refine Tr.ownNil _ _ (Tr.append1 rfl rfl (by repeat (first | exact Del.here _ | apply Del.there)) (by repeat (first | exact Del.here _ | apply Del.there)) Try.underlying22 HLF.info5 (by rfl) (by rfl) (by simp [wordP]) (by unfold maxLen; simp [wordP]) rfl (fun V12 => ?_)) | refine Tr.appendOf rfl rfl (by repeat (first | exact Del.here _ | apply Del.there)) (fun w hw => hw.slF (by assumption)) Try.underlying22 HLF.info5 (by rfl) (by rfl) (by simp [wordP]) (by unfold maxLen; simp [wordP]) rfl (fun V12 => ?_) | refine Tr.ownNil _ _ (Tr.appendOf rfl rfl (by repeat (first | exact Del.here _ | apply Del.there)) (fun w hw => hw.slF (by assumption)) Try.underlying22 HLF.info5 (by rfl) (by rfl) (by simp [wordP]) (by unfold maxLen; simp [wordP]) rfl (fun V12 => ?_)) | refine Tr.appendOf rfl rfl (by repeat (first | exact Del.here _ | apply Del.there)) (fun w hw => hw.row (by repeat (first | exact List.Mem.head _ | apply List.Mem.tail))) Try.underlying22 HLF.info5 (by rfl) (by rfl) (by simp [wordP]) (by unfold maxLen; simp [wordP]) rfl (fun V12 => ?_)
        refine Tr.hN ?_
        refine Tr.hT 11 rfl (by kernel_rfl) (panicThen (panicThen panicBody)) (QS.assign rfl) ?_
        refine Tr.hDone (by kernel_rfl) ?_
        refine Tr.thenN ?_
        refine Tr.ret ?_
        refine Tr.thenR ?_
        refine Tr.ret1 Try.results52 rfl (fun w' hw => ?_)
        exact ⟨_, rfl, hw.below (Bg.le.refl _), by unfold bytesP; (repeat (first | rw [if_pos (by first | assumption | omega | grind)] | rw [if_neg (by first | assumption | omega | grind)])); exact hw.new (.head _)⟩
  · try simp only [bs] at h2
    refine Tr.skip ?_
    refine Tr.thenN ?_
    refine Tr.seq ?_
    refine Tr.seq ?_
    refine Tr.region ?_
    refine Tr.q (QS.fieldAddr (off := 2) (ft := 3) rfl Try.underlying27 rfl rfl Try.sizeOf3 (by decide)) rfl ?_
    refine Tr.q (QS.lV rfl Try.isAgg3) rfl ?_
    refine Tr.q (QS.call rfl Try.call65 (fun w hw => isAccess_any i.op w)) rfl ?_
    refine Tr.nil ?_
    refine Tr.thenN ?_
    refine Tr.cond rfl (fun h13 => ?_) (fun h13 => ?_)
    · try simp only [bs] at h13
      refine Tr.seq ?_
      refine Tr.regionH ([cellE b1 (encIns.enc i) 27]) 10 rfl HLF.mixed ?_
      refine Tr.hT 0 rfl (by kernel_rfl) (panicThen (panicThen panicBody)) (QS.lW rfl Try.isAgg27 Try.sizeOf27) ?_
      refine Tr.hT 3 rfl (by kernel_rfl) (panicThen (panicThen panicBody)) (QS.move rfl) ?_
      refine Tr.hT 4 rfl (by kernel_rfl) (panicThen (panicThen panicBody)) (QS.fieldAddr (off := 1) (ft := 23) rfl Try.underlying27 rfl rfl Try.sizeOf23 (by decide)) ?_
      refine Tr.hT 5 rfl (by kernel_rfl) (panicThen (panicThen panicBody)) (QS.lV rfl Try.isAgg23) ?_
      refine Tr.hT 6 rfl (by kernel_rfl) (panicThen (panicThen panicBody)) (QS.rem32 (n := 256) rfl rfl (by first | decide | assumption)) ?_
      refine Tr.hT 7 rfl (by kernel_rfl) (panicThen (panicThen panicBody)) (QS.cvt32to8 rfl Try.underlying23 Try.underlying5) ?_
      refine Tr.hAll [1] (by kernel_rfl) (by simp) (fun iq hq => ?_)
      obtain rfl := List.mem_singleton.1 hq
      refine Tr.hOp rfl ?_
      refine Tr.q (QS.call rfl Try.call73 (fun w hw => accCode_any i w hwd)) rfl ?_
      refine Tr.hN ?_
      refine Tr.hT 2 rfl (by kernel_rfl) (panicThen (panicThen panicBody)) (QS.cvtTo8 rfl Try.underlying3 Try.underlying5) ?_
      refine Tr.hAll [8] (by kernel_rfl) (by simp) (fun iq hq => ?_)
      obtain rfl := List.mem_singleton.1 hq
      refine Tr.hOp rfl ?_
      refine Tr.litN (E := encU8) [u8 (accCodeP i), u8 (16 * i.a + i.b), (i.imm % 256).toUInt8] (vs := [(0, _), (1, _), (2, _)]) rfl rfl Try.underlying22 Try.sizeOf5 Try.zeroValue5 (by rfl) (by rfl) rfl (by first | kernel_rfl | rfl) rfl (fun V14 => ?_)
      refine Tr.hN ?_
      refine Tr.hT 9 rfl (by kernel_rfl) (panicThen (panicThen panicBody)) (QS.assign rfl) ?_
      refine Tr.hDone (by kernel_rfl) ?_
      refine Tr.thenN ?_
      refine Tr.ret ?_
      refine Tr.thenR ?_
      refine Tr.ret1 Try.results52 rfl (fun w' hw => ?_)
      exact ⟨_, rfl, hw.below (Bg.le.refl _), by unfold bytesP; (repeat (first | rw [if_pos (by first | assumption | omega | grind)] | rw [if_neg (by first | assumption | omega | grind)])); exact hw.new (.head _)⟩
    · try simp only [bs] at h13
      refine Tr.skip ?_
      refine Tr.thenN ?_
      refine Tr.seq ?_
      refine Tr.seq ?_
      refine Tr.region ?_
      refine Tr.q (QS.fieldAddr (off := 2) (ft := 3) rfl Try.underlying27 rfl rfl Try.sizeOf3 (by decide)) rfl ?_
      refine Tr.q (QS.lV rfl Try.isAgg3) rfl ?_
      refine Tr.nil ?_
      refine Tr.thenN ?_
      refine Tr.block ?_
      refine Tr.seq ?_
      refine Tr.region ?_
      refine Tr.q (QS.eql rfl rfl) rfl ?_
      refine Tr.q (QS.assign rfl) rfl ?_
      refine Tr.nil ?_
      refine Tr.thenN ?_
      refine Tr.cond rfl (fun h15 => ?_) (fun h15 => ?_)
      · try simp only [bs] at h15
        refine Tr.seq ?_
        refine Tr.region ?_
        refine Tr.q (QS.move rfl) rfl ?_
        refine Tr.q (QS.fieldAddr (off := 1) (ft := 23) rfl Try.underlying27 rfl rfl Try.sizeOf23 (by decide)) rfl ?_
        refine Tr.q (QS.lV rfl Try.isAgg23) rfl ?_
        refine Tr.q (QS.rem32 (n := 256) rfl rfl (by first | decide | assumption)) rfl ?_
        refine Tr.q (QS.cvt32to8 rfl Try.underlying23 Try.underlying5) rfl ?_
        refine Tr.litN (E := encU8) [90, u8 (16 * i.a + i.b), (i.imm % 256).toUInt8] (vs := [(0, _), (1, _), (2, _)]) rfl rfl Try.underlying22 Try.sizeOf5 Try.zeroValue5 (by rfl) (by rfl) rfl (by first | kernel_rfl | rfl) rfl (fun V16 => ?_)
        refine Tr.q (QS.assign rfl) rfl ?_
        refine Tr.nil ?_
        refine Tr.thenN ?_
        refine Tr.ret ?_
        refine Tr.inR ?_
        refine Tr.thenR ?_
        refine Tr.ret1 Try.results52 rfl (fun w' hw => ?_)
        exact ⟨_, rfl, hw.below (Bg.le.refl _), by unfold bytesP; (repeat (first | rw [if_pos (by first | assumption | omega | grind)] | rw [if_neg (by first | assumption | omega | grind)])); exact hw.new (.head _)⟩
      · try simp only [bs] at h15
        refine Tr.seq ?_
        refine Tr.region ?_
        refine Tr.q (QS.eql rfl rfl) rfl ?_
        refine Tr.q (QS.assign rfl) rfl ?_
        refine Tr.nil ?_
        refine Tr.thenN ?_
        refine Tr.cond rfl (fun h17 => ?_) (fun h17 => ?_)
        · try simp only [bs] at h17
          refine Tr.seq ?_
          refine Tr.seq ?_
          refine Tr.region ?_
          refine Tr.q (QS.fieldAddr (off := 3) (ft := 3) rfl Try.underlying27 rfl rfl Try.sizeOf3 (by decide)) rfl ?_
          refine Tr.q (QS.lV rfl Try.isAgg3) rfl ?_
          refine Tr.q (QS.eql rfl rfl) rfl ?_
          refine Tr.nil ?_
          refine Tr.thenN ?_
          refine Tr.cond rfl (fun h18 => ?_) (fun h18 => ?_)
          · try simp only [bs] at h18
            refine Tr.seq ?_
            refine Tr.region ?_
            refine Tr.q (QS.fieldAddr (off := 5) (ft := 3) rfl Try.underlying27 rfl rfl Try.sizeOf3 (by decide)) rfl ?_
            refine Tr.q (QS.lV rfl Try.isAgg3) rfl ?_
            first | refine Tr.q (QS.addI rfl rfl (by omega)) rfl ?_ | refine Tr.q (QS.add rfl rfl) rfl ?_
            refine Tr.q (QS.cvtTo8 rfl Try.underlying3 Try.underlying5) rfl ?_
            refine Tr.q (QS.fieldAddr (off := 1) (ft := 23) rfl Try.underlying27 rfl rfl Try.sizeOf23 (by decide)) rfl ?_
            refine Tr.q (QS.lV rfl Try.isAgg23) rfl ?_
            refine Tr.q (QS.fieldAddr (off := 0) (ft := 23) rfl Try.underlying27 rfl rfl Try.sizeOf23 (by decide)) rfl ?_
            refine Tr.q (QS.lV rfl Try.isAgg23) rfl ?_
            refine Tr.q (QS.sub32 rfl rfl) rfl ?_
            refine Tr.q (QS.sub32 (n := 2) rfl rfl) rfl ?_
            refine Tr.q (QS.rem32 (n := 256) rfl rfl (by first | decide | assumption)) rfl ?_
            refine Tr.q (QS.cvt32to8 rfl Try.underlying23 Try.underlying5) rfl ?_
            refine Tr.litN (E := encU8) [u8 (96 + i.cc), ((i.imm - i.addr - 2) % 256).toUInt8] (vs := [(0, _), (1, _)]) rfl rfl Try.underlying22 Try.sizeOf5 Try.zeroValue5 (by rfl) (by rfl) rfl (by first | kernel_rfl | rfl) rfl (fun V19 => ?_)
            refine Tr.q (QS.assign rfl) rfl ?_
            refine Tr.nil ?_
            refine Tr.thenN ?_
            refine Tr.ret ?_
            refine Tr.thenR ?_
            refine Tr.inR ?_
            refine Tr.thenR ?_
            refine Tr.ret1 Try.results52 rfl (fun w' hw => ?_)
            exact ⟨_, rfl, hw.below (Bg.le.refl _), by unfold bytesP; (repeat (first | rw [if_pos (by first | assumption | omega | grind)] | rw [if_neg (by first | assumption | omega | grind)])); exact hw.new (.head _)⟩
          · try simp only [bs] at h18
            refine Tr.skip ?_
            refine Tr.thenN ?_
            refine Tr.seq ?_
            refine Tr.regionH ([cellE b1 (encIns.enc i) 27]) 14 rfl HLF.mixed ?_
            refine Tr.hT 0 rfl (by kernel_rfl) (panicThen (panicIn (panicThen panicBody))) (QS.fieldAddr (off := 5) (ft := 3) rfl Try.underlying27 rfl rfl Try.sizeOf3 (by decide)) ?_
            refine Tr.hT 1 rfl (by kernel_rfl) (panicThen (panicIn (panicThen panicBody))) (QS.lV rfl Try.isAgg3) ?_
            first | refine Tr.hT 2 rfl (by kernel_rfl) (panicThen (panicIn (panicThen panicBody))) (QS.addI rfl rfl (by omega)) ?_ | refine Tr.hT 2 rfl (by kernel_rfl) (panicThen (panicIn (panicThen panicBody))) (QS.add rfl rfl) ?_
            refine Tr.hT 3 rfl (by kernel_rfl) (panicThen (panicIn (panicThen panicBody))) (QS.cvtTo8 rfl Try.underlying3 Try.underlying5) ?_
            refine Tr.hT 5 rfl (by kernel_rfl) (panicThen (panicIn (panicThen panicBody))) (QS.fieldAddr (off := 1) (ft := 23) rfl Try.underlying27 rfl rfl Try.sizeOf23 (by decide)) ?_
            refine Tr.hT 6 rfl (by kernel_rfl) (panicThen (panicIn (panicThen panicBody))) (QS.lV rfl Try.isAgg23) ?_
            refine Tr.hT 7 rfl (by kernel_rfl) (panicThen (panicIn (panicThen panicBody))) (QS.fieldAddr (off := 0) (ft := 23) rfl Try.underlying27 rfl rfl Try.sizeOf23 (by decide)) ?_
            refine Tr.hT 8 rfl (by kernel_rfl) (panicThen (panicIn (panicThen panicBody))) (QS.lV rfl Try.isAgg23) ?_
            refine Tr.hT 9 rfl (by kernel_rfl) (panicThen (panicIn (panicThen panicBody))) (QS.sub32 rfl rfl) ?_
            refine Tr.hT 10 rfl (by kernel_rfl) (panicThen (panicIn (panicThen panicBody))) (QS.sub32 (n := 5) rfl rfl) ?_
            refine Tr.hAll [4, 11] (by kernel_rfl) (by simp) (fun iq hq => ?_)
            rcases List.mem_cons.1 hq with rfl | hq
            · skip
              refine Tr.hOp rfl ?_
              refine Tr.lit1 (E := encU8) _ rfl rfl Try.underlying22 Try.sizeOf5 Try.zeroValue5 (by rfl) (by rfl) rfl (fun V20 => ?_)
              refine Tr.hN ?_
              refine Tr.hAll [11] (by kernel_rfl) (by simp) (fun iq hq => ?_)
              obtain rfl := List.mem_singleton.1 hq
              refine Tr.hOp rfl ?_
              refine Tr.callRow rfl Try.call72 (fun w hw => word_any (i.imm - i.addr - 5) w) rfl (fun V21 => ?_)
              refine Tr.hN ?_
              refine Tr.hAll [12] (by kernel_rfl) (by simp) (fun iq hq => ?_)
              obtain rfl := List.mem_singleton.1 hq
              refine Tr.hOp rfl ?_
              first | refine Tr.append1 rfl rfl (by repeat (first | exact Del.here _ | apply Del.there)) (by repeat (first | exact Del.here _ | apply Del.there)) Try.underlying22 HLF.info5 (by rfl) (by rfl) (by simp [wordP]) (by unfold maxLen; simp [wordP]) rfl (fun V22 => ?_) | refine Tr.ownNil _ _ (Tr.append1 rfl rfl (by repeat (first | exact Del.here _ | apply Del.there)) (by repeat (first | exact Del.here _ | apply Del.there)) Try.underlying22 HLF.info5 (by rfl) (by rfl) (by simp [wordP]) (by unfold maxLen; simp [wordP]) rfl (fun V22 => ?_)) | refine Tr.appendOf rfl rfl (by repeat (first | exact Del.here _ | apply Del.there)) (fun w hw => hw.slF (by assumption)) Try.underlying22 HLF.info5 (by rfl) (by rfl) (by simp [wordP]) (by unfold maxLen; simp [wordP]) rfl (fun V22 => ?_) | refine Tr.ownNil _ _ (Tr.appendOf rfl rfl (by repeat (first | exact Del.here _ | apply Del.there)) (fun w hw => hw.slF (by assumption)) Try.underlying22 HLF.info5 (by rfl) (by rfl) (by simp [wordP]) (by unfold maxLen; simp [wordP]) rfl (fun V22 => ?_)) | refine Tr.appendOf rfl rfl (by repeat (first | exact Del.here _ | apply Del.there)) (fun w hw => hw.row (by repeat (first | exact List.Mem.head _ | apply List.Mem.tail))) Try.underlying22 HLF.info5 (by rfl) (by rfl) (by simp [wordP]) (by unfold maxLen; simp [wordP]) rfl (fun V22 => ?_)
              refine Tr.hN ?_
              refine Tr.hT 13 rfl (by kernel_rfl) (panicThen (panicIn (panicThen panicBody))) (QS.assign rfl) ?_
              refine Tr.hDone (by kernel_rfl) ?_
              refine Tr.thenN ?_
              refine Tr.ret ?_
              refine Tr.inR ?_
              refine Tr.thenR ?_
              refine Tr.ret1 Try.results52 rfl (fun w' hw => ?_)
              exact ⟨_, rfl, hw.below (Bg.le.refl _), by unfold bytesP; (repeat (first | rw [if_pos (by first | assumption | omega | grind)] | rw [if_neg (by first | assumption | omega | grind)])); exact hw.new (.head _)⟩
            obtain rfl := List.mem_singleton.1 hq
            refine Tr.hOp rfl ?_
            refine Tr.callRow rfl Try.call72 (fun w hw => word_any (i.imm - i.addr - 5) w) rfl (fun V23 => ?_)
            refine Tr.hN ?_
            refine Tr.hAll [4] (by kernel_rfl) (by simp) (fun iq hq => ?_)
            obtain rfl := List.mem_singleton.1 hq
            refine Tr.hOp rfl ?_
            refine Tr.lit1 (E := encU8) _ rfl rfl Try.underlying22 Try.sizeOf5 Try.zeroValue5 (by rfl) (by rfl) rfl (fun V24 => ?_)
            refine Tr.hN ?_
            refine Tr.hAll [12] (by kernel_rfl) (by simp) (fun iq hq => ?_)
            obtain rfl := List.mem_singleton.1 hq
            refine Tr.hOp rfl ?_
            first | refine Tr.append1 rfl rfl (by repeat (first | exact Del.here _ | apply Del.there)) (by repeat (first | exact Del.here _ | apply Del.there)) Try.underlying22 HLF.info5 (by rfl) (by rfl) (by simp [wordP]) (by unfold maxLen; simp [wordP]) rfl (fun V25 => ?_) | refine Tr.ownNil _ _ (Tr.append1 rfl rfl (by repeat (first | exact Del.here _ | apply Del.there)) (by repeat (first | exact Del.here _ | apply Del.there)) Try.underlying22 HLF.info5 (by rfl) (by rfl) (by simp [wordP]) (by unfold maxLen; simp [wordP]) rfl (fun V25 => ?_)) | refine Tr.appendOf rfl rfl (by repeat (first | exact Del.here _ | apply Del.there)) (fun w hw => hw.slF (by assumption)) Try.underlying22 HLF.info5 (by rfl) (by rfl) (by simp [wordP]) (by unfold maxLen; simp [wordP]) rfl (fun V25 => ?_) | refine Tr.ownNil _ _ (Tr.appendOf rfl rfl (by repeat (first | exact Del.here _ | apply Del.there)) (fun w hw => hw.slF (by assumption)) Try.underlying22 HLF.info5 (by rfl) (by rfl) (by simp [wordP]) (by unfold maxLen; simp [wordP]) rfl (fun V25 => ?_)) | refine Tr.appendOf rfl rfl (by repeat (first | exact Del.here _ | apply Del.there)) (fun w hw => hw.row (by repeat (first | exact List.Mem.head _ | apply List.Mem.tail))) Try.underlying22 HLF.info5 (by rfl) (by rfl) (by simp [wordP]) (by unfold maxLen; simp [wordP]) rfl (fun V25 => ?_)
            refine Tr.hN ?_
            refine Tr.hT 13 rfl (by kernel_rfl) (panicThen (panicIn (panicThen panicBody))) (QS.assign rfl) ?_
            refine Tr.hDone (by kernel_rfl) ?_
            refine Tr.thenN ?_
            refine Tr.ret ?_
            refine Tr.inR ?_
            refine Tr.thenR ?_
            refine Tr.ret1 Try.results52 rfl (fun w' hw => ?_)
            exact ⟨_, rfl, hw.below (Bg.le.refl _), by unfold bytesP; (repeat (first | rw [if_pos (by first | assumption | omega | grind)] | rw [if_neg (by first | assumption | omega | grind)])); exact hw.new (.head _)⟩
        · try simp only [bs] at h17
          refine Tr.seq ?_
          refine Tr.region ?_
          refine Tr.q (QS.eql rfl rfl) rfl ?_
          refine Tr.q (QS.assign rfl) rfl ?_
          refine Tr.nil ?_
          refine Tr.thenN ?_
          refine Tr.cond rfl (fun h26 => ?_) (fun h26 => ?_)
          · try simp only [bs] at h26
            refine Tr.seq ?_
            refine Tr.region ?_
            refine Tr.lit1 (E := encU8) (128 : UInt8) rfl rfl Try.underlying22 Try.sizeOf5 Try.zeroValue5 (by rfl) (by rfl) rfl (fun V27 => ?_)
            refine Tr.q (QS.fieldAddr (off := 1) (ft := 23) rfl Try.underlying27 rfl rfl Try.sizeOf23 (by decide)) rfl ?_
            refine Tr.q (QS.lV rfl Try.isAgg23) rfl ?_
            refine Tr.q (QS.fieldAddr (off := 0) (ft := 23) rfl Try.underlying27 rfl rfl Try.sizeOf23 (by decide)) rfl ?_
            refine Tr.q (QS.lV rfl Try.isAgg23) rfl ?_
            refine Tr.q (QS.sub32 rfl rfl) rfl ?_
            refine Tr.q (QS.sub32 (n := 5) rfl rfl) rfl ?_
            refine Tr.callRow rfl Try.call72 (fun w hw => word_any (i.imm - i.addr - 5) w) rfl (fun V28 => ?_)
            first | refine Tr.append1 rfl rfl (by repeat (first | exact Del.here _ | apply Del.there)) (by repeat (first | exact Del.here _ | apply Del.there)) Try.underlying22 HLF.info5 (by rfl) (by rfl) (by simp [wordP]) (by unfold maxLen; simp [wordP]) rfl (fun V29 => ?_) | refine Tr.ownNil _ _ (Tr.append1 rfl rfl (by repeat (first | exact Del.here _ | apply Del.there)) (by repeat (first | exact Del.here _ | apply Del.there)) Try.underlying22 HLF.info5 (by rfl) (by rfl) (by simp [wordP]) (by unfold maxLen; simp [wordP]) rfl (fun V29 => ?_)) | refine Tr.appendOf rfl rfl (by repeat (first | exact Del.here _ | apply Del.there)) (fun w hw => hw.slF (by assumption)) Try.underlying22 HLF.info5 (by rfl) (by rfl) (by simp [wordP]) (by unfold maxLen; simp [wordP]) rfl (fun V29 => ?_) | refine Tr.ownNil _ _ (Tr.appendOf rfl rfl (by repeat (first | exact Del.here _ | apply Del.there)) (fun w hw => hw.slF (by assumption)) Try.underlying22 HLF.info5 (by rfl) (by rfl) (by simp [wordP]) (by unfold maxLen; simp [wordP]) rfl (fun V29 => ?_)) | refine Tr.appendOf rfl rfl (by repeat (first | exact Del.here _ | apply Del.there)) (fun w hw => hw.row (by repeat (first | exact List.Mem.head _ | apply List.Mem.tail))) Try.underlying22 HLF.info5 (by rfl) (by rfl) (by simp [wordP]) (by unfold maxLen; simp [wordP]) rfl (fun V29 => ?_)
            refine Tr.q (QS.assign rfl) rfl ?_
            refine Tr.nil ?_
            refine Tr.thenN ?_
            refine Tr.ret ?_
            refine Tr.inR ?_
            refine Tr.thenR ?_
            refine Tr.ret1 Try.results52 rfl (fun w' hw => ?_)
            exact ⟨_, rfl, hw.below (Bg.le.refl _), by unfold bytesP; (repeat (first | rw [if_pos (by first | assumption | omega | grind)] | rw [if_neg (by first | assumption | omega | grind)])); exact hw.new (.head _)⟩
          · try simp only [bs] at h26
            refine Tr.seq ?_
            refine Tr.region ?_
            refine Tr.q (QS.eql rfl rfl) rfl ?_
            refine Tr.q (QS.assign rfl) rfl ?_
            refine Tr.nil ?_
            refine Tr.thenN ?_
            refine Tr.cond rfl (fun h30 => ?_) (fun h30 => ?_)
            · try simp only [bs] at h30
              refine Tr.seq ?_
              refine Tr.regionH ([cellE b1 (encIns.enc i) 27]) 9 rfl HLF.mixed ?_
              refine Tr.hT 0 rfl (by kernel_rfl) (panicThen (panicIn (panicThen panicBody))) (QS.fieldAddr (off := 6) (ft := 3) rfl Try.underlying27 rfl rfl Try.sizeOf3 (by decide)) ?_
              refine Tr.hT 1 rfl (by kernel_rfl) (panicThen (panicIn (panicThen panicBody))) (QS.lV rfl Try.isAgg3) ?_
              refine Tr.hT 2 rfl (by kernel_rfl) (panicThen (panicIn (panicThen panicBody))) (QS.cvtTo8 rfl Try.underlying3 Try.underlying5) ?_
              refine Tr.hT 4 rfl (by kernel_rfl) (panicThen (panicIn (panicThen panicBody))) (QS.fieldAddr (off := 1) (ft := 23) rfl Try.underlying27 rfl rfl Try.sizeOf23 (by decide)) ?_
              refine Tr.hT 5 rfl (by kernel_rfl) (panicThen (panicIn (panicThen panicBody))) (QS.lV rfl Try.isAgg23) ?_
              refine Tr.hAll [3, 6] (by kernel_rfl) (by simp) (fun iq hq => ?_)
              rcases List.mem_cons.1 hq with rfl | hq
              · skip
                refine Tr.hOp rfl ?_
                refine Tr.litN (E := encU8) [131, u8 i.a] (vs := [(0, _), (1, _)]) rfl rfl Try.underlying22 Try.sizeOf5 Try.zeroValue5 (by rfl) (by rfl) rfl (by first | kernel_rfl | rfl) rfl (fun V31 => ?_)
                refine Tr.hN ?_
                refine Tr.hAll [6] (by kernel_rfl) (by simp) (fun iq hq => ?_)
                obtain rfl := List.mem_singleton.1 hq
                refine Tr.hOp rfl ?_
                refine Tr.callRow rfl Try.call72 (fun w hw => word_any i.imm w) rfl (fun V32 => ?_)
                refine Tr.hN ?_
                refine Tr.hAll [7] (by kernel_rfl) (by simp) (fun iq hq => ?_)
                obtain rfl := List.mem_singleton.1 hq
                refine Tr.hOp rfl ?_
                first | refine Tr.append1 rfl rfl (by repeat (first | exact Del.here _ | apply Del.there)) (by repeat (first | exact Del.here _ | apply Del.there)) Try.underlying22 HLF.info5 (by rfl) (by rfl) (by simp [wordP]) (by unfold maxLen; simp [wordP]) rfl (fun V33 => ?_) | refine Tr.ownNil _ _ (Tr.append1 rfl rfl (by repeat (first | exact Del.here _ | apply Del.there)) (by repeat (first | exact Del.here _ | apply Del.there)) Try.underlying22 HLF.info5 (by rfl) (by rfl) (by simp [wordP]) (by unfold maxLen; simp [wordP]) rfl (fun V33 => ?_)) | refine Tr.appendOf rfl rfl (by repeat (first | exact Del.here _ | apply Del.there)) (fun w hw => hw.slF (by assumption)) Try.underlying22 HLF.info5 (by rfl) (by rfl) (by simp [wordP]) (by unfold maxLen; simp [wordP]) rfl (fun V33 => ?_) | refine Tr.ownNil _ _ (Tr.appendOf rfl rfl (by repeat (first | exact Del.here _ | apply Del.there)) (fun w hw => hw.slF (by assumption)) Try.underlying22 HLF.info5 (by rfl) (by rfl) (by simp [wordP]) (by unfold maxLen; simp [wordP]) rfl (fun V33 => ?_)) | refine Tr.appendOf rfl rfl (by repeat (first | exact Del.here _ | apply Del.there)) (fun w hw => hw.row (by repeat (first | exact List.Mem.head _ | apply List.Mem.tail))) Try.underlying22 HLF.info5 (by rfl) (by rfl) (by simp [wordP]) (by unfold maxLen; simp [wordP]) rfl (fun V33 => ?_)
                refine Tr.hN ?_
                refine Tr.hT 8 rfl (by kernel_rfl) (panicThen (panicIn (panicThen panicBody))) (QS.assign rfl) ?_
                refine Tr.hDone (by kernel_rfl) ?_
                refine Tr.thenN ?_
                refine Tr.ret ?_
                refine Tr.inR ?_
                refine Tr.thenR ?_
                refine Tr.ret1 Try.results52 rfl (fun w' hw => ?_)
                exact ⟨_, rfl, hw.below (Bg.le.refl _), by unfold bytesP; (repeat (first | rw [if_pos (by first | assumption | omega | grind)] | rw [if_neg (by first | assumption | omega | grind)])); exact hw.new (.head _)⟩
              obtain rfl := List.mem_singleton.1 hq
              refine Tr.hOp rfl ?_
              refine Tr.callRow rfl Try.call72 (fun w hw => word_any i.imm w) rfl (fun V34 => ?_)
              refine Tr.hN ?_
              refine Tr.hAll [3] (by kernel_rfl) (by simp) (fun iq hq => ?_)
              obtain rfl := List.mem_singleton.1 hq
              refine Tr.hOp rfl ?_
              refine Tr.litN (E := encU8) [131, u8 i.a] (vs := [(0, _), (1, _)]) rfl rfl Try.underlying22 Try.sizeOf5 Try.zeroValue5 (by rfl) (by rfl) rfl (by first | kernel_rfl | rfl) rfl (fun V35 => ?_)
              refine Tr.hN ?_
              refine Tr.hAll [7] (by kernel_rfl) (by simp) (fun iq hq => ?_)
              obtain rfl := List.mem_singleton.1 hq
              refine Tr.hOp rfl ?_
              first | refine Tr.append1 rfl rfl (by repeat (first | exact Del.here _ | apply Del.there)) (by repeat (first | exact Del.here _ | apply Del.there)) Try.underlying22 HLF.info5 (by rfl) (by rfl) (by simp [wordP]) (by unfold maxLen; simp [wordP]) rfl (fun V36 => ?_) | refine Tr.ownNil _ _ (Tr.append1 rfl rfl (by repeat (first | exact Del.here _ | apply Del.there)) (by repeat (first | exact Del.here _ | apply Del.there)) Try.underlying22 HLF.info5 (by rfl) (by rfl) (by simp [wordP]) (by unfold maxLen; simp [wordP]) rfl (fun V36 => ?_)) | refine Tr.appendOf rfl rfl (by repeat (first | exact Del.here _ | apply Del.there)) (fun w hw => hw.slF (by assumption)) Try.underlying22 HLF.info5 (by rfl) (by rfl) (by simp [wordP]) (by unfold maxLen; simp [wordP]) rfl (fun V36 => ?_) | refine Tr.ownNil _ _ (Tr.appendOf rfl rfl (by repeat (first | exact Del.here _ | apply Del.there)) (fun w hw => hw.slF (by assumption)) Try.underlying22 HLF.info5 (by rfl) (by rfl) (by simp [wordP]) (by unfold maxLen; simp [wordP]) rfl (fun V36 => ?_)) | refine Tr.appendOf rfl rfl (by repeat (first | exact Del.here _ | apply Del.there)) (fun w hw => hw.row (by repeat (first | exact List.Mem.head _ | apply List.Mem.tail))) Try.underlying22 HLF.info5 (by rfl) (by rfl) (by simp [wordP]) (by unfold maxLen; simp [wordP]) rfl (fun V36 => ?_)
              refine Tr.hN ?_
              refine Tr.hT 8 rfl (by kernel_rfl) (panicThen (panicIn (panicThen panicBody))) (QS.assign rfl) ?_
              refine Tr.hDone (by kernel_rfl) ?_
              refine Tr.thenN ?_
              refine Tr.ret ?_
              refine Tr.inR ?_
              refine Tr.thenR ?_
              refine Tr.ret1 Try.results52 rfl (fun w' hw => ?_)
              exact ⟨_, rfl, hw.below (Bg.le.refl _), by unfold bytesP; (repeat (first | rw [if_pos (by first | assumption | omega | grind)] | rw [if_neg (by first | assumption | omega | grind)])); exact hw.new (.head _)⟩
            · try simp only [bs] at h30
              refine Tr.skip ?_
              refine Tr.inN ?_
              refine Tr.thenN ?_
              refine Tr.seq ?_
              refine Tr.region ?_
              refine Tr.q (QS.lW rfl Try.isAgg27 Try.sizeOf27) rfl ?_
              refine Tr.callRow rfl Try.call74 (fun w hw => plain_any i w hcc) rfl (fun V37 => ?_)
              refine Tr.q (QS.assign rfl) rfl ?_
              refine Tr.nil ?_
              refine Tr.thenN ?_
              refine Tr.ret ?_
              refine Tr.ret1 Try.results52 rfl (fun w' hw => ?_)
              exact ⟨_, rfl, hw.below (Bg.le.refl _), by unfold bytesP; (repeat (first | rw [if_pos (by first | assumption | omega | grind)] | rw [if_neg (by first | assumption | omega | grind)])); exact hw.new (.head _)⟩

set_option maxRecDepth 100000 in
set_option maxHeartbeats 2000000 in
theorem refEncode_any (i : Ins) (w : World) (hI : InsOK i) :
    Calls Try.prog 22 #[.agg (encIns.enc i).toArray] w (fun e w' => ∃ V, e = .returned (.tuple #[V, .int .i64 (refErrP i)]) ∧ Ext w w' ∧ NewRow w w' 5 encU8 (refEncP i) V) := by
  refine enter Try.func22 rfl Try.ntmps22 rfl ?_
  refine Tr.seq ?_
  refine Tr.region ?_
  refine Tr.box rfl rfl rfl (fun b1 => ?_)
  refine Tr.q (QS.assign rfl) rfl ?_
  refine Tr.q (QS.assign rfl) rfl ?_
  refine Tr.nil ?_
  refine Tr.thenN ?_
  refine Tr.seq ?_
  refine Tr.region ?_
  refine Tr.q (QS.lW rfl Try.isAgg27 Try.sizeOf27) rfl ?_
  refine Tr.q (QS.call rfl Try.call51 (fun w hw => refCheck_any i w)) rfl ?_
  refine Tr.q (QS.assign rfl) rfl ?_
  refine Tr.nil ?_
  refine Tr.thenN ?_
  refine Tr.seq ?_
  refine Tr.seq ?_
  refine Tr.region ?_
  refine Tr.q (QS.move rfl) rfl ?_
  refine Tr.q (QS.neq rfl rfl) rfl ?_
  refine Tr.nil ?_
  refine Tr.thenN ?_
  refine Tr.cond rfl (fun h2 => ?_) (fun h2 => ?_)
  · try simp only [bs] at h2
    refine Tr.seq ?_
    refine Tr.region ?_
    refine Tr.q (QS.move rfl) rfl ?_
    refine Tr.q (QS.assign rfl) rfl ?_
    refine Tr.q (QS.assign rfl) rfl ?_
    refine Tr.nil ?_
    refine Tr.thenN ?_
    refine Tr.ret ?_
    refine Tr.thenR ?_
    refine Tr.ret2 Try.results22 rfl rfl (fun w' hw => ?_)
    exact ⟨.slice none 0 0, rfl, hw.below (Bg.le.refl _), newRow_nil (by unfold refEncP; rw [if_neg (by assumption)])⟩
  · try simp only [bs] at h2
    refine Tr.skip ?_
    refine Tr.thenN ?_
    refine Tr.seq ?_
    have he : refErrP i = 0 := (by first | assumption | grind)
    have hv := refErr_valid he
    refine Tr.region ?_
    refine Tr.q (QS.lW rfl Try.isAgg27 Try.sizeOf27) rfl ?_
    refine Tr.callRow rfl Try.call52 (fun w hw => bytesOf_any i w hv.1 hv.2.1 hv.2.2.1 hv.2.2.2.1 hv.2.2.2.2) rfl (fun V3 => ?_)
    refine Tr.q (QS.assign rfl) rfl ?_
    refine Tr.q (QS.assign rfl) rfl ?_
    refine Tr.nil ?_
    refine Tr.thenN ?_
    refine Tr.ret ?_
    refine Tr.ret2 Try.results22 rfl rfl (fun w' hw => ?_)
    exact ⟨_, by rw [he], hw.below (Bg.le.refl _), by unfold refEncP; rw [if_pos he]; exact hw.new (.head _)⟩

set_option maxRecDepth 100000 in
set_option maxHeartbeats 2000000 in
theorem refLength_any (i : Ins) (w : World) (hI : InsOK i) :
    Calls Try.prog 26 #[.agg (encIns.enc i).toArray] w (fun e w' => e = .returned (.int .i64 (refLenP i)) ∧ Ext w w') := by
  refine enter Try.func26 rfl Try.ntmps26 rfl ?_
  refine Tr.seq ?_
  refine Tr.region ?_
  refine Tr.box rfl rfl rfl (fun b1 => ?_)
  refine Tr.q (QS.assign rfl) rfl ?_
  refine Tr.nil ?_
  refine Tr.thenN ?_
  refine Tr.seq ?_
  refine Tr.seq ?_
  refine Tr.region ?_
  refine Tr.q (QS.lW rfl Try.isAgg27 Try.sizeOf27) rfl ?_
  refine Tr.q (QS.call rfl Try.call24 (fun w hw => refValid_any i w)) rfl ?_
  refine Tr.q (QS.not rfl) rfl ?_
  refine Tr.nil ?_
  refine Tr.thenN ?_
  refine Tr.cond rfl (fun h2 => ?_) (fun h2 => ?_)
  · try simp only [bs] at h2
    refine Tr.seq ?_
    refine Tr.region ?_
    refine Tr.q (QS.assign rfl) rfl ?_
    refine Tr.nil ?_
    refine Tr.thenN ?_
    refine Tr.ret ?_
    refine Tr.thenR ?_
    refine Tr.ret1 Try.results26 rfl (fun w' hw => ?_)
    exact ⟨by unfold refLenP; rw [if_neg (by assumption)], hw.below (Bg.le.refl _)⟩
  · try simp only [bs] at h2
    refine Tr.skip ?_
    refine Tr.thenN ?_
    refine Tr.seq ?_
    have he : refErrP i = 0 := (by first | assumption | grind)
    have hv := refErr_valid he
    refine Tr.region ?_
    refine Tr.q (QS.lW rfl Try.isAgg27 Try.sizeOf27) rfl ?_
    refine Tr.callRow rfl Try.call52 (fun w hw => bytesOf_any i w hv.1 hv.2.1 hv.2.2.1 hv.2.2.2.1 hv.2.2.2.2) rfl (fun V3 => ?_)
    first | refine Tr.q (QS.len rfl (by assumption) Try.underlying22) rfl ?_ | refine Tr.q (QS.lenRow rfl (by repeat (first | exact List.Mem.head _ | apply List.Mem.tail)) Try.underlying22) rfl ?_ | refine Tr.q (QS.lenNil rfl Try.underlying22) rfl ?_
    refine Tr.q (QS.assign rfl) rfl ?_
    refine Tr.nil ?_
    refine Tr.thenN ?_
    refine Tr.ret ?_
    refine Tr.ret1 Try.results26 rfl (fun w' hw => ?_)
    exact ⟨by unfold refLenP; rw [if_pos he], hw.below (Bg.le.refl _)⟩

set_option maxRecDepth 100000 in
set_option maxHeartbeats 2000000 in
theorem refNext_any (i : Ins) (w : World) (hI : InsOK i) :
    Calls Try.prog 31 #[.agg (encIns.enc i).toArray] w (fun e w' => e = .returned (.int .u32 (i.addr + u32 (refLenP i)).toNat) ∧ Ext w w') := by
  refine enter Try.func31 rfl Try.ntmps31 rfl ?_
  refine Tr.seq ?_
  refine Tr.region ?_
  refine Tr.box rfl rfl rfl (fun b1 => ?_)
  refine Tr.q (QS.assign rfl) rfl ?_
  refine Tr.nil ?_
  refine Tr.thenN ?_
  refine Tr.seq ?_
  refine Tr.regionQ HLF.mixed (by kernel_rfl) ?_
  refine TrQ.q (QS.fieldAddr (off := 0) (ft := 23) rfl Try.underlying27 rfl rfl Try.sizeOf23 (by decide)) rfl ?_
  refine TrQ.q (QS.lV rfl Try.isAgg23) rfl ?_
  refine TrQ.q (QS.lW rfl Try.isAgg27 Try.sizeOf27) rfl ?_
  refine TrQ.q (QS.call rfl Try.call26 (fun w hw => refLength_any i w hI)) rfl ?_
  refine TrQ.q (QS.cvtTo32 rfl Try.underlying3 Try.underlying23) rfl ?_
  refine TrQ.q (QS.add32 rfl rfl) rfl ?_
  refine TrQ.q (QS.assign rfl) rfl ?_
  refine TrQ.nil ?_
  refine Tr.thenN ?_
  refine Tr.ret ?_
  refine Tr.ret1 Try.results31 rfl (fun w' hw => ?_)
  exact ⟨rfl, hw.below (Bg.le.refl _)⟩

set_option maxRecDepth 100000 in
set_option maxHeartbeats 2000000 in
theorem refEnds_any (i : Ins) (w : World) :
    Calls Try.prog 30 #[.agg (encIns.enc i).toArray] w (fun e w' => e = .returned (.bool (endsP i)) ∧ Ext w w') := by
  refine enter Try.func30 rfl Try.ntmps30 rfl ?_
  refine Tr.seq ?_
  refine Tr.region ?_
  refine Tr.box rfl rfl rfl (fun b1 => ?_)
  refine Tr.q (QS.assign rfl) rfl ?_
  refine Tr.nil ?_
  refine Tr.thenN ?_
  refine Tr.seq ?_
  refine Tr.region ?_
  refine Tr.q (QS.fieldAddr (off := 2) (ft := 3) rfl Try.underlying27 rfl rfl Try.sizeOf3 (by decide)) rfl ?_
  refine Tr.q (QS.lV rfl Try.isAgg3) rfl ?_
  refine Tr.q (QS.eql rfl rfl) rfl ?_
  refine Tr.q (QS.move rfl) rfl ?_
  apply Tr.orP
  · exact (rfl : _ = (4, 6, 10))
  · exact rfl
  · intro hF2; have hF2' := hF2
    try simp only [bs] at hF2'
    refine Tr.gq rfl rfl hF2 (QS.fieldAddr (off := 2) (ft := 3) rfl Try.underlying27 rfl rfl Try.sizeOf3 (by decide)) rfl ?_
    refine Tr.gq rfl rfl hF2 (QS.lV rfl Try.isAgg3) rfl ?_
    refine Tr.gq rfl rfl hF2 (QS.eql rfl rfl) rfl ?_
    refine Tr.q (QS.pickF rfl hF2 rfl) rfl ?_
    refine Tr.nil (Tr.thenN ?_)
    exact Tr.endX (Sub.cons rfl (Sub.dropN 4 (by kernel_rfl) rfl))
  · intro hT2
    refine Tr.gskip rfl rfl hT2 rfl ?_
    refine Tr.gskip rfl rfl hT2 rfl ?_
    refine Tr.gskip rfl rfl hT2 rfl ?_
    refine Tr.q (QS.pickT rfl hT2 rfl) rfl ?_
    refine Tr.nil (Tr.thenN ?_)
    exact Tr.endX (Sub.cons rfl (Sub.dropN 4 (by kernel_rfl) rfl))
  refine Tr.q (QS.move rfl) rfl ?_
  apply Tr.orP
  · exact (rfl : _ = (4, 11, 15))
  · exact rfl
  · intro hF3; have hF3' := hF3
    try simp only [bs] at hF3'
    refine Tr.gq rfl rfl hF3 (QS.fieldAddr (off := 2) (ft := 3) rfl Try.underlying27 rfl rfl Try.sizeOf3 (by decide)) rfl ?_
    refine Tr.gq rfl rfl hF3 (QS.lV rfl Try.isAgg3) rfl ?_
    refine Tr.gq rfl rfl hF3 (QS.eql rfl rfl) rfl ?_
    refine Tr.q (QS.pickF rfl hF3 rfl) rfl ?_
    refine Tr.nil (Tr.thenN ?_)
    exact Tr.endX (Sub.cons rfl (Sub.dropN 4 (by kernel_rfl) rfl))
  · intro hT3
    refine Tr.gskip rfl rfl hT3 rfl ?_
    refine Tr.gskip rfl rfl hT3 rfl ?_
    refine Tr.gskip rfl rfl hT3 rfl ?_
    refine Tr.q (QS.pickT rfl hT3 rfl) rfl ?_
    refine Tr.nil (Tr.thenN ?_)
    exact Tr.endX (Sub.cons rfl (Sub.dropN 4 (by kernel_rfl) rfl))
  refine Tr.q (QS.move rfl) rfl ?_
  apply Tr.orP
  · exact (rfl : _ = (4, 16, 20))
  · exact rfl
  · intro hF4; have hF4' := hF4
    try simp only [bs] at hF4'
    refine Tr.gq rfl rfl hF4 (QS.fieldAddr (off := 2) (ft := 3) rfl Try.underlying27 rfl rfl Try.sizeOf3 (by decide)) rfl ?_
    refine Tr.gq rfl rfl hF4 (QS.lV rfl Try.isAgg3) rfl ?_
    refine Tr.gq rfl rfl hF4 (QS.eql rfl rfl) rfl ?_
    refine Tr.q (QS.pickF rfl hF4 rfl) rfl ?_
    refine Tr.nil (Tr.thenN ?_)
    exact Tr.endX (Sub.cons rfl (Sub.dropN 4 (by kernel_rfl) rfl))
  · intro hT4
    refine Tr.gskip rfl rfl hT4 rfl ?_
    refine Tr.gskip rfl rfl hT4 rfl ?_
    refine Tr.gskip rfl rfl hT4 rfl ?_
    refine Tr.q (QS.pickT rfl hT4 rfl) rfl ?_
    refine Tr.nil (Tr.thenN ?_)
    exact Tr.endX (Sub.cons rfl (Sub.dropN 4 (by kernel_rfl) rfl))
  refine Tr.q (QS.move rfl) rfl ?_
  apply Tr.orP
  · exact (rfl : _ = (9, 21, 30))
  · exact rfl
  · intro hF5; have hF5' := hF5
    try simp only [bs] at hF5'
    refine Tr.gq rfl rfl hF5 (QS.fieldAddr (off := 2) (ft := 3) rfl Try.underlying27 rfl rfl Try.sizeOf3 (by decide)) rfl ?_
    refine Tr.gq rfl rfl hF5 (QS.lV rfl Try.isAgg3) rfl ?_
    refine Tr.gq rfl rfl hF5 (QS.eql rfl rfl) rfl ?_
    refine Tr.gq rfl rfl hF5 (QS.move rfl) rfl ?_
    apply Tr.andP
    · exact (rfl : _ = (4, 25, 29))
    · exact rfl
    · intro hT6; have hT6' := hT6
      try simp only [bs] at hT6'
      refine Tr.gq rfl rfl hT6 (QS.fieldAddr (off := 5) (ft := 3) rfl Try.underlying27 rfl rfl Try.sizeOf3 (by decide)) rfl ?_
      refine Tr.gq rfl rfl hT6 (QS.lV rfl Try.isAgg3) rfl ?_
      refine Tr.gq rfl rfl hT6 (QS.eql rfl rfl) rfl ?_
      refine Tr.gq rfl rfl hF5 (QS.pickT rfl hT6 rfl) rfl ?_
      refine Tr.nil (Tr.thenN ?_)
      exact Tr.endX (Sub.cons rfl (Sub.dropN 4 (by kernel_rfl) rfl))
    · intro hF6
      refine Tr.gskip rfl rfl hF6 rfl ?_
      refine Tr.gskip rfl rfl hF6 rfl ?_
      refine Tr.gskip rfl rfl hF6 rfl ?_
      refine Tr.gq rfl rfl hF5 (QS.pickF rfl hF6 rfl) rfl ?_
      refine Tr.nil (Tr.thenN ?_)
      exact Tr.endX (Sub.cons rfl (Sub.dropN 4 (by kernel_rfl) rfl))
    refine Tr.q (QS.pickF rfl hF5 rfl) rfl ?_
    refine Tr.nil (Tr.thenN ?_)
    exact Tr.endX (Sub.cons rfl (Sub.dropN 6 (by kernel_rfl) rfl))
  · intro hT5
    refine Tr.gskip rfl rfl hT5 rfl ?_
    refine Tr.gskip rfl rfl hT5 rfl ?_
    refine Tr.gskip rfl rfl hT5 rfl ?_
    refine Tr.gskip rfl rfl hT5 rfl ?_
    refine Tr.gskipU rfl rfl rfl ?_
    refine Tr.gskipU rfl rfl rfl ?_
    refine Tr.gskipU rfl rfl rfl ?_
    refine Tr.gskip rfl rfl hT5 rfl ?_
    refine Tr.q (QS.pickT rfl hT5 rfl) rfl ?_
    refine Tr.nil (Tr.thenN ?_)
    exact Tr.endX (Sub.cons rfl (Sub.dropN 9 (by kernel_rfl) rfl))
  refine Tr.q (QS.assign rfl) rfl ?_
  refine Tr.nil ?_
  refine Tr.thenN ?_
  refine Tr.ret ?_
  refine Tr.ret1 Try.results30 rfl (fun w' hw => ?_)
  exact ⟨by clear hw; unfold endsP; congr 2; rw [Bool.eq_iff_iff]; simp; omega, hw.below (Bg.le.refl _)⟩

set_option maxRecDepth 100000 in
set_option maxHeartbeats 2000000 in
theorem refTarget_any (i : Ins) (w : World) :
    Calls Try.prog 28 #[.agg (encIns.enc i).toArray] w (fun e w' => e = .returned (.tuple #[.int .u32 (targetP i).1.toNat, .bool (targetP i).2]) ∧ Ext w w') := by
  refine enter Try.func28 rfl Try.ntmps28 rfl ?_
  refine Tr.seq ?_
  refine Tr.region ?_
  refine Tr.box rfl rfl rfl (fun b1 => ?_)
  refine Tr.q (QS.assign rfl) rfl ?_
  refine Tr.q (QS.assign rfl) rfl ?_
  refine Tr.nil ?_
  refine Tr.thenN ?_
  refine Tr.seq ?_
  refine Tr.seq ?_
  refine Tr.region ?_
  refine Tr.q (QS.fieldAddr (off := 2) (ft := 3) rfl Try.underlying27 rfl rfl Try.sizeOf3 (by decide)) rfl ?_
  refine Tr.q (QS.lV rfl Try.isAgg3) rfl ?_
  refine Tr.q (QS.eql rfl rfl) rfl ?_
  refine Tr.q (QS.move rfl) rfl ?_
  apply Tr.orP
  · exact (rfl : _ = (4, 7, 11))
  · exact rfl
  · intro hF2; have hF2' := hF2
    try simp only [bs] at hF2'
    refine Tr.gq rfl rfl hF2 (QS.fieldAddr (off := 2) (ft := 3) rfl Try.underlying27 rfl rfl Try.sizeOf3 (by decide)) rfl ?_
    refine Tr.gq rfl rfl hF2 (QS.lV rfl Try.isAgg3) rfl ?_
    refine Tr.gq rfl rfl hF2 (QS.eql rfl rfl) rfl ?_
    refine Tr.q (QS.pickF rfl hF2 rfl) rfl ?_
    refine Tr.nil (Tr.thenN ?_)
    exact Tr.endX (Sub.cons rfl (Sub.dropN 4 (by kernel_rfl) rfl))
  · intro hT2
    refine Tr.gskip rfl rfl hT2 rfl ?_
    refine Tr.gskip rfl rfl hT2 rfl ?_
    refine Tr.gskip rfl rfl hT2 rfl ?_
    refine Tr.q (QS.pickT rfl hT2 rfl) rfl ?_
    refine Tr.nil (Tr.thenN ?_)
    exact Tr.endX (Sub.cons rfl (Sub.dropN 4 (by kernel_rfl) rfl))
  refine Tr.nil ?_
  refine Tr.thenN ?_
  refine Tr.cond rfl (fun h3 => ?_) (fun h3 => ?_)
  · try simp only [bs] at h3
    refine Tr.seq ?_
    refine Tr.region ?_
    refine Tr.q (QS.fieldAddr (off := 1) (ft := 23) rfl Try.underlying27 rfl rfl Try.sizeOf23 (by decide)) rfl ?_
    refine Tr.q (QS.lV rfl Try.isAgg23) rfl ?_
    refine Tr.q (QS.assign rfl) rfl ?_
    refine Tr.q (QS.assign rfl) rfl ?_
    refine Tr.nil ?_
    refine Tr.thenN ?_
    refine Tr.ret ?_
    refine Tr.thenR ?_
    refine Tr.ret2 Try.results28 rfl rfl (fun w' hw => ?_)
    exact ⟨by clear hw; unfold targetP; (repeat (first | rw [if_pos (by first | assumption | omega | grind)] | rw [if_neg (by first | assumption | omega | grind)])) <;> rfl, hw.below (Bg.le.refl _)⟩
  · try simp only [bs] at h3
    refine Tr.skip ?_
    refine Tr.thenN ?_
    refine Tr.seq ?_
    refine Tr.region ?_
    refine Tr.q (QS.assign rfl) rfl ?_
    refine Tr.q (QS.assign rfl) rfl ?_
    refine Tr.nil ?_
    refine Tr.thenN ?_
    refine Tr.ret ?_
    refine Tr.ret2 Try.results28 rfl rfl (fun w' hw => ?_)
    exact ⟨by clear hw; unfold targetP; (repeat (first | rw [if_pos (by first | assumption | omega | grind)] | rw [if_neg (by first | assumption | omega | grind)])) <;> rfl, hw.below (Bg.le.refl _)⟩

set_option maxRecDepth 100000 in
set_option maxHeartbeats 2000000 in
theorem sized_any (c : Int) (w : World) :
    Calls Try.prog 38 #[.int .i64 c] w (fun e w' => e = .returned (.int .i64 (sizedP c)) ∧ Ext w w') := by
  refine enter Try.func38 rfl Try.ntmps38 rfl ?_
  refine Tr.seq ?_
  refine Tr.region ?_
  refine Tr.q (QS.assign rfl) rfl ?_
  refine Tr.nil ?_
  refine Tr.thenN ?_
  refine Tr.seq ?_
  refine Tr.block ?_
  refine Tr.seq ?_
  refine Tr.region ?_
  refine Tr.q (QS.move rfl) rfl ?_
  refine Tr.q (QS.leq rfl rfl) rfl ?_
  refine Tr.q (QS.move rfl) rfl ?_
  apply Tr.orP
  · exact (rfl : _ = (7, 6, 13))
  · exact rfl
  · intro hF1; have hF1' := hF1
    try simp only [bs] at hF1'
    refine Tr.gq rfl rfl hF1 (QS.move rfl) rfl ?_
    refine Tr.gq rfl rfl hF1 (QS.geq rfl rfl) rfl ?_
    refine Tr.gq rfl rfl hF1 (QS.move rfl) rfl ?_
    apply Tr.andP
    · exact (rfl : _ = (3, 9, 12))
    · exact rfl
    · intro hT2; have hT2' := hT2
      try simp only [bs] at hT2'
      refine Tr.gq rfl rfl hT2 (QS.move rfl) rfl ?_
      refine Tr.gq rfl rfl hT2 (QS.leq rfl rfl) rfl ?_
      refine Tr.gq rfl rfl hF1 (QS.pickT rfl hT2 rfl) rfl ?_
      refine Tr.nil (Tr.thenN ?_)
      exact Tr.endX (Sub.cons rfl (Sub.dropN 3 (by kernel_rfl) rfl))
    · intro hF2
      refine Tr.gskip rfl rfl hF2 rfl ?_
      refine Tr.gskip rfl rfl hF2 rfl ?_
      refine Tr.gq rfl rfl hF1 (QS.pickF rfl hF2 rfl) rfl ?_
      refine Tr.nil (Tr.thenN ?_)
      exact Tr.endX (Sub.cons rfl (Sub.dropN 3 (by kernel_rfl) rfl))
    refine Tr.q (QS.pickF rfl hF1 rfl) rfl ?_
    refine Tr.nil (Tr.thenN ?_)
    exact Tr.endX (Sub.cons rfl (Sub.dropN 5 (by kernel_rfl) rfl))
  · intro hT1
    refine Tr.gskip rfl rfl hT1 rfl ?_
    refine Tr.gskip rfl rfl hT1 rfl ?_
    refine Tr.gskip rfl rfl hT1 rfl ?_
    refine Tr.gskipU rfl rfl rfl ?_
    refine Tr.gskipU rfl rfl rfl ?_
    refine Tr.gskip rfl rfl hT1 rfl ?_
    refine Tr.q (QS.pickT rfl hT1 rfl) rfl ?_
    refine Tr.nil (Tr.thenN ?_)
    exact Tr.endX (Sub.cons rfl (Sub.dropN 7 (by kernel_rfl) rfl))
  refine Tr.q (QS.assign rfl) rfl ?_
  refine Tr.nil ?_
  refine Tr.thenN ?_
  refine Tr.cond rfl (fun h3 => ?_) (fun h3 => ?_)
  · try simp only [bs] at h3
    refine Tr.seq ?_
    refine Tr.region ?_
    refine Tr.q (QS.assign rfl) rfl ?_
    refine Tr.nil ?_
    refine Tr.thenN ?_
    refine Tr.ret ?_
    refine Tr.inR ?_
    refine Tr.thenR ?_
    refine Tr.ret1 Try.results38 rfl (fun w' hw => ?_)
    exact ⟨by clear hw; unfold sizedP; (repeat (first | rw [if_pos (by first | assumption | omega | grind)] | rw [if_neg (by first | assumption | omega | grind)])) <;> rfl, hw.below (Bg.le.refl _)⟩
  · try simp only [bs] at h3
    refine Tr.seq ?_
    refine Tr.region ?_
    refine Tr.q (QS.move rfl) rfl ?_
    refine Tr.q (QS.geq rfl rfl) rfl ?_
    refine Tr.q (QS.move rfl) rfl ?_
    apply Tr.andP
    · exact (rfl : _ = (3, 17, 20))
    · exact rfl
    · intro hT4; have hT4' := hT4
      try simp only [bs] at hT4'
      refine Tr.gq rfl rfl hT4 (QS.move rfl) rfl ?_
      refine Tr.gq rfl rfl hT4 (QS.leq rfl rfl) rfl ?_
      refine Tr.q (QS.pickT rfl hT4 rfl) rfl ?_
      refine Tr.nil (Tr.thenN ?_)
      exact Tr.endX (Sub.cons rfl (Sub.dropN 3 (by kernel_rfl) rfl))
    · intro hF4
      refine Tr.gskip rfl rfl hF4 rfl ?_
      refine Tr.gskip rfl rfl hF4 rfl ?_
      refine Tr.q (QS.pickF rfl hF4 rfl) rfl ?_
      refine Tr.nil (Tr.thenN ?_)
      exact Tr.endX (Sub.cons rfl (Sub.dropN 3 (by kernel_rfl) rfl))
    refine Tr.q (QS.move rfl) rfl ?_
    apply Tr.orP
    · exact (rfl : _ = (7, 21, 28))
    · exact rfl
    · intro hF5; have hF5' := hF5
      try simp only [bs] at hF5'
      refine Tr.gq rfl rfl hF5 (QS.move rfl) rfl ?_
      refine Tr.gq rfl rfl hF5 (QS.geq rfl rfl) rfl ?_
      refine Tr.gq rfl rfl hF5 (QS.move rfl) rfl ?_
      apply Tr.andP
      · exact (rfl : _ = (3, 24, 27))
      · exact rfl
      · intro hT6; have hT6' := hT6
        try simp only [bs] at hT6'
        refine Tr.gq rfl rfl hT6 (QS.move rfl) rfl ?_
        refine Tr.gq rfl rfl hT6 (QS.leq rfl rfl) rfl ?_
        refine Tr.gq rfl rfl hF5 (QS.pickT rfl hT6 rfl) rfl ?_
        refine Tr.nil (Tr.thenN ?_)
        exact Tr.endX (Sub.cons rfl (Sub.dropN 3 (by kernel_rfl) rfl))
      · intro hF6
        refine Tr.gskip rfl rfl hF6 rfl ?_
        refine Tr.gskip rfl rfl hF6 rfl ?_
        refine Tr.gq rfl rfl hF5 (QS.pickF rfl hF6 rfl) rfl ?_
        refine Tr.nil (Tr.thenN ?_)
        exact Tr.endX (Sub.cons rfl (Sub.dropN 3 (by kernel_rfl) rfl))
      refine Tr.q (QS.pickF rfl hF5 rfl) rfl ?_
      refine Tr.nil (Tr.thenN ?_)
      exact Tr.endX (Sub.cons rfl (Sub.dropN 5 (by kernel_rfl) rfl))
    · intro hT5
      refine Tr.gskip rfl rfl hT5 rfl ?_
      refine Tr.gskip rfl rfl hT5 rfl ?_
      refine Tr.gskip rfl rfl hT5 rfl ?_
      refine Tr.gskipU rfl rfl rfl ?_
      refine Tr.gskipU rfl rfl rfl ?_
      refine Tr.gskip rfl rfl hT5 rfl ?_
      refine Tr.q (QS.pickT rfl hT5 rfl) rfl ?_
      refine Tr.nil (Tr.thenN ?_)
      exact Tr.endX (Sub.cons rfl (Sub.dropN 7 (by kernel_rfl) rfl))
    refine Tr.q (QS.move rfl) rfl ?_
    apply Tr.orP
    · exact (rfl : _ = (3, 29, 32))
    · exact rfl
    · intro hF7; have hF7' := hF7
      try simp only [bs] at hF7'
      refine Tr.gq rfl rfl hF7 (QS.move rfl) rfl ?_
      refine Tr.gq rfl rfl hF7 (QS.eql rfl rfl) rfl ?_
      refine Tr.q (QS.pickF rfl hF7 rfl) rfl ?_
      refine Tr.nil (Tr.thenN ?_)
      exact Tr.endX (Sub.cons rfl (Sub.dropN 3 (by kernel_rfl) rfl))
    · intro hT7
      refine Tr.gskip rfl rfl hT7 rfl ?_
      refine Tr.gskip rfl rfl hT7 rfl ?_
      refine Tr.q (QS.pickT rfl hT7 rfl) rfl ?_
      refine Tr.nil (Tr.thenN ?_)
      exact Tr.endX (Sub.cons rfl (Sub.dropN 3 (by kernel_rfl) rfl))
    refine Tr.q (QS.move rfl) rfl ?_
    apply Tr.orP
    · exact (rfl : _ = (3, 33, 36))
    · exact rfl
    · intro hF8; have hF8' := hF8
      try simp only [bs] at hF8'
      refine Tr.gq rfl rfl hF8 (QS.move rfl) rfl ?_
      refine Tr.gq rfl rfl hF8 (QS.eql rfl rfl) rfl ?_
      refine Tr.q (QS.pickF rfl hF8 rfl) rfl ?_
      refine Tr.nil (Tr.thenN ?_)
      exact Tr.endX (Sub.cons rfl (Sub.dropN 3 (by kernel_rfl) rfl))
    · intro hT8
      refine Tr.gskip rfl rfl hT8 rfl ?_
      refine Tr.gskip rfl rfl hT8 rfl ?_
      refine Tr.q (QS.pickT rfl hT8 rfl) rfl ?_
      refine Tr.nil (Tr.thenN ?_)
      exact Tr.endX (Sub.cons rfl (Sub.dropN 3 (by kernel_rfl) rfl))
    refine Tr.q (QS.move rfl) rfl ?_
    apply Tr.orP
    · exact (rfl : _ = (7, 37, 44))
    · exact rfl
    · intro hF9; have hF9' := hF9
      try simp only [bs] at hF9'
      refine Tr.gq rfl rfl hF9 (QS.move rfl) rfl ?_
      refine Tr.gq rfl rfl hF9 (QS.geq rfl rfl) rfl ?_
      refine Tr.gq rfl rfl hF9 (QS.move rfl) rfl ?_
      apply Tr.andP
      · exact (rfl : _ = (3, 40, 43))
      · exact rfl
      · intro hT10; have hT10' := hT10
        try simp only [bs] at hT10'
        refine Tr.gq rfl rfl hT10 (QS.move rfl) rfl ?_
        refine Tr.gq rfl rfl hT10 (QS.leq rfl rfl) rfl ?_
        refine Tr.gq rfl rfl hF9 (QS.pickT rfl hT10 rfl) rfl ?_
        refine Tr.nil (Tr.thenN ?_)
        exact Tr.endX (Sub.cons rfl (Sub.dropN 3 (by kernel_rfl) rfl))
      · intro hF10
        refine Tr.gskip rfl rfl hF10 rfl ?_
        refine Tr.gskip rfl rfl hF10 rfl ?_
        refine Tr.gq rfl rfl hF9 (QS.pickF rfl hF10 rfl) rfl ?_
        refine Tr.nil (Tr.thenN ?_)
        exact Tr.endX (Sub.cons rfl (Sub.dropN 3 (by kernel_rfl) rfl))
      refine Tr.q (QS.pickF rfl hF9 rfl) rfl ?_
      refine Tr.nil (Tr.thenN ?_)
      exact Tr.endX (Sub.cons rfl (Sub.dropN 5 (by kernel_rfl) rfl))
    · intro hT9
      refine Tr.gskip rfl rfl hT9 rfl ?_
      refine Tr.gskip rfl rfl hT9 rfl ?_
      refine Tr.gskip rfl rfl hT9 rfl ?_
      refine Tr.gskipU rfl rfl rfl ?_
      refine Tr.gskipU rfl rfl rfl ?_
      refine Tr.gskip rfl rfl hT9 rfl ?_
      refine Tr.q (QS.pickT rfl hT9 rfl) rfl ?_
      refine Tr.nil (Tr.thenN ?_)
      exact Tr.endX (Sub.cons rfl (Sub.dropN 7 (by kernel_rfl) rfl))
    refine Tr.q (QS.move rfl) rfl ?_
    apply Tr.orP
    · exact (rfl : _ = (3, 45, 48))
    · exact rfl
    · intro hF11; have hF11' := hF11
      try simp only [bs] at hF11'
      refine Tr.gq rfl rfl hF11 (QS.move rfl) rfl ?_
      refine Tr.gq rfl rfl hF11 (QS.eql rfl rfl) rfl ?_
      refine Tr.q (QS.pickF rfl hF11 rfl) rfl ?_
      refine Tr.nil (Tr.thenN ?_)
      exact Tr.endX (Sub.cons rfl (Sub.dropN 3 (by kernel_rfl) rfl))
    · intro hT11
      refine Tr.gskip rfl rfl hT11 rfl ?_
      refine Tr.gskip rfl rfl hT11 rfl ?_
      refine Tr.q (QS.pickT rfl hT11 rfl) rfl ?_
      refine Tr.nil (Tr.thenN ?_)
      exact Tr.endX (Sub.cons rfl (Sub.dropN 3 (by kernel_rfl) rfl))
    refine Tr.q (QS.move rfl) rfl ?_
    apply Tr.orP
    · exact (rfl : _ = (3, 49, 52))
    · exact rfl
    · intro hF12; have hF12' := hF12
      try simp only [bs] at hF12'
      refine Tr.gq rfl rfl hF12 (QS.move rfl) rfl ?_
      refine Tr.gq rfl rfl hF12 (QS.eql rfl rfl) rfl ?_
      refine Tr.q (QS.pickF rfl hF12 rfl) rfl ?_
      refine Tr.nil (Tr.thenN ?_)
      exact Tr.endX (Sub.cons rfl (Sub.dropN 3 (by kernel_rfl) rfl))
    · intro hT12
      refine Tr.gskip rfl rfl hT12 rfl ?_
      refine Tr.gskip rfl rfl hT12 rfl ?_
      refine Tr.q (QS.pickT rfl hT12 rfl) rfl ?_
      refine Tr.nil (Tr.thenN ?_)
      exact Tr.endX (Sub.cons rfl (Sub.dropN 3 (by kernel_rfl) rfl))
    refine Tr.q (QS.assign rfl) rfl ?_
    refine Tr.nil ?_
    refine Tr.thenN ?_
    refine Tr.cond rfl (fun h13 => ?_) (fun h13 => ?_)
    · try simp only [bs] at h13
      refine Tr.seq ?_
      refine Tr.region ?_
      refine Tr.q (QS.assign rfl) rfl ?_
      refine Tr.nil ?_
      refine Tr.thenN ?_
      refine Tr.ret ?_
      refine Tr.inR ?_
      refine Tr.thenR ?_
      refine Tr.ret1 Try.results38 rfl (fun w' hw => ?_)
      exact ⟨by clear hw; unfold sizedP; (repeat (first | rw [if_pos (by first | assumption | omega | grind)] | rw [if_neg (by first | assumption | omega | grind)])) <;> rfl, hw.below (Bg.le.refl _)⟩
    · try simp only [bs] at h13
      refine Tr.seq ?_
      refine Tr.region ?_
      refine Tr.q (QS.move rfl) rfl ?_
      refine Tr.q (QS.geq rfl rfl) rfl ?_
      refine Tr.q (QS.move rfl) rfl ?_
      apply Tr.andP
      · exact (rfl : _ = (3, 56, 59))
      · exact rfl
      · intro hT14; have hT14' := hT14
        try simp only [bs] at hT14'
        refine Tr.gq rfl rfl hT14 (QS.move rfl) rfl ?_
        refine Tr.gq rfl rfl hT14 (QS.leq rfl rfl) rfl ?_
        refine Tr.q (QS.pickT rfl hT14 rfl) rfl ?_
        refine Tr.nil (Tr.thenN ?_)
        exact Tr.endX (Sub.cons rfl (Sub.dropN 3 (by kernel_rfl) rfl))
      · intro hF14
        refine Tr.gskip rfl rfl hF14 rfl ?_
        refine Tr.gskip rfl rfl hF14 rfl ?_
        refine Tr.q (QS.pickF rfl hF14 rfl) rfl ?_
        refine Tr.nil (Tr.thenN ?_)
        exact Tr.endX (Sub.cons rfl (Sub.dropN 3 (by kernel_rfl) rfl))
      refine Tr.q (QS.move rfl) rfl ?_
      apply Tr.orP
      · exact (rfl : _ = (7, 60, 67))
      · exact rfl
      · intro hF15; have hF15' := hF15
        try simp only [bs] at hF15'
        refine Tr.gq rfl rfl hF15 (QS.move rfl) rfl ?_
        refine Tr.gq rfl rfl hF15 (QS.geq rfl rfl) rfl ?_
        refine Tr.gq rfl rfl hF15 (QS.move rfl) rfl ?_
        apply Tr.andP
        · exact (rfl : _ = (3, 63, 66))
        · exact rfl
        · intro hT16; have hT16' := hT16
          try simp only [bs] at hT16'
          refine Tr.gq rfl rfl hT16 (QS.move rfl) rfl ?_
          refine Tr.gq rfl rfl hT16 (QS.leq rfl rfl) rfl ?_
          refine Tr.gq rfl rfl hF15 (QS.pickT rfl hT16 rfl) rfl ?_
          refine Tr.nil (Tr.thenN ?_)
          exact Tr.endX (Sub.cons rfl (Sub.dropN 3 (by kernel_rfl) rfl))
        · intro hF16
          refine Tr.gskip rfl rfl hF16 rfl ?_
          refine Tr.gskip rfl rfl hF16 rfl ?_
          refine Tr.gq rfl rfl hF15 (QS.pickF rfl hF16 rfl) rfl ?_
          refine Tr.nil (Tr.thenN ?_)
          exact Tr.endX (Sub.cons rfl (Sub.dropN 3 (by kernel_rfl) rfl))
        refine Tr.q (QS.pickF rfl hF15 rfl) rfl ?_
        refine Tr.nil (Tr.thenN ?_)
        exact Tr.endX (Sub.cons rfl (Sub.dropN 5 (by kernel_rfl) rfl))
      · intro hT15
        refine Tr.gskip rfl rfl hT15 rfl ?_
        refine Tr.gskip rfl rfl hT15 rfl ?_
        refine Tr.gskip rfl rfl hT15 rfl ?_
        refine Tr.gskipU rfl rfl rfl ?_
        refine Tr.gskipU rfl rfl rfl ?_
        refine Tr.gskip rfl rfl hT15 rfl ?_
        refine Tr.q (QS.pickT rfl hT15 rfl) rfl ?_
        refine Tr.nil (Tr.thenN ?_)
        exact Tr.endX (Sub.cons rfl (Sub.dropN 7 (by kernel_rfl) rfl))
      refine Tr.q (QS.move rfl) rfl ?_
      apply Tr.orP
      · exact (rfl : _ = (3, 68, 71))
      · exact rfl
      · intro hF17; have hF17' := hF17
        try simp only [bs] at hF17'
        refine Tr.gq rfl rfl hF17 (QS.move rfl) rfl ?_
        refine Tr.gq rfl rfl hF17 (QS.eql rfl rfl) rfl ?_
        refine Tr.q (QS.pickF rfl hF17 rfl) rfl ?_
        refine Tr.nil (Tr.thenN ?_)
        exact Tr.endX (Sub.cons rfl (Sub.dropN 3 (by kernel_rfl) rfl))
      · intro hT17
        refine Tr.gskip rfl rfl hT17 rfl ?_
        refine Tr.gskip rfl rfl hT17 rfl ?_
        refine Tr.q (QS.pickT rfl hT17 rfl) rfl ?_
        refine Tr.nil (Tr.thenN ?_)
        exact Tr.endX (Sub.cons rfl (Sub.dropN 3 (by kernel_rfl) rfl))
      refine Tr.q (QS.assign rfl) rfl ?_
      refine Tr.nil ?_
      refine Tr.thenN ?_
      refine Tr.cond rfl (fun h18 => ?_) (fun h18 => ?_)
      · try simp only [bs] at h18
        refine Tr.seq ?_
        refine Tr.region ?_
        refine Tr.q (QS.assign rfl) rfl ?_
        refine Tr.nil ?_
        refine Tr.thenN ?_
        refine Tr.ret ?_
        refine Tr.inR ?_
        refine Tr.thenR ?_
        refine Tr.ret1 Try.results38 rfl (fun w' hw => ?_)
        exact ⟨by clear hw; unfold sizedP; (repeat (first | rw [if_pos (by first | assumption | omega | grind)] | rw [if_neg (by first | assumption | omega | grind)])) <;> rfl, hw.below (Bg.le.refl _)⟩
      · try simp only [bs] at h18
        refine Tr.seq ?_
        refine Tr.region ?_
        refine Tr.q (QS.move rfl) rfl ?_
        refine Tr.q (QS.geq rfl rfl) rfl ?_
        refine Tr.q (QS.move rfl) rfl ?_
        apply Tr.andP
        · exact (rfl : _ = (3, 75, 78))
        · exact rfl
        · intro hT19; have hT19' := hT19
          try simp only [bs] at hT19'
          refine Tr.gq rfl rfl hT19 (QS.move rfl) rfl ?_
          refine Tr.gq rfl rfl hT19 (QS.leq rfl rfl) rfl ?_
          refine Tr.q (QS.pickT rfl hT19 rfl) rfl ?_
          refine Tr.nil (Tr.thenN ?_)
          exact Tr.endX (Sub.cons rfl (Sub.dropN 3 (by kernel_rfl) rfl))
        · intro hF19
          refine Tr.gskip rfl rfl hF19 rfl ?_
          refine Tr.gskip rfl rfl hF19 rfl ?_
          refine Tr.q (QS.pickF rfl hF19 rfl) rfl ?_
          refine Tr.nil (Tr.thenN ?_)
          exact Tr.endX (Sub.cons rfl (Sub.dropN 3 (by kernel_rfl) rfl))
        refine Tr.q (QS.move rfl) rfl ?_
        apply Tr.orP
        · exact (rfl : _ = (3, 79, 82))
        · exact rfl
        · intro hF20; have hF20' := hF20
          try simp only [bs] at hF20'
          refine Tr.gq rfl rfl hF20 (QS.move rfl) rfl ?_
          refine Tr.gq rfl rfl hF20 (QS.eql rfl rfl) rfl ?_
          refine Tr.q (QS.pickF rfl hF20 rfl) rfl ?_
          refine Tr.nil (Tr.thenN ?_)
          exact Tr.endX (Sub.cons rfl (Sub.dropN 3 (by kernel_rfl) rfl))
        · intro hT20
          refine Tr.gskip rfl rfl hT20 rfl ?_
          refine Tr.gskip rfl rfl hT20 rfl ?_
          refine Tr.q (QS.pickT rfl hT20 rfl) rfl ?_
          refine Tr.nil (Tr.thenN ?_)
          exact Tr.endX (Sub.cons rfl (Sub.dropN 3 (by kernel_rfl) rfl))
        refine Tr.q (QS.assign rfl) rfl ?_
        refine Tr.nil ?_
        refine Tr.thenN ?_
        refine Tr.cond rfl (fun h21 => ?_) (fun h21 => ?_)
        · try simp only [bs] at h21
          refine Tr.seq ?_
          refine Tr.region ?_
          refine Tr.q (QS.assign rfl) rfl ?_
          refine Tr.nil ?_
          refine Tr.thenN ?_
          refine Tr.ret ?_
          refine Tr.inR ?_
          refine Tr.thenR ?_
          refine Tr.ret1 Try.results38 rfl (fun w' hw => ?_)
          exact ⟨by clear hw; unfold sizedP; (repeat (first | rw [if_pos (by first | assumption | omega | grind)] | rw [if_neg (by first | assumption | omega | grind)])) <;> rfl, hw.below (Bg.le.refl _)⟩
        · try simp only [bs] at h21
          refine Tr.seq ?_
          refine Tr.region ?_
          refine Tr.q (QS.move rfl) rfl ?_
          refine Tr.q (QS.geq rfl rfl) rfl ?_
          refine Tr.q (QS.move rfl) rfl ?_
          apply Tr.andP
          · exact (rfl : _ = (3, 86, 89))
          · exact rfl
          · intro hT22; have hT22' := hT22
            try simp only [bs] at hT22'
            refine Tr.gq rfl rfl hT22 (QS.move rfl) rfl ?_
            refine Tr.gq rfl rfl hT22 (QS.leq rfl rfl) rfl ?_
            refine Tr.q (QS.pickT rfl hT22 rfl) rfl ?_
            refine Tr.nil (Tr.thenN ?_)
            exact Tr.endX (Sub.cons rfl (Sub.dropN 3 (by kernel_rfl) rfl))
          · intro hF22
            refine Tr.gskip rfl rfl hF22 rfl ?_
            refine Tr.gskip rfl rfl hF22 rfl ?_
            refine Tr.q (QS.pickF rfl hF22 rfl) rfl ?_
            refine Tr.nil (Tr.thenN ?_)
            exact Tr.endX (Sub.cons rfl (Sub.dropN 3 (by kernel_rfl) rfl))
          refine Tr.q (QS.move rfl) rfl ?_
          apply Tr.orP
          · exact (rfl : _ = (3, 90, 93))
          · exact rfl
          · intro hF23; have hF23' := hF23
            try simp only [bs] at hF23'
            refine Tr.gq rfl rfl hF23 (QS.move rfl) rfl ?_
            refine Tr.gq rfl rfl hF23 (QS.eql rfl rfl) rfl ?_
            refine Tr.q (QS.pickF rfl hF23 rfl) rfl ?_
            refine Tr.nil (Tr.thenN ?_)
            exact Tr.endX (Sub.cons rfl (Sub.dropN 3 (by kernel_rfl) rfl))
          · intro hT23
            refine Tr.gskip rfl rfl hT23 rfl ?_
            refine Tr.gskip rfl rfl hT23 rfl ?_
            refine Tr.q (QS.pickT rfl hT23 rfl) rfl ?_
            refine Tr.nil (Tr.thenN ?_)
            exact Tr.endX (Sub.cons rfl (Sub.dropN 3 (by kernel_rfl) rfl))
          refine Tr.q (QS.assign rfl) rfl ?_
          refine Tr.nil ?_
          refine Tr.thenN ?_
          refine Tr.cond rfl (fun h24 => ?_) (fun h24 => ?_)
          · try simp only [bs] at h24
            refine Tr.seq ?_
            refine Tr.region ?_
            refine Tr.q (QS.assign rfl) rfl ?_
            refine Tr.nil ?_
            refine Tr.thenN ?_
            refine Tr.ret ?_
            refine Tr.inR ?_
            refine Tr.thenR ?_
            refine Tr.ret1 Try.results38 rfl (fun w' hw => ?_)
            exact ⟨by clear hw; unfold sizedP; (repeat (first | rw [if_pos (by first | assumption | omega | grind)] | rw [if_neg (by first | assumption | omega | grind)])) <;> rfl, hw.below (Bg.le.refl _)⟩
          · try simp only [bs] at h24
            refine Tr.skip ?_
            refine Tr.inN ?_
            refine Tr.thenN ?_
            refine Tr.seq ?_
            refine Tr.region ?_
            refine Tr.q (QS.assign rfl) rfl ?_
            refine Tr.nil ?_
            refine Tr.thenN ?_
            refine Tr.ret ?_
            refine Tr.ret1 Try.results38 rfl (fun w' hw => ?_)
            exact ⟨by clear hw; unfold sizedP; (repeat (first | rw [if_pos (by first | assumption | omega | grind)] | rw [if_neg (by first | assumption | omega | grind)])) <;> rfl, hw.below (Bg.le.refl _)⟩

set_option maxRecDepth 100000 in
set_option maxHeartbeats 2000000 in
theorem signed_any (c : UInt8) (w : World) :
    Calls Try.prog 56 #[.int .u8 c.toNat] w (fun e w' => e = .returned (.int .u32 (sextP c).toNat) ∧ Ext w w') := by
  refine enter Try.func56 rfl Try.ntmps56 rfl ?_
  refine Tr.seq ?_
  refine Tr.region ?_
  refine Tr.q (QS.assign rfl) rfl ?_
  refine Tr.nil ?_
  refine Tr.thenN ?_
  refine Tr.seq ?_
  refine Tr.seq ?_
  refine Tr.region ?_
  refine Tr.q (QS.move rfl) rfl ?_
  refine Tr.q (QS.lss8 (n := 128) rfl rfl) rfl ?_
  refine Tr.nil ?_
  refine Tr.thenN ?_
  refine Tr.cond rfl (fun h1 => ?_) (fun h1 => ?_)
  · try simp only [bs] at h1
    refine Tr.seq ?_
    refine Tr.region ?_
    refine Tr.q (QS.move rfl) rfl ?_
    refine Tr.q (QS.cvt8to32 rfl Try.underlying5 Try.underlying23) rfl ?_
    refine Tr.q (QS.assign rfl) rfl ?_
    refine Tr.nil ?_
    refine Tr.thenN ?_
    refine Tr.ret ?_
    refine Tr.thenR ?_
    refine Tr.ret1 Try.results56 rfl (fun w' hw => ?_)
    exact ⟨by clear hw; unfold sextP; (repeat (first | rw [if_pos (by first | assumption | omega | grind)] | rw [if_neg (by first | assumption | omega | grind)])) <;> rfl, hw.below (Bg.le.refl _)⟩
  · try simp only [bs] at h1
    refine Tr.skip ?_
    refine Tr.thenN ?_
    refine Tr.seq ?_
    refine Tr.region ?_
    refine Tr.q (QS.move rfl) rfl ?_
    refine Tr.q (QS.cvt8to32 rfl Try.underlying5 Try.underlying23) rfl ?_
    refine Tr.q (QS.add32 (n := 4294967040) rfl rfl) rfl ?_
    refine Tr.q (QS.assign rfl) rfl ?_
    refine Tr.nil ?_
    refine Tr.thenN ?_
    refine Tr.ret ?_
    refine Tr.ret1 Try.results56 rfl (fun w' hw => ?_)
    exact ⟨by clear hw; unfold sextP; (repeat (first | rw [if_pos (by first | assumption | omega | grind)] | rw [if_neg (by first | assumption | omega | grind)])) <;> rfl, hw.below (Bg.le.refl _)⟩

set_option maxRecDepth 100000 in
set_option maxHeartbeats 2000000 in
theorem refLong_any (l : List UInt8) (V : Value) (w : World) (hV : Sl (hp w) encU8 l V) (hl : 4 ≤ l.length) :
    Calls Try.prog 57 #[V] w (fun e w' => e = .returned (.int .u32 (longP l 0).toNat) ∧ Ext w w') := by
  have hV' : Sl (Bg.of w).blk encU8 l V := hV
  have hlen := hV.len_le
  refine enter Try.func57 rfl Try.ntmps57 rfl ?_
  refine Tr.seq ?_
  refine Tr.region ?_
  refine Tr.q (QS.assign rfl) rfl ?_
  refine Tr.nil ?_
  refine Tr.thenN ?_
  refine Tr.seq ?_
  refine Tr.regionQ HLF.mixed (by kernel_rfl) ?_
  refine TrQ.q (QS.move rfl) rfl ?_
  first | refine TrQ.q (QS.idxN rfl rfl (by assumption) Try.underlying22 Try.sizeOf5 (by rfl) (by omega)) rfl ?_ | refine TrQ.q (QS.idxRowN rfl rfl (by repeat (first | exact List.Mem.head _ | apply List.Mem.tail)) Try.underlying22 Try.sizeOf5 (by rfl) (by omega)) rfl ?_ | refine TrQ.q (QS.idx rfl rfl (by assumption) Try.underlying22 Try.sizeOf5 (by rfl) (by omega)) rfl ?_ | refine TrQ.q (QS.idxRow rfl rfl (by repeat (first | exact List.Mem.head _ | apply List.Mem.tail)) Try.underlying22 Try.sizeOf5 (by rfl) (by omega)) rfl ?_
  first | refine TrQ.q (QS.el1 rfl (by assumption) Try.isAgg5 (by omega) (by rfl)) rfl ?_ | refine TrQ.q (QS.elR1 rfl (by repeat (first | exact List.Mem.head _ | apply List.Mem.tail)) Try.isAgg5 (by omega) (by rfl)) rfl ?_
  refine TrQ.q (QS.cvt8to32 rfl Try.underlying5 Try.underlying23) rfl ?_
  refine TrQ.q (QS.move rfl) rfl ?_
  first | refine TrQ.q (QS.idxN rfl rfl (by assumption) Try.underlying22 Try.sizeOf5 (by rfl) (by omega)) rfl ?_ | refine TrQ.q (QS.idxRowN rfl rfl (by repeat (first | exact List.Mem.head _ | apply List.Mem.tail)) Try.underlying22 Try.sizeOf5 (by rfl) (by omega)) rfl ?_ | refine TrQ.q (QS.idx rfl rfl (by assumption) Try.underlying22 Try.sizeOf5 (by rfl) (by omega)) rfl ?_ | refine TrQ.q (QS.idxRow rfl rfl (by repeat (first | exact List.Mem.head _ | apply List.Mem.tail)) Try.underlying22 Try.sizeOf5 (by rfl) (by omega)) rfl ?_
  first | refine TrQ.q (QS.el1 rfl (by assumption) Try.isAgg5 (by omega) (by rfl)) rfl ?_ | refine TrQ.q (QS.elR1 rfl (by repeat (first | exact List.Mem.head _ | apply List.Mem.tail)) Try.isAgg5 (by omega) (by rfl)) rfl ?_
  refine TrQ.q (QS.cvt8to32 rfl Try.underlying5 Try.underlying23) rfl ?_
  refine TrQ.q (QS.mul32 (m := 256) rfl rfl) rfl ?_
  refine TrQ.q (QS.add32 rfl rfl) rfl ?_
  refine TrQ.q (QS.move rfl) rfl ?_
  first | refine TrQ.q (QS.idxN rfl rfl (by assumption) Try.underlying22 Try.sizeOf5 (by rfl) (by omega)) rfl ?_ | refine TrQ.q (QS.idxRowN rfl rfl (by repeat (first | exact List.Mem.head _ | apply List.Mem.tail)) Try.underlying22 Try.sizeOf5 (by rfl) (by omega)) rfl ?_ | refine TrQ.q (QS.idx rfl rfl (by assumption) Try.underlying22 Try.sizeOf5 (by rfl) (by omega)) rfl ?_ | refine TrQ.q (QS.idxRow rfl rfl (by repeat (first | exact List.Mem.head _ | apply List.Mem.tail)) Try.underlying22 Try.sizeOf5 (by rfl) (by omega)) rfl ?_
  first | refine TrQ.q (QS.el1 rfl (by assumption) Try.isAgg5 (by omega) (by rfl)) rfl ?_ | refine TrQ.q (QS.elR1 rfl (by repeat (first | exact List.Mem.head _ | apply List.Mem.tail)) Try.isAgg5 (by omega) (by rfl)) rfl ?_
  refine TrQ.q (QS.cvt8to32 rfl Try.underlying5 Try.underlying23) rfl ?_
  refine TrQ.q (QS.mul32 (m := 65536) rfl rfl) rfl ?_
  refine TrQ.q (QS.add32 rfl rfl) rfl ?_
  refine TrQ.q (QS.move rfl) rfl ?_
  first | refine TrQ.q (QS.idxN rfl rfl (by assumption) Try.underlying22 Try.sizeOf5 (by rfl) (by omega)) rfl ?_ | refine TrQ.q (QS.idxRowN rfl rfl (by repeat (first | exact List.Mem.head _ | apply List.Mem.tail)) Try.underlying22 Try.sizeOf5 (by rfl) (by omega)) rfl ?_ | refine TrQ.q (QS.idx rfl rfl (by assumption) Try.underlying22 Try.sizeOf5 (by rfl) (by omega)) rfl ?_ | refine TrQ.q (QS.idxRow rfl rfl (by repeat (first | exact List.Mem.head _ | apply List.Mem.tail)) Try.underlying22 Try.sizeOf5 (by rfl) (by omega)) rfl ?_
  first | refine TrQ.q (QS.el1 rfl (by assumption) Try.isAgg5 (by omega) (by rfl)) rfl ?_ | refine TrQ.q (QS.elR1 rfl (by repeat (first | exact List.Mem.head _ | apply List.Mem.tail)) Try.isAgg5 (by omega) (by rfl)) rfl ?_
  refine TrQ.q (QS.cvt8to32 rfl Try.underlying5 Try.underlying23) rfl ?_
  refine TrQ.q (QS.mul32 (m := 16777216) rfl rfl) rfl ?_
  refine TrQ.q (QS.add32 rfl rfl) rfl ?_
  refine TrQ.q (QS.assign rfl) rfl ?_
  refine TrQ.nil ?_
  refine Tr.thenN ?_
  refine Tr.ret ?_
  refine Tr.ret1 Try.results57 rfl (fun w' hw => ?_)
  exact ⟨rfl, hw.below (Bg.le.refl _)⟩

set_option maxRecDepth 100000 in
set_option maxHeartbeats 2000000 in
theorem refAccess_any (c : Int) (w : World) :
    Calls Try.prog 75 #[.int .i64 c] w (fun e w' => e = .returned (.tuple #[.int .i64 (refAccP c).1, .int .i64 (refAccP c).2]) ∧ Ext w w') := by
  refine enter Try.func75 rfl Try.ntmps75 rfl ?_
  refine Tr.seq ?_
  refine Tr.region ?_
  refine Tr.q (QS.assign rfl) rfl ?_
  refine Tr.q (QS.assign rfl) rfl ?_
  refine Tr.nil ?_
  refine Tr.thenN ?_
  refine Tr.seq ?_
  refine Tr.seq ?_
  refine Tr.region ?_
  refine Tr.q (QS.move rfl) rfl ?_
  refine Tr.nil ?_
  refine Tr.thenN ?_
  refine Tr.block ?_
  refine Tr.seq ?_
  refine Tr.region ?_
  refine Tr.q (QS.eql rfl rfl) rfl ?_
  refine Tr.q (QS.assign rfl) rfl ?_
  refine Tr.nil ?_
  refine Tr.thenN ?_
  refine Tr.cond rfl (fun h1 => ?_) (fun h1 => ?_)
  · try simp only [bs] at h1
    refine Tr.seq ?_
    refine Tr.region ?_
    refine Tr.q (QS.assign rfl) rfl ?_
    refine Tr.q (QS.assign rfl) rfl ?_
    refine Tr.nil ?_
    refine Tr.thenN ?_
    refine Tr.ret ?_
    refine Tr.inR ?_
    refine Tr.thenR ?_
    refine Tr.ret2 Try.results75 rfl rfl (fun w' hw => ?_)
    exact ⟨by clear hw; unfold refAccP; (repeat (first | rw [if_pos (by first | assumption | omega | grind)] | rw [if_neg (by first | assumption | omega | grind)])) <;> rfl, hw.below (Bg.le.refl _)⟩
  · try simp only [bs] at h1
    refine Tr.seq ?_
    refine Tr.region ?_
    refine Tr.q (QS.eql rfl rfl) rfl ?_
    refine Tr.q (QS.assign rfl) rfl ?_
    refine Tr.nil ?_
    refine Tr.thenN ?_
    refine Tr.cond rfl (fun h2 => ?_) (fun h2 => ?_)
    · try simp only [bs] at h2
      refine Tr.seq ?_
      refine Tr.region ?_
      refine Tr.q (QS.assign rfl) rfl ?_
      refine Tr.q (QS.assign rfl) rfl ?_
      refine Tr.nil ?_
      refine Tr.thenN ?_
      refine Tr.ret ?_
      refine Tr.inR ?_
      refine Tr.thenR ?_
      refine Tr.ret2 Try.results75 rfl rfl (fun w' hw => ?_)
      exact ⟨by clear hw; unfold refAccP; (repeat (first | rw [if_pos (by first | assumption | omega | grind)] | rw [if_neg (by first | assumption | omega | grind)])) <;> rfl, hw.below (Bg.le.refl _)⟩
    · try simp only [bs] at h2
      refine Tr.seq ?_
      refine Tr.region ?_
      refine Tr.q (QS.eql rfl rfl) rfl ?_
      refine Tr.q (QS.assign rfl) rfl ?_
      refine Tr.nil ?_
      refine Tr.thenN ?_
      refine Tr.cond rfl (fun h3 => ?_) (fun h3 => ?_)
      · try simp only [bs] at h3
        refine Tr.seq ?_
        refine Tr.region ?_
        refine Tr.q (QS.assign rfl) rfl ?_
        refine Tr.q (QS.assign rfl) rfl ?_
        refine Tr.nil ?_
        refine Tr.thenN ?_
        refine Tr.ret ?_
        refine Tr.inR ?_
        refine Tr.thenR ?_
        refine Tr.ret2 Try.results75 rfl rfl (fun w' hw => ?_)
        exact ⟨by clear hw; unfold refAccP; (repeat (first | rw [if_pos (by first | assumption | omega | grind)] | rw [if_neg (by first | assumption | omega | grind)])) <;> rfl, hw.below (Bg.le.refl _)⟩
      · try simp only [bs] at h3
        refine Tr.seq ?_
        refine Tr.region ?_
        refine Tr.q (QS.eql rfl rfl) rfl ?_
        refine Tr.q (QS.assign rfl) rfl ?_
        refine Tr.nil ?_
        refine Tr.thenN ?_
        refine Tr.cond rfl (fun h4 => ?_) (fun h4 => ?_)
        · try simp only [bs] at h4
          refine Tr.seq ?_
          refine Tr.region ?_
          refine Tr.q (QS.assign rfl) rfl ?_
          refine Tr.q (QS.assign rfl) rfl ?_
          refine Tr.nil ?_
          refine Tr.thenN ?_
          refine Tr.ret ?_
          refine Tr.inR ?_
          refine Tr.thenR ?_
          refine Tr.ret2 Try.results75 rfl rfl (fun w' hw => ?_)
          exact ⟨by clear hw; unfold refAccP; (repeat (first | rw [if_pos (by first | assumption | omega | grind)] | rw [if_neg (by first | assumption | omega | grind)])) <;> rfl, hw.below (Bg.le.refl _)⟩
        · try simp only [bs] at h4
          refine Tr.seq ?_
          refine Tr.region ?_
          refine Tr.q (QS.eql rfl rfl) rfl ?_
          refine Tr.q (QS.assign rfl) rfl ?_
          refine Tr.nil ?_
          refine Tr.thenN ?_
          refine Tr.cond rfl (fun h5 => ?_) (fun h5 => ?_)
          · try simp only [bs] at h5
            refine Tr.seq ?_
            refine Tr.region ?_
            refine Tr.q (QS.assign rfl) rfl ?_
            refine Tr.q (QS.assign rfl) rfl ?_
            refine Tr.nil ?_
            refine Tr.thenN ?_
            refine Tr.ret ?_
            refine Tr.inR ?_
            refine Tr.thenR ?_
            refine Tr.ret2 Try.results75 rfl rfl (fun w' hw => ?_)
            exact ⟨by clear hw; unfold refAccP; (repeat (first | rw [if_pos (by first | assumption | omega | grind)] | rw [if_neg (by first | assumption | omega | grind)])) <;> rfl, hw.below (Bg.le.refl _)⟩
          · try simp only [bs] at h5
            refine Tr.seq ?_
            refine Tr.region ?_
            refine Tr.q (QS.eql rfl rfl) rfl ?_
            refine Tr.q (QS.assign rfl) rfl ?_
            refine Tr.nil ?_
            refine Tr.thenN ?_
            refine Tr.cond rfl (fun h6 => ?_) (fun h6 => ?_)
            · try simp only [bs] at h6
              refine Tr.seq ?_
              refine Tr.region ?_
              refine Tr.q (QS.assign rfl) rfl ?_
              refine Tr.q (QS.assign rfl) rfl ?_
              refine Tr.nil ?_
              refine Tr.thenN ?_
              refine Tr.ret ?_
              refine Tr.inR ?_
              refine Tr.thenR ?_
              refine Tr.ret2 Try.results75 rfl rfl (fun w' hw => ?_)
              exact ⟨by clear hw; unfold refAccP; (repeat (first | rw [if_pos (by first | assumption | omega | grind)] | rw [if_neg (by first | assumption | omega | grind)])) <;> rfl, hw.below (Bg.le.refl _)⟩
            · try simp only [bs] at h6
              refine Tr.seq ?_
              refine Tr.region ?_
              refine Tr.q (QS.eql rfl rfl) rfl ?_
              refine Tr.q (QS.assign rfl) rfl ?_
              refine Tr.nil ?_
              refine Tr.thenN ?_
              refine Tr.cond rfl (fun h7 => ?_) (fun h7 => ?_)
              · try simp only [bs] at h7
                refine Tr.seq ?_
                refine Tr.region ?_
                refine Tr.q (QS.assign rfl) rfl ?_
                refine Tr.q (QS.assign rfl) rfl ?_
                refine Tr.nil ?_
                refine Tr.thenN ?_
                refine Tr.ret ?_
                refine Tr.inR ?_
                refine Tr.thenR ?_
                refine Tr.ret2 Try.results75 rfl rfl (fun w' hw => ?_)
                exact ⟨by clear hw; unfold refAccP; (repeat (first | rw [if_pos (by first | assumption | omega | grind)] | rw [if_neg (by first | assumption | omega | grind)])) <;> rfl, hw.below (Bg.le.refl _)⟩
              · try simp only [bs] at h7
                refine Tr.skip ?_
                refine Tr.inN ?_
                refine Tr.thenN ?_
                refine Tr.seq ?_
                refine Tr.region ?_
                refine Tr.q (QS.assign rfl) rfl ?_
                refine Tr.q (QS.assign rfl) rfl ?_
                refine Tr.nil ?_
                refine Tr.thenN ?_
                refine Tr.ret ?_
                refine Tr.ret2 Try.results75 rfl rfl (fun w' hw => ?_)
                exact ⟨by clear hw; unfold refAccP; (repeat (first | rw [if_pos (by first | assumption | omega | grind)] | rw [if_neg (by first | assumption | omega | grind)])) <;> rfl, hw.below (Bg.le.refl _)⟩

set_option maxRecDepth 100000 in
set_option maxHeartbeats 2000000 in
theorem memoryOr_any (c : Int) (b : List UInt8) (V : Value) (addr : UInt32) (sz : Int) (w : World) (hV : Sl (hp w) encU8 b V) (hb : (b.length : Int) = sizedP c) (hc : 0 ≤ c ∧ c ≤ 255) (hz : sizedP c ≠ 0) (hn : ¬ (32 ≤ c ∧ c ≤ 42 ∨ 48 ≤ c ∧ c ≤ 58 ∨ 64 ≤ c ∧ c ≤ 74)) :
    Calls Try.prog 58 #[.int .i64 c, V, .agg (encIns.enc ⟨addr, 0, 0, 0, 0, 0, 0, 0, sz⟩).toArray] w (fun e w' => e = .returned (.agg (encIns.enc (refBodyP c b ⟨addr, 0, 0, 0, 0, 0, 0, 0, sz⟩)).toArray) ∧ Ext w w') := by
  have hV' : Sl (Bg.of w).blk encU8 b V := hV
  have hlen := hV.len_le
  have hsp := sizedP_spec (c := c)
  have hsz := sizedP_ne hz
  refine enter Try.func58 rfl Try.ntmps58 rfl ?_
  refine Tr.seq ?_
  refine Tr.region ?_
  refine Tr.box rfl rfl rfl (fun b1 => ?_)
  refine Tr.alloc Try.zeroValue27 rfl rfl (fun b2 => ?_)
  refine Tr.nil ?_
  refine Tr.thenN ?_
  refine Tr.seq ?_
  refine Tr.region ?_
  refine Tr.q (QS.fieldAddr (off := 0) (ft := 23) rfl Try.underlying27 rfl rfl Try.sizeOf23 (by decide)) rfl ?_
  refine Tr.q (QS.lV rfl Try.isAgg23) rfl ?_
  refine Tr.q (QS.fieldAddr (off := 8) (ft := 3) rfl Try.underlying27 rfl rfl Try.sizeOf3 (by decide)) rfl ?_
  refine Tr.q (QS.lV rfl Try.isAgg3) rfl ?_
  refine Tr.q (QS.cvtTo32 rfl Try.underlying3 Try.underlying23) rfl ?_
  refine Tr.q (QS.add32 rfl rfl) rfl ?_
  refine Tr.q (QS.assign rfl) rfl ?_
  refine Tr.nil ?_
  refine Tr.thenN ?_
  refine Tr.seqJ (ι := Ins) (fun k => k = refBodyP c b ⟨addr, 0, 0, 0, 0, 0, 0, 0, sz⟩) (fun _ => Bg.of w) (fun k => [cellE b1 (encIns.enc k) 27, cellE b2 (encIns.enc zeroIns) 27]) (fun k => []) ?_ (fun k hi => ?_)
  · skip
    refine Tr.block ?_
    refine Tr.seq ?_
    refine Tr.region ?_
    refine Tr.q (QS.move rfl) rfl ?_
    refine Tr.q (QS.leq rfl rfl) rfl ?_
    refine Tr.q (QS.assign rfl) rfl ?_
    refine Tr.nil ?_
    refine Tr.thenN ?_
    refine Tr.cond rfl (fun h3 => ?_) (fun h3 => ?_)
    · try simp only [bs] at h3
      refine Tr.region ?_
      refine Tr.q (QS.move rfl) rfl ?_
      refine Tr.q (QS.fieldAddr (off := 2) (ft := 3) rfl Try.underlying27 rfl rfl Try.sizeOf3 (by decide)) rfl ?_
      refine Tr.storeV (cs' := [_, _, _, _, _, _, _, _, _]) rfl rfl Try.sizeOf3 (by repeat (first | exact Put.here _ | apply Put.there)) rfl (by rfl) (by first | exact Nat.le_of_ble_eq_true rfl | simp) (by first | exact List.all_eq_true.1 rfl | (intro u hu; simp [Value.cells] at hu; simp_all [Value.oneCell'])) rfl ?_
      refine Tr.nil ?_
      refine Tr.inN ?_
      refine Tr.thenN ?_
      apply Tr.joined ⟨addr, 0, c, 0, 0, 0, 0, 0, sz⟩
      · exact rfl
      · exact Front.nil
      · exact SubX.dropN 5 (by kernel_rfl) rfl
      · exact (by repeat' (first | exact Pick.nil _ | exact Del.here _ | apply Pick.cons | apply Del.there))
      · exact (by unfold refBodyP kindP; (repeat (first | rw [if_pos (by omega)] | rw [if_neg (by omega)])) <;> rfl)
    · try simp only [bs] at h3
      refine Tr.seq ?_
      refine Tr.region ?_
      refine Tr.q (QS.move rfl) rfl ?_
      refine Tr.q (QS.leq rfl rfl) rfl ?_
      refine Tr.q (QS.assign rfl) rfl ?_
      refine Tr.nil ?_
      refine Tr.thenN ?_
      refine Tr.cond rfl (fun h4 => ?_) (fun h4 => ?_)
      · try simp only [bs] at h4
        refine Tr.region ?_
        refine Tr.q (QS.move rfl) rfl ?_
        first | refine Tr.q (QS.subI rfl rfl (by omega)) rfl ?_ | refine Tr.q (QS.sub rfl rfl) rfl ?_
        refine Tr.q (QS.fieldAddr (off := 2) (ft := 3) rfl Try.underlying27 rfl rfl Try.sizeOf3 (by decide)) rfl ?_
        refine Tr.storeV (cs' := [_, _, _, _, _, _, _, _, _]) rfl rfl Try.sizeOf3 (by repeat (first | exact Put.here _ | apply Put.there)) rfl (by rfl) (by first | exact Nat.le_of_ble_eq_true rfl | simp) (by first | exact List.all_eq_true.1 rfl | (intro u hu; simp [Value.cells] at hu; simp_all [Value.oneCell'])) rfl ?_
        refine Tr.q (QS.fieldAddr (off := 6) (ft := 3) rfl Try.underlying27 rfl rfl Try.sizeOf3 (by decide)) rfl ?_
        refine Tr.storeV (cs' := [_, _, _, _, _, _, _, _, _]) rfl rfl Try.sizeOf3 (by repeat (first | exact Put.here _ | apply Put.there)) rfl (by rfl) (by first | exact Nat.le_of_ble_eq_true rfl | simp) (by first | exact List.all_eq_true.1 rfl | (intro u hu; simp [Value.cells] at hu; simp_all [Value.oneCell'])) rfl ?_
        refine Tr.nil ?_
        refine Tr.inN ?_
        refine Tr.thenN ?_
        apply Tr.joined ⟨addr, 0, 3, 0, 0, 0, c - 8, 0, sz⟩
        · exact rfl
        · exact Front.nil
        · exact SubX.dropN 10 (by kernel_rfl) rfl
        · exact (by repeat' (first | exact Pick.nil _ | exact Del.here _ | apply Pick.cons | apply Del.there))
        · exact (by unfold refBodyP kindP; (repeat (first | rw [if_pos (by omega)] | rw [if_neg (by omega)])) <;> rfl)
      · try simp only [bs] at h4
        refine Tr.seq ?_
        refine Tr.region ?_
        refine Tr.q (QS.move rfl) rfl ?_
        refine Tr.q (QS.leq rfl rfl) rfl ?_
        refine Tr.q (QS.assign rfl) rfl ?_
        refine Tr.nil ?_
        refine Tr.thenN ?_
        refine Tr.cond rfl (fun h5 => ?_) (fun h5 => ?_)
        · try simp only [bs] at h5
          refine Tr.region ?_
          refine Tr.q (QS.move rfl) rfl ?_
          first | refine Tr.q (QS.subI rfl rfl (by omega)) rfl ?_ | refine Tr.q (QS.sub rfl rfl) rfl ?_
          refine Tr.q (QS.fieldAddr (off := 2) (ft := 3) rfl Try.underlying27 rfl rfl Try.sizeOf3 (by decide)) rfl ?_
          refine Tr.storeV (cs' := [_, _, _, _, _, _, _, _, _]) rfl rfl Try.sizeOf3 (by repeat (first | exact Put.here _ | apply Put.there)) rfl (by rfl) (by first | exact Nat.le_of_ble_eq_true rfl | simp) (by first | exact List.all_eq_true.1 rfl | (intro u hu; simp [Value.cells] at hu; simp_all [Value.oneCell'])) rfl ?_
          refine Tr.q (QS.fieldAddr (off := 6) (ft := 3) rfl Try.underlying27 rfl rfl Try.sizeOf3 (by decide)) rfl ?_
          refine Tr.storeV (cs' := [_, _, _, _, _, _, _, _, _]) rfl rfl Try.sizeOf3 (by repeat (first | exact Put.here _ | apply Put.there)) rfl (by rfl) (by first | exact Nat.le_of_ble_eq_true rfl | simp) (by first | exact List.all_eq_true.1 rfl | (intro u hu; simp [Value.cells] at hu; simp_all [Value.oneCell'])) rfl ?_
          refine Tr.nil ?_
          refine Tr.inN ?_
          refine Tr.thenN ?_
          apply Tr.joined ⟨addr, 0, 4, 0, 0, 0, c - 16, 0, sz⟩
          · exact rfl
          · exact Front.nil
          · exact SubX.dropN 13 (by kernel_rfl) rfl
          · exact (by repeat' (first | exact Pick.nil _ | exact Del.here _ | apply Pick.cons | apply Del.there))
          · exact (by unfold refBodyP kindP; (repeat (first | rw [if_pos (by omega)] | rw [if_neg (by omega)])) <;> rfl)
        · try simp only [bs] at h5
          refine Tr.seq ?_
          refine Tr.region ?_
          refine Tr.q (QS.move rfl) rfl ?_
          refine Tr.q (QS.leq rfl rfl) rfl ?_
          refine Tr.q (QS.assign rfl) rfl ?_
          refine Tr.nil ?_
          refine Tr.thenN ?_
          refine Tr.cond rfl (fun h6 => ?_) (fun h6 => ?_)
          · try simp only [bs] at h6
            refine Tr.seq ?_
            refine Tr.region ?_
            refine Tr.q (QS.move rfl) rfl ?_
            refine Tr.q (QS.call rfl Try.call75 (fun w hw => refAccess_any c w)) rfl ?_
            refine Tr.q (QS.move rfl) rfl ?_
            refine Tr.q (QS.extract rfl rfl) rfl ?_
            refine Tr.q (QS.extract rfl rfl) rfl ?_
            refine Tr.q (QS.fieldAddr (off := 2) (ft := 3) rfl Try.underlying27 rfl rfl Try.sizeOf3 (by decide)) rfl ?_
            refine Tr.storeV (cs' := [_, _, _, _, _, _, _, _, _]) rfl rfl Try.sizeOf3 (by repeat (first | exact Put.here _ | apply Put.there)) rfl (by rfl) (by first | exact Nat.le_of_ble_eq_true rfl | simp) (by first | exact List.all_eq_true.1 rfl | (intro u hu; simp [Value.cells] at hu; simp_all [Value.oneCell'])) rfl ?_
            refine Tr.q (QS.fieldAddr (off := 4) (ft := 3) rfl Try.underlying27 rfl rfl Try.sizeOf3 (by decide)) rfl ?_
            refine Tr.storeV (cs' := [_, _, _, _, _, _, _, _, _]) rfl rfl Try.sizeOf3 (by repeat (first | exact Put.here _ | apply Put.there)) rfl (by rfl) (by first | exact Nat.le_of_ble_eq_true rfl | simp) (by first | exact List.all_eq_true.1 rfl | (intro u hu; simp [Value.cells] at hu; simp_all [Value.oneCell'])) rfl ?_
            refine Tr.nil ?_
            refine Tr.thenN ?_
            refine Tr.regionH ([cellE b2 (encIns.enc zeroIns) 27]) 20 rfl HLF.mixed ?_
            refine Tr.hT 0 rfl (by kernel_rfl) (panicIn (panicThen panicBody)) (QS.move rfl) ?_
            first | refine Tr.hT 1 rfl (by kernel_rfl) (panicIn (panicThen panicBody)) (QS.idxN rfl rfl (by assumption) Try.underlying22 Try.sizeOf5 (by rfl) (by omega)) ?_ | refine Tr.hT 1 rfl (by kernel_rfl) (panicIn (panicThen panicBody)) (QS.idxRowN rfl rfl (by repeat (first | exact List.Mem.head _ | apply List.Mem.tail)) Try.underlying22 Try.sizeOf5 (by rfl) (by omega)) ?_ | refine Tr.hT 1 rfl (by kernel_rfl) (panicIn (panicThen panicBody)) (QS.idx rfl rfl (by assumption) Try.underlying22 Try.sizeOf5 (by rfl) (by omega)) ?_ | refine Tr.hT 1 rfl (by kernel_rfl) (panicIn (panicThen panicBody)) (QS.idxRow rfl rfl (by repeat (first | exact List.Mem.head _ | apply List.Mem.tail)) Try.underlying22 Try.sizeOf5 (by rfl) (by omega)) ?_
            first | refine Tr.hT 2 rfl (by kernel_rfl) (panicIn (panicThen panicBody)) (QS.el1 rfl (by assumption) Try.isAgg5 (by omega) (by rfl)) ?_ | refine Tr.hT 2 rfl (by kernel_rfl) (panicIn (panicThen panicBody)) (QS.elR1 rfl (by repeat (first | exact List.Mem.head _ | apply List.Mem.tail)) Try.isAgg5 (by omega) (by rfl)) ?_
            refine Tr.hT 3 rfl (by kernel_rfl) (panicIn (panicThen panicBody)) (QS.quo8 (n := 16) rfl rfl (by first | decide | assumption)) ?_
            refine Tr.hT 4 rfl (by kernel_rfl) (panicIn (panicThen panicBody)) (QS.cvt8toI rfl Try.underlying5 Try.underlying3) ?_
            refine Tr.hT 5 rfl (by kernel_rfl) (panicIn (panicThen panicBody)) (QS.move rfl) ?_
            first | refine Tr.hT 6 rfl (by kernel_rfl) (panicIn (panicThen panicBody)) (QS.idxN rfl rfl (by assumption) Try.underlying22 Try.sizeOf5 (by rfl) (by omega)) ?_ | refine Tr.hT 6 rfl (by kernel_rfl) (panicIn (panicThen panicBody)) (QS.idxRowN rfl rfl (by repeat (first | exact List.Mem.head _ | apply List.Mem.tail)) Try.underlying22 Try.sizeOf5 (by rfl) (by omega)) ?_ | refine Tr.hT 6 rfl (by kernel_rfl) (panicIn (panicThen panicBody)) (QS.idx rfl rfl (by assumption) Try.underlying22 Try.sizeOf5 (by rfl) (by omega)) ?_ | refine Tr.hT 6 rfl (by kernel_rfl) (panicIn (panicThen panicBody)) (QS.idxRow rfl rfl (by repeat (first | exact List.Mem.head _ | apply List.Mem.tail)) Try.underlying22 Try.sizeOf5 (by rfl) (by omega)) ?_
            first | refine Tr.hT 7 rfl (by kernel_rfl) (panicIn (panicThen panicBody)) (QS.el1 rfl (by assumption) Try.isAgg5 (by omega) (by rfl)) ?_ | refine Tr.hT 7 rfl (by kernel_rfl) (panicIn (panicThen panicBody)) (QS.elR1 rfl (by repeat (first | exact List.Mem.head _ | apply List.Mem.tail)) Try.isAgg5 (by omega) (by rfl)) ?_
            refine Tr.hT 8 rfl (by kernel_rfl) (panicIn (panicThen panicBody)) (QS.rem8 (n := 16) rfl rfl (by first | decide | assumption)) ?_
            refine Tr.hT 9 rfl (by kernel_rfl) (panicIn (panicThen panicBody)) (QS.cvt8toI rfl Try.underlying5 Try.underlying3) ?_
            refine Tr.hT 10 rfl (by kernel_rfl) (panicIn (panicThen panicBody)) (QS.move rfl) ?_
            first | refine Tr.hT 11 rfl (by kernel_rfl) (panicIn (panicThen panicBody)) (QS.idxN rfl rfl (by assumption) Try.underlying22 Try.sizeOf5 (by rfl) (by omega)) ?_ | refine Tr.hT 11 rfl (by kernel_rfl) (panicIn (panicThen panicBody)) (QS.idxRowN rfl rfl (by repeat (first | exact List.Mem.head _ | apply List.Mem.tail)) Try.underlying22 Try.sizeOf5 (by rfl) (by omega)) ?_ | refine Tr.hT 11 rfl (by kernel_rfl) (panicIn (panicThen panicBody)) (QS.idx rfl rfl (by assumption) Try.underlying22 Try.sizeOf5 (by rfl) (by omega)) ?_ | refine Tr.hT 11 rfl (by kernel_rfl) (panicIn (panicThen panicBody)) (QS.idxRow rfl rfl (by repeat (first | exact List.Mem.head _ | apply List.Mem.tail)) Try.underlying22 Try.sizeOf5 (by rfl) (by omega)) ?_
            first | refine Tr.hT 12 rfl (by kernel_rfl) (panicIn (panicThen panicBody)) (QS.el1 rfl (by assumption) Try.isAgg5 (by omega) (by rfl)) ?_ | refine Tr.hT 12 rfl (by kernel_rfl) (panicIn (panicThen panicBody)) (QS.elR1 rfl (by repeat (first | exact List.Mem.head _ | apply List.Mem.tail)) Try.isAgg5 (by omega) (by rfl)) ?_
            refine Tr.hT 14 rfl (by kernel_rfl) (panicIn (panicThen panicBody)) (QS.fieldAddr (off := 6) (ft := 3) rfl Try.underlying27 rfl rfl Try.sizeOf3 (by decide)) ?_
            refine Tr.hAll [13] (by kernel_rfl) (by simp) (fun iq hq => ?_)
            obtain rfl := List.mem_singleton.1 hq
            refine Tr.hOp rfl ?_
            refine Tr.q (QS.call rfl Try.call56 (fun w hw => signed_any (b.getD 2 default) w)) rfl ?_
            refine Tr.hN ?_
            refine Tr.hAll [15] (by kernel_rfl) (by simp) (fun iq hq => ?_)
            obtain rfl := List.mem_singleton.1 hq
            refine Tr.hOp rfl ?_
            refine Tr.storeV (cs' := [_, _, _, _, _, _, _, _, _]) rfl rfl Try.sizeOf3 (by repeat (first | exact Put.here _ | apply Put.there)) rfl (by rfl) (by first | exact Nat.le_of_ble_eq_true rfl | simp) (by first | exact List.all_eq_true.1 rfl | (intro u hu; simp [Value.cells] at hu; simp_all [Value.oneCell'])) rfl ?_
            refine Tr.hN ?_
            refine Tr.hT 16 rfl (by kernel_rfl) (panicIn (panicThen panicBody)) (QS.fieldAddr (off := 7) (ft := 3) rfl Try.underlying27 rfl rfl Try.sizeOf3 (by decide)) ?_
            refine Tr.hAll [17] (by kernel_rfl) (by simp) (fun iq hq => ?_)
            obtain rfl := List.mem_singleton.1 hq
            refine Tr.hOp rfl ?_
            refine Tr.storeV (cs' := [_, _, _, _, _, _, _, _, _]) rfl rfl Try.sizeOf3 (by repeat (first | exact Put.here _ | apply Put.there)) rfl (by rfl) (by first | exact Nat.le_of_ble_eq_true rfl | simp) (by first | exact List.all_eq_true.1 rfl | (intro u hu; simp [Value.cells] at hu; simp_all [Value.oneCell'])) rfl ?_
            refine Tr.hN ?_
            refine Tr.hT 18 rfl (by kernel_rfl) (panicIn (panicThen panicBody)) (QS.fieldAddr (off := 1) (ft := 23) rfl Try.underlying27 rfl rfl Try.sizeOf23 (by decide)) ?_
            refine Tr.hAll [19] (by kernel_rfl) (by simp) (fun iq hq => ?_)
            obtain rfl := List.mem_singleton.1 hq
            refine Tr.hOp rfl ?_
            refine Tr.storeV (cs' := [_, _, _, _, _, _, _, _, _]) rfl rfl Try.sizeOf23 (by repeat (first | exact Put.here _ | apply Put.there)) rfl (by rfl) (by first | exact Nat.le_of_ble_eq_true rfl | simp) (by first | exact List.all_eq_true.1 rfl | (intro u hu; simp [Value.cells] at hu; simp_all [Value.oneCell'])) rfl ?_
            refine Tr.hN ?_
            refine Tr.hDone (by kernel_rfl) ?_
            refine Tr.inN ?_
            refine Tr.thenN ?_
            apply Tr.joined ⟨addr, sextP (b.getD 2 default), (refAccP c).1, 0, (refAccP c).2, 0, ((b.getD 1 default) / 16).toNat, ((b.getD 1 default) % 16).toNat, sz⟩
            · exact rfl
            · exact Front.nil
            · exact SubX.dropN 36 (by kernel_rfl) rfl
            · exact (by repeat' (first | exact Pick.nil _ | exact Del.here _ | apply Pick.cons | apply Del.there))
            · exact (by unfold refBodyP kindP; (repeat (first | rw [if_pos (by omega)] | rw [if_neg (by omega)])) <;> rfl)
          · try simp only [bs] at h6
            refine Tr.seq ?_
            refine Tr.region ?_
            refine Tr.q (QS.move rfl) rfl ?_
            refine Tr.q (QS.eql rfl rfl) rfl ?_
            refine Tr.q (QS.assign rfl) rfl ?_
            refine Tr.nil ?_
            refine Tr.thenN ?_
            refine Tr.cond rfl (fun h7 => ?_) (fun h7 => ?_)
            · try simp only [bs] at h7
              refine Tr.regionH ([cellE b2 (encIns.enc zeroIns) 27]) 22 rfl HLF.mixed ?_
              refine Tr.hT 0 rfl (by kernel_rfl) (panicIn (panicThen panicBody)) (QS.move rfl) ?_
              first | refine Tr.hT 1 rfl (by kernel_rfl) (panicIn (panicThen panicBody)) (QS.idxN rfl rfl (by assumption) Try.underlying22 Try.sizeOf5 (by rfl) (by omega)) ?_ | refine Tr.hT 1 rfl (by kernel_rfl) (panicIn (panicThen panicBody)) (QS.idxRowN rfl rfl (by repeat (first | exact List.Mem.head _ | apply List.Mem.tail)) Try.underlying22 Try.sizeOf5 (by rfl) (by omega)) ?_ | refine Tr.hT 1 rfl (by kernel_rfl) (panicIn (panicThen panicBody)) (QS.idx rfl rfl (by assumption) Try.underlying22 Try.sizeOf5 (by rfl) (by omega)) ?_ | refine Tr.hT 1 rfl (by kernel_rfl) (panicIn (panicThen panicBody)) (QS.idxRow rfl rfl (by repeat (first | exact List.Mem.head _ | apply List.Mem.tail)) Try.underlying22 Try.sizeOf5 (by rfl) (by omega)) ?_
              first | refine Tr.hT 2 rfl (by kernel_rfl) (panicIn (panicThen panicBody)) (QS.el1 rfl (by assumption) Try.isAgg5 (by omega) (by rfl)) ?_ | refine Tr.hT 2 rfl (by kernel_rfl) (panicIn (panicThen panicBody)) (QS.elR1 rfl (by repeat (first | exact List.Mem.head _ | apply List.Mem.tail)) Try.isAgg5 (by omega) (by rfl)) ?_
              refine Tr.hT 3 rfl (by kernel_rfl) (panicIn (panicThen panicBody)) (QS.quo8 (n := 16) rfl rfl (by first | decide | assumption)) ?_
              refine Tr.hT 4 rfl (by kernel_rfl) (panicIn (panicThen panicBody)) (QS.cvt8toI rfl Try.underlying5 Try.underlying3) ?_
              refine Tr.hT 5 rfl (by kernel_rfl) (panicIn (panicThen panicBody)) (QS.move rfl) ?_
              first | refine Tr.hT 6 rfl (by kernel_rfl) (panicIn (panicThen panicBody)) (QS.idxN rfl rfl (by assumption) Try.underlying22 Try.sizeOf5 (by rfl) (by omega)) ?_ | refine Tr.hT 6 rfl (by kernel_rfl) (panicIn (panicThen panicBody)) (QS.idxRowN rfl rfl (by repeat (first | exact List.Mem.head _ | apply List.Mem.tail)) Try.underlying22 Try.sizeOf5 (by rfl) (by omega)) ?_ | refine Tr.hT 6 rfl (by kernel_rfl) (panicIn (panicThen panicBody)) (QS.idx rfl rfl (by assumption) Try.underlying22 Try.sizeOf5 (by rfl) (by omega)) ?_ | refine Tr.hT 6 rfl (by kernel_rfl) (panicIn (panicThen panicBody)) (QS.idxRow rfl rfl (by repeat (first | exact List.Mem.head _ | apply List.Mem.tail)) Try.underlying22 Try.sizeOf5 (by rfl) (by omega)) ?_
              first | refine Tr.hT 7 rfl (by kernel_rfl) (panicIn (panicThen panicBody)) (QS.el1 rfl (by assumption) Try.isAgg5 (by omega) (by rfl)) ?_ | refine Tr.hT 7 rfl (by kernel_rfl) (panicIn (panicThen panicBody)) (QS.elR1 rfl (by repeat (first | exact List.Mem.head _ | apply List.Mem.tail)) Try.isAgg5 (by omega) (by rfl)) ?_
              refine Tr.hT 8 rfl (by kernel_rfl) (panicIn (panicThen panicBody)) (QS.rem8 (n := 16) rfl rfl (by first | decide | assumption)) ?_
              refine Tr.hT 9 rfl (by kernel_rfl) (panicIn (panicThen panicBody)) (QS.cvt8toI rfl Try.underlying5 Try.underlying3) ?_
              refine Tr.hT 10 rfl (by kernel_rfl) (panicIn (panicThen panicBody)) (QS.move rfl) ?_
              first | refine Tr.hT 11 rfl (by kernel_rfl) (panicIn (panicThen panicBody)) (QS.idxN rfl rfl (by assumption) Try.underlying22 Try.sizeOf5 (by rfl) (by omega)) ?_ | refine Tr.hT 11 rfl (by kernel_rfl) (panicIn (panicThen panicBody)) (QS.idxRowN rfl rfl (by repeat (first | exact List.Mem.head _ | apply List.Mem.tail)) Try.underlying22 Try.sizeOf5 (by rfl) (by omega)) ?_ | refine Tr.hT 11 rfl (by kernel_rfl) (panicIn (panicThen panicBody)) (QS.idx rfl rfl (by assumption) Try.underlying22 Try.sizeOf5 (by rfl) (by omega)) ?_ | refine Tr.hT 11 rfl (by kernel_rfl) (panicIn (panicThen panicBody)) (QS.idxRow rfl rfl (by repeat (first | exact List.Mem.head _ | apply List.Mem.tail)) Try.underlying22 Try.sizeOf5 (by rfl) (by omega)) ?_
              first | refine Tr.hT 12 rfl (by kernel_rfl) (panicIn (panicThen panicBody)) (QS.el1 rfl (by assumption) Try.isAgg5 (by omega) (by rfl)) ?_ | refine Tr.hT 12 rfl (by kernel_rfl) (panicIn (panicThen panicBody)) (QS.elR1 rfl (by repeat (first | exact List.Mem.head _ | apply List.Mem.tail)) Try.isAgg5 (by omega) (by rfl)) ?_
              refine Tr.hT 14 rfl (by kernel_rfl) (panicIn (panicThen panicBody)) (QS.fieldAddr (off := 2) (ft := 3) rfl Try.underlying27 rfl rfl Try.sizeOf3 (by decide)) ?_
              refine Tr.hAll [13] (by kernel_rfl) (by simp) (fun iq hq => ?_)
              obtain rfl := List.mem_singleton.1 hq
              refine Tr.hOp rfl ?_
              refine Tr.q (QS.call rfl Try.call56 (fun w hw => signed_any (b.getD 2 default) w)) rfl ?_
              refine Tr.hN ?_
              refine Tr.hAll [15] (by kernel_rfl) (by simp) (fun iq hq => ?_)
              obtain rfl := List.mem_singleton.1 hq
              refine Tr.hOp rfl ?_
              refine Tr.storeV (cs' := [_, _, _, _, _, _, _, _, _]) rfl rfl Try.sizeOf3 (by repeat (first | exact Put.here _ | apply Put.there)) rfl (by rfl) (by first | exact Nat.le_of_ble_eq_true rfl | simp) (by first | exact List.all_eq_true.1 rfl | (intro u hu; simp [Value.cells] at hu; simp_all [Value.oneCell'])) rfl ?_
              refine Tr.hN ?_
              refine Tr.hT 16 rfl (by kernel_rfl) (panicIn (panicThen panicBody)) (QS.fieldAddr (off := 6) (ft := 3) rfl Try.underlying27 rfl rfl Try.sizeOf3 (by decide)) ?_
              refine Tr.hAll [17] (by kernel_rfl) (by simp) (fun iq hq => ?_)
              obtain rfl := List.mem_singleton.1 hq
              refine Tr.hOp rfl ?_
              refine Tr.storeV (cs' := [_, _, _, _, _, _, _, _, _]) rfl rfl Try.sizeOf3 (by repeat (first | exact Put.here _ | apply Put.there)) rfl (by rfl) (by first | exact Nat.le_of_ble_eq_true rfl | simp) (by first | exact List.all_eq_true.1 rfl | (intro u hu; simp [Value.cells] at hu; simp_all [Value.oneCell'])) rfl ?_
              refine Tr.hN ?_
              refine Tr.hT 18 rfl (by kernel_rfl) (panicIn (panicThen panicBody)) (QS.fieldAddr (off := 7) (ft := 3) rfl Try.underlying27 rfl rfl Try.sizeOf3 (by decide)) ?_
              refine Tr.hAll [19] (by kernel_rfl) (by simp) (fun iq hq => ?_)
              obtain rfl := List.mem_singleton.1 hq
              refine Tr.hOp rfl ?_
              refine Tr.storeV (cs' := [_, _, _, _, _, _, _, _, _]) rfl rfl Try.sizeOf3 (by repeat (first | exact Put.here _ | apply Put.there)) rfl (by rfl) (by first | exact Nat.le_of_ble_eq_true rfl | simp) (by first | exact List.all_eq_true.1 rfl | (intro u hu; simp [Value.cells] at hu; simp_all [Value.oneCell'])) rfl ?_
              refine Tr.hN ?_
              refine Tr.hT 20 rfl (by kernel_rfl) (panicIn (panicThen panicBody)) (QS.fieldAddr (off := 1) (ft := 23) rfl Try.underlying27 rfl rfl Try.sizeOf23 (by decide)) ?_
              refine Tr.hAll [21] (by kernel_rfl) (by simp) (fun iq hq => ?_)
              obtain rfl := List.mem_singleton.1 hq
              refine Tr.hOp rfl ?_
              refine Tr.storeV (cs' := [_, _, _, _, _, _, _, _, _]) rfl rfl Try.sizeOf23 (by repeat (first | exact Put.here _ | apply Put.there)) rfl (by rfl) (by first | exact Nat.le_of_ble_eq_true rfl | simp) (by first | exact List.all_eq_true.1 rfl | (intro u hu; simp [Value.cells] at hu; simp_all [Value.oneCell'])) rfl ?_
              refine Tr.hN ?_
              refine Tr.hDone (by kernel_rfl) ?_
              refine Tr.inN ?_
              refine Tr.thenN ?_
              apply Tr.joined ⟨addr, sextP (b.getD 2 default), 19, 0, 0, 0, ((b.getD 1 default) / 16).toNat, ((b.getD 1 default) % 16).toNat, sz⟩
              · exact rfl
              · exact Front.nil
              · exact SubX.dropN 33 (by kernel_rfl) rfl
              · exact (by repeat' (first | exact Pick.nil _ | exact Del.here _ | apply Pick.cons | apply Del.there))
              · exact (by unfold refBodyP kindP; (repeat (first | rw [if_pos (by omega)] | rw [if_neg (by omega)])) <;> rfl)
            · try simp only [bs] at h7
              refine Tr.seq ?_
              refine Tr.region ?_
              refine Tr.q (QS.move rfl) rfl ?_
              refine Tr.q (QS.leq rfl rfl) rfl ?_
              refine Tr.q (QS.assign rfl) rfl ?_
              refine Tr.nil ?_
              refine Tr.thenN ?_
              refine Tr.cond rfl (fun h8 => ?_) (fun h8 => ?_)
              · try simp only [bs] at h8
                refine Tr.region ?_
                refine Tr.q (QS.move rfl) rfl ?_
                first | refine Tr.q (QS.subI rfl rfl (by omega)) rfl ?_ | refine Tr.q (QS.sub rfl rfl) rfl ?_
                refine Tr.q (QS.move rfl) rfl ?_
                refine Tr.q (QS.move rfl) rfl ?_
                first | refine Tr.q (QS.idxN rfl rfl (by assumption) Try.underlying22 Try.sizeOf5 (by rfl) (by omega)) rfl ?_ | refine Tr.q (QS.idxRowN rfl rfl (by repeat (first | exact List.Mem.head _ | apply List.Mem.tail)) Try.underlying22 Try.sizeOf5 (by rfl) (by omega)) rfl ?_ | refine Tr.q (QS.idx rfl rfl (by assumption) Try.underlying22 Try.sizeOf5 (by rfl) (by omega)) rfl ?_ | refine Tr.q (QS.idxRow rfl rfl (by repeat (first | exact List.Mem.head _ | apply List.Mem.tail)) Try.underlying22 Try.sizeOf5 (by rfl) (by omega)) rfl ?_
                first | refine Tr.q (QS.el1 rfl (by assumption) Try.isAgg5 (by omega) (by rfl)) rfl ?_ | refine Tr.q (QS.elR1 rfl (by repeat (first | exact List.Mem.head _ | apply List.Mem.tail)) Try.isAgg5 (by omega) (by rfl)) rfl ?_
                refine Tr.q (QS.call rfl Try.call56 (fun w hw => signed_any (b.getD 1 default) w)) rfl ?_
                refine Tr.q (QS.add32 rfl rfl) rfl ?_
                refine Tr.q (QS.fieldAddr (off := 2) (ft := 3) rfl Try.underlying27 rfl rfl Try.sizeOf3 (by decide)) rfl ?_
                refine Tr.storeV (cs' := [_, _, _, _, _, _, _, _, _]) rfl rfl Try.sizeOf3 (by repeat (first | exact Put.here _ | apply Put.there)) rfl (by rfl) (by first | exact Nat.le_of_ble_eq_true rfl | simp) (by first | exact List.all_eq_true.1 rfl | (intro u hu; simp [Value.cells] at hu; simp_all [Value.oneCell'])) rfl ?_
                refine Tr.q (QS.fieldAddr (off := 3) (ft := 3) rfl Try.underlying27 rfl rfl Try.sizeOf3 (by decide)) rfl ?_
                refine Tr.storeV (cs' := [_, _, _, _, _, _, _, _, _]) rfl rfl Try.sizeOf3 (by repeat (first | exact Put.here _ | apply Put.there)) rfl (by rfl) (by first | exact Nat.le_of_ble_eq_true rfl | simp) (by first | exact List.all_eq_true.1 rfl | (intro u hu; simp [Value.cells] at hu; simp_all [Value.oneCell'])) rfl ?_
                refine Tr.q (QS.fieldAddr (off := 5) (ft := 3) rfl Try.underlying27 rfl rfl Try.sizeOf3 (by decide)) rfl ?_
                refine Tr.storeV (cs' := [_, _, _, _, _, _, _, _, _]) rfl rfl Try.sizeOf3 (by repeat (first | exact Put.here _ | apply Put.there)) rfl (by rfl) (by first | exact Nat.le_of_ble_eq_true rfl | simp) (by first | exact List.all_eq_true.1 rfl | (intro u hu; simp [Value.cells] at hu; simp_all [Value.oneCell'])) rfl ?_
                refine Tr.q (QS.fieldAddr (off := 1) (ft := 23) rfl Try.underlying27 rfl rfl Try.sizeOf23 (by decide)) rfl ?_
                refine Tr.storeV (cs' := [_, _, _, _, _, _, _, _, _]) rfl rfl Try.sizeOf23 (by repeat (first | exact Put.here _ | apply Put.there)) rfl (by rfl) (by first | exact Nat.le_of_ble_eq_true rfl | simp) (by first | exact List.all_eq_true.1 rfl | (intro u hu; simp [Value.cells] at hu; simp_all [Value.oneCell'])) rfl ?_
                refine Tr.nil ?_
                refine Tr.inN ?_
                refine Tr.thenN ?_
                apply Tr.joined ⟨addr, (addr + u32 sz) + sextP (b.getD 1 default), 20, 1, 0, c - 96, 0, 0, sz⟩
                · exact rfl
                · exact Front.nil
                · exact SubX.dropN 30 (by kernel_rfl) rfl
                · exact (by repeat' (first | exact Pick.nil _ | exact Del.here _ | apply Pick.cons | apply Del.there))
                · exact (by unfold refBodyP kindP; (repeat (first | rw [if_pos (by omega)] | rw [if_neg (by omega)])) <;> rfl)
              · try simp only [bs] at h8
                refine Tr.seq ?_
                refine Tr.region ?_
                refine Tr.q (QS.move rfl) rfl ?_
                refine Tr.q (QS.leq rfl rfl) rfl ?_
                refine Tr.q (QS.assign rfl) rfl ?_
                refine Tr.nil ?_
                refine Tr.thenN ?_
                refine Tr.cond rfl (fun h9 => ?_) (fun h9 => ?_)
                · try simp only [bs] at h9
                  refine Tr.region ?_
                  refine Tr.q (QS.move rfl) rfl ?_
                  first | refine Tr.q (QS.subI rfl rfl (by omega)) rfl ?_ | refine Tr.q (QS.sub rfl rfl) rfl ?_
                  refine Tr.q (QS.move rfl) rfl ?_
                  refine Tr.q (QS.move rfl) rfl ?_
                  refine Tr.q (QS.slice (lv := some (_, _)) (hv := none) rfl (by assumption) rfl rfl Try.underlying22 Try.sizeOf5 (by rfl) (by simp only [loOf, hiOf]; omega) (by simp only [loOf, hiOf]; omega) (by simp only [loOf, hiOf]; omega)) rfl ?_
                  refine Tr.q (QS.call rfl Try.call57 (fun w hw => refLong_any ((b.take (b.length : Int).toNat).drop (1 : Int).toNat) _ w (hw.slF (Sl.resl hV' (by omega) (by omega))) (by simp; omega))) rfl ?_
                  refine Tr.q (QS.add32 rfl rfl) rfl ?_
                  refine Tr.q (QS.fieldAddr (off := 2) (ft := 3) rfl Try.underlying27 rfl rfl Try.sizeOf3 (by decide)) rfl ?_
                  refine Tr.storeV (cs' := [_, _, _, _, _, _, _, _, _]) rfl rfl Try.sizeOf3 (by repeat (first | exact Put.here _ | apply Put.there)) rfl (by rfl) (by first | exact Nat.le_of_ble_eq_true rfl | simp) (by first | exact List.all_eq_true.1 rfl | (intro u hu; simp [Value.cells] at hu; simp_all [Value.oneCell'])) rfl ?_
                  refine Tr.q (QS.fieldAddr (off := 3) (ft := 3) rfl Try.underlying27 rfl rfl Try.sizeOf3 (by decide)) rfl ?_
                  refine Tr.storeV (cs' := [_, _, _, _, _, _, _, _, _]) rfl rfl Try.sizeOf3 (by repeat (first | exact Put.here _ | apply Put.there)) rfl (by rfl) (by first | exact Nat.le_of_ble_eq_true rfl | simp) (by first | exact List.all_eq_true.1 rfl | (intro u hu; simp [Value.cells] at hu; simp_all [Value.oneCell'])) rfl ?_
                  refine Tr.q (QS.fieldAddr (off := 5) (ft := 3) rfl Try.underlying27 rfl rfl Try.sizeOf3 (by decide)) rfl ?_
                  refine Tr.storeV (cs' := [_, _, _, _, _, _, _, _, _]) rfl rfl Try.sizeOf3 (by repeat (first | exact Put.here _ | apply Put.there)) rfl (by rfl) (by first | exact Nat.le_of_ble_eq_true rfl | simp) (by first | exact List.all_eq_true.1 rfl | (intro u hu; simp [Value.cells] at hu; simp_all [Value.oneCell'])) rfl ?_
                  refine Tr.q (QS.fieldAddr (off := 1) (ft := 23) rfl Try.underlying27 rfl rfl Try.sizeOf23 (by decide)) rfl ?_
                  refine Tr.storeV (cs' := [_, _, _, _, _, _, _, _, _]) rfl rfl Try.sizeOf23 (by repeat (first | exact Put.here _ | apply Put.there)) rfl (by rfl) (by first | exact Nat.le_of_ble_eq_true rfl | simp) (by first | exact List.all_eq_true.1 rfl | (intro u hu; simp [Value.cells] at hu; simp_all [Value.oneCell'])) rfl ?_
                  refine Tr.nil ?_
                  refine Tr.inN ?_
                  refine Tr.thenN ?_
                  rw [show longP ((b.take (b.length : Int).toNat).drop (1 : Int).toNat) 0 = longP b 1 from long_drop (k := 1) (by omega)]
                  apply Tr.joined ⟨addr, (addr + u32 sz) + longP b 1, 20, 2, 0, c - 112, 0, 0, sz⟩
                  · exact rfl
                  · exact Front.nil
                  · exact SubX.dropN 32 (by kernel_rfl) rfl
                  · exact (by repeat' (first | exact Pick.nil _ | exact Del.here _ | apply Pick.cons | apply Del.there))
                  · exact (by unfold refBodyP kindP; (repeat (first | rw [if_pos (by omega)] | rw [if_neg (by omega)])) <;> rfl)
                · try simp only [bs] at h9
                  refine Tr.seq ?_
                  refine Tr.region ?_
                  refine Tr.q (QS.move rfl) rfl ?_
                  refine Tr.q (QS.eql rfl rfl) rfl ?_
                  refine Tr.q (QS.assign rfl) rfl ?_
                  refine Tr.nil ?_
                  refine Tr.thenN ?_
                  refine Tr.cond rfl (fun h10 => ?_) (fun h10 => ?_)
                  · try simp only [bs] at h10
                    refine Tr.region ?_
                    refine Tr.q (QS.move rfl) rfl ?_
                    refine Tr.q (QS.move rfl) rfl ?_
                    refine Tr.q (QS.slice (lv := some (_, _)) (hv := none) rfl (by assumption) rfl rfl Try.underlying22 Try.sizeOf5 (by rfl) (by simp only [loOf, hiOf]; omega) (by simp only [loOf, hiOf]; omega) (by simp only [loOf, hiOf]; omega)) rfl ?_
                    refine Tr.q (QS.call rfl Try.call57 (fun w hw => refLong_any ((b.take (b.length : Int).toNat).drop (1 : Int).toNat) _ w (hw.slF (Sl.resl hV' (by omega) (by omega))) (by simp; omega))) rfl ?_
                    refine Tr.q (QS.add32 rfl rfl) rfl ?_
                    refine Tr.q (QS.fieldAddr (off := 2) (ft := 3) rfl Try.underlying27 rfl rfl Try.sizeOf3 (by decide)) rfl ?_
                    refine Tr.storeV (cs' := [_, _, _, _, _, _, _, _, _]) rfl rfl Try.sizeOf3 (by repeat (first | exact Put.here _ | apply Put.there)) rfl (by rfl) (by first | exact Nat.le_of_ble_eq_true rfl | simp) (by first | exact List.all_eq_true.1 rfl | (intro u hu; simp [Value.cells] at hu; simp_all [Value.oneCell'])) rfl ?_
                    refine Tr.q (QS.fieldAddr (off := 1) (ft := 23) rfl Try.underlying27 rfl rfl Try.sizeOf23 (by decide)) rfl ?_
                    refine Tr.storeV (cs' := [_, _, _, _, _, _, _, _, _]) rfl rfl Try.sizeOf23 (by repeat (first | exact Put.here _ | apply Put.there)) rfl (by rfl) (by first | exact Nat.le_of_ble_eq_true rfl | simp) (by first | exact List.all_eq_true.1 rfl | (intro u hu; simp [Value.cells] at hu; simp_all [Value.oneCell'])) rfl ?_
                    refine Tr.nil ?_
                    refine Tr.inN ?_
                    refine Tr.thenN ?_
                    rw [show longP ((b.take (b.length : Int).toNat).drop (1 : Int).toNat) 0 = longP b 1 from long_drop (k := 1) (by omega)]
                    apply Tr.joined ⟨addr, (addr + u32 sz) + longP b 1, 23, 0, 0, 0, 0, 0, sz⟩
                    · exact rfl
                    · exact Front.nil
                    · exact SubX.dropN 31 (by kernel_rfl) rfl
                    · exact (by repeat' (first | exact Pick.nil _ | exact Del.here _ | apply Pick.cons | apply Del.there))
                    · exact (by unfold refBodyP kindP; (repeat (first | rw [if_pos (by omega)] | rw [if_neg (by omega)])) <;> rfl)
                  · try simp only [bs] at h10
                    refine Tr.seq ?_
                    refine Tr.region ?_
                    refine Tr.q (QS.move rfl) rfl ?_
                    refine Tr.q (QS.eql rfl rfl) rfl ?_
                    refine Tr.q (QS.assign rfl) rfl ?_
                    refine Tr.nil ?_
                    refine Tr.thenN ?_
                    refine Tr.cond rfl (fun h11 => ?_) (fun h11 => ?_)
                    · try simp only [bs] at h11
                      refine Tr.regionH ([cellE b2 (encIns.enc zeroIns) 27]) 8 rfl HLF.mixed ?_
                      refine Tr.hT 0 rfl (by kernel_rfl) (panicIn (panicThen panicBody)) (QS.move rfl) ?_
                      first | refine Tr.hT 1 rfl (by kernel_rfl) (panicIn (panicThen panicBody)) (QS.idxN rfl rfl (by assumption) Try.underlying22 Try.sizeOf5 (by rfl) (by omega)) ?_ | refine Tr.hT 1 rfl (by kernel_rfl) (panicIn (panicThen panicBody)) (QS.idxRowN rfl rfl (by repeat (first | exact List.Mem.head _ | apply List.Mem.tail)) Try.underlying22 Try.sizeOf5 (by rfl) (by omega)) ?_ | refine Tr.hT 1 rfl (by kernel_rfl) (panicIn (panicThen panicBody)) (QS.idx rfl rfl (by assumption) Try.underlying22 Try.sizeOf5 (by rfl) (by omega)) ?_ | refine Tr.hT 1 rfl (by kernel_rfl) (panicIn (panicThen panicBody)) (QS.idxRow rfl rfl (by repeat (first | exact List.Mem.head _ | apply List.Mem.tail)) Try.underlying22 Try.sizeOf5 (by rfl) (by omega)) ?_
                      first | refine Tr.hT 2 rfl (by kernel_rfl) (panicIn (panicThen panicBody)) (QS.el1 rfl (by assumption) Try.isAgg5 (by omega) (by rfl)) ?_ | refine Tr.hT 2 rfl (by kernel_rfl) (panicIn (panicThen panicBody)) (QS.elR1 rfl (by repeat (first | exact List.Mem.head _ | apply List.Mem.tail)) Try.isAgg5 (by omega) (by rfl)) ?_
                      refine Tr.hT 3 rfl (by kernel_rfl) (panicIn (panicThen panicBody)) (QS.cvt8toI rfl Try.underlying5 Try.underlying3) ?_
                      refine Tr.hT 4 rfl (by kernel_rfl) (panicIn (panicThen panicBody)) (QS.fieldAddr (off := 2) (ft := 3) rfl Try.underlying27 rfl rfl Try.sizeOf3 (by decide)) ?_
                      refine Tr.hAll [5] (by kernel_rfl) (by simp) (fun iq hq => ?_)
                      obtain rfl := List.mem_singleton.1 hq
                      refine Tr.hOp rfl ?_
                      refine Tr.storeV (cs' := [_, _, _, _, _, _, _, _, _]) rfl rfl Try.sizeOf3 (by repeat (first | exact Put.here _ | apply Put.there)) rfl (by rfl) (by first | exact Nat.le_of_ble_eq_true rfl | simp) (by first | exact List.all_eq_true.1 rfl | (intro u hu; simp [Value.cells] at hu; simp_all [Value.oneCell'])) rfl ?_
                      refine Tr.hN ?_
                      refine Tr.hT 6 rfl (by kernel_rfl) (panicIn (panicThen panicBody)) (QS.fieldAddr (off := 6) (ft := 3) rfl Try.underlying27 rfl rfl Try.sizeOf3 (by decide)) ?_
                      refine Tr.hAll [7] (by kernel_rfl) (by simp) (fun iq hq => ?_)
                      obtain rfl := List.mem_singleton.1 hq
                      refine Tr.hOp rfl ?_
                      refine Tr.storeV (cs' := [_, _, _, _, _, _, _, _, _]) rfl rfl Try.sizeOf3 (by repeat (first | exact Put.here _ | apply Put.there)) rfl (by rfl) (by first | exact Nat.le_of_ble_eq_true rfl | simp) (by first | exact List.all_eq_true.1 rfl | (intro u hu; simp [Value.cells] at hu; simp_all [Value.oneCell'])) rfl ?_
                      refine Tr.hN ?_
                      refine Tr.hDone (by kernel_rfl) ?_
                      refine Tr.inN ?_
                      refine Tr.thenN ?_
                      apply Tr.joined ⟨addr, 0, 24, 0, 0, 0, (b.getD 1 default).toNat, 0, sz⟩
                      · exact rfl
                      · exact Front.nil
                      · exact SubX.dropN 33 (by kernel_rfl) rfl
                      · exact (by repeat' (first | exact Pick.nil _ | exact Del.here _ | apply Pick.cons | apply Del.there))
                      · exact (by unfold refBodyP kindP; (repeat (first | rw [if_pos (by omega)] | rw [if_neg (by omega)])) <;> rfl)
                    · try simp only [bs] at h11
                      refine Tr.seq ?_
                      refine Tr.region ?_
                      refine Tr.q (QS.move rfl) rfl ?_
                      refine Tr.q (QS.eql rfl rfl) rfl ?_
                      refine Tr.q (QS.assign rfl) rfl ?_
                      refine Tr.nil ?_
                      refine Tr.thenN ?_
                      refine Tr.cond rfl (fun h12 => ?_) (fun h12 => ?_)
                      · try simp only [bs] at h12
                        refine Tr.regionH ([cellE b2 (encIns.enc zeroIns) 27]) 8 rfl HLF.mixed ?_
                        refine Tr.hT 0 rfl (by kernel_rfl) (panicIn (panicThen panicBody)) (QS.move rfl) ?_
                        first | refine Tr.hT 1 rfl (by kernel_rfl) (panicIn (panicThen panicBody)) (QS.idxN rfl rfl (by assumption) Try.underlying22 Try.sizeOf5 (by rfl) (by omega)) ?_ | refine Tr.hT 1 rfl (by kernel_rfl) (panicIn (panicThen panicBody)) (QS.idxRowN rfl rfl (by repeat (first | exact List.Mem.head _ | apply List.Mem.tail)) Try.underlying22 Try.sizeOf5 (by rfl) (by omega)) ?_ | refine Tr.hT 1 rfl (by kernel_rfl) (panicIn (panicThen panicBody)) (QS.idx rfl rfl (by assumption) Try.underlying22 Try.sizeOf5 (by rfl) (by omega)) ?_ | refine Tr.hT 1 rfl (by kernel_rfl) (panicIn (panicThen panicBody)) (QS.idxRow rfl rfl (by repeat (first | exact List.Mem.head _ | apply List.Mem.tail)) Try.underlying22 Try.sizeOf5 (by rfl) (by omega)) ?_
                        first | refine Tr.hT 2 rfl (by kernel_rfl) (panicIn (panicThen panicBody)) (QS.el1 rfl (by assumption) Try.isAgg5 (by omega) (by rfl)) ?_ | refine Tr.hT 2 rfl (by kernel_rfl) (panicIn (panicThen panicBody)) (QS.elR1 rfl (by repeat (first | exact List.Mem.head _ | apply List.Mem.tail)) Try.isAgg5 (by omega) (by rfl)) ?_
                        refine Tr.hT 3 rfl (by kernel_rfl) (panicIn (panicThen panicBody)) (QS.cvt8toI rfl Try.underlying5 Try.underlying3) ?_
                        refine Tr.hT 4 rfl (by kernel_rfl) (panicIn (panicThen panicBody)) (QS.fieldAddr (off := 2) (ft := 3) rfl Try.underlying27 rfl rfl Try.sizeOf3 (by decide)) ?_
                        refine Tr.hAll [5] (by kernel_rfl) (by simp) (fun iq hq => ?_)
                        obtain rfl := List.mem_singleton.1 hq
                        refine Tr.hOp rfl ?_
                        refine Tr.storeV (cs' := [_, _, _, _, _, _, _, _, _]) rfl rfl Try.sizeOf3 (by repeat (first | exact Put.here _ | apply Put.there)) rfl (by rfl) (by first | exact Nat.le_of_ble_eq_true rfl | simp) (by first | exact List.all_eq_true.1 rfl | (intro u hu; simp [Value.cells] at hu; simp_all [Value.oneCell'])) rfl ?_
                        refine Tr.hN ?_
                        refine Tr.hT 6 rfl (by kernel_rfl) (panicIn (panicThen panicBody)) (QS.fieldAddr (off := 6) (ft := 3) rfl Try.underlying27 rfl rfl Try.sizeOf3 (by decide)) ?_
                        refine Tr.hAll [7] (by kernel_rfl) (by simp) (fun iq hq => ?_)
                        obtain rfl := List.mem_singleton.1 hq
                        refine Tr.hOp rfl ?_
                        refine Tr.storeV (cs' := [_, _, _, _, _, _, _, _, _]) rfl rfl Try.sizeOf3 (by repeat (first | exact Put.here _ | apply Put.there)) rfl (by rfl) (by first | exact Nat.le_of_ble_eq_true rfl | simp) (by first | exact List.all_eq_true.1 rfl | (intro u hu; simp [Value.cells] at hu; simp_all [Value.oneCell'])) rfl ?_
                        refine Tr.hN ?_
                        refine Tr.hDone (by kernel_rfl) ?_
                        refine Tr.inN ?_
                        refine Tr.thenN ?_
                        apply Tr.joined ⟨addr, 0, 21, 0, 0, 0, (b.getD 1 default).toNat, 0, sz⟩
                        · exact rfl
                        · exact Front.nil
                        · exact SubX.dropN 36 (by kernel_rfl) rfl
                        · exact (by repeat' (first | exact Pick.nil _ | exact Del.here _ | apply Pick.cons | apply Del.there))
                        · exact (by unfold refBodyP kindP; (repeat (first | rw [if_pos (by omega)] | rw [if_neg (by omega)])) <;> rfl)
                      · try simp only [bs] at h12
                        refine Tr.seq ?_
                        refine Tr.region ?_
                        refine Tr.q (QS.move rfl) rfl ?_
                        refine Tr.q (QS.eql rfl rfl) rfl ?_
                        refine Tr.q (QS.assign rfl) rfl ?_
                        refine Tr.nil ?_
                        refine Tr.thenN ?_
                        refine Tr.cond rfl (fun h13 => ?_) (fun h13 => ?_)
                        · try simp only [bs] at h13
                          refine Tr.regionH ([cellE b2 (encIns.enc zeroIns) 27]) 13 rfl HLF.mixed ?_
                          refine Tr.hT 0 rfl (by kernel_rfl) (panicIn (panicThen panicBody)) (QS.move rfl) ?_
                          first | refine Tr.hT 1 rfl (by kernel_rfl) (panicIn (panicThen panicBody)) (QS.idxN rfl rfl (by assumption) Try.underlying22 Try.sizeOf5 (by rfl) (by omega)) ?_ | refine Tr.hT 1 rfl (by kernel_rfl) (panicIn (panicThen panicBody)) (QS.idxRowN rfl rfl (by repeat (first | exact List.Mem.head _ | apply List.Mem.tail)) Try.underlying22 Try.sizeOf5 (by rfl) (by omega)) ?_ | refine Tr.hT 1 rfl (by kernel_rfl) (panicIn (panicThen panicBody)) (QS.idx rfl rfl (by assumption) Try.underlying22 Try.sizeOf5 (by rfl) (by omega)) ?_ | refine Tr.hT 1 rfl (by kernel_rfl) (panicIn (panicThen panicBody)) (QS.idxRow rfl rfl (by repeat (first | exact List.Mem.head _ | apply List.Mem.tail)) Try.underlying22 Try.sizeOf5 (by rfl) (by omega)) ?_
                          first | refine Tr.hT 2 rfl (by kernel_rfl) (panicIn (panicThen panicBody)) (QS.el1 rfl (by assumption) Try.isAgg5 (by omega) (by rfl)) ?_ | refine Tr.hT 2 rfl (by kernel_rfl) (panicIn (panicThen panicBody)) (QS.elR1 rfl (by repeat (first | exact List.Mem.head _ | apply List.Mem.tail)) Try.isAgg5 (by omega) (by rfl)) ?_
                          refine Tr.hT 3 rfl (by kernel_rfl) (panicIn (panicThen panicBody)) (QS.cvt8toI rfl Try.underlying5 Try.underlying3) ?_
                          refine Tr.hT 4 rfl (by kernel_rfl) (panicIn (panicThen panicBody)) (QS.move rfl) ?_
                          refine Tr.hT 5 rfl (by kernel_rfl) (panicIn (panicThen panicBody)) (QS.slice (lv := some (_, _)) (hv := none) rfl (by assumption) rfl rfl Try.underlying22 Try.sizeOf5 (by rfl) (by simp only [loOf, hiOf]; omega) (by simp only [loOf, hiOf]; omega) (by simp only [loOf, hiOf]; omega)) ?_
                          refine Tr.hT 7 rfl (by kernel_rfl) (panicIn (panicThen panicBody)) (QS.fieldAddr (off := 2) (ft := 3) rfl Try.underlying27 rfl rfl Try.sizeOf3 (by decide)) ?_
                          refine Tr.hAll [6] (by kernel_rfl) (by simp) (fun iq hq => ?_)
                          obtain rfl := List.mem_singleton.1 hq
                          refine Tr.hOp rfl ?_
                          refine Tr.q (QS.call rfl Try.call57 (fun w hw => refLong_any ((b.take (b.length : Int).toNat).drop (2 : Int).toNat) _ w (hw.slF (Sl.resl hV' (by omega) (by omega))) (by simp; omega))) rfl ?_
                          refine Tr.hN ?_
                          refine Tr.hAll [8] (by kernel_rfl) (by simp) (fun iq hq => ?_)
                          obtain rfl := List.mem_singleton.1 hq
                          refine Tr.hOp rfl ?_
                          refine Tr.storeV (cs' := [_, _, _, _, _, _, _, _, _]) rfl rfl Try.sizeOf3 (by repeat (first | exact Put.here _ | apply Put.there)) rfl (by rfl) (by first | exact Nat.le_of_ble_eq_true rfl | simp) (by first | exact List.all_eq_true.1 rfl | (intro u hu; simp [Value.cells] at hu; simp_all [Value.oneCell'])) rfl ?_
                          refine Tr.hN ?_
                          refine Tr.hT 9 rfl (by kernel_rfl) (panicIn (panicThen panicBody)) (QS.fieldAddr (off := 6) (ft := 3) rfl Try.underlying27 rfl rfl Try.sizeOf3 (by decide)) ?_
                          refine Tr.hAll [10] (by kernel_rfl) (by simp) (fun iq hq => ?_)
                          obtain rfl := List.mem_singleton.1 hq
                          refine Tr.hOp rfl ?_
                          refine Tr.storeV (cs' := [_, _, _, _, _, _, _, _, _]) rfl rfl Try.sizeOf3 (by repeat (first | exact Put.here _ | apply Put.there)) rfl (by rfl) (by first | exact Nat.le_of_ble_eq_true rfl | simp) (by first | exact List.all_eq_true.1 rfl | (intro u hu; simp [Value.cells] at hu; simp_all [Value.oneCell'])) rfl ?_
                          refine Tr.hN ?_
                          refine Tr.hT 11 rfl (by kernel_rfl) (panicIn (panicThen panicBody)) (QS.fieldAddr (off := 1) (ft := 23) rfl Try.underlying27 rfl rfl Try.sizeOf23 (by decide)) ?_
                          refine Tr.hAll [12] (by kernel_rfl) (by simp) (fun iq hq => ?_)
                          obtain rfl := List.mem_singleton.1 hq
                          refine Tr.hOp rfl ?_
                          refine Tr.storeV (cs' := [_, _, _, _, _, _, _, _, _]) rfl rfl Try.sizeOf23 (by repeat (first | exact Put.here _ | apply Put.there)) rfl (by rfl) (by first | exact Nat.le_of_ble_eq_true rfl | simp) (by first | exact List.all_eq_true.1 rfl | (intro u hu; simp [Value.cells] at hu; simp_all [Value.oneCell'])) rfl ?_
                          refine Tr.hN ?_
                          refine Tr.hDone (by kernel_rfl) ?_
                          refine Tr.inN ?_
                          refine Tr.thenN ?_
                          rw [show longP ((b.take (b.length : Int).toNat).drop (2 : Int).toNat) 0 = longP b 2 from long_drop (k := 2) (by omega)]
                          apply Tr.joined ⟨addr, longP b 2, 22, 0, 0, 0, (b.getD 1 default).toNat, 0, sz⟩
                          · exact rfl
                          · exact Front.nil
                          · exact SubX.dropN 43 (by kernel_rfl) rfl
                          · exact (by repeat' (first | exact Pick.nil _ | exact Del.here _ | apply Pick.cons | apply Del.there))
                          · exact (by unfold refBodyP kindP; (repeat (first | rw [if_pos (by omega)] | rw [if_neg (by omega)])) <;> rfl)
                        · try simp only [bs] at h13
                          refine Tr.seq ?_
                          refine Tr.region ?_
                          refine Tr.q (QS.move rfl) rfl ?_
                          refine Tr.q (QS.leq rfl rfl) rfl ?_
                          refine Tr.q (QS.assign rfl) rfl ?_
                          refine Tr.nil ?_
                          refine Tr.thenN ?_
                          refine Tr.cond rfl (fun h14 => ?_) (fun h14 => ?_)
                          · try simp only [bs] at h14
                            refine Tr.regionH ([cellE b2 (encIns.enc zeroIns) 27]) 12 rfl HLF.mixed ?_
                            refine Tr.hT 0 rfl (by kernel_rfl) (panicIn (panicThen panicBody)) (QS.move rfl) ?_
                            first | refine Tr.hT 1 rfl (by kernel_rfl) (panicIn (panicThen panicBody)) (QS.subI rfl rfl (by omega)) ?_ | refine Tr.hT 1 rfl (by kernel_rfl) (panicIn (panicThen panicBody)) (QS.sub rfl rfl) ?_
                            refine Tr.hT 2 rfl (by kernel_rfl) (panicIn (panicThen panicBody)) (QS.move rfl) ?_
                            first | refine Tr.hT 3 rfl (by kernel_rfl) (panicIn (panicThen panicBody)) (QS.idxN rfl rfl (by assumption) Try.underlying22 Try.sizeOf5 (by rfl) (by omega)) ?_ | refine Tr.hT 3 rfl (by kernel_rfl) (panicIn (panicThen panicBody)) (QS.idxRowN rfl rfl (by repeat (first | exact List.Mem.head _ | apply List.Mem.tail)) Try.underlying22 Try.sizeOf5 (by rfl) (by omega)) ?_ | refine Tr.hT 3 rfl (by kernel_rfl) (panicIn (panicThen panicBody)) (QS.idx rfl rfl (by assumption) Try.underlying22 Try.sizeOf5 (by rfl) (by omega)) ?_ | refine Tr.hT 3 rfl (by kernel_rfl) (panicIn (panicThen panicBody)) (QS.idxRow rfl rfl (by repeat (first | exact List.Mem.head _ | apply List.Mem.tail)) Try.underlying22 Try.sizeOf5 (by rfl) (by omega)) ?_
                            first | refine Tr.hT 4 rfl (by kernel_rfl) (panicIn (panicThen panicBody)) (QS.el1 rfl (by assumption) Try.isAgg5 (by omega) (by rfl)) ?_ | refine Tr.hT 4 rfl (by kernel_rfl) (panicIn (panicThen panicBody)) (QS.elR1 rfl (by repeat (first | exact List.Mem.head _ | apply List.Mem.tail)) Try.isAgg5 (by omega) (by rfl)) ?_
                            refine Tr.hT 5 rfl (by kernel_rfl) (panicIn (panicThen panicBody)) (QS.cvt8toI rfl Try.underlying5 Try.underlying3) ?_
                            refine Tr.hT 6 rfl (by kernel_rfl) (panicIn (panicThen panicBody)) (QS.fieldAddr (off := 2) (ft := 3) rfl Try.underlying27 rfl rfl Try.sizeOf3 (by decide)) ?_
                            refine Tr.hAll [7] (by kernel_rfl) (by simp) (fun iq hq => ?_)
                            obtain rfl := List.mem_singleton.1 hq
                            refine Tr.hOp rfl ?_
                            refine Tr.storeV (cs' := [_, _, _, _, _, _, _, _, _]) rfl rfl Try.sizeOf3 (by repeat (first | exact Put.here _ | apply Put.there)) rfl (by rfl) (by first | exact Nat.le_of_ble_eq_true rfl | simp) (by first | exact List.all_eq_true.1 rfl | (intro u hu; simp [Value.cells] at hu; simp_all [Value.oneCell'])) rfl ?_
                            refine Tr.hN ?_
                            refine Tr.hT 8 rfl (by kernel_rfl) (panicIn (panicThen panicBody)) (QS.fieldAddr (off := 5) (ft := 3) rfl Try.underlying27 rfl rfl Try.sizeOf3 (by decide)) ?_
                            refine Tr.hAll [9] (by kernel_rfl) (by simp) (fun iq hq => ?_)
                            obtain rfl := List.mem_singleton.1 hq
                            refine Tr.hOp rfl ?_
                            refine Tr.storeV (cs' := [_, _, _, _, _, _, _, _, _]) rfl rfl Try.sizeOf3 (by repeat (first | exact Put.here _ | apply Put.there)) rfl (by rfl) (by first | exact Nat.le_of_ble_eq_true rfl | simp) (by first | exact List.all_eq_true.1 rfl | (intro u hu; simp [Value.cells] at hu; simp_all [Value.oneCell'])) rfl ?_
                            refine Tr.hN ?_
                            refine Tr.hT 10 rfl (by kernel_rfl) (panicIn (panicThen panicBody)) (QS.fieldAddr (off := 6) (ft := 3) rfl Try.underlying27 rfl rfl Try.sizeOf3 (by decide)) ?_
                            refine Tr.hAll [11] (by kernel_rfl) (by simp) (fun iq hq => ?_)
                            obtain rfl := List.mem_singleton.1 hq
                            refine Tr.hOp rfl ?_
                            refine Tr.storeV (cs' := [_, _, _, _, _, _, _, _, _]) rfl rfl Try.sizeOf3 (by repeat (first | exact Put.here _ | apply Put.there)) rfl (by rfl) (by first | exact Nat.le_of_ble_eq_true rfl | simp) (by first | exact List.all_eq_true.1 rfl | (intro u hu; simp [Value.cells] at hu; simp_all [Value.oneCell'])) rfl ?_
                            refine Tr.hN ?_
                            refine Tr.hDone (by kernel_rfl) ?_
                            refine Tr.inN ?_
                            refine Tr.thenN ?_
                            apply Tr.joined ⟨addr, 0, 25, 0, 0, c - 144, (b.getD 1 default).toNat, 0, sz⟩
                            · exact rfl
                            · exact Front.nil
                            · exact SubX.dropN 45 (by kernel_rfl) rfl
                            · exact (by repeat' (first | exact Pick.nil _ | exact Del.here _ | apply Pick.cons | apply Del.there))
                            · exact (by unfold refBodyP kindP; (repeat (first | rw [if_pos (by omega)] | rw [if_neg (by omega)])) <;> rfl)
                          · try simp only [bs] at h14
                            refine Tr.seq ?_
                            refine Tr.region ?_
                            refine Tr.q (QS.move rfl) rfl ?_
                            refine Tr.q (QS.eql rfl rfl) rfl ?_
                            refine Tr.q (QS.assign rfl) rfl ?_
                            refine Tr.nil ?_
                            refine Tr.thenN ?_
                            refine Tr.cond rfl (fun h15 => ?_) (fun h15 => ?_)
                            · try simp only [bs] at h15
                              refine Tr.regionH ([cellE b2 (encIns.enc zeroIns) 27]) 8 rfl HLF.mixed ?_
                              refine Tr.hT 0 rfl (by kernel_rfl) (panicIn (panicThen panicBody)) (QS.move rfl) ?_
                              first | refine Tr.hT 1 rfl (by kernel_rfl) (panicIn (panicThen panicBody)) (QS.idxN rfl rfl (by assumption) Try.underlying22 Try.sizeOf5 (by rfl) (by omega)) ?_ | refine Tr.hT 1 rfl (by kernel_rfl) (panicIn (panicThen panicBody)) (QS.idxRowN rfl rfl (by repeat (first | exact List.Mem.head _ | apply List.Mem.tail)) Try.underlying22 Try.sizeOf5 (by rfl) (by omega)) ?_ | refine Tr.hT 1 rfl (by kernel_rfl) (panicIn (panicThen panicBody)) (QS.idx rfl rfl (by assumption) Try.underlying22 Try.sizeOf5 (by rfl) (by omega)) ?_ | refine Tr.hT 1 rfl (by kernel_rfl) (panicIn (panicThen panicBody)) (QS.idxRow rfl rfl (by repeat (first | exact List.Mem.head _ | apply List.Mem.tail)) Try.underlying22 Try.sizeOf5 (by rfl) (by omega)) ?_
                              first | refine Tr.hT 2 rfl (by kernel_rfl) (panicIn (panicThen panicBody)) (QS.el1 rfl (by assumption) Try.isAgg5 (by omega) (by rfl)) ?_ | refine Tr.hT 2 rfl (by kernel_rfl) (panicIn (panicThen panicBody)) (QS.elR1 rfl (by repeat (first | exact List.Mem.head _ | apply List.Mem.tail)) Try.isAgg5 (by omega) (by rfl)) ?_
                              refine Tr.hT 3 rfl (by kernel_rfl) (panicIn (panicThen panicBody)) (QS.cvt8toI rfl Try.underlying5 Try.underlying3) ?_
                              refine Tr.hT 4 rfl (by kernel_rfl) (panicIn (panicThen panicBody)) (QS.fieldAddr (off := 2) (ft := 3) rfl Try.underlying27 rfl rfl Try.sizeOf3 (by decide)) ?_
                              refine Tr.hAll [5] (by kernel_rfl) (by simp) (fun iq hq => ?_)
                              obtain rfl := List.mem_singleton.1 hq
                              refine Tr.hOp rfl ?_
                              refine Tr.storeV (cs' := [_, _, _, _, _, _, _, _, _]) rfl rfl Try.sizeOf3 (by repeat (first | exact Put.here _ | apply Put.there)) rfl (by rfl) (by first | exact Nat.le_of_ble_eq_true rfl | simp) (by first | exact List.all_eq_true.1 rfl | (intro u hu; simp [Value.cells] at hu; simp_all [Value.oneCell'])) rfl ?_
                              refine Tr.hN ?_
                              refine Tr.hT 6 rfl (by kernel_rfl) (panicIn (panicThen panicBody)) (QS.fieldAddr (off := 6) (ft := 3) rfl Try.underlying27 rfl rfl Try.sizeOf3 (by decide)) ?_
                              refine Tr.hAll [7] (by kernel_rfl) (by simp) (fun iq hq => ?_)
                              obtain rfl := List.mem_singleton.1 hq
                              refine Tr.hOp rfl ?_
                              refine Tr.storeV (cs' := [_, _, _, _, _, _, _, _, _]) rfl rfl Try.sizeOf3 (by repeat (first | exact Put.here _ | apply Put.there)) rfl (by rfl) (by first | exact Nat.le_of_ble_eq_true rfl | simp) (by first | exact List.all_eq_true.1 rfl | (intro u hu; simp [Value.cells] at hu; simp_all [Value.oneCell'])) rfl ?_
                              refine Tr.hN ?_
                              refine Tr.hDone (by kernel_rfl) ?_
                              refine Tr.inN ?_
                              refine Tr.thenN ?_
                              apply Tr.joined ⟨addr, 0, 26, 0, 0, 0, (b.getD 1 default).toNat, 0, sz⟩
                              · exact rfl
                              · exact Front.nil
                              · exact SubX.dropN 45 (by kernel_rfl) rfl
                              · exact (by repeat' (first | exact Pick.nil _ | exact Del.here _ | apply Pick.cons | apply Del.there))
                              · exact (by unfold refBodyP kindP; (repeat (first | rw [if_pos (by omega)] | rw [if_neg (by omega)])) <;> rfl)
                            · try simp only [bs] at h15
                              refine Tr.regionH ([cellE b2 (encIns.enc zeroIns) 27]) 8 rfl HLF.mixed ?_
                              refine Tr.hT 0 rfl (by kernel_rfl) (panicIn (panicThen panicBody)) (QS.move rfl) ?_
                              first | refine Tr.hT 1 rfl (by kernel_rfl) (panicIn (panicThen panicBody)) (QS.idxN rfl rfl (by assumption) Try.underlying22 Try.sizeOf5 (by rfl) (by omega)) ?_ | refine Tr.hT 1 rfl (by kernel_rfl) (panicIn (panicThen panicBody)) (QS.idxRowN rfl rfl (by repeat (first | exact List.Mem.head _ | apply List.Mem.tail)) Try.underlying22 Try.sizeOf5 (by rfl) (by omega)) ?_ | refine Tr.hT 1 rfl (by kernel_rfl) (panicIn (panicThen panicBody)) (QS.idx rfl rfl (by assumption) Try.underlying22 Try.sizeOf5 (by rfl) (by omega)) ?_ | refine Tr.hT 1 rfl (by kernel_rfl) (panicIn (panicThen panicBody)) (QS.idxRow rfl rfl (by repeat (first | exact List.Mem.head _ | apply List.Mem.tail)) Try.underlying22 Try.sizeOf5 (by rfl) (by omega)) ?_
                              first | refine Tr.hT 2 rfl (by kernel_rfl) (panicIn (panicThen panicBody)) (QS.el1 rfl (by assumption) Try.isAgg5 (by omega) (by rfl)) ?_ | refine Tr.hT 2 rfl (by kernel_rfl) (panicIn (panicThen panicBody)) (QS.elR1 rfl (by repeat (first | exact List.Mem.head _ | apply List.Mem.tail)) Try.isAgg5 (by omega) (by rfl)) ?_
                              refine Tr.hT 3 rfl (by kernel_rfl) (panicIn (panicThen panicBody)) (QS.cvt8toI rfl Try.underlying5 Try.underlying3) ?_
                              refine Tr.hT 4 rfl (by kernel_rfl) (panicIn (panicThen panicBody)) (QS.fieldAddr (off := 2) (ft := 3) rfl Try.underlying27 rfl rfl Try.sizeOf3 (by decide)) ?_
                              refine Tr.hAll [5] (by kernel_rfl) (by simp) (fun iq hq => ?_)
                              obtain rfl := List.mem_singleton.1 hq
                              refine Tr.hOp rfl ?_
                              refine Tr.storeV (cs' := [_, _, _, _, _, _, _, _, _]) rfl rfl Try.sizeOf3 (by repeat (first | exact Put.here _ | apply Put.there)) rfl (by rfl) (by first | exact Nat.le_of_ble_eq_true rfl | simp) (by first | exact List.all_eq_true.1 rfl | (intro u hu; simp [Value.cells] at hu; simp_all [Value.oneCell'])) rfl ?_
                              refine Tr.hN ?_
                              refine Tr.hT 6 rfl (by kernel_rfl) (panicIn (panicThen panicBody)) (QS.fieldAddr (off := 6) (ft := 3) rfl Try.underlying27 rfl rfl Try.sizeOf3 (by decide)) ?_
                              refine Tr.hAll [7] (by kernel_rfl) (by simp) (fun iq hq => ?_)
                              obtain rfl := List.mem_singleton.1 hq
                              refine Tr.hOp rfl ?_
                              refine Tr.storeV (cs' := [_, _, _, _, _, _, _, _, _]) rfl rfl Try.sizeOf3 (by repeat (first | exact Put.here _ | apply Put.there)) rfl (by rfl) (by first | exact Nat.le_of_ble_eq_true rfl | simp) (by first | exact List.all_eq_true.1 rfl | (intro u hu; simp [Value.cells] at hu; simp_all [Value.oneCell'])) rfl ?_
                              refine Tr.hN ?_
                              refine Tr.hDone (by kernel_rfl) ?_
                              refine Tr.inN ?_
                              refine Tr.thenN ?_
                              apply Tr.joined ⟨addr, 0, 27, 0, 0, 0, (b.getD 1 default).toNat, 0, sz⟩
                              · exact rfl
                              · exact Front.nil
                              · exact SubX.dropN 45 (by kernel_rfl) rfl
                              · exact (by repeat' (first | exact Pick.nil _ | exact Del.here _ | apply Pick.cons | apply Del.there))
                              · exact (by unfold refBodyP kindP; (repeat (first | rw [if_pos (by omega)] | rw [if_neg (by omega)])) <;> rfl)
  · skip
    replace hi : k = refBodyP c b ⟨addr, 0, 0, 0, 0, 0, 0, 0, sz⟩ := hi
    change Tr _ _ [cellE b1 (encIns.enc k) 27, cellE b2 (encIns.enc zeroIns) 27] ([] ++ _) _
    refine Tr.seq ?_
    refine Tr.region ?_
    refine Tr.q (QS.lW rfl Try.isAgg27 Try.sizeOf27) rfl ?_
    refine Tr.storeW rfl rfl Try.sizeOf27 (by repeat (first | exact Put.here _ | apply Put.there)) (by rfl) (by rfl) (by first | exact List.all_eq_true.1 rfl | exact Enc.one _ _ | exact Enc.one encIns _) rfl ?_
    refine Tr.nil ?_
    refine Tr.thenN ?_
    refine Tr.ret ?_
    refine Tr.retC1 Try.results58 rfl (by repeat (first | exact List.Mem.head _ | apply List.Mem.tail)) Try.isAgg27 Try.sizeOf27 (by rfl) (fun w' hw => ?_)
    exact ⟨by rw [hi]; rfl, hw.below (Bg.le.refl _)⟩

set_option maxRecDepth 100000 in
set_option maxHeartbeats 2000000 in
theorem fields_any (b : List UInt8) (V : Value) (addr : UInt32) (sz : Int) (w : World) (hV : Sl (hp w) encU8 b V) (hb : (b.length : Int) = sizedP (b.getD 0 default).toNat) (hz : sizedP (b.getD 0 default).toNat ≠ 0) :
    Calls Try.prog 39 #[V, .agg (encIns.enc ⟨addr, 0, 0, 0, 0, 0, 0, 0, sz⟩).toArray] w (fun e w' => e = .returned (.agg (encIns.enc (refBodyP (b.getD 0 default).toNat b ⟨addr, 0, 0, 0, 0, 0, 0, 0, sz⟩)).toArray) ∧ Ext w w') := by
  have hV' : Sl (Bg.of w).blk encU8 b V := hV
  have hlen := hV.len_le
  have hsp := sizedP_spec (c := ((b.getD 0 default).toNat : Nat))
  have hsz := sizedP_ne hz
  have hc0 := (b.getD 0 default).toNat_lt
  generalize hcc : (((b.getD 0 default).toNat : Nat) : Int) = c at *
  refine enter Try.func39 rfl Try.ntmps39 rfl ?_
  refine Tr.seq ?_
  refine Tr.region ?_
  refine Tr.box rfl rfl rfl (fun b1 => ?_)
  refine Tr.alloc Try.zeroValue27 rfl rfl (fun b2 => ?_)
  refine Tr.nil ?_
  refine Tr.thenN ?_
  refine Tr.seq ?_
  refine Tr.region ?_
  refine Tr.q (QS.move rfl) rfl ?_
  first | refine Tr.q (QS.idxN rfl rfl (by assumption) Try.underlying22 Try.sizeOf5 (by rfl) (by omega)) rfl ?_ | refine Tr.q (QS.idxRowN rfl rfl (by repeat (first | exact List.Mem.head _ | apply List.Mem.tail)) Try.underlying22 Try.sizeOf5 (by rfl) (by omega)) rfl ?_ | refine Tr.q (QS.idx rfl rfl (by assumption) Try.underlying22 Try.sizeOf5 (by rfl) (by omega)) rfl ?_ | refine Tr.q (QS.idxRow rfl rfl (by repeat (first | exact List.Mem.head _ | apply List.Mem.tail)) Try.underlying22 Try.sizeOf5 (by rfl) (by omega)) rfl ?_
  first | refine Tr.q (QS.el1 rfl (by assumption) Try.isAgg5 (by omega) (by rfl)) rfl ?_ | refine Tr.q (QS.elR1 rfl (by repeat (first | exact List.Mem.head _ | apply List.Mem.tail)) Try.isAgg5 (by omega) (by rfl)) rfl ?_
  refine Tr.q (QS.cvt8toI rfl Try.underlying5 Try.underlying3) rfl ?_
  rw [show Int.toNat 0 = 0 from rfl, hcc]
  refine Tr.q (QS.assign rfl) rfl ?_
  refine Tr.nil ?_
  refine Tr.thenN ?_
  refine Tr.seqJ (ι := Ins) (fun k => k = refBodyP c b ⟨addr, 0, 0, 0, 0, 0, 0, 0, sz⟩) (fun _ => Bg.of w) (fun k => [cellE b1 (encIns.enc k) 27, cellE b2 (encIns.enc zeroIns) 27]) (fun k => []) ?_ (fun k hi => ?_)
  · skip
    refine Tr.block ?_
    refine Tr.seq ?_
    refine Tr.region ?_
    refine Tr.q (QS.move rfl) rfl ?_
    refine Tr.q (QS.geq rfl rfl) rfl ?_
    refine Tr.q (QS.move rfl) rfl ?_
    apply Tr.andP
    · exact (rfl : _ = (3, 17, 20))
    · exact rfl
    · intro hT3; have hT3' := hT3
      try simp only [bs] at hT3'
      refine Tr.gq rfl rfl hT3 (QS.move rfl) rfl ?_
      refine Tr.gq rfl rfl hT3 (QS.leq rfl rfl) rfl ?_
      refine Tr.q (QS.pickT rfl hT3 rfl) rfl ?_
      refine Tr.nil (Tr.thenN ?_)
      exact Tr.endX (Sub.cons rfl (Sub.dropN 3 (by kernel_rfl) rfl))
    · intro hF3
      refine Tr.gskip rfl rfl hF3 rfl ?_
      refine Tr.gskip rfl rfl hF3 rfl ?_
      refine Tr.q (QS.pickF rfl hF3 rfl) rfl ?_
      refine Tr.nil (Tr.thenN ?_)
      exact Tr.endX (Sub.cons rfl (Sub.dropN 3 (by kernel_rfl) rfl))
    refine Tr.q (QS.assign rfl) rfl ?_
    refine Tr.nil ?_
    refine Tr.thenN ?_
    refine Tr.cond rfl (fun h4 => ?_) (fun h4 => ?_)
    · try simp only [bs] at h4
      refine Tr.regionH ([cellE b2 (encIns.enc zeroIns) 27]) 21 rfl HLF.mixed ?_
      refine Tr.hT 0 rfl (by kernel_rfl) (panicIn (panicThen panicBody)) (QS.move rfl) ?_
      first | refine Tr.hT 1 rfl (by kernel_rfl) (panicIn (panicThen panicBody)) (QS.addI rfl rfl (by omega)) ?_ | refine Tr.hT 1 rfl (by kernel_rfl) (panicIn (panicThen panicBody)) (QS.add rfl rfl) ?_
      first | refine Tr.hT 2 rfl (by kernel_rfl) (panicIn (panicThen panicBody)) (QS.subI rfl rfl (by omega)) ?_ | refine Tr.hT 2 rfl (by kernel_rfl) (panicIn (panicThen panicBody)) (QS.sub rfl rfl) ?_
      refine Tr.hT 3 rfl (by kernel_rfl) (panicIn (panicThen panicBody)) (QS.move rfl) ?_
      first | refine Tr.hT 4 rfl (by kernel_rfl) (panicIn (panicThen panicBody)) (QS.idxN rfl rfl (by assumption) Try.underlying22 Try.sizeOf5 (by rfl) (by omega)) ?_ | refine Tr.hT 4 rfl (by kernel_rfl) (panicIn (panicThen panicBody)) (QS.idxRowN rfl rfl (by repeat (first | exact List.Mem.head _ | apply List.Mem.tail)) Try.underlying22 Try.sizeOf5 (by rfl) (by omega)) ?_ | refine Tr.hT 4 rfl (by kernel_rfl) (panicIn (panicThen panicBody)) (QS.idx rfl rfl (by assumption) Try.underlying22 Try.sizeOf5 (by rfl) (by omega)) ?_ | refine Tr.hT 4 rfl (by kernel_rfl) (panicIn (panicThen panicBody)) (QS.idxRow rfl rfl (by repeat (first | exact List.Mem.head _ | apply List.Mem.tail)) Try.underlying22 Try.sizeOf5 (by rfl) (by omega)) ?_
      first | refine Tr.hT 5 rfl (by kernel_rfl) (panicIn (panicThen panicBody)) (QS.el1 rfl (by assumption) Try.isAgg5 (by omega) (by rfl)) ?_ | refine Tr.hT 5 rfl (by kernel_rfl) (panicIn (panicThen panicBody)) (QS.elR1 rfl (by repeat (first | exact List.Mem.head _ | apply List.Mem.tail)) Try.isAgg5 (by omega) (by rfl)) ?_
      refine Tr.hT 6 rfl (by kernel_rfl) (panicIn (panicThen panicBody)) (QS.quo8 (n := 16) rfl rfl (by first | decide | assumption)) ?_
      refine Tr.hT 7 rfl (by kernel_rfl) (panicIn (panicThen panicBody)) (QS.cvt8toI rfl Try.underlying5 Try.underlying3) ?_
      refine Tr.hT 8 rfl (by kernel_rfl) (panicIn (panicThen panicBody)) (QS.move rfl) ?_
      first | refine Tr.hT 9 rfl (by kernel_rfl) (panicIn (panicThen panicBody)) (QS.idxN rfl rfl (by assumption) Try.underlying22 Try.sizeOf5 (by rfl) (by omega)) ?_ | refine Tr.hT 9 rfl (by kernel_rfl) (panicIn (panicThen panicBody)) (QS.idxRowN rfl rfl (by repeat (first | exact List.Mem.head _ | apply List.Mem.tail)) Try.underlying22 Try.sizeOf5 (by rfl) (by omega)) ?_ | refine Tr.hT 9 rfl (by kernel_rfl) (panicIn (panicThen panicBody)) (QS.idx rfl rfl (by assumption) Try.underlying22 Try.sizeOf5 (by rfl) (by omega)) ?_ | refine Tr.hT 9 rfl (by kernel_rfl) (panicIn (panicThen panicBody)) (QS.idxRow rfl rfl (by repeat (first | exact List.Mem.head _ | apply List.Mem.tail)) Try.underlying22 Try.sizeOf5 (by rfl) (by omega)) ?_
      first | refine Tr.hT 10 rfl (by kernel_rfl) (panicIn (panicThen panicBody)) (QS.el1 rfl (by assumption) Try.isAgg5 (by omega) (by rfl)) ?_ | refine Tr.hT 10 rfl (by kernel_rfl) (panicIn (panicThen panicBody)) (QS.elR1 rfl (by repeat (first | exact List.Mem.head _ | apply List.Mem.tail)) Try.isAgg5 (by omega) (by rfl)) ?_
      refine Tr.hT 11 rfl (by kernel_rfl) (panicIn (panicThen panicBody)) (QS.rem8 (n := 16) rfl rfl (by first | decide | assumption)) ?_
      refine Tr.hT 12 rfl (by kernel_rfl) (panicIn (panicThen panicBody)) (QS.cvt8toI rfl Try.underlying5 Try.underlying3) ?_
      refine Tr.hT 13 rfl (by kernel_rfl) (panicIn (panicThen panicBody)) (QS.fieldAddr (off := 2) (ft := 3) rfl Try.underlying27 rfl rfl Try.sizeOf3 (by decide)) ?_
      refine Tr.hAll [14] (by kernel_rfl) (by simp) (fun iq hq => ?_)
      obtain rfl := List.mem_singleton.1 hq
      refine Tr.hOp rfl ?_
      refine Tr.storeV (cs' := [_, _, _, _, _, _, _, _, _]) rfl rfl Try.sizeOf3 (by repeat (first | exact Put.here _ | apply Put.there)) rfl (by rfl) (by first | exact Nat.le_of_ble_eq_true rfl | simp) (by first | exact List.all_eq_true.1 rfl | (intro u hu; simp [Value.cells] at hu; simp_all [Value.oneCell'])) rfl ?_
      refine Tr.hN ?_
      refine Tr.hT 15 rfl (by kernel_rfl) (panicIn (panicThen panicBody)) (QS.fieldAddr (off := 3) (ft := 3) rfl Try.underlying27 rfl rfl Try.sizeOf3 (by decide)) ?_
      refine Tr.hAll [16] (by kernel_rfl) (by simp) (fun iq hq => ?_)
      obtain rfl := List.mem_singleton.1 hq
      refine Tr.hOp rfl ?_
      refine Tr.storeV (cs' := [_, _, _, _, _, _, _, _, _]) rfl rfl Try.sizeOf3 (by repeat (first | exact Put.here _ | apply Put.there)) rfl (by rfl) (by first | exact Nat.le_of_ble_eq_true rfl | simp) (by first | exact List.all_eq_true.1 rfl | (intro u hu; simp [Value.cells] at hu; simp_all [Value.oneCell'])) rfl ?_
      refine Tr.hN ?_
      refine Tr.hT 17 rfl (by kernel_rfl) (panicIn (panicThen panicBody)) (QS.fieldAddr (off := 6) (ft := 3) rfl Try.underlying27 rfl rfl Try.sizeOf3 (by decide)) ?_
      refine Tr.hAll [18] (by kernel_rfl) (by simp) (fun iq hq => ?_)
      obtain rfl := List.mem_singleton.1 hq
      refine Tr.hOp rfl ?_
      refine Tr.storeV (cs' := [_, _, _, _, _, _, _, _, _]) rfl rfl Try.sizeOf3 (by repeat (first | exact Put.here _ | apply Put.there)) rfl (by rfl) (by first | exact Nat.le_of_ble_eq_true rfl | simp) (by first | exact List.all_eq_true.1 rfl | (intro u hu; simp [Value.cells] at hu; simp_all [Value.oneCell'])) rfl ?_
      refine Tr.hN ?_
      refine Tr.hT 19 rfl (by kernel_rfl) (panicIn (panicThen panicBody)) (QS.fieldAddr (off := 7) (ft := 3) rfl Try.underlying27 rfl rfl Try.sizeOf3 (by decide)) ?_
      refine Tr.hAll [20] (by kernel_rfl) (by simp) (fun iq hq => ?_)
      obtain rfl := List.mem_singleton.1 hq
      refine Tr.hOp rfl ?_
      refine Tr.storeV (cs' := [_, _, _, _, _, _, _, _, _]) rfl rfl Try.sizeOf3 (by repeat (first | exact Put.here _ | apply Put.there)) rfl (by rfl) (by first | exact Nat.le_of_ble_eq_true rfl | simp) (by first | exact List.all_eq_true.1 rfl | (intro u hu; simp [Value.cells] at hu; simp_all [Value.oneCell'])) rfl ?_
      refine Tr.hN ?_
      refine Tr.hDone (by kernel_rfl) ?_
      refine Tr.inN ?_
      refine Tr.thenN ?_
      apply Tr.joined ⟨addr, 0, 5 + c - 32, 0, 0, 0, ((b.getD 1 default) / 16).toNat, ((b.getD 1 default) % 16).toNat, sz⟩
      · exact rfl
      · exact Front.nil
      · exact SubX.dropN 22 (by kernel_rfl) rfl
      · exact (by repeat' (first | exact Pick.nil _ | exact Del.here _ | apply Pick.cons | apply Del.there))
      · exact (by unfold refBodyP kindP; (repeat (first | rw [if_pos (by omega)] | rw [if_neg (by omega)])) <;> rfl)
    · try simp only [bs] at h4
      refine Tr.seq ?_
      refine Tr.region ?_
      refine Tr.q (QS.move rfl) rfl ?_
      refine Tr.q (QS.geq rfl rfl) rfl ?_
      refine Tr.q (QS.move rfl) rfl ?_
      apply Tr.andP
      · exact (rfl : _ = (3, 41, 44))
      · exact rfl
      · intro hT5; have hT5' := hT5
        try simp only [bs] at hT5'
        refine Tr.gq rfl rfl hT5 (QS.move rfl) rfl ?_
        refine Tr.gq rfl rfl hT5 (QS.leq rfl rfl) rfl ?_
        refine Tr.q (QS.pickT rfl hT5 rfl) rfl ?_
        refine Tr.nil (Tr.thenN ?_)
        exact Tr.endX (Sub.cons rfl (Sub.dropN 3 (by kernel_rfl) rfl))
      · intro hF5
        refine Tr.gskip rfl rfl hF5 rfl ?_
        refine Tr.gskip rfl rfl hF5 rfl ?_
        refine Tr.q (QS.pickF rfl hF5 rfl) rfl ?_
        refine Tr.nil (Tr.thenN ?_)
        exact Tr.endX (Sub.cons rfl (Sub.dropN 3 (by kernel_rfl) rfl))
      refine Tr.q (QS.assign rfl) rfl ?_
      refine Tr.nil ?_
      refine Tr.thenN ?_
      refine Tr.cond rfl (fun h6 => ?_) (fun h6 => ?_)
      · try simp only [bs] at h6
        refine Tr.regionH ([cellE b2 (encIns.enc zeroIns) 27]) 19 rfl HLF.mixed ?_
        refine Tr.hT 0 rfl (by kernel_rfl) (panicIn (panicThen panicBody)) (QS.move rfl) ?_
        first | refine Tr.hT 1 rfl (by kernel_rfl) (panicIn (panicThen panicBody)) (QS.addI rfl rfl (by omega)) ?_ | refine Tr.hT 1 rfl (by kernel_rfl) (panicIn (panicThen panicBody)) (QS.add rfl rfl) ?_
        first | refine Tr.hT 2 rfl (by kernel_rfl) (panicIn (panicThen panicBody)) (QS.subI rfl rfl (by omega)) ?_ | refine Tr.hT 2 rfl (by kernel_rfl) (panicIn (panicThen panicBody)) (QS.sub rfl rfl) ?_
        refine Tr.hT 3 rfl (by kernel_rfl) (panicIn (panicThen panicBody)) (QS.move rfl) ?_
        first | refine Tr.hT 4 rfl (by kernel_rfl) (panicIn (panicThen panicBody)) (QS.idxN rfl rfl (by assumption) Try.underlying22 Try.sizeOf5 (by rfl) (by omega)) ?_ | refine Tr.hT 4 rfl (by kernel_rfl) (panicIn (panicThen panicBody)) (QS.idxRowN rfl rfl (by repeat (first | exact List.Mem.head _ | apply List.Mem.tail)) Try.underlying22 Try.sizeOf5 (by rfl) (by omega)) ?_ | refine Tr.hT 4 rfl (by kernel_rfl) (panicIn (panicThen panicBody)) (QS.idx rfl rfl (by assumption) Try.underlying22 Try.sizeOf5 (by rfl) (by omega)) ?_ | refine Tr.hT 4 rfl (by kernel_rfl) (panicIn (panicThen panicBody)) (QS.idxRow rfl rfl (by repeat (first | exact List.Mem.head _ | apply List.Mem.tail)) Try.underlying22 Try.sizeOf5 (by rfl) (by omega)) ?_
        first | refine Tr.hT 5 rfl (by kernel_rfl) (panicIn (panicThen panicBody)) (QS.el1 rfl (by assumption) Try.isAgg5 (by omega) (by rfl)) ?_ | refine Tr.hT 5 rfl (by kernel_rfl) (panicIn (panicThen panicBody)) (QS.elR1 rfl (by repeat (first | exact List.Mem.head _ | apply List.Mem.tail)) Try.isAgg5 (by omega) (by rfl)) ?_
        refine Tr.hT 6 rfl (by kernel_rfl) (panicIn (panicThen panicBody)) (QS.cvt8toI rfl Try.underlying5 Try.underlying3) ?_
        refine Tr.hT 7 rfl (by kernel_rfl) (panicIn (panicThen panicBody)) (QS.move rfl) ?_
        first | refine Tr.hT 8 rfl (by kernel_rfl) (panicIn (panicThen panicBody)) (QS.idxN rfl rfl (by assumption) Try.underlying22 Try.sizeOf5 (by rfl) (by omega)) ?_ | refine Tr.hT 8 rfl (by kernel_rfl) (panicIn (panicThen panicBody)) (QS.idxRowN rfl rfl (by repeat (first | exact List.Mem.head _ | apply List.Mem.tail)) Try.underlying22 Try.sizeOf5 (by rfl) (by omega)) ?_ | refine Tr.hT 8 rfl (by kernel_rfl) (panicIn (panicThen panicBody)) (QS.idx rfl rfl (by assumption) Try.underlying22 Try.sizeOf5 (by rfl) (by omega)) ?_ | refine Tr.hT 8 rfl (by kernel_rfl) (panicIn (panicThen panicBody)) (QS.idxRow rfl rfl (by repeat (first | exact List.Mem.head _ | apply List.Mem.tail)) Try.underlying22 Try.sizeOf5 (by rfl) (by omega)) ?_
        first | refine Tr.hT 9 rfl (by kernel_rfl) (panicIn (panicThen panicBody)) (QS.el1 rfl (by assumption) Try.isAgg5 (by omega) (by rfl)) ?_ | refine Tr.hT 9 rfl (by kernel_rfl) (panicIn (panicThen panicBody)) (QS.elR1 rfl (by repeat (first | exact List.Mem.head _ | apply List.Mem.tail)) Try.isAgg5 (by omega) (by rfl)) ?_
        refine Tr.hT 11 rfl (by kernel_rfl) (panicIn (panicThen panicBody)) (QS.fieldAddr (off := 2) (ft := 3) rfl Try.underlying27 rfl rfl Try.sizeOf3 (by decide)) ?_
        refine Tr.hAll [10] (by kernel_rfl) (by simp) (fun iq hq => ?_)
        obtain rfl := List.mem_singleton.1 hq
        refine Tr.hOp rfl ?_
        refine Tr.q (QS.call rfl Try.call56 (fun w hw => signed_any (b.getD 2 default) w)) rfl ?_
        refine Tr.hN ?_
        refine Tr.hAll [12] (by kernel_rfl) (by simp) (fun iq hq => ?_)
        obtain rfl := List.mem_singleton.1 hq
        refine Tr.hOp rfl ?_
        refine Tr.storeV (cs' := [_, _, _, _, _, _, _, _, _]) rfl rfl Try.sizeOf3 (by repeat (first | exact Put.here _ | apply Put.there)) rfl (by rfl) (by first | exact Nat.le_of_ble_eq_true rfl | simp) (by first | exact List.all_eq_true.1 rfl | (intro u hu; simp [Value.cells] at hu; simp_all [Value.oneCell'])) rfl ?_
        refine Tr.hN ?_
        refine Tr.hT 13 rfl (by kernel_rfl) (panicIn (panicThen panicBody)) (QS.fieldAddr (off := 3) (ft := 3) rfl Try.underlying27 rfl rfl Try.sizeOf3 (by decide)) ?_
        refine Tr.hAll [14] (by kernel_rfl) (by simp) (fun iq hq => ?_)
        obtain rfl := List.mem_singleton.1 hq
        refine Tr.hOp rfl ?_
        refine Tr.storeV (cs' := [_, _, _, _, _, _, _, _, _]) rfl rfl Try.sizeOf3 (by repeat (first | exact Put.here _ | apply Put.there)) rfl (by rfl) (by first | exact Nat.le_of_ble_eq_true rfl | simp) (by first | exact List.all_eq_true.1 rfl | (intro u hu; simp [Value.cells] at hu; simp_all [Value.oneCell'])) rfl ?_
        refine Tr.hN ?_
        refine Tr.hT 15 rfl (by kernel_rfl) (panicIn (panicThen panicBody)) (QS.fieldAddr (off := 6) (ft := 3) rfl Try.underlying27 rfl rfl Try.sizeOf3 (by decide)) ?_
        refine Tr.hAll [16] (by kernel_rfl) (by simp) (fun iq hq => ?_)
        obtain rfl := List.mem_singleton.1 hq
        refine Tr.hOp rfl ?_
        refine Tr.storeV (cs' := [_, _, _, _, _, _, _, _, _]) rfl rfl Try.sizeOf3 (by repeat (first | exact Put.here _ | apply Put.there)) rfl (by rfl) (by first | exact Nat.le_of_ble_eq_true rfl | simp) (by first | exact List.all_eq_true.1 rfl | (intro u hu; simp [Value.cells] at hu; simp_all [Value.oneCell'])) rfl ?_
        refine Tr.hN ?_
        refine Tr.hT 17 rfl (by kernel_rfl) (panicIn (panicThen panicBody)) (QS.fieldAddr (off := 1) (ft := 23) rfl Try.underlying27 rfl rfl Try.sizeOf23 (by decide)) ?_
        refine Tr.hAll [18] (by kernel_rfl) (by simp) (fun iq hq => ?_)
        obtain rfl := List.mem_singleton.1 hq
        refine Tr.hOp rfl ?_
        refine Tr.storeV (cs' := [_, _, _, _, _, _, _, _, _]) rfl rfl Try.sizeOf23 (by repeat (first | exact Put.here _ | apply Put.there)) rfl (by rfl) (by first | exact Nat.le_of_ble_eq_true rfl | simp) (by first | exact List.all_eq_true.1 rfl | (intro u hu; simp [Value.cells] at hu; simp_all [Value.oneCell'])) rfl ?_
        refine Tr.hN ?_
        refine Tr.hDone (by kernel_rfl) ?_
        refine Tr.inN ?_
        refine Tr.thenN ?_
        apply Tr.joined ⟨addr, sextP (b.getD 2 default), 5 + c - 48, 1, 0, 0, (b.getD 1 default).toNat, 0, sz⟩
        · exact rfl
        · exact Front.nil
        · exact SubX.dropN 25 (by kernel_rfl) rfl
        · exact (by repeat' (first | exact Pick.nil _ | exact Del.here _ | apply Pick.cons | apply Del.there))
        · exact (by unfold refBodyP kindP; (repeat (first | rw [if_pos (by omega)] | rw [if_neg (by omega)])) <;> rfl)
      · try simp only [bs] at h6
        refine Tr.seq ?_
        refine Tr.region ?_
        refine Tr.q (QS.move rfl) rfl ?_
        refine Tr.q (QS.geq rfl rfl) rfl ?_
        refine Tr.q (QS.move rfl) rfl ?_
        apply Tr.andP
        · exact (rfl : _ = (3, 63, 66))
        · exact rfl
        · intro hT7; have hT7' := hT7
          try simp only [bs] at hT7'
          refine Tr.gq rfl rfl hT7 (QS.move rfl) rfl ?_
          refine Tr.gq rfl rfl hT7 (QS.leq rfl rfl) rfl ?_
          refine Tr.q (QS.pickT rfl hT7 rfl) rfl ?_
          refine Tr.nil (Tr.thenN ?_)
          exact Tr.endX (Sub.cons rfl (Sub.dropN 3 (by kernel_rfl) rfl))
        · intro hF7
          refine Tr.gskip rfl rfl hF7 rfl ?_
          refine Tr.gskip rfl rfl hF7 rfl ?_
          refine Tr.q (QS.pickF rfl hF7 rfl) rfl ?_
          refine Tr.nil (Tr.thenN ?_)
          exact Tr.endX (Sub.cons rfl (Sub.dropN 3 (by kernel_rfl) rfl))
        refine Tr.q (QS.assign rfl) rfl ?_
        refine Tr.nil ?_
        refine Tr.thenN ?_
        refine Tr.cond rfl (fun h8 => ?_) (fun h8 => ?_)
        · try simp only [bs] at h8
          refine Tr.regionH ([cellE b2 (encIns.enc zeroIns) 27]) 18 rfl HLF.mixed ?_
          refine Tr.hT 0 rfl (by kernel_rfl) (panicIn (panicThen panicBody)) (QS.move rfl) ?_
          first | refine Tr.hT 1 rfl (by kernel_rfl) (panicIn (panicThen panicBody)) (QS.addI rfl rfl (by omega)) ?_ | refine Tr.hT 1 rfl (by kernel_rfl) (panicIn (panicThen panicBody)) (QS.add rfl rfl) ?_
          first | refine Tr.hT 2 rfl (by kernel_rfl) (panicIn (panicThen panicBody)) (QS.subI rfl rfl (by omega)) ?_ | refine Tr.hT 2 rfl (by kernel_rfl) (panicIn (panicThen panicBody)) (QS.sub rfl rfl) ?_
          refine Tr.hT 3 rfl (by kernel_rfl) (panicIn (panicThen panicBody)) (QS.move rfl) ?_
          first | refine Tr.hT 4 rfl (by kernel_rfl) (panicIn (panicThen panicBody)) (QS.idxN rfl rfl (by assumption) Try.underlying22 Try.sizeOf5 (by rfl) (by omega)) ?_ | refine Tr.hT 4 rfl (by kernel_rfl) (panicIn (panicThen panicBody)) (QS.idxRowN rfl rfl (by repeat (first | exact List.Mem.head _ | apply List.Mem.tail)) Try.underlying22 Try.sizeOf5 (by rfl) (by omega)) ?_ | refine Tr.hT 4 rfl (by kernel_rfl) (panicIn (panicThen panicBody)) (QS.idx rfl rfl (by assumption) Try.underlying22 Try.sizeOf5 (by rfl) (by omega)) ?_ | refine Tr.hT 4 rfl (by kernel_rfl) (panicIn (panicThen panicBody)) (QS.idxRow rfl rfl (by repeat (first | exact List.Mem.head _ | apply List.Mem.tail)) Try.underlying22 Try.sizeOf5 (by rfl) (by omega)) ?_
          first | refine Tr.hT 5 rfl (by kernel_rfl) (panicIn (panicThen panicBody)) (QS.el1 rfl (by assumption) Try.isAgg5 (by omega) (by rfl)) ?_ | refine Tr.hT 5 rfl (by kernel_rfl) (panicIn (panicThen panicBody)) (QS.elR1 rfl (by repeat (first | exact List.Mem.head _ | apply List.Mem.tail)) Try.isAgg5 (by omega) (by rfl)) ?_
          refine Tr.hT 6 rfl (by kernel_rfl) (panicIn (panicThen panicBody)) (QS.cvt8toI rfl Try.underlying5 Try.underlying3) ?_
          refine Tr.hT 7 rfl (by kernel_rfl) (panicIn (panicThen panicBody)) (QS.move rfl) ?_
          refine Tr.hT 8 rfl (by kernel_rfl) (panicIn (panicThen panicBody)) (QS.slice (lv := some (_, _)) (hv := none) rfl (by assumption) rfl rfl Try.underlying22 Try.sizeOf5 (by rfl) (by simp only [loOf, hiOf]; omega) (by simp only [loOf, hiOf]; omega) (by simp only [loOf, hiOf]; omega)) ?_
          refine Tr.hT 10 rfl (by kernel_rfl) (panicIn (panicThen panicBody)) (QS.fieldAddr (off := 2) (ft := 3) rfl Try.underlying27 rfl rfl Try.sizeOf3 (by decide)) ?_
          refine Tr.hAll [9] (by kernel_rfl) (by simp) (fun iq hq => ?_)
          obtain rfl := List.mem_singleton.1 hq
          refine Tr.hOp rfl ?_
          refine Tr.q (QS.call rfl Try.call57 (fun w hw => refLong_any ((b.take (b.length : Int).toNat).drop (2 : Int).toNat) _ w (hw.slF (Sl.resl hV' (by omega) (by omega))) (by simp; omega))) rfl ?_
          refine Tr.hN ?_
          refine Tr.hAll [11] (by kernel_rfl) (by simp) (fun iq hq => ?_)
          obtain rfl := List.mem_singleton.1 hq
          refine Tr.hOp rfl ?_
          refine Tr.storeV (cs' := [_, _, _, _, _, _, _, _, _]) rfl rfl Try.sizeOf3 (by repeat (first | exact Put.here _ | apply Put.there)) rfl (by rfl) (by first | exact Nat.le_of_ble_eq_true rfl | simp) (by first | exact List.all_eq_true.1 rfl | (intro u hu; simp [Value.cells] at hu; simp_all [Value.oneCell'])) rfl ?_
          refine Tr.hN ?_
          refine Tr.hT 12 rfl (by kernel_rfl) (panicIn (panicThen panicBody)) (QS.fieldAddr (off := 3) (ft := 3) rfl Try.underlying27 rfl rfl Try.sizeOf3 (by decide)) ?_
          refine Tr.hAll [13] (by kernel_rfl) (by simp) (fun iq hq => ?_)
          obtain rfl := List.mem_singleton.1 hq
          refine Tr.hOp rfl ?_
          refine Tr.storeV (cs' := [_, _, _, _, _, _, _, _, _]) rfl rfl Try.sizeOf3 (by repeat (first | exact Put.here _ | apply Put.there)) rfl (by rfl) (by first | exact Nat.le_of_ble_eq_true rfl | simp) (by first | exact List.all_eq_true.1 rfl | (intro u hu; simp [Value.cells] at hu; simp_all [Value.oneCell'])) rfl ?_
          refine Tr.hN ?_
          refine Tr.hT 14 rfl (by kernel_rfl) (panicIn (panicThen panicBody)) (QS.fieldAddr (off := 6) (ft := 3) rfl Try.underlying27 rfl rfl Try.sizeOf3 (by decide)) ?_
          refine Tr.hAll [15] (by kernel_rfl) (by simp) (fun iq hq => ?_)
          obtain rfl := List.mem_singleton.1 hq
          refine Tr.hOp rfl ?_
          refine Tr.storeV (cs' := [_, _, _, _, _, _, _, _, _]) rfl rfl Try.sizeOf3 (by repeat (first | exact Put.here _ | apply Put.there)) rfl (by rfl) (by first | exact Nat.le_of_ble_eq_true rfl | simp) (by first | exact List.all_eq_true.1 rfl | (intro u hu; simp [Value.cells] at hu; simp_all [Value.oneCell'])) rfl ?_
          refine Tr.hN ?_
          refine Tr.hT 16 rfl (by kernel_rfl) (panicIn (panicThen panicBody)) (QS.fieldAddr (off := 1) (ft := 23) rfl Try.underlying27 rfl rfl Try.sizeOf23 (by decide)) ?_
          refine Tr.hAll [17] (by kernel_rfl) (by simp) (fun iq hq => ?_)
          obtain rfl := List.mem_singleton.1 hq
          refine Tr.hOp rfl ?_
          refine Tr.storeV (cs' := [_, _, _, _, _, _, _, _, _]) rfl rfl Try.sizeOf23 (by repeat (first | exact Put.here _ | apply Put.there)) rfl (by rfl) (by first | exact Nat.le_of_ble_eq_true rfl | simp) (by first | exact List.all_eq_true.1 rfl | (intro u hu; simp [Value.cells] at hu; simp_all [Value.oneCell'])) rfl ?_
          refine Tr.hN ?_
          refine Tr.hDone (by kernel_rfl) ?_
          refine Tr.inN ?_
          refine Tr.thenN ?_
          rw [show longP ((b.take (b.length : Int).toNat).drop (2 : Int).toNat) 0 = longP b 2 from long_drop (k := 2) (by omega)]
          apply Tr.joined ⟨addr, longP b 2, 5 + c - 64, 2, 0, 0, (b.getD 1 default).toNat, 0, sz⟩
          · exact rfl
          · exact Front.nil
          · exact SubX.dropN 29 (by kernel_rfl) rfl
          · exact (by repeat' (first | exact Pick.nil _ | exact Del.here _ | apply Pick.cons | apply Del.there))
          · exact (by unfold refBodyP kindP; (repeat (first | rw [if_pos (by omega)] | rw [if_neg (by omega)])) <;> rfl)
        · try simp only [bs] at h8
          refine Tr.seq ?_
          refine Tr.region ?_
          refine Tr.q (QS.move rfl) rfl ?_
          refine Tr.q (QS.move rfl) rfl ?_
          refine Tr.q (QS.lW rfl Try.isAgg27 Try.sizeOf27) rfl ?_
          refine Tr.q (QS.call rfl Try.call58 (fun w hw => memoryOr_any c b V addr sz w (hw.slF hV) hb (by omega) hz (by omega))) rfl ?_
          refine Tr.storeW rfl rfl Try.sizeOf27 (by repeat (first | exact Put.here _ | apply Put.there)) (by rfl) (by rfl) (by first | exact List.all_eq_true.1 rfl | exact Enc.one _ _ | exact Enc.one encIns _) rfl ?_
          refine Tr.nil ?_
          refine Tr.thenN ?_
          refine Tr.ret ?_
          refine Tr.inR ?_
          refine Tr.thenR ?_
          refine Tr.retC1 Try.results39 rfl (by repeat (first | exact List.Mem.head _ | apply List.Mem.tail)) Try.isAgg27 Try.sizeOf27 (by rfl) (fun w' hw => ?_)
          exact ⟨rfl, hw.below (Bg.le.refl _)⟩
  · skip
    replace hi : k = refBodyP c b ⟨addr, 0, 0, 0, 0, 0, 0, 0, sz⟩ := hi
    change Tr _ _ [cellE b1 (encIns.enc k) 27, cellE b2 (encIns.enc zeroIns) 27] ([] ++ _) _
    refine Tr.seq ?_
    refine Tr.region ?_
    refine Tr.q (QS.lW rfl Try.isAgg27 Try.sizeOf27) rfl ?_
    refine Tr.storeW rfl rfl Try.sizeOf27 (by repeat (first | exact Put.here _ | apply Put.there)) (by rfl) (by rfl) (by first | exact List.all_eq_true.1 rfl | exact Enc.one _ _ | exact Enc.one encIns _) rfl ?_
    refine Tr.nil ?_
    refine Tr.thenN ?_
    refine Tr.ret ?_
    refine Tr.retC1 Try.results39 rfl (by repeat (first | exact List.Mem.head _ | apply List.Mem.tail)) Try.isAgg27 Try.sizeOf27 (by rfl) (fun w' hw => ?_)
    exact ⟨by rw [hi]; rfl, hw.below (Bg.le.refl _)⟩

set_option maxRecDepth 100000 in
set_option maxHeartbeats 2000000 in
theorem refDecode_any (b : List UInt8) (V : Value) (addr : UInt32) (w : World) (hV : Sl (hp w) encU8 b V) :
    Calls Try.prog 14 #[V, .int .u32 addr.toNat] w (fun e w' => e = .returned (.tuple #[.agg (encIns.enc (refDecP b addr).1).toArray, .int .i64 (refDecP b addr).2]) ∧ Ext w w') := by
  have hV' : Sl (Bg.of w).blk encU8 b V := hV
  have hlen := hV.len_le
  have hpos := sizedP_nonneg (((b.getD 0 default).toNat : Nat) : Int)
  refine enter Try.func14 rfl Try.ntmps14 rfl ?_
  refine Tr.seq ?_
  refine Tr.region ?_
  refine Tr.alloc Try.zeroValue27 rfl rfl (fun b1 => ?_)
  refine Tr.q (QS.assign rfl) rfl ?_
  refine Tr.nil ?_
  refine Tr.thenN ?_
  refine Tr.seq ?_
  refine Tr.seq ?_
  refine Tr.region ?_
  refine Tr.q (QS.move rfl) rfl ?_
  first | refine Tr.q (QS.len rfl (by assumption) Try.underlying22) rfl ?_ | refine Tr.q (QS.lenRow rfl (by repeat (first | exact List.Mem.head _ | apply List.Mem.tail)) Try.underlying22) rfl ?_ | refine Tr.q (QS.lenNil rfl Try.underlying22) rfl ?_
  refine Tr.q (QS.eql rfl rfl) rfl ?_
  refine Tr.nil ?_
  refine Tr.thenN ?_
  refine Tr.cond rfl (fun h2 => ?_) (fun h2 => ?_)
  · try simp only [bs] at h2
    refine Tr.seq ?_
    refine Tr.region ?_
    refine Tr.q (QS.build (vs := []) rfl rfl (HLF.built27)) rfl ?_
    refine Tr.storeW rfl rfl Try.sizeOf27 (by repeat (first | exact Put.here _ | apply Put.there)) (by rfl) (by rfl) (by first | exact List.all_eq_true.1 rfl | exact Enc.one _ _ | exact Enc.one encIns _) rfl ?_
    refine Tr.q (QS.assign rfl) rfl ?_
    refine Tr.nil ?_
    refine Tr.thenN ?_
    refine Tr.ret ?_
    refine Tr.thenR ?_
    refine Tr.retC2 Try.results14 rfl rfl (by repeat (first | exact List.Mem.head _ | apply List.Mem.tail)) Try.isAgg27 Try.sizeOf27 (by rfl) (fun w' hw => ?_)
    exact ⟨by unfold refDecP; rw [if_pos (by omega)]; rfl, hw.below (Bg.le.refl _)⟩
  · try simp only [bs] at h2
    refine Tr.skip ?_
    refine Tr.thenN ?_
    refine Tr.seq ?_
    refine Tr.region ?_
    refine Tr.q (QS.move rfl) rfl ?_
    first | refine Tr.q (QS.idxN rfl rfl (by assumption) Try.underlying22 Try.sizeOf5 (by rfl) (by omega)) rfl ?_ | refine Tr.q (QS.idxRowN rfl rfl (by repeat (first | exact List.Mem.head _ | apply List.Mem.tail)) Try.underlying22 Try.sizeOf5 (by rfl) (by omega)) rfl ?_ | refine Tr.q (QS.idx rfl rfl (by assumption) Try.underlying22 Try.sizeOf5 (by rfl) (by omega)) rfl ?_ | refine Tr.q (QS.idxRow rfl rfl (by repeat (first | exact List.Mem.head _ | apply List.Mem.tail)) Try.underlying22 Try.sizeOf5 (by rfl) (by omega)) rfl ?_
    first | refine Tr.q (QS.el1 rfl (by assumption) Try.isAgg5 (by omega) (by rfl)) rfl ?_ | refine Tr.q (QS.elR1 rfl (by repeat (first | exact List.Mem.head _ | apply List.Mem.tail)) Try.isAgg5 (by omega) (by rfl)) rfl ?_
    refine Tr.q (QS.cvt8toI rfl Try.underlying5 Try.underlying3) rfl ?_
    refine Tr.q (QS.call rfl Try.call38 (fun w hw => sized_any (b.getD 0 default).toNat w)) rfl ?_
    generalize hq : sizedP (b.getD 0 default).toNat = n at *
    refine Tr.q (QS.assign rfl) rfl ?_
    refine Tr.nil ?_
    refine Tr.thenN ?_
    refine Tr.seq ?_
    refine Tr.seq ?_
    refine Tr.region ?_
    refine Tr.q (QS.move rfl) rfl ?_
    refine Tr.q (QS.eql rfl rfl) rfl ?_
    refine Tr.nil ?_
    refine Tr.thenN ?_
    refine Tr.cond rfl (fun h3 => ?_) (fun h3 => ?_)
    · try simp only [bs] at h3
      refine Tr.seq ?_
      refine Tr.region ?_
      refine Tr.q (QS.build (vs := []) rfl rfl (HLF.built27)) rfl ?_
      refine Tr.storeW rfl rfl Try.sizeOf27 (by repeat (first | exact Put.here _ | apply Put.there)) (by rfl) (by rfl) (by first | exact List.all_eq_true.1 rfl | exact Enc.one _ _ | exact Enc.one encIns _) rfl ?_
      refine Tr.q (QS.assign rfl) rfl ?_
      refine Tr.nil ?_
      refine Tr.thenN ?_
      refine Tr.ret ?_
      refine Tr.thenR ?_
      refine Tr.retC2 Try.results14 rfl rfl (by repeat (first | exact List.Mem.head _ | apply List.Mem.tail)) Try.isAgg27 Try.sizeOf27 (by rfl) (fun w' hw => ?_)
      exact ⟨by unfold refDecP; rw [if_neg (by omega), if_pos (by rw [hq]; assumption)]; rfl, hw.below (Bg.le.refl _)⟩
    · try simp only [bs] at h3
      refine Tr.skip ?_
      refine Tr.thenN ?_
      refine Tr.seq ?_
      refine Tr.seq ?_
      refine Tr.region ?_
      refine Tr.q (QS.move rfl) rfl ?_
      first | refine Tr.q (QS.len rfl (by assumption) Try.underlying22) rfl ?_ | refine Tr.q (QS.lenRow rfl (by repeat (first | exact List.Mem.head _ | apply List.Mem.tail)) Try.underlying22) rfl ?_ | refine Tr.q (QS.lenNil rfl Try.underlying22) rfl ?_
      refine Tr.q (QS.move rfl) rfl ?_
      refine Tr.q (QS.lss rfl rfl) rfl ?_
      refine Tr.nil ?_
      refine Tr.thenN ?_
      refine Tr.cond rfl (fun h4 => ?_) (fun h4 => ?_)
      · try simp only [bs] at h4
        refine Tr.seq ?_
        refine Tr.region ?_
        refine Tr.q (QS.build (vs := []) rfl rfl (HLF.built27)) rfl ?_
        refine Tr.storeW rfl rfl Try.sizeOf27 (by repeat (first | exact Put.here _ | apply Put.there)) (by rfl) (by rfl) (by first | exact List.all_eq_true.1 rfl | exact Enc.one _ _ | exact Enc.one encIns _) rfl ?_
        refine Tr.q (QS.assign rfl) rfl ?_
        refine Tr.nil ?_
        refine Tr.thenN ?_
        refine Tr.ret ?_
        refine Tr.thenR ?_
        refine Tr.retC2 Try.results14 rfl rfl (by repeat (first | exact List.Mem.head _ | apply List.Mem.tail)) Try.isAgg27 Try.sizeOf27 (by rfl) (fun w' hw => ?_)
        exact ⟨by unfold refDecP; rw [if_neg (by omega), if_neg (by rw [hq]; assumption), if_pos (by rw [hq]; assumption)]; rfl, hw.below (Bg.le.refl _)⟩
      · try simp only [bs] at h4
        refine Tr.skip ?_
        refine Tr.thenN ?_
        refine Tr.seq ?_
        refine Tr.region ?_
        refine Tr.q (QS.move rfl) rfl ?_
        refine Tr.q (QS.move rfl) rfl ?_
        refine Tr.q (QS.slice (lv := none) (hv := some (_, _)) rfl (by assumption) rfl rfl Try.underlying22 Try.sizeOf5 (by rfl) (by simp only [loOf, hiOf]; omega) (by simp only [loOf, hiOf]; omega) (by simp only [loOf, hiOf]; omega)) rfl ?_
        refine Tr.q (QS.move rfl) rfl ?_
        refine Tr.q (QS.move rfl) rfl ?_
        refine Tr.q (QS.build (vs := [(0, _), (8, _)]) rfl rfl (HLF.built27_0_8 _ _)) rfl ?_
        refine Tr.q (QS.call rfl Try.call39 (fun w hw => fields_any ((b.take n.toNat).drop 0) _ addr n w (hw.slF (Sl.resl hV' (by omega) (by omega))) (by rw [List.drop_zero]; exact take_size (by omega) (by omega) (take_head (by omega)) hq) (by rw [List.drop_zero, take_head (by omega), hq]; assumption))) rfl ?_
        refine Tr.alloc Try.zeroValue27 rfl rfl (fun b5 => ?_)
        refine Tr.storeW rfl rfl Try.sizeOf27 (by repeat (first | exact Put.here _ | apply Put.there)) (by rfl) (by rfl) (by first | exact List.all_eq_true.1 rfl | exact Enc.one _ _ | exact Enc.one encIns _) rfl ?_
        refine Tr.nil ?_
        refine Tr.thenN ?_
        refine Tr.seq ?_
        refine Tr.seq ?_
        refine Tr.region ?_
        refine Tr.q (QS.fieldAddr (off := 6) (ft := 3) rfl Try.underlying27 rfl rfl Try.sizeOf3 (by decide)) rfl ?_
        refine Tr.q (QS.lV rfl Try.isAgg3) rfl ?_
        refine Tr.q (QS.call rfl Try.call40 (fun w hw => isReg_any _ w)) rfl ?_
        refine Tr.q (QS.not rfl) rfl ?_
        refine Tr.q (QS.move rfl) rfl ?_
        apply Tr.orP
        · exact (rfl : _ = (5, 36, 41))
        · exact rfl
        · intro hF6; have hF6' := hF6
          try simp only [bs] at hF6'
          refine Tr.gq rfl rfl hF6 (QS.fieldAddr (off := 7) (ft := 3) rfl Try.underlying27 rfl rfl Try.sizeOf3 (by decide)) rfl ?_
          refine Tr.gq rfl rfl hF6 (QS.lV rfl Try.isAgg3) rfl ?_
          refine Tr.gq rfl rfl hF6 (QS.call rfl Try.call40 (fun w hw => isReg_any _ w)) rfl ?_
          refine Tr.gq rfl rfl hF6 (QS.not rfl) rfl ?_
          refine Tr.q (QS.pickF rfl hF6 rfl) rfl ?_
          refine Tr.nil (Tr.thenN ?_)
          exact Tr.endX (Sub.cons rfl (Sub.dropN 5 (by kernel_rfl) rfl))
        · intro hT6
          refine Tr.gskip rfl rfl hT6 rfl ?_
          refine Tr.gskip rfl rfl hT6 rfl ?_
          refine Tr.gskip rfl rfl hT6 rfl ?_
          refine Tr.gskip rfl rfl hT6 rfl ?_
          refine Tr.q (QS.pickT rfl hT6 rfl) rfl ?_
          refine Tr.nil (Tr.thenN ?_)
          exact Tr.endX (Sub.cons rfl (Sub.dropN 5 (by kernel_rfl) rfl))
        refine Tr.nil ?_
        refine Tr.thenN ?_
        refine Tr.cond rfl (fun h7 => ?_) (fun h7 => ?_)
        · try simp only [bs] at h7
          refine Tr.seq ?_
          refine Tr.region ?_
          refine Tr.q (QS.build (vs := []) rfl rfl (HLF.built27)) rfl ?_
          refine Tr.storeW rfl rfl Try.sizeOf27 (by repeat (first | exact Put.here _ | apply Put.there)) (by rfl) (by rfl) (by first | exact List.all_eq_true.1 rfl | exact Enc.one _ _ | exact Enc.one encIns _) rfl ?_
          refine Tr.q (QS.assign rfl) rfl ?_
          refine Tr.nil ?_
          refine Tr.thenN ?_
          refine Tr.ret ?_
          refine Tr.thenR ?_
          refine Tr.retC2 Try.results14 rfl rfl (by repeat (first | exact List.Mem.head _ | apply List.Mem.tail)) Try.isAgg27 Try.sizeOf27 (by rfl) (fun w' hw => ?_)
          exact ⟨by unfold refDecP; rw [if_neg (by omega), if_neg (by rw [hq]; assumption), if_neg (by rw [hq]; assumption), hq]; simp only [List.drop_zero, take_head (show 0 < n.toNat by omega)] at *; (first | rw [if_pos (by assumption)] | rw [if_neg (by grind)]); rfl, hw.below (Bg.le.refl _)⟩
        · try simp only [bs] at h7
          refine Tr.skip ?_
          refine Tr.thenN ?_
          refine Tr.seq ?_
          refine Tr.region ?_
          refine Tr.q (QS.lW rfl Try.isAgg27 Try.sizeOf27) rfl ?_
          refine Tr.storeW rfl rfl Try.sizeOf27 (by repeat (first | exact Put.here _ | apply Put.there)) (by rfl) (by rfl) (by first | exact List.all_eq_true.1 rfl | exact Enc.one _ _ | exact Enc.one encIns _) rfl ?_
          refine Tr.q (QS.assign rfl) rfl ?_
          refine Tr.nil ?_
          refine Tr.thenN ?_
          refine Tr.ret ?_
          refine Tr.retC2 Try.results14 rfl rfl (by repeat (first | exact List.Mem.head _ | apply List.Mem.tail)) Try.isAgg27 Try.sizeOf27 (by rfl) (fun w' hw => ?_)
          exact ⟨by unfold refDecP; rw [if_neg (by omega), if_neg (by rw [hq]; assumption), if_neg (by rw [hq]; assumption), hq]; simp only [List.drop_zero, take_head (show 0 < n.toNat by omega)] at *; (first | rw [if_pos (by assumption)] | rw [if_neg (by grind)]); rfl, hw.below (Bg.le.refl _)⟩

set_option maxRecDepth 100000 in
set_option maxHeartbeats 2000000 in
theorem ints_any (a b : List Int) (V W : Value) (w : World) (hV : Sl (hp w) encInt a V) (hW : Sl (hp w) encInt b W) :
    Calls Try.prog 16 #[V, W] w (fun e w' => e = .returned (.bool (decide (a = b))) ∧ Ext w w') := by
  have hV' : Sl (Bg.of w).blk encInt a V := hV
  have hW' : Sl (Bg.of w).blk encInt b W := hW
  have hl1 := hV.len_le
  have hl2 := hW.len_le
  refine enter Try.func16 rfl Try.ntmps16 rfl ?_
  refine Tr.seq ?_
  refine Tr.region ?_
  refine Tr.q (QS.assign rfl) rfl ?_
  refine Tr.nil ?_
  refine Tr.thenN ?_
  refine Tr.seq ?_
  refine Tr.seq ?_
  refine Tr.region ?_
  refine Tr.q (QS.move rfl) rfl ?_
  first | refine Tr.q (QS.len rfl (by assumption) Try.underlying36) rfl ?_ | refine Tr.q (QS.lenRow rfl (by repeat (first | exact List.Mem.head _ | apply List.Mem.tail)) Try.underlying36) rfl ?_ | refine Tr.q (QS.lenNil rfl Try.underlying36) rfl ?_
  refine Tr.q (QS.move rfl) rfl ?_
  first | refine Tr.q (QS.len rfl (by assumption) Try.underlying36) rfl ?_ | refine Tr.q (QS.lenRow rfl (by repeat (first | exact List.Mem.head _ | apply List.Mem.tail)) Try.underlying36) rfl ?_ | refine Tr.q (QS.lenNil rfl Try.underlying36) rfl ?_
  refine Tr.q (QS.neq rfl rfl) rfl ?_
  refine Tr.nil ?_
  refine Tr.thenN ?_
  refine Tr.cond rfl (fun h1 => ?_) (fun h1 => ?_)
  · try simp only [bs] at h1
    refine Tr.seq ?_
    refine Tr.region ?_
    refine Tr.q (QS.assign rfl) rfl ?_
    refine Tr.nil ?_
    refine Tr.thenN ?_
    refine Tr.ret ?_
    refine Tr.thenR ?_
    refine Tr.ret1 Try.results16 rfl (fun w' hw => ?_)
    exact ⟨by rw [decide_eq_false (fun e => by subst e; omega)], hw.below (Bg.le.refl _)⟩
  · try simp only [bs] at h1
    refine Tr.skip ?_
    refine Tr.thenN ?_
    refine Tr.seq ?_
    refine Tr.seq ?_
    refine Tr.region ?_
    refine Tr.q (QS.assign rfl) rfl ?_
    refine Tr.nil ?_
    refine Tr.thenN ?_
    refine Tr.block ?_
    refine Tr.loop (ι := Nat) (fun k => k ≤ a.length ∧ a.take k = b.take k) (fun _ => _) (fun k => []) (fun k => [(5, .int .i64 (k : Nat))]) (fun k => a.length - k) 0 ⟨by omega, rfl⟩ (.cons (by first | rfl | exact lookI rfl (by omega) | exact lookI rfl (by simp) | exact lookB rfl (by simp)) Front.nil) (by repeat' (first | exact Pick.nil _ | exact Del.here _ | apply Pick.cons | apply Del.there)) rfl (fun k hi m hm => ?_)
    replace hi : k ≤ a.length ∧ a.take k = b.take k := hi
    replace hm : m = a.length - k := hm
    change Tr _ _ [] ([(5, .int .i64 (k : Nat))] ++ _) _
    obtain ⟨hk1, hk3⟩ := hi
    refine Tr.seq ?_
    refine Tr.seq ?_
    refine Tr.region ?_
    refine Tr.q (QS.move rfl) rfl ?_
    refine Tr.q (QS.move rfl) rfl ?_
    first | refine Tr.q (QS.len rfl (by assumption) Try.underlying36) rfl ?_ | refine Tr.q (QS.lenRow rfl (by repeat (first | exact List.Mem.head _ | apply List.Mem.tail)) Try.underlying36) rfl ?_ | refine Tr.q (QS.lenNil rfl Try.underlying36) rfl ?_
    refine Tr.q (QS.lss rfl rfl) rfl ?_
    refine Tr.nil ?_
    refine Tr.thenN ?_
    refine Tr.cond rfl (fun h2 => ?_) (fun h2 => ?_)
    · try simp only [bs] at h2
      refine Tr.skip ?_
      refine Tr.thenN ?_
      refine Tr.seq ?_
      refine Tr.block ?_
      refine Tr.seq ?_
      refine Tr.regionQ HLF.mixed (by kernel_rfl) ?_
      refine TrQ.q (QS.move rfl) rfl ?_
      refine TrQ.q (QS.move rfl) rfl ?_
      first | refine TrQ.q (QS.idxN rfl rfl (by assumption) Try.underlying36 Try.sizeOf3 (by rfl) (by omega)) rfl ?_ | refine TrQ.q (QS.idxRowN rfl rfl (by repeat (first | exact List.Mem.head _ | apply List.Mem.tail)) Try.underlying36 Try.sizeOf3 (by rfl) (by omega)) rfl ?_ | refine TrQ.q (QS.idx rfl rfl (by assumption) Try.underlying36 Try.sizeOf3 (by rfl) (by omega)) rfl ?_ | refine TrQ.q (QS.idxRow rfl rfl (by repeat (first | exact List.Mem.head _ | apply List.Mem.tail)) Try.underlying36 Try.sizeOf3 (by rfl) (by omega)) rfl ?_
      first | refine TrQ.q (QS.el1 rfl (by assumption) Try.isAgg3 (by omega) (by rfl)) rfl ?_ | refine TrQ.q (QS.elR1 rfl (by repeat (first | exact List.Mem.head _ | apply List.Mem.tail)) Try.isAgg3 (by omega) (by rfl)) rfl ?_
      refine TrQ.q (QS.move rfl) rfl ?_
      refine TrQ.q (QS.move rfl) rfl ?_
      first | refine TrQ.q (QS.idxN rfl rfl (by assumption) Try.underlying36 Try.sizeOf3 (by rfl) (by omega)) rfl ?_ | refine TrQ.q (QS.idxRowN rfl rfl (by repeat (first | exact List.Mem.head _ | apply List.Mem.tail)) Try.underlying36 Try.sizeOf3 (by rfl) (by omega)) rfl ?_ | refine TrQ.q (QS.idx rfl rfl (by assumption) Try.underlying36 Try.sizeOf3 (by rfl) (by omega)) rfl ?_ | refine TrQ.q (QS.idxRow rfl rfl (by repeat (first | exact List.Mem.head _ | apply List.Mem.tail)) Try.underlying36 Try.sizeOf3 (by rfl) (by omega)) rfl ?_
      first | refine TrQ.q (QS.el1 rfl (by assumption) Try.isAgg3 (by omega) (by rfl)) rfl ?_ | refine TrQ.q (QS.elR1 rfl (by repeat (first | exact List.Mem.head _ | apply List.Mem.tail)) Try.isAgg3 (by omega) (by rfl)) rfl ?_
      refine TrQ.q (QS.neq rfl rfl) rfl ?_
      refine TrQ.nil ?_
      refine Tr.thenN ?_
      refine Tr.cond rfl (fun h3 => ?_) (fun h3 => ?_)
      · try simp only [bs] at h3
        refine Tr.seq ?_
        refine Tr.region ?_
        refine Tr.q (QS.assign rfl) rfl ?_
        refine Tr.nil ?_
        refine Tr.thenN ?_
        refine Tr.ret ?_
        refine Tr.inR ?_
        refine Tr.thenR ?_
        refine Tr.thenR ?_
        refine Tr.inR ?_
        refine Tr.thenR ?_
        refine Tr.ret1 Try.results16 rfl (fun w' hw => ?_)
        exact ⟨by rw [decide_eq_false (fun e => by subst e; simp_all)], hw.below (Bg.le.refl _)⟩
      · try simp only [bs] at h3
        refine Tr.skip ?_
        refine Tr.inN ?_
        refine Tr.thenN ?_
        refine Tr.region ?_
        refine Tr.q (QS.move rfl) rfl ?_
        first | refine Tr.q (QS.addI rfl rfl (by omega)) rfl ?_ | refine Tr.q (QS.add rfl rfl) rfl ?_
        refine Tr.q (QS.assign rfl) rfl ?_
        refine Tr.nil ?_
        refine Tr.thenN ?_
        apply Tr.again (k + 1)
        · exact rfl
        · exact (.cons (by first | rfl | exact lookI rfl (by omega) | exact lookI rfl (by simp) | exact lookB rfl (by simp)) Front.nil)
        · exact SubX.dropN 17 (by kernel_rfl) rfl
        · exact (by repeat' (first | exact Pick.nil _ | exact Del.here _ | apply Pick.cons | apply Del.there))
        · exact ⟨by omega, by rw [take_succ (by omega), take_succ (by omega), hk3]; congr 2 <;> simp_all⟩
        · exact (by (try dsimp only); omega)
    · try simp only [bs] at h2
      refine Tr.exit ?_
      refine Tr.thenE ?_
      refine Tr.thenE ?_
      refine Tr.inHit ?_
      refine Tr.thenN ?_
      refine Tr.seq ?_
      refine Tr.region ?_
      refine Tr.q (QS.assign rfl) rfl ?_
      refine Tr.nil ?_
      refine Tr.thenN ?_
      refine Tr.ret ?_
      refine Tr.ret1 Try.results16 rfl (fun w' hw => ?_)
      exact ⟨by rw [decide_eq_true (show a = b by rw [← List.take_of_length_le (show a.length ≤ k by omega), hk3, List.take_of_length_le (by omega)])], hw.below (Bg.le.refl _)⟩

set_option maxRecDepth 100000 in
set_option maxHeartbeats 2000000 in
theorem usesStack_any (op : Int) (w : World) :
    Calls Try.prog 45 #[.int .i64 op] w (fun e w' => e = .returned (.bool (usesStackP op)) ∧ Ext w w') := by
  refine enter Try.func45 rfl Try.ntmps45 rfl ?_
  refine Tr.seq ?_
  refine Tr.region ?_
  refine Tr.q (QS.assign rfl) rfl ?_
  refine Tr.nil ?_
  refine Tr.thenN ?_
  refine Tr.seq ?_
  refine Tr.region ?_
  refine Tr.q (QS.move rfl) rfl ?_
  refine Tr.q (QS.eql rfl rfl) rfl ?_
  refine Tr.q (QS.move rfl) rfl ?_
  apply Tr.orP
  · exact (rfl : _ = (3, 5, 8))
  · exact rfl
  · intro hF1; have hF1' := hF1
    try simp only [bs] at hF1'
    refine Tr.gq rfl rfl hF1 (QS.move rfl) rfl ?_
    refine Tr.gq rfl rfl hF1 (QS.eql rfl rfl) rfl ?_
    refine Tr.q (QS.pickF rfl hF1 rfl) rfl ?_
    refine Tr.nil (Tr.thenN ?_)
    exact Tr.endX (Sub.cons rfl (Sub.dropN 3 (by kernel_rfl) rfl))
  · intro hT1
    refine Tr.gskip rfl rfl hT1 rfl ?_
    refine Tr.gskip rfl rfl hT1 rfl ?_
    refine Tr.q (QS.pickT rfl hT1 rfl) rfl ?_
    refine Tr.nil (Tr.thenN ?_)
    exact Tr.endX (Sub.cons rfl (Sub.dropN 3 (by kernel_rfl) rfl))
  refine Tr.q (QS.move rfl) rfl ?_
  apply Tr.orP
  · exact (rfl : _ = (3, 9, 12))
  · exact rfl
  · intro hF2; have hF2' := hF2
    try simp only [bs] at hF2'
    refine Tr.gq rfl rfl hF2 (QS.move rfl) rfl ?_
    refine Tr.gq rfl rfl hF2 (QS.eql rfl rfl) rfl ?_
    refine Tr.q (QS.pickF rfl hF2 rfl) rfl ?_
    refine Tr.nil (Tr.thenN ?_)
    exact Tr.endX (Sub.cons rfl (Sub.dropN 3 (by kernel_rfl) rfl))
  · intro hT2
    refine Tr.gskip rfl rfl hT2 rfl ?_
    refine Tr.gskip rfl rfl hT2 rfl ?_
    refine Tr.q (QS.pickT rfl hT2 rfl) rfl ?_
    refine Tr.nil (Tr.thenN ?_)
    exact Tr.endX (Sub.cons rfl (Sub.dropN 3 (by kernel_rfl) rfl))
  refine Tr.q (QS.move rfl) rfl ?_
  apply Tr.orP
  · exact (rfl : _ = (3, 13, 16))
  · exact rfl
  · intro hF3; have hF3' := hF3
    try simp only [bs] at hF3'
    refine Tr.gq rfl rfl hF3 (QS.move rfl) rfl ?_
    refine Tr.gq rfl rfl hF3 (QS.eql rfl rfl) rfl ?_
    refine Tr.q (QS.pickF rfl hF3 rfl) rfl ?_
    refine Tr.nil (Tr.thenN ?_)
    exact Tr.endX (Sub.cons rfl (Sub.dropN 3 (by kernel_rfl) rfl))
  · intro hT3
    refine Tr.gskip rfl rfl hT3 rfl ?_
    refine Tr.gskip rfl rfl hT3 rfl ?_
    refine Tr.q (QS.pickT rfl hT3 rfl) rfl ?_
    refine Tr.nil (Tr.thenN ?_)
    exact Tr.endX (Sub.cons rfl (Sub.dropN 3 (by kernel_rfl) rfl))
  refine Tr.q (QS.move rfl) rfl ?_
  apply Tr.orP
  · exact (rfl : _ = (3, 17, 20))
  · exact rfl
  · intro hF4; have hF4' := hF4
    try simp only [bs] at hF4'
    refine Tr.gq rfl rfl hF4 (QS.move rfl) rfl ?_
    refine Tr.gq rfl rfl hF4 (QS.eql rfl rfl) rfl ?_
    refine Tr.q (QS.pickF rfl hF4 rfl) rfl ?_
    refine Tr.nil (Tr.thenN ?_)
    exact Tr.endX (Sub.cons rfl (Sub.dropN 3 (by kernel_rfl) rfl))
  · intro hT4
    refine Tr.gskip rfl rfl hT4 rfl ?_
    refine Tr.gskip rfl rfl hT4 rfl ?_
    refine Tr.q (QS.pickT rfl hT4 rfl) rfl ?_
    refine Tr.nil (Tr.thenN ?_)
    exact Tr.endX (Sub.cons rfl (Sub.dropN 3 (by kernel_rfl) rfl))
  refine Tr.q (QS.assign rfl) rfl ?_
  refine Tr.nil ?_
  refine Tr.thenN ?_
  refine Tr.ret ?_
  refine Tr.ret1 Try.results45 rfl (fun w' hw => ?_)
  exact ⟨rfl, hw.below (Bg.le.refl _)⟩

set_option maxRecDepth 100000 in
set_option maxHeartbeats 2000000 in
theorem readsA_any (op : Int) (w : World) :
    Calls Try.prog 46 #[.int .i64 op] w (fun e w' => e = .returned (.bool (readsAP op)) ∧ Ext w w') := by
  refine enter Try.func46 rfl Try.ntmps46 rfl ?_
  refine Tr.seq ?_
  refine Tr.region ?_
  refine Tr.q (QS.assign rfl) rfl ?_
  refine Tr.nil ?_
  refine Tr.thenN ?_
  refine Tr.seq ?_
  refine Tr.region ?_
  refine Tr.q (QS.move rfl) rfl ?_
  refine Tr.q (QS.eql rfl rfl) rfl ?_
  refine Tr.q (QS.move rfl) rfl ?_
  apply Tr.orP
  · exact (rfl : _ = (7, 5, 12))
  · exact rfl
  · intro hF1; have hF1' := hF1
    try simp only [bs] at hF1'
    refine Tr.gq rfl rfl hF1 (QS.move rfl) rfl ?_
    refine Tr.gq rfl rfl hF1 (QS.geq rfl rfl) rfl ?_
    refine Tr.gq rfl rfl hF1 (QS.move rfl) rfl ?_
    apply Tr.andP
    · exact (rfl : _ = (3, 8, 11))
    · exact rfl
    · intro hT2; have hT2' := hT2
      try simp only [bs] at hT2'
      refine Tr.gq rfl rfl hT2 (QS.move rfl) rfl ?_
      refine Tr.gq rfl rfl hT2 (QS.leq rfl rfl) rfl ?_
      refine Tr.gq rfl rfl hF1 (QS.pickT rfl hT2 rfl) rfl ?_
      refine Tr.nil (Tr.thenN ?_)
      exact Tr.endX (Sub.cons rfl (Sub.dropN 3 (by kernel_rfl) rfl))
    · intro hF2
      refine Tr.gskip rfl rfl hF2 rfl ?_
      refine Tr.gskip rfl rfl hF2 rfl ?_
      refine Tr.gq rfl rfl hF1 (QS.pickF rfl hF2 rfl) rfl ?_
      refine Tr.nil (Tr.thenN ?_)
      exact Tr.endX (Sub.cons rfl (Sub.dropN 3 (by kernel_rfl) rfl))
    refine Tr.q (QS.pickF rfl hF1 rfl) rfl ?_
    refine Tr.nil (Tr.thenN ?_)
    exact Tr.endX (Sub.cons rfl (Sub.dropN 5 (by kernel_rfl) rfl))
  · intro hT1
    refine Tr.gskip rfl rfl hT1 rfl ?_
    refine Tr.gskip rfl rfl hT1 rfl ?_
    refine Tr.gskip rfl rfl hT1 rfl ?_
    refine Tr.gskipU rfl rfl rfl ?_
    refine Tr.gskipU rfl rfl rfl ?_
    refine Tr.gskip rfl rfl hT1 rfl ?_
    refine Tr.q (QS.pickT rfl hT1 rfl) rfl ?_
    refine Tr.nil (Tr.thenN ?_)
    exact Tr.endX (Sub.cons rfl (Sub.dropN 7 (by kernel_rfl) rfl))
  refine Tr.q (QS.move rfl) rfl ?_
  apply Tr.orP
  · exact (rfl : _ = (3, 13, 16))
  · exact rfl
  · intro hF3; have hF3' := hF3
    try simp only [bs] at hF3'
    refine Tr.gq rfl rfl hF3 (QS.move rfl) rfl ?_
    refine Tr.gq rfl rfl hF3 (QS.eql rfl rfl) rfl ?_
    refine Tr.q (QS.pickF rfl hF3 rfl) rfl ?_
    refine Tr.nil (Tr.thenN ?_)
    exact Tr.endX (Sub.cons rfl (Sub.dropN 3 (by kernel_rfl) rfl))
  · intro hT3
    refine Tr.gskip rfl rfl hT3 rfl ?_
    refine Tr.gskip rfl rfl hT3 rfl ?_
    refine Tr.q (QS.pickT rfl hT3 rfl) rfl ?_
    refine Tr.nil (Tr.thenN ?_)
    exact Tr.endX (Sub.cons rfl (Sub.dropN 3 (by kernel_rfl) rfl))
  refine Tr.q (QS.move rfl) rfl ?_
  apply Tr.orP
  · exact (rfl : _ = (3, 17, 20))
  · exact rfl
  · intro hF4; have hF4' := hF4
    try simp only [bs] at hF4'
    refine Tr.gq rfl rfl hF4 (QS.move rfl) rfl ?_
    refine Tr.gq rfl rfl hF4 (QS.eql rfl rfl) rfl ?_
    refine Tr.q (QS.pickF rfl hF4 rfl) rfl ?_
    refine Tr.nil (Tr.thenN ?_)
    exact Tr.endX (Sub.cons rfl (Sub.dropN 3 (by kernel_rfl) rfl))
  · intro hT4
    refine Tr.gskip rfl rfl hT4 rfl ?_
    refine Tr.gskip rfl rfl hT4 rfl ?_
    refine Tr.q (QS.pickT rfl hT4 rfl) rfl ?_
    refine Tr.nil (Tr.thenN ?_)
    exact Tr.endX (Sub.cons rfl (Sub.dropN 3 (by kernel_rfl) rfl))
  refine Tr.q (QS.move rfl) rfl ?_
  apply Tr.orP
  · exact (rfl : _ = (3, 21, 24))
  · exact rfl
  · intro hF5; have hF5' := hF5
    try simp only [bs] at hF5'
    refine Tr.gq rfl rfl hF5 (QS.move rfl) rfl ?_
    refine Tr.gq rfl rfl hF5 (QS.eql rfl rfl) rfl ?_
    refine Tr.q (QS.pickF rfl hF5 rfl) rfl ?_
    refine Tr.nil (Tr.thenN ?_)
    exact Tr.endX (Sub.cons rfl (Sub.dropN 3 (by kernel_rfl) rfl))
  · intro hT5
    refine Tr.gskip rfl rfl hT5 rfl ?_
    refine Tr.gskip rfl rfl hT5 rfl ?_
    refine Tr.q (QS.pickT rfl hT5 rfl) rfl ?_
    refine Tr.nil (Tr.thenN ?_)
    exact Tr.endX (Sub.cons rfl (Sub.dropN 3 (by kernel_rfl) rfl))
  refine Tr.q (QS.move rfl) rfl ?_
  apply Tr.orP
  · exact (rfl : _ = (3, 25, 28))
  · exact rfl
  · intro hF6; have hF6' := hF6
    try simp only [bs] at hF6'
    refine Tr.gq rfl rfl hF6 (QS.move rfl) rfl ?_
    refine Tr.gq rfl rfl hF6 (QS.eql rfl rfl) rfl ?_
    refine Tr.q (QS.pickF rfl hF6 rfl) rfl ?_
    refine Tr.nil (Tr.thenN ?_)
    exact Tr.endX (Sub.cons rfl (Sub.dropN 3 (by kernel_rfl) rfl))
  · intro hT6
    refine Tr.gskip rfl rfl hT6 rfl ?_
    refine Tr.gskip rfl rfl hT6 rfl ?_
    refine Tr.q (QS.pickT rfl hT6 rfl) rfl ?_
    refine Tr.nil (Tr.thenN ?_)
    exact Tr.endX (Sub.cons rfl (Sub.dropN 3 (by kernel_rfl) rfl))
  refine Tr.q (QS.move rfl) rfl ?_
  apply Tr.orP
  · exact (rfl : _ = (3, 29, 32))
  · exact rfl
  · intro hF7; have hF7' := hF7
    try simp only [bs] at hF7'
    refine Tr.gq rfl rfl hF7 (QS.move rfl) rfl ?_
    refine Tr.gq rfl rfl hF7 (QS.eql rfl rfl) rfl ?_
    refine Tr.q (QS.pickF rfl hF7 rfl) rfl ?_
    refine Tr.nil (Tr.thenN ?_)
    exact Tr.endX (Sub.cons rfl (Sub.dropN 3 (by kernel_rfl) rfl))
  · intro hT7
    refine Tr.gskip rfl rfl hT7 rfl ?_
    refine Tr.gskip rfl rfl hT7 rfl ?_
    refine Tr.q (QS.pickT rfl hT7 rfl) rfl ?_
    refine Tr.nil (Tr.thenN ?_)
    exact Tr.endX (Sub.cons rfl (Sub.dropN 3 (by kernel_rfl) rfl))
  refine Tr.q (QS.assign rfl) rfl ?_
  refine Tr.nil ?_
  refine Tr.thenN ?_
  refine Tr.ret ?_
  refine Tr.ret1 Try.results46 rfl (fun w' hw => ?_)
  exact ⟨rfl, hw.below (Bg.le.refl _)⟩

set_option maxRecDepth 100000 in
set_option maxHeartbeats 2000000 in
theorem writesA_any (op : Int) (w : World) :
    Calls Try.prog 50 #[.int .i64 op] w (fun e w' => e = .returned (.bool (writesAP op)) ∧ Ext w w') := by
  refine enter Try.func50 rfl Try.ntmps50 rfl ?_
  refine Tr.seq ?_
  refine Tr.region ?_
  refine Tr.q (QS.assign rfl) rfl ?_
  refine Tr.nil ?_
  refine Tr.thenN ?_
  refine Tr.seq ?_
  refine Tr.region ?_
  refine Tr.q (QS.move rfl) rfl ?_
  refine Tr.q (QS.eql rfl rfl) rfl ?_
  refine Tr.q (QS.move rfl) rfl ?_
  apply Tr.orP
  · exact (rfl : _ = (7, 5, 12))
  · exact rfl
  · intro hF1; have hF1' := hF1
    try simp only [bs] at hF1'
    refine Tr.gq rfl rfl hF1 (QS.move rfl) rfl ?_
    refine Tr.gq rfl rfl hF1 (QS.geq rfl rfl) rfl ?_
    refine Tr.gq rfl rfl hF1 (QS.move rfl) rfl ?_
    apply Tr.andP
    · exact (rfl : _ = (3, 8, 11))
    · exact rfl
    · intro hT2; have hT2' := hT2
      try simp only [bs] at hT2'
      refine Tr.gq rfl rfl hT2 (QS.move rfl) rfl ?_
      refine Tr.gq rfl rfl hT2 (QS.leq rfl rfl) rfl ?_
      refine Tr.gq rfl rfl hF1 (QS.pickT rfl hT2 rfl) rfl ?_
      refine Tr.nil (Tr.thenN ?_)
      exact Tr.endX (Sub.cons rfl (Sub.dropN 3 (by kernel_rfl) rfl))
    · intro hF2
      refine Tr.gskip rfl rfl hF2 rfl ?_
      refine Tr.gskip rfl rfl hF2 rfl ?_
      refine Tr.gq rfl rfl hF1 (QS.pickF rfl hF2 rfl) rfl ?_
      refine Tr.nil (Tr.thenN ?_)
      exact Tr.endX (Sub.cons rfl (Sub.dropN 3 (by kernel_rfl) rfl))
    refine Tr.q (QS.pickF rfl hF1 rfl) rfl ?_
    refine Tr.nil (Tr.thenN ?_)
    exact Tr.endX (Sub.cons rfl (Sub.dropN 5 (by kernel_rfl) rfl))
  · intro hT1
    refine Tr.gskip rfl rfl hT1 rfl ?_
    refine Tr.gskip rfl rfl hT1 rfl ?_
    refine Tr.gskip rfl rfl hT1 rfl ?_
    refine Tr.gskipU rfl rfl rfl ?_
    refine Tr.gskipU rfl rfl rfl ?_
    refine Tr.gskip rfl rfl hT1 rfl ?_
    refine Tr.q (QS.pickT rfl hT1 rfl) rfl ?_
    refine Tr.nil (Tr.thenN ?_)
    exact Tr.endX (Sub.cons rfl (Sub.dropN 7 (by kernel_rfl) rfl))
  refine Tr.q (QS.move rfl) rfl ?_
  apply Tr.orP
  · exact (rfl : _ = (3, 13, 16))
  · exact rfl
  · intro hF3; have hF3' := hF3
    try simp only [bs] at hF3'
    refine Tr.gq rfl rfl hF3 (QS.move rfl) rfl ?_
    refine Tr.gq rfl rfl hF3 (QS.eql rfl rfl) rfl ?_
    refine Tr.q (QS.pickF rfl hF3 rfl) rfl ?_
    refine Tr.nil (Tr.thenN ?_)
    exact Tr.endX (Sub.cons rfl (Sub.dropN 3 (by kernel_rfl) rfl))
  · intro hT3
    refine Tr.gskip rfl rfl hT3 rfl ?_
    refine Tr.gskip rfl rfl hT3 rfl ?_
    refine Tr.q (QS.pickT rfl hT3 rfl) rfl ?_
    refine Tr.nil (Tr.thenN ?_)
    exact Tr.endX (Sub.cons rfl (Sub.dropN 3 (by kernel_rfl) rfl))
  refine Tr.q (QS.move rfl) rfl ?_
  apply Tr.orP
  · exact (rfl : _ = (3, 17, 20))
  · exact rfl
  · intro hF4; have hF4' := hF4
    try simp only [bs] at hF4'
    refine Tr.gq rfl rfl hF4 (QS.move rfl) rfl ?_
    refine Tr.gq rfl rfl hF4 (QS.eql rfl rfl) rfl ?_
    refine Tr.q (QS.pickF rfl hF4 rfl) rfl ?_
    refine Tr.nil (Tr.thenN ?_)
    exact Tr.endX (Sub.cons rfl (Sub.dropN 3 (by kernel_rfl) rfl))
  · intro hT4
    refine Tr.gskip rfl rfl hT4 rfl ?_
    refine Tr.gskip rfl rfl hT4 rfl ?_
    refine Tr.q (QS.pickT rfl hT4 rfl) rfl ?_
    refine Tr.nil (Tr.thenN ?_)
    exact Tr.endX (Sub.cons rfl (Sub.dropN 3 (by kernel_rfl) rfl))
  refine Tr.q (QS.move rfl) rfl ?_
  apply Tr.orP
  · exact (rfl : _ = (3, 21, 24))
  · exact rfl
  · intro hF5; have hF5' := hF5
    try simp only [bs] at hF5'
    refine Tr.gq rfl rfl hF5 (QS.move rfl) rfl ?_
    refine Tr.gq rfl rfl hF5 (QS.eql rfl rfl) rfl ?_
    refine Tr.q (QS.pickF rfl hF5 rfl) rfl ?_
    refine Tr.nil (Tr.thenN ?_)
    exact Tr.endX (Sub.cons rfl (Sub.dropN 3 (by kernel_rfl) rfl))
  · intro hT5
    refine Tr.gskip rfl rfl hT5 rfl ?_
    refine Tr.gskip rfl rfl hT5 rfl ?_
    refine Tr.q (QS.pickT rfl hT5 rfl) rfl ?_
    refine Tr.nil (Tr.thenN ?_)
    exact Tr.endX (Sub.cons rfl (Sub.dropN 3 (by kernel_rfl) rfl))
  refine Tr.q (QS.move rfl) rfl ?_
  apply Tr.orP
  · exact (rfl : _ = (3, 25, 28))
  · exact rfl
  · intro hF6; have hF6' := hF6
    try simp only [bs] at hF6'
    refine Tr.gq rfl rfl hF6 (QS.move rfl) rfl ?_
    refine Tr.gq rfl rfl hF6 (QS.eql rfl rfl) rfl ?_
    refine Tr.q (QS.pickF rfl hF6 rfl) rfl ?_
    refine Tr.nil (Tr.thenN ?_)
    exact Tr.endX (Sub.cons rfl (Sub.dropN 3 (by kernel_rfl) rfl))
  · intro hT6
    refine Tr.gskip rfl rfl hT6 rfl ?_
    refine Tr.gskip rfl rfl hT6 rfl ?_
    refine Tr.q (QS.pickT rfl hT6 rfl) rfl ?_
    refine Tr.nil (Tr.thenN ?_)
    exact Tr.endX (Sub.cons rfl (Sub.dropN 3 (by kernel_rfl) rfl))
  refine Tr.q (QS.move rfl) rfl ?_
  apply Tr.orP
  · exact (rfl : _ = (3, 29, 32))
  · exact rfl
  · intro hF7; have hF7' := hF7
    try simp only [bs] at hF7'
    refine Tr.gq rfl rfl hF7 (QS.move rfl) rfl ?_
    refine Tr.gq rfl rfl hF7 (QS.eql rfl rfl) rfl ?_
    refine Tr.q (QS.pickF rfl hF7 rfl) rfl ?_
    refine Tr.nil (Tr.thenN ?_)
    exact Tr.endX (Sub.cons rfl (Sub.dropN 3 (by kernel_rfl) rfl))
  · intro hT7
    refine Tr.gskip rfl rfl hT7 rfl ?_
    refine Tr.gskip rfl rfl hT7 rfl ?_
    refine Tr.q (QS.pickT rfl hT7 rfl) rfl ?_
    refine Tr.nil (Tr.thenN ?_)
    exact Tr.endX (Sub.cons rfl (Sub.dropN 3 (by kernel_rfl) rfl))
  refine Tr.q (QS.assign rfl) rfl ?_
  refine Tr.nil ?_
  refine Tr.thenN ?_
  refine Tr.ret ?_
  refine Tr.ret1 Try.results50 rfl (fun w' hw => ?_)
  exact ⟨rfl, hw.below (Bg.le.refl _)⟩

set_option maxRecDepth 100000 in
set_option maxHeartbeats 2000000 in
theorem flagRead_any (cc v : Int) (w : World) :
    Calls Try.prog 49 #[.int .i64 cc, .int .i64 v] w (fun e w' => e = .returned (.bool (flagReadP cc v)) ∧ Ext w w') := by
  refine enter Try.func49 rfl Try.ntmps49 rfl ?_
  refine Tr.seq ?_
  refine Tr.region ?_
  refine Tr.q (QS.assign rfl) rfl ?_
  refine Tr.nil ?_
  refine Tr.thenN ?_
  refine Tr.seq ?_
  refine Tr.seq ?_
  refine Tr.region ?_
  refine Tr.q (QS.move rfl) rfl ?_
  refine Tr.nil ?_
  refine Tr.thenN ?_
  refine Tr.block ?_
  refine Tr.seq ?_
  refine Tr.region ?_
  refine Tr.q (QS.eql rfl rfl) rfl ?_
  refine Tr.q (QS.assign rfl) rfl ?_
  refine Tr.nil ?_
  refine Tr.thenN ?_
  refine Tr.cond rfl (fun h1 => ?_) (fun h1 => ?_)
  · try simp only [bs] at h1
    refine Tr.seq ?_
    refine Tr.region ?_
    refine Tr.q (QS.move rfl) rfl ?_
    refine Tr.q (QS.eql rfl rfl) rfl ?_
    refine Tr.q (QS.move rfl) rfl ?_
    apply Tr.orP
    · exact (rfl : _ = (3, 10, 13))
    · exact rfl
    · intro hF2; have hF2' := hF2
      try simp only [bs] at hF2'
      refine Tr.gq rfl rfl hF2 (QS.move rfl) rfl ?_
      refine Tr.gq rfl rfl hF2 (QS.eql rfl rfl) rfl ?_
      refine Tr.q (QS.pickF rfl hF2 rfl) rfl ?_
      refine Tr.nil (Tr.thenN ?_)
      exact Tr.endX (Sub.cons rfl (Sub.dropN 3 (by kernel_rfl) rfl))
    · intro hT2
      refine Tr.gskip rfl rfl hT2 rfl ?_
      refine Tr.gskip rfl rfl hT2 rfl ?_
      refine Tr.q (QS.pickT rfl hT2 rfl) rfl ?_
      refine Tr.nil (Tr.thenN ?_)
      exact Tr.endX (Sub.cons rfl (Sub.dropN 3 (by kernel_rfl) rfl))
    refine Tr.q (QS.move rfl) rfl ?_
    apply Tr.orP
    · exact (rfl : _ = (3, 14, 17))
    · exact rfl
    · intro hF3; have hF3' := hF3
      try simp only [bs] at hF3'
      refine Tr.gq rfl rfl hF3 (QS.move rfl) rfl ?_
      refine Tr.gq rfl rfl hF3 (QS.eql rfl rfl) rfl ?_
      refine Tr.q (QS.pickF rfl hF3 rfl) rfl ?_
      refine Tr.nil (Tr.thenN ?_)
      exact Tr.endX (Sub.cons rfl (Sub.dropN 3 (by kernel_rfl) rfl))
    · intro hT3
      refine Tr.gskip rfl rfl hT3 rfl ?_
      refine Tr.gskip rfl rfl hT3 rfl ?_
      refine Tr.q (QS.pickT rfl hT3 rfl) rfl ?_
      refine Tr.nil (Tr.thenN ?_)
      exact Tr.endX (Sub.cons rfl (Sub.dropN 3 (by kernel_rfl) rfl))
    refine Tr.q (QS.move rfl) rfl ?_
    apply Tr.orP
    · exact (rfl : _ = (3, 18, 21))
    · exact rfl
    · intro hF4; have hF4' := hF4
      try simp only [bs] at hF4'
      refine Tr.gq rfl rfl hF4 (QS.move rfl) rfl ?_
      refine Tr.gq rfl rfl hF4 (QS.eql rfl rfl) rfl ?_
      refine Tr.q (QS.pickF rfl hF4 rfl) rfl ?_
      refine Tr.nil (Tr.thenN ?_)
      exact Tr.endX (Sub.cons rfl (Sub.dropN 3 (by kernel_rfl) rfl))
    · intro hT4
      refine Tr.gskip rfl rfl hT4 rfl ?_
      refine Tr.gskip rfl rfl hT4 rfl ?_
      refine Tr.q (QS.pickT rfl hT4 rfl) rfl ?_
      refine Tr.nil (Tr.thenN ?_)
      exact Tr.endX (Sub.cons rfl (Sub.dropN 3 (by kernel_rfl) rfl))
    refine Tr.q (QS.move rfl) rfl ?_
    apply Tr.orP
    · exact (rfl : _ = (3, 22, 25))
    · exact rfl
    · intro hF5; have hF5' := hF5
      try simp only [bs] at hF5'
      refine Tr.gq rfl rfl hF5 (QS.move rfl) rfl ?_
      refine Tr.gq rfl rfl hF5 (QS.eql rfl rfl) rfl ?_
      refine Tr.q (QS.pickF rfl hF5 rfl) rfl ?_
      refine Tr.nil (Tr.thenN ?_)
      exact Tr.endX (Sub.cons rfl (Sub.dropN 3 (by kernel_rfl) rfl))
    · intro hT5
      refine Tr.gskip rfl rfl hT5 rfl ?_
      refine Tr.gskip rfl rfl hT5 rfl ?_
      refine Tr.q (QS.pickT rfl hT5 rfl) rfl ?_
      refine Tr.nil (Tr.thenN ?_)
      exact Tr.endX (Sub.cons rfl (Sub.dropN 3 (by kernel_rfl) rfl))
    refine Tr.q (QS.move rfl) rfl ?_
    apply Tr.orP
    · exact (rfl : _ = (3, 26, 29))
    · exact rfl
    · intro hF6; have hF6' := hF6
      try simp only [bs] at hF6'
      refine Tr.gq rfl rfl hF6 (QS.move rfl) rfl ?_
      refine Tr.gq rfl rfl hF6 (QS.eql rfl rfl) rfl ?_
      refine Tr.q (QS.pickF rfl hF6 rfl) rfl ?_
      refine Tr.nil (Tr.thenN ?_)
      exact Tr.endX (Sub.cons rfl (Sub.dropN 3 (by kernel_rfl) rfl))
    · intro hT6
      refine Tr.gskip rfl rfl hT6 rfl ?_
      refine Tr.gskip rfl rfl hT6 rfl ?_
      refine Tr.q (QS.pickT rfl hT6 rfl) rfl ?_
      refine Tr.nil (Tr.thenN ?_)
      exact Tr.endX (Sub.cons rfl (Sub.dropN 3 (by kernel_rfl) rfl))
    refine Tr.q (QS.assign rfl) rfl ?_
    refine Tr.nil ?_
    refine Tr.thenN ?_
    refine Tr.ret ?_
    refine Tr.inR ?_
    refine Tr.thenR ?_
    refine Tr.ret1 Try.results49 rfl (fun w' hw => ?_)
    exact ⟨by clear hw; unfold flagReadP; (repeat (first | rw [if_pos (by first | assumption | omega | grind)] | rw [if_neg (by first | assumption | omega | grind)])) <;> rfl, hw.below (Bg.le.refl _)⟩
  · try simp only [bs] at h1
    refine Tr.seq ?_
    refine Tr.region ?_
    refine Tr.q (QS.eql rfl rfl) rfl ?_
    refine Tr.q (QS.assign rfl) rfl ?_
    refine Tr.nil ?_
    refine Tr.thenN ?_
    refine Tr.cond rfl (fun h7 => ?_) (fun h7 => ?_)
    · try simp only [bs] at h7
      refine Tr.seq ?_
      refine Tr.region ?_
      refine Tr.q (QS.move rfl) rfl ?_
      refine Tr.q (QS.geq rfl rfl) rfl ?_
      refine Tr.q (QS.move rfl) rfl ?_
      apply Tr.andP
      · exact (rfl : _ = (3, 34, 37))
      · exact rfl
      · intro hT8; have hT8' := hT8
        try simp only [bs] at hT8'
        refine Tr.gq rfl rfl hT8 (QS.move rfl) rfl ?_
        refine Tr.gq rfl rfl hT8 (QS.leq rfl rfl) rfl ?_
        refine Tr.q (QS.pickT rfl hT8 rfl) rfl ?_
        refine Tr.nil (Tr.thenN ?_)
        exact Tr.endX (Sub.cons rfl (Sub.dropN 3 (by kernel_rfl) rfl))
      · intro hF8
        refine Tr.gskip rfl rfl hF8 rfl ?_
        refine Tr.gskip rfl rfl hF8 rfl ?_
        refine Tr.q (QS.pickF rfl hF8 rfl) rfl ?_
        refine Tr.nil (Tr.thenN ?_)
        exact Tr.endX (Sub.cons rfl (Sub.dropN 3 (by kernel_rfl) rfl))
      refine Tr.q (QS.move rfl) rfl ?_
      apply Tr.orP
      · exact (rfl : _ = (3, 38, 41))
      · exact rfl
      · intro hF9; have hF9' := hF9
        try simp only [bs] at hF9'
        refine Tr.gq rfl rfl hF9 (QS.move rfl) rfl ?_
        refine Tr.gq rfl rfl hF9 (QS.eql rfl rfl) rfl ?_
        refine Tr.q (QS.pickF rfl hF9 rfl) rfl ?_
        refine Tr.nil (Tr.thenN ?_)
        exact Tr.endX (Sub.cons rfl (Sub.dropN 3 (by kernel_rfl) rfl))
      · intro hT9
        refine Tr.gskip rfl rfl hT9 rfl ?_
        refine Tr.gskip rfl rfl hT9 rfl ?_
        refine Tr.q (QS.pickT rfl hT9 rfl) rfl ?_
        refine Tr.nil (Tr.thenN ?_)
        exact Tr.endX (Sub.cons rfl (Sub.dropN 3 (by kernel_rfl) rfl))
      refine Tr.q (QS.move rfl) rfl ?_
      apply Tr.orP
      · exact (rfl : _ = (3, 42, 45))
      · exact rfl
      · intro hF10; have hF10' := hF10
        try simp only [bs] at hF10'
        refine Tr.gq rfl rfl hF10 (QS.move rfl) rfl ?_
        refine Tr.gq rfl rfl hF10 (QS.eql rfl rfl) rfl ?_
        refine Tr.q (QS.pickF rfl hF10 rfl) rfl ?_
        refine Tr.nil (Tr.thenN ?_)
        exact Tr.endX (Sub.cons rfl (Sub.dropN 3 (by kernel_rfl) rfl))
      · intro hT10
        refine Tr.gskip rfl rfl hT10 rfl ?_
        refine Tr.gskip rfl rfl hT10 rfl ?_
        refine Tr.q (QS.pickT rfl hT10 rfl) rfl ?_
        refine Tr.nil (Tr.thenN ?_)
        exact Tr.endX (Sub.cons rfl (Sub.dropN 3 (by kernel_rfl) rfl))
      refine Tr.q (QS.assign rfl) rfl ?_
      refine Tr.nil ?_
      refine Tr.thenN ?_
      refine Tr.ret ?_
      refine Tr.inR ?_
      refine Tr.thenR ?_
      refine Tr.ret1 Try.results49 rfl (fun w' hw => ?_)
      exact ⟨by clear hw; unfold flagReadP; (repeat (first | rw [if_pos (by first | assumption | omega | grind)] | rw [if_neg (by first | assumption | omega | grind)])) <;> rfl, hw.below (Bg.le.refl _)⟩
    · try simp only [bs] at h7
      refine Tr.seq ?_
      refine Tr.region ?_
      refine Tr.q (QS.eql rfl rfl) rfl ?_
      refine Tr.q (QS.assign rfl) rfl ?_
      refine Tr.nil ?_
      refine Tr.thenN ?_
      refine Tr.cond rfl (fun h11 => ?_) (fun h11 => ?_)
      · try simp only [bs] at h11
        refine Tr.seq ?_
        refine Tr.region ?_
        refine Tr.q (QS.move rfl) rfl ?_
        refine Tr.q (QS.geq rfl rfl) rfl ?_
        refine Tr.q (QS.move rfl) rfl ?_
        apply Tr.andP
        · exact (rfl : _ = (3, 50, 53))
        · exact rfl
        · intro hT12; have hT12' := hT12
          try simp only [bs] at hT12'
          refine Tr.gq rfl rfl hT12 (QS.move rfl) rfl ?_
          refine Tr.gq rfl rfl hT12 (QS.leq rfl rfl) rfl ?_
          refine Tr.q (QS.pickT rfl hT12 rfl) rfl ?_
          refine Tr.nil (Tr.thenN ?_)
          exact Tr.endX (Sub.cons rfl (Sub.dropN 3 (by kernel_rfl) rfl))
        · intro hF12
          refine Tr.gskip rfl rfl hF12 rfl ?_
          refine Tr.gskip rfl rfl hF12 rfl ?_
          refine Tr.q (QS.pickF rfl hF12 rfl) rfl ?_
          refine Tr.nil (Tr.thenN ?_)
          exact Tr.endX (Sub.cons rfl (Sub.dropN 3 (by kernel_rfl) rfl))
        refine Tr.q (QS.assign rfl) rfl ?_
        refine Tr.nil ?_
        refine Tr.thenN ?_
        refine Tr.ret ?_
        refine Tr.inR ?_
        refine Tr.thenR ?_
        refine Tr.ret1 Try.results49 rfl (fun w' hw => ?_)
        exact ⟨by clear hw; unfold flagReadP; (repeat (first | rw [if_pos (by first | assumption | omega | grind)] | rw [if_neg (by first | assumption | omega | grind)])) <;> rfl, hw.below (Bg.le.refl _)⟩
      · try simp only [bs] at h11
        refine Tr.skip ?_
        refine Tr.inN ?_
        refine Tr.thenN ?_
        refine Tr.seq ?_
        refine Tr.region ?_
        refine Tr.q (QS.move rfl) rfl ?_
        refine Tr.q (QS.geq rfl rfl) rfl ?_
        refine Tr.q (QS.move rfl) rfl ?_
        apply Tr.andP
        · exact (rfl : _ = (3, 56, 59))
        · exact rfl
        · intro hT13; have hT13' := hT13
          try simp only [bs] at hT13'
          refine Tr.gq rfl rfl hT13 (QS.move rfl) rfl ?_
          refine Tr.gq rfl rfl hT13 (QS.leq rfl rfl) rfl ?_
          refine Tr.q (QS.pickT rfl hT13 rfl) rfl ?_
          refine Tr.nil (Tr.thenN ?_)
          exact Tr.endX (Sub.cons rfl (Sub.dropN 3 (by kernel_rfl) rfl))
        · intro hF13
          refine Tr.gskip rfl rfl hF13 rfl ?_
          refine Tr.gskip rfl rfl hF13 rfl ?_
          refine Tr.q (QS.pickF rfl hF13 rfl) rfl ?_
          refine Tr.nil (Tr.thenN ?_)
          exact Tr.endX (Sub.cons rfl (Sub.dropN 3 (by kernel_rfl) rfl))
        refine Tr.q (QS.move rfl) rfl ?_
        apply Tr.orP
        · exact (rfl : _ = (3, 60, 63))
        · exact rfl
        · intro hF14; have hF14' := hF14
          try simp only [bs] at hF14'
          refine Tr.gq rfl rfl hF14 (QS.move rfl) rfl ?_
          refine Tr.gq rfl rfl hF14 (QS.eql rfl rfl) rfl ?_
          refine Tr.q (QS.pickF rfl hF14 rfl) rfl ?_
          refine Tr.nil (Tr.thenN ?_)
          exact Tr.endX (Sub.cons rfl (Sub.dropN 3 (by kernel_rfl) rfl))
        · intro hT14
          refine Tr.gskip rfl rfl hT14 rfl ?_
          refine Tr.gskip rfl rfl hT14 rfl ?_
          refine Tr.q (QS.pickT rfl hT14 rfl) rfl ?_
          refine Tr.nil (Tr.thenN ?_)
          exact Tr.endX (Sub.cons rfl (Sub.dropN 3 (by kernel_rfl) rfl))
        refine Tr.q (QS.move rfl) rfl ?_
        apply Tr.orP
        · exact (rfl : _ = (3, 64, 67))
        · exact rfl
        · intro hF15; have hF15' := hF15
          try simp only [bs] at hF15'
          refine Tr.gq rfl rfl hF15 (QS.move rfl) rfl ?_
          refine Tr.gq rfl rfl hF15 (QS.eql rfl rfl) rfl ?_
          refine Tr.q (QS.pickF rfl hF15 rfl) rfl ?_
          refine Tr.nil (Tr.thenN ?_)
          exact Tr.endX (Sub.cons rfl (Sub.dropN 3 (by kernel_rfl) rfl))
        · intro hT15
          refine Tr.gskip rfl rfl hT15 rfl ?_
          refine Tr.gskip rfl rfl hT15 rfl ?_
          refine Tr.q (QS.pickT rfl hT15 rfl) rfl ?_
          refine Tr.nil (Tr.thenN ?_)
          exact Tr.endX (Sub.cons rfl (Sub.dropN 3 (by kernel_rfl) rfl))
        refine Tr.q (QS.assign rfl) rfl ?_
        refine Tr.nil ?_
        refine Tr.thenN ?_
        refine Tr.ret ?_
        refine Tr.ret1 Try.results49 rfl (fun w' hw => ?_)
        exact ⟨by clear hw; unfold flagReadP; (repeat (first | rw [if_pos (by first | assumption | omega | grind)] | rw [if_neg (by first | assumption | omega | grind)])) <;> rfl, hw.below (Bg.le.refl _)⟩

set_option maxRecDepth 100000 in
set_option maxHeartbeats 2000000 in
theorem refReads_any (i : Ins) (w : World) :
    Calls Try.prog 18 #[.agg (encIns.enc i).toArray] w (fun e w' => ∃ V, e = .returned V ∧ Ext w w' ∧ NewRow w w' 3 encInt (refReadsP i) V) := by
  refine enter Try.func18 rfl Try.ntmps18 rfl ?_
  refine Tr.seq ?_
  refine Tr.region ?_
  refine Tr.box rfl rfl rfl (fun b1 => ?_)
  refine Tr.q (QS.assign rfl) rfl ?_
  refine Tr.nil ?_
  refine Tr.thenN ?_
  refine Tr.seq ?_
  refine Tr.region ?_
  refine Tr.q (QS.assign rfl) rfl ?_
  refine Tr.nil ?_
  refine Tr.thenN ?_
  refine Tr.seq ?_
  refine Tr.seq ?_
  refine Tr.region ?_
  refine Tr.q (QS.lW rfl Try.isAgg27 Try.sizeOf27) rfl ?_
  refine Tr.q (QS.call rfl Try.call24 (fun w hw => refValid_any i w)) rfl ?_
  refine Tr.q (QS.not rfl) rfl ?_
  refine Tr.nil ?_
  refine Tr.thenN ?_
  refine Tr.cond rfl (fun h2 => ?_) (fun h2 => ?_)
  · try simp only [bs] at h2
    refine Tr.seq ?_
    refine Tr.region ?_
    refine Tr.q (QS.move rfl) rfl ?_
    refine Tr.q (QS.assign rfl) rfl ?_
    refine Tr.nil ?_
    refine Tr.thenN ?_
    refine Tr.ret ?_
    refine Tr.thenR ?_
    refine Tr.ret1 Try.results18 rfl (fun w' hw => ?_)
    exact ⟨_, rfl, hw.below (Bg.le.refl _), newRow_nil (by unfold refReadsP; rw [if_neg (by assumption)])⟩
  · try simp only [bs] at h2
    refine Tr.skip ?_
    refine Tr.thenN ?_
    refine Tr.seq ?_
    refine Tr.seq ?_
    refine Tr.region ?_
    refine Tr.q (QS.assign rfl) rfl ?_
    refine Tr.nil ?_
    refine Tr.thenN ?_
    refine Tr.block ?_
    refine Tr.ownNil 3 encInt ?_
    refine Tr.loop (ι := Nat × Value) (fun ⟨k, V'⟩ => k ≤ 12) (fun _ => _) (fun ⟨k, V'⟩ => [rowE V' 3 encInt (pickN (readB i) k), cellE b1 (encIns.enc i) 27]) (fun ⟨k, V'⟩ => [(4, .int .i64 (k : Nat)), (3, V')]) (fun ⟨k, V'⟩ => 12 - k) (0, _) (Nat.zero_le _) (.cons (by first | rfl | exact lookI rfl (by omega) | exact lookI rfl (by simp) | exact lookB rfl (by simp)) (.cons (by first | rfl | exact lookI rfl (by omega) | exact lookI rfl (by simp) | exact lookB rfl (by simp)) Front.nil)) (by repeat' (first | exact Pick.nil _ | exact Del.here _ | apply Pick.cons | apply Del.there)) rfl (fun i hi m hm => ?_)
    obtain ⟨k, V'⟩ := i
    replace hi : k ≤ 12 := hi
    replace hm : m = 12 - k := hm
    change Tr _ _ [rowE V' 3 encInt (pickN (readB i) k), cellE b1 (encIns.enc i) 27] ([(4, .int .i64 (k : Nat)), (3, V')] ++ _) _
    have hpl := pickN_len (readB i) k
    refine Tr.seq ?_
    refine Tr.seq ?_
    refine Tr.region ?_
    refine Tr.q (QS.move rfl) rfl ?_
    refine Tr.q (QS.lss rfl rfl) rfl ?_
    refine Tr.nil ?_
    refine Tr.thenN ?_
    refine Tr.cond rfl (fun h3 => ?_) (fun h3 => ?_)
    · try simp only [bs] at h3
      refine Tr.skip ?_
      refine Tr.thenN ?_
      refine Tr.seq ?_
      refine Tr.block ?_
      refine Tr.seq ?_
      refine Tr.region ?_
      refine Tr.q (QS.move rfl) rfl ?_
      refine Tr.q (QS.eql rfl rfl) rfl ?_
      refine Tr.q (QS.move rfl) rfl ?_
      apply Tr.andP
      · exact (rfl : _ = (4, 15, 19))
      · exact rfl
      · intro hT4; have hT4' := hT4
        try simp only [bs] at hT4'
        refine Tr.gq rfl rfl hT4 (QS.fieldAddr (off := 2) (ft := 3) rfl Try.underlying27 rfl rfl Try.sizeOf3 (by decide)) rfl ?_
        refine Tr.gq rfl rfl hT4 (QS.lV rfl Try.isAgg3) rfl ?_
        refine Tr.gq rfl rfl hT4 (QS.call rfl Try.call45 (fun w hw => usesStack_any i.op w)) rfl ?_
        refine Tr.q (QS.pickT rfl hT4 rfl) rfl ?_
        refine Tr.nil (Tr.thenN ?_)
        exact Tr.endX (Sub.cons rfl (Sub.dropN 4 (by kernel_rfl) rfl))
      · intro hF4
        refine Tr.gskip rfl rfl hF4 rfl ?_
        refine Tr.gskip rfl rfl hF4 rfl ?_
        refine Tr.gskip rfl rfl hF4 rfl ?_
        refine Tr.q (QS.pickF rfl hF4 rfl) rfl ?_
        refine Tr.nil (Tr.thenN ?_)
        exact Tr.endX (Sub.cons rfl (Sub.dropN 4 (by kernel_rfl) rfl))
      refine Tr.q (QS.move rfl) rfl ?_
      apply Tr.orP
      · exact (rfl : _ = (24, 20, 44))
      · exact rfl
      · intro hF5; have hF5' := hF5
        try simp only [bs] at hF5'
        refine Tr.gq rfl rfl hF5 (QS.move rfl) rfl ?_
        refine Tr.gq rfl rfl hF5 (QS.lss rfl rfl) rfl ?_
        refine Tr.gq rfl rfl hF5 (QS.move rfl) rfl ?_
        apply Tr.andP
        · exact (rfl : _ = (20, 23, 43))
        · exact rfl
        · intro hT6; have hT6' := hT6
          try simp only [bs] at hT6'
          refine Tr.gq rfl rfl hT6 (QS.fieldAddr (off := 2) (ft := 3) rfl Try.underlying27 rfl rfl Try.sizeOf3 (by decide)) rfl ?_
          refine Tr.gq rfl rfl hT6 (QS.lV rfl Try.isAgg3) rfl ?_
          refine Tr.gq rfl rfl hT6 (QS.call rfl Try.call46 (fun w hw => readsA_any i.op w)) rfl ?_
          refine Tr.gq rfl rfl hT6 (QS.move rfl) rfl ?_
          apply Tr.andP
          · exact (rfl : _ = (5, 27, 32))
          · exact rfl
          · intro hT7; have hT7' := hT7
            try simp only [bs] at hT7'
            refine Tr.gq rfl rfl hT7 (QS.move rfl) rfl ?_
            refine Tr.gq rfl rfl hT7 (QS.fieldAddr (off := 6) (ft := 3) rfl Try.underlying27 rfl rfl Try.sizeOf3 (by decide)) rfl ?_
            refine Tr.gq rfl rfl hT7 (QS.lV rfl Try.isAgg3) rfl ?_
            refine Tr.gq rfl rfl hT7 (QS.eql rfl rfl) rfl ?_
            refine Tr.gq rfl rfl hT6 (QS.pickT rfl hT7 rfl) rfl ?_
            refine Tr.nil (Tr.thenN ?_)
            exact Tr.endX (Sub.cons rfl (Sub.dropN 5 (by kernel_rfl) rfl))
          · intro hF7
            refine Tr.gskip rfl rfl hF7 rfl ?_
            refine Tr.gskip rfl rfl hF7 rfl ?_
            refine Tr.gskip rfl rfl hF7 rfl ?_
            refine Tr.gskip rfl rfl hF7 rfl ?_
            refine Tr.gq rfl rfl hT6 (QS.pickF rfl hF7 rfl) rfl ?_
            refine Tr.nil (Tr.thenN ?_)
            exact Tr.endX (Sub.cons rfl (Sub.dropN 5 (by kernel_rfl) rfl))
          refine Tr.gq rfl rfl hT6 (QS.move rfl) rfl ?_
          apply Tr.orP
          · exact (rfl : _ = (9, 33, 42))
          · exact rfl
          · intro hF8; have hF8' := hF8
            try simp only [bs] at hF8'
            refine Tr.gq rfl rfl hF8 (QS.lW rfl Try.isAgg27 Try.sizeOf27) rfl ?_
            refine Tr.gq rfl rfl hF8 (QS.call rfl Try.call47 (fun w hw => hasB_any i w)) rfl ?_
            refine Tr.gq rfl rfl hF8 (QS.move rfl) rfl ?_
            apply Tr.andP
            · exact (rfl : _ = (5, 36, 41))
            · exact rfl
            · intro hT9; have hT9' := hT9
              try simp only [bs] at hT9'
              refine Tr.gq rfl rfl hT9 (QS.move rfl) rfl ?_
              refine Tr.gq rfl rfl hT9 (QS.fieldAddr (off := 7) (ft := 3) rfl Try.underlying27 rfl rfl Try.sizeOf3 (by decide)) rfl ?_
              refine Tr.gq rfl rfl hT9 (QS.lV rfl Try.isAgg3) rfl ?_
              refine Tr.gq rfl rfl hT9 (QS.eql rfl rfl) rfl ?_
              refine Tr.gq rfl rfl hF8 (QS.pickT rfl hT9 rfl) rfl ?_
              refine Tr.nil (Tr.thenN ?_)
              exact Tr.endX (Sub.cons rfl (Sub.dropN 5 (by kernel_rfl) rfl))
            · intro hF9
              refine Tr.gskip rfl rfl hF9 rfl ?_
              refine Tr.gskip rfl rfl hF9 rfl ?_
              refine Tr.gskip rfl rfl hF9 rfl ?_
              refine Tr.gskip rfl rfl hF9 rfl ?_
              refine Tr.gq rfl rfl hF8 (QS.pickF rfl hF9 rfl) rfl ?_
              refine Tr.nil (Tr.thenN ?_)
              exact Tr.endX (Sub.cons rfl (Sub.dropN 5 (by kernel_rfl) rfl))
            refine Tr.gq rfl rfl hT6 (QS.pickF rfl hF8 rfl) rfl ?_
            refine Tr.nil (Tr.thenN ?_)
            exact Tr.endX (Sub.cons rfl (Sub.dropN 5 (by kernel_rfl) rfl))
          · intro hT8
            refine Tr.gskip rfl rfl hT8 rfl ?_
            refine Tr.gskip rfl rfl hT8 rfl ?_
            refine Tr.gskip rfl rfl hT8 rfl ?_
            refine Tr.gskipU rfl rfl rfl ?_
            refine Tr.gskipU rfl rfl rfl ?_
            refine Tr.gskipU rfl rfl rfl ?_
            refine Tr.gskipU rfl rfl rfl ?_
            refine Tr.gskip rfl rfl hT8 rfl ?_
            refine Tr.gq rfl rfl hT6 (QS.pickT rfl hT8 rfl) rfl ?_
            refine Tr.nil (Tr.thenN ?_)
            exact Tr.endX (Sub.cons rfl (Sub.dropN 9 (by kernel_rfl) rfl))
          refine Tr.gq rfl rfl hF5 (QS.pickT rfl hT6 rfl) rfl ?_
          refine Tr.nil (Tr.thenN ?_)
          exact Tr.endX (Sub.cons rfl (Sub.dropN 8 (by kernel_rfl) rfl))
        · intro hF6
          refine Tr.gskip rfl rfl hF6 rfl ?_
          refine Tr.gskip rfl rfl hF6 rfl ?_
          refine Tr.gskip rfl rfl hF6 rfl ?_
          refine Tr.gskip rfl rfl hF6 rfl ?_
          refine Tr.gskipU rfl rfl rfl ?_
          refine Tr.gskipU rfl rfl rfl ?_
          refine Tr.gskipU rfl rfl rfl ?_
          refine Tr.gskipU rfl rfl rfl ?_
          refine Tr.gskip rfl rfl hF6 rfl ?_
          refine Tr.gskip rfl rfl hF6 rfl ?_
          refine Tr.gskipU rfl rfl rfl ?_
          refine Tr.gskipU rfl rfl rfl ?_
          refine Tr.gskipU rfl rfl rfl ?_
          refine Tr.gskipU rfl rfl rfl ?_
          refine Tr.gskipU rfl rfl rfl ?_
          refine Tr.gskipU rfl rfl rfl ?_
          refine Tr.gskipU rfl rfl rfl ?_
          refine Tr.gskipU rfl rfl rfl ?_
          refine Tr.gskip rfl rfl hF6 rfl ?_
          refine Tr.gq rfl rfl hF5 (QS.pickF rfl hF6 rfl) rfl ?_
          refine Tr.nil (Tr.thenN ?_)
          exact Tr.endX (Sub.cons rfl (Sub.dropN 20 (by kernel_rfl) rfl))
        refine Tr.q (QS.pickF rfl hF5 rfl) rfl ?_
        refine Tr.nil (Tr.thenN ?_)
        exact Tr.endX (Sub.cons rfl (Sub.dropN 5 (by kernel_rfl) rfl))
      · intro hT5
        refine Tr.gskip rfl rfl hT5 rfl ?_
        refine Tr.gskip rfl rfl hT5 rfl ?_
        refine Tr.gskip rfl rfl hT5 rfl ?_
        refine Tr.gskipU rfl rfl rfl ?_
        refine Tr.gskipU rfl rfl rfl ?_
        refine Tr.gskipU rfl rfl rfl ?_
        refine Tr.gskipU rfl rfl rfl ?_
        refine Tr.gskipU rfl rfl rfl ?_
        refine Tr.gskipU rfl rfl rfl ?_
        refine Tr.gskipU rfl rfl rfl ?_
        refine Tr.gskipU rfl rfl rfl ?_
        refine Tr.gskipU rfl rfl rfl ?_
        refine Tr.gskipU rfl rfl rfl ?_
        refine Tr.gskipU rfl rfl rfl ?_
        refine Tr.gskipU rfl rfl rfl ?_
        refine Tr.gskipU rfl rfl rfl ?_
        refine Tr.gskipU rfl rfl rfl ?_
        refine Tr.gskipU rfl rfl rfl ?_
        refine Tr.gskipU rfl rfl rfl ?_
        refine Tr.gskipU rfl rfl rfl ?_
        refine Tr.gskipU rfl rfl rfl ?_
        refine Tr.gskipU rfl rfl rfl ?_
        refine Tr.gskip rfl rfl hT5 rfl ?_
        refine Tr.q (QS.pickT rfl hT5 rfl) rfl ?_
        refine Tr.nil (Tr.thenN ?_)
        exact Tr.endX (Sub.cons rfl (Sub.dropN 24 (by kernel_rfl) rfl))
      refine Tr.q (QS.move rfl) rfl ?_
      apply Tr.orP
      · exact (rfl : _ = (14, 45, 59))
      · exact rfl
      · intro hF10; have hF10' := hF10
        try simp only [bs] at hF10'
        refine Tr.gq rfl rfl hF10 (QS.move rfl) rfl ?_
        refine Tr.gq rfl rfl hF10 (QS.geq rfl rfl) rfl ?_
        refine Tr.gq rfl rfl hF10 (QS.move rfl) rfl ?_
        apply Tr.andP
        · exact (rfl : _ = (4, 48, 52))
        · exact rfl
        · intro hT11; have hT11' := hT11
          try simp only [bs] at hT11'
          refine Tr.gq rfl rfl hT11 (QS.fieldAddr (off := 2) (ft := 3) rfl Try.underlying27 rfl rfl Try.sizeOf3 (by decide)) rfl ?_
          refine Tr.gq rfl rfl hT11 (QS.lV rfl Try.isAgg3) rfl ?_
          refine Tr.gq rfl rfl hT11 (QS.call rfl Try.call48 (fun w hw => hasCc_any i.op w)) rfl ?_
          refine Tr.gq rfl rfl hF10 (QS.pickT rfl hT11 rfl) rfl ?_
          refine Tr.nil (Tr.thenN ?_)
          exact Tr.endX (Sub.cons rfl (Sub.dropN 4 (by kernel_rfl) rfl))
        · intro hF11
          refine Tr.gskip rfl rfl hF11 rfl ?_
          refine Tr.gskip rfl rfl hF11 rfl ?_
          refine Tr.gskip rfl rfl hF11 rfl ?_
          refine Tr.gq rfl rfl hF10 (QS.pickF rfl hF11 rfl) rfl ?_
          refine Tr.nil (Tr.thenN ?_)
          exact Tr.endX (Sub.cons rfl (Sub.dropN 4 (by kernel_rfl) rfl))
        refine Tr.gq rfl rfl hF10 (QS.move rfl) rfl ?_
        apply Tr.andP
        · exact (rfl : _ = (5, 53, 58))
        · exact rfl
        · intro hT12; have hT12' := hT12
          try simp only [bs] at hT12'
          refine Tr.gq rfl rfl hT12 (QS.fieldAddr (off := 5) (ft := 3) rfl Try.underlying27 rfl rfl Try.sizeOf3 (by decide)) rfl ?_
          refine Tr.gq rfl rfl hT12 (QS.lV rfl Try.isAgg3) rfl ?_
          refine Tr.gq rfl rfl hT12 (QS.move rfl) rfl ?_
          refine Tr.gq rfl rfl hT12 (QS.call rfl Try.call49 (fun w hw => flagRead_any i.cc k w)) rfl ?_
          refine Tr.gq rfl rfl hF10 (QS.pickT rfl hT12 rfl) rfl ?_
          refine Tr.nil (Tr.thenN ?_)
          exact Tr.endX (Sub.cons rfl (Sub.dropN 5 (by kernel_rfl) rfl))
        · intro hF12
          refine Tr.gskip rfl rfl hF12 rfl ?_
          refine Tr.gskip rfl rfl hF12 rfl ?_
          refine Tr.gskip rfl rfl hF12 rfl ?_
          refine Tr.gskip rfl rfl hF12 rfl ?_
          refine Tr.gq rfl rfl hF10 (QS.pickF rfl hF12 rfl) rfl ?_
          refine Tr.nil (Tr.thenN ?_)
          exact Tr.endX (Sub.cons rfl (Sub.dropN 5 (by kernel_rfl) rfl))
        refine Tr.q (QS.pickF rfl hF10 rfl) rfl ?_
        refine Tr.nil (Tr.thenN ?_)
        exact Tr.endX (Sub.cons rfl (Sub.dropN 7 (by kernel_rfl) rfl))
      · intro hT10
        refine Tr.gskip rfl rfl hT10 rfl ?_
        refine Tr.gskip rfl rfl hT10 rfl ?_
        refine Tr.gskip rfl rfl hT10 rfl ?_
        refine Tr.gskipU rfl rfl rfl ?_
        refine Tr.gskipU rfl rfl rfl ?_
        refine Tr.gskipU rfl rfl rfl ?_
        refine Tr.gskip rfl rfl hT10 rfl ?_
        refine Tr.gskip rfl rfl hT10 rfl ?_
        refine Tr.gskipU rfl rfl rfl ?_
        refine Tr.gskipU rfl rfl rfl ?_
        refine Tr.gskipU rfl rfl rfl ?_
        refine Tr.gskipU rfl rfl rfl ?_
        refine Tr.gskip rfl rfl hT10 rfl ?_
        refine Tr.q (QS.pickT rfl hT10 rfl) rfl ?_
        refine Tr.nil (Tr.thenN ?_)
        exact Tr.endX (Sub.cons rfl (Sub.dropN 14 (by kernel_rfl) rfl))
      refine Tr.nil ?_
      refine Tr.thenN ?_
      refine Tr.cond rfl (fun h13 => ?_) (fun h13 => ?_)
      · try simp only [bs] at h13
        refine Tr.region ?_
        refine Tr.q (QS.move rfl) rfl ?_
        refine Tr.q (QS.move rfl) rfl ?_
        refine Tr.lit1 (E := encInt) _ rfl rfl Try.underlying36 Try.sizeOf3 Try.zeroValue3 (by rfl) (by rfl) rfl (fun V14 => ?_)
        first | refine Tr.append1 rfl rfl (by repeat (first | exact Del.here _ | apply Del.there)) (by repeat (first | exact Del.here _ | apply Del.there)) Try.underlying36 HLF.info3 (by rfl) (by rfl) (by (try simp only [List.length_cons, List.length_nil, List.length_append, List.length_take]); omega) (by unfold maxLen; (try simp only [List.length_cons, List.length_nil, List.length_append, List.length_take]); omega) rfl (fun V15 => ?_) | refine Tr.ownNil _ _ (Tr.append1 rfl rfl (by repeat (first | exact Del.here _ | apply Del.there)) (by repeat (first | exact Del.here _ | apply Del.there)) Try.underlying36 HLF.info3 (by rfl) (by rfl) (by (try simp only [List.length_cons, List.length_nil, List.length_append, List.length_take]); omega) (by unfold maxLen; (try simp only [List.length_cons, List.length_nil, List.length_append, List.length_take]); omega) rfl (fun V15 => ?_)) | refine Tr.appendOf rfl rfl (by repeat (first | exact Del.here _ | apply Del.there)) (fun w hw => hw.slF (by assumption)) Try.underlying36 HLF.info3 (by rfl) (by rfl) (by (try simp only [List.length_cons, List.length_nil, List.length_append, List.length_take]); omega) (by unfold maxLen; (try simp only [List.length_cons, List.length_nil, List.length_append, List.length_take]); omega) rfl (fun V15 => ?_) | refine Tr.ownNil _ _ (Tr.appendOf rfl rfl (by repeat (first | exact Del.here _ | apply Del.there)) (fun w hw => hw.slF (by assumption)) Try.underlying36 HLF.info3 (by rfl) (by rfl) (by (try simp only [List.length_cons, List.length_nil, List.length_append, List.length_take]); omega) (by unfold maxLen; (try simp only [List.length_cons, List.length_nil, List.length_append, List.length_take]); omega) rfl (fun V15 => ?_)) | refine Tr.appendOf rfl rfl (by repeat (first | exact Del.here _ | apply Del.there)) (fun w hw => hw.row (by repeat (first | exact List.Mem.head _ | apply List.Mem.tail))) Try.underlying36 HLF.info3 (by rfl) (by rfl) (by (try simp only [List.length_cons, List.length_nil, List.length_append, List.length_take]); omega) (by unfold maxLen; (try simp only [List.length_cons, List.length_nil, List.length_append, List.length_take]); omega) rfl (fun V15 => ?_)
        refine Tr.q (QS.assign rfl) rfl ?_
        refine Tr.nil ?_
        refine Tr.inN ?_
        refine Tr.thenN ?_
        refine Tr.region ?_
        refine Tr.q (QS.move rfl) rfl ?_
        first | refine Tr.q (QS.addI rfl rfl (by omega)) rfl ?_ | refine Tr.q (QS.add rfl rfl) rfl ?_
        refine Tr.q (QS.assign rfl) rfl ?_
        refine Tr.nil ?_
        refine Tr.thenN ?_
        have hp := pickN_yes (p := readB i) (k := k) (by unfold readB; grind)
        rw [← hp]
        apply Tr.again (k + 1, _)
        · exact rfl
        · exact (.cons (by first | rfl | exact lookI rfl (by omega) | exact lookI rfl (by simp) | exact lookB rfl (by simp)) (.cons (by first | rfl | exact lookI rfl (by omega) | exact lookI rfl (by simp) | exact lookB rfl (by simp)) Front.nil))
        · exact SubX.dropN 20 (by kernel_rfl) rfl
        · exact (by repeat' (first | exact Pick.nil _ | exact Del.here _ | apply Pick.cons | apply Del.there))
        · exact (by show k + 1 ≤ _; omega)
        · exact (by (try dsimp only); omega)
      · try simp only [bs] at h13
        refine Tr.skip ?_
        refine Tr.inN ?_
        refine Tr.thenN ?_
        refine Tr.region ?_
        refine Tr.q (QS.move rfl) rfl ?_
        first | refine Tr.q (QS.addI rfl rfl (by omega)) rfl ?_ | refine Tr.q (QS.add rfl rfl) rfl ?_
        refine Tr.q (QS.assign rfl) rfl ?_
        refine Tr.nil ?_
        refine Tr.thenN ?_
        have hp := pickN_no (p := readB i) (k := k) (by unfold readB; grind)
        rw [← hp]
        apply Tr.again (k + 1, _)
        · exact rfl
        · exact (.cons (by first | rfl | exact lookI rfl (by omega) | exact lookI rfl (by simp) | exact lookB rfl (by simp)) (.cons (by first | rfl | exact lookI rfl (by omega) | exact lookI rfl (by simp) | exact lookB rfl (by simp)) Front.nil))
        · exact SubX.dropN 15 (by kernel_rfl) rfl
        · exact (by repeat' (first | exact Pick.nil _ | exact Del.here _ | apply Pick.cons | apply Del.there))
        · exact (by show k + 1 ≤ _; omega)
        · exact (by (try dsimp only); omega)
    · try simp only [bs] at h3
      refine Tr.exit ?_
      refine Tr.thenE ?_
      refine Tr.thenE ?_
      refine Tr.inHit ?_
      refine Tr.thenN ?_
      refine Tr.seq ?_
      refine Tr.region ?_
      refine Tr.q (QS.move rfl) rfl ?_
      refine Tr.q (QS.assign rfl) rfl ?_
      refine Tr.nil ?_
      refine Tr.thenN ?_
      refine Tr.ret ?_
      refine Tr.ret1 Try.results18 rfl (fun w' hw => ?_)
      exact ⟨_, rfl, hw.below (Bg.le.refl _), by obtain rfl : k = 12 := (by omega); unfold refReadsP; rw [if_pos (by first | assumption | grind)]; exact hw.new (.head _)⟩

set_option maxRecDepth 100000 in
set_option maxHeartbeats 2000000 in
theorem refWrites_any (i : Ins) (w : World) :
    Calls Try.prog 20 #[.agg (encIns.enc i).toArray] w (fun e w' => ∃ V, e = .returned V ∧ Ext w w' ∧ NewRow w w' 3 encInt (refWritesP i) V) := by
  refine enter Try.func20 rfl Try.ntmps20 rfl ?_
  refine Tr.seq ?_
  refine Tr.region ?_
  refine Tr.box rfl rfl rfl (fun b1 => ?_)
  refine Tr.q (QS.assign rfl) rfl ?_
  refine Tr.nil ?_
  refine Tr.thenN ?_
  refine Tr.seq ?_
  refine Tr.region ?_
  refine Tr.q (QS.assign rfl) rfl ?_
  refine Tr.nil ?_
  refine Tr.thenN ?_
  refine Tr.seq ?_
  refine Tr.seq ?_
  refine Tr.region ?_
  refine Tr.q (QS.lW rfl Try.isAgg27 Try.sizeOf27) rfl ?_
  refine Tr.q (QS.call rfl Try.call24 (fun w hw => refValid_any i w)) rfl ?_
  refine Tr.q (QS.not rfl) rfl ?_
  refine Tr.nil ?_
  refine Tr.thenN ?_
  refine Tr.cond rfl (fun h2 => ?_) (fun h2 => ?_)
  · try simp only [bs] at h2
    refine Tr.seq ?_
    refine Tr.region ?_
    refine Tr.q (QS.move rfl) rfl ?_
    refine Tr.q (QS.assign rfl) rfl ?_
    refine Tr.nil ?_
    refine Tr.thenN ?_
    refine Tr.ret ?_
    refine Tr.thenR ?_
    refine Tr.ret1 Try.results20 rfl (fun w' hw => ?_)
    exact ⟨_, rfl, hw.below (Bg.le.refl _), newRow_nil (by unfold refWritesP; rw [if_neg (by assumption)])⟩
  · try simp only [bs] at h2
    refine Tr.skip ?_
    refine Tr.thenN ?_
    refine Tr.seq ?_
    refine Tr.seq ?_
    refine Tr.region ?_
    refine Tr.q (QS.assign rfl) rfl ?_
    refine Tr.nil ?_
    refine Tr.thenN ?_
    refine Tr.block ?_
    refine Tr.ownNil 3 encInt ?_
    refine Tr.loop (ι := Nat × Value) (fun ⟨k, V'⟩ => k ≤ 12) (fun _ => _) (fun ⟨k, V'⟩ => [rowE V' 3 encInt (pickN (writeB i) k), cellE b1 (encIns.enc i) 27]) (fun ⟨k, V'⟩ => [(4, .int .i64 (k : Nat)), (3, V')]) (fun ⟨k, V'⟩ => 12 - k) (0, _) (Nat.zero_le _) (.cons (by first | rfl | exact lookI rfl (by omega) | exact lookI rfl (by simp) | exact lookB rfl (by simp)) (.cons (by first | rfl | exact lookI rfl (by omega) | exact lookI rfl (by simp) | exact lookB rfl (by simp)) Front.nil)) (by repeat' (first | exact Pick.nil _ | exact Del.here _ | apply Pick.cons | apply Del.there)) rfl (fun i hi m hm => ?_)
    obtain ⟨k, V'⟩ := i
    replace hi : k ≤ 12 := hi
    replace hm : m = 12 - k := hm
    change Tr _ _ [rowE V' 3 encInt (pickN (writeB i) k), cellE b1 (encIns.enc i) 27] ([(4, .int .i64 (k : Nat)), (3, V')] ++ _) _
    have hpl := pickN_len (writeB i) k
    refine Tr.seq ?_
    refine Tr.seq ?_
    refine Tr.region ?_
    refine Tr.q (QS.move rfl) rfl ?_
    refine Tr.q (QS.lss rfl rfl) rfl ?_
    refine Tr.nil ?_
    refine Tr.thenN ?_
    refine Tr.cond rfl (fun h3 => ?_) (fun h3 => ?_)
    · try simp only [bs] at h3
      refine Tr.skip ?_
      refine Tr.thenN ?_
      refine Tr.seq ?_
      refine Tr.block ?_
      refine Tr.seq ?_
      refine Tr.region ?_
      refine Tr.q (QS.move rfl) rfl ?_
      refine Tr.q (QS.eql rfl rfl) rfl ?_
      refine Tr.q (QS.move rfl) rfl ?_
      apply Tr.andP
      · exact (rfl : _ = (4, 15, 19))
      · exact rfl
      · intro hT4; have hT4' := hT4
        try simp only [bs] at hT4'
        refine Tr.gq rfl rfl hT4 (QS.fieldAddr (off := 2) (ft := 3) rfl Try.underlying27 rfl rfl Try.sizeOf3 (by decide)) rfl ?_
        refine Tr.gq rfl rfl hT4 (QS.lV rfl Try.isAgg3) rfl ?_
        refine Tr.gq rfl rfl hT4 (QS.call rfl Try.call45 (fun w hw => usesStack_any i.op w)) rfl ?_
        refine Tr.q (QS.pickT rfl hT4 rfl) rfl ?_
        refine Tr.nil (Tr.thenN ?_)
        exact Tr.endX (Sub.cons rfl (Sub.dropN 4 (by kernel_rfl) rfl))
      · intro hF4
        refine Tr.gskip rfl rfl hF4 rfl ?_
        refine Tr.gskip rfl rfl hF4 rfl ?_
        refine Tr.gskip rfl rfl hF4 rfl ?_
        refine Tr.q (QS.pickF rfl hF4 rfl) rfl ?_
        refine Tr.nil (Tr.thenN ?_)
        exact Tr.endX (Sub.cons rfl (Sub.dropN 4 (by kernel_rfl) rfl))
      refine Tr.q (QS.move rfl) rfl ?_
      apply Tr.orP
      · exact (rfl : _ = (14, 20, 34))
      · exact rfl
      · intro hF5; have hF5' := hF5
        try simp only [bs] at hF5'
        refine Tr.gq rfl rfl hF5 (QS.move rfl) rfl ?_
        refine Tr.gq rfl rfl hF5 (QS.lss rfl rfl) rfl ?_
        refine Tr.gq rfl rfl hF5 (QS.move rfl) rfl ?_
        apply Tr.andP
        · exact (rfl : _ = (4, 23, 27))
        · exact rfl
        · intro hT6; have hT6' := hT6
          try simp only [bs] at hT6'
          refine Tr.gq rfl rfl hT6 (QS.fieldAddr (off := 2) (ft := 3) rfl Try.underlying27 rfl rfl Try.sizeOf3 (by decide)) rfl ?_
          refine Tr.gq rfl rfl hT6 (QS.lV rfl Try.isAgg3) rfl ?_
          refine Tr.gq rfl rfl hT6 (QS.call rfl Try.call50 (fun w hw => writesA_any i.op w)) rfl ?_
          refine Tr.gq rfl rfl hF5 (QS.pickT rfl hT6 rfl) rfl ?_
          refine Tr.nil (Tr.thenN ?_)
          exact Tr.endX (Sub.cons rfl (Sub.dropN 4 (by kernel_rfl) rfl))
        · intro hF6
          refine Tr.gskip rfl rfl hF6 rfl ?_
          refine Tr.gskip rfl rfl hF6 rfl ?_
          refine Tr.gskip rfl rfl hF6 rfl ?_
          refine Tr.gq rfl rfl hF5 (QS.pickF rfl hF6 rfl) rfl ?_
          refine Tr.nil (Tr.thenN ?_)
          exact Tr.endX (Sub.cons rfl (Sub.dropN 4 (by kernel_rfl) rfl))
        refine Tr.gq rfl rfl hF5 (QS.move rfl) rfl ?_
        apply Tr.andP
        · exact (rfl : _ = (5, 28, 33))
        · exact rfl
        · intro hT7; have hT7' := hT7
          try simp only [bs] at hT7'
          refine Tr.gq rfl rfl hT7 (QS.move rfl) rfl ?_
          refine Tr.gq rfl rfl hT7 (QS.fieldAddr (off := 6) (ft := 3) rfl Try.underlying27 rfl rfl Try.sizeOf3 (by decide)) rfl ?_
          refine Tr.gq rfl rfl hT7 (QS.lV rfl Try.isAgg3) rfl ?_
          refine Tr.gq rfl rfl hT7 (QS.eql rfl rfl) rfl ?_
          refine Tr.gq rfl rfl hF5 (QS.pickT rfl hT7 rfl) rfl ?_
          refine Tr.nil (Tr.thenN ?_)
          exact Tr.endX (Sub.cons rfl (Sub.dropN 5 (by kernel_rfl) rfl))
        · intro hF7
          refine Tr.gskip rfl rfl hF7 rfl ?_
          refine Tr.gskip rfl rfl hF7 rfl ?_
          refine Tr.gskip rfl rfl hF7 rfl ?_
          refine Tr.gskip rfl rfl hF7 rfl ?_
          refine Tr.gq rfl rfl hF5 (QS.pickF rfl hF7 rfl) rfl ?_
          refine Tr.nil (Tr.thenN ?_)
          exact Tr.endX (Sub.cons rfl (Sub.dropN 5 (by kernel_rfl) rfl))
        refine Tr.q (QS.pickF rfl hF5 rfl) rfl ?_
        refine Tr.nil (Tr.thenN ?_)
        exact Tr.endX (Sub.cons rfl (Sub.dropN 7 (by kernel_rfl) rfl))
      · intro hT5
        refine Tr.gskip rfl rfl hT5 rfl ?_
        refine Tr.gskip rfl rfl hT5 rfl ?_
        refine Tr.gskip rfl rfl hT5 rfl ?_
        refine Tr.gskipU rfl rfl rfl ?_
        refine Tr.gskipU rfl rfl rfl ?_
        refine Tr.gskipU rfl rfl rfl ?_
        refine Tr.gskip rfl rfl hT5 rfl ?_
        refine Tr.gskip rfl rfl hT5 rfl ?_
        refine Tr.gskipU rfl rfl rfl ?_
        refine Tr.gskipU rfl rfl rfl ?_
        refine Tr.gskipU rfl rfl rfl ?_
        refine Tr.gskipU rfl rfl rfl ?_
        refine Tr.gskip rfl rfl hT5 rfl ?_
        refine Tr.q (QS.pickT rfl hT5 rfl) rfl ?_
        refine Tr.nil (Tr.thenN ?_)
        exact Tr.endX (Sub.cons rfl (Sub.dropN 14 (by kernel_rfl) rfl))
      refine Tr.q (QS.move rfl) rfl ?_
      apply Tr.orP
      · exact (rfl : _ = (13, 35, 48))
      · exact rfl
      · intro hF8; have hF8' := hF8
        try simp only [bs] at hF8'
        refine Tr.gq rfl rfl hF8 (QS.move rfl) rfl ?_
        refine Tr.gq rfl rfl hF8 (QS.geq rfl rfl) rfl ?_
        refine Tr.gq rfl rfl hF8 (QS.move rfl) rfl ?_
        apply Tr.andP
        · exact (rfl : _ = (4, 38, 42))
        · exact rfl
        · intro hT9; have hT9' := hT9
          try simp only [bs] at hT9'
          refine Tr.gq rfl rfl hT9 (QS.fieldAddr (off := 2) (ft := 3) rfl Try.underlying27 rfl rfl Try.sizeOf3 (by decide)) rfl ?_
          refine Tr.gq rfl rfl hT9 (QS.lV rfl Try.isAgg3) rfl ?_
          refine Tr.gq rfl rfl hT9 (QS.geq rfl rfl) rfl ?_
          refine Tr.gq rfl rfl hF8 (QS.pickT rfl hT9 rfl) rfl ?_
          refine Tr.nil (Tr.thenN ?_)
          exact Tr.endX (Sub.cons rfl (Sub.dropN 4 (by kernel_rfl) rfl))
        · intro hF9
          refine Tr.gskip rfl rfl hF9 rfl ?_
          refine Tr.gskip rfl rfl hF9 rfl ?_
          refine Tr.gskip rfl rfl hF9 rfl ?_
          refine Tr.gq rfl rfl hF8 (QS.pickF rfl hF9 rfl) rfl ?_
          refine Tr.nil (Tr.thenN ?_)
          exact Tr.endX (Sub.cons rfl (Sub.dropN 4 (by kernel_rfl) rfl))
        refine Tr.gq rfl rfl hF8 (QS.move rfl) rfl ?_
        apply Tr.andP
        · exact (rfl : _ = (4, 43, 47))
        · exact rfl
        · intro hT10; have hT10' := hT10
          try simp only [bs] at hT10'
          refine Tr.gq rfl rfl hT10 (QS.fieldAddr (off := 2) (ft := 3) rfl Try.underlying27 rfl rfl Try.sizeOf3 (by decide)) rfl ?_
          refine Tr.gq rfl rfl hT10 (QS.lV rfl Try.isAgg3) rfl ?_
          refine Tr.gq rfl rfl hT10 (QS.leq rfl rfl) rfl ?_
          refine Tr.gq rfl rfl hF8 (QS.pickT rfl hT10 rfl) rfl ?_
          refine Tr.nil (Tr.thenN ?_)
          exact Tr.endX (Sub.cons rfl (Sub.dropN 4 (by kernel_rfl) rfl))
        · intro hF10
          refine Tr.gskip rfl rfl hF10 rfl ?_
          refine Tr.gskip rfl rfl hF10 rfl ?_
          refine Tr.gskip rfl rfl hF10 rfl ?_
          refine Tr.gq rfl rfl hF8 (QS.pickF rfl hF10 rfl) rfl ?_
          refine Tr.nil (Tr.thenN ?_)
          exact Tr.endX (Sub.cons rfl (Sub.dropN 4 (by kernel_rfl) rfl))
        refine Tr.q (QS.pickF rfl hF8 rfl) rfl ?_
        refine Tr.nil (Tr.thenN ?_)
        exact Tr.endX (Sub.cons rfl (Sub.dropN 7 (by kernel_rfl) rfl))
      · intro hT8
        refine Tr.gskip rfl rfl hT8 rfl ?_
        refine Tr.gskip rfl rfl hT8 rfl ?_
        refine Tr.gskip rfl rfl hT8 rfl ?_
        refine Tr.gskipU rfl rfl rfl ?_
        refine Tr.gskipU rfl rfl rfl ?_
        refine Tr.gskipU rfl rfl rfl ?_
        refine Tr.gskip rfl rfl hT8 rfl ?_
        refine Tr.gskip rfl rfl hT8 rfl ?_
        refine Tr.gskipU rfl rfl rfl ?_
        refine Tr.gskipU rfl rfl rfl ?_
        refine Tr.gskipU rfl rfl rfl ?_
        refine Tr.gskip rfl rfl hT8 rfl ?_
        refine Tr.q (QS.pickT rfl hT8 rfl) rfl ?_
        refine Tr.nil (Tr.thenN ?_)
        exact Tr.endX (Sub.cons rfl (Sub.dropN 13 (by kernel_rfl) rfl))
      refine Tr.nil ?_
      refine Tr.thenN ?_
      refine Tr.cond rfl (fun h11 => ?_) (fun h11 => ?_)
      · try simp only [bs] at h11
        refine Tr.region ?_
        refine Tr.q (QS.move rfl) rfl ?_
        refine Tr.q (QS.move rfl) rfl ?_
        refine Tr.lit1 (E := encInt) _ rfl rfl Try.underlying36 Try.sizeOf3 Try.zeroValue3 (by rfl) (by rfl) rfl (fun V12 => ?_)
        first | refine Tr.append1 rfl rfl (by repeat (first | exact Del.here _ | apply Del.there)) (by repeat (first | exact Del.here _ | apply Del.there)) Try.underlying36 HLF.info3 (by rfl) (by rfl) (by (try simp only [List.length_cons, List.length_nil, List.length_append, List.length_take]); omega) (by unfold maxLen; (try simp only [List.length_cons, List.length_nil, List.length_append, List.length_take]); omega) rfl (fun V13 => ?_) | refine Tr.ownNil _ _ (Tr.append1 rfl rfl (by repeat (first | exact Del.here _ | apply Del.there)) (by repeat (first | exact Del.here _ | apply Del.there)) Try.underlying36 HLF.info3 (by rfl) (by rfl) (by (try simp only [List.length_cons, List.length_nil, List.length_append, List.length_take]); omega) (by unfold maxLen; (try simp only [List.length_cons, List.length_nil, List.length_append, List.length_take]); omega) rfl (fun V13 => ?_)) | refine Tr.appendOf rfl rfl (by repeat (first | exact Del.here _ | apply Del.there)) (fun w hw => hw.slF (by assumption)) Try.underlying36 HLF.info3 (by rfl) (by rfl) (by (try simp only [List.length_cons, List.length_nil, List.length_append, List.length_take]); omega) (by unfold maxLen; (try simp only [List.length_cons, List.length_nil, List.length_append, List.length_take]); omega) rfl (fun V13 => ?_) | refine Tr.ownNil _ _ (Tr.appendOf rfl rfl (by repeat (first | exact Del.here _ | apply Del.there)) (fun w hw => hw.slF (by assumption)) Try.underlying36 HLF.info3 (by rfl) (by rfl) (by (try simp only [List.length_cons, List.length_nil, List.length_append, List.length_take]); omega) (by unfold maxLen; (try simp only [List.length_cons, List.length_nil, List.length_append, List.length_take]); omega) rfl (fun V13 => ?_)) | refine Tr.appendOf rfl rfl (by repeat (first | exact Del.here _ | apply Del.there)) (fun w hw => hw.row (by repeat (first | exact List.Mem.head _ | apply List.Mem.tail))) Try.underlying36 HLF.info3 (by rfl) (by rfl) (by (try simp only [List.length_cons, List.length_nil, List.length_append, List.length_take]); omega) (by unfold maxLen; (try simp only [List.length_cons, List.length_nil, List.length_append, List.length_take]); omega) rfl (fun V13 => ?_)
        refine Tr.q (QS.assign rfl) rfl ?_
        refine Tr.nil ?_
        refine Tr.inN ?_
        refine Tr.thenN ?_
        refine Tr.region ?_
        refine Tr.q (QS.move rfl) rfl ?_
        first | refine Tr.q (QS.addI rfl rfl (by omega)) rfl ?_ | refine Tr.q (QS.add rfl rfl) rfl ?_
        refine Tr.q (QS.assign rfl) rfl ?_
        refine Tr.nil ?_
        refine Tr.thenN ?_
        have hp := pickN_yes (p := writeB i) (k := k) (by unfold writeB; grind)
        rw [← hp]
        apply Tr.again (k + 1, _)
        · exact rfl
        · exact (.cons (by first | rfl | exact lookI rfl (by omega) | exact lookI rfl (by simp) | exact lookB rfl (by simp)) (.cons (by first | rfl | exact lookI rfl (by omega) | exact lookI rfl (by simp) | exact lookB rfl (by simp)) Front.nil))
        · exact SubX.dropN 20 (by kernel_rfl) rfl
        · exact (by repeat' (first | exact Pick.nil _ | exact Del.here _ | apply Pick.cons | apply Del.there))
        · exact (by show k + 1 ≤ _; omega)
        · exact (by (try dsimp only); omega)
      · try simp only [bs] at h11
        refine Tr.skip ?_
        refine Tr.inN ?_
        refine Tr.thenN ?_
        refine Tr.region ?_
        refine Tr.q (QS.move rfl) rfl ?_
        first | refine Tr.q (QS.addI rfl rfl (by omega)) rfl ?_ | refine Tr.q (QS.add rfl rfl) rfl ?_
        refine Tr.q (QS.assign rfl) rfl ?_
        refine Tr.nil ?_
        refine Tr.thenN ?_
        have hp := pickN_no (p := writeB i) (k := k) (by unfold writeB; grind)
        rw [← hp]
        apply Tr.again (k + 1, _)
        · exact rfl
        · exact (.cons (by first | rfl | exact lookI rfl (by omega) | exact lookI rfl (by simp) | exact lookB rfl (by simp)) (.cons (by first | rfl | exact lookI rfl (by omega) | exact lookI rfl (by simp) | exact lookB rfl (by simp)) Front.nil))
        · exact SubX.dropN 15 (by kernel_rfl) rfl
        · exact (by repeat' (first | exact Pick.nil _ | exact Del.here _ | apply Pick.cons | apply Del.there))
        · exact (by show k + 1 ≤ _; omega)
        · exact (by (try dsimp only); omega)
    · try simp only [bs] at h3
      refine Tr.exit ?_
      refine Tr.thenE ?_
      refine Tr.thenE ?_
      refine Tr.inHit ?_
      refine Tr.thenN ?_
      refine Tr.seq ?_
      refine Tr.region ?_
      refine Tr.q (QS.move rfl) rfl ?_
      refine Tr.q (QS.assign rfl) rfl ?_
      refine Tr.nil ?_
      refine Tr.thenN ?_
      refine Tr.ret ?_
      refine Tr.ret1 Try.results20 rfl (fun w' hw => ?_)
      exact ⟨_, rfl, hw.below (Bg.le.refl _), by obtain rfl : k = 12 := (by omega); unfold refWritesP; rw [if_pos (by first | assumption | grind)]; exact hw.new (.head _)⟩

end Go.Proofs.Ytohjofdnapbeiaa
