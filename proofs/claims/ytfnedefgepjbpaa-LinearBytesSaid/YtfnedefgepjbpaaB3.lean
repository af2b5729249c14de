/- Own rules and walks, part 3. -/
import Derived.Test.YtfnedefgepjbpaaB2
set_option linter.unusedSimpArgs false
set_option linter.unusedVariables false
set_option linter.unusedSectionVars false
namespace Go.Proofs.Ytfnedefgepjbpaa
open Go Go.HL Go.RowKit
set_option maxRecDepth 100000 in
set_option maxHeartbeats 2000000 in
theorem encode_isa (i : Ins) (w : World) (hI : InsOK i) :
    Calls Try.prog 25 #[.agg (encIns.enc i).toArray] w (fun e w' => ∃ V, e = .returned (.tuple #[V, .int .i64 (errP i)]) ∧ Ext w w' ∧ NewRow w w' 5 encU8 (encodeP i) V) := by
  refine enter Try.func25 rfl Try.ntmps25 rfl ?_
  refine Tr.seq ?_
  refine Tr.region ?_
  refine Tr.box rfl rfl rfl (fun b1 => ?_)
  refine Tr.q (QS.assign rfl) rfl ?_
  refine Tr.q (QS.assign rfl) rfl ?_
  refine Tr.nil ?_
  refine Tr.thenN ?_
  refine Tr.seq ?_
  refine Tr.region ?_
  refine Tr.q (QS.lW rfl Try.isAgg36 Try.sizeOf36) rfl ?_
  refine Tr.q (QS.call rfl Try.call54 (fun w hw => check_any i w hI)) rfl ?_
  refine Tr.q (QS.move rfl) rfl ?_
  refine Tr.q (QS.extract rfl rfl) rfl ?_
  refine Tr.q (QS.extract rfl rfl) rfl ?_
  refine Tr.q (QS.extract rfl rfl) rfl ?_
  refine Tr.q (QS.assign rfl) rfl ?_
  refine Tr.q (QS.assign rfl) rfl ?_
  refine Tr.q (QS.assign rfl) rfl ?_
  refine Tr.nil ?_
  refine Tr.thenN ?_
  refine Tr.seq ?_
  refine Tr.seq ?_
  refine Tr.region ?_
  refine Tr.q (QS.move rfl) rfl ?_
  refine Tr.q (QS.neq rfl rfl) rfl ?_
  refine Tr.nil ?_
  refine Tr.thenN ?_
  refine Tr.cond rfl (fun h2 => ?_) (fun h2 => ?_)
  · try simp only [bs] at h2
    refine Tr.seq ?_
    refine Tr.region ?_
    refine Tr.q (QS.move rfl) rfl ?_
    refine Tr.q (QS.assign rfl) rfl ?_
    refine Tr.q (QS.assign rfl) rfl ?_
    refine Tr.nil ?_
    refine Tr.thenN ?_
    refine Tr.ret ?_
    refine Tr.thenR ?_
    refine Tr.ret2 Try.results25 rfl rfl (fun w' hw => ?_)
    exact ⟨.slice none 0 0, by rw [checkP_err]; rfl, hw.below (Bg.le.refl _), by rw [show encodeP i = [] by unfold encodeP; rw [if_neg (by rw [← checkP_err]; assumption)]]; exact newRow_nil rfl⟩
  · try simp only [bs] at h2
    refine Tr.skip ?_
    refine Tr.thenN ?_
    refine Tr.seq ?_
    have he : errP i = 0 := (by rw [← checkP_err]; assumption)
    obtain ⟨hr0, hr1, hr2, hr3⟩ := errP_regs he
    have hsh := checkP_shape i
    refine Tr.region ?_
    refine Tr.q (QS.move rfl) rfl ?_
    refine Tr.lit1 (E := encU8) _ rfl rfl Try.underlying54 Try.sizeOf5 Try.zeroValue5 (by rfl) (by rfl) rfl (fun V3 => ?_)
    refine Tr.q (QS.assign rfl) rfl ?_
    refine Tr.nil ?_
    refine Tr.thenN ?_
    refine Tr.seq ?_
    refine Tr.regionQ HLF.mixed (by kernel_rfl) ?_
    refine TrQ.q (QS.fieldAddr (off := 0) (ft := 23) rfl Try.underlying36 rfl rfl Try.sizeOf23 (by decide)) rfl ?_
    refine TrQ.q (QS.lV rfl Try.isAgg23) rfl ?_
    refine TrQ.q (QS.move rfl) rfl ?_
    refine TrQ.q (QS.call rfl Try.call55 (fun w hw => size_any (checkP i).2.1 w hsh)) rfl ?_
    refine TrQ.q (QS.cvtTo32 rfl Try.underlying3 Try.underlying23) rfl ?_
    refine TrQ.q (QS.add32 rfl rfl) rfl ?_
    refine TrQ.q (QS.assign rfl) rfl ?_
    refine TrQ.nil ?_
    refine Tr.thenN ?_
    refine Tr.seqJ (ι := Value × List UInt8) (fun ⟨V', xs⟩ => xs = (checkP i).1 :: argsP (checkP i).2.1 i (i.addr + u32 (sizeP (checkP i).2.1))) (fun _ => Bg.of w) (fun ⟨V', xs⟩ => [rowE V' 5 encU8 xs, cellE b1 (encIns.enc i) 36]) (fun ⟨V', xs⟩ => [(7, V')]) ?_ (fun i hi => ?_)
    · skip
      refine Tr.seq ?_
      refine Tr.region ?_
      refine Tr.q (QS.move rfl) rfl ?_
      refine Tr.nil ?_
      refine Tr.thenN ?_
      refine Tr.block ?_
      refine Tr.seq ?_
      refine Tr.region ?_
      refine Tr.q (QS.eql rfl rfl) rfl ?_
      refine Tr.q (QS.assign rfl) rfl ?_
      refine Tr.nil ?_
      refine Tr.thenN ?_
      refine Tr.cond rfl (fun h4 => ?_) (fun h4 => ?_)
      · try simp only [bs] at h4
        refine Tr.region ?_
        refine Tr.q (QS.move rfl) rfl ?_
        refine Tr.q (QS.fieldAddr (off := 6) (ft := 3) rfl Try.underlying36 rfl rfl Try.sizeOf3 (by decide)) rfl ?_
        refine Tr.q (QS.lV rfl Try.isAgg3) rfl ?_
        refine Tr.q (QS.cvtTo8 rfl Try.underlying3 Try.underlying5) rfl ?_
        refine Tr.lit1 (E := encU8) _ rfl rfl Try.underlying54 Try.sizeOf5 Try.zeroValue5 (by rfl) (by rfl) rfl (fun V5 => ?_)
        refine Tr.append1 rfl rfl (by repeat (first | exact Del.here _ | apply Del.there)) (by repeat (first | exact Del.here _ | apply Del.there)) Try.underlying54 HLF.info5 (by rfl) (by rfl) (by (try simp only [List.length_cons, List.length_nil, List.length_append, List.length_take]); omega) (by unfold maxLen; (try simp only [List.length_cons, List.length_nil, List.length_append, List.length_take]); omega) rfl (fun V6 => ?_)
        refine Tr.q (QS.assign rfl) rfl ?_
        refine Tr.nil ?_
        refine Tr.inN ?_
        refine Tr.thenN ?_
        apply Tr.joined (_, _)
        · exact rfl
        · exact (.cons (by first | rfl | exact lookI rfl (by omega) | exact lookI rfl (by simp) | exact lookB rfl (by simp)) Front.nil)
        · exact SubX.dropN 10 (by kernel_rfl) rfl
        · exact (by repeat' (first | exact Pick.nil _ | exact Del.here _ | apply Pick.cons | apply Del.there))
        · exact (by unfold argsP; (repeat (first | rw [if_pos (by omega)] | rw [if_neg (by omega)])) <;> first | rfl | (rw [putP_app]; rfl))
      · try simp only [bs] at h4
        refine Tr.seq ?_
        refine Tr.region ?_
        refine Tr.q (QS.eql rfl rfl) rfl ?_
        refine Tr.q (QS.assign rfl) rfl ?_
        refine Tr.nil ?_
        refine Tr.thenN ?_
        refine Tr.cond rfl (fun h7 => ?_) (fun h7 => ?_)
        · try simp only [bs] at h7
          refine Tr.region ?_
          refine Tr.q (QS.move rfl) rfl ?_
          refine Tr.q (QS.fieldAddr (off := 6) (ft := 3) rfl Try.underlying36 rfl rfl Try.sizeOf3 (by decide)) rfl ?_
          refine Tr.q (QS.lV rfl Try.isAgg3) rfl ?_
          refine Tr.q (QS.shl4 rfl rfl (by omega)) rfl ?_
          refine Tr.q (QS.fieldAddr (off := 7) (ft := 3) rfl Try.underlying36 rfl rfl Try.sizeOf3 (by decide)) rfl ?_
          refine Tr.q (QS.lV rfl Try.isAgg3) rfl ?_
          refine Tr.q (QS.or16 rfl rfl (by omega)) rfl ?_
          refine Tr.q (QS.cvtTo8 rfl Try.underlying3 Try.underlying5) rfl ?_
          refine Tr.lit1 (E := encU8) _ rfl rfl Try.underlying54 Try.sizeOf5 Try.zeroValue5 (by rfl) (by rfl) rfl (fun V8 => ?_)
          refine Tr.append1 rfl rfl (by repeat (first | exact Del.here _ | apply Del.there)) (by repeat (first | exact Del.here _ | apply Del.there)) Try.underlying54 HLF.info5 (by rfl) (by rfl) (by (try simp only [List.length_cons, List.length_nil, List.length_append, List.length_take]); omega) (by unfold maxLen; (try simp only [List.length_cons, List.length_nil, List.length_append, List.length_take]); omega) rfl (fun V9 => ?_)
          refine Tr.q (QS.assign rfl) rfl ?_
          refine Tr.nil ?_
          refine Tr.inN ?_
          refine Tr.thenN ?_
          apply Tr.joined (_, _)
          · exact rfl
          · exact (.cons (by first | rfl | exact lookI rfl (by omega) | exact lookI rfl (by simp) | exact lookB rfl (by simp)) Front.nil)
          · exact SubX.dropN 16 (by kernel_rfl) rfl
          · exact (by repeat' (first | exact Pick.nil _ | exact Del.here _ | apply Pick.cons | apply Del.there))
          · exact (by unfold argsP; (repeat (first | rw [if_pos (by omega)] | rw [if_neg (by omega)])) <;> first | rfl | (rw [putP_app]; rfl))
        · try simp only [bs] at h7
          refine Tr.seq ?_
          refine Tr.region ?_
          refine Tr.q (QS.eql rfl rfl) rfl ?_
          refine Tr.q (QS.assign rfl) rfl ?_
          refine Tr.nil ?_
          refine Tr.thenN ?_
          refine Tr.cond rfl (fun h10 => ?_) (fun h10 => ?_)
          · try simp only [bs] at h10
            refine Tr.region ?_
            refine Tr.q (QS.move rfl) rfl ?_
            refine Tr.q (QS.fieldAddr (off := 6) (ft := 3) rfl Try.underlying36 rfl rfl Try.sizeOf3 (by decide)) rfl ?_
            refine Tr.q (QS.lV rfl Try.isAgg3) rfl ?_
            refine Tr.q (QS.cvtTo8 rfl Try.underlying3 Try.underlying5) rfl ?_
            refine Tr.q (QS.fieldAddr (off := 1) (ft := 23) rfl Try.underlying36 rfl rfl Try.sizeOf23 (by decide)) rfl ?_
            refine Tr.q (QS.lV rfl Try.isAgg23) rfl ?_
            refine Tr.q (QS.cvt32to8 rfl Try.underlying23 Try.underlying5) rfl ?_
            refine Tr.litN (E := encU8) [u8 i.a, i.imm.toUInt8] (vs := [(0, _), (1, _)]) rfl rfl Try.underlying54 Try.sizeOf5 Try.zeroValue5 (by rfl) (by rfl) rfl (by first | kernel_rfl | rfl) rfl (fun V11 => ?_)
            refine Tr.append1 rfl rfl (by repeat (first | exact Del.here _ | apply Del.there)) (by repeat (first | exact Del.here _ | apply Del.there)) Try.underlying54 HLF.info5 (by rfl) (by rfl) (by (try simp only [List.length_cons, List.length_nil, List.length_append, List.length_take]); omega) (by unfold maxLen; (try simp only [List.length_cons, List.length_nil, List.length_append, List.length_take]); omega) rfl (fun V12 => ?_)
            refine Tr.q (QS.assign rfl) rfl ?_
            refine Tr.nil ?_
            refine Tr.inN ?_
            refine Tr.thenN ?_
            apply Tr.joined (_, _)
            · exact rfl
            · exact (.cons (by first | rfl | exact lookI rfl (by omega) | exact lookI rfl (by simp) | exact lookB rfl (by simp)) Front.nil)
            · exact SubX.dropN 17 (by kernel_rfl) rfl
            · exact (by repeat' (first | exact Pick.nil _ | exact Del.here _ | apply Pick.cons | apply Del.there))
            · exact (by unfold argsP; (repeat (first | rw [if_pos (by omega)] | rw [if_neg (by omega)])) <;> first | rfl | (rw [putP_app]; rfl))
          · try simp only [bs] at h10
            refine Tr.seq ?_
            refine Tr.region ?_
            refine Tr.q (QS.eql rfl rfl) rfl ?_
            refine Tr.q (QS.assign rfl) rfl ?_
            refine Tr.nil ?_
            refine Tr.thenN ?_
            refine Tr.cond rfl (fun h13 => ?_) (fun h13 => ?_)
            · try simp only [bs] at h13
              refine Tr.region ?_
              refine Tr.q (QS.move rfl) rfl ?_
              refine Tr.q (QS.fieldAddr (off := 6) (ft := 3) rfl Try.underlying36 rfl rfl Try.sizeOf3 (by decide)) rfl ?_
              refine Tr.q (QS.lV rfl Try.isAgg3) rfl ?_
              refine Tr.q (QS.shl4 rfl rfl (by omega)) rfl ?_
              refine Tr.q (QS.fieldAddr (off := 7) (ft := 3) rfl Try.underlying36 rfl rfl Try.sizeOf3 (by decide)) rfl ?_
              refine Tr.q (QS.lV rfl Try.isAgg3) rfl ?_
              refine Tr.q (QS.or16 rfl rfl (by omega)) rfl ?_
              refine Tr.q (QS.cvtTo8 rfl Try.underlying3 Try.underlying5) rfl ?_
              refine Tr.q (QS.fieldAddr (off := 1) (ft := 23) rfl Try.underlying36 rfl rfl Try.sizeOf23 (by decide)) rfl ?_
              refine Tr.q (QS.lV rfl Try.isAgg23) rfl ?_
              refine Tr.q (QS.cvt32to8 rfl Try.underlying23 Try.underlying5) rfl ?_
              refine Tr.litN (E := encU8) [u8 (i.a * 16 + i.b), i.imm.toUInt8] (vs := [(0, _), (1, _)]) rfl rfl Try.underlying54 Try.sizeOf5 Try.zeroValue5 (by rfl) (by rfl) rfl (by first | kernel_rfl | rfl) rfl (fun V14 => ?_)
              refine Tr.append1 rfl rfl (by repeat (first | exact Del.here _ | apply Del.there)) (by repeat (first | exact Del.here _ | apply Del.there)) Try.underlying54 HLF.info5 (by rfl) (by rfl) (by (try simp only [List.length_cons, List.length_nil, List.length_append, List.length_take]); omega) (by unfold maxLen; (try simp only [List.length_cons, List.length_nil, List.length_append, List.length_take]); omega) rfl (fun V15 => ?_)
              refine Tr.q (QS.assign rfl) rfl ?_
              refine Tr.nil ?_
              refine Tr.inN ?_
              refine Tr.thenN ?_
              apply Tr.joined (_, _)
              · exact rfl
              · exact (.cons (by first | rfl | exact lookI rfl (by omega) | exact lookI rfl (by simp) | exact lookB rfl (by simp)) Front.nil)
              · exact SubX.dropN 23 (by kernel_rfl) rfl
              · exact (by repeat' (first | exact Pick.nil _ | exact Del.here _ | apply Pick.cons | apply Del.there))
              · exact (by unfold argsP; (repeat (first | rw [if_pos (by omega)] | rw [if_neg (by omega)])) <;> first | rfl | (rw [putP_app]; rfl))
            · try simp only [bs] at h13
              refine Tr.seq ?_
              refine Tr.region ?_
              refine Tr.q (QS.eql rfl rfl) rfl ?_
              refine Tr.q (QS.assign rfl) rfl ?_
              refine Tr.nil ?_
              refine Tr.thenN ?_
              refine Tr.cond rfl (fun h16 => ?_) (fun h16 => ?_)
              · try simp only [bs] at h16
                refine Tr.regionH ([cellE b1 (encIns.enc i) 36]) 10 rfl HLF.mixed ?_
                refine Tr.hT 0 rfl (by kernel_rfl) (panicIn (panicThen panicBody)) (QS.move rfl) ?_
                refine Tr.hT 1 rfl (by kernel_rfl) (panicIn (panicThen panicBody)) (QS.fieldAddr (off := 6) (ft := 3) rfl Try.underlying36 rfl rfl Try.sizeOf3 (by decide)) ?_
                refine Tr.hT 2 rfl (by kernel_rfl) (panicIn (panicThen panicBody)) (QS.lV rfl Try.isAgg3) ?_
                refine Tr.hT 3 rfl (by kernel_rfl) (panicIn (panicThen panicBody)) (QS.cvtTo8 rfl Try.underlying3 Try.underlying5) ?_
                refine Tr.hT 6 rfl (by kernel_rfl) (panicIn (panicThen panicBody)) (QS.fieldAddr (off := 1) (ft := 23) rfl Try.underlying36 rfl rfl Try.sizeOf23 (by decide)) ?_
                refine Tr.hT 7 rfl (by kernel_rfl) (panicIn (panicThen panicBody)) (QS.lV rfl Try.isAgg23) ?_
                refine Tr.hAll [4] (by kernel_rfl) (by simp) (fun iq hq => ?_)
                obtain rfl := List.mem_singleton.1 hq
                refine Tr.hOp rfl ?_
                refine Tr.lit1 (E := encU8) _ rfl rfl Try.underlying54 Try.sizeOf5 Try.zeroValue5 (by rfl) (by rfl) rfl (fun V17 => ?_)
                refine Tr.hN ?_
                refine Tr.hAll [5] (by kernel_rfl) (by simp) (fun iq hq => ?_)
                obtain rfl := List.mem_singleton.1 hq
                refine Tr.hOp rfl ?_
                refine Tr.append1 rfl rfl (by repeat (first | exact Del.here _ | apply Del.there)) (by repeat (first | exact Del.here _ | apply Del.there)) Try.underlying54 HLF.info5 (by rfl) (by rfl) (by (try simp only [List.length_cons, List.length_nil, List.length_append, List.length_take]); omega) (by unfold maxLen; (try simp only [List.length_cons, List.length_nil, List.length_append, List.length_take]); omega) rfl (fun V18 => ?_)
                refine Tr.hN ?_
                refine Tr.hAll [8] (by kernel_rfl) (by simp) (fun iq hq => ?_)
                obtain rfl := List.mem_singleton.1 hq
                refine Tr.hOp rfl ?_
                refine Tr.callRow rfl Try.call56 (fun w hw => put_any ([(checkP i).1] ++ [u8 i.a]) _ i.imm 4 w (hw.row (.head _)) (by simp)) rfl (fun V19 => ?_)
                refine Tr.hN ?_
                refine Tr.hT 9 rfl (by kernel_rfl) (panicIn (panicThen panicBody)) (QS.assign rfl) ?_
                refine Tr.hDone (by kernel_rfl) ?_
                refine Tr.inN ?_
                refine Tr.thenN ?_
                apply Tr.joined (_, _)
                · exact rfl
                · exact (.cons (by first | rfl | exact lookI rfl (by omega) | exact lookI rfl (by simp) | exact lookB rfl (by simp)) Front.nil)
                · exact SubX.dropN 21 (by kernel_rfl) rfl
                · exact (by repeat' (first | exact Pick.nil _ | exact Del.here _ | apply Pick.cons | apply Del.there))
                · exact (by unfold argsP; (repeat (first | rw [if_pos (by omega)] | rw [if_neg (by omega)])) <;> first | rfl | (rw [putP_app]; rfl))
              · try simp only [bs] at h16
                refine Tr.seq ?_
                refine Tr.region ?_
                refine Tr.q (QS.eql rfl rfl) rfl ?_
                refine Tr.q (QS.assign rfl) rfl ?_
                refine Tr.nil ?_
                refine Tr.thenN ?_
                refine Tr.cond rfl (fun h20 => ?_) (fun h20 => ?_)
                · try simp only [bs] at h20
                  refine Tr.region ?_
                  refine Tr.q (QS.move rfl) rfl ?_
                  refine Tr.q (QS.fieldAddr (off := 1) (ft := 23) rfl Try.underlying36 rfl rfl Try.sizeOf23 (by decide)) rfl ?_
                  refine Tr.q (QS.lV rfl Try.isAgg23) rfl ?_
                  refine Tr.q (QS.move rfl) rfl ?_
                  refine Tr.q (QS.sub32 rfl rfl) rfl ?_
                  refine Tr.q (QS.cvt32to8 rfl Try.underlying23 Try.underlying5) rfl ?_
                  refine Tr.lit1 (E := encU8) _ rfl rfl Try.underlying54 Try.sizeOf5 Try.zeroValue5 (by rfl) (by rfl) rfl (fun V21 => ?_)
                  refine Tr.append1 rfl rfl (by repeat (first | exact Del.here _ | apply Del.there)) (by repeat (first | exact Del.here _ | apply Del.there)) Try.underlying54 HLF.info5 (by rfl) (by rfl) (by (try simp only [List.length_cons, List.length_nil, List.length_append, List.length_take]); omega) (by unfold maxLen; (try simp only [List.length_cons, List.length_nil, List.length_append, List.length_take]); omega) rfl (fun V22 => ?_)
                  refine Tr.q (QS.assign rfl) rfl ?_
                  refine Tr.nil ?_
                  refine Tr.inN ?_
                  refine Tr.thenN ?_
                  apply Tr.joined (_, _)
                  · exact rfl
                  · exact (.cons (by first | rfl | exact lookI rfl (by omega) | exact lookI rfl (by simp) | exact lookB rfl (by simp)) Front.nil)
                  · exact SubX.dropN 22 (by kernel_rfl) rfl
                  · exact (by repeat' (first | exact Pick.nil _ | exact Del.here _ | apply Pick.cons | apply Del.there))
                  · exact (by unfold argsP; (repeat (first | rw [if_pos (by omega)] | rw [if_neg (by omega)])) <;> first | rfl | (rw [putP_app]; rfl))
                · try simp only [bs] at h20
                  refine Tr.seq ?_
                  refine Tr.region ?_
                  refine Tr.q (QS.eql rfl rfl) rfl ?_
                  refine Tr.q (QS.assign rfl) rfl ?_
                  refine Tr.nil ?_
                  refine Tr.thenN ?_
                  refine Tr.cond rfl (fun h23 => ?_) (fun h23 => ?_)
                  · try simp only [bs] at h23
                    refine Tr.region ?_
                    refine Tr.q (QS.move rfl) rfl ?_
                    refine Tr.q (QS.fieldAddr (off := 1) (ft := 23) rfl Try.underlying36 rfl rfl Try.sizeOf23 (by decide)) rfl ?_
                    refine Tr.q (QS.lV rfl Try.isAgg23) rfl ?_
                    refine Tr.q (QS.move rfl) rfl ?_
                    refine Tr.q (QS.sub32 rfl rfl) rfl ?_
                    refine Tr.callRow rfl Try.call56 (fun w hw => put_any [(checkP i).1] _ (i.imm - (i.addr + u32 (sizeP (checkP i).2.1))) 4 w (hw.row (.head _)) (by simp)) rfl (fun V24 => ?_)
                    refine Tr.q (QS.assign rfl) rfl ?_
                    refine Tr.nil ?_
                    refine Tr.inN ?_
                    refine Tr.thenN ?_
                    apply Tr.joined (_, _)
                    · exact rfl
                    · exact (.cons (by first | rfl | exact lookI rfl (by omega) | exact lookI rfl (by simp) | exact lookB rfl (by simp)) Front.nil)
                    · exact SubX.dropN 22 (by kernel_rfl) rfl
                    · exact (by repeat' (first | exact Pick.nil _ | exact Del.here _ | apply Pick.cons | apply Del.there))
                    · exact (by unfold argsP; (repeat (first | rw [if_pos (by omega)] | rw [if_neg (by omega)])) <;> first | rfl | (rw [putP_app]; rfl))
                  · try simp only [bs] at h23
                    refine Tr.skip ?_
                    refine Tr.inN ?_
                    refine Tr.thenN ?_
                    apply Tr.joined (_, _)
                    · exact rfl
                    · exact (.cons (by first | rfl | exact lookI rfl (by omega) | exact lookI rfl (by simp) | exact lookB rfl (by simp)) Front.nil)
                    · exact SubX.dropN 15 (by kernel_rfl) rfl
                    · exact (by repeat' (first | exact Pick.nil _ | exact Del.here _ | apply Pick.cons | apply Del.there))
                    · exact (by unfold argsP; (repeat (first | rw [if_pos (by omega)] | rw [if_neg (by omega)])) <;> first | rfl | (rw [putP_app]; rfl))
    · obtain ⟨V', xs⟩ := i
      replace hi : xs = (checkP i).1 :: argsP (checkP i).2.1 i (i.addr + u32 (sizeP (checkP i).2.1)) := hi
      change Tr _ _ [rowE V' 5 encU8 xs, cellE b1 (encIns.enc i) 36] ([(7, V')] ++ _) _
      refine Tr.seq ?_
      refine Tr.region ?_
      refine Tr.q (QS.move rfl) rfl ?_
      refine Tr.q (QS.assign rfl) rfl ?_
      refine Tr.q (QS.assign rfl) rfl ?_
      refine Tr.nil ?_
      refine Tr.thenN ?_
      refine Tr.ret ?_
      refine Tr.ret2 Try.results25 rfl rfl (fun w' hw => ?_)
      exact ⟨_, by rw [he], hw.below (Bg.le.refl _), by rw [show encodeP i = xs by rw [hi]; unfold encodeP; rw [if_pos he, checkP_ok he]]; exact hw.new (.head _)⟩
set_option maxRecDepth 100000 in
set_option maxHeartbeats 2000000 in
theorem row_isa (c : UInt8) (w : World) :
    Calls Try.prog 59 #[.int .u8 c.toNat] w (fun e w' => e = .returned (.tuple #[.agg (encIns.enc (rowP c).1).toArray, .bool (rowP c).2]) ∧ Ext w w') := by
  have hc1 := c.toNat_lt
  have hc2 : (c % 16).toNat = c.toNat % 16 := by rw [UInt8.toNat_mod]; rfl
  have hc3 : (c / 16).toNat = c.toNat / 16 := by rw [UInt8.toNat_div]; rfl
  refine enter Try.func59 rfl Try.ntmps59 rfl ?_
  refine Tr.seq ?_
  refine Tr.region ?_
  refine Tr.alloc Try.zeroValue36 rfl rfl (fun b1 => ?_)
  refine Tr.q (QS.assign rfl) rfl ?_
  refine Tr.nil ?_
  refine Tr.thenN ?_
  refine Tr.scope ?_
  refine Tr.seq ?_
  refine Tr.region ?_
  refine Tr.q (QS.move rfl) rfl ?_
  refine Tr.q (QS.shr8c4 rfl rfl) rfl ?_
  refine Tr.q (QS.cvt8toI rfl Try.underlying5 Try.underlying3) rfl ?_
  refine Tr.q (QS.move rfl) rfl ?_
  refine Tr.q (QS.and8c15 rfl rfl) rfl ?_
  refine Tr.q (QS.cvt8toI rfl Try.underlying5 Try.underlying3) rfl ?_
  refine Tr.q (QS.assign rfl) rfl ?_
  refine Tr.q (QS.assign rfl) rfl ?_
  refine Tr.nil ?_
  refine Tr.thenN ?_
  refine Tr.seq ?_
  refine Tr.block ?_
  refine Tr.seq ?_
  refine Tr.region ?_
  refine Tr.q (QS.move rfl) rfl ?_
  refine Tr.q (QS.leq8 (n := 2) rfl rfl) rfl ?_
  refine Tr.q (QS.assign rfl) rfl ?_
  refine Tr.nil ?_
  refine Tr.thenN ?_
  refine Tr.cond rfl (fun h2 => ?_) (fun h2 => ?_)
  · try simp only [bs] at h2
    refine Tr.seq ?_
    refine Tr.region ?_
    refine Tr.q (QS.move rfl) rfl ?_
    refine Tr.q (QS.cvt8toI rfl Try.underlying5 Try.underlying3) rfl ?_
    refine Tr.q (QS.build (vs := [(2, _)]) rfl rfl (HLF.built36_2 _)) rfl ?_
    refine Tr.storeW rfl rfl Try.sizeOf36 (by repeat (first | exact Put.here _ | apply Put.there)) (by rfl) (by rfl) (by first | exact List.all_eq_true.1 rfl | exact Enc.one _ _ | exact Enc.one encIns _) rfl ?_
    refine Tr.q (QS.assign rfl) rfl ?_
    refine Tr.nil ?_
    refine Tr.thenN ?_
    refine Tr.ret ?_
    refine Tr.inR ?_
    refine Tr.thenR ?_
    refine Tr.scopeR ?_
    refine Tr.retC2 Try.results59 rfl rfl (by repeat (first | exact List.Mem.head _ | apply List.Mem.tail)) Try.isAgg36 Try.sizeOf36 (by rfl) (fun w' hw => ?_)
    exact ⟨by clear hw; unfold rowP; (repeat (first | rw [if_pos (by first | assumption | omega)] | rw [if_neg (by first | assumption | omega | (intro hq; simp_all))])) <;> rfl, hw.below (Bg.le.refl _)⟩
  · try simp only [bs] at h2
    refine Tr.seq ?_
    refine Tr.region ?_
    refine Tr.q (QS.move rfl) rfl ?_
    refine Tr.q (QS.geq8 (n := 8) rfl rfl) rfl ?_
    refine Tr.q (QS.move rfl) rfl ?_
    apply Tr.andP
    · exact (rfl : _ = (3, 29, 32))
    · exact rfl
    · intro hT3; have hT3' := hT3
      try simp only [bs] at hT3'
      refine Tr.gq rfl rfl hT3 (QS.move rfl) rfl ?_
      refine Tr.gq rfl rfl hT3 (QS.lss8 (n := 16) rfl rfl) rfl ?_
      refine Tr.q (QS.pickT rfl hT3 rfl) rfl ?_
      refine Tr.nil (Tr.thenN ?_)
      exact Tr.endX (Sub.cons rfl (Sub.dropN 3 (by kernel_rfl) rfl))
    · intro hF3
      refine Tr.gskip rfl rfl hF3 rfl ?_
      refine Tr.gskip rfl rfl hF3 rfl ?_
      refine Tr.q (QS.pickF rfl hF3 rfl) rfl ?_
      refine Tr.nil (Tr.thenN ?_)
      exact Tr.endX (Sub.cons rfl (Sub.dropN 3 (by kernel_rfl) rfl))
    refine Tr.q (QS.assign rfl) rfl ?_
    refine Tr.nil ?_
    refine Tr.thenN ?_
    refine Tr.cond rfl (fun h4 => ?_) (fun h4 => ?_)
    · try simp only [bs] at h4
      refine Tr.seq ?_
      refine Tr.region ?_
      refine Tr.q (QS.move rfl) rfl ?_
      refine Tr.q (QS.subI rfl rfl (by omega)) rfl ?_
      refine Tr.q (QS.build (vs := [(2, _), (6, _)]) rfl rfl (HLF.built36_2_6 _ _)) rfl ?_
      refine Tr.storeW rfl rfl Try.sizeOf36 (by repeat (first | exact Put.here _ | apply Put.there)) (by rfl) (by rfl) (by first | exact List.all_eq_true.1 rfl | exact Enc.one _ _ | exact Enc.one encIns _) rfl ?_
      refine Tr.q (QS.assign rfl) rfl ?_
      refine Tr.nil ?_
      refine Tr.thenN ?_
      refine Tr.ret ?_
      refine Tr.inR ?_
      refine Tr.thenR ?_
      refine Tr.scopeR ?_
      refine Tr.retC2 Try.results59 rfl rfl (by repeat (first | exact List.Mem.head _ | apply List.Mem.tail)) Try.isAgg36 Try.sizeOf36 (by rfl) (fun w' hw => ?_)
      exact ⟨by clear hw; unfold rowP; (repeat (first | rw [if_pos (by first | assumption | omega)] | rw [if_neg (by first | assumption | omega | (intro hq; simp_all))])) <;> rfl, hw.below (Bg.le.refl _)⟩
    · try simp only [bs] at h4
      refine Tr.seq ?_
      refine Tr.region ?_
      refine Tr.q (QS.move rfl) rfl ?_
      refine Tr.q (QS.geq8 (n := 16) rfl rfl) rfl ?_
      refine Tr.q (QS.move rfl) rfl ?_
      apply Tr.andP
      · exact (rfl : _ = (3, 39, 42))
      · exact rfl
      · intro hT5; have hT5' := hT5
        try simp only [bs] at hT5'
        refine Tr.gq rfl rfl hT5 (QS.move rfl) rfl ?_
        refine Tr.gq rfl rfl hT5 (QS.lss8 (n := 24) rfl rfl) rfl ?_
        refine Tr.q (QS.pickT rfl hT5 rfl) rfl ?_
        refine Tr.nil (Tr.thenN ?_)
        exact Tr.endX (Sub.cons rfl (Sub.dropN 3 (by kernel_rfl) rfl))
      · intro hF5
        refine Tr.gskip rfl rfl hF5 rfl ?_
        refine Tr.gskip rfl rfl hF5 rfl ?_
        refine Tr.q (QS.pickF rfl hF5 rfl) rfl ?_
        refine Tr.nil (Tr.thenN ?_)
        exact Tr.endX (Sub.cons rfl (Sub.dropN 3 (by kernel_rfl) rfl))
      refine Tr.q (QS.assign rfl) rfl ?_
      refine Tr.nil ?_
      refine Tr.thenN ?_
      refine Tr.cond rfl (fun h6 => ?_) (fun h6 => ?_)
      · try simp only [bs] at h6
        refine Tr.seq ?_
        refine Tr.region ?_
        refine Tr.q (QS.move rfl) rfl ?_
        refine Tr.q (QS.build (vs := [(2, _), (6, _)]) rfl rfl (HLF.built36_2_6 _ _)) rfl ?_
        refine Tr.storeW rfl rfl Try.sizeOf36 (by repeat (first | exact Put.here _ | apply Put.there)) (by rfl) (by rfl) (by first | exact List.all_eq_true.1 rfl | exact Enc.one _ _ | exact Enc.one encIns _) rfl ?_
        refine Tr.q (QS.assign rfl) rfl ?_
        refine Tr.nil ?_
        refine Tr.thenN ?_
        refine Tr.ret ?_
        refine Tr.inR ?_
        refine Tr.thenR ?_
        refine Tr.scopeR ?_
        refine Tr.retC2 Try.results59 rfl rfl (by repeat (first | exact List.Mem.head _ | apply List.Mem.tail)) Try.isAgg36 Try.sizeOf36 (by rfl) (fun w' hw => ?_)
        exact ⟨by clear hw; unfold rowP; (repeat (first | rw [if_pos (by first | assumption | omega)] | rw [if_neg (by first | assumption | omega | (intro hq; simp_all))])) <;> rfl, hw.below (Bg.le.refl _)⟩
      · try simp only [bs] at h6
        refine Tr.seq ?_
        refine Tr.region ?_
        refine Tr.q (QS.move rfl) rfl ?_
        refine Tr.q (QS.geq rfl rfl) rfl ?_
        refine Tr.q (QS.move rfl) rfl ?_
        apply Tr.andP
        · exact (rfl : _ = (3, 48, 51))
        · exact rfl
        · intro hT7; have hT7' := hT7
          try simp only [bs] at hT7'
          refine Tr.gq rfl rfl hT7 (QS.move rfl) rfl ?_
          refine Tr.gq rfl rfl hT7 (QS.leq rfl rfl) rfl ?_
          refine Tr.q (QS.pickT rfl hT7 rfl) rfl ?_
          refine Tr.nil (Tr.thenN ?_)
          exact Tr.endX (Sub.cons rfl (Sub.dropN 3 (by kernel_rfl) rfl))
        · intro hF7
          refine Tr.gskip rfl rfl hF7 rfl ?_
          refine Tr.gskip rfl rfl hF7 rfl ?_
          refine Tr.q (QS.pickF rfl hF7 rfl) rfl ?_
          refine Tr.nil (Tr.thenN ?_)
          exact Tr.endX (Sub.cons rfl (Sub.dropN 3 (by kernel_rfl) rfl))
        refine Tr.q (QS.move rfl) rfl ?_
        apply Tr.andP
        · exact (rfl : _ = (3, 52, 55))
        · exact rfl
        · intro hT8; have hT8' := hT8
          try simp only [bs] at hT8'
          refine Tr.gq rfl rfl hT8 (QS.move rfl) rfl ?_
          refine Tr.gq rfl rfl hT8 (QS.leq rfl rfl) rfl ?_
          refine Tr.q (QS.pickT rfl hT8 rfl) rfl ?_
          refine Tr.nil (Tr.thenN ?_)
          exact Tr.endX (Sub.cons rfl (Sub.dropN 3 (by kernel_rfl) rfl))
        · intro hF8
          refine Tr.gskip rfl rfl hF8 rfl ?_
          refine Tr.gskip rfl rfl hF8 rfl ?_
          refine Tr.q (QS.pickF rfl hF8 rfl) rfl ?_
          refine Tr.nil (Tr.thenN ?_)
          exact Tr.endX (Sub.cons rfl (Sub.dropN 3 (by kernel_rfl) rfl))
        refine Tr.q (QS.assign rfl) rfl ?_
        refine Tr.nil ?_
        refine Tr.thenN ?_
        refine Tr.cond rfl (fun h9 => ?_) (fun h9 => ?_)
        · try simp only [bs] at h9
          refine Tr.seq ?_
          refine Tr.region ?_
          refine Tr.q (QS.move rfl) rfl ?_
          refine Tr.q (QS.addI rfl rfl (by omega)) rfl ?_
          refine Tr.q (QS.move rfl) rfl ?_
          refine Tr.q (QS.subI rfl rfl (by omega)) rfl ?_
          refine Tr.q (QS.build (vs := [(2, _), (3, _)]) rfl rfl (HLF.built36_2_3 _ _)) rfl ?_
          refine Tr.storeW rfl rfl Try.sizeOf36 (by repeat (first | exact Put.here _ | apply Put.there)) (by rfl) (by rfl) (by first | exact List.all_eq_true.1 rfl | exact Enc.one _ _ | exact Enc.one encIns _) rfl ?_
          refine Tr.q (QS.assign rfl) rfl ?_
          refine Tr.nil ?_
          refine Tr.thenN ?_
          refine Tr.ret ?_
          refine Tr.inR ?_
          refine Tr.thenR ?_
          refine Tr.scopeR ?_
          refine Tr.retC2 Try.results59 rfl rfl (by repeat (first | exact List.Mem.head _ | apply List.Mem.tail)) Try.isAgg36 Try.sizeOf36 (by rfl) (fun w' hw => ?_)
          exact ⟨by clear hw; unfold rowP; (repeat (first | rw [if_pos (by first | assumption | omega)] | rw [if_neg (by first | assumption | omega | (intro hq; simp_all))])) <;> rfl, hw.below (Bg.le.refl _)⟩
        · try simp only [bs] at h9
          refine Tr.seq ?_
          refine Tr.region ?_
          refine Tr.q (QS.move rfl) rfl ?_
          refine Tr.q (QS.eql rfl rfl) rfl ?_
          refine Tr.q (QS.move rfl) rfl ?_
          apply Tr.andP
          · exact (rfl : _ = (3, 64, 67))
          · exact rfl
          · intro hT10; have hT10' := hT10
            try simp only [bs] at hT10'
            refine Tr.gq rfl rfl hT10 (QS.move rfl) rfl ?_
            refine Tr.gq rfl rfl hT10 (QS.leq rfl rfl) rfl ?_
            refine Tr.q (QS.pickT rfl hT10 rfl) rfl ?_
            refine Tr.nil (Tr.thenN ?_)
            exact Tr.endX (Sub.cons rfl (Sub.dropN 3 (by kernel_rfl) rfl))
          · intro hF10
            refine Tr.gskip rfl rfl hF10 rfl ?_
            refine Tr.gskip rfl rfl hF10 rfl ?_
            refine Tr.q (QS.pickF rfl hF10 rfl) rfl ?_
            refine Tr.nil (Tr.thenN ?_)
            exact Tr.endX (Sub.cons rfl (Sub.dropN 3 (by kernel_rfl) rfl))
          refine Tr.q (QS.assign rfl) rfl ?_
          refine Tr.nil ?_
          refine Tr.thenN ?_
          refine Tr.cond rfl (fun h11 => ?_) (fun h11 => ?_)
          · try simp only [bs] at h11
            refine Tr.seq ?_
            refine Tr.region ?_
            refine Tr.q (QS.move rfl) rfl ?_
            refine Tr.q (QS.build (vs := [(2, _), (3, _), (5, _)]) rfl rfl (HLF.built36_2_3_5 _ _ _)) rfl ?_
            refine Tr.storeW rfl rfl Try.sizeOf36 (by repeat (first | exact Put.here _ | apply Put.there)) (by rfl) (by rfl) (by first | exact List.all_eq_true.1 rfl | exact Enc.one _ _ | exact Enc.one encIns _) rfl ?_
            refine Tr.q (QS.assign rfl) rfl ?_
            refine Tr.nil ?_
            refine Tr.thenN ?_
            refine Tr.ret ?_
            refine Tr.inR ?_
            refine Tr.thenR ?_
            refine Tr.scopeR ?_
            refine Tr.retC2 Try.results59 rfl rfl (by repeat (first | exact List.Mem.head _ | apply List.Mem.tail)) Try.isAgg36 Try.sizeOf36 (by rfl) (fun w' hw => ?_)
            exact ⟨by clear hw; unfold rowP; (repeat (first | rw [if_pos (by first | assumption | omega)] | rw [if_neg (by first | assumption | omega | (intro hq; simp_all))])) <;> rfl, hw.below (Bg.le.refl _)⟩
          · try simp only [bs] at h11
            refine Tr.seq ?_
            refine Tr.region ?_
            refine Tr.q (QS.move rfl) rfl ?_
            refine Tr.q (QS.eql rfl rfl) rfl ?_
            refine Tr.q (QS.move rfl) rfl ?_
            apply Tr.andP
            · exact (rfl : _ = (3, 73, 76))
            · exact rfl
            · intro hT12; have hT12' := hT12
              try simp only [bs] at hT12'
              refine Tr.gq rfl rfl hT12 (QS.move rfl) rfl ?_
              refine Tr.gq rfl rfl hT12 (QS.leq rfl rfl) rfl ?_
              refine Tr.q (QS.pickT rfl hT12 rfl) rfl ?_
              refine Tr.nil (Tr.thenN ?_)
              exact Tr.endX (Sub.cons rfl (Sub.dropN 3 (by kernel_rfl) rfl))
            · intro hF12
              refine Tr.gskip rfl rfl hF12 rfl ?_
              refine Tr.gskip rfl rfl hF12 rfl ?_
              refine Tr.q (QS.pickF rfl hF12 rfl) rfl ?_
              refine Tr.nil (Tr.thenN ?_)
              exact Tr.endX (Sub.cons rfl (Sub.dropN 3 (by kernel_rfl) rfl))
            refine Tr.q (QS.assign rfl) rfl ?_
            refine Tr.nil ?_
            refine Tr.thenN ?_
            refine Tr.cond rfl (fun h13 => ?_) (fun h13 => ?_)
            · try simp only [bs] at h13
              refine Tr.seq ?_
              refine Tr.region ?_
              refine Tr.q (QS.move rfl) rfl ?_
              refine Tr.q (QS.build (vs := [(2, _), (3, _), (5, _)]) rfl rfl (HLF.built36_2_3_5 _ _ _)) rfl ?_
              refine Tr.storeW rfl rfl Try.sizeOf36 (by repeat (first | exact Put.here _ | apply Put.there)) (by rfl) (by rfl) (by first | exact List.all_eq_true.1 rfl | exact Enc.one _ _ | exact Enc.one encIns _) rfl ?_
              refine Tr.q (QS.assign rfl) rfl ?_
              refine Tr.nil ?_
              refine Tr.thenN ?_
              refine Tr.ret ?_
              refine Tr.inR ?_
              refine Tr.thenR ?_
              refine Tr.scopeR ?_
              refine Tr.retC2 Try.results59 rfl rfl (by repeat (first | exact List.Mem.head _ | apply List.Mem.tail)) Try.isAgg36 Try.sizeOf36 (by rfl) (fun w' hw => ?_)
              exact ⟨by clear hw; unfold rowP; (repeat (first | rw [if_pos (by first | assumption | omega)] | rw [if_neg (by first | assumption | omega | (intro hq; simp_all))])) <;> rfl, hw.below (Bg.le.refl _)⟩
            · try simp only [bs] at h13
              refine Tr.seq ?_
              refine Tr.region ?_
              refine Tr.q (QS.move rfl) rfl ?_
              refine Tr.q (QS.eql rfl rfl) rfl ?_
              refine Tr.q (QS.move rfl) rfl ?_
              apply Tr.andP
              · exact (rfl : _ = (3, 82, 85))
              · exact rfl
              · intro hT14; have hT14' := hT14
                try simp only [bs] at hT14'
                refine Tr.gq rfl rfl hT14 (QS.move rfl) rfl ?_
                refine Tr.gq rfl rfl hT14 (QS.leq rfl rfl) rfl ?_
                refine Tr.q (QS.pickT rfl hT14 rfl) rfl ?_
                refine Tr.nil (Tr.thenN ?_)
                exact Tr.endX (Sub.cons rfl (Sub.dropN 3 (by kernel_rfl) rfl))
              · intro hF14
                refine Tr.gskip rfl rfl hF14 rfl ?_
                refine Tr.gskip rfl rfl hF14 rfl ?_
                refine Tr.q (QS.pickF rfl hF14 rfl) rfl ?_
                refine Tr.nil (Tr.thenN ?_)
                exact Tr.endX (Sub.cons rfl (Sub.dropN 3 (by kernel_rfl) rfl))
              refine Tr.q (QS.assign rfl) rfl ?_
              refine Tr.nil ?_
              refine Tr.thenN ?_
              refine Tr.cond rfl (fun h15 => ?_) (fun h15 => ?_)
              · try simp only [bs] at h15
                refine Tr.seq ?_
                refine Tr.region ?_
                refine Tr.q (QS.move rfl) rfl ?_
                refine Tr.q (QS.build (vs := [(2, _), (5, _)]) rfl rfl (HLF.built36_2_5 _ _)) rfl ?_
                refine Tr.storeW rfl rfl Try.sizeOf36 (by repeat (first | exact Put.here _ | apply Put.there)) (by rfl) (by rfl) (by first | exact List.all_eq_true.1 rfl | exact Enc.one _ _ | exact Enc.one encIns _) rfl ?_
                refine Tr.q (QS.assign rfl) rfl ?_
                refine Tr.nil ?_
                refine Tr.thenN ?_
                refine Tr.ret ?_
                refine Tr.inR ?_
                refine Tr.thenR ?_
                refine Tr.scopeR ?_
                refine Tr.retC2 Try.results59 rfl rfl (by repeat (first | exact List.Mem.head _ | apply List.Mem.tail)) Try.isAgg36 Try.sizeOf36 (by rfl) (fun w' hw => ?_)
                exact ⟨by clear hw; unfold rowP; (repeat (first | rw [if_pos (by first | assumption | omega)] | rw [if_neg (by first | assumption | omega | (intro hq; simp_all))])) <;> rfl, hw.below (Bg.le.refl _)⟩
              · try simp only [bs] at h15
                refine Tr.skip ?_
                refine Tr.inN ?_
                refine Tr.thenN ?_
                refine Tr.seq ?_
                refine Tr.region ?_
                refine Tr.q (QS.build (vs := [(2, _), (4, _)]) rfl rfl (HLF.built36_2_4 _ _)) rfl ?_
                refine Tr.q (QS.build (vs := [(2, _), (4, _)]) rfl rfl (HLF.built36_2_4 _ _)) rfl ?_
                refine Tr.q (QS.build (vs := [(2, _), (4, _)]) rfl rfl (HLF.built36_2_4 _ _)) rfl ?_
                refine Tr.q (QS.build (vs := [(2, _), (4, _)]) rfl rfl (HLF.built36_2_4 _ _)) rfl ?_
                refine Tr.q (QS.build (vs := [(2, _), (4, _)]) rfl rfl (HLF.built36_2_4 _ _)) rfl ?_
                refine Tr.q (QS.build (vs := [(2, _), (4, _)]) rfl rfl (HLF.built36_2_4 _ _)) rfl ?_
                refine Tr.q (QS.build (vs := [(2, _), (4, _)]) rfl rfl (HLF.built36_2_4 _ _)) rfl ?_
                refine Tr.q (QS.build (vs := [(2, _), (4, _)]) rfl rfl (HLF.built36_2_4 _ _)) rfl ?_
                refine Tr.q (QS.build (vs := [(2, _)]) rfl rfl (HLF.built36_2 _)) rfl ?_
                refine Tr.q (QS.build (vs := [(2, _)]) rfl rfl (HLF.built36_2 _)) rfl ?_
                refine Tr.q (QS.build (vs := [(2, _)]) rfl rfl (HLF.built36_2 _)) rfl ?_
                refine Tr.q (QS.build (vs := [(2, _)]) rfl rfl (HLF.built36_2 _)) rfl ?_
                refine Tr.q (QS.build (vs := [(2, _)]) rfl rfl (HLF.built36_2 _)) rfl ?_
                refine Tr.q (QS.build (vs := [(2, _)]) rfl rfl (HLF.built36_2 _)) rfl ?_
                refine Tr.q (QS.build (vs := [(2, _)]) rfl rfl (HLF.built36_2 _)) rfl ?_
                refine Tr.q (QS.build (vs := [(0, _), (1, _), (2, _), (3, _), (4, _), (5, _), (6, _), (7, _), (8, _), (9, _), (10, _), (11, _), (12, _), (13, _), (14, _)]) rfl rfl (HLF.built122_0_1_2_3_4_5_6_7_8_9_10_11_12_13_14 _ _ _ _ _ _ _ _ _ _ _ _ _ _ _ _ _ _ _ _ _ _ _ _ _ _ _ _ _ _ _ _ _ _ _ _ _ _ _ _ _ _ _ _ _ _ _ _ _ _ _ _ _ _ _ _ _ _ _ _ _ _ _ _ _ _ _ _ _ _ _ _ _ _ _ _ _ _ _ _ _ _ _ _ _ _ _ _ _ _ _ _ _ _ _ _ _ _ _ _ _ _ _ _ _ _ _ _ _ _ _ _ _ _ _ _ _ _ _ _ _ _ _ _ _ _ _ _ _ _ _ _ _ _ _)) rfl ?_
                refine Tr.alloc Try.zeroValue122 rfl rfl (fun b16 => ?_)
                refine Tr.storeW rfl rfl Try.sizeOf122 (by repeat (first | exact Put.here _ | apply Put.there)) (by rfl) (by rfl) (by first | exact List.all_eq_true.1 rfl | exact Enc.one _ _ | (intro u hu; simp [Value.cells] at hu; simp_all [Value.oneCell'])) rfl ?_
                refine Tr.nil ?_
                refine Tr.thenN ?_
                refine Tr.seq ?_
                refine Tr.region ?_
                refine Tr.alloc Try.zeroValue36 rfl rfl (fun b17 => ?_)
                refine Tr.nil ?_
                refine Tr.thenN ?_
                refine Tr.seq ?_
                refine Tr.region ?_
                refine Tr.q (QS.assign rfl) rfl ?_
                refine Tr.nil ?_
                refine Tr.thenN ?_
                refine Tr.seq ?_
                refine Tr.label ?_
                refine Tr.thenN ?_
                refine Tr.seq ?_
                refine Tr.seq ?_
                refine Tr.region ?_
                refine Tr.q (QS.lW rfl Try.isAgg122 Try.sizeOf122) rfl ?_
                refine Tr.q (QS.move rfl) rfl ?_
                refine Tr.nil ?_
                refine Tr.thenN ?_
                refine Tr.block ?_
                refine Tr.loop (ι := Nat) (fun k => k ≤ 15 ∧ findPI c (rowsP.drop k) = findPI c rowsP) (fun _ => _) (fun k => [cellE b17 (encIns.enc zeroIns) 36, cellE b1 (encIns.enc zeroIns) 36]) (fun k => [(105, .int .i64 (k : Nat))]) (fun k => 15 - k) 0 ⟨by omega, rfl⟩ (.cons (by first | rfl | exact lookI rfl (by omega) | exact lookI rfl (by simp) | exact lookB rfl (by simp)) Front.nil) (by repeat' (first | exact Pick.nil _ | exact Del.here _ | apply Pick.cons | apply Del.there)) rfl (fun k hi m hm => ?_)
                replace hi : k ≤ 15 ∧ findPI c (rowsP.drop k) = findPI c rowsP := hi
                replace hm : m = 15 - k := hm
                change Tr _ _ [cellE b17 (encIns.enc zeroIns) 36, cellE b1 (encIns.enc zeroIns) 36] ([(105, .int .i64 (k : Nat))] ++ _) _
                obtain ⟨hk1, hk2⟩ := hi
                refine Tr.seq ?_
                refine Tr.region ?_
                refine Tr.q (QS.lss rfl rfl) rfl ?_
                refine Tr.nil ?_
                refine Tr.thenN ?_
                refine Tr.seq ?_
                refine Tr.cond rfl (fun h18 => ?_) (fun h18 => ?_)
                · try simp only [bs] at h18
                  refine Tr.skip ?_
                  refine Tr.thenN ?_
                  refine Tr.seq ?_
                  refine Tr.block ?_
                  refine Tr.seq ?_
                  refine Tr.region ?_
                  refine Tr.q (QS.indexE (E := encIns) rowsP rfl rfl Try.underlying122 Try.sizeOf36 Try.isAgg36 rfl rfl (by omega)) rfl ?_
                  refine Tr.alloc Try.zeroValue36 rfl rfl (fun b19 => ?_)
                  refine Tr.storeW rfl rfl Try.sizeOf36 (by repeat (first | exact Put.here _ | apply Put.there)) (by rfl) (by rfl) (by first | exact List.all_eq_true.1 rfl | exact Enc.one _ _ | exact Enc.one encIns _) rfl ?_
                  refine Tr.nil ?_
                  refine Tr.thenN ?_
                  refine Tr.seq ?_
                  refine Tr.region ?_
                  refine Tr.q (QS.lW rfl Try.isAgg36 Try.sizeOf36) rfl ?_
                  refine Tr.q (QS.call rfl Try.call60 (fun w hw => opcode_any (rowsP.getD k default) w (rows_ok k (by omega)))) rfl ?_
                  refine Tr.q (QS.move rfl) rfl ?_
                  refine Tr.q (QS.extract rfl rfl) rfl ?_
                  refine Tr.q (QS.extract rfl rfl) rfl ?_
                  refine Tr.q (QS.extract rfl rfl) rfl ?_
                  refine Tr.q (QS.assign rfl) rfl ?_
                  refine Tr.q (QS.assign rfl) rfl ?_
                  refine Tr.q (QS.assign rfl) rfl ?_
                  refine Tr.nil ?_
                  refine Tr.thenN ?_
                  refine Tr.seq ?_
                  refine Tr.region ?_
                  refine Tr.q (QS.move rfl) rfl ?_
                  refine Tr.q (QS.move rfl) rfl ?_
                  apply Tr.andP
                  · exact (rfl : _ = (4, 115, 119))
                  · exact rfl
                  · intro hT20; have hT20' := hT20
                    try simp only [bs] at hT20'
                    refine Tr.gq rfl rfl hT20 (QS.move rfl) rfl ?_
                    refine Tr.gq rfl rfl hT20 (QS.move rfl) rfl ?_
                    refine Tr.gq rfl rfl hT20 (QS.eql8 rfl rfl) rfl ?_
                    refine Tr.q (QS.pickT rfl hT20 rfl) rfl ?_
                    refine Tr.nil (Tr.thenN ?_)
                    exact Tr.endX (Sub.cons rfl (Sub.dropN 4 (by kernel_rfl) rfl))
                  · intro hF20
                    refine Tr.gskip rfl rfl hF20 rfl ?_
                    refine Tr.gskip rfl rfl hF20 rfl ?_
                    refine Tr.gskip rfl rfl hF20 rfl ?_
                    refine Tr.q (QS.pickF rfl hF20 rfl) rfl ?_
                    refine Tr.nil (Tr.thenN ?_)
                    exact Tr.endX (Sub.cons rfl (Sub.dropN 4 (by kernel_rfl) rfl))
                  refine Tr.nil ?_
                  refine Tr.thenN ?_
                  refine Tr.cond rfl (fun h21 => ?_) (fun h21 => ?_)
                  · try simp only [bs] at h21
                    refine Tr.seq ?_
                    refine Tr.region ?_
                    refine Tr.q (QS.lW rfl Try.isAgg36 Try.sizeOf36) rfl ?_
                    refine Tr.storeW rfl rfl Try.sizeOf36 (by repeat (first | exact Put.here _ | apply Put.there)) (by rfl) (by rfl) (by first | exact List.all_eq_true.1 rfl | exact Enc.one _ _ | exact Enc.one encIns _) rfl ?_
                    refine Tr.q (QS.assign rfl) rfl ?_
                    refine Tr.nil ?_
                    refine Tr.thenN ?_
                    refine Tr.exit ?_
                    refine Tr.inMiss rfl ?_
                    refine Tr.thenE ?_
                    refine Tr.thenE ?_
                    refine Tr.inHit ?_
                    refine Tr.thenN ?_
                    refine Tr.seq ?_
                    refine Tr.region ?_
                    refine Tr.q (QS.lW rfl Try.isAgg36 Try.sizeOf36) rfl ?_
                    refine Tr.q (QS.move rfl) rfl ?_
                    refine Tr.storeW rfl rfl Try.sizeOf36 (by repeat (first | exact Put.here _ | apply Put.there)) (by rfl) (by rfl) (by first | exact List.all_eq_true.1 rfl | exact Enc.one _ _ | exact Enc.one encIns _) rfl ?_
                    refine Tr.q (QS.assign rfl) rfl ?_
                    refine Tr.nil ?_
                    refine Tr.thenN ?_
                    refine Tr.ret ?_
                    refine Tr.scopeR ?_
                    refine Tr.retC2 Try.results59 rfl rfl (by repeat (first | exact List.Mem.head _ | apply List.Mem.tail)) Try.isAgg36 Try.sizeOf36 (by rfl) (fun w' hw => ?_)
                    exact ⟨by clear hw; unfold rowP; (repeat (rw [if_neg (by first | assumption | omega | (intro hq; simp_all))])); rw [← hk2, drop_cons (k := k) (by show k < 15; omega), findPI, if_pos (by assumption)]; rfl, hw.below (Bg.le.refl _)⟩
                  · try simp only [bs] at h21
                    refine Tr.skip ?_
                    refine Tr.inN ?_
                    refine Tr.thenN ?_
                    refine Tr.region ?_
                    refine Tr.q (QS.addI rfl rfl (by omega)) rfl ?_
                    refine Tr.q (QS.move rfl) rfl ?_
                    refine Tr.nil ?_
                    refine Tr.thenN ?_
                    apply Tr.again (k + 1)
                    · exact rfl
                    · exact (.cons (by first | rfl | exact lookI rfl (by omega) | exact lookI rfl (by simp) | exact lookB rfl (by simp)) Front.nil)
                    · exact SubX.dropN 18 (by kernel_rfl) rfl
                    · exact (by repeat' (first | exact Pick.nil _ | exact Del.here _ | apply Pick.cons | apply Del.there))
                    · exact ⟨by omega, by rw [← hk2, drop_cons (k := k) (by show k < 15; omega), findPI, if_neg (by intro hq; simp_all)]⟩
                    · exact (by (try dsimp only); omega)
                · try simp only [bs] at h18
                  refine Tr.exit ?_
                  refine Tr.thenE ?_
                  refine Tr.thenE ?_
                  refine Tr.inHit ?_
                  refine Tr.thenN ?_
                  refine Tr.seq ?_
                  refine Tr.region ?_
                  refine Tr.q (QS.lW rfl Try.isAgg36 Try.sizeOf36) rfl ?_
                  refine Tr.q (QS.move rfl) rfl ?_
                  refine Tr.storeW rfl rfl Try.sizeOf36 (by repeat (first | exact Put.here _ | apply Put.there)) (by rfl) (by rfl) (by first | exact List.all_eq_true.1 rfl | exact Enc.one _ _ | exact Enc.one encIns _) rfl ?_
                  refine Tr.q (QS.assign rfl) rfl ?_
                  refine Tr.nil ?_
                  refine Tr.thenN ?_
                  refine Tr.ret ?_
                  refine Tr.scopeR ?_
                  refine Tr.retC2 Try.results59 rfl rfl (by repeat (first | exact List.Mem.head _ | apply List.Mem.tail)) Try.isAgg36 Try.sizeOf36 (by rfl) (fun w' hw => ?_)
                  exact ⟨by clear hw; unfold rowP; (repeat (rw [if_neg (by first | assumption | omega | (intro hq; simp_all))])); obtain rfl : k = 15 := (by omega); rw [← hk2]; rfl, hw.below (Bg.le.refl _)⟩
set_option maxRecDepth 100000 in
set_option maxHeartbeats 2000000 in
theorem decode_isa (b : List UInt8) (V : Value) (addr : UInt32) (w : World) (hV : Sl (hp w) encU8 b V) :
    Calls Try.prog 28 #[V, .int .u32 addr.toNat] w (fun e w' => e = .returned (.tuple #[.agg (encIns.enc (decP b addr).1).toArray, .int .i64 (decP b addr).2]) ∧ Ext w w') := by
  have hV' : Sl (Bg.of w).blk encU8 b V := hV
  have hlen := hV.len_le
  refine enter Try.func28 rfl Try.ntmps28 rfl ?_
  refine Tr.seq ?_
  refine Tr.region ?_
  refine Tr.alloc Try.zeroValue36 rfl rfl (fun b1 => ?_)
  refine Tr.q (QS.assign rfl) rfl ?_
  refine Tr.nil ?_
  refine Tr.thenN ?_
  refine Tr.seq ?_
  refine Tr.seq ?_
  refine Tr.region ?_
  refine Tr.q (QS.move rfl) rfl ?_
  refine Tr.q (QS.len rfl (by assumption) Try.underlying54) rfl ?_
  refine Tr.q (QS.eql rfl rfl) rfl ?_
  refine Tr.nil ?_
  refine Tr.thenN ?_
  refine Tr.cond rfl (fun h2 => ?_) (fun h2 => ?_)
  · try simp only [bs] at h2
    refine Tr.seq ?_
    refine Tr.region ?_
    refine Tr.q (QS.build (vs := []) rfl rfl (HLF.built36)) rfl ?_
    refine Tr.storeW rfl rfl Try.sizeOf36 (by repeat (first | exact Put.here _ | apply Put.there)) (by rfl) (by rfl) (by first | exact List.all_eq_true.1 rfl | exact Enc.one _ _ | exact Enc.one encIns _) rfl ?_
    refine Tr.q (QS.assign rfl) rfl ?_
    refine Tr.nil ?_
    refine Tr.thenN ?_
    refine Tr.ret ?_
    refine Tr.thenR ?_
    refine Tr.retC2 Try.results28 rfl rfl (by repeat (first | exact List.Mem.head _ | apply List.Mem.tail)) Try.isAgg36 Try.sizeOf36 (by rfl) (fun w' hw => ?_)
    exact ⟨by rw [decP_1 (by omega)]; rfl, hw.below (Bg.le.refl _)⟩
  · try simp only [bs] at h2
    refine Tr.skip ?_
    refine Tr.thenN ?_
    refine Tr.seq ?_
    refine Tr.region ?_
    refine Tr.q (QS.move rfl) rfl ?_
    refine Tr.q (QS.idx rfl rfl (by assumption) Try.underlying54 Try.sizeOf5 (by rfl) (by omega)) rfl ?_
    refine Tr.q (QS.el1 rfl (by assumption) Try.isAgg5 (by omega) (by rfl)) rfl ?_
    refine Tr.q (QS.call rfl Try.call59 (fun w hw => row_isa (b.getD 0 default) w)) rfl ?_
    refine Tr.q (QS.move rfl) rfl ?_
    refine Tr.q (QS.extract rfl rfl) rfl ?_
    refine Tr.q (QS.extract rfl rfl) rfl ?_
    refine Tr.alloc Try.zeroValue36 rfl rfl (fun b3 => ?_)
    refine Tr.storeW rfl rfl Try.sizeOf36 (by repeat (first | exact Put.here _ | apply Put.there)) (by rfl) (by rfl) (by first | exact List.all_eq_true.1 rfl | exact Enc.one _ _ | exact Enc.one encIns _) rfl ?_
    refine Tr.q (QS.assign rfl) rfl ?_
    refine Tr.nil ?_
    refine Tr.thenN ?_
    refine Tr.seq ?_
    refine Tr.seq ?_
    refine Tr.region ?_
    refine Tr.q (QS.move rfl) rfl ?_
    refine Tr.q (QS.not rfl) rfl ?_
    refine Tr.nil ?_
    refine Tr.thenN ?_
    refine Tr.cond rfl (fun h4 => ?_) (fun h4 => ?_)
    · try simp only [bs] at h4
      refine Tr.seq ?_
      refine Tr.region ?_
      refine Tr.q (QS.build (vs := []) rfl rfl (HLF.built36)) rfl ?_
      refine Tr.storeW rfl rfl Try.sizeOf36 (by repeat (first | exact Put.here _ | apply Put.there)) (by rfl) (by rfl) (by first | exact List.all_eq_true.1 rfl | exact Enc.one _ _ | exact Enc.one encIns _) rfl ?_
      refine Tr.q (QS.assign rfl) rfl ?_
      refine Tr.nil ?_
      refine Tr.thenN ?_
      refine Tr.ret ?_
      refine Tr.thenR ?_
      refine Tr.retC2 Try.results28 rfl rfl (by repeat (first | exact List.Mem.head _ | apply List.Mem.tail)) Try.isAgg36 Try.sizeOf36 (by rfl) (fun w' hw => ?_)
      exact ⟨by rw [decP_2 (by omega) (by assumption)]; rfl, hw.below (Bg.le.refl _)⟩
    · try simp only [bs] at h4
      refine Tr.skip ?_
      refine Tr.thenN ?_
      refine Tr.seq ?_
      refine Tr.region ?_
      refine Tr.q (QS.lW rfl Try.isAgg36 Try.sizeOf36) rfl ?_
      refine Tr.q (QS.call rfl Try.call60 (fun w hw => opcode_any (rowP (b.getD 0 default)).1 w (row_ok _))) rfl ?_
      refine Tr.q (QS.move rfl) rfl ?_
      refine Tr.q (QS.extract rfl rfl) rfl ?_
      refine Tr.q (QS.extract rfl rfl) rfl ?_
      refine Tr.q (QS.extract rfl rfl) rfl ?_
      refine Tr.q (QS.assign rfl) rfl ?_
      refine Tr.q (QS.assign rfl) rfl ?_
      refine Tr.q (QS.assign rfl) rfl ?_
      refine Tr.nil ?_
      refine Tr.thenN ?_
      refine Tr.seq ?_
      refine Tr.region ?_
      refine Tr.q (QS.move rfl) rfl ?_
      refine Tr.q (QS.call rfl Try.call55 (fun w hw => size_any (opcodeP (rowP (b.getD 0 default)).1).2.1 w (opcodeP_shape _))) rfl ?_
      refine Tr.q (QS.assign rfl) rfl ?_
      refine Tr.nil ?_
      refine Tr.thenN ?_
      refine Tr.seq ?_
      refine Tr.seq ?_
      refine Tr.region ?_
      refine Tr.q (QS.move rfl) rfl ?_
      refine Tr.q (QS.len rfl (by assumption) Try.underlying54) rfl ?_
      refine Tr.q (QS.move rfl) rfl ?_
      refine Tr.q (QS.lss rfl rfl) rfl ?_
      refine Tr.nil ?_
      refine Tr.thenN ?_
      refine Tr.cond rfl (fun h5 => ?_) (fun h5 => ?_)
      · try simp only [bs] at h5
        refine Tr.seq ?_
        refine Tr.region ?_
        refine Tr.q (QS.build (vs := []) rfl rfl (HLF.built36)) rfl ?_
        refine Tr.storeW rfl rfl Try.sizeOf36 (by repeat (first | exact Put.here _ | apply Put.there)) (by rfl) (by rfl) (by first | exact List.all_eq_true.1 rfl | exact Enc.one _ _ | exact Enc.one encIns _) rfl ?_
        refine Tr.q (QS.assign rfl) rfl ?_
        refine Tr.nil ?_
        refine Tr.thenN ?_
        refine Tr.ret ?_
        refine Tr.thenR ?_
        refine Tr.retC2 Try.results28 rfl rfl (by repeat (first | exact List.Mem.head _ | apply List.Mem.tail)) Try.isAgg36 Try.sizeOf36 (by rfl) (fun w' hw => ?_)
        exact ⟨by rw [decP_3 (by omega) (by assumption) (by assumption)]; rfl, hw.below (Bg.le.refl _)⟩
      · try simp only [bs] at h5
        refine Tr.skip ?_
        refine Tr.thenN ?_
        refine Tr.seq ?_
        have hsz := sizeP_spec (opcodeP (rowP (b.getD 0 default)).1).2.1
        refine Tr.region ?_
        refine Tr.q (QS.move rfl) rfl ?_
        refine Tr.q (QS.move rfl) rfl ?_
        refine Tr.q (QS.fieldAddr (off := 0) (ft := 23) rfl Try.underlying36 rfl rfl Try.sizeOf23 (by decide)) rfl ?_
        refine Tr.storeV (cs' := [_, _, _, _, _, _, _, _, _]) rfl rfl Try.sizeOf23 (by repeat (first | exact Put.here _ | apply Put.there)) rfl (by rfl) (by first | exact Nat.le_of_ble_eq_true rfl | simp) (by first | exact List.all_eq_true.1 rfl | (intro u hu; simp [Value.cells] at hu; simp_all [Value.oneCell'])) rfl ?_
        refine Tr.q (QS.fieldAddr (off := 8) (ft := 3) rfl Try.underlying36 rfl rfl Try.sizeOf3 (by decide)) rfl ?_
        refine Tr.storeV (cs' := [_, _, _, _, _, _, _, _, _]) rfl rfl Try.sizeOf3 (by repeat (first | exact Put.here _ | apply Put.there)) rfl (by rfl) (by first | exact Nat.le_of_ble_eq_true rfl | simp) (by first | exact List.all_eq_true.1 rfl | (intro u hu; simp [Value.cells] at hu; simp_all [Value.oneCell'])) rfl ?_
        refine Tr.nil ?_
        refine Tr.thenN ?_
        refine Tr.seq ?_
        refine Tr.region ?_
        refine Tr.q (QS.move rfl) rfl ?_
        refine Tr.q (QS.move rfl) rfl ?_
        refine Tr.q (QS.cvtTo32 rfl Try.underlying3 Try.underlying23) rfl ?_
        refine Tr.q (QS.add32 rfl rfl) rfl ?_
        refine Tr.q (QS.assign rfl) rfl ?_
        refine Tr.nil ?_
        refine Tr.thenN ?_
        refine Tr.seqJ (ι := Ins) (fun k1 => k1 = setAB (opcodeP (rowP (b.getD 0 default)).1).2.1 { (rowP (b.getD 0 default)).1 with addr := addr, size := sizeP (opcodeP (rowP (b.getD 0 default)).1).2.1 } b) (fun _ => Bg.of w) (fun k1 => [cellE b3 (encIns.enc k1) 36, cellE b1 (encIns.enc zeroIns) 36]) (fun k1 => []) ?_ (fun k1 hi => ?_)
        · skip
          refine Tr.seq ?_
          refine Tr.region ?_
          refine Tr.q (QS.move rfl) rfl ?_
          refine Tr.nil ?_
          refine Tr.thenN ?_
          refine Tr.block ?_
          refine Tr.seq ?_
          refine Tr.seq ?_
          refine Tr.region ?_
          refine Tr.q (QS.eql rfl rfl) rfl ?_
          refine Tr.q (QS.assign rfl) rfl ?_
          refine Tr.nil ?_
          refine Tr.thenN ?_
          apply Tr.condOr
          · exact rfl
          · intro hO6
            try simp only [bs] at hO6
            refine Tr.seq ?_
            refine Tr.region ?_
            refine Tr.q (QS.eql rfl rfl) rfl ?_
            refine Tr.q (QS.assign rfl) rfl ?_
            refine Tr.nil ?_
            refine Tr.thenN ?_
            apply Tr.condOr
            · exact rfl
            · intro hO7
              try simp only [bs] at hO7
              refine Tr.region ?_
              refine Tr.q (QS.eql rfl rfl) rfl ?_
              refine Tr.q (QS.assign rfl) rfl ?_
              refine Tr.nil ?_
              refine Tr.thenN ?_
              exact Tr.endOr rfl (SubX.dropN 2 (by kernel_rfl) rfl)
            refine Tr.thenN ?_
            exact Tr.endOr rfl (SubX.dropN 3 (by kernel_rfl) rfl)
          refine Tr.thenN ?_
          refine Tr.cond rfl (fun h8 => ?_) (fun h8 => ?_)
          · try simp only [bs] at h8
            refine Tr.region ?_
            refine Tr.q (QS.move rfl) rfl ?_
            refine Tr.q (QS.idx rfl rfl (by assumption) Try.underlying54 Try.sizeOf5 (by rfl) (by omega)) rfl ?_
            refine Tr.q (QS.el1 rfl (by assumption) Try.isAgg5 (by omega) (by rfl)) rfl ?_
            refine Tr.q (QS.cvt8toI rfl Try.underlying5 Try.underlying3) rfl ?_
            refine Tr.q (QS.fieldAddr (off := 6) (ft := 3) rfl Try.underlying36 rfl rfl Try.sizeOf3 (by decide)) rfl ?_
            refine Tr.storeV (cs' := [_, _, _, _, _, _, _, _, _]) rfl rfl Try.sizeOf3 (by repeat (first | exact Put.here _ | apply Put.there)) rfl (by rfl) (by first | exact Nat.le_of_ble_eq_true rfl | simp) (by first | exact List.all_eq_true.1 rfl | (intro u hu; simp [Value.cells] at hu; simp_all [Value.oneCell'])) rfl ?_
            refine Tr.nil ?_
            refine Tr.inN ?_
            refine Tr.thenN ?_
            apply Tr.joined { { (rowP (b.getD 0 default)).1 with addr := addr, size := sizeP (opcodeP (rowP (b.getD 0 default)).1).2.1 } with a := (b.getD 1 default).toNat }
            · exact rfl
            · exact Front.nil
            · exact SubX.dropN 9 (by kernel_rfl) rfl
            · exact (by repeat' (first | exact Pick.nil _ | exact Del.here _ | apply Pick.cons | apply Del.there))
            · exact (by unfold setAB; (repeat (first | rw [if_pos (by omega)] | rw [if_neg (by omega)])) <;> rfl)
          · try simp only [bs] at h8
            refine Tr.seq ?_
            refine Tr.seq ?_
            refine Tr.region ?_
            refine Tr.q (QS.eql rfl rfl) rfl ?_
            refine Tr.q (QS.assign rfl) rfl ?_
            refine Tr.nil ?_
            refine Tr.thenN ?_
            apply Tr.condOr
            · exact rfl
            · intro hO9
              try simp only [bs] at hO9
              refine Tr.region ?_
              refine Tr.q (QS.eql rfl rfl) rfl ?_
              refine Tr.q (QS.assign rfl) rfl ?_
              refine Tr.nil ?_
              refine Tr.thenN ?_
              exact Tr.endOr rfl (SubX.dropN 2 (by kernel_rfl) rfl)
            refine Tr.thenN ?_
            refine Tr.cond rfl (fun h10 => ?_) (fun h10 => ?_)
            · try simp only [bs] at h10
              refine Tr.regionH ([cellE b1 (encIns.enc zeroIns) 36]) 14 rfl HLF.mixed ?_
              refine Tr.hT 0 rfl (by kernel_rfl) (panicIn (panicThen panicBody)) (QS.move rfl) ?_
              refine Tr.hT 1 rfl (by kernel_rfl) (panicIn (panicThen panicBody)) (QS.idx rfl rfl (by assumption) Try.underlying54 Try.sizeOf5 (by rfl) (by omega)) ?_
              refine Tr.hT 2 rfl (by kernel_rfl) (panicIn (panicThen panicBody)) (QS.el1 rfl (by assumption) Try.isAgg5 (by omega) (by rfl)) ?_
              refine Tr.hT 3 rfl (by kernel_rfl) (panicIn (panicThen panicBody)) (QS.shr8c4 rfl rfl) ?_
              refine Tr.hT 4 rfl (by kernel_rfl) (panicIn (panicThen panicBody)) (QS.cvt8toI rfl Try.underlying5 Try.underlying3) ?_
              refine Tr.hT 5 rfl (by kernel_rfl) (panicIn (panicThen panicBody)) (QS.move rfl) ?_
              refine Tr.hT 6 rfl (by kernel_rfl) (panicIn (panicThen panicBody)) (QS.idx rfl rfl (by assumption) Try.underlying54 Try.sizeOf5 (by rfl) (by omega)) ?_
              refine Tr.hT 7 rfl (by kernel_rfl) (panicIn (panicThen panicBody)) (QS.el1 rfl (by assumption) Try.isAgg5 (by omega) (by rfl)) ?_
              refine Tr.hT 8 rfl (by kernel_rfl) (panicIn (panicThen panicBody)) (QS.and8c15 rfl rfl) ?_
              refine Tr.hT 9 rfl (by kernel_rfl) (panicIn (panicThen panicBody)) (QS.cvt8toI rfl Try.underlying5 Try.underlying3) ?_
              refine Tr.hT 10 rfl (by kernel_rfl) (panicIn (panicThen panicBody)) (QS.fieldAddr (off := 6) (ft := 3) rfl Try.underlying36 rfl rfl Try.sizeOf3 (by decide)) ?_
              refine Tr.hAll [11] (by kernel_rfl) (by simp) (fun iq hq => ?_)
              obtain rfl := List.mem_singleton.1 hq
              refine Tr.hOp rfl ?_
              refine Tr.storeV (cs' := [_, _, _, _, _, _, _, _, _]) rfl rfl Try.sizeOf3 (by repeat (first | exact Put.here _ | apply Put.there)) rfl (by rfl) (by first | exact Nat.le_of_ble_eq_true rfl | simp) (by first | exact List.all_eq_true.1 rfl | (intro u hu; simp [Value.cells] at hu; simp_all [Value.oneCell'])) rfl ?_
              refine Tr.hN ?_
              refine Tr.hT 12 rfl (by kernel_rfl) (panicIn (panicThen panicBody)) (QS.fieldAddr (off := 7) (ft := 3) rfl Try.underlying36 rfl rfl Try.sizeOf3 (by decide)) ?_
              refine Tr.hAll [13] (by kernel_rfl) (by simp) (fun iq hq => ?_)
              obtain rfl := List.mem_singleton.1 hq
              refine Tr.hOp rfl ?_
              refine Tr.storeV (cs' := [_, _, _, _, _, _, _, _, _]) rfl rfl Try.sizeOf3 (by repeat (first | exact Put.here _ | apply Put.there)) rfl (by rfl) (by first | exact Nat.le_of_ble_eq_true rfl | simp) (by first | exact List.all_eq_true.1 rfl | (intro u hu; simp [Value.cells] at hu; simp_all [Value.oneCell'])) rfl ?_
              refine Tr.hN ?_
              refine Tr.hDone (by kernel_rfl) ?_
              refine Tr.inN ?_
              refine Tr.thenN ?_
              apply Tr.joined { { (rowP (b.getD 0 default)).1 with addr := addr, size := sizeP (opcodeP (rowP (b.getD 0 default)).1).2.1 } with a := (b.getD 1 default / 16).toNat, b := (b.getD 1 default % 16).toNat }
              · exact rfl
              · exact Front.nil
              · exact SubX.dropN 19 (by kernel_rfl) rfl
              · exact (by repeat' (first | exact Pick.nil _ | exact Del.here _ | apply Pick.cons | apply Del.there))
              · exact (by unfold setAB; (repeat (first | rw [if_pos (by omega)] | rw [if_neg (by omega)])) <;> rfl)
            · try simp only [bs] at h10
              refine Tr.skip ?_
              refine Tr.inN ?_
              refine Tr.thenN ?_
              apply Tr.joined { (rowP (b.getD 0 default)).1 with addr := addr, size := sizeP (opcodeP (rowP (b.getD 0 default)).1).2.1 }
              · exact rfl
              · exact Front.nil
              · exact SubX.dropN 7 (by kernel_rfl) rfl
              · exact (by repeat' (first | exact Pick.nil _ | exact Del.here _ | apply Pick.cons | apply Del.there))
              · exact (by unfold setAB; (repeat (first | rw [if_pos (by omega)] | rw [if_neg (by omega)])) <;> rfl)
        · skip
          replace hi : k1 = setAB (opcodeP (rowP (b.getD 0 default)).1).2.1 { (rowP (b.getD 0 default)).1 with addr := addr, size := sizeP (opcodeP (rowP (b.getD 0 default)).1).2.1 } b := hi
          change Tr _ _ [cellE b3 (encIns.enc k1) 36, cellE b1 (encIns.enc zeroIns) 36] ([] ++ _) _
          refine Tr.seqJ (ι := Ins) (fun k2 => k2 = setImm (opcodeP (rowP (b.getD 0 default)).1).2.1 (setAB (opcodeP (rowP (b.getD 0 default)).1).2.1 { (rowP (b.getD 0 default)).1 with addr := addr, size := sizeP (opcodeP (rowP (b.getD 0 default)).1).2.1 } b) b (addr + u32 (sizeP (opcodeP (rowP (b.getD 0 default)).1).2.1))) (fun _ => Bg.of w) (fun k2 => [cellE b3 (encIns.enc k2) 36, cellE b1 (encIns.enc zeroIns) 36]) (fun k2 => []) ?_ (fun k2 hi => ?_)
          · skip
            refine Tr.seq ?_
            refine Tr.region ?_
            refine Tr.q (QS.move rfl) rfl ?_
            refine Tr.nil ?_
            refine Tr.thenN ?_
            refine Tr.block ?_
            refine Tr.seq ?_
            refine Tr.seq ?_
            refine Tr.region ?_
            refine Tr.q (QS.eql rfl rfl) rfl ?_
            refine Tr.q (QS.assign rfl) rfl ?_
            refine Tr.nil ?_
            refine Tr.thenN ?_
            apply Tr.condOr
            · exact rfl
            · intro hO11
              try simp only [bs] at hO11
              refine Tr.region ?_
              refine Tr.q (QS.eql rfl rfl) rfl ?_
              refine Tr.q (QS.assign rfl) rfl ?_
              refine Tr.nil ?_
              refine Tr.thenN ?_
              exact Tr.endOr rfl (SubX.dropN 2 (by kernel_rfl) rfl)
            refine Tr.thenN ?_
            refine Tr.cond rfl (fun h12 => ?_) (fun h12 => ?_)
            · try simp only [bs] at h12
              refine Tr.region ?_
              refine Tr.q (QS.move rfl) rfl ?_
              refine Tr.q (QS.idx rfl rfl (by assumption) Try.underlying54 Try.sizeOf5 (by rfl) (by omega)) rfl ?_
              refine Tr.q (QS.el1 rfl (by assumption) Try.isAgg5 (by omega) (by rfl)) rfl ?_
              refine Tr.q (QS.cvt8to32 rfl Try.underlying5 Try.underlying23) rfl ?_
              refine Tr.q (QS.call rfl Try.call61 (fun w hw => extend_any (b.getD 2 default).toUInt32 1 w)) rfl ?_
              refine Tr.q (QS.fieldAddr (off := 1) (ft := 23) rfl Try.underlying36 rfl rfl Try.sizeOf23 (by decide)) rfl ?_
              refine Tr.storeV (cs' := [_, _, _, _, _, _, _, _, _]) rfl rfl Try.sizeOf23 (by repeat (first | exact Put.here _ | apply Put.there)) rfl (by rfl) (by first | exact Nat.le_of_ble_eq_true rfl | simp) (by first | exact List.all_eq_true.1 rfl | (intro u hu; simp [Value.cells] at hu; simp_all [Value.oneCell'])) rfl ?_
              refine Tr.nil ?_
              refine Tr.inN ?_
              refine Tr.thenN ?_
              rw [ext_sext]
              apply Tr.joined { k1 with imm := sextP (b.getD 2 default) }
              · exact rfl
              · exact Front.nil
              · exact SubX.dropN 10 (by kernel_rfl) rfl
              · exact (by repeat' (first | exact Pick.nil _ | exact Del.here _ | apply Pick.cons | apply Del.there))
              · exact (by subst hi; unfold setImm; (repeat (first | rw [if_pos (by omega)] | rw [if_neg (by omega)])) <;> rfl)
            · try simp only [bs] at h12
              refine Tr.seq ?_
              refine Tr.region ?_
              refine Tr.q (QS.eql rfl rfl) rfl ?_
              refine Tr.q (QS.assign rfl) rfl ?_
              refine Tr.nil ?_
              refine Tr.thenN ?_
              refine Tr.cond rfl (fun h13 => ?_) (fun h13 => ?_)
              · try simp only [bs] at h13
                refine Tr.region ?_
                refine Tr.q (QS.move rfl) rfl ?_
                refine Tr.q (QS.call rfl Try.call62 (fun w hw => get_any b V 2 4 w (hw.slF hV) (by omega))) rfl ?_
                refine Tr.q (QS.move rfl) rfl ?_
                refine Tr.q (QS.extract rfl rfl) rfl ?_
                refine Tr.q (QS.extract rfl rfl) rfl ?_
                refine Tr.q (QS.fieldAddr (off := 1) (ft := 23) rfl Try.underlying36 rfl rfl Try.sizeOf23 (by decide)) rfl ?_
                refine Tr.storeV (cs' := [_, _, _, _, _, _, _, _, _]) rfl rfl Try.sizeOf23 (by repeat (first | exact Put.here _ | apply Put.there)) rfl (by rfl) (by first | exact Nat.le_of_ble_eq_true rfl | simp) (by first | exact List.all_eq_true.1 rfl | (intro u hu; simp [Value.cells] at hu; simp_all [Value.oneCell'])) rfl ?_
                refine Tr.nil ?_
                refine Tr.inN ?_
                refine Tr.thenN ?_
                rw [show (getP b 2 4).1 = longP b 2 from get_long (k := 2) (by omega)]
                apply Tr.joined { k1 with imm := longP b 2 }
                · exact rfl
                · exact Front.nil
                · exact SubX.dropN 12 (by kernel_rfl) rfl
                · exact (by repeat' (first | exact Pick.nil _ | exact Del.here _ | apply Pick.cons | apply Del.there))
                · exact (by subst hi; unfold setImm; (repeat (first | rw [if_pos (by omega)] | rw [if_neg (by omega)])) <;> rfl)
              · try simp only [bs] at h13
                refine Tr.seq ?_
                refine Tr.region ?_
                refine Tr.q (QS.eql rfl rfl) rfl ?_
                refine Tr.q (QS.assign rfl) rfl ?_
                refine Tr.nil ?_
                refine Tr.thenN ?_
                refine Tr.cond rfl (fun h14 => ?_) (fun h14 => ?_)
                · try simp only [bs] at h14
                  refine Tr.region ?_
                  refine Tr.q (QS.move rfl) rfl ?_
                  refine Tr.q (QS.move rfl) rfl ?_
                  refine Tr.q (QS.idx rfl rfl (by assumption) Try.underlying54 Try.sizeOf5 (by rfl) (by omega)) rfl ?_
                  refine Tr.q (QS.el1 rfl (by assumption) Try.isAgg5 (by omega) (by rfl)) rfl ?_
                  refine Tr.q (QS.cvt8to32 rfl Try.underlying5 Try.underlying23) rfl ?_
                  refine Tr.q (QS.call rfl Try.call61 (fun w hw => extend_any (b.getD 1 default).toUInt32 1 w)) rfl ?_
                  refine Tr.q (QS.add32 rfl rfl) rfl ?_
                  refine Tr.q (QS.fieldAddr (off := 1) (ft := 23) rfl Try.underlying36 rfl rfl Try.sizeOf23 (by decide)) rfl ?_
                  refine Tr.storeV (cs' := [_, _, _, _, _, _, _, _, _]) rfl rfl Try.sizeOf23 (by repeat (first | exact Put.here _ | apply Put.there)) rfl (by rfl) (by first | exact Nat.le_of_ble_eq_true rfl | simp) (by first | exact List.all_eq_true.1 rfl | (intro u hu; simp [Value.cells] at hu; simp_all [Value.oneCell'])) rfl ?_
                  refine Tr.nil ?_
                  refine Tr.inN ?_
                  refine Tr.thenN ?_
                  rw [ext_sext]
                  apply Tr.joined { k1 with imm := (addr + u32 (sizeP (opcodeP (rowP (b.getD 0 default)).1).2.1)) + sextP (b.getD 1 default) }
                  · exact rfl
                  · exact Front.nil
                  · exact SubX.dropN 16 (by kernel_rfl) rfl
                  · exact (by repeat' (first | exact Pick.nil _ | exact Del.here _ | apply Pick.cons | apply Del.there))
                  · exact (by subst hi; unfold setImm; (repeat (first | rw [if_pos (by omega)] | rw [if_neg (by omega)])) <;> rfl)
                · try simp only [bs] at h14
                  refine Tr.seq ?_
                  refine Tr.region ?_
                  refine Tr.q (QS.eql rfl rfl) rfl ?_
                  refine Tr.q (QS.assign rfl) rfl ?_
                  refine Tr.nil ?_
                  refine Tr.thenN ?_
                  refine Tr.cond rfl (fun h15 => ?_) (fun h15 => ?_)
                  · try simp only [bs] at h15
                    refine Tr.seq ?_
                    refine Tr.region ?_
                    refine Tr.q (QS.move rfl) rfl ?_
                    refine Tr.q (QS.call rfl Try.call62 (fun w hw => get_any b V 1 4 w (hw.slF hV) (by omega))) rfl ?_
                    refine Tr.q (QS.move rfl) rfl ?_
                    refine Tr.q (QS.extract rfl rfl) rfl ?_
                    refine Tr.q (QS.extract rfl rfl) rfl ?_
                    refine Tr.q (QS.assign rfl) rfl ?_
                    refine Tr.q (QS.assign rfl) rfl ?_
                    refine Tr.nil ?_
                    refine Tr.thenN ?_
                    refine Tr.region ?_
                    refine Tr.q (QS.move rfl) rfl ?_
                    refine Tr.q (QS.move rfl) rfl ?_
                    refine Tr.q (QS.add32 rfl rfl) rfl ?_
                    refine Tr.q (QS.fieldAddr (off := 1) (ft := 23) rfl Try.underlying36 rfl rfl Try.sizeOf23 (by decide)) rfl ?_
                    refine Tr.storeV (cs' := [_, _, _, _, _, _, _, _, _]) rfl rfl Try.sizeOf23 (by repeat (first | exact Put.here _ | apply Put.there)) rfl (by rfl) (by first | exact Nat.le_of_ble_eq_true rfl | simp) (by first | exact List.all_eq_true.1 rfl | (intro u hu; simp [Value.cells] at hu; simp_all [Value.oneCell'])) rfl ?_
                    refine Tr.nil ?_
                    refine Tr.inN ?_
                    refine Tr.thenN ?_
                    rw [show (getP b 1 4).1 = longP b 1 from get_long (k := 1) (by omega)]
                    apply Tr.joined { k1 with imm := (addr + u32 (sizeP (opcodeP (rowP (b.getD 0 default)).1).2.1)) + longP b 1 }
                    · exact rfl
                    · exact Front.nil
                    · exact SubX.dropN 21 (by kernel_rfl) rfl
                    · exact (by repeat' (first | exact Pick.nil _ | exact Del.here _ | apply Pick.cons | apply Del.there))
                    · exact (by subst hi; unfold setImm; (repeat (first | rw [if_pos (by omega)] | rw [if_neg (by omega)])) <;> rfl)
                  · try simp only [bs] at h15
                    refine Tr.skip ?_
                    refine Tr.inN ?_
                    refine Tr.thenN ?_
                    apply Tr.joined k1
                    · exact rfl
                    · exact Front.nil
                    · exact SubX.dropN 10 (by kernel_rfl) rfl
                    · exact (by repeat' (first | exact Pick.nil _ | exact Del.here _ | apply Pick.cons | apply Del.there))
                    · exact (by subst hi; unfold setImm; (repeat (first | rw [if_pos (by omega)] | rw [if_neg (by omega)])) <;> rfl)
          · skip
            replace hi : k2 = setImm (opcodeP (rowP (b.getD 0 default)).1).2.1 (setAB (opcodeP (rowP (b.getD 0 default)).1).2.1 { (rowP (b.getD 0 default)).1 with addr := addr, size := sizeP (opcodeP (rowP (b.getD 0 default)).1).2.1 } b) b (addr + u32 (sizeP (opcodeP (rowP (b.getD 0 default)).1).2.1)) := hi
            change Tr _ _ [cellE b3 (encIns.enc k2) 36, cellE b1 (encIns.enc zeroIns) 36] ([] ++ _) _
            refine Tr.seq ?_
            refine Tr.seq ?_
            refine Tr.region ?_
            refine Tr.q (QS.fieldAddr (off := 6) (ft := 3) rfl Try.underlying36 rfl rfl Try.sizeOf3 (by decide)) rfl ?_
            refine Tr.q (QS.lV rfl Try.isAgg3) rfl ?_
            refine Tr.q (QS.call rfl Try.call63 (fun w hw => register_any k2.a w)) rfl ?_
            refine Tr.q (QS.not rfl) rfl ?_
            refine Tr.q (QS.move rfl) rfl ?_
            apply Tr.orP
            · exact (rfl : _ = (5, 118, 123))
            · exact rfl
            · intro hF16; have hF16' := hF16
              try simp only [bs] at hF16'
              refine Tr.gq rfl rfl hF16 (QS.fieldAddr (off := 7) (ft := 3) rfl Try.underlying36 rfl rfl Try.sizeOf3 (by decide)) rfl ?_
              refine Tr.gq rfl rfl hF16 (QS.lV rfl Try.isAgg3) rfl ?_
              refine Tr.gq rfl rfl hF16 (QS.call rfl Try.call63 (fun w hw => register_any k2.b w)) rfl ?_
              refine Tr.gq rfl rfl hF16 (QS.not rfl) rfl ?_
              refine Tr.q (QS.pickF rfl hF16 rfl) rfl ?_
              refine Tr.nil (Tr.thenN ?_)
              exact Tr.endX (Sub.cons rfl (Sub.dropN 5 (by kernel_rfl) rfl))
            · intro hT16
              refine Tr.gskip rfl rfl hT16 rfl ?_
              refine Tr.gskip rfl rfl hT16 rfl ?_
              refine Tr.gskip rfl rfl hT16 rfl ?_
              refine Tr.gskip rfl rfl hT16 rfl ?_
              refine Tr.q (QS.pickT rfl hT16 rfl) rfl ?_
              refine Tr.nil (Tr.thenN ?_)
              exact Tr.endX (Sub.cons rfl (Sub.dropN 5 (by kernel_rfl) rfl))
            refine Tr.nil ?_
            refine Tr.thenN ?_
            refine Tr.cond rfl (fun h17 => ?_) (fun h17 => ?_)
            · try simp only [bs] at h17
              refine Tr.seq ?_
              refine Tr.region ?_
              refine Tr.q (QS.build (vs := []) rfl rfl (HLF.built36)) rfl ?_
              refine Tr.storeW rfl rfl Try.sizeOf36 (by repeat (first | exact Put.here _ | apply Put.there)) (by rfl) (by rfl) (by first | exact List.all_eq_true.1 rfl | exact Enc.one _ _ | exact Enc.one encIns _) rfl ?_
              refine Tr.q (QS.assign rfl) rfl ?_
              refine Tr.nil ?_
              refine Tr.thenN ?_
              refine Tr.ret ?_
              refine Tr.thenR ?_
              refine Tr.retC2 Try.results28 rfl rfl (by repeat (first | exact List.Mem.head _ | apply List.Mem.tail)) Try.isAgg36 Try.sizeOf36 (by rfl) (fun w' hw => ?_)
              exact ⟨by rw [decP_4 (by omega) (by assumption) (by assumption) hi, if_pos (by assumption)]; rfl, hw.below (Bg.le.refl _)⟩
            · try simp only [bs] at h17
              refine Tr.skip ?_
              refine Tr.thenN ?_
              refine Tr.seq ?_
              refine Tr.region ?_
              refine Tr.q (QS.lW rfl Try.isAgg36 Try.sizeOf36) rfl ?_
              refine Tr.storeW rfl rfl Try.sizeOf36 (by repeat (first | exact Put.here _ | apply Put.there)) (by rfl) (by rfl) (by first | exact List.all_eq_true.1 rfl | exact Enc.one _ _ | exact Enc.one encIns _) rfl ?_
              refine Tr.q (QS.assign rfl) rfl ?_
              refine Tr.nil ?_
              refine Tr.thenN ?_
              refine Tr.ret ?_
              refine Tr.retC2 Try.results28 rfl rfl (by repeat (first | exact List.Mem.head _ | apply List.Mem.tail)) Try.isAgg36 Try.sizeOf36 (by rfl) (fun w' hw => ?_)
              exact ⟨by rw [decP_4 (by omega) (by assumption) (by assumption) hi, if_neg (by simp_all)]; rfl, hw.below (Bg.le.refl _)⟩
end Go.Proofs.Ytfnedefgepjbpaa
namespace Go.HL
open Go Go.RowKit
section
variable {P : Program} {ops : Array Oper} {Q : Exit → Act → World → Prop} {N : Nat} {F : Bg} {L : List Ent} {M : Fr} {ty : TypeId} {pos : String} {after : Array Edge} {rest : List Oper} {d : Nat} {op : Op}
theorem flatMap_setEl {α : Type} (E : Enc α) (x' : α) : ∀ (l : List α) (i : Nat), i < l.length → (l.set i x').flatMap E.enc = splice (l.flatMap E.enc) (i * E.k) (E.enc x')
  | [], i, h => by simp at h
  | y :: l, 0, _ => by
    simp only [List.set_cons_zero, List.flatMap_cons, Nat.zero_mul, splice, List.take_zero, List.nil_append, Nat.zero_add, E.len]
    rw [List.drop_append_of_le_length (by rw [E.len]; exact Nat.le_refl _), List.drop_of_length_le (by rw [E.len]; exact Nat.le_refl _)]; rfl
  | y :: l, i + 1, h => by
    have ih := flatMap_setEl E x' l i (by simpa using h)
    simp only [List.set_cons_succ, List.flatMap_cons, ih, splice]
    have hl : (E.enc y).length = E.k := E.len y
    rw [show (i + 1) * E.k = (E.enc y).length + i * E.k by rw [hl, Nat.add_mul]; omega, List.take_length_add_append, show (E.enc y).length + i * E.k + (E.enc x').length = (E.enc y).length + (i * E.k + (E.enc x').length) by omega, List.drop_length_add_append]
    simp only [List.append_assoc]
theorem take_splice {cs v : List Value} {o n : Nat} (h : o + v.length ≤ n) (hn : n ≤ cs.length) : (splice cs o v).take n = splice (cs.take n) o v := by
  apply List.ext_getElem?
  intro q
  simp only [splice, List.getElem?_take, List.getElem?_append, List.length_take, List.getElem?_drop, List.length_append]
  grind
/-- A store of a whole element of one's own slice. -/
theorem Tr.storeEl {α : Type} {E : Enc α} {l : List α} (x' : α) {x y : Operand} {t T : TypeId} {V v : Value} {i : Nat} {L' : List Ent} {dst : Option Tmp} (hx : opv M x = some (.pointer (some ⟨bk V, ofs V + i * E.k, none⟩))) (hy : opv M y = some v)
    (hz : ∀ w, (sizeOf t).run P w = .ok E.k w) (hput : Put (rowE V T E l) (rowE V T E (l.set i x')) L L') (hi : i < l.length) (hc : v.cells.toList = E.enc x') (hdst : dst = none)
    (K : Tr N F L' M (wpList P ops Q rest)) : Tr N F L M (wpList P ops Q (⟨dst, .store t x y, ty, pos, after, none⟩ :: rest)) := by
  subst hdst
  intro a w ha hw
  refine wpList_plain rfl fun K' hK => ?_
  have hr : RowOK V T E l (V.ownBlock.bind (w.heap[·]?)) := hw.ent _ hput.mem
  rcases hr with ⟨_, rfl⟩ | ⟨gb, cap, cur, rfl, ho, hc1, hc2, hc3, hc4⟩
  · simp at hi
  · have ho' : w.heap[gb]? = some (.cells cur T (0, 0)) := ho
    have hlt : i * E.k + E.k ≤ l.length * E.k := by rw [← Nat.succ_mul]; exact Nat.mul_le_mul_right _ hi
    have hle : l.length * E.k ≤ cur.size := Nat.le_trans (Nat.mul_le_mul_right _ hc1) hc3
    have hs : v.cells.size = E.k := by have := congrArg List.length hc; rw [E.len] at this; simpa using this
    have hst := run_storeV (P := P) (w := w) (b := gb) (o := i * E.k) (cs := cur.toList) (T := T) (t := t) (v := v) (by simpa using ho') hz hs (by simp; omega) (by rw [hc]; intro u hu; exact E.one _ _ hu)
    simp only [bk, ofs, Nat.zero_add] at hx
    unfold Oper.wp
    simp only [execOp, ha.eval hx, ha.eval hy, Sem.run_bind, hst, Result.andThen_ok, Sem.run_pure, Oper.upon, Act.put]
    refine hK _ _ (K _ _ ha ?_)
    have e1 : rowE (.slice (some ⟨gb, 0, none⟩) l.length cap) T E l = ⟨some gb, RowOK (.slice (some ⟨gb, 0, none⟩) l.length cap) T E l⟩ := rfl
    have e2 : rowE (.slice (some ⟨gb, 0, none⟩) l.length cap) T E (l.set i x') = ⟨some gb, RowOK (.slice (some ⟨gb, 0, none⟩) l.length cap) T E (l.set i x')⟩ := rfl
    rw [e1, e2] at hput
    refine HpOK.set hw hput rfl rfl rfl (by simp) (Nat.le_refl _) (fun k _ hkb => setRow_other w gb k _ hkb) ?_
    rw [setRow_heap w gb _ _ T (0, 0) ho']
    have hll : (l.set i x').length = l.length := by simp
    refine .inr ⟨gb, cap, _, by rw [hll], rfl, by rw [hll]; exact hc1, hc2, ?_, ?_⟩
    · rw [List.size_toArray]
      simp only [splice, hc, List.length_append, List.length_take, List.length_drop, Array.length_toList, E.len]
      omega
    · rw [hll, flatMap_setEl E x' l i hi, ← hc4, hc, List.toList_toArray]
      refine take_splice ?_ ?_
      · rw [E.len]; omega
      · rw [Array.length_toList]; exact hle
/-- A call that changes one's own slice in place as R says. -/
theorem Tr.callMutR {α : Type} {E : Enc α} {l : List α} (R : List α → Prop) {V : Value} {T : TypeId} {f : FuncId} {xs : List Operand} {vs : List Value} {ts : Array TypeId} {v : Value} {L0 : List Ent} (hx : opvs M xs = some vs)
    (he : ∀ (args : Array Value) (w : World), (callFunc f args).run P w = .ok (.enter f args) w)
    (hc : ∀ w, HpOK F (rowE V T E l :: L0) w → Calls P f vs.toArray w fun e w' => e = .returned v ∧ ∃ l', R l' ∧ Mut w w' V ∧ (rowE V T E l').holds w') (hd : Nat.ble (d + 1) N = true)
    (K : ∀ l', R l' → Tr N F (rowE V T E l' :: L0) ((d, v) :: M) (wpList P ops Q rest)) :
    Tr N F (rowE V T E l :: L0) M (wpList P ops Q (⟨some d, .call { callee := .value (.func f), args := xs.toArray, argTypes := ts }, ty, pos, after, none⟩ :: rest)) := by
  intro a w ha hw
  refine wpList_plain rfl fun K' hK => ?_
  have hr : (execOp a.eval ⟨some d, .call { callee := .value (.func f), args := xs.toArray, argTypes := ts }, ty, pos, after, none⟩).run P w = .ok (.enter f vs.toArray) w := by
    have := ha.evals hx
    simp [execOp, resolve, Deferred.ofValue, Act.eval, invoke, he, this]
  unfold Oper.wp
  rw [hr]
  refine (hc w hw).mono fun e w' ⟨h1, l', h0, h2, h3⟩ => ?_
  subst h1
  exact hK _ _ (K l' h0 _ _ (ha.put (Nat.le_of_ble_eq_true hd)) (hw.mut (.here _) h2 h3))
theorem Tr.rowEq {α : Type} {E : Enc α} {l l' : List α} {V : Value} {T : TypeId} {L0 : List Ent} {X : Act → World → Prop} (h : l = l') (K : Tr N F (rowE V T E l' :: L0) M X) : Tr N F (rowE V T E l :: L0) M X := h ▸ K
theorem QS.str_gtr {m n : ByteArray} {x y : Operand} {t u : TypeId} {g : Option (Nat × Bool)} {dst : Option Tmp} (hx : opv M x = some (.string m)) (hy : opv M y = some (.string n)) : QS P N F L M ⟨dst, .binOp .gtr t x y u, ty, pos, after, g⟩ (.bool (!(Op.bytesLess m.toList n.toList || m.toList == n.toList))) :=
  QS.strOf hx hy fun w => by simp [Op.stringOp]
theorem QS.shr1 {m : Int} {x y : Operand} {t u : TypeId} {g : Option (Nat × Bool)} {dst : Option Tmp} (hx : opv M x = some (.int .u64 m)) (hy : opv M y = some (.int .u64 1)) (hm : 0 ≤ m) :
    QS P N F L M ⟨dst, .binOp .shr t x y u, ty, pos, after, g⟩ (.int .u64 (m / 2)) := by
  have h := QS.shr (P := P) (N := N) (F := F) (L := L) (dst := dst) (t := t) (u := u) (ty := ty) (pos := pos) (after := after) (g := g) hx hy (by decide)
  rw [show m.fdiv (2 ^ min (1 : Int).toNat IntKind.u64.bits) = m / 2 from Int.fdiv_eq_ediv_of_nonneg _ (by decide)] at h
  exact h
/-- An operation of the region's beginning that looks at the frame alone. -/
theorem TrQ.pureQ {X : Act → Prop} {v : Value} (h : ∀ F, QS P N F [] M ⟨some d, op, ty, pos, after, none⟩ v) (hp : plainOp op = true) (hd : Nat.ble (d + 1) N = true) (k : TrQ N ((d, v) :: M) (wpPure P ops X rest)) :
    TrQ N M (wpPure P ops X (⟨some d, op, ty, pos, after, none⟩ :: rest)) := fun a ha =>
  ⟨v, .inl ⟨by simp [Region.wanted], fun w => QS.run (h (Bg.of w)) hp ha (HpOK.start w)⟩, k _ (ha.put (Nat.le_of_ble_eq_true hd))⟩
end
end Go.HL
namespace Go.HL
open Go Go.RowKit
def Bg.of0 (w : World) : Bg := { Bg.of w with dr := 0 }
theorem HpOK.start0 (w : World) : HpOK (Bg.of0 w) [] w :=
  ⟨rfl, rfl, rfl, Nat.le_refl _, Nat.zero_le _, fun _ _ h => h, fun _ h => (by cases h), (by simp [blks]), fun _ h => (by simp [blks] at h), fun _ h => (by simp [blks] at h)⟩
theorem HpOK.below0 {w0 w : World} {F : Bg} {L : List Ent} (h : HpOK F L w) (hF : (Bg.of0 w0).le F) : Below w0.heap.size w0 w :=
  ⟨h.os.trans hF.os, h.tape.trans hF.tape, h.out.trans hF.out, Nat.le_trans hF.n h.n, fun k hk => by
    have e : (Bg.of0 w0).blk k = some w0.heap[k] := by simp [Bg.of0, Bg.of, hk]
    rw [h.bg k _ (hF.blk k _ e)]; simp [hk]⟩
def CellsOnly (L : List Ent) : Prop := ∀ e ∈ L, ∀ b, e.blk = some b → ∀ o, e.ok (some o) → o.isCells = true
theorem CellsOnly.nil : CellsOnly [] := fun _ h => by cases h
theorem CellsOnly.cell {b : Nat} {cs : List Value} {T : TypeId} {L : List Ent} (h : CellsOnly L) : CellsOnly (cellE b cs T :: L) := fun e he => by
  rcases List.mem_cons.1 he with rfl | he
  · intro _ _ o ho; cases ho; rfl
  · exact h e he
theorem CellsOnly.row {α : Type} {V : Value} {T : TypeId} {E : Enc α} {l : List α} {L : List Ent} (h : CellsOnly L) : CellsOnly (rowE V T E l :: L) := fun e he => by
  rcases List.mem_cons.1 he with rfl | he
  · intro b hb o ho
    rcases ho with ⟨rfl, _⟩ | ⟨g, cap, cur, _, ho, _⟩
    · cases hb
    · cases ho; rfl
  · exact h e he
theorem ent_obj {F : Bg} {L : List Ent} {w : World} (h : HpOK F L w) (hc : CellsOnly L) {b : Nat} (hb : b ∈ blks L) : ∃ o, w.heap[b]? = some o ∧ o.isCells = true := by
  obtain ⟨e, he, hk⟩ := List.mem_filterMap.1 hb
  have hlt := h.lt b hb
  have hh := h.ent e he
  unfold Ent.holds at hh
  rw [hk, Option.bind_some, Array.getElem?_eq_getElem hlt] at hh
  exact ⟨_, Array.getElem?_eq_getElem hlt, hc e he b hk _ hh⟩
/-- What lies there stays, but for a block that is no cells. -/
theorem HpOK.turned {F : Bg} {L : List Ent} {w w' : World} {row : Option Nat} {B : Nat} (h : HpOK F L w) (hc : CellsOnly L) (h0 : F.dr = 0) (hB : ∀ b o, F.blk b = some o → b < B) (hg : w.grownBy w' row)
    (hr : ∀ r, row = some r → B ≤ r ∧ ∃ o : Obj, w.heap[r]? = some o ∧ o.isCells = false) : HpOK F L w' := by
  refine ⟨hg.os.trans h.os, hg.tape.trans h.tape, hg.output.trans h.out, Nat.le_trans h.n hg.size, by rw [h0]; exact Nat.zero_le _, fun b o e => ?_, fun e he => ?_, h.nodup, fun b hm => Nat.lt_of_lt_of_le (h.lt b hm) hg.size, h.sep⟩
  · have := h.bg b o e
    rw [hg.block b (Array.getElem?_eq_some_iff.1 this).1 (fun e2 => by have := (hr b e2.symm).1; have := hB b o e; omega)]; exact this
  · have hh := h.ent e he
    unfold Ent.holds at *
    cases hk : e.blk with
    | none => rw [hk] at hh; exact hh
    | some b =>
      rw [hk] at hh
      simp only [Option.bind_some] at *
      have hb : b ∈ blks L := List.mem_filterMap.2 ⟨e, he, hk⟩
      obtain ⟨o, ho, hoc⟩ := ent_obj h hc hb
      rw [hg.block b (h.lt b hb) (fun e2 => by
        obtain ⟨_, o2, ho2, hn⟩ := hr b e2.symm
        rw [ho] at ho2; cases ho2; rw [hoc] at hn; cases hn)]
      exact hh
theorem HpOK.weaken {F G : Bg} {L : List Ent} {w : World} (h : HpOK G L w) (hF : F.le G) : HpOK F L w :=
  ⟨h.os.trans hF.os, h.tape.trans hF.tape, h.out.trans hF.out, Nat.le_trans hF.n h.n, by rw [← hF.dr]; exact h.dr, fun b o e => h.bg b o (hF.blk b o e), h.ent, h.nodup, h.lt, fun b hb => by
    refine ⟨?_, by rw [← hF.lo]; exact (h.sep b hb).2⟩
    cases e : F.blk b with
    | none => rfl
    | some o =>
      have h2 := hF.blk b o e
      rw [(h.sep b hb).1] at h2
      cases h2⟩
/-- What is not one's own becomes background, and the heap's size is known. -/
theorem HpOK.freezeN {F : Bg} {L : List Ent} {w : World} (h : HpOK F L w) : ∃ F', F.le F' ∧ HpOK F' L w ∧ F'.n = w.heap.size ∧ ∀ b o, b ∉ blks L → w.heap[b]? = some o → F'.blk b = some o := by
  refine ⟨{ F with blk := fun b => if b ∈ blks L then none else w.heap[b]?, n := w.heap.size, lo_le := Nat.le_trans F.lo_le h.n }, ⟨fun b o e => ?_, h.n, rfl, rfl, rfl, rfl, rfl⟩, ⟨h.os, h.tape, h.out, Nat.le_refl _, h.dr, fun b o e => ?_, h.ent, h.nodup, h.lt, fun b hb => ⟨?_, (h.sep b hb).2⟩⟩, rfl, fun b o hb e => ?_⟩
  · have hn : b ∉ blks L := fun hb => by rw [(h.sep b hb).1] at e; cases e
    show (if b ∈ blks L then none else w.heap[b]?) = some o
    rw [if_neg hn]; exact h.bg b o e
  · have e' : (if b ∈ blks L then none else w.heap[b]?) = some o := e
    split at e'
    · cases e'
    · exact e'
  · show (if b ∈ blks L then none else w.heap[b]?) = none
    rw [if_pos hb]
  · show (if b ∈ blks L then none else w.heap[b]?) = some o
    rw [if_neg hb]; exact e
def ownW (bs : List Nat) (W : World) (k : Nat) : Prop := k ∈ bs ∨ ∃ b ∈ bs, ∃ V, W.cell? ⟨b, 0, none⟩ = some V ∧ V.ownBlock = some k
structure KpW (bs : List Nat) (W W' : World) : Prop where
  size : W.heap.size ≤ W'.heap.size
  same : ∀ (k : Nat) (o : Obj), W.heap[k]? = some o → o.isCells = true → ¬ ownW bs W k → W'.heap[k]? = some o
  own : ∀ k, ownW bs W' k → ownW bs W k ∨ W.heap.size ≤ k
theorem ownW_same {bs : List Nat} {w w' : World} (h : ∀ b ∈ bs, w'.heap[b]? = w.heap[b]?) (k : Nat) : ownW bs w' k ↔ ownW bs w k := by
  constructor
  · rintro (h1 | ⟨b, hb, V, h1, h2⟩)
    · exact .inl h1
    · exact .inr ⟨b, hb, V, by rw [← h1]; exact (World.cell?_of_block (a := ⟨b, 0, none⟩) (h b hb)).symm, h2⟩
  · rintro (h1 | ⟨b, hb, V, h1, h2⟩)
    · exact .inl h1
    · exact .inr ⟨b, hb, V, by rw [← h1]; exact World.cell?_of_block (a := ⟨b, 0, none⟩) (h b hb), h2⟩
theorem KpW.trans {bs : List Nat} {A B C : World} (h : KpW bs A B) (k : KpW bs B C) : KpW bs A C :=
  ⟨Nat.le_trans h.size k.size, fun i o hi ho hn => k.same i o (h.same i o hi ho hn) ho fun hb => by
      rcases h.own i hb with h1 | h1
      · exact hn h1
      · have := (Array.getElem?_eq_some_iff.1 hi).1; omega,
    fun i hi => by
      rcases k.own i hi with h1 | h1
      · exact h.own i h1
      · exact .inr (Nat.le_trans h.size h1)⟩
theorem KpW.turn {bs : List Nat} {B : Nat} (hbs : ∀ b ∈ bs, b < B) (W : World) (l : Nat) (o o' : Obj) (hl : B ≤ l) (ho : W.heap[l]? = some o) (hc : o.isCells = false) : KpW bs W (W.putObj l o') := by
  have hg := grownBy_putObj' W l o'
  refine ⟨hg.size, fun k u hk hu hn => ?_, fun k hk => .inl ?_⟩
  · rw [hg.block k (Array.getElem?_eq_some_iff.1 hk).1 (fun e => by cases e; rw [ho] at hk; cases hk; rw [hc] at hu; cases hu)]; exact hk
  · rcases hk with hk | ⟨b, hb, V, hV, hV2⟩
    · exact .inl hk
    · refine .inr ⟨b, hb, V, ?_, hV2⟩
      rw [← hV]
      exact (World.cell?_of_block (World.putObj_heap_other (fun e => by have := hbs b hb; have e2 : b = l := e; omega))).symm
section
variable {P : Program} {ops : Array Oper} {Q : Exit → Act → World → Prop} {N : Nat} {F : Bg} {L : List Ent} {M : Fr} {l0 n : Nat}
def noDefer (l : List Oper) : Bool := l.all fun o => match o.op with | .defer _ => false | _ => true
theorem Oper.wp_in {o : Oper} {a : Act} {w : World} {K K' : Act → World → Prop} (hd : ∀ c, o.op ≠ .defer c) (hK : ∀ a w, K a w → K' a w) (h : o.wp P a w K Q) : o.wpIn (Fence.wide.inRound l0) n P a w K' Q := by
  have h := Oper.wp_mono hK h
  refine ⟨fun _ _ => trivial, ?_⟩
  rw [Oper.semAt_eq _ _ _ hd]
  unfold Oper.wp at h
  cases hr : (execOp a.eval o).run P w with
  | ok nx w' =>
    rw [hr] at h
    cases nx with
    | value v => exact h
    | skip => exact h
    | defer d => exact h
    | enter f args =>
      refine ⟨fun h => ?_, CallsIn.inRound l0 (callsIn_wide.2 h)⟩
      cases h
    | row r args =>
      refine ⟨fun h => ?_, fun c cs _ => ?_⟩
      · cases h
      · obtain ⟨v, w', r, s⟩ := h c cs
        exact ⟨v, w', r, (stepsIn_wide.2 s : StepsIn (Machine.fenced P Fence.wide) P _ _)⟩
    | _ => exact h.elim
  | halt e w' =>
    rw [hr] at h
    cases e <;> first | exact h | exact h.elim
theorem wpListIn_of (hno : ¬ LetsOut Q) : ∀ (l : List Oper) (a : Act) (w : World), noDefer l = true → wpList P ops Q l a w → wpListIn (Fence.wide.inRound l0) n P ops Q l a w
  | [], _, _, _, h => h
  | o :: rest, a, w, hd, h => by
    have hd1 : (∀ c, o.op ≠ .defer c) ∧ noDefer rest = true := by
      simp only [noDefer, List.all_cons, Bool.and_eq_true] at hd ⊢
      refine ⟨fun c e => ?_, hd.2⟩
      rw [e] at hd; simp at hd
    unfold wpList at h
    unfold wpListIn
    split
    · rename_i hw
      rw [if_pos hw] at h
      rcases h with h | h
      · exact Oper.wp_in hd1.1 (fun a w k => wpListIn_of hno rest a w hd1.2 k) h
      · exact absurd h.2 hno
    · rename_i hw
      rw [if_neg hw] at h
      exact ⟨fun _ _ => trivial, wpListIn_of hno rest _ w hd1.2 h⟩
theorem noThen {K : Act → World → Prop} (h : ¬ LetsOut Q) : ¬ LetsOut (Exit.then K Q) := h
theorem noIn {id : Nat} (h : ¬ LetsOut Q) : ¬ LetsOut (Exit.inBlock id Q) := h
theorem noNormal {K : Act → World → Prop} : ¬ LetsOut (fun e a w => e = Exit.normal ∧ K a w) := fun ⟨_, _, h, _⟩ => by cases h
theorem Tr.regionI {id : Nat} {l : List Oper} (hno : ¬ LetsOut Q) (hd : noDefer l = true) (h : Tr N F L M (wpList P l.toArray Q l)) : Tr N F L M ((Code.region id l.toArray false).wpIn (Fence.wide.inRound l0) n P Q) :=
  fun a w ha hw => wpIn_region_lit (wpListIn_of hno l a w hd (h a w ha hw))
theorem Tr.seqIn {x y : Code} (h : Tr N F L M (x.wpIn (Fence.wide.inRound l0) n P (Exit.then (y.wpIn (Fence.wide.inRound l0) n P Q) Q))) : Tr N F L M ((Code.seq x y).wpIn (Fence.wide.inRound l0) n P Q) := fun a w ha hw => wpIn_seq (h a w ha hw)
theorem Tr.blockIn {id : Nat} {c : Code} (h : Tr N F L M (c.wpIn (Fence.wide.inRound l0) n P (Exit.inBlock id Q))) : Tr N F L M ((Code.block id c).wpIn (Fence.wide.inRound l0) n P Q) := fun a w ha hw => wpIn_block (h a w ha hw)
theorem Tr.condIn {c : Operand} {x y : Code} {b : Bool} (hc : opv M c = some (.bool b)) (ht : b = true → Tr N F L M (x.wpIn (Fence.wide.inRound l0) n P Q)) (hf : b = false → Tr N F L M (y.wpIn (Fence.wide.inRound l0) n P Q)) :
    Tr N F L M ((Code.cond c x y).wpIn (Fence.wide.inRound l0) n P Q) := fun a w ha hw => wpIn_cond_split (ha.eval hc) (fun h => ht h a w ha hw) (fun h => hf h a w ha hw)
end
def dropMk (M : Fr) : Fr := M.filter fun e => Nat.blt e.1 mk0
theorem look_dropMk : ∀ (M : Fr) (t : Nat), look (dropMk M) t = if t < mk0 then look M t else none
  | [], t => by simp [dropMk, look]
  | (d, v) :: M, t => by
    have ih := look_dropMk M t
    unfold dropMk at *
    rw [List.filter_cons]
    by_cases h : d < mk0
    · rw [if_pos (by simp only [Nat.blt, Nat.ble_eq]; omega), look_cons, look_cons, ih]
      by_cases e : d = t
      · subst e; simp [h]
      · simp [e]
    · rw [if_neg (by simp only [Nat.blt, Nat.ble_eq]; omega), ih, look_cons]
      by_cases e : d = t
      · subst e; simp [h]
      · simp [e]
def markE (D : Nat) : Ent := ⟨some D, fun o => o = some (.deferred (some []))⟩
theorem FrOK.marked {N D : Nat} {M : Fr} {a : Act} (h : FrOK N M a) (h0 : a.defers = []) : FrOK N ((mk0 + 1 + D, undef) :: dropMk M) { a with defers := { target := .collected D, args := #[] } :: a.defers } := by
  refine ⟨fun e => ?_, fun D' e => ?_, h.size, h.lt, fun t v e => ?_⟩
  · rw [look_cons, if_neg (by omega), look_dropMk, if_neg (by omega)] at e; cases e
  · rw [look_cons, look_dropMk, if_neg (c := mk0 + 1 + D' < mk0) (by omega)] at e
    split at e
    · obtain rfl : D = D' := by omega
      show _ :: a.defers = _
      rw [h0]
    · cases e
  · rw [look_cons, look_dropMk] at e
    split at e
    · rename_i e2
      cases e
      rw [← e2, Array.getD_eq_getD_getElem?, Array.getElem?_eq_none (by have h1 : a.tmps.size = N := h.size; have := h.lt; show a.tmps.size ≤ _; omega)]; rfl
    · split at e
      · exact h.val t v e
      · cases e
theorem look_append : ∀ (A B : Fr) (t : Nat), look (A ++ B) t = match look A t with | some v => some v | none => look B t
  | [], B, t => by simp [look]
  | (d, v) :: A, B, t => by
    rw [List.cons_append, look_cons, look_cons]
    split
    · rfl
    · exact look_append A B t
theorem look_mark {M : Fr} {D : Nat} : look (dropMk M ++ [(mk0 + 1 + D, undef)]) (mk0 + 1 + D) = some undef := by
  rw [look_append, look_dropMk, if_neg (by omega)]
  show look [(mk0 + 1 + D, undef)] (mk0 + 1 + D) = _
  rw [look_cons, if_pos rfl]
theorem FrOK.marked' {N D : Nat} {M : Fr} {a : Act} (h : FrOK N M a) (h0 : a.defers = []) : FrOK N (dropMk M ++ [(mk0 + 1 + D, undef)]) { a with defers := { target := .collected D, args := #[] } :: a.defers } :=
  (h.marked h0).sub fun t v e => by
    rw [look_append, look_dropMk] at e
    rw [look_cons, look_dropMk]
    by_cases ht : t < mk0
    · rw [if_pos ht] at e ⊢
      rw [if_neg (by omega)]
      cases hl : look M t with
      | some u => rw [hl] at e; exact e
      | none =>
        rw [hl] at e
        have e' : look [(mk0 + 1 + D, undef)] t = some v := e
        rw [look_cons, if_neg (by omega)] at e'
        cases e'
    · rw [if_neg ht] at e
      have e' : look [(mk0 + 1 + D, undef)] t = some v := e
      rw [look_cons] at e'
      split at e'
      · rename_i q
        rw [if_pos q]; exact e'
      · cases e'
section
variable {P : Program} {Q : Exit → Act → World → Prop} {N : Nat} {F : Bg} {L : List Ent} {M : Fr}
theorem Tr.rangeF {α ι : Type} {gO : Operand} {p d rid : Nat} {ty : TypeId} {pos : String} {after : Array Edge} {body : Code} {gf : Nat} {lb : List Value} (enc : α → Value) (bs : List Nat) (S : List α → Prop) (okI : List α → ι → Prop) (L' : ι → List Ent) (Nm : Nat) (j0 : ι)
    (hF0 : F.dr = 0) (hM : look M mk0 = some undef) (hg : opv M gO = some (.func (.func gf) #[] lb.toArray)) (eg : ∀ (args : Array Value) (w : World), (callFunc gf args).run P w = .ok (.enter gf args) w)
    (hp : Nat.ble (p + 1) N = true) (hd : Nat.ble (d + 1) N = true) (hL : Pick L (L' j0)) (h0 : okI [] j0) (hc : ∀ j, CellsOnly (L' j)) (hbs : ∀ b ∈ bs, b ∈ blks (L' j0))
    (hown : ∀ F' j W, HpOK F' (L' j) W → ∀ k, ownW bs W k ↔ k ∈ blks (L' j))
    (hseq : ∀ w F1, F.le F1 → HpOK F1 (L' j0) w → (∀ b o, b ∉ blks (L' j0) → w.heap[b]? = some o → F1.blk b = some o) → SeqStopsK Fence.wide 2 P gf lb.toArray (fun x => #[enc x]) (KpW bs) S (fun _ => True) Nm w)
    (hbody : ∀ pre x j l0 F1, F.le F1 → okI pre j → pre.length < Nm → Tr N F1 (L' j) ((d, enc x) :: (p, enc x) :: M) (body.wpIn (Fence.wide.inRound l0) 1 P (fun e a W' => e = .normal ∧ ∃ j', okI (pre ++ [x]) j' ∧ HpOK F1 (L' j') W')))
    (hdone : ∀ xs j D F1, F.le F1 → S xs → okI xs j → Tr N F1 (markE D :: L' j) (dropMk M ++ [(mk0 + 1 + D, undef)]) (Q .normal)) :
    Tr N F L M ((Code.rangeFunc gO #[p] (Code.region rid #[⟨some d, .assign (.tmp p), ty, pos, after, none⟩] false) body).wp P Q) := by
  intro a w ha hw
  have ha0 := ha.defers0 hM
  obtain ⟨F1, e1, h1, full1⟩ := (hL.heap hw).freeze
  have hF1 : F1.dr = 0 := e1.dr.trans hF0
  have hB : ∀ b o, F1.blk b = some o → b < w.heap.size := fun b o e => (Array.getElem?_eq_some_iff.1 (h1.bg b o e)).1
  refine (wpIn_wide (n := 3)).1 ?_
  refine wpIn_rangeFunc_ownF (n := 3) rfl (by omega) (ha.eval hg) trivial eg (hseq w F1 e1 h1 full1) KpW.trans (fun W l o o' hl ho hc _ => KpW.turn (fun b hb => h1.lt b (hbs b hb)) W l o o' hl ho hc) (Below.refl _ _) (fun _ => rfl)
    (fun pre W => ∃ j, okI pre j ∧ HpOK F1 (L' j) W) (fun _ _ _ => False) (fun pre W W' row ⟨j, k1, k2⟩ hgr hr => ⟨j, k1, k2.turned (hc j) hF1 hB hgr hr⟩) (fun _ _ _ _ _ h _ _ => h) ⟨j0, h0, h1⟩
    (fun x => { tmps := (a.tmps.setIfInBounds p (enc x)).setIfInBounds d (enc x), defers := [] }) ?_ ?_ ?_ (fun _ _ _ _ _ _ h _ => h.elim)
  · intro l x W K hK
    refine wpIn_region_lit (l := [⟨some d, .assign (.tmp p), ty, pos, after, none⟩]) (wpListIn_plain rfl fun K' hK' => ?_)
    refine ⟨fun _ _ => trivial, ?_⟩
    rw [Oper.semAt_eq _ _ _ (fun c h => by cases h)]
    have hpN : p < a.tmps.size := by rw [ha.size]; exact Nat.le_of_ble_eq_true hp
    simp only [execOp, Sem.run_pure, Oper.uponIn, Act.put, Act.eval]
    refine hK' _ _ ?_
    show wpListIn _ _ _ _ _ [] _ W
    unfold wpListIn
    show K _ W
    have e : ((#[p].zip #[enc x]).foldl (fun t (pv : Nat × Value) => t.setIfInBounds pv.1 pv.2) a.tmps) = a.tmps.setIfInBounds p (enc x) := by simp
    have e2 : (a.tmps.setIfInBounds p (enc x)).getD p undef = enc x := by simp [Array.getD_eq_getD_getElem?, hpN]
    have e3 : ((#[p].zip #[enc x]).foldl (fun t (pv : Nat × Value) => t.setIfInBounds pv.1 pv.2) a.tmps).getD p undef = enc x := by rw [e]; exact e2
    simp only [e] at e3 ⊢
    first
      | (rw [e3]; exact hK)
      | (simp only [e2]; exact hK)
      | (simpa [e2] using hK)
  · rintro l pre x W ⟨j, k1, k2⟩ hlen
    obtain ⟨F2, e2, h2, hn2, full2⟩ := k2.freezeN
    have ht := hbody pre x j l F2 (e1.trans e2) k1 hlen
    have hfr : FrOK N ((d, enc x) :: (p, enc x) :: M) { tmps := (a.tmps.setIfInBounds p (enc x)).setIfInBounds d (enc x), defers := [] } := by
      have hz := (ha.put (v := enc x) (Nat.le_of_ble_eq_true hp)).put (v := enc x) (Nat.le_of_ble_eq_true hd)
      have hz' : ((a.put (some p) (enc x)).put (some d) (enc x)) = { tmps := (a.tmps.setIfInBounds p (enc x)).setIfInBounds d (enc x), defers := a.defers } := rfl
      rw [hz', ha0] at hz
      exact hz
    refine wpIn_mono (ht _ W hfr h2) fun e a' W' hq => ?_
    obtain ⟨rfl, j', k3, k4⟩ := hq
    have keep : ∀ k o, W.heap[k]? = some o → k ∉ blks (L' j) → W'.heap[k]? = some o := fun k o hk hn => k4.bg k o (full2 k o hn hk)
    have hsz : W.heap.size ≤ W'.heap.size := by rw [← hn2]; exact k4.n
    refine ⟨⟨hsz, fun k o hk ho => keep k o hk fun hm => ?_⟩, ⟨hsz, fun k o hk ho hn => keep k o hk fun hm => ?_, fun k hk => ?_⟩, ⟨j', k3, k4.weaken e2⟩⟩
    · obtain ⟨o2, ho2, hc2⟩ := ent_obj h2 (hc j) hm
      rw [hk] at ho2; cases ho2; rw [ho] at hc2; cases hc2
    · exact hn ((hown _ _ _ h2 k).2 hm)
    · have hk2 := (hown _ _ _ k4 k).1 hk
      by_cases hlt : k < W.heap.size
      · left
        refine (hown _ _ _ h2 k).2 (Decidable.byContradiction fun hm => ?_)
        have := full2 k _ hm (Array.getElem?_eq_getElem hlt)
        rw [(k4.sep k hk2).1] at this
        cases this
      · exact .inr (by omega)
  · rintro D xs W hD hS ⟨j, k1, k2⟩ hK
    have hDl : D < W.heap.size := (Array.getElem?_eq_some_iff.1 hK).1
    have hDn : D ∉ blks (L' j) := fun hm => by
      obtain ⟨o, ho, hcc⟩ := ent_obj k2 (hc j) hm
      rw [hK] at ho; cases ho; cases hcc
    refine hdone xs j D F1 e1 hS k1 _ W (ha.marked' ha0) ⟨k2.os, k2.tape, k2.out, k2.n, k2.dr, k2.bg, fun e he => ?_, ?_, ?_, ?_⟩
    · rcases List.mem_cons.1 he with rfl | he
      · exact hK
      · exact k2.ent e he
    · exact List.nodup_cons.2 ⟨hDn, k2.nodup⟩
    · intro b hb
      rcases List.mem_cons.1 hb with rfl | hb
      · exact hDl
      · exact k2.lt b hb
    · intro b hb
      rcases List.mem_cons.1 hb with rfl | hb
      · refine ⟨?_, Nat.le_trans (Nat.le_trans F1.lo_le h1.n) hD⟩
        cases e : F1.blk b with
        | none => rfl
        | some o => have := hB b o e; omega
      · exact k2.sep b hb
end
section
variable {P : Program} {N : Nat} {F : Bg} {L : List Ent} {M : Fr}
theorem QS.min4 {dst : Option Tmp} {ty : TypeId} {pos : String} {after : Array Edge} {g : Option (Nat × Bool)} {x y z u : Operand} {ts : Array TypeId} {k : IntKind} {m n o p : Int} (hx : opv M x = some (.int k m)) (hy : opv M y = some (.int k n)) (hz : opv M z = some (.int k o)) (hu : opv M u = some (.int k p)) :
    QS P N F L M ⟨dst, .call { callee := .builtin .min, args := #[x, y, z, u], argTypes := ts }, ty, pos, after, g⟩ (.int k (min (min (min m n) o) p)) :=
  QS.of_run fun A w ha hw => by
    have e : ∀ a b : Int, (if b < a then b else a) = min a b := fun a b => by omega
    simp [execOp, resolve, invoke, builtin, ha.eval hx, ha.eval hy, ha.eval hz, ha.eval hu, Builtin.min_, Builtin.min2, e]
end
section
variable {P : Program} {Q : Exit → Act → World → Prop} {N : Nat} {F : Bg} {L : List Ent} {M : Fr}
/-- Left by 'return' alone. -/
def retOnly (Q : Exit → Act → World → Prop) : Exit → Act → World → Prop := fun e a w => e = .ret ∧ Q .ret a w
theorem panicRet {Q : Exit → Act → World → Prop} : ∀ c a d v w, retOnly Q (.panic c) (a.put d v) w → retOnly Q (.panic c) a w := fun c a d v w h => by cases h.1
theorem enterM {f : FuncId} {fn : Func} {c : Code} {args : List Value} {w : World} {R : Ending → World → Prop} (hf : P.funcs[f]? = some fn) (hb : fn.body = some c) (hN : fn.ntmps = N) (hle : Nat.ble args.length N = true)
    (h : Tr N (Bg.of0 w) [] (frameOf 0 args) (c.wp P (retOnly (bodyPostM Fence.wide 3 P fn R)))) (hN0 : Nat.ble N mk0 = true := by rfl) : Calls P f args.toArray w R :=
  (callsIn_wide (n := 3)).1 (callsIn_of_wp_marks hf hb trivial (wpIn_wide.2 (Code.wp_mono (fun e a w q => by obtain ⟨rfl, q⟩ := q; exact q) (h _ w (frameOf_ok (by rw [hN]; simp) hle hN0) (HpOK.start0 w)))))
theorem enter0 {f : FuncId} {fn : Func} {c : Code} {args : List Value} {w : World} {R : Ending → World → Prop} (hf : P.funcs[f]? = some fn) (hb : fn.body = some c) (hN : fn.ntmps = N) (hle : Nat.ble args.length N = true)
    (h : Tr N (Bg.of0 w) [] (frameOf 0 args) (c.wp P (bodyPost P fn R))) (hN0 : Nat.ble N mk0 = true := by rfl) : Calls P f args.toArray w R :=
  calls_of_wp hf hb (h _ w (frameOf_ok (by rw [hN]; simp) hle hN0) (HpOK.start0 w))
theorem Tr.retM2 {D : Nat} {fn : Func} {R : Ending → World → Prop} {t u : Tmp} {v v' : Value} {L1 : List Ent} (hr : fn.results = #[.tmp t, .tmp u]) (hv : look M t = some v) (hv' : look M u = some v') (hD : look M (mk0 + 1 + D) = some undef) (hm : Del (markE D) L L1)
    (h : ∀ w, HpOK F L1 w → R (.returned (.tuple #[v, v'])) w) : Tr N F L M (retOnly (bodyPostM Fence.wide 3 P fn R) .ret) := by
  intro a w ha hw
  refine ⟨rfl, ?_⟩
  have hf := hw.front hm
  have hK : w.heap[D]? = some (.deferred (some [])) := hf.ent _ (.head _)
  show LeavesInM Fence.wide 3 P fn a.tmps R a.defers .returning w
  rw [ha.defersD D hD]
  refine ⟨by simp, .inl ⟨_, _, rfl, run_takeDeferred hK, ?_⟩⟩
  have h2 : HpOK F (⟨some D, fun _ => True⟩ :: L1) (w.putObj D (.deferred none)) :=
    HpOK.set (p := fun o => o = some (.deferred (some []))) (p' := fun _ => True) hf (.here _) rfl rfl rfl (grownBy_putObj' w D _).size (Nat.le_refl _) (fun k hk hkb => (grownBy_putObj' w D _).block k hk (fun e => hkb (Option.some.inj e))) trivial
  have h3 : HpOK F L1 (w.putObj D (.deferred none)) := h2.mem (List.sublist_cons_self _ _)
  exact ⟨_, results_tmp2 hr a.tmps P _, by rw [ha.val t v hv, ha.val u v' hv']; exact h _ h3⟩
theorem HpOK.cellNew {F : Bg} {L : List Ent} {w w' : World} {b : Nat} {cs : List Value} {T : TypeId} (h : HpOK F L w') (hl : F.lo = w.heap.size) (hm : cellE b cs T ∈ L) : CellsIn (newHp w w') b cs := by
  have he : w'.heap[b]? = some (.cells cs.toArray T (0, 0)) := h.ent _ hm
  have hb := (h.sep b (List.mem_filterMap.2 ⟨_, hm, rfl⟩)).2
  refine ⟨cs.toArray, T, (0, 0), ?_, fun j v hv => by simpa using hv⟩
  show (if b < w.heap.size then none else w'.heap[b]?) = _
  rw [if_neg (by omega)]; exact he
theorem HpOK.new0 {α : Type} {F : Bg} {L : List Ent} {w w' : World} {T : TypeId} {E : Enc α} {l : List α} {V : Value} (h : HpOK F L w') (hl : F.lo = w.heap.size) (hm : rowE V T E l ∈ L) : NewRow w w' T E l V :=
  ⟨h.ent _ hm, fun b hb => by rw [← hl]; exact (h.sep b (List.mem_filterMap.2 ⟨_, hm, hb⟩)).2⟩
/-- The present world becomes the background. -/
theorem Tr.now {X : Act → World → Prop} (K : ∀ W1, HpOK F L W1 → Tr N (Bg.of0 W1) [] M X) : Tr N F L M X := fun a w ha hw => K w hw a w ha (HpOK.start0 w)
theorem HpOK.grown {Ws w : World} (h : HpOK (Bg.of0 Ws) [] w) : Ws.grownBy w none :=
  have b := h.below0 (Bg.le.refl _)
  ⟨b.os, b.tape, b.output, b.size, fun k hk _ => b.block k hk⟩
theorem wpListIn_value {n : Nat} {ops : Array Oper} {o : Oper} {rest : List Oper} {a : Act} {w : World} {v : Value} (hg : o.guard = none) (hr : (execOp a.eval o).run P w = .ok (.value v) w) (h : wpListIn Fence.wide n P ops Q rest (a.put o.dst v) w) : wpListIn Fence.wide n P ops Q (o :: rest) a w :=
  wpListIn_plain hg fun K hK => by
    refine ⟨fun _ _ => trivial, ?_⟩
    show o.uponIn _ _ _ _ _ _ ((execOp a.eval o).run P w)
    rw [hr]; exact hK _ _ h
/-- 'if !yield(x)': the round comes back with yes, or no. -/
theorem Tr.yield {α : Type} (enc : α → Value) {J Jx : List α → World → Prop} {Kp : World → World → Prop} {l B : Nat} {Ws : World} {pre : List α} {x : α} {id f y d0 d1 d2 d3 : Nat} {t0 t1 t2 t3 : TypeId} {p0 p1 p2 p3 : String} {a0 a1 a2 a3 : Array Edge} {ts : Array TypeId}
    (hf : look M f = some (.func (.yield l) #[] #[])) (hy : look M y = some (enc x)) (hne : Nat.beq d0 y = false) (h01 : Nat.beq d1 d0 = false) (hJ : J pre Ws) (hA : AbidesFrom B J)
    (hY : ∀ W1, J pre W1 → YieldAt Fence.wide 1 P l #[enc x] W1 fun e W' => (e = .returned (.bool true) ∧ J (pre ++ [x]) W' ∧ Kp W1 W') ∨ (e = .returned (.bool false) ∧ Jx (pre ++ [x]) W'))
    (hd0 : Nat.ble (d0 + 1) N = true) (hd1 : Nat.ble (d1 + 1) N = true) (hd2 : Nat.ble (d2 + 1) N = true) (hd3 : Nat.ble (d3 + 1) N = true)
    (K1 : ∀ W1 W', HpOK (Bg.of0 Ws) [] W1 → Kp W1 W' → J (pre ++ [x]) W' → Tr N (Bg.of0 W') [] ((d3, .bool false) :: (d2, .bool true) :: (d1, enc x) :: (d0, .func (.yield l) #[] #[]) :: M) (Q .normal))
    (K2 : ∀ W', Jx (pre ++ [x]) W' → Tr N (Bg.of0 W') [] ((d3, .bool true) :: (d2, .bool false) :: (d1, enc x) :: (d0, .func (.yield l) #[] #[]) :: M) (Q .normal)) :
    Tr N (Bg.of0 Ws) [] M ((Code.region id #[⟨some d0, .move (.tmp f), t0, p0, a0, none⟩, ⟨some d1, .move (.tmp y), t1, p1, a1, none⟩, ⟨some d2, .call { callee := .value (.tmp d0), args := #[.tmp d1], argTypes := ts }, t2, p2, a2, none⟩, ⟨some d3, .unOp .not 4 (.tmp d2), t3, p3, a3, none⟩] false).wp P Q) := by
  intro a w ha hw
  have hj : J pre w := hA pre Ws w none hJ hw.grown (fun r e => by cases e)
  obtain ⟨fn, tmps, assign, body, hy1, hR⟩ := hY w hj
  have ne1 : d0 ≠ y := Nat.ne_of_beq_eq_false hne
  have ne2 : d1 ≠ d0 := Nat.ne_of_beq_eq_false h01
  have b0 := Nat.le_of_ble_eq_true hd0
  have b1 := Nat.le_of_ble_eq_true hd1
  have b2 := Nat.le_of_ble_eq_true hd2
  have b3 := Nat.le_of_ble_eq_true hd3
  have ha1 := ha.put (v := .func (.yield l) #[] #[]) b0
  have ha2 := ha1.put (v := enc x) b1
  refine (wpIn_wide (n := 2)).1 (wpIn_region_lit (l := [_, _, _, _]) ?_)
  refine wpListIn_value rfl (QS.run (QS.move (N := N) (F := Bg.of0 w) (L := []) (M := M) (x := .tmp f) (v := .func (.yield l) #[] #[]) (by show look _ f = _; exact hf)) rfl ha (HpOK.start0 w)) ?_
  refine wpListIn_value rfl (QS.run (QS.move (N := N) (F := Bg.of0 w) (L := []) (M := (d0, .func (.yield l) #[] #[]) :: M) (x := .tmp y) (v := enc x) (by show look _ y = _; rw [look_cons, if_neg ne1]; exact hy)) rfl ha1 (HpOK.start0 w)) ?_
  have hv0 : ((a.put (some d0) (.func (.yield l) #[] #[])).put (some d1) (enc x)).eval (.tmp d0) = .func (.yield l) #[] #[] := ha2.eval (x := .tmp d0) (by show look _ d0 = _; rw [look_cons, if_neg ne2, look_cons, if_pos rfl])
  have hv1 : ((a.put (some d0) (.func (.yield l) #[] #[])).put (some d1) (enc x)).eval (.tmp d1) = enc x := ha2.eval (x := .tmp d1) (by show look _ d1 = _; rw [look_cons, if_pos rfl])
  refine wpListIn_plain rfl fun K hK => ?_
  refine ⟨fun _ _ => trivial, ?_⟩
  have hcall : (execOp ((a.put (some d0) (.func (.yield l) #[] #[])).put (some d1) (enc x)).eval ⟨some d2, .call { callee := .value (.tmp d0), args := #[.tmp d1], argTypes := ts }, t2, p2, a2, none⟩).run P w = .ok (.round l fn tmps assign body) w := by
    simp [execOp, resolve, Deferred.ofValue, hv0, hv1, invoke, hy1]
  rw [show ∀ ρ o, Oper.semAt Fence.wide.round ρ o = execOp ρ o from fun _ _ => rfl, hcall]
  refine ⟨fun h => ?_, hR.mono ?_⟩
  · cases h
  · rintro e W' (⟨rfl, hJ', hk⟩ | ⟨rfl, hJx⟩)
    · have ha3 := ha2.put (v := .bool true) b2
      refine hK _ _ (wpListIn_value (v := .bool false) rfl ?_ ?_)
      · exact QS.run (QS.not (N := N) (F := Bg.of0 W') (L := []) (M := (d2, .bool true) :: (d1, enc x) :: (d0, .func (.yield l) #[] #[]) :: M) (x := .tmp d2) (b := true) (by show look _ d2 = _; rw [look_cons, if_pos rfl])) rfl ha3 (HpOK.start0 W')
      · exact K1 w W' hw hk hJ' _ W' (ha3.put b3) (HpOK.start0 W')
    · have ha3 := ha2.put (v := .bool false) b2
      refine hK _ _ (wpListIn_value (v := .bool true) rfl ?_ ?_)
      · exact QS.run (QS.not (N := N) (F := Bg.of0 W') (L := []) (M := (d2, .bool false) :: (d1, enc x) :: (d0, .func (.yield l) #[] #[]) :: M) (x := .tmp d2) (b := false) (by show look _ d2 = _; rw [look_cons, if_pos rfl])) rfl ha3 (HpOK.start0 W')
      · exact K2 W' hJx _ W' (ha3.put b3) (HpOK.start0 W')
end
section
open Classical
noncomputable def keptHp (bs : List Nat) (w W1 : World) : Hp := fun k => match W1.heap[k]? with
  | some o => if o.isCells = true ∧ ¬ ownW bs w k then some o else none
  | none => none
theorem keptHp_some {bs : List Nat} {w W1 : World} {k : Nat} {o : Obj} (h : keptHp bs w W1 k = some o) : W1.heap[k]? = some o ∧ o.isCells = true ∧ ¬ ownW bs w k := by
  unfold keptHp at h
  split at h
  · rename_i o' ho
    split at h
    · rename_i hq
      cases h; exact ⟨ho, hq⟩
    · cases h
  · cases h
theorem keptHp_le {bs : List Nat} {w W1 : World} : Hp.le (keptHp bs w W1) (hp W1) := fun b o e => (keptHp_some e).1
theorem keptHp_of {bs : List Nat} {w W1 : World} {H : Hp} (hH : Hp.le H (hp W1)) (hc : ∀ k o, H k = some o → o.isCells = true) (hn : ∀ k, ownW bs w k → H k = none) : Hp.le H (keptHp bs w W1) := fun b o e => by
  have h1 : W1.heap[b]? = some o := hH b o e
  unfold keptHp
  rw [h1]
  show (if o.isCells = true ∧ ¬ ownW bs w b then some o else none) = some o
  rw [if_pos ⟨hc b o e, fun h => by rw [hn b h] at e; cases e⟩]
/-- The cells alone. -/
def cellsHp (H : Hp) : Hp := fun k => match H k with
  | some (.cells c T f) => some (.cells c T f)
  | _ => none
theorem cellsHp_of {H : Hp} {k : Nat} {c : Array Value} {T : TypeId} {f : Nat × Nat} (h : H k = some (.cells c T f)) : cellsHp H k = some (.cells c T f) := by unfold cellsHp; rw [h]
theorem cellsHp_some {H : Hp} {k : Nat} {o : Obj} (h : cellsHp H k = some o) : H k = some o ∧ o.isCells = true := by
  unfold cellsHp at h
  split at h
  · rename_i c T f hq
    cases h; exact ⟨hq, rfl⟩
  · cases h
theorem Sl.cellsHp {α : Type} {H : Hp} {E : Enc α} {l : List α} {V : Value} (s : Sl H E l V) : Sl (HL.cellsHp H) E l V :=
  ⟨s.shape, fun i x hx => let ⟨cs, T, fz, hb, hc⟩ := s.cells i x hx; ⟨cs, T, fz, cellsHp_of hb, hc⟩⟩
theorem CellsIn.cellsHp {H : Hp} {b : Nat} {vs : List Value} (c : CellsIn H b vs) : CellsIn (HL.cellsHp H) b vs := let ⟨cs, T, fz, h1, h2⟩ := c; ⟨cs, T, fz, cellsHp_of h1, h2⟩
theorem newHp_kept {bs : List Nat} {w W1 : World} (hn : ∀ k, ownW bs w k → k < w.heap.size) : Hp.le (cellsHp (newHp w W1)) (keptHp bs w W1) := fun k o e => by
  obtain ⟨h1, h2⟩ := cellsHp_some e
  unfold newHp at h1
  split at h1
  · cases h1
  · rename_i hk
    unfold keptHp
    rw [h1]
    show (if o.isCells = true ∧ ¬ ownW bs w k then some o else none) = some o
    rw [if_pos ⟨h2, fun h => hk (hn k h)⟩]
/-- The kept heap stands a round. -/
theorem keptHp_round {bs : List Nat} {w W1 Ws W2 W' : World} (h1 : Hp.le (keptHp bs w W1) (hp Ws)) (hb : W1.heap.size ≤ Ws.heap.size) (ho : ∀ k, ownW bs Ws k → ownW bs w k ∨ W1.heap.size ≤ k) (hbs : ∀ b ∈ bs, b < Ws.heap.size) (hg : Ws.grownBy W2 none) (hk : KpW bs W2 W') :
    Hp.le (keptHp bs w W1) (hp W') ∧ W1.heap.size ≤ W'.heap.size ∧ (∀ k, ownW bs W' k → ownW bs w k ∨ W1.heap.size ≤ k) ∧ ∀ b ∈ bs, b < W'.heap.size := by
  have same : ∀ k, ownW bs W2 k ↔ ownW bs Ws k := ownW_same fun b hb => hg.block b (hbs b hb) (by simp)
  refine ⟨fun k o e => ?_, by have := hg.size; have := hk.size; omega, fun k h => ?_, fun b hb' => by have := hbs b hb'; have := hg.size; have := hk.size; omega⟩
  · have h2 := h1 k o e
    have h3 : W2.heap[k]? = some o := (hg.block k (Array.getElem?_eq_some_iff.1 h2).1 (by simp)).trans h2
    obtain ⟨q1, q2, q3⟩ := keptHp_some e
    refine hk.same k o h3 q2 fun hn => ?_
    have := (Array.getElem?_eq_some_iff.1 q1).1
    rcases ho k ((same k).1 hn) with q | q
    · exact q3 q
    · omega
  · rcases hk.own k h with q | q
    · exact ho k ((same k).1 q)
    · exact .inr (by have := hg.size; omega)
end
section
variable {P : Program} {N : Nat} {F : Bg} {L : List Ent} {M : Fr}
/-- A variable of one's own is only read from then on. -/
theorem Tr.frozenC {b : Nat} {cs : List Value} {T : TypeId} {L1 : List Ent} {X : Act → World → Prop} (hm : Del (cellE b cs T) L L1) (K : ∀ F', F.le F' → CellsIn F'.blk b cs → Tr N F' L1 M X) : Tr N F L M X := by
  intro a w ha hw
  have hf := hw.front hm
  have h1 : HpOK F L1 w := hf.mem (List.sublist_cons_self _ _)
  obtain ⟨F', e1, e2, e3⟩ := h1.freeze
  refine K F' e1 ?_ a w ha e2
  have he : w.heap[b]? = some (.cells cs.toArray T (0, 0)) := hf.ent _ (.head _)
  refine ⟨cs.toArray, T, (0, 0), e3 b _ ?_ he, fun j v hv => by simpa using hv⟩
  have := hf.nodup
  rw [blks_some (b := b) rfl, List.nodup_cons] at this
  exact this.1
theorem own_two {α β : Type} {F : Bg} {W : World} {bf bb : Nat} {Vf Vb : Value} {T1 T2 T3 T4 : TypeId} {E : Enc α} {G : Enc β} {xs : List α} {ys : List β} (h : HpOK F [cellE bf [Vf] T1, cellE bb [Vb] T2, rowE Vf T3 E xs, rowE Vb T4 G ys] W) (k : Nat) :
    ownW [bf, bb] W k ↔ k ∈ blks [cellE bf [Vf] T1, cellE bb [Vb] T2, rowE Vf T3 E xs, rowE Vb T4 G ys] := by
  have e1 : W.heap[bf]? = some (.cells [Vf].toArray T1 (0, 0)) := h.ent _ (.head _)
  have e2 : W.heap[bb]? = some (.cells [Vb].toArray T2 (0, 0)) := h.ent _ (.tail _ (.head _))
  have c1 : W.cell? ⟨bf, 0, none⟩ = some Vf := by simp [World.cell?, e1]
  have c2 : W.cell? ⟨bb, 0, none⟩ = some Vb := by simp [World.cell?, e2]
  have hb : blks [cellE bf [Vf] T1, cellE bb [Vb] T2, rowE Vf T3 E xs, rowE Vb T4 G ys] = bf :: bb :: (Vf.ownBlock.toList ++ Vb.ownBlock.toList) := by
    cases h1 : Vf.ownBlock <;> cases h2 : Vb.ownBlock <;> simp [blks, cellE, rowE, h1, h2]
  rw [hb]
  simp only [ownW, List.mem_cons, List.not_mem_nil, or_false, List.mem_append, Option.mem_toList, Option.mem_def]
  constructor
  · rintro ((rfl | rfl) | ⟨b, rfl | rfl, V, hV, hk⟩)
    · exact .inl rfl
    · exact .inr (.inl rfl)
    · rw [c1] at hV; cases hV; exact .inr (.inr (.inl hk))
    · rw [c2] at hV; cases hV; exact .inr (.inr (.inr hk))
  · rintro (rfl | rfl | hk | hk)
    · exact .inl (.inl rfl)
    · exact .inl (.inr rfl)
    · exact .inr ⟨bf, .inl rfl, Vf, c1, hk⟩
    · exact .inr ⟨bb, .inr rfl, Vb, c2, hk⟩
end
theorem HpOK.ents0 {F : Bg} {L : List Ent} {w w' : World} {Ls : List Ent} (h : HpOK F L w') (hl : F.lo = w.heap.size) (hs : Pick L Ls) : NewEnts w w' Ls := by
  have h' := hs.heap h
  refine ⟨h'.ent, h'.nodup, h'.lt, fun b hb => ?_⟩
  rw [← hl]; exact (h'.sep b hb).2
end Go.HL
namespace Go.HL
open Go Go.Sort
def SA (l : List UInt32) : Prop := l.Pairwise fun x y => x.toNat < y.toNat
theorem SA.nodup {l : List UInt32} (h : SA l) : l.Nodup := h.imp fun {a b} q e => by rw [e] at q; omega
theorem SA.lt {l : List UInt32} (h : SA l) {i j : Nat} (hij : i < j) (hj : j < l.length) : (l.getD i default).toNat < (l.getD j default).toNat := by
  have := List.pairwise_iff_getElem.1 h i j (by omega) hj hij
  simpa [List.getD_eq_getElem?_getD, hj, show i < l.length by omega] using this
/-- No cut lies inside a gap. -/
theorem SA.out {l : List UInt32} (h : SA l) {i : Nat} (hi : i + 1 < l.length) {x : UInt32} (hx : x ∈ l) : x.toNat ≤ (l.getD i default).toNat ∨ (l.getD (i + 1) default).toNat ≤ x.toNat := by
  obtain ⟨j, hj, rfl⟩ := List.mem_iff_getElem.1 hx
  have e : l[j] = l.getD j default := by simp [List.getD_eq_getElem?_getD, hj]
  rw [e]
  rcases Nat.lt_trichotomy j i with h1 | rfl | h1
  · exact .inl (Nat.le_of_lt (h.lt h1 (by omega)))
  · exact .inl (Nat.le_refl _)
  · rcases Nat.lt_or_ge (i + 1) j with h2 | h2
    · exact .inr (Nat.le_of_lt (h.lt h2 hj))
    · rw [show j = i + 1 by omega]; exact .inr (Nat.le_refl _)
theorem any_inR {l : List Rng} {c : UInt32} : l.any (inR c) = true ↔ Has l c.toNat := by
  simp only [List.any_eq_true, inR, Bool.and_eq_true, decide_eq_true_eq, UInt32.le_iff_toNat_le, UInt32.lt_iff_toNat_lt, Has]
end Go.HL
namespace Go.HL
open Go Go.Sort
theorem min_toNat (a b : UInt32) : (if b < a then b else a).toNat = min a.toNat b.toNat := by
  split <;> rename_i h <;> rw [UInt32.lt_iff_toNat_lt] at h <;> omega
end Go.HL
namespace Go.HL
open Go Go.Sort
theorem any_bool {l m : List Rng} {x : UInt32} (h : ∀ n, Has l n ↔ Has m n) : l.any (inR x) = m.any (inR x) := by
  rw [Bool.eq_iff_iff, any_inR, any_inR]; exact h _
theorem any_normal (a : List Rng) (x : UInt32) : (normalP a).any (inR x) = a.any (inR x) := any_bool (normal_ok a).2
end Go.HL
namespace Go.HL
open Go Go.Sort
theorem meet_iff (x s : SecV) : meetP (spaceP x) (spaceP s) = true ↔ ((0 < x.data.length ∧ 0 < s.data.length) ∧ (s.addr.toNat : Int) < endP x) ∧ (x.addr.toNat : Int) < endP s := by
  have h1 := space_hi x
  have h2 := space_hi s
  have e1 : (spaceP x).lo = x.addr := rfl
  have e2 : (spaceP s).lo = s.addr := rfl
  rw [meetP, decide_eq_true_eq, UInt32.lt_iff_toNat_lt, max_toNat, min_toNat, e1, e2]
  unfold endP at *
  omega
theorem has_space {l : List SecV} {x : Nat} : Has (l.map spaceP) x ↔ ∃ s ∈ l, s.addr.toNat ≤ x ∧ (x : Int) < endP s := by
  constructor
  · rintro ⟨r, hr, h1, h2⟩
    obtain ⟨s, hs, rfl⟩ := List.mem_map.1 hr
    have := space_hi s
    exact ⟨s, hs, h1, by omega⟩
  · rintro ⟨s, hs, h1, h2⟩
    have := space_hi s
    exact ⟨spaceP s, List.mem_map.2 ⟨s, hs, rfl⟩, h1, by omega⟩
theorem finds_ok (l : List SecV) (a : UInt32) : (normalP (l.map spaceP)).any (inR a) = decide (0 ≤ findP l a) := by
  rw [any_normal, List.any_map, findP, idxP_any]; rfl
end Go.HL
namespace Go.HL
open Go
/-- The lowest address from a on that is in one of the ranges, by the first that ends behind a. -/
def nxtP : List Rng → UInt32 → Option UInt32
  | [], _ => none
  | r :: t, a => if a < r.hi then some (if a < r.lo then r.lo else a) else nxtP t a
/-- How many bytes an instruction at a may use. -/
def winN (s : SecV) (a to_ : UInt32) : Int := min (min (min ((s.data.drop (a - s.addr).toNat).length : Int) 6) ((to_ - a).toNat : Int)) (4294967295 - (a.toNat : Int))
def winP (l : List SecV) (a to_ : UInt32) : List UInt8 :=
  if findP l a < 0 then [] else ((l.getD (findP l a).toNat default).data.drop (a - (l.getD (findP l a).toNat default).addr).toNat).take (winN (l.getD (findP l a).toNat default) a to_).toNat
def decW (l : List SecV) (to_ a : UInt32) : Ins × Int := decP (winP l a to_) a
def okW (l : List SecV) (to_ a : UInt32) : Bool := decide ((decW l to_ a).2 = 0)
def szW (l : List SecV) (to_ a : UInt32) : UInt32 := if okW l to_ a = true then u32 (decW l to_ a).1.size else 1
/-- The addresses of a sweep from a on; f bounds their number. -/
def posF (l : List SecV) (rs : List Rng) (to_ : UInt32) : Nat → UInt32 → List UInt32
  | 0, _ => []
  | f + 1, a => match nxtP rs a with
    | none => []
    | some b => if b < to_ then b :: posF l rs to_ f (b + szW l to_ b) else []
def posP (l : List SecV) (from_ to_ : UInt32) : List UInt32 := posF l (normalP (l.map spaceP)) to_ 4294967296 from_
def foundP (l : List SecV) (to_ : UInt32) (ps : List UInt32) : List Ins := (ps.filter (okW l to_)).map fun a => (decW l to_ a).1
def badP (l : List SecV) (to_ : UInt32) (ps : List UInt32) : List Rng := (ps.filter fun a => !okW l to_ a).map fun a => ⟨a, a + 1⟩
theorem win_len (l : List SecV) (a to_ : UInt32) : ((winP l a to_).length : Int) ≤ 6 ∧ ((winP l a to_).length : Int) ≤ 4294967295 - a.toNat := by
  have ha := a.toNat_lt
  unfold winP
  split
  · simp; omega
  · rw [List.length_take]
    unfold winN
    omega
theorem body_keeps (k : Ins) (s : Int) (b : List UInt8) (addr : UInt32) : (bodyP k s b addr).size = sizeP s ∧ (bodyP k s b addr).addr = addr := by
  unfold bodyP applyP
  repeat' split
  all_goals exact ⟨rfl, rfl⟩
theorem sizeP_le6 (s : Int) : 1 ≤ sizeP s ∧ sizeP s ≤ 6 := by unfold sizeP; repeat' split <;> omega
theorem dec_size {b : List UInt8} {addr : UInt32} (h : (decP b addr).2 = 0) : 1 ≤ (decP b addr).1.size ∧ (decP b addr).1.size ≤ b.length ∧ (decP b addr).1.addr = addr := by
  unfold decP at h ⊢
  split at h
  · simp at h
  · rename_i h1
    rw [if_neg h1]
    split at h
    · simp at h
    · rename_i h2
      rw [if_neg h2]
      split at h
      · simp at h
      · rename_i h3
        rw [if_neg h3]
        dsimp only at h ⊢
        split at h
        · simp at h
        · rename_i h4
          rw [if_neg h4]
          obtain ⟨q1, q2⟩ := body_keeps (rowP (b.getD 0 default)).1 (opcodeP (rowP (b.getD 0 default)).1).2.1 b addr
          have := sizeP_le6 (opcodeP (rowP (b.getD 0 default)).1).2.1
          refine ⟨?_, ?_, q2⟩
          · rw [q1]; omega
          · rw [q1]; omega
/-- The step ahead: it does not run over. -/
theorem step_pos (l : List SecV) (to_ a : UInt32) (h : a < to_) : (a + szW l to_ a).toNat = a.toNat + (szW l to_ a).toNat ∧ 1 ≤ (szW l to_ a).toNat := by
  have ha := a.toNat_lt
  have ht := to_.toNat_lt
  rw [UInt32.lt_iff_toNat_lt] at h
  have hs : 1 ≤ (szW l to_ a).toNat ∧ (szW l to_ a).toNat + a.toNat ≤ 4294967295 := by
    unfold szW
    split
    · rename_i hk
      have hk' : (decP (winP l a to_) a).2 = 0 := of_decide_eq_true hk
      obtain ⟨h1, h2, _⟩ := dec_size hk'
      have hw := win_len l a to_
      have := u32_val (n := (decW l to_ a).1.size) (by unfold decW; omega)
      unfold decW at this ⊢
      omega
    · simp; omega
  rw [UInt32.toNat_add]
  omega
theorem nxtP_ge : ∀ {rs : List Rng} {a b : UInt32}, nxtP rs a = some b → a.toNat ≤ b.toNat
  | r :: t, a, b, h => by
    unfold nxtP at h
    split at h
    · cases h
      split
      · rename_i h; rw [UInt32.lt_iff_toNat_lt] at h; omega
      · exact Nat.le_refl _
    · exact nxtP_ge h
theorem posF_stop {l : List SecV} {rs : List Rng} {to_ a : UInt32} {f : Nat} (h : nxtP rs a = none) : posF l rs to_ f a = [] := by cases f <;> simp [posF, h]
theorem posF_stop2 {l : List SecV} {rs : List Rng} {to_ a b : UInt32} {f : Nat} (h : nxtP rs a = some b) (hb : ¬ b < to_) : posF l rs to_ f a = [] := by cases f <;> simp [posF, h, hb]
theorem posF_go {l : List SecV} {rs : List Rng} {to_ a b : UInt32} {f : Nat} (h : nxtP rs a = some b) (hb : b < to_) : posF l rs to_ (f + 1) a = b :: posF l rs to_ f (b + szW l to_ b) := by simp [posF, h, hb]
theorem found_len (l : List SecV) (to_ : UInt32) (ps : List UInt32) : (foundP l to_ ps).length ≤ ps.length := by unfold foundP; rw [List.length_map]; exact List.length_filter_le _ _
theorem bad_len (l : List SecV) (to_ : UInt32) (ps : List UInt32) : (badP l to_ ps).length ≤ ps.length := by unfold badP; rw [List.length_map]; exact List.length_filter_le _ _
theorem found_yes {l : List SecV} {to_ x : UInt32} {ps : List UInt32} (h : okW l to_ x = true) : foundP l to_ (ps ++ [x]) = foundP l to_ ps ++ [(decW l to_ x).1] := by simp [foundP, h]
theorem found_no {l : List SecV} {to_ x : UInt32} {ps : List UInt32} (h : okW l to_ x = false) : foundP l to_ (ps ++ [x]) = foundP l to_ ps := by simp [foundP, h]
theorem bad_yes {l : List SecV} {to_ x : UInt32} {ps : List UInt32} (h : okW l to_ x = true) : badP l to_ (ps ++ [x]) = badP l to_ ps := by simp [badP, h]
theorem bad_no {l : List SecV} {to_ x : UInt32} {ps : List UInt32} (h : okW l to_ x = false) : badP l to_ (ps ++ [x]) = badP l to_ ps ++ [⟨x, x + 1⟩] := by simp [badP, h]
end Go.HL
namespace Go.Proofs.Ytfnedefgepjbpaa
open Go Go.HL Go.RowKit
def PosAt (V : Value) (from_ to_ : UInt32) (Fv : Value) (h : Hp) (i : Nat × Nat × Nat × Nat) : Prop := CellsIn h i.1 [V] ∧ CellsIn h i.2.1 [.int .u32 from_.toNat] ∧ CellsIn h i.2.2.1 [.int .u32 to_.toNat] ∧ CellsIn h i.2.2.2 [Fv]
theorem PosAt.mono {V : Value} {from_ to_ : UInt32} {Fv : Value} {h h' : Hp} {i : Nat × Nat × Nat × Nat} (p : PosAt V from_ to_ Fv h i) (hh : Hp.le h h') : PosAt V from_ to_ Fv h' i := ⟨p.1.mono hh, p.2.1.mono hh, p.2.2.1.mono hh, p.2.2.2.mono hh⟩
set_option maxRecDepth 100000 in
set_option maxHeartbeats 2000000 in
theorem nxt_any (l : List Rng) (V : Value) (a : UInt32) (w : World) (hV : Sl (hp w) encRng l V) :
    Calls Try.prog 66 #[V, .int .u32 a.toNat] w (fun e w' => e = .returned (.tuple #[.int .u32 ((nxtP l a).getD 0).toNat, .bool (nxtP l a).isSome]) ∧ Ext w w') := by
  have hV' : Sl (Bg.of w).blk encRng l V := hV
  have hlen := hV.len_le
  refine enter Try.func66 rfl Try.ntmps66 rfl ?_
  refine Tr.seq ?_
  refine Tr.region ?_
  refine Tr.q (QS.assign rfl) rfl ?_
  refine Tr.q (QS.assign rfl) rfl ?_
  refine Tr.nil ?_
  refine Tr.thenN ?_
  refine Tr.seq ?_
  refine Tr.seq ?_
  refine Tr.region ?_
  refine Tr.q (QS.move rfl) rfl ?_
  refine Tr.q (QS.len rfl (by assumption) Try.underlying27) rfl ?_
  refine Tr.q (QS.move rfl) rfl ?_
  refine Tr.nil ?_
  refine Tr.thenN ?_
  refine Tr.block ?_
  refine Tr.loop (ι := Nat) (fun k => k ≤ l.length ∧ nxtP (l.drop k) a = nxtP l a) (fun _ => _) (fun k => []) (fun k => [(10, .int .i64 (k : Nat))]) (fun k => l.length - k) 0 ⟨Nat.zero_le _, rfl⟩ (.cons (by first | rfl | exact lookI rfl (by omega) | exact lookI rfl (by simp) | exact lookB rfl (by simp)) Front.nil) (by repeat' (first | exact Pick.nil _ | exact Del.here _ | apply Pick.cons | apply Del.there)) rfl (fun k hi m hm => ?_)
  replace hi : k ≤ l.length ∧ nxtP (l.drop k) a = nxtP l a := hi
  replace hm : m = l.length - k := hm
  change Tr _ _ [] ([(10, .int .i64 (k : Nat))] ++ _) _
  obtain ⟨hk1, hk2⟩ := hi
  refine Tr.seq ?_
  refine Tr.region ?_
  refine Tr.q (QS.lss rfl rfl) rfl ?_
  refine Tr.nil ?_
  refine Tr.thenN ?_
  refine Tr.seq ?_
  refine Tr.cond rfl (fun h1 => ?_) (fun h1 => ?_)
  · try simp only [bs] at h1
    refine Tr.skip ?_
    refine Tr.thenN ?_
    refine Tr.seq ?_
    refine Tr.block ?_
    refine Tr.seq ?_
    refine Tr.region ?_
    refine Tr.q (QS.idxN rfl rfl (by assumption) Try.underlying27 Try.sizeOf61 (by rfl) (by omega)) rfl ?_
    refine Tr.q (QS.elA rfl (by assumption) Try.isAgg61 Try.sizeOf61 (by rfl) (by omega)) rfl ?_
    refine Tr.alloc Try.zeroValue61 rfl rfl (fun b2 => ?_)
    refine Tr.storeW rfl rfl Try.sizeOf61 (by repeat (first | exact Put.here _ | apply Put.there)) (by rfl) (by rfl) (by first | exact List.all_eq_true.1 rfl | exact Enc.one _ _ | exact Enc.one encRng _) rfl ?_
    refine Tr.nil ?_
    refine Tr.thenN ?_
    refine Tr.seq ?_
    refine Tr.region ?_
    refine Tr.q (QS.move rfl) rfl ?_
    refine Tr.q (QS.fieldAddr (off := 1) (ft := 23) rfl Try.underlying61 rfl rfl Try.sizeOf23 (by decide)) rfl ?_
    refine Tr.q (QS.lV rfl Try.isAgg23) rfl ?_
    refine Tr.q (QS.lss32 rfl rfl) rfl ?_
    refine Tr.nil ?_
    refine Tr.thenN ?_
    refine Tr.cond rfl (fun h3 => ?_) (fun h3 => ?_)
    · try simp only [bs] at h3
      refine Tr.seq ?_
      refine Tr.region ?_
      refine Tr.q (QS.move rfl) rfl ?_
      refine Tr.q (QS.fieldAddr (off := 0) (ft := 23) rfl Try.underlying61 rfl rfl Try.sizeOf23 (by decide)) rfl ?_
      refine Tr.q (QS.lV rfl Try.isAgg23) rfl ?_
      refine Tr.q (QS.max32 rfl rfl) rfl ?_
      refine Tr.q (QS.assign rfl) rfl ?_
      refine Tr.q (QS.assign rfl) rfl ?_
      refine Tr.nil ?_
      refine Tr.thenN ?_
      refine Tr.ret ?_
      refine Tr.inR ?_
      refine Tr.thenR ?_
      refine Tr.thenR ?_
      refine Tr.inR ?_
      refine Tr.thenR ?_
      refine Tr.ret2 Try.results66 rfl rfl (fun w' hw => ?_)
      have hst : nxtP l a = some (if a < (l.getD k default).lo then (l.getD k default).lo else a) := by rw [← hk2, drop_cons (k := k) (by omega), nxtP, if_pos (by assumption)]
      exact ⟨by rw [hst]; rfl, hw.below (Bg.le.refl _)⟩
    · try simp only [bs] at h3
      refine Tr.skip ?_
      refine Tr.inN ?_
      refine Tr.thenN ?_
      refine Tr.region ?_
      refine Tr.q (QS.addI rfl rfl (by omega)) rfl ?_
      refine Tr.q (QS.move rfl) rfl ?_
      refine Tr.nil ?_
      refine Tr.thenN ?_
      have hst : nxtP (l.drop (k + 1)) a = nxtP l a := by rw [← hk2, drop_cons (k := k) (by omega), nxtP, if_neg (by assumption)]
      apply Tr.again (k + 1)
      · exact rfl
      · exact (.cons (by first | rfl | exact lookI rfl (by omega) | exact lookI rfl (by simp) | exact lookB rfl (by simp)) Front.nil)
      · exact SubX.dropN 11 (by kernel_rfl) rfl
      · exact (by repeat' (first | exact Pick.nil _ | exact Del.here _ | apply Pick.cons | apply Del.there))
      · exact ⟨by omega, hst⟩
      · exact (by (try dsimp only); omega)
  · try simp only [bs] at h1
    refine Tr.exit ?_
    refine Tr.thenE ?_
    refine Tr.thenE ?_
    refine Tr.inHit ?_
    refine Tr.thenN ?_
    refine Tr.seq ?_
    refine Tr.region ?_
    refine Tr.q (QS.assign rfl) rfl ?_
    refine Tr.q (QS.assign rfl) rfl ?_
    refine Tr.nil ?_
    refine Tr.thenN ?_
    refine Tr.ret ?_
    refine Tr.ret2 Try.results66 rfl rfl (fun w' hw => ?_)
    have hst : nxtP l a = none := by rw [← hk2, List.drop_of_length_le (by omega)]; rfl
    exact ⟨by rw [hst]; rfl, hw.below (Bg.le.refl _)⟩
set_option maxRecDepth 100000 in
set_option maxHeartbeats 2000000 in
theorem win_any (l : List SecV) (V : Value) (a to_ : UInt32) (H : Hp) (w : World) (hH : Hp.le H (hp w)) (hV : Sl H encSec l V) (hB : SecB l) (hD : DataIn H l) :
    Calls Try.prog 29 #[V, .int .u32 a.toNat, .int .u32 to_.toNat] w (fun e w' => ∃ V', e = .returned V' ∧ Ext w w' ∧ Sl H encU8 (winP l a to_) V') := by
  have hV' : Sl (Bg.of w).blk encSec l V := hV.mono hH
  have hlen := hB.1
  have hf := findP_lt (l := l) (a := a)
  have ha := a.toNat_lt
  have ht := to_.toNat_lt
  refine enter Try.func29 rfl Try.ntmps29 rfl ?_
  refine Tr.seq ?_
  refine Tr.region ?_
  refine Tr.q (QS.assign rfl) rfl ?_
  refine Tr.nil ?_
  refine Tr.thenN ?_
  refine Tr.seq ?_
  refine Tr.region ?_
  refine Tr.q (QS.move rfl) rfl ?_
  refine Tr.q (QS.move rfl) rfl ?_
  refine Tr.q (QS.call rfl Try.call20 (fun w hw => find_any l V a w (hw.slF hV') hB)) rfl ?_
  refine Tr.q (QS.assign rfl) rfl ?_
  refine Tr.nil ?_
  refine Tr.thenN ?_
  refine Tr.seq ?_
  refine Tr.seq ?_
  refine Tr.region ?_
  refine Tr.q (QS.move rfl) rfl ?_
  refine Tr.q (QS.lss rfl rfl) rfl ?_
  refine Tr.nil ?_
  refine Tr.thenN ?_
  refine Tr.cond rfl (fun h1 => ?_) (fun h1 => ?_)
  · try simp only [bs] at h1
    refine Tr.seq ?_
    refine Tr.region ?_
    refine Tr.q (QS.assign rfl) rfl ?_
    refine Tr.nil ?_
    refine Tr.thenN ?_
    refine Tr.ret ?_
    refine Tr.thenR ?_
    refine Tr.ret1 Try.results29 rfl (fun w' hw => ?_)
    exact ⟨_, rfl, hw.below (Bg.le.refl _), by unfold winP; rw [if_pos (by assumption)]; exact Sl.nil _ _⟩
  · try simp only [bs] at h1
    refine Tr.skip ?_
    refine Tr.thenN ?_
    refine Tr.seq ?_
    have hin := inS_iff.1 (findP_in (l := l) (a := a) (by omega))
    have hen : endP (l.getD (findP l a).toNat default) ≤ ((l.getD (findP l a).toNat default).addr.toNat : Int) + (l.getD (findP l a).toNat default).data.length := by unfold endP; omega
    have hsub : (a - (l.getD (findP l a).toNat default).addr).toNat = a.toNat - (l.getD (findP l a).toNat default).addr.toNat := UInt32.toNat_sub_of_le _ _ (UInt32.le_iff_toNat_le.2 hin.1)
    have hdl := hB.at (k := (findP l a).toNat) (by omega)
    have hDk0 : Sl H encU8 (l.getD (findP l a).toNat default).data (.slice (l.getD (findP l a).toNat default).dp (l.getD (findP l a).toNat default).data.length (l.getD (findP l a).toNat default).dc) := hD _ (mem_getD (by omega))
    have hDk := hDk0.mono (show Hp.le H (Bg.of w).blk from hH)
    refine Tr.regionQ HLF.mixed (by kernel_rfl) ?_
    refine TrQ.q (QS.move rfl) rfl ?_
    refine TrQ.q (QS.move rfl) rfl ?_
    refine TrQ.q (QS.idx rfl rfl (by assumption) Try.underlying22 Try.sizeOf59 (by rfl) (by omega)) rfl ?_
    refine TrQ.q (QS.fieldAddr (off := 2) (ft := 54) rfl Try.underlying59 rfl rfl Try.sizeOf54 (by decide)) rfl ?_
    refine TrQ.q (QS.elF rfl (by assumption) Try.isAgg54 (by omega) (by rfl)) rfl ?_
    refine TrQ.q (QS.move rfl) rfl ?_
    refine TrQ.q (QS.move rfl) rfl ?_
    refine TrQ.q (QS.move rfl) rfl ?_
    refine TrQ.q (QS.idx rfl rfl (by assumption) Try.underlying22 Try.sizeOf59 (by rfl) (by omega)) rfl ?_
    refine TrQ.q (QS.fieldAddr (off := 1) (ft := 23) rfl Try.underlying59 rfl rfl Try.sizeOf23 (by decide)) rfl ?_
    refine TrQ.q (QS.elF rfl (by assumption) Try.isAgg23 (by omega) (by rfl)) rfl ?_
    refine TrQ.q (QS.sub32 rfl rfl) rfl ?_
    refine TrQ.q (QS.slice (lv := some (_, _)) (hv := none) rfl (by assumption) rfl rfl Try.underlying54 Try.sizeOf5 (by rfl) (by simp only [loOf, hiOf] <;> first | omega | assumption | (simp only [NatCast.natCast, Int.ofNat_eq_natCast]; omega)) (by simp only [loOf, hiOf] <;> first | omega | assumption | (simp only [NatCast.natCast, Int.ofNat_eq_natCast]; omega)) (by simp only [loOf, hiOf] <;> first | omega | assumption | (simp only [NatCast.natCast, Int.ofNat_eq_natCast]; omega))) rfl ?_
    refine TrQ.q (QS.assign rfl) rfl ?_
    refine TrQ.nil ?_
    refine Tr.thenN ?_
    refine Tr.seq ?_
    have hs1 := Sl.resl (l := (a - (l.getD (findP l a).toNat default).addr).toNat) (h := (l.getD (findP l a).toNat default).data.length) hDk (by omega) (Nat.le_refl _)
    rw [List.take_length] at hs1
    have hs1l : (List.drop (a - (l.getD (findP l a).toNat default).addr).toNat (l.getD (findP l a).toNat default).data).length = (l.getD (findP l a).toNat default).data.length - (a - (l.getD (findP l a).toNat default).addr).toNat := List.length_drop
    refine Tr.region ?_
    refine Tr.q (QS.move rfl) rfl ?_
    refine Tr.q (QS.len rfl (by assumption) Try.underlying54) rfl ?_
    refine Tr.q (QS.cvtIn rfl Try.underlying3 Try.underlying76 (IntWalk.u64_in _ (by omega))) rfl ?_
    refine Tr.q (QS.move rfl) rfl ?_
    refine Tr.q (QS.move rfl) rfl ?_
    refine Tr.q (QS.sub32 rfl rfl) rfl ?_
    refine Tr.q (QS.cvt32toU rfl Try.underlying23 Try.underlying76) rfl ?_
    refine Tr.q (QS.move rfl) rfl ?_
    refine Tr.q (QS.cvt32toU rfl Try.underlying23 Try.underlying76) rfl ?_
    refine Tr.q (QS.subU rfl rfl (by omega)) rfl ?_
    refine Tr.q (QS.min4 rfl rfl rfl rfl) rfl ?_
    refine Tr.q (QS.assign rfl) rfl ?_
    refine Tr.nil ?_
    refine Tr.thenN ?_
    refine Tr.seq ?_
    refine Tr.region ?_
    refine Tr.q (QS.move rfl) rfl ?_
    refine Tr.q (QS.move rfl) rfl ?_
    refine Tr.q (QS.slice (lv := none) (hv := some (_, _)) rfl (by assumption) rfl rfl Try.underlying54 Try.sizeOf5 (by rfl) (by simp only [loOf, hiOf] <;> first | omega | assumption | (simp only [NatCast.natCast, Int.ofNat_eq_natCast]; omega)) (by simp only [loOf, hiOf] <;> first | omega | assumption | (simp only [NatCast.natCast, Int.ofNat_eq_natCast]; omega)) (by simp only [loOf, hiOf] <;> first | omega | assumption | (simp only [NatCast.natCast, Int.ofNat_eq_natCast]; omega))) rfl ?_
    refine Tr.q (QS.assign rfl) rfl ?_
    refine Tr.nil ?_
    refine Tr.thenN ?_
    refine Tr.ret ?_
    refine Tr.ret1 Try.results29 rfl (fun w' hw => ?_)
    have hs3 := Sl.resl (l := (a - (l.getD (findP l a).toNat default).addr).toNat) (h := (l.getD (findP l a).toNat default).data.length) hDk0 (by omega) (Nat.le_refl _)
    rw [List.take_length] at hs3
    have hs2 := Sl.resl (l := 0) (h := (winN (l.getD (findP l a).toNat default) a to_).toNat) hs3 (Nat.zero_le _) (by unfold winN; omega)
    rw [List.drop_zero] at hs2
    exact ⟨_, rfl, hw.below (Bg.le.refl _), by unfold winP; rw [if_neg (by assumption)]; exact hs2⟩
set_option maxRecDepth 100000 in
set_option maxHeartbeats 2000000 in
theorem dec1_any (l : List SecV) (V : Value) (a to_ : UInt32) (bl bt : Nat) (w : World) (hV : Sl (hp w) encSec l V) (hB : SecB l) (hD : DataIn (hp w) l) (c1 : CellsIn (hp w) bl [V]) (c2 : CellsIn (hp w) bt [.int .u32 to_.toNat]) :
    Calls Try.prog 27 #[.int .u32 a.toNat, .pointer (some ⟨bl, 0, none⟩), .pointer (some ⟨bt, 0, none⟩)] w (fun e w' => e = .returned (.tuple #[.agg (encIns.enc (decW l to_ a).1).toArray, .bool (okW l to_ a)]) ∧ Ext w w') := by
  have hV' : Sl (Bg.of w).blk encSec l V := hV
  have hlen := hB.1
  have c1' : CellsIn (Bg.of w).blk bl [V] := c1
  have c2' : CellsIn (Bg.of w).blk bt [.int .u32 to_.toNat] := c2
  refine enter Try.func27 rfl Try.ntmps27 rfl ?_
  refine Tr.seq ?_
  refine Tr.region ?_
  refine Tr.alloc Try.zeroValue36 rfl rfl (fun b1 => ?_)
  refine Tr.q (QS.assign rfl) rfl ?_
  refine Tr.nil ?_
  refine Tr.thenN ?_
  refine Tr.seq ?_
  refine Tr.region ?_
  refine Tr.q (QS.loadCF rfl (by assumption) Try.isAgg22 (by rfl)) rfl ?_
  refine Tr.q (QS.move rfl) rfl ?_
  refine Tr.q (QS.loadCF rfl (by assumption) Try.isAgg23 (by rfl)) rfl ?_
  refine Tr.callBg (fun V : Value => V) (R := fun _ V => Sl (hp w) encU8 (winP l a to_) V) (fun h h' i hh r => r) rfl Try.call29 (fun w2 hw => win_any l V a to_ (hp w) w2 hw.bg hV hB hD) rfl (fun V7 F7 hF7 hR7 => ?_)
  refine Tr.q (QS.move rfl) rfl ?_
  refine Tr.q (QS.call rfl Try.call28 (fun w hw => decode_isa (winP l a to_) _ a w (hw.slF (hR7.mono hF7.blk)))) rfl ?_
  refine Tr.q (QS.move rfl) rfl ?_
  refine Tr.q (QS.extract rfl rfl) rfl ?_
  refine Tr.q (QS.extract rfl rfl) rfl ?_
  refine Tr.alloc Try.zeroValue36 rfl rfl (fun b2 => ?_)
  refine Tr.storeW rfl rfl Try.sizeOf36 (by repeat (first | exact Put.here _ | apply Put.there)) (by rfl) (by rfl) (by first | exact List.all_eq_true.1 rfl | exact Enc.one _ _ | exact Enc.one encIns _) rfl ?_
  refine Tr.q (QS.assign rfl) rfl ?_
  refine Tr.nil ?_
  refine Tr.thenN ?_
  refine Tr.seq ?_
  refine Tr.region ?_
  refine Tr.q (QS.lW rfl Try.isAgg36 Try.sizeOf36) rfl ?_
  refine Tr.q (QS.move rfl) rfl ?_
  refine Tr.q (QS.eql rfl rfl) rfl ?_
  refine Tr.storeW rfl rfl Try.sizeOf36 (by repeat (first | exact Put.here _ | apply Put.there)) (by rfl) (by rfl) (by first | exact List.all_eq_true.1 rfl | exact Enc.one _ _ | exact Enc.one encIns _) rfl ?_
  refine Tr.q (QS.assign rfl) rfl ?_
  refine Tr.nil ?_
  refine Tr.thenN ?_
  refine Tr.ret ?_
  refine Tr.retC2 Try.results27 rfl rfl (by repeat (first | exact List.Mem.head _ | apply List.Mem.tail)) Try.isAgg36 Try.sizeOf36 (by rfl) (fun w' hw => ?_)
  exact ⟨rfl, hw.below hF7⟩
set_option maxRecDepth 100000 in
set_option maxHeartbeats 2000000 in
theorem size1_any (l : List SecV) (V : Value) (a to_ : UInt32) (bl bt bd : Nat) (w : World) (hV : Sl (hp w) encSec l V) (hB : SecB l) (hD : DataIn (hp w) l) (c1 : CellsIn (hp w) bl [V]) (c2 : CellsIn (hp w) bt [.int .u32 to_.toNat]) (c3 : CellsIn (hp w) bd [.func (.func 27) #[] #[.pointer (some ⟨bl, 0, none⟩), .pointer (some ⟨bt, 0, none⟩)]]) :
    Calls Try.prog 30 #[.int .u32 a.toNat, .pointer (some ⟨bd, 0, none⟩)] w (fun e w' => e = .returned (.int .u32 (szW l to_ a).toNat) ∧ Ext w w') := by
  have hV' : Sl (Bg.of w).blk encSec l V := hV
  have hlen := hB.1
  have c3' : CellsIn (Bg.of w).blk bd [.func (.func 27) #[] #[.pointer (some ⟨bl, 0, none⟩), .pointer (some ⟨bt, 0, none⟩)]] := c3
  refine enter Try.func30 rfl Try.ntmps30 rfl ?_
  refine Tr.seq ?_
  refine Tr.region ?_
  refine Tr.q (QS.assign rfl) rfl ?_
  refine Tr.nil ?_
  refine Tr.thenN ?_
  refine Tr.seq ?_
  refine Tr.seq ?_
  refine Tr.region ?_
  refine Tr.q (QS.loadCF rfl (by assumption) Try.isAgg65 (by rfl)) rfl ?_
  refine Tr.q (QS.move rfl) rfl ?_
  refine Tr.q (QS.callV rfl rfl Try.call27 (fun w hw => dec1_any l V a to_ bl bt w (hw.slF hV) hB (hD.mono hw.bg) (c1.mono hw.bg) (c2.mono hw.bg))) rfl ?_
  refine Tr.q (QS.move rfl) rfl ?_
  refine Tr.q (QS.extract rfl rfl) rfl ?_
  refine Tr.q (QS.extract rfl rfl) rfl ?_
  refine Tr.alloc Try.zeroValue36 rfl rfl (fun b1 => ?_)
  refine Tr.storeW rfl rfl Try.sizeOf36 (by repeat (first | exact Put.here _ | apply Put.there)) (by rfl) (by rfl) (by first | exact List.all_eq_true.1 rfl | exact Enc.one _ _ | exact Enc.one encIns _) rfl ?_
  refine Tr.q (QS.assign rfl) rfl ?_
  refine Tr.nil ?_
  refine Tr.thenN ?_
  refine Tr.seq ?_
  refine Tr.region ?_
  refine Tr.q (QS.move rfl) rfl ?_
  refine Tr.nil ?_
  refine Tr.thenN ?_
  refine Tr.cond rfl (fun h2 => ?_) (fun h2 => ?_)
  · try simp only [bs] at h2
    refine Tr.seq ?_
    refine Tr.region ?_
    refine Tr.q (QS.fieldAddr (off := 8) (ft := 3) rfl Try.underlying36 rfl rfl Try.sizeOf3 (by decide)) rfl ?_
    refine Tr.q (QS.lV rfl Try.isAgg3) rfl ?_
    refine Tr.q (QS.cvtTo32 rfl Try.underlying3 Try.underlying23) rfl ?_
    refine Tr.q (QS.assign rfl) rfl ?_
    refine Tr.nil ?_
    refine Tr.thenN ?_
    refine Tr.ret ?_
    refine Tr.thenR ?_
    refine Tr.ret1 Try.results30 rfl (fun w' hw => ?_)
    exact ⟨by unfold szW; rw [if_pos (by assumption)], hw.below (Bg.le.refl _)⟩
  · try simp only [bs] at h2
    refine Tr.skip ?_
    refine Tr.thenN ?_
    refine Tr.seq ?_
    refine Tr.region ?_
    refine Tr.q (QS.assign rfl) rfl ?_
    refine Tr.nil ?_
    refine Tr.thenN ?_
    refine Tr.ret ?_
    refine Tr.ret1 Try.results30 rfl (fun w' hw => ?_)
    exact ⟨by unfold szW; rw [if_neg (by simp_all)]; rfl, hw.below (Bg.le.refl _)⟩
set_option maxRecDepth 100000 in
set_option maxHeartbeats 2000000 in
theorem positions_any (V : Value) (from_ to_ : UInt32) (Fv : Value) (hF1 : Fv.cells.toList = [Fv]) (hF2 : Fv.oneCell' = true) (hV1 : V.cells.toList = [V]) (hV2 : V.oneCell' = true) (w : World) :
    Calls Try.prog 31 #[V, .int .u32 from_.toNat, .int .u32 to_.toNat, Fv] w (fun e w' => ∃ i : Nat × Nat × Nat × Nat, e = .returned (.func (.func 64) #[] #[.pointer (some ⟨i.1, 0, none⟩), .pointer (some ⟨i.2.1, 0, none⟩), .pointer (some ⟨i.2.2.1, 0, none⟩), .pointer (some ⟨i.2.2.2, 0, none⟩)]) ∧ Ext w w' ∧ PosAt V from_ to_ Fv (newHp w w') i) := by
  refine enter Try.func31 rfl Try.ntmps31 rfl ?_
  refine Tr.seq ?_
  refine Tr.region ?_
  refine Tr.box rfl rfl rfl (fun b1 => ?_)
  refine Tr.box rfl rfl rfl (fun b2 => ?_)
  refine Tr.box rfl rfl rfl (fun b3 => ?_)
  refine Tr.box rfl rfl rfl (fun b4 => ?_)
  refine Tr.q (QS.assign rfl) rfl ?_
  refine Tr.nil ?_
  refine Tr.thenN ?_
  refine Tr.seq ?_
  refine Tr.region ?_
  refine Tr.q (QS.makeFunc rfl rfl) rfl ?_
  refine Tr.q (QS.assign rfl) rfl ?_
  refine Tr.nil ?_
  refine Tr.thenN ?_
  refine Tr.ret ?_
  refine Tr.ret1 Try.results31 rfl (fun w' hw => ?_)
  exact ⟨(b1, b2, b3, b4), rfl, hw.below (Bg.le.refl _), hV1 ▸ hw.cellNew rfl (by repeat (first | exact List.Mem.head _ | apply List.Mem.tail)), hw.cellNew rfl (by repeat (first | exact List.Mem.head _ | apply List.Mem.tail)), hw.cellNew rfl (by repeat (first | exact List.Mem.head _ | apply List.Mem.tail)), hF1 ▸ hw.cellNew rfl (by repeat (first | exact List.Mem.head _ | apply List.Mem.tail))⟩
set_option maxRecDepth 100000 in
set_option maxHeartbeats 4000000 in
theorem pos1_any (l : List SecV) (V : Value) (from_ to_ : UInt32) (b1 b2 b3 b4 bl bt bd : Nat) (bo : List Nat) (H : Hp) (hV : Sl H encSec l V) (hB : SecB l) (hD : DataIn H l) (c1 : CellsIn H b1 [V]) (c2 : CellsIn H b2 [.int .u32 from_.toNat]) (c3 : CellsIn H b3 [.int .u32 to_.toNat]) (c4 : CellsIn H b4 [.func (.func 30) #[] #[.pointer (some ⟨bd, 0, none⟩)]]) (c5 : CellsIn H bd [.func (.func 27) #[] #[.pointer (some ⟨bl, 0, none⟩), .pointer (some ⟨bt, 0, none⟩)]]) (c6 : CellsIn H bl [V]) (c7 : CellsIn H bt [.int .u32 to_.toNat]) (hHc : ∀ k o, H k = some o → o.isCells = true) (w : World) (hH : Hp.le H (hp w)) (hn : ∀ k, ownW bo w k → H k = none ∧ k < w.heap.size) (hbs : ∀ b ∈ bo, b < w.heap.size) (lv B : Nat) (J Jx : List UInt32 → World → Prop) (hJ : AbidesFrom B J) (hJx : AbidesFrom B Jx) (hY : ∀ pre x W1, J pre W1 → pre.length < 4294967296 → YieldAt Fence.wide 1 Try.prog lv #[.int .u32 x.toNat] W1 fun e W' => (e = .returned (.bool true) ∧ J (pre ++ [x]) W' ∧ KpW bo W1 W') ∨ (e = .returned (.bool false) ∧ Jx (pre ++ [x]) W')) (h0 : J [] w) :
    Calls Try.prog 64 #[.func (.yield lv) #[] #[], .pointer (some ⟨b1, 0, none⟩), .pointer (some ⟨b2, 0, none⟩), .pointer (some ⟨b3, 0, none⟩), .pointer (some ⟨b4, 0, none⟩)] w (fun e W' => (∃ v, e = .returned v) ∧ ((∃ xs, xs = posP l from_ to_ ∧ J xs W') ∨ (∃ pre, True ∧ Jx pre W'))) := by
  have hV0 : Sl (Bg.of0 w).blk encSec l V := hV.mono hH
  have c10 : CellsIn (Bg.of0 w).blk b1 [V] := c1.mono hH
  obtain ⟨rs, hrs⟩ : ∃ rs, rs = normalP (l.map spaceP) := ⟨_, rfl⟩
  refine enter0 Try.func64 rfl Try.ntmps64 rfl ?_
  refine Tr.seq ?_
  refine Tr.region ?_
  refine Tr.q (QS.loadCF rfl (by assumption) Try.isAgg22 (by rfl)) rfl ?_
  refine Tr.callRow rfl Try.call65 (fun w hw => ranges_any l V w (hw.slF hV0) hB) rfl (fun V1 => ?_)
  refine Tr.q (QS.assign rfl) rfl ?_
  refine Tr.nil ?_
  refine Tr.thenN ?_
  refine Tr.seq ?_
  rw [← hrs]
  refine Tr.now (fun W1 hW1 => ?_)
  have hR1 := (hW1.new0 (w := w) rfl (.head _)).sl
  have hBel := hW1.below0 (Bg.le.refl _)
  have hH1 : Hp.le H (hp W1) := fun k o e => by have q := hH k o e; exact (hBel.block k (Array.getElem?_eq_some_iff.1 q).1).trans q
  have hHk : Hp.le H (keptHp bo w W1) := keptHp_of hH1 hHc (fun k h => (hn k h).1)
  have hRk : Sl (keptHp bo w W1) encRng rs V1 := hR1.cellsHp.mono (newHp_kept (fun k h => (hn k h).2))
  have hRv : Sl (Bg.of0 W1).blk encRng rs V1 := hRk.mono keptHp_le
  have c20 : CellsIn (Bg.of0 W1).blk b2 [.int .u32 from_.toNat] := c2.mono hH1
  have hJ1 : J [] W1 := hJ [] w W1 none h0 ⟨hBel.os, hBel.tape, hBel.output, hBel.size, fun k hk _ => hBel.block k hk⟩ (fun r e => by cases e)
  refine Tr.region ?_
  refine Tr.q (QS.move rfl) rfl ?_
  refine Tr.q (QS.loadCF rfl (by assumption) Try.isAgg23 (by rfl)) rfl ?_
  refine Tr.q (QS.call rfl Try.call66 (fun w hw => nxt_any rs _ from_ w (hw.slF hRv))) rfl ?_
  refine Tr.q (QS.move rfl) rfl ?_
  refine Tr.q (QS.extract rfl rfl) rfl ?_
  refine Tr.q (QS.extract rfl rfl) rfl ?_
  refine Tr.q (QS.assign rfl) rfl ?_
  refine Tr.q (QS.assign rfl) rfl ?_
  refine Tr.nil ?_
  refine Tr.thenN ?_
  refine Tr.block ?_
  refine Tr.loop (ι := World × UInt32 × List UInt32 × Nat) (fun ⟨Ws, x, pre, f⟩ => Hp.le (keptHp bo w W1) (hp Ws) ∧ W1.heap.size ≤ Ws.heap.size ∧ (∀ k, ownW bo Ws k → ownW bo w k ∨ W1.heap.size ≤ k) ∧ (∀ b ∈ bo, b < Ws.heap.size) ∧ J pre Ws ∧ pre ++ posF l rs to_ f x = posP l from_ to_ ∧ pre.length ≤ x.toNat ∧ 4294967296 ≤ f + x.toNat) (fun ⟨Ws, x, pre, f⟩ => Bg.of0 Ws) (fun ⟨Ws, x, pre, f⟩ => []) (fun ⟨Ws, x, pre, f⟩ => [(7, .int .u32 ((nxtP rs x).getD 0).toNat), (8, .bool (nxtP rs x).isSome)]) (fun ⟨Ws, x, pre, f⟩ => 4294967296 - x.toNat) (W1, from_, [], 4294967296) ⟨keptHp_le, Nat.le_refl _, fun k h => .inl ((ownW_same (fun b hb => hBel.block b (hbs b hb)) k).1 h), fun b hb => Nat.lt_of_lt_of_le (hbs b hb) hBel.size, hJ1, by rw [posP, ← hrs]; rfl, Nat.zero_le _, by omega⟩ (.cons (by first | rfl | exact lookI rfl (by omega) | exact lookI rfl (by simp) | exact lookB rfl (by simp)) (.cons (by first | rfl | exact lookI rfl (by omega) | exact lookI rfl (by simp) | exact lookB rfl (by simp)) Front.nil)) (by repeat' (first | exact Pick.nil _ | exact Del.here _ | apply Pick.cons | apply Del.there)) rfl (fun i hi m hm => ?_)
  obtain ⟨Ws, x, pre, f⟩ := i
  replace hi : Hp.le (keptHp bo w W1) (hp Ws) ∧ W1.heap.size ≤ Ws.heap.size ∧ (∀ k, ownW bo Ws k → ownW bo w k ∨ W1.heap.size ≤ k) ∧ (∀ b ∈ bo, b < Ws.heap.size) ∧ J pre Ws ∧ pre ++ posF l rs to_ f x = posP l from_ to_ ∧ pre.length ≤ x.toNat ∧ 4294967296 ≤ f + x.toNat := hi
  replace hm : m = 4294967296 - x.toNat := hm
  change Tr _ (Bg.of0 Ws) [] ([(7, .int .u32 ((nxtP rs x).getD 0).toNat), (8, .bool (nxtP rs x).isSome)] ++ _) _
  obtain ⟨q1, q2, q3, q4, q5, q6, q7, q8⟩ := hi
  have hHs := hHk.trans q1
  have c3s : CellsIn (Bg.of0 Ws).blk b3 [.int .u32 to_.toNat] := c3.mono hHs
  refine Tr.seq ?_
  refine Tr.seq ?_
  refine Tr.region ?_
  refine Tr.q (QS.move rfl) rfl ?_
  refine Tr.q (QS.move rfl) rfl ?_
  apply Tr.andP
  · exact (rfl : _ = (4, 18, 22))
  · exact rfl
  · intro hT2; have hT2' := hT2
    try simp only [bs] at hT2'
    refine Tr.gq rfl rfl hT2 (QS.move rfl) rfl ?_
    refine Tr.gq rfl rfl hT2 (QS.loadCF rfl (by assumption) Try.isAgg23 (by rfl)) rfl ?_
    refine Tr.gq rfl rfl hT2 (QS.lss32 rfl rfl) rfl ?_
    refine Tr.q (QS.pickT rfl hT2 rfl) rfl ?_
    refine Tr.nil (Tr.thenN ?_)
    exact Tr.endX (Sub.cons rfl (Sub.dropN 4 (by kernel_rfl) rfl))
  · intro hF2
    refine Tr.gskip rfl rfl hF2 rfl ?_
    refine Tr.gskip rfl rfl hF2 rfl ?_
    refine Tr.gskip rfl rfl hF2 rfl ?_
    refine Tr.q (QS.pickF rfl hF2 rfl) rfl ?_
    refine Tr.nil (Tr.thenN ?_)
    exact Tr.endX (Sub.cons rfl (Sub.dropN 4 (by kernel_rfl) rfl))
  refine Tr.nil ?_
  refine Tr.thenN ?_
  refine Tr.cond rfl (fun h3 => ?_) (fun h3 => ?_)
  · try simp only [bs] at h3
    refine Tr.skip ?_
    refine Tr.thenN ?_
    refine Tr.seq ?_
    refine Tr.block ?_
    refine Tr.seq ?_
    refine Tr.seq ?_
    obtain ⟨b, hb⟩ := Option.isSome_iff_exists.1 h3.1
    have hbd : (nxtP rs x).getD 0 = b := by rw [hb]; rfl
    have hblt : b < to_ := by rw [← hbd]; exact h3.2
    have hge := nxtP_ge hb
    have hst := step_pos l to_ ((nxtP rs x).getD 0) (by rw [hbd]; exact hblt)
    have hxlt := x.toNat_lt
    rw [← hbd] at hge
    refine Tr.yield (x := (nxtP rs x).getD 0) (fun x : UInt32 => .int .u32 x.toNat) rfl rfl rfl rfl q5 hJ (fun W2 h => hY pre _ W2 h (by omega)) rfl rfl rfl rfl (fun W2 W' y1 y2 y3 => ?_) (fun W' y1 => ?_)
    · skip
      obtain ⟨r1, r2, r3, r4⟩ := keptHp_round q1 q2 q3 q4 y1.grown y2
      have hHs' := hHk.trans r1
      have hVs' : Sl (Bg.of0 W').blk encSec l V := hV.mono hHs'
      have hDs' : DataIn (Bg.of0 W').blk l := hD.mono hHs'
      have c4s' : CellsIn (Bg.of0 W').blk b4 [.func (.func 30) #[] #[.pointer (some ⟨bd, 0, none⟩)]] := c4.mono hHs'
      have c5s' : CellsIn (Bg.of0 W').blk bd [.func (.func 27) #[] #[.pointer (some ⟨bl, 0, none⟩), .pointer (some ⟨bt, 0, none⟩)]] := c5.mono hHs'
      have c6s' : CellsIn (Bg.of0 W').blk bl [V] := c6.mono hHs'
      have c7s' : CellsIn (Bg.of0 W').blk bt [.int .u32 to_.toNat] := c7.mono hHs'
      have hRv' : Sl (Bg.of0 W').blk encRng rs V1 := hRk.mono r1
      refine Tr.thenN ?_
      refine Tr.cond rfl (fun h4 => ?_) (fun h4 => ?_)
      · try simp only [bs] at h4
        first | contradiction | (exfalso; omega) | simp_all
      · try simp only [bs] at h4
        refine Tr.skip ?_
        refine Tr.thenN ?_
        refine Tr.region ?_
        refine Tr.q (QS.move rfl) rfl ?_
        refine Tr.q (QS.loadCF rfl (by assumption) Try.isAgg66 (by rfl)) rfl ?_
        refine Tr.q (QS.move rfl) rfl ?_
        refine Tr.q (QS.callV rfl rfl Try.call30 (fun w hw => size1_any l V ((nxtP rs x).getD 0) to_ bl bt bd w (hw.slF hVs') hB (hDs'.mono hw.bg) (c6s'.mono hw.bg) (c7s'.mono hw.bg) (c5s'.mono hw.bg))) rfl ?_
        refine Tr.q (QS.add32 rfl rfl) rfl ?_
        refine Tr.q (QS.assign rfl) rfl ?_
        refine Tr.nil ?_
        refine Tr.inN ?_
        refine Tr.thenN ?_
        refine Tr.region ?_
        refine Tr.q (QS.move rfl) rfl ?_
        refine Tr.q (QS.move rfl) rfl ?_
        refine Tr.q (QS.call rfl Try.call66 (fun w hw => nxt_any rs _ (((nxtP rs x).getD 0) + szW l to_ ((nxtP rs x).getD 0)) w (hw.slF hRv'))) rfl ?_
        refine Tr.q (QS.move rfl) rfl ?_
        refine Tr.q (QS.extract rfl rfl) rfl ?_
        refine Tr.q (QS.extract rfl rfl) rfl ?_
        refine Tr.q (QS.assign rfl) rfl ?_
        refine Tr.q (QS.assign rfl) rfl ?_
        refine Tr.nil ?_
        refine Tr.thenN ?_
        have hx' : (((nxtP rs x).getD 0) + szW l to_ ((nxtP rs x).getD 0)).toNat = ((nxtP rs x).getD 0).toNat + (szW l to_ ((nxtP rs x).getD 0)).toNat := hst.1
        obtain ⟨f2, rfl⟩ : ∃ f2, f = f2 + 1 := ⟨f - 1, by omega⟩
        have hpf : (pre ++ [(nxtP rs x).getD 0]) ++ posF l rs to_ f2 (((nxtP rs x).getD 0) + szW l to_ ((nxtP rs x).getD 0)) = posP l from_ to_ := by rw [← q6, posF_go hb hblt, List.append_assoc, List.singleton_append, hbd]
        have hpl : (pre ++ [(nxtP rs x).getD 0]).length = pre.length + 1 := by simp
        apply Tr.again (W', (((nxtP rs x).getD 0) + szW l to_ ((nxtP rs x).getD 0)), pre ++ [(nxtP rs x).getD 0], f2)
        · exact rfl
        · exact (.cons (by first | rfl | exact lookI rfl (by omega) | exact lookI rfl (by simp) | exact lookB rfl (by simp)) (.cons (by first | rfl | exact lookI rfl (by omega) | exact lookI rfl (by simp) | exact lookB rfl (by simp)) Front.nil))
        · exact SubX.dropN 23 (by kernel_rfl) rfl
        · exact (by repeat' (first | exact Pick.nil _ | exact Del.here _ | apply Pick.cons | apply Del.there))
        · exact ⟨r1, r2, r3, r4, y3, hpf, by omega, by omega⟩
        · exact (by show 4294967296 - _ < m; omega)
    · skip
      refine Tr.thenN ?_
      refine Tr.cond rfl (fun h5 => ?_) (fun h5 => ?_)
      · try simp only [bs] at h5
        refine Tr.ret ?_
        refine Tr.thenR ?_
        refine Tr.inR ?_
        refine Tr.thenR ?_
        refine Tr.thenR ?_
        refine Tr.inR ?_
        refine Tr.ret0 Try.results64 (fun w' hw => ?_)
        exact ⟨⟨_, rfl⟩, .inr ⟨_, trivial, hJx _ W' _ none y1 hw.grown (fun r e => by cases e)⟩⟩
      · try simp only [bs] at h5
        first | contradiction | (exfalso; omega) | simp_all
  · try simp only [bs] at h3
    refine Tr.exit ?_
    refine Tr.thenE ?_
    refine Tr.thenE ?_
    refine Tr.inHit ?_
    refine Tr.ret0n Try.results64 (fun w' hw => ?_)
    have hend : posF l rs to_ f x = [] := by
      cases hq : nxtP rs x with
      | none => exact posF_stop hq
      | some b =>
        refine posF_stop2 hq (fun hb => ?_)
        rw [hq] at h3
        rcases h3 with h3 | h3
        · cases h3
        · exact h3 hb
    rw [hend, List.append_nil] at q6
    exact ⟨⟨_, rfl⟩, .inl ⟨pre, q6, hJ pre Ws _ none q5 hw.grown (fun r e => by cases e)⟩⟩
theorem pos_stops (l : List SecV) (V : Value) (from_ to_ : UInt32) (b1 b2 b3 b4 bl bt bd : Nat) (bo : List Nat) (H : Hp) (hV : Sl H encSec l V) (hB : SecB l) (hD : DataIn H l) (c1 : CellsIn H b1 [V]) (c2 : CellsIn H b2 [.int .u32 from_.toNat]) (c3 : CellsIn H b3 [.int .u32 to_.toNat]) (c4 : CellsIn H b4 [.func (.func 30) #[] #[.pointer (some ⟨bd, 0, none⟩)]]) (c5 : CellsIn H bd [.func (.func 27) #[] #[.pointer (some ⟨bl, 0, none⟩), .pointer (some ⟨bt, 0, none⟩)]]) (c6 : CellsIn H bl [V]) (c7 : CellsIn H bt [.int .u32 to_.toNat]) (hHc : ∀ k o, H k = some o → o.isCells = true) (w : World) (hH : Hp.le H (hp w)) (hn : ∀ k, ownW bo w k → H k = none ∧ k < w.heap.size) (hbs : ∀ b ∈ bo, b < w.heap.size) :
    SeqStopsK Fence.wide 2 Try.prog 64 [.pointer (some ⟨b1, 0, none⟩), .pointer (some ⟨b2, 0, none⟩), .pointer (some ⟨b3, 0, none⟩), .pointer (some ⟨b4, 0, none⟩)].toArray (fun x : UInt32 => #[.int .u32 x.toNat]) (KpW bo) (fun xs => xs = posP l from_ to_) (fun _ => True) 4294967296 w := by
  intro lv J Jx W hBel hJ hJx hY h0
  have hs := ownW_same (bs := bo) (w := w) (w' := W) (fun b hb => hBel.block b (hbs b hb))
  exact callsIn_wide.2 (pos1_any l V from_ to_ b1 b2 b3 b4 bl bt bd bo H hV hB hD c1 c2 c3 c4 c5 c6 c7 hHc W (fun k o e => (hBel.block k (Array.getElem?_eq_some_iff.1 (hH k o e)).1).trans (hH k o e)) (fun k h => ⟨(hn k ((hs k).1 h)).1, Nat.lt_of_lt_of_le (hn k ((hs k).1 h)).2 hBel.size⟩) (fun b hb => Nat.lt_of_lt_of_le (hbs b hb) hBel.size) lv W.heap.size J Jx hJ hJx hY h0)
set_option maxRecDepth 100000 in
set_option maxHeartbeats 8000000 in
theorem sweep_any (l : List SecV) (V : Value) (from_ to_ : UInt32) (w : World) (hV : Sl (hp w) encSec l V) (hB : SecB l) (hD : DataIn (hp w) l) (hN : (posP l from_ to_).length ≤ 1000000) :
    Calls Try.prog 11 #[V, .int .u32 from_.toNat, .int .u32 to_.toNat] w (fun e w' => ∃ i : (Value × List Ins) × (Value × List Rng), e = .returned (.tuple #[i.1.1, i.2.1]) ∧ Below w.heap.size w w' ∧ NewEnts w w' [rowE i.1.1 36 encIns i.1.2, rowE i.2.1 61 encRng i.2.2] ∧ i.1.2 = foundP l to_ (posP l from_ to_) ∧ i.2.2 = normalP (badP l to_ (posP l from_ to_))) := by
  have hV0 : Sl (Bg.of0 w).blk encSec l V := hV
  have hlen := hB.1
  obtain ⟨va, vc, hv1, hv2⟩ : ∃ va vc, V = .slice va l.length vc ∧ True := by obtain ⟨a, c, h, _⟩ := hV.shape; exact ⟨a, c, h, trivial⟩
  refine enterM Try.func11 rfl Try.ntmps11 rfl ?_
  refine Tr.seq ?_
  refine Tr.region ?_
  refine Tr.box rfl rfl rfl (fun b1 => ?_)
  refine Tr.box rfl rfl rfl (fun b2 => ?_)
  refine Tr.q (QS.assign rfl) rfl ?_
  refine Tr.q (QS.assign rfl) rfl ?_
  refine Tr.nil ?_
  refine Tr.thenN ?_
  refine Tr.seq ?_
  refine Tr.region ?_
  refine Tr.alloc Try.zeroValue26 rfl rfl (fun b3 => ?_)
  refine Tr.nil ?_
  refine Tr.thenN ?_
  refine Tr.seq ?_
  refine Tr.region ?_
  refine Tr.alloc Try.zeroValue27 rfl rfl (fun b4 => ?_)
  refine Tr.nil ?_
  refine Tr.thenN ?_
  refine Tr.seq ?_
  refine Tr.region ?_
  refine Tr.q (QS.makeFunc rfl rfl) rfl ?_
  refine Tr.alloc Try.zeroValue65 rfl rfl (fun b5 => ?_)
  refine Tr.storeW rfl rfl Try.sizeOf65 (by repeat (first | exact Put.here _ | apply Put.there)) (by rfl) (by rfl) (by first | exact List.all_eq_true.1 rfl | exact Enc.one _ _) rfl ?_
  refine Tr.nil ?_
  refine Tr.thenN ?_
  refine Tr.seq ?_
  refine Tr.region ?_
  refine Tr.q (QS.makeFunc rfl rfl) rfl ?_
  refine Tr.q (QS.assign rfl) rfl ?_
  refine Tr.nil ?_
  refine Tr.thenN ?_
  refine Tr.seq ?_
  refine Tr.seq ?_
  have hVc : V.cells.toList = [V] := by rw [hv1]; rfl
  rw [hVc]
  refine Tr.region ?_
  refine Tr.q (QS.lV rfl Try.isAgg22) rfl ?_
  refine Tr.q (QS.move rfl) rfl ?_
  refine Tr.q (QS.lV rfl Try.isAgg23) rfl ?_
  refine Tr.q (QS.move rfl) rfl ?_
  refine Tr.callBg (fun i : Nat × Nat × Nat × Nat => .func (.func 64) #[] #[.pointer (some ⟨i.1, 0, none⟩), .pointer (some ⟨i.2.1, 0, none⟩), .pointer (some ⟨i.2.2.1, 0, none⟩), .pointer (some ⟨i.2.2.2, 0, none⟩)]) (R := PosAt V from_ to_ (.func (.func 30) #[] #[.pointer (some ⟨b5, 0, none⟩)])) (fun h h' i hh r => r.mono hh) rfl Try.call31 (fun w2 hw => positions_any V from_ to_ (.func (.func 30) #[] #[.pointer (some ⟨b5, 0, none⟩)]) rfl rfl (by rw [hv1]; rfl) (by rw [hv1]; rfl) w2) rfl (fun i F4 hF4 hR4 => ?_)
  refine Tr.nil ?_
  refine Tr.thenN ?_
  refine Tr.block ?_
  obtain ⟨i1, i2, i3, i4⟩ := i
  obtain ⟨p1, p2, p3, p4⟩ := hR4
  dsimp only at p1 p2 p3 p4
  refine Tr.frozenC (b := b5) (by repeat (first | exact Del.here _ | apply Del.there)) (fun F5 hF5 cd => ?_)
  refine Tr.frozenC (b := b2) (by repeat (first | exact Del.here _ | apply Del.there)) (fun F6 hF6 ct => ?_)
  refine Tr.frozenC (b := b1) (by repeat (first | exact Del.here _ | apply Del.there)) (fun F7 hF7 cl => ?_)
  have hF67 := hF6.trans hF7
  have hF57 := hF5.trans hF67
  have hF07 := hF4.trans hF57
  refine Tr.ownNil 61 encRng ?_
  refine Tr.ownNil 36 encIns ?_
  refine Tr.rangeF (α := UInt32) (ι := (Value × List Ins) × (Value × List Rng)) (lb := [.pointer (some ⟨i1, 0, none⟩), .pointer (some ⟨i2, 0, none⟩), .pointer (some ⟨i3, 0, none⟩), .pointer (some ⟨i4, 0, none⟩)]) (fun x => .int .u32 x.toNat) [b3, b4] (fun xs => xs = posP l from_ to_) (fun pre j => j.1.2 = foundP l to_ pre ∧ j.2.2 = badP l to_ pre) (fun j => [cellE b3 [j.1.1] 26, cellE b4 [j.2.1] 27, rowE j.1.1 36 encIns j.1.2, rowE j.2.1 61 encRng j.2.2]) 4294967296 ((.slice none 0 0, []), (.slice none 0 0, [])) hF07.dr rfl rfl Try.call64 rfl rfl (by repeat' (first | exact Pick.nil _ | exact Del.here _ | apply Pick.cons | apply Del.there)) ⟨rfl, rfl⟩ (fun j => .cell (.cell (.row (.row .nil)))) (by simp [blks, cellE]) (fun F' j W h k => own_two h k) ?_ ?_ ?_
  · intro w2 F1 hf h1 full1
    exact pos_stops l V from_ to_ i1 i2 i3 i4 b1 b2 b5 [b3, b4] (cellsHp F1.blk) ((hV0.mono (hF07.trans hf).blk).cellsHp) hB (fun s hs => ((hD s hs).mono (hF07.trans hf).blk).cellsHp) ((p1.mono (hF57.trans hf).blk).cellsHp) ((p2.mono (hF57.trans hf).blk).cellsHp) ((p3.mono (hF57.trans hf).blk).cellsHp) ((p4.mono (hF57.trans hf).blk).cellsHp) ((cd.mono (hF67.trans hf).blk).cellsHp) ((cl.mono hf.blk).cellsHp) ((ct.mono (hF7.trans hf).blk).cellsHp) (fun k o e => (cellsHp_some e).2) w2 (fun k o e => h1.bg k o (cellsHp_some e).1) (fun k hk => (by have hm := (own_two h1 k).1 hk; exact ⟨by cases hq : cellsHp F1.blk k with | none => rfl | some o => (have := (cellsHp_some hq).1; rw [(h1.sep k hm).1] at this; cases this), h1.lt k hm⟩)) (fun b hb => h1.lt b ((own_two h1 b).1 (.inl hb)))
  · intro pre x j l0 F1 hF1 hok hlen
    obtain ⟨⟨Vf, fs⟩, ⟨Vb, bl⟩⟩ := j
    obtain ⟨ok1, ok2⟩ := hok
    replace ok1 : fs = foundP l to_ pre := ok1
    replace ok2 : bl = badP l to_ pre := ok2
    subst ok1 ok2
    change Tr _ _ [cellE b3 [Vf] 26, cellE b4 [Vb] 27, rowE Vf 36 encIns (foundP l to_ pre), rowE Vb 61 encRng (badP l to_ pre)] _ _
    have cd1 := cd.mono (hF67.trans hF1).blk
    have ct1 := ct.mono (hF7.trans hF1).blk
    have cl1 := cl.mono hF1.blk
    have hV1 := hV0.mono (hF07.trans hF1).blk
    have hD1 : DataIn F1.blk l := fun s hs => (hD s hs).mono (hF07.trans hF1).blk
    have hfl := found_len l to_ pre
    have hbl := bad_len l to_ pre
    refine Tr.blockIn ?_
    refine Tr.seqIn ?_
    refine Tr.regionI (noThen (noIn noNormal)) rfl ?_
    refine Tr.q (QS.loadCF rfl cd1 Try.isAgg65 (by rfl)) rfl ?_
    refine Tr.q (QS.move rfl) rfl ?_
    refine Tr.q (QS.callV rfl rfl Try.call27 (fun w hw => dec1_any l V x to_ b1 b2 w (hw.slF hV1) hB (hD1.mono hw.bg) (cl1.mono hw.bg) (ct1.mono hw.bg))) rfl ?_
    refine Tr.q (QS.move rfl) rfl ?_
    refine Tr.q (QS.extract rfl rfl) rfl ?_
    refine Tr.q (QS.extract rfl rfl) rfl ?_
    refine Tr.alloc Try.zeroValue36 rfl rfl (fun b6 => ?_)
    refine Tr.storeW rfl rfl Try.sizeOf36 (by repeat (first | exact Put.here _ | apply Put.there)) (by rfl) (by rfl) (by first | exact List.all_eq_true.1 rfl | exact Enc.one _ _ | exact Enc.one encIns _) rfl ?_
    refine Tr.q (QS.assign rfl) rfl ?_
    refine Tr.nil ?_
    refine Tr.thenN ?_
    refine Tr.seqIn ?_
    refine Tr.regionI (noThen (noIn noNormal)) rfl ?_
    refine Tr.q (QS.move rfl) rfl ?_
    refine Tr.nil ?_
    refine Tr.thenN ?_
    refine Tr.condIn rfl (fun h7 => ?_) (fun h7 => ?_)
    · try simp only [bs] at h7
      refine Tr.regionI (noIn noNormal) rfl ?_
      refine Tr.q (QS.lV rfl Try.isAgg26) rfl ?_
      refine Tr.q (QS.lW rfl Try.isAgg36 Try.sizeOf36) rfl ?_
      refine Tr.lit1 (E := encIns) (decW l to_ x).1 rfl rfl Try.underlying26 Try.sizeOf36 Try.zeroValue36 (by rfl) (by rfl) rfl (fun V8 => ?_)
      refine Tr.append1 rfl rfl (by repeat (first | exact Del.here _ | apply Del.there)) (by repeat (first | exact Del.here _ | apply Del.there)) Try.underlying26 HLF.info36 (by rfl) (by rfl) (by (try simp only [List.length_cons, List.length_nil, List.length_append, List.length_take]); omega) (by unfold maxLen; (try simp only [List.length_cons, List.length_nil, List.length_append, List.length_take]); omega) rfl (fun V9 => ?_)
      refine Tr.rowShape (.head _) (fun pa pc hpv => ?_)
      subst hpv
      refine Tr.storeW rfl rfl Try.sizeOf26 (by repeat (first | exact Put.here _ | apply Put.there)) (by rfl) (by rfl) (by first | exact List.all_eq_true.1 rfl | exact Enc.one _ _) rfl ?_
      refine Tr.nil ?_
      refine Tr.inN ?_
      have hq1 := found_yes (l := l) (to_ := to_) (ps := pre) (x := x) h7
      have hq2 := bad_yes (l := l) (to_ := to_) (ps := pre) (x := x) h7
      exact fun a w ha hw => ⟨rfl, (((.slice pa (foundP l to_ pre ++ [(decW l to_ x).1]).length pc), foundP l to_ pre ++ [(decW l to_ x).1]), (Vb, badP l to_ pre)), ⟨hq1.symm, hq2.symm⟩, Pick.heap (L' := [cellE b3 [(.slice pa (foundP l to_ pre ++ [(decW l to_ x).1]).length pc)] 26, cellE b4 [Vb] 27, rowE (.slice pa (foundP l to_ pre ++ [(decW l to_ x).1]).length pc) 36 encIns (foundP l to_ pre ++ [(decW l to_ x).1]), rowE Vb 61 encRng (badP l to_ pre)]) (by repeat' (first | exact Pick.nil _ | exact Del.here _ | apply Pick.cons | apply Del.there)) hw⟩
    · try simp only [bs] at h7
      refine Tr.regionI (noIn noNormal) rfl ?_
      refine Tr.q (QS.lV rfl Try.isAgg27) rfl ?_
      refine Tr.q (QS.move rfl) rfl ?_
      refine Tr.q (QS.move rfl) rfl ?_
      refine Tr.q (QS.add32 (n := 1) rfl rfl) rfl ?_
      refine Tr.q (QS.build (vs := [(0, _), (1, _)]) rfl rfl (HLF.built61_0_1 _ _)) rfl ?_
      refine Tr.lit1 (E := encRng) (⟨x, x + 1⟩ : Rng) rfl rfl Try.underlying27 Try.sizeOf61 Try.zeroValue61 (by rfl) (by rfl) rfl (fun V10 => ?_)
      refine Tr.append1 rfl rfl (by repeat (first | exact Del.here _ | apply Del.there)) (by repeat (first | exact Del.here _ | apply Del.there)) Try.underlying27 HLF.info61 (by rfl) (by rfl) (by (try simp only [List.length_cons, List.length_nil, List.length_append, List.length_take]); omega) (by unfold maxLen; (try simp only [List.length_cons, List.length_nil, List.length_append, List.length_take]); omega) rfl (fun V11 => ?_)
      refine Tr.rowShape (.head _) (fun pa pc hpv => ?_)
      subst hpv
      refine Tr.storeW rfl rfl Try.sizeOf27 (by repeat (first | exact Put.here _ | apply Put.there)) (by rfl) (by rfl) (by first | exact List.all_eq_true.1 rfl | exact Enc.one _ _) rfl ?_
      refine Tr.nil ?_
      refine Tr.inN ?_
      have hq1 := found_no (l := l) (to_ := to_) (ps := pre) (x := x) h7
      have hq2 := bad_no (l := l) (to_ := to_) (ps := pre) (x := x) h7
      exact fun a w ha hw => ⟨rfl, ((Vf, foundP l to_ pre), ((.slice pa (badP l to_ pre ++ [(⟨x, x + 1⟩ : Rng)]).length pc), badP l to_ pre ++ [(⟨x, x + 1⟩ : Rng)])), ⟨hq1.symm, hq2.symm⟩, Pick.heap (L' := [cellE b3 [Vf] 26, cellE b4 [(.slice pa (badP l to_ pre ++ [(⟨x, x + 1⟩ : Rng)]).length pc)] 27, rowE Vf 36 encIns (foundP l to_ pre), rowE (.slice pa (badP l to_ pre ++ [(⟨x, x + 1⟩ : Rng)]).length pc) 61 encRng (badP l to_ pre ++ [(⟨x, x + 1⟩ : Rng)])]) (by repeat' (first | exact Pick.nil _ | exact Del.here _ | apply Pick.cons | apply Del.there)) hw⟩
  · intro xs j D F1 hF1 hS hok
    obtain ⟨⟨Vf, fs⟩, ⟨Vb, bl⟩⟩ := j
    obtain ⟨ok1, ok2⟩ := hok
    replace hS : xs = posP l from_ to_ := hS
    subst hS
    replace ok1 : fs = foundP l to_ (posP l from_ to_) := ok1
    replace ok2 : bl = badP l to_ (posP l from_ to_) := ok2
    subst ok1 ok2
    have hbl : (badP l to_ (posP l from_ to_)).length ≤ 1000000 := Nat.le_trans (bad_len l to_ _) hN
    change Tr _ _ [markE D, cellE b3 [Vf] 26, cellE b4 [Vb] 27, rowE Vf 36 encIns (foundP l to_ (posP l from_ to_)), rowE Vb 61 encRng (badP l to_ (posP l from_ to_))] _ _
    refine Tr.inN ?_
    refine Tr.thenN ?_
    refine Tr.seq ?_
    refine Tr.regionH ([cellE b3 [Vf] 26, cellE b4 [Vb] 27]) 5 rfl HLF.mixed ?_
    refine Tr.hT 0 rfl (by kernel_rfl) (panicThen panicRet) (QS.lV rfl Try.isAgg26) ?_
    refine Tr.hT 1 rfl (by kernel_rfl) (panicThen panicRet) (QS.lV rfl Try.isAgg27) ?_
    refine Tr.hAll [2] (by kernel_rfl) (by simp) (fun iq hq => ?_)
    obtain rfl := List.mem_singleton.1 hq
    refine Tr.hOp rfl ?_
    refine Tr.callRow rfl Try.call32 (fun w hw => normal_any (badP l to_ (posP l from_ to_)) _ w (hw.row (by repeat (first | exact List.Mem.head _ | apply List.Mem.tail))) hbl) rfl (fun V12 => ?_)
    refine Tr.hN ?_
    refine Tr.hT 3 rfl (by kernel_rfl) (panicThen panicRet) (QS.assign rfl) ?_
    refine Tr.hT 4 rfl (by kernel_rfl) (panicThen panicRet) (QS.assign rfl) ?_
    refine Tr.hDone (by kernel_rfl) ?_
    refine Tr.thenN ?_
    refine Tr.ret ?_
    refine Tr.retM2 (D := D) Try.results11 rfl rfl (by (repeat rw [look_cons, if_neg (by unfold mk0; omega)]); exact look_mark) (by repeat (first | exact Del.here _ | apply Del.there)) (fun w' hw => ?_)
    exact ⟨((_, _), (_, _)), rfl, hw.below0 (hF07.trans hF1), hw.ents0 (hF07.trans hF1).lo (by repeat' (first | exact Pick.nil _ | exact Del.here _ | apply Pick.cons | apply Del.there)), rfl, rfl⟩
end Go.Proofs.Ytfnedefgepjbpaa
namespace Go.HL
open Go
/-- The first instruction at an address. -/
def atP (l : List Ins) (a : UInt32) : Ins × Bool := if idxP (fun i : Ins => decide (i.addr = a)) 0 l < 0 then (zeroIns, false) else (l.getD (idxP (fun i : Ins => decide (i.addr = a)) 0 l).toNat default, true)
end Go.HL
namespace Go.HL
open Go Go.RowKit
section
variable {P : Program} {ops : Array Oper} {Q : Exit → Act → World → Prop} {N : Nat} {F : Bg} {L : List Ent} {M : Fr} {ty : TypeId} {pos : String} {after : Array Edge} {rest : List Oper} {d : Nat} {dst : Option Tmp} {g : Option (Nat × Bool)}
def redrew (w w' : World) : World := { w' with drawn := max w.drawn w'.drawn }
theorem ext_redrew {w w' : World} (h : Below w.heap.size w w') : Ext w (redrew w w') := ⟨⟨h.os, h.tape, h.output, h.size, h.block⟩, Nat.le_max_left _ _⟩
theorem HpOK.redrew {w w' : World} (h : HpOK F L (HL.redrew w w')) (h0 : F.dr = 0) : HpOK F L w' := ⟨h.os, h.tape, h.out, h.n, by rw [h0]; exact Nat.zero_le _, h.bg, h.ent, h.nodup, h.lt, h.sep⟩
theorem HpOK.grow0 {w w' : World} (h : HpOK F L w) (hb : Below w.heap.size w w') (h0 : F.dr = 0) : HpOK F L w' := (h.grow (ext_redrew hb)).redrew h0
theorem QS.call0 {f : FuncId} {xs : List Operand} {vs : List Value} {ts : Array TypeId} {v : Value} (h0 : F.dr = 0) (hx : opvs M xs = some vs)
    (he : ∀ (args : Array Value) (w : World), (callFunc f args).run P w = .ok (.enter f args) w)
    (hc : ∀ w, HpOK F L w → Calls P f vs.toArray w fun e w' => e = .returned v ∧ Below w.heap.size w w') :
    QS P N F L M ⟨dst, .call { callee := .value (.func f), args := xs.toArray, argTypes := ts }, ty, pos, after, g⟩ v := by
  intro a w ha hw
  have hr : (execOp a.eval ⟨dst, .call { callee := .value (.func f), args := xs.toArray, argTypes := ts }, ty, pos, after, g⟩).run P w = .ok (.enter f vs.toArray) w := by
    have := ha.evals hx
    simp [execOp, resolve, Deferred.ofValue, Act.eval, invoke, he, this]
  unfold Oper.quietAt
  rw [hr]
  exact ⟨rfl, (hc w hw).mono fun e w' ⟨h1, h2⟩ => ⟨h1, hw.grow0 h2 h0⟩⟩
theorem Tr.callEnts0 {ι : Type} (φ : ι → Value) (Ls : ι → List Ent) {ok : ι → Prop} {f : FuncId} {xs : List Operand} {vs : List Value} {ts : Array TypeId} (h0 : F.dr = 0) (hx : opvs M xs = some vs)
    (he : ∀ (args : Array Value) (w : World), (callFunc f args).run P w = .ok (.enter f args) w)
    (hc : ∀ w, HpOK F L w → Calls P f vs.toArray w fun e w' => ∃ i, e = .returned (φ i) ∧ Below w.heap.size w w' ∧ NewEnts w w' (Ls i) ∧ ok i) (hd : Nat.ble (d + 1) N = true)
    (K : ∀ i, ok i → Tr N F (Ls i ++ L) ((d, φ i) :: M) (wpList P ops Q rest)) :
    Tr N F L M (wpList P ops Q (⟨some d, .call { callee := .value (.func f), args := xs.toArray, argTypes := ts }, ty, pos, after, none⟩ :: rest)) := by
  intro a w ha hw
  refine wpList_plain rfl fun K' hK => ?_
  have hr : (execOp a.eval ⟨some d, .call { callee := .value (.func f), args := xs.toArray, argTypes := ts }, ty, pos, after, none⟩).run P w = .ok (.enter f vs.toArray) w := by
    have := ha.evals hx
    simp [execOp, resolve, Deferred.ofValue, Act.eval, invoke, he, this]
  unfold Oper.wp
  rw [hr]
  refine (hc w hw).mono fun e w' ⟨i, h1, h2, h3, h4⟩ => ?_
  subst h1
  have hn : NewEnts w (redrew w w') (Ls i) := ⟨h3.ent, h3.nodup, h3.lt, h3.ge⟩
  exact hK _ _ (K i h4 _ _ (ha.put (Nat.le_of_ble_eq_true hd)) ((hw.newEnts (ext_redrew h2) hn).redrew h0))
end
end Go.HL
namespace Go.Proofs.Ytfnedefgepjbpaa
open Go Go.HL Go.RowKit
set_option maxRecDepth 100000 in
set_option maxHeartbeats 2000000 in
theorem indexFunc_ins (l : List Ins) (V : Value) (g : FuncId) (cb : List Value) (w : World) (hV : Sl (hp w) encIns l V) (eg : ∀ args w, (callFunc g args).run Try.prog w = .ok (.enter g args) w) (p : Ins → Bool) (hp : ∀ x, x ∈ l → ∀ w', Ext w w' → Calls Try.prog g ([Value.agg (encIns.enc x).toArray] ++ cb).toArray w' fun e w'' => e = .returned (.bool (p x)) ∧ Ext w' w'') :
    Calls Try.prog 36 #[V, .func (.func g) #[] cb.toArray] w (fun e w' => e = .returned (.int .i64 (idxP p 0 l)) ∧ Ext w w') := by
  have hV' : Sl (Bg.of w).blk encIns l V := hV
  have hlen := hV.len_le
  refine enter Try.func36 rfl Try.ntmps36 rfl ?_
  refine Tr.seq ?_
  refine Tr.region ?_
  refine Tr.q (QS.assign rfl) rfl ?_
  refine Tr.nil ?_
  refine Tr.thenN ?_
  refine Tr.seq ?_
  refine Tr.seq ?_
  refine Tr.region ?_
  refine Tr.q (QS.move rfl) rfl ?_
  refine Tr.q (QS.len rfl (by assumption) Try.underlying26) rfl ?_
  refine Tr.q (QS.move rfl) rfl ?_
  refine Tr.nil ?_
  refine Tr.thenN ?_
  refine Tr.block ?_
  refine Tr.loop (ι := Nat) (fun k => k ≤ l.length ∧ idxP p k (l.drop k) = idxP p 0 l) (fun _ => _) (fun k => []) (fun k => [(8, .int .i64 (k : Nat))]) (fun k => l.length - k) 0 ⟨Nat.zero_le _, rfl⟩ (.cons (by first | rfl | exact lookI rfl (by omega) | exact lookI rfl (by simp) | exact lookB rfl (by simp)) Front.nil) (by repeat' (first | exact Pick.nil _ | exact Del.here _ | apply Pick.cons | apply Del.there)) rfl (fun k hi m hm => ?_)
  replace hi : k ≤ l.length ∧ idxP p k (l.drop k) = idxP p 0 l := hi
  replace hm : m = l.length - k := hm
  change Tr _ _ [] ([(8, .int .i64 (k : Nat))] ++ _) _
  obtain ⟨hk1, hk2⟩ := hi
  refine Tr.seq ?_
  refine Tr.region ?_
  refine Tr.q (QS.lss rfl rfl) rfl ?_
  refine Tr.nil ?_
  refine Tr.thenN ?_
  refine Tr.seq ?_
  refine Tr.cond rfl (fun h1 => ?_) (fun h1 => ?_)
  · try simp only [bs] at h1
    refine Tr.skip ?_
    refine Tr.thenN ?_
    refine Tr.seq ?_
    refine Tr.block ?_
    refine Tr.seq ?_
    refine Tr.region ?_
    refine Tr.q (QS.move rfl) rfl ?_
    refine Tr.q (QS.assign rfl) rfl ?_
    refine Tr.nil ?_
    refine Tr.thenN ?_
    refine Tr.seq ?_
    refine Tr.region ?_
    refine Tr.q (QS.move rfl) rfl ?_
    refine Tr.q (QS.move rfl) rfl ?_
    refine Tr.q (QS.move rfl) rfl ?_
    refine Tr.q (QS.idxN rfl rfl (by assumption) Try.underlying26 Try.sizeOf36 (by rfl) (by omega)) rfl ?_
    refine Tr.q (QS.elA rfl (by assumption) Try.isAgg36 Try.sizeOf36 (by rfl) (by omega)) rfl ?_
    refine Tr.q (QS.callV rfl rfl eg (fun w hw => hp _ (mem_getD (by omega)) w (hw.below (Bg.le.refl _)))) rfl ?_
    refine Tr.nil ?_
    refine Tr.thenN ?_
    refine Tr.cond rfl (fun h2 => ?_) (fun h2 => ?_)
    · try simp only [bs] at h2
      refine Tr.seq ?_
      refine Tr.region ?_
      refine Tr.q (QS.move rfl) rfl ?_
      refine Tr.q (QS.assign rfl) rfl ?_
      refine Tr.nil ?_
      refine Tr.thenN ?_
      refine Tr.ret ?_
      refine Tr.inR ?_
      refine Tr.thenR ?_
      refine Tr.thenR ?_
      refine Tr.inR ?_
      refine Tr.thenR ?_
      refine Tr.ret1 Try.results36 rfl (fun w' hw => ?_)
      exact ⟨by rw [← hk2, drop_cons (k := k) (by omega), idxP, if_pos (by assumption)], hw.below (Bg.le.refl _)⟩
    · try simp only [bs] at h2
      refine Tr.skip ?_
      refine Tr.inN ?_
      refine Tr.thenN ?_
      refine Tr.region ?_
      refine Tr.q (QS.addI rfl rfl (by omega)) rfl ?_
      refine Tr.q (QS.move rfl) rfl ?_
      refine Tr.nil ?_
      refine Tr.thenN ?_
      apply Tr.again (k + 1)
      · exact rfl
      · exact (.cons (by first | rfl | exact lookI rfl (by omega) | exact lookI rfl (by simp) | exact lookB rfl (by simp)) Front.nil)
      · exact SubX.dropN 12 (by kernel_rfl) rfl
      · exact (by repeat' (first | exact Pick.nil _ | exact Del.here _ | apply Pick.cons | apply Del.there))
      · exact ⟨by omega, by rw [← hk2, drop_cons (k := k) (by omega), idxP, if_neg (by simp_all)]⟩
      · exact (by (try dsimp only); omega)
  · try simp only [bs] at h1
    refine Tr.exit ?_
    refine Tr.thenE ?_
    refine Tr.thenE ?_
    refine Tr.inHit ?_
    refine Tr.thenN ?_
    refine Tr.seq ?_
    refine Tr.region ?_
    refine Tr.q (QS.assign rfl) rfl ?_
    refine Tr.nil ?_
    refine Tr.thenN ?_
    refine Tr.ret ?_
    refine Tr.ret1 Try.results36 rfl (fun w' hw => ?_)
    exact ⟨by rw [← hk2, List.drop_of_length_le (by omega)]; rfl, hw.below (Bg.le.refl _)⟩
set_option maxRecDepth 100000 in
set_option maxHeartbeats 2000000 in
theorem at1_any (i : Ins) (a : UInt32) (b : Nat) (w : World) (hc : Cell (hp w) b 0 (.int .u32 a.toNat)) :
    Calls Try.prog 37 #[.agg (encIns.enc i).toArray, .pointer (some ⟨b, 0, none⟩)] w (fun e w' => e = .returned (.bool (decide (i.addr = a))) ∧ Ext w w') := by
  have hc' : Cell (Bg.of w).blk b 0 (.int .u32 a.toNat) := hc
  refine enter Try.func37 rfl Try.ntmps37 rfl ?_
  refine Tr.seq ?_
  refine Tr.region ?_
  refine Tr.box rfl rfl rfl (fun b1 => ?_)
  refine Tr.q (QS.assign rfl) rfl ?_
  refine Tr.nil ?_
  refine Tr.thenN ?_
  refine Tr.seq ?_
  refine Tr.region ?_
  refine Tr.q (QS.fieldAddr (off := 0) (ft := 23) rfl Try.underlying36 rfl rfl Try.sizeOf23 (by decide)) rfl ?_
  refine Tr.q (QS.lV rfl Try.isAgg23) rfl ?_
  refine Tr.q (QS.loadC rfl (by assumption) Try.isAgg23) rfl ?_
  refine Tr.q (QS.eql32 rfl rfl) rfl ?_
  refine Tr.q (QS.assign rfl) rfl ?_
  refine Tr.nil ?_
  refine Tr.thenN ?_
  refine Tr.ret ?_
  refine Tr.ret1 Try.results37 rfl (fun w' hw => ?_)
  exact ⟨rfl, hw.below (Bg.le.refl _)⟩
set_option maxRecDepth 100000 in
set_option maxHeartbeats 2000000 in
theorem at_any (l : List Ins) (V : Value) (a : UInt32) (w : World) (hV : Sl (hp w) encIns l V) :
    Calls Try.prog 14 #[V, .int .u32 a.toNat] w (fun e w' => e = .returned (.tuple #[.agg (encIns.enc (atP l a).1).toArray, .bool (atP l a).2]) ∧ Ext w w') := by
  have hV' : Sl (Bg.of w).blk encIns l V := hV
  have hlen := hV.len_le
  have hb := idxP_bound (fun i : Ins => decide (i.addr = a)) l 0
  refine enter Try.func14 rfl Try.ntmps14 rfl ?_
  refine Tr.seq ?_
  refine Tr.region ?_
  refine Tr.box rfl rfl rfl (fun b1 => ?_)
  refine Tr.alloc Try.zeroValue36 rfl rfl (fun b2 => ?_)
  refine Tr.q (QS.assign rfl) rfl ?_
  refine Tr.nil ?_
  refine Tr.thenN ?_
  refine Tr.seq ?_
  refine Tr.region ?_
  refine Tr.q (QS.move rfl) rfl ?_
  refine Tr.q (QS.makeFunc rfl rfl) rfl ?_
  refine Tr.q (QS.call rfl Try.call36 (fun w hw => indexFunc_ins l V _ _ w (hw.slF hV) Try.call37 (fun i => decide (i.addr = a)) (fun x hx w'' h => at1_any x a _ w'' (cellE.cell (hw.ent _ (by repeat (first | exact List.Mem.head _ | apply List.Mem.tail))) h rfl)))) rfl ?_
  refine Tr.q (QS.assign rfl) rfl ?_
  refine Tr.nil ?_
  refine Tr.thenN ?_
  refine Tr.seq ?_
  refine Tr.seq ?_
  refine Tr.region ?_
  refine Tr.q (QS.move rfl) rfl ?_
  refine Tr.q (QS.lss rfl rfl) rfl ?_
  refine Tr.nil ?_
  refine Tr.thenN ?_
  refine Tr.cond rfl (fun h3 => ?_) (fun h3 => ?_)
  · try simp only [bs] at h3
    refine Tr.seq ?_
    refine Tr.region ?_
    refine Tr.q (QS.build (vs := []) rfl rfl (HLF.built36)) rfl ?_
    refine Tr.storeW rfl rfl Try.sizeOf36 (by repeat (first | exact Put.here _ | apply Put.there)) (by rfl) (by rfl) (by first | exact List.all_eq_true.1 rfl | exact Enc.one _ _ | exact Enc.one encIns _) rfl ?_
    refine Tr.q (QS.assign rfl) rfl ?_
    refine Tr.nil ?_
    refine Tr.thenN ?_
    refine Tr.ret ?_
    refine Tr.thenR ?_
    refine Tr.retC2 Try.results14 rfl rfl (by repeat (first | exact List.Mem.head _ | apply List.Mem.tail)) Try.isAgg36 Try.sizeOf36 (by rfl) (fun w' hw => ?_)
    exact ⟨by rw [atP, if_pos (by assumption)]; rfl, hw.below (Bg.le.refl _)⟩
  · try simp only [bs] at h3
    refine Tr.skip ?_
    refine Tr.thenN ?_
    refine Tr.seq ?_
    refine Tr.region ?_
    refine Tr.q (QS.move rfl) rfl ?_
    refine Tr.q (QS.move rfl) rfl ?_
    refine Tr.q (QS.idx rfl rfl (by assumption) Try.underlying26 Try.sizeOf36 (by rfl) (by omega)) rfl ?_
    refine Tr.q (QS.elA rfl (by assumption) Try.isAgg36 Try.sizeOf36 (by rfl) (by omega)) rfl ?_
    refine Tr.storeW rfl rfl Try.sizeOf36 (by repeat (first | exact Put.here _ | apply Put.there)) (by rfl) (by rfl) (by first | exact List.all_eq_true.1 rfl | exact Enc.one _ _ | exact Enc.one encIns _) rfl ?_
    refine Tr.q (QS.assign rfl) rfl ?_
    refine Tr.nil ?_
    refine Tr.thenN ?_
    refine Tr.ret ?_
    refine Tr.retC2 Try.results14 rfl rfl (by repeat (first | exact List.Mem.head _ | apply List.Mem.tail)) Try.isAgg36 Try.sizeOf36 (by rfl) (fun w' hw => ?_)
    exact ⟨by rw [atP, if_neg (by assumption)]; rfl, hw.below (Bg.le.refl _)⟩
def ex11 (pa : Option Addr) (pc : Nat) : SecV := ⟨⟨#[116]⟩, 4096, [0, 255, 1], pa, pc, false, true⟩
def ex11a : Ins := (decP [0, 255, 1] 4096).1
def ex11b : Ins := (decP [1] 4098).1
theorem ex11B (pa : Option Addr) (pc : Nat) : SecB [ex11 pa pc] := ⟨by simp, fun s hs => by simp only [List.mem_singleton] at hs; subst hs; show (3 : Nat) ≤ 200000; decide⟩
theorem ex11_pos (pa : Option Addr) (pc : Nat) : posP [ex11 pa pc] 4096 4099 = [4096, 4097, 4098] := by kernel_rfl
theorem ex11_found (pa : Option Addr) (pc : Nat) : foundP [ex11 pa pc] 4099 [4096, 4097, 4098] = [ex11a, ex11b] := by kernel_rfl
theorem ex11_bad (pa : Option Addr) (pc : Nat) : normalP (badP [ex11 pa pc] 4099 [4096, 4097, 4098]) = [⟨4097, 4098⟩] := by kernel_rfl
set_option maxRecDepth 100000 in
set_option maxHeartbeats 8000000 in
theorem example11_any (w : World) :
    Calls Try.prog 10 #[] w (fun e w' => e = .returned (.bool true) ∧ Below w.heap.size w w') := by
  refine enter0 Try.func10 rfl Try.ntmps10 rfl ?_
  refine Tr.seq ?_
  refine Tr.region ?_
  refine Tr.q (QS.assign rfl) rfl ?_
  refine Tr.nil ?_
  refine Tr.thenN ?_
  refine Tr.seq ?_
  refine Tr.region ?_
  refine Tr.litN (E := encU8) ([0, 255, 1] : List UInt8) (vs := [(0, _), (1, _), (2, _)]) rfl rfl Try.underlying54 Try.sizeOf5 Try.zeroValue5 (by rfl) (by rfl) rfl (by first | kernel_rfl | rfl) rfl (fun V1 => ?_)
  refine Tr.rowShape (.head _) (fun pa pc hpv => ?_)
  subst hpv
  refine Tr.frozen (.here _) (fun F1 hF1 hD1 => ?_)
  refine Tr.q (QS.build (vs := [(0, _), (1, _), (2, _), (4, _)]) rfl rfl rfl) rfl ?_
  refine Tr.lit1 (E := encSec) (ex11 pa pc) rfl rfl Try.underlying22 Try.sizeOf59 Try.zeroValue59 (by rfl) (by rfl) rfl (fun V2 => ?_)
  refine Tr.frozen (.here _) (fun F2 hF2 hS => ?_)
  replace hD1 := hD1.mono hF2.blk
  refine Tr.q (QS.assign rfl) rfl ?_
  refine Tr.nil ?_
  refine Tr.thenN ?_
  refine Tr.seq ?_
  refine Tr.region ?_
  refine Tr.q (QS.move rfl) rfl ?_
  refine Tr.callEnts0 (fun i : (Value × List Ins) × (Value × List Rng) => .tuple #[i.1.1, i.2.1]) (fun i => [rowE i.1.1 36 encIns i.1.2, rowE i.2.1 61 encRng i.2.2]) (ok := fun i => i.1.2 = [ex11a, ex11b] ∧ i.2.2 = [⟨4097, 4098⟩]) (hF1.trans hF2).dr rfl Try.call11 (fun w hw => (sweep_any [ex11 pa pc] _ 4096 4099 w (hw.slF hS) (ex11B pa pc) (fun s hs => by simp only [List.mem_singleton] at hs; subst hs; exact hw.slF hD1) (by rw [ex11_pos]; decide)).mono fun e w' ⟨i, q1, q2, q3, q4, q5⟩ => ⟨i, q1, q2, q3, by rw [q4, ex11_pos, ex11_found], by rw [q5, ex11_pos, ex11_bad]⟩) rfl (fun i hi => ?_)
  refine Tr.q (QS.move rfl) rfl ?_
  refine Tr.q (QS.extract rfl rfl) rfl ?_
  refine Tr.q (QS.extract rfl rfl) rfl ?_
  refine Tr.q (QS.assign rfl) rfl ?_
  refine Tr.q (QS.assign rfl) rfl ?_
  refine Tr.nil ?_
  refine Tr.thenN ?_
  refine Tr.seq ?_
  obtain ⟨⟨Va, fs⟩, ⟨Vb, rs⟩⟩ := i
  obtain ⟨h1, h2⟩ := hi
  replace h1 : fs = [ex11a, ex11b] := h1
  replace h2 : rs = [⟨4097, 4098⟩] := h2
  subst h1 h2
  change Tr _ _ [rowE Va 36 encIns [ex11a, ex11b], rowE Vb 61 encRng [⟨4097, 4098⟩]] _ _
  refine Tr.region ?_
  refine Tr.q (QS.move rfl) rfl ?_
  refine Tr.q (QS.lenRow rfl (by repeat (first | exact List.Mem.head _ | apply List.Mem.tail)) Try.underlying26) rfl ?_
  refine Tr.q (QS.eql rfl rfl) rfl ?_
  refine Tr.q (QS.move rfl) rfl ?_
  apply Tr.andP
  · exact (rfl : _ = (6, 15, 21))
  · exact rfl
  · intro hT3; have hT3' := hT3
    try simp only [bs] at hT3'
    refine Tr.gq rfl rfl hT3 (QS.move rfl) rfl ?_
    refine Tr.gq rfl rfl hT3 (QS.idxRow rfl rfl (by repeat (first | exact List.Mem.head _ | apply List.Mem.tail)) Try.underlying26 Try.sizeOf36 (by rfl) (by omega)) rfl ?_
    refine Tr.gq rfl rfl hT3 (QS.fieldAddr (off := 2) (ft := 3) rfl Try.underlying36 rfl rfl Try.sizeOf3 (by decide)) rfl ?_
    refine Tr.gq rfl rfl hT3 (QS.elRF rfl (by repeat (first | exact List.Mem.head _ | apply List.Mem.tail)) Try.isAgg3 (by omega) (by rfl)) rfl ?_
    refine Tr.gq rfl rfl hT3 (QS.eql rfl rfl) rfl ?_
    refine Tr.q (QS.pickT rfl hT3 rfl) rfl ?_
    refine Tr.nil (Tr.thenN ?_)
    exact Tr.endX (Sub.cons rfl (Sub.dropN 6 (by kernel_rfl) rfl))
  · intro hF3
    refine Tr.gskip rfl rfl hF3 rfl ?_
    refine Tr.gskip rfl rfl hF3 rfl ?_
    refine Tr.gskip rfl rfl hF3 rfl ?_
    refine Tr.gskip rfl rfl hF3 rfl ?_
    refine Tr.gskip rfl rfl hF3 rfl ?_
    refine Tr.q (QS.pickF rfl hF3 rfl) rfl ?_
    refine Tr.nil (Tr.thenN ?_)
    exact Tr.endX (Sub.cons rfl (Sub.dropN 6 (by kernel_rfl) rfl))
  refine Tr.q (QS.move rfl) rfl ?_
  apply Tr.andP
  · exact (rfl : _ = (6, 22, 28))
  · exact rfl
  · intro hT4; have hT4' := hT4
    try simp only [bs] at hT4'
    refine Tr.gq rfl rfl hT4 (QS.move rfl) rfl ?_
    refine Tr.gq rfl rfl hT4 (QS.idxRow rfl rfl (by repeat (first | exact List.Mem.head _ | apply List.Mem.tail)) Try.underlying26 Try.sizeOf36 (by rfl) (by omega)) rfl ?_
    refine Tr.gq rfl rfl hT4 (QS.fieldAddr (off := 0) (ft := 23) rfl Try.underlying36 rfl rfl Try.sizeOf23 (by decide)) rfl ?_
    refine Tr.gq rfl rfl hT4 (QS.elRF rfl (by repeat (first | exact List.Mem.head _ | apply List.Mem.tail)) Try.isAgg23 (by omega) (by rfl)) rfl ?_
    refine Tr.gq rfl rfl hT4 (QS.eql32 (n := 4098) rfl rfl) rfl ?_
    refine Tr.q (QS.pickT rfl hT4 rfl) rfl ?_
    refine Tr.nil (Tr.thenN ?_)
    exact Tr.endX (Sub.cons rfl (Sub.dropN 6 (by kernel_rfl) rfl))
  · intro hF4
    refine Tr.gskip rfl rfl hF4 rfl ?_
    refine Tr.gskip rfl rfl hF4 rfl ?_
    refine Tr.gskip rfl rfl hF4 rfl ?_
    refine Tr.gskip rfl rfl hF4 rfl ?_
    refine Tr.gskip rfl rfl hF4 rfl ?_
    refine Tr.q (QS.pickF rfl hF4 rfl) rfl ?_
    refine Tr.nil (Tr.thenN ?_)
    exact Tr.endX (Sub.cons rfl (Sub.dropN 6 (by kernel_rfl) rfl))
  refine Tr.q (QS.move rfl) rfl ?_
  apply Tr.andP
  · exact (rfl : _ = (6, 29, 35))
  · exact rfl
  · intro hT5; have hT5' := hT5
    try simp only [bs] at hT5'
    refine Tr.gq rfl rfl hT5 (QS.move rfl) rfl ?_
    refine Tr.gq rfl rfl hT5 (QS.idxRow rfl rfl (by repeat (first | exact List.Mem.head _ | apply List.Mem.tail)) Try.underlying26 Try.sizeOf36 (by rfl) (by omega)) rfl ?_
    refine Tr.gq rfl rfl hT5 (QS.fieldAddr (off := 2) (ft := 3) rfl Try.underlying36 rfl rfl Try.sizeOf3 (by decide)) rfl ?_
    refine Tr.gq rfl rfl hT5 (QS.elRF rfl (by repeat (first | exact List.Mem.head _ | apply List.Mem.tail)) Try.isAgg3 (by omega) (by rfl)) rfl ?_
    refine Tr.gq rfl rfl hT5 (QS.eql rfl rfl) rfl ?_
    refine Tr.q (QS.pickT rfl hT5 rfl) rfl ?_
    refine Tr.nil (Tr.thenN ?_)
    exact Tr.endX (Sub.cons rfl (Sub.dropN 6 (by kernel_rfl) rfl))
  · intro hF5
    refine Tr.gskip rfl rfl hF5 rfl ?_
    refine Tr.gskip rfl rfl hF5 rfl ?_
    refine Tr.gskip rfl rfl hF5 rfl ?_
    refine Tr.gskip rfl rfl hF5 rfl ?_
    refine Tr.gskip rfl rfl hF5 rfl ?_
    refine Tr.q (QS.pickF rfl hF5 rfl) rfl ?_
    refine Tr.nil (Tr.thenN ?_)
    exact Tr.endX (Sub.cons rfl (Sub.dropN 6 (by kernel_rfl) rfl))
  refine Tr.q (QS.move rfl) rfl ?_
  apply Tr.andP
  · exact (rfl : _ = (4, 36, 40))
  · exact rfl
  · intro hT6; have hT6' := hT6
    try simp only [bs] at hT6'
    refine Tr.gq rfl rfl hT6 (QS.move rfl) rfl ?_
    refine Tr.gq rfl rfl hT6 (QS.lenRow rfl (by repeat (first | exact List.Mem.head _ | apply List.Mem.tail)) Try.underlying27) rfl ?_
    refine Tr.gq rfl rfl hT6 (QS.eql rfl rfl) rfl ?_
    refine Tr.q (QS.pickT rfl hT6 rfl) rfl ?_
    refine Tr.nil (Tr.thenN ?_)
    exact Tr.endX (Sub.cons rfl (Sub.dropN 4 (by kernel_rfl) rfl))
  · intro hF6
    refine Tr.gskip rfl rfl hF6 rfl ?_
    refine Tr.gskip rfl rfl hF6 rfl ?_
    refine Tr.gskip rfl rfl hF6 rfl ?_
    refine Tr.q (QS.pickF rfl hF6 rfl) rfl ?_
    refine Tr.nil (Tr.thenN ?_)
    exact Tr.endX (Sub.cons rfl (Sub.dropN 4 (by kernel_rfl) rfl))
  refine Tr.q (QS.move rfl) rfl ?_
  apply Tr.andP
  · exact (rfl : _ = (6, 41, 47))
  · exact rfl
  · intro hT7; have hT7' := hT7
    try simp only [bs] at hT7'
    refine Tr.gq rfl rfl hT7 (QS.move rfl) rfl ?_
    refine Tr.gq rfl rfl hT7 (QS.idxRow rfl rfl (by repeat (first | exact List.Mem.head _ | apply List.Mem.tail)) Try.underlying27 Try.sizeOf61 (by rfl) (by omega)) rfl ?_
    refine Tr.gq rfl rfl hT7 (QS.fieldAddr (off := 0) (ft := 23) rfl Try.underlying61 rfl rfl Try.sizeOf23 (by decide)) rfl ?_
    refine Tr.gq rfl rfl hT7 (QS.elRF rfl (by repeat (first | exact List.Mem.head _ | apply List.Mem.tail)) Try.isAgg23 (by omega) (by rfl)) rfl ?_
    refine Tr.gq rfl rfl hT7 (QS.eql32 (n := 4097) rfl rfl) rfl ?_
    refine Tr.q (QS.pickT rfl hT7 rfl) rfl ?_
    refine Tr.nil (Tr.thenN ?_)
    exact Tr.endX (Sub.cons rfl (Sub.dropN 6 (by kernel_rfl) rfl))
  · intro hF7
    refine Tr.gskip rfl rfl hF7 rfl ?_
    refine Tr.gskip rfl rfl hF7 rfl ?_
    refine Tr.gskip rfl rfl hF7 rfl ?_
    refine Tr.gskip rfl rfl hF7 rfl ?_
    refine Tr.gskip rfl rfl hF7 rfl ?_
    refine Tr.q (QS.pickF rfl hF7 rfl) rfl ?_
    refine Tr.nil (Tr.thenN ?_)
    exact Tr.endX (Sub.cons rfl (Sub.dropN 6 (by kernel_rfl) rfl))
  refine Tr.q (QS.move rfl) rfl ?_
  apply Tr.andP
  · exact (rfl : _ = (6, 48, 54))
  · exact rfl
  · intro hT8; have hT8' := hT8
    try simp only [bs] at hT8'
    refine Tr.gq rfl rfl hT8 (QS.move rfl) rfl ?_
    refine Tr.gq rfl rfl hT8 (QS.idxRow rfl rfl (by repeat (first | exact List.Mem.head _ | apply List.Mem.tail)) Try.underlying27 Try.sizeOf61 (by rfl) (by omega)) rfl ?_
    refine Tr.gq rfl rfl hT8 (QS.fieldAddr (off := 1) (ft := 23) rfl Try.underlying61 rfl rfl Try.sizeOf23 (by decide)) rfl ?_
    refine Tr.gq rfl rfl hT8 (QS.elRF rfl (by repeat (first | exact List.Mem.head _ | apply List.Mem.tail)) Try.isAgg23 (by omega) (by rfl)) rfl ?_
    refine Tr.gq rfl rfl hT8 (QS.eql32 (n := 4098) rfl rfl) rfl ?_
    refine Tr.q (QS.pickT rfl hT8 rfl) rfl ?_
    refine Tr.nil (Tr.thenN ?_)
    exact Tr.endX (Sub.cons rfl (Sub.dropN 6 (by kernel_rfl) rfl))
  · intro hF8
    refine Tr.gskip rfl rfl hF8 rfl ?_
    refine Tr.gskip rfl rfl hF8 rfl ?_
    refine Tr.gskip rfl rfl hF8 rfl ?_
    refine Tr.gskip rfl rfl hF8 rfl ?_
    refine Tr.gskip rfl rfl hF8 rfl ?_
    refine Tr.q (QS.pickF rfl hF8 rfl) rfl ?_
    refine Tr.nil (Tr.thenN ?_)
    exact Tr.endX (Sub.cons rfl (Sub.dropN 6 (by kernel_rfl) rfl))
  refine Tr.q (QS.assign rfl) rfl ?_
  refine Tr.nil ?_
  refine Tr.thenN ?_
  refine Tr.ret ?_
  refine Tr.ret1 Try.results10 rfl (fun w' hw => ?_)
  exact ⟨by rfl, hw.below0 (hF1.trans hF2)⟩
end Go.Proofs.Ytfnedefgepjbpaa
namespace Go.HL
open Go
theorem nxt_spec : ∀ {rs : List Rng} {a : UInt32}, Norm rs →
    (∀ b, nxtP rs a = some b → Has rs b.toNat ∧ a.toNat ≤ b.toNat ∧ ∀ n, a.toNat ≤ n → Has rs n → b.toNat ≤ n) ∧ (nxtP rs a = none → ∀ n, a.toNat ≤ n → ¬ Has rs n)
  | [], a, _ => ⟨fun b h => by simp [nxtP] at h, fun _ n _ ⟨r, hr, _⟩ => by cases hr⟩
  | r :: t, a, hn => by
    have h1 := List.pairwise_cons.1 hn.1
    have hr := hn.2 r (.head _)
    have ht : Norm t := ⟨h1.2, fun x hx => hn.2 x (.tail _ hx)⟩
    obtain ⟨k1, k2⟩ := nxt_spec (a := a) ht
    unfold nxtP
    by_cases c : a < r.hi
    · rw [if_pos c]
      rw [UInt32.lt_iff_toNat_lt] at c
      refine ⟨fun b h => ?_, fun h => by cases h⟩
      cases h
      have hb : (if a < r.lo then r.lo else a).toNat = max a.toNat r.lo.toNat := by
        split
        · rename_i q; rw [UInt32.lt_iff_toNat_lt] at q; omega
        · rename_i q; rw [UInt32.lt_iff_toNat_lt] at q; omega
      rw [hb]
      refine ⟨⟨r, .head _, by omega, by omega⟩, by omega, fun n h2 ⟨x, hx, q1, q2⟩ => ?_⟩
      rcases List.mem_cons.1 hx with rfl | hx
      · omega
      · have := h1.1 x hx; omega
    · rw [if_neg c]
      rw [UInt32.lt_iff_toNat_lt] at c
      refine ⟨fun b h => ?_, fun h n h2 ⟨x, hx, q1, q2⟩ => ?_⟩
      · obtain ⟨⟨x, hx, q1, q2⟩, q3, q4⟩ := k1 b h
        refine ⟨⟨x, .tail _ hx, q1, q2⟩, q3, fun n h2 ⟨y, hy, p1, p2⟩ => ?_⟩
        rcases List.mem_cons.1 hy with rfl | hy
        · omega
        · exact q4 n h2 ⟨y, hy, p1, p2⟩
      · rcases List.mem_cons.1 hx with rfl | hx
        · omega
        · exact k2 h n h2 ⟨x, hx, q1, q2⟩
end Go.HL
namespace Go.HL
open Go
theorem inc_len : ∀ (ps : List Nat) (lo hi : Nat), ps.Pairwise (· < ·) → (∀ p ∈ ps, lo ≤ p ∧ p < hi) → ps.length ≤ hi - lo
  | [], _, _, _, _ => Nat.zero_le _
  | x :: t, lo, hi, h, hb => by
    have h1 := List.pairwise_cons.1 h
    have := inc_len t (x + 1) hi h1.2 (fun p hp => ⟨h1.1 p hp, (hb p (.tail _ hp)).2⟩)
    have := hb x (.head _)
    simp only [List.length_cons]; omega
theorem filter_two (p : Nat → Bool) : ∀ l : List Nat, (l.filter p).length + (l.filter fun x => !p x).length = l.length
  | [] => rfl
  | x :: t => by
    have := filter_two p t
    cases h : p x <;> simp [List.filter_cons, h] <;> omega
def totB (l : List SecV) : Nat := (l.map fun s => s.data.length).sum
theorem cov_len : ∀ (l : List SecV) (ps : List Nat), ps.Pairwise (· < ·) → (∀ p ∈ ps, ∃ s ∈ l, s.addr.toNat ≤ p ∧ (p : Int) < endP s) → ps.length ≤ totB l
  | [], ps, _, h => by
    cases ps with
    | nil => exact Nat.zero_le _
    | cons p t => obtain ⟨s, hs, _⟩ := h p (.head _); cases hs
  | s :: l, ps, hi, h => by
    have h1 := filter_two (fun p => decide (s.addr.toNat ≤ p ∧ (p : Int) < endP s)) ps
    have h2 := inc_len (ps.filter fun p => decide (s.addr.toNat ≤ p ∧ (p : Int) < endP s)) s.addr.toNat (endP s).toNat (hi.filter _) (fun p hp => by
      have := of_decide_eq_true (List.mem_filter.1 hp).2
      omega)
    have h3 := cov_len l (ps.filter fun p => !decide (s.addr.toNat ≤ p ∧ (p : Int) < endP s)) (hi.filter _) (fun p hp => by
      obtain ⟨q1, q2⟩ := List.mem_filter.1 hp
      obtain ⟨x, hx, q3⟩ := h p q1
      rcases List.mem_cons.1 hx with rfl | hx
      · simp [q3] at q2
      · exact ⟨x, hx, q3⟩)
    have he : endP s ≤ (s.addr.toNat : Int) + s.data.length := by unfold endP; omega
    have ht : totB (s :: l) = s.data.length + totB l := by simp [totB]
    rw [ht]; omega
theorem posF_spec {l : List SecV} {rs : List Rng} {to_ : UInt32} (hn : Norm rs) : ∀ (f : Nat) (a : UInt32), ((posF l rs to_ f a).map UInt32.toNat).Pairwise (· < ·) ∧ ∀ p ∈ posF l rs to_ f a, a.toNat ≤ p.toNat ∧ Has rs p.toNat ∧ p < to_
  | 0, a => ⟨by simp [posF], fun p hp => by cases hp⟩
  | f + 1, a => by
    cases hq : nxtP rs a with
    | none => rw [posF_stop hq]; exact ⟨by simp, fun p hp => by cases hp⟩
    | some b =>
      by_cases hb : b < to_
      · rw [posF_go hq hb]
        obtain ⟨k1, k2⟩ := posF_spec hn f (b + szW l to_ b)
        obtain ⟨s1, s2⟩ := step_pos l to_ b hb
        obtain ⟨b1, b2, _⟩ := (nxt_spec (a := a) hn).1 b hq
        refine ⟨?_, fun p hp => ?_⟩
        · rw [List.map_cons, List.pairwise_cons]
          refine ⟨fun n hnm => ?_, k1⟩
          obtain ⟨p, hp, rfl⟩ := List.mem_map.1 hnm
          have := (k2 p hp).1
          omega
        · rcases List.mem_cons.1 hp with rfl | hp
          · exact ⟨b2, b1, hb⟩
          · obtain ⟨q1, q2, q3⟩ := k2 p hp
            exact ⟨by omega, q2, q3⟩
      · rw [posF_stop2 hq hb]; exact ⟨by simp, fun p hp => by cases hp⟩
theorem posP_len (l : List SecV) (from_ to_ : UInt32) : (posP l from_ to_).length ≤ totB l := by
  obtain ⟨hn, hh⟩ := normal_ok (l.map spaceP)
  obtain ⟨k1, k2⟩ := posF_spec (l := l) (to_ := to_) hn 4294967296 from_
  have := cov_len l ((posP l from_ to_).map UInt32.toNat) k1 (fun p hp => by
    obtain ⟨q, hq, rfl⟩ := List.mem_map.1 hp
    exact has_space.1 ((hh _).1 (k2 q hq).2.1))
  simpa using this
end Go.HL
namespace Go.HL
open Go
theorem has_find {l : List SecV} {b : UInt32} (h : Has (normalP (l.map spaceP)) b.toNat) : 0 ≤ findP l b := by
  have h1 := finds_ok l b
  obtain ⟨r, hr, q1, q2⟩ := h
  have h2 : (normalP (l.map spaceP)).any (inR b) = true := List.any_eq_true.2 ⟨r, hr, by
    simp only [inR, Bool.and_eq_true, decide_eq_true_eq, UInt32.le_iff_toNat_le, UInt32.lt_iff_toNat_lt]; exact ⟨q1, q2⟩⟩
  rw [h2] at h1
  exact of_decide_eq_true h1.symm
end Go.HL
namespace Go.HL
open Go
end Go.HL
namespace Go.HL
open Go
def larg11 (l : List SecV) : Bool := decide (20 < l.length) || decide (20000 < totB l)
theorem totB_succ {l : List SecV} {k : Nat} (h : k < l.length) : totB (l.take (k + 1)) = totB (l.take k) + (l.getD k default).data.length := by
  unfold totB
  rw [take_succ h, List.map_append, List.sum_append]; simp
theorem totB_take (l : List SecV) (k : Nat) : totB (l.take k) ≤ totB l := by
  have : totB l = totB (l.take k) + totB (l.drop k) := by
    unfold totB
    rw [← List.sum_append, ← List.map_append, List.take_append_drop]
  omega
theorem totB_mem {l : List SecV} {s : SecV} (h : s ∈ l) : s.data.length ≤ totB l := by
  induction l with
  | nil => cases h
  | cons x t ih =>
    have e : totB (x :: t) = x.data.length + totB t := by simp [totB]
    rcases List.mem_cons.1 h with rfl | h
    · omega
    · have := ih h; omega
theorem larg11_no {l : List SecV} (h : larg11 l = false) : SecB l ∧ totB l ≤ 20000 := by
  simp only [larg11, Bool.or_eq_false_iff, decide_eq_false_iff_not] at h
  exact ⟨⟨by omega, fun s hs => by have := totB_mem hs; omega⟩, by omega⟩
end Go.HL
namespace Go.Proofs.Ytfnedefgepjbpaa
open Go Go.HL Go.RowKit
set_option maxRecDepth 100000 in
set_option maxHeartbeats 2000000 in
theorem large11_any (l : List SecV) (V : Value) (w : World) (hV : Sl (hp w) encSec l V) (hz : ∀ s ∈ l, s.data.length ≤ 140737488351232) :
    Calls Try.prog 9 #[V] w (fun e w' => e = .returned (.bool (larg11 l)) ∧ Ext w w') := by
  have hV' : Sl (Bg.of w).blk encSec l V := hV
  have hlen := hV.len_le
  refine enter Try.func9 rfl Try.ntmps9 rfl ?_
  refine Tr.seq ?_
  refine Tr.region ?_
  refine Tr.q (QS.assign rfl) rfl ?_
  refine Tr.nil ?_
  refine Tr.thenN ?_
  refine Tr.seq ?_
  refine Tr.seq ?_
  refine Tr.region ?_
  refine Tr.q (QS.move rfl) rfl ?_
  refine Tr.q (QS.len rfl (by assumption) Try.underlying22) rfl ?_
  refine Tr.q (QS.gtr rfl rfl) rfl ?_
  refine Tr.nil ?_
  refine Tr.thenN ?_
  refine Tr.cond rfl (fun h1 => ?_) (fun h1 => ?_)
  · try simp only [bs] at h1
    refine Tr.seq ?_
    refine Tr.region ?_
    refine Tr.q (QS.assign rfl) rfl ?_
    refine Tr.nil ?_
    refine Tr.thenN ?_
    refine Tr.ret ?_
    refine Tr.thenR ?_
    refine Tr.ret1 Try.results9 rfl (fun w' hw => ?_)
    exact ⟨by rw [larg11, decide_eq_true (show 20 < l.length by omega)]; rfl, hw.below (Bg.le.refl _)⟩
  · try simp only [bs] at h1
    refine Tr.skip ?_
    refine Tr.thenN ?_
    refine Tr.seq ?_
    refine Tr.region ?_
    refine Tr.q (QS.assign rfl) rfl ?_
    refine Tr.nil ?_
    refine Tr.thenN ?_
    refine Tr.seq ?_
    refine Tr.seq ?_
    refine Tr.region ?_
    refine Tr.q (QS.assign rfl) rfl ?_
    refine Tr.nil ?_
    refine Tr.thenN ?_
    refine Tr.block ?_
    refine Tr.loop (ι := Nat) (fun k => k ≤ l.length ∧ totB (l.take k) ≤ 20000) (fun _ => _) (fun k => []) (fun k => [(4, .int .i64 (k : Nat)), (3, .int .i64 ((totB (l.take k) : Nat) : Int))]) (fun k => l.length - k) 0 ⟨Nat.zero_le _, by simp [totB]⟩ (.cons (by first | rfl | exact lookI rfl (by omega) | exact lookI rfl (by simp) | exact lookB rfl (by simp)) (.cons (by first | rfl | exact lookI rfl (by omega) | exact lookI rfl (by simp) | exact lookB rfl (by simp)) Front.nil)) (by repeat' (first | exact Pick.nil _ | exact Del.here _ | apply Pick.cons | apply Del.there)) rfl (fun k hi m hm => ?_)
    replace hi : k ≤ l.length ∧ totB (l.take k) ≤ 20000 := hi
    replace hm : m = l.length - k := hm
    change Tr _ _ [] ([(4, .int .i64 (k : Nat)), (3, .int .i64 ((totB (l.take k) : Nat) : Int))] ++ _) _
    obtain ⟨hk1, hk2⟩ := hi
    have hbk : k < l.length → (l.getD k default).data.length ≤ 140737488351232 := fun q => hz _ (mem_getD q)
    have hts : k < l.length → totB (l.take (k + 1)) = totB (l.take k) + (l.getD k default).data.length := fun q => totB_succ q
    have htk := totB_take l (k + 1)
    refine Tr.seq ?_
    refine Tr.seq ?_
    refine Tr.region ?_
    refine Tr.q (QS.move rfl) rfl ?_
    refine Tr.q (QS.move rfl) rfl ?_
    refine Tr.q (QS.len rfl (by assumption) Try.underlying22) rfl ?_
    refine Tr.q (QS.lss rfl rfl) rfl ?_
    refine Tr.nil ?_
    refine Tr.thenN ?_
    refine Tr.cond rfl (fun h2 => ?_) (fun h2 => ?_)
    · try simp only [bs] at h2
      refine Tr.skip ?_
      refine Tr.thenN ?_
      refine Tr.seq ?_
      refine Tr.block ?_
      refine Tr.seq ?_
      refine Tr.region ?_
      refine Tr.q (QS.move rfl) rfl ?_
      refine Tr.q (QS.move rfl) rfl ?_
      refine Tr.q (QS.move rfl) rfl ?_
      refine Tr.q (QS.idxN rfl rfl (by assumption) Try.underlying22 Try.sizeOf59 (by rfl) (by omega)) rfl ?_
      refine Tr.q (QS.fieldAddr (off := 2) (ft := 54) rfl Try.underlying59 rfl rfl Try.sizeOf54 (by decide)) rfl ?_
      refine Tr.q (QS.elF rfl (by assumption) Try.isAgg54 (by omega) (by rfl)) rfl ?_
      refine Tr.q (QS.lenNil rfl Try.underlying54) rfl ?_
      refine Tr.q (QS.addI rfl rfl (by omega)) rfl ?_
      refine Tr.q (QS.assign rfl) rfl ?_
      refine Tr.nil ?_
      refine Tr.thenN ?_
      refine Tr.seq ?_
      refine Tr.region ?_
      refine Tr.q (QS.move rfl) rfl ?_
      refine Tr.q (QS.gtr rfl rfl) rfl ?_
      refine Tr.nil ?_
      refine Tr.thenN ?_
      refine Tr.cond rfl (fun h3 => ?_) (fun h3 => ?_)
      · try simp only [bs] at h3
        refine Tr.seq ?_
        refine Tr.region ?_
        refine Tr.q (QS.assign rfl) rfl ?_
        refine Tr.nil ?_
        refine Tr.thenN ?_
        refine Tr.ret ?_
        refine Tr.inR ?_
        refine Tr.thenR ?_
        refine Tr.thenR ?_
        refine Tr.inR ?_
        refine Tr.thenR ?_
        refine Tr.ret1 Try.results9 rfl (fun w' hw => ?_)
        exact ⟨by rw [larg11, decide_eq_true (show 20000 < totB l by omega), Bool.or_true], hw.below (Bg.le.refl _)⟩
      · try simp only [bs] at h3
        refine Tr.skip ?_
        refine Tr.inN ?_
        refine Tr.thenN ?_
        refine Tr.region ?_
        refine Tr.q (QS.move rfl) rfl ?_
        refine Tr.q (QS.addI rfl rfl (by omega)) rfl ?_
        refine Tr.q (QS.assign rfl) rfl ?_
        refine Tr.nil ?_
        refine Tr.thenN ?_
        apply Tr.again (k + 1)
        · exact rfl
        · exact (.cons (by first | rfl | exact lookI rfl (by omega) | exact lookI rfl (by simp) | exact lookB rfl (by simp)) (.cons (by first | rfl | exact lookI rfl (by omega) | exact lookI rfl (by simp) | exact lookB rfl (by simp)) Front.nil))
        · exact SubX.dropN 20 (by kernel_rfl) rfl
        · exact (by repeat' (first | exact Pick.nil _ | exact Del.here _ | apply Pick.cons | apply Del.there))
        · exact ⟨by omega, by omega⟩
        · exact (by (try dsimp only); omega)
    · try simp only [bs] at h2
      refine Tr.exit ?_
      refine Tr.thenE ?_
      refine Tr.thenE ?_
      refine Tr.inHit ?_
      refine Tr.thenN ?_
      refine Tr.seq ?_
      refine Tr.region ?_
      refine Tr.q (QS.assign rfl) rfl ?_
      refine Tr.nil ?_
      refine Tr.thenN ?_
      refine Tr.ret ?_
      refine Tr.ret1 Try.results9 rfl (fun w' hw => ?_)
      have hkl : k = l.length := by omega
      rw [hkl, List.take_length] at hk2
      exact ⟨by rw [larg11, decide_eq_false (show ¬ 20 < l.length by omega), decide_eq_false (show ¬ 20000 < totB l by omega)]; rfl, hw.below (Bg.le.refl _)⟩
end Go.Proofs.Ytfnedefgepjbpaa
namespace Go.HL
open Go
theorem dec_addr {l : List SecV} {to_ b : UInt32} (h : okW l to_ b = true) : (decW l to_ b).1.addr = b := (dec_size (of_decide_eq_true h : (decP (winP l b to_) b).2 = 0)).2.2
/-- In order, none overlapping another, none empty. -/
def Disj (l : List Rng) : Prop := l.Pairwise (fun x y => x.hi.toNat ≤ y.lo.toNat) ∧ ∀ x ∈ l, x.lo.toNat < x.hi.toNat
def spanP (l : List SecV) (to_ p : UInt32) : Rng := ⟨p, p + szW l to_ p⟩
theorem Disj.filter {l : List SecV} {to_ : UInt32} {ps : List UInt32} (h : Disj (ps.map (spanP l to_))) (p : UInt32 → Bool) : Disj ((ps.filter p).map (spanP l to_)) :=
  ⟨List.pairwise_map.2 ((List.pairwise_map.1 h.1).filter p), fun x hx => by
    obtain ⟨q, hq, rfl⟩ := List.mem_map.1 hx
    exact h.2 _ (List.mem_map.2 ⟨q, (List.mem_filter.1 hq).1, rfl⟩)⟩
end Go.HL
namespace Go.HL
open Go
theorem dec_ok {b : List UInt8} {addr : UInt32} : InsOK (decP b addr).1 := by
  unfold decP
  split
  · exact ⟨by simp [zeroIns, I64], by simp [zeroIns, I64], by simp [zeroIns, I64], by simp [zeroIns, I64], by simp [zeroIns, I64], by simp [zeroIns, I64], by simp [zeroIns, I64]⟩
  split
  · exact ⟨by simp [zeroIns, I64], by simp [zeroIns, I64], by simp [zeroIns, I64], by simp [zeroIns, I64], by simp [zeroIns, I64], by simp [zeroIns, I64], by simp [zeroIns, I64]⟩
  split
  · exact ⟨by simp [zeroIns, I64], by simp [zeroIns, I64], by simp [zeroIns, I64], by simp [zeroIns, I64], by simp [zeroIns, I64], by simp [zeroIns, I64], by simp [zeroIns, I64]⟩
  simp only
  split
  · exact ⟨by simp [zeroIns, I64], by simp [zeroIns, I64], by simp [zeroIns, I64], by simp [zeroIns, I64], by simp [zeroIns, I64], by simp [zeroIns, I64], by simp [zeroIns, I64]⟩
  rename_i hr
  simp only [not_or, Bool.not_eq_false] at hr
  have ha := regP_iff.1 hr.1
  have hb := regP_iff.1 hr.2
  have hk := row_ok (b.getD 0 default)
  generalize (rowP (b.getD 0 default)).1 = k at *
  generalize (opcodeP k).2.1 = s at *
  have hs : ∀ s k b nx, (applyP s k b nx).op = k.op ∧ (applyP s k b nx).form = k.form ∧ (applyP s k b nx).width = k.width ∧ (applyP s k b nx).cc = k.cc ∧ (applyP s k b nx).size = k.size := fun s k b nx => by
    unfold applyP; repeat' split
    all_goals exact ⟨rfl, rfl, rfl, rfl, rfl⟩
  have hsz : 0 ≤ sizeP s ∧ sizeP s ≤ 6 := by unfold sizeP; repeat' split
                                             all_goals omega
  have h1 := hs s { k with addr := addr, size := sizeP s } b (addr + u32 (sizeP s))
  unfold bodyP at *
  show InsOK (applyP s { k with addr := addr, size := sizeP s } b (addr + u32 (sizeP s)))
  exact ⟨by rw [h1.1]; exact hk.op, by rw [h1.2.1]; exact hk.form, by rw [h1.2.2.1]; exact hk.width, by rw [h1.2.2.2.1]; exact hk.cc, by unfold I64; omega, by unfold I64; omega, by rw [h1.2.2.2.2]; unfold I64; show _ ≤ sizeP s ∧ sizeP s ≤ _; omega⟩
end Go.HL
namespace Go.HL
section
variable {α : Type} [Inhabited α]
structure WO (lt : α → α → Bool) : Prop where
  irr : ∀ x, lt x x = false
  tr : ∀ x y z, lt x y = true → lt y z = true → lt x z = true
  ntr : ∀ x y z, lt x y = false → lt y z = false → lt x z = false
theorem WO.asym {lt : α → α → Bool} (h : WO lt) {x y : α} (e : lt x y = true) : lt y x = false := by
  cases e2 : lt y x
  · rfl
  · have := h.tr _ _ _ e e2; rw [h.irr] at this; cases this
/-- x < y ≤ z -/
theorem WO.lt_le {lt : α → α → Bool} (h : WO lt) {x y z : α} (e : lt x y = true) (e2 : lt z y = false) : lt x z = true := by
  cases e3 : lt x z
  · rw [h.ntr _ _ _ e3 e2] at e; cases e
  · rfl
/-- x ≤ y < z -/
theorem WO.le_lt {lt : α → α → Bool} (h : WO lt) {x y z : α} (e : lt y x = false) (e2 : lt y z = true) : lt x z = true := by
  cases e3 : lt x z
  · rw [h.ntr _ _ _ e e3] at e2; cases e2
  · rfl
def eqv (lt : α → α → Bool) (z x : α) : Bool := !lt z x && !lt x z
/-- The same elements; those that the order holds equal in their old order. -/
def Stab (lt : α → α → Bool) (l l' : List α) : Prop := l.Perm l' ∧ ∀ z, l.filter (eqv lt z) = l'.filter (eqv lt z)
theorem Stab.refl (lt : α → α → Bool) (l : List α) : Stab lt l l := ⟨.refl _, fun _ => rfl⟩
theorem Stab.trans {lt : α → α → Bool} {a b c : List α} (h : Stab lt a b) (k : Stab lt b c) : Stab lt a c := ⟨h.1.trans k.1, fun z => (h.2 z).trans (k.2 z)⟩
theorem Stab.len {lt : α → α → Bool} {a b : List α} (h : Stab lt a b) : b.length = a.length := h.1.length_eq.symm
theorem Stab.symm {lt : α → α → Bool} {a b : List α} (h : Stab lt a b) : Stab lt b a := ⟨h.1.symm, fun z => (h.2 z).symm⟩
theorem filter_nil_or {lt : α → α → Bool} (h : WO lt) {X Y : List α} (hc : ∀ x ∈ X, ∀ y ∈ Y, lt y x = true) (z : α) : X.filter (eqv lt z) = [] ∨ Y.filter (eqv lt z) = [] := by
  cases hX : X.filter (eqv lt z) with
  | nil => exact .inl rfl
  | cons x t =>
    refine .inr ?_
    rw [List.filter_eq_nil_iff]
    intro y hy he
    have hx : x ∈ X.filter (eqv lt z) := by rw [hX]; exact .head _
    obtain ⟨hx1, hx2⟩ := List.mem_filter.1 hx
    simp only [eqv, Bool.and_eq_true, Bool.not_eq_true'] at he hx2
    have := hc x hx1 y hy
    rw [h.ntr _ _ _ he.2 hx2.1] at this
    cases this
theorem Stab.swap {lt : α → α → Bool} (h : WO lt) (P X Y S : List α) (hc : ∀ x ∈ X, ∀ y ∈ Y, lt y x = true) : Stab lt (P ++ (X ++ (Y ++ S))) (P ++ (Y ++ (X ++ S))) := by
  refine ⟨List.Perm.append_left _ (by rw [← List.append_assoc, ← List.append_assoc]; exact List.perm_append_comm.append_right _), fun z => ?_⟩
  simp only [List.filter_append]
  rcases filter_nil_or h hc z with e | e <;> rw [e] <;> simp
def mp (f : Nat → Nat) (l : List α) : List α := (List.range l.length).map fun k => l.getD (f k) default
theorem mp_len (f : Nat → Nat) (l : List α) : (mp f l).length = l.length := by simp [mp]
theorem mp_at {f : Nat → Nat} {l : List α} {k : Nat} (h : k < l.length) : (mp f l).getD k default = l.getD (f k) default := by
  simp [mp, List.getD_eq_getElem?_getD, h]
theorem ext_at {l l' : List α} (h : l.length = l'.length) (e : ∀ k, k < l.length → l.getD k default = l'.getD k default) : l = l' := by
  refine List.ext_getElem h fun k h1 h2 => ?_
  have := e k h1
  simpa [List.getD_eq_getElem?_getD, h1, h2] using this
theorem mp_id {f : Nat → Nat} {l : List α} (h : ∀ k, k < l.length → f k = k) : mp f l = l :=
  ext_at (mp_len _ _) fun k hk => by rw [mp_len] at hk; rw [mp_at hk, h k hk]
theorem mp_mp {f g k : Nat → Nat} {l : List α} (h : ∀ x, x < l.length → f x < l.length) (e : ∀ x, x < l.length → g (f x) = k x) : mp f (mp g l) = mp k l :=
  ext_at (by simp [mp_len]) fun x hx => by
    rw [mp_len, mp_len] at hx
    rw [mp_at (by rw [mp_len]; exact hx), mp_at (h x hx), mp_at hx, e x hx]
theorem mp_congr {f g : Nat → Nat} {l : List α} (e : ∀ x, x < l.length → f x = g x) : mp f l = mp g l :=
  ext_at (by simp [mp_len]) fun x hx => by rw [mp_len] at hx; rw [mp_at hx, mp_at hx, e x hx]
def swF (p q k : Nat) : Nat := if k = p then q else if k = q then p else k
def swR (a b n k : Nat) : Nat := if a ≤ k ∧ k < a + n then k - a + b else if b ≤ k ∧ k < b + n then k - b + a else k
def rotF (lo m hi k : Nat) : Nat := if lo ≤ k ∧ k < lo + (hi - m) then k + (m - lo) else if lo + (hi - m) ≤ k ∧ k < hi then k - (hi - m) else k
theorem swF_cases (p q k : Nat) : (k = p ∧ swF p q k = q) ∨ (k ≠ p ∧ k = q ∧ swF p q k = p) ∨ (k ≠ p ∧ k ≠ q ∧ swF p q k = k) := by simp only [swF]; grind
theorem swR_cases (a b n k : Nat) : (a ≤ k ∧ k < a + n ∧ swR a b n k = k - a + b) ∨ (¬ (a ≤ k ∧ k < a + n) ∧ b ≤ k ∧ k < b + n ∧ swR a b n k = k - b + a) ∨ (¬ (a ≤ k ∧ k < a + n) ∧ ¬ (b ≤ k ∧ k < b + n) ∧ swR a b n k = k) := by simp only [swR]; grind
theorem rotF_cases (lo m hi k : Nat) : (lo ≤ k ∧ k < lo + (hi - m) ∧ rotF lo m hi k = k + (m - lo)) ∨ (¬ (lo ≤ k ∧ k < lo + (hi - m)) ∧ lo + (hi - m) ≤ k ∧ k < hi ∧ rotF lo m hi k = k - (hi - m)) ∨ (¬ (lo ≤ k ∧ k < lo + (hi - m)) ∧ ¬ (lo + (hi - m) ≤ k ∧ k < hi) ∧ rotF lo m hi k = k) := by simp only [rotF]; grind
theorem mp_sw {l : List α} {p q : Nat} (hp : p < l.length) (hq : q < l.length) : (l.set p (l.getD q default)).set q (l.getD p default) = mp (swF p q) l :=
  ext_at (by simp [mp_len]) fun k hk => by
    have hk' : k < l.length := by simpa using hk
    rw [mp_at hk']
    simp only [List.getD_eq_getElem?_getD, List.getElem?_set, List.length_set, swF]
    grind
theorem swR_0 {a b : Nat} {l : List α} : mp (swR a b 0) l = l := mp_id fun k _ => by simp only [swR]; split <;> (try split) <;> omega
theorem swR_step {a b n i : Nat} {l : List α} (h1 : a + n ≤ b) (h2 : b + n ≤ l.length) (hi : i < n) : mp (swF (a + i) (b + i)) (mp (swR a b i) l) = mp (swR a b (i + 1)) l :=
  mp_mp (fun x hx => by simp only [swF]; split <;> (try split) <;> omega) fun x hx => by
    have h3 := swF_cases (a + i) (b + i) x
    have h4 := swR_cases a b i (swF (a + i) (b + i) x)
    have h5 := swR_cases a b (i + 1) x
    omega
theorem rotF_lt {lo m hi k n : Nat} (h1 : lo ≤ m) (h2 : m ≤ hi) (h3 : hi ≤ n) (h : k < n) : rotF lo m hi k < n := by simp only [rotF]; split <;> (try split) <;> omega
theorem rot_gt {m i j : Nat} {l : List α} (h1 : i ≤ m) (h2 : m + j ≤ l.length) (h : j < i) : mp (rotF (m - (i - j)) m (m + j)) (mp (swR (m - i) m j) l) = mp (rotF (m - i) m (m + j)) l :=
  mp_mp (fun x hx => rotF_lt (by omega) (by omega) h2 hx) fun x hx => by
    have h3 := rotF_cases (m - (i - j)) m (m + j) x
    have h4 := swR_cases (m - i) m j (rotF (m - (i - j)) m (m + j) x)
    have h5 := rotF_cases (m - i) m (m + j) x
    omega
theorem rot_lt {m i j : Nat} {l : List α} (h1 : i ≤ m) (h2 : m + j ≤ l.length) (h : i < j) : mp (rotF (m - i) m (m + (j - i))) (mp (swR (m - i) (m + j - i) i) l) = mp (rotF (m - i) m (m + j)) l :=
  mp_mp (fun x hx => rotF_lt (by omega) (by omega) (by omega) hx) fun x hx => by
    have h3 := rotF_cases (m - i) m (m + (j - i)) x
    have h4 := swR_cases (m - i) (m + j - i) i (rotF (m - i) m (m + (j - i)) x)
    have h5 := rotF_cases (m - i) m (m + j) x
    omega
theorem rot_eq {m i : Nat} {l : List α} (h1 : i ≤ m) : mp (swR (m - i) m i) l = mp (rotF (m - i) m (m + i)) l :=
  mp_congr fun x hx => by
    have h4 := swR_cases (m - i) m i x
    have h5 := rotF_cases (m - i) m (m + i) x
    omega
theorem rot_down {l : List α} {i j : Nat} (h : 0 < j) (hj : j ≤ i) (hi : i < l.length) : mp (swF j (j - 1)) (mp (rotF j i (i + 1)) l) = mp (rotF (j - 1) i (i + 1)) l :=
  mp_mp (fun x hx => by simp only [swF]; split <;> (try split) <;> omega) fun x hx => by
    have h3 := swF_cases j (j - 1) x
    have h4 := rotF_cases j i (i + 1) (swF j (j - 1) x)
    have h5 := rotF_cases (j - 1) i (i + 1) x
    omega
theorem rot_up {l : List α} {a k : Nat} (h : a ≤ k) (hk : k + 1 < l.length) : mp (swF k (k + 1)) (mp (rotF a (a + 1) (k + 1)) l) = mp (rotF a (a + 1) (k + 2)) l :=
  mp_mp (fun x hx => by simp only [swF]; split <;> (try split) <;> omega) fun x hx => by
    have h3 := swF_cases k (k + 1) x
    have h4 := rotF_cases a (a + 1) (k + 1) (swF k (k + 1) x)
    have h5 := rotF_cases a (a + 1) (k + 2) x
    omega
theorem rot_none {l : List α} {a m b : Nat} (h : a = m ∨ m = b) (h1 : a ≤ m) (h2 : m ≤ b) : mp (rotF a m b) l = l := mp_id fun k _ => by have := rotF_cases a m b k; omega
theorem rot_list {l : List α} {a m b : Nat} (h1 : a ≤ m) (h2 : m ≤ b) (h3 : b ≤ l.length) :
    mp (rotF a m b) l = l.take a ++ ((l.take b).drop m ++ ((l.take m).drop a ++ l.drop b)) := by
  refine ext_at (by simp [mp_len]; omega) fun k hk => ?_
  rw [mp_len] at hk
  rw [mp_at hk]
  simp only [List.getD_eq_getElem?_getD, List.getElem?_append, List.length_take, List.length_drop, List.getElem?_take, List.getElem?_drop, rotF]
  congr 1
  grind
theorem list_parts {l : List α} {a m b : Nat} (h1 : a ≤ m) (h2 : m ≤ b) (h3 : b ≤ l.length) :
    l = l.take a ++ ((l.take m).drop a ++ ((l.take b).drop m ++ l.drop b)) := by
  refine ext_at (by simp; omega) fun k hk => ?_
  simp only [List.getD_eq_getElem?_getD, List.getElem?_append, List.length_take, List.length_drop, List.getElem?_take, List.getElem?_drop]
  congr 1
  grind
theorem mem_win {l : List α} {a b : Nat} {x : α} (h : x ∈ (l.take b).drop a) : ∃ k, a ≤ k ∧ k < b ∧ k < l.length ∧ x = l.getD k default := by
  obtain ⟨i, hi⟩ := List.mem_iff_getElem?.1 h
  rw [List.getElem?_drop, List.getElem?_take] at hi
  split at hi
  · refine ⟨a + i, by omega, by omega, (List.getElem?_eq_some_iff.1 hi).1, by simp [List.getD_eq_getElem?_getD, hi]⟩
  · cases hi
theorem win_mem {l : List α} {a b k : Nat} (h1 : a ≤ k) (h2 : k < b) (h3 : k < l.length) : l.getD k default ∈ (l.take b).drop a := by
  refine List.mem_iff_getElem?.2 ⟨k - a, ?_⟩
  rw [List.getElem?_drop, List.getElem?_take, if_pos (by omega), show a + (k - a) = k by omega]
  simp [List.getD_eq_getElem?_getD, h3]
theorem Stab.rot {lt : α → α → Bool} (h : WO lt) {l : List α} {a m b : Nat} (h1 : a ≤ m) (h2 : m ≤ b) (h3 : b ≤ l.length)
    (hc : ∀ x y, a ≤ x → x < m → m ≤ y → y < b → lt (l.getD y default) (l.getD x default) = true) : Stab lt l (mp (rotF a m b) l) := by
  rw [rot_list h1 h2 h3]
  conv => lhs; rw [list_parts h1 h2 h3]
  refine Stab.swap h _ _ _ _ fun x hx y hy => ?_
  obtain ⟨i, a1, a2, a3, rfl⟩ := mem_win hx
  obtain ⟨j, b1, b2, b3, rfl⟩ := mem_win hy
  exact hc i j a1 a2 b1 b2
/-- Nothing outside [a, b) has changed. -/
def Fram (a b : Nat) (l l' : List α) : Prop := l'.length = l.length ∧ ∀ k, k < a ∨ b ≤ k → l'.getD k default = l.getD k default
theorem Fram.refl (a b : Nat) (l : List α) : Fram a b l l := ⟨rfl, fun _ _ => rfl⟩
theorem Fram.trans {a b : Nat} {l m n : List α} (h : Fram a b l m) (k : Fram a b m n) : Fram a b l n := ⟨k.1.trans h.1, fun x hx => (k.2 x hx).trans (h.2 x hx)⟩
theorem Fram.mono {a b c d : Nat} {l m : List α} (h : Fram a b l m) (h1 : c ≤ a) (h2 : b ≤ d) : Fram c d l m := ⟨h.1, fun x hx => h.2 x (by omega)⟩
theorem Fram.rot {a b s m e : Nat} {l : List α} (h1 : a ≤ s) (h2 : e ≤ b) (h3 : s ≤ m) (h4 : m ≤ e) : Fram a b l (mp (rotF s m e) l) :=
  ⟨mp_len _ _, fun k hk => by
    by_cases h : k < l.length
    · rw [mp_at h, show rotF s m e k = k by have := rotF_cases s m e k; omega]
    · have e1 := List.getElem?_eq_none (l := mp (rotF s m e) l) (i := k) (by rw [mp_len]; omega)
      have e2 := List.getElem?_eq_none (l := l) (i := k) (by omega)
      rw [List.getD_eq_getElem?_getD, List.getD_eq_getElem?_getD, e1, e2]⟩
theorem win_of {lt : α → α → Bool} {l l' : List α} {a b k : Nat} (s : Stab lt l l') (f : Fram a b l l') (hb : b ≤ l.length) (h1 : a ≤ k) (h2 : k < b) : ∃ j, a ≤ j ∧ j < b ∧ l'.getD k default = l.getD j default := by
  have hl := f.1
  have e1 : l'.take a = l.take a := ext_at (by simp [hl]) fun x hx => by
    have hx' : x < a := by simp at hx; omega
    have := f.2 x (.inl hx')
    simpa [List.getD_eq_getElem?_getD, List.getElem?_take, hx'] using this
  have e2 : l'.drop b = l.drop b := ext_at (by simp [hl]) fun x hx => by
    have := f.2 (b + x) (.inr (by omega))
    simpa [List.getD_eq_getElem?_getD, List.getElem?_drop] using this
  have p1 := s.1
  rw [list_parts (l := l) (a := a) (m := b) (b := b) (by omega) (Nat.le_refl _) hb, list_parts (l := l') (a := a) (m := b) (b := b) (by omega) (Nat.le_refl _) (by omega), e1, e2] at p1
  have p2 := (List.perm_append_left_iff _).1 p1
  have e3 : ∀ x : List α, (x.take b).drop b = [] := fun x => by simp
  rw [e3, e3, List.nil_append] at p2
  have p3 := (List.perm_append_right_iff _).1 p2
  obtain ⟨j, a1, a2, a3, a4⟩ := mem_win (p3.symm.subset (win_mem (l := l') h1 h2 (by omega)))
  exact ⟨j, a1, a2, a4⟩
/-- Sorted from a up to b. -/
def Srt (lt : α → α → Bool) (l : List α) (a b : Nat) : Prop := ∀ p q, a ≤ p → p < q → q < b → lt (l.getD q default) (l.getD p default) = false
theorem Srt.sub {lt : α → α → Bool} {l : List α} {a b c d : Nat} (h : Srt lt l a b) (h1 : a ≤ c) (h2 : d ≤ b) : Srt lt l c d := fun p q x y z => h p q (by omega) y (by omega)
theorem Srt.one {lt : α → α → Bool} {l : List α} {a b : Nat} (h : b ≤ a + 1) : Srt lt l a b := fun p q x y z => by omega
theorem Srt.fram {lt : α → α → Bool} {l l' : List α} {a b c d : Nat} (h : Srt lt l a b) (f : Fram c d l l') (hd : b ≤ c ∨ d ≤ a) : Srt lt l' a b := fun p q x y z => by
  rw [f.2 p (by omega), f.2 q (by omega)]; exact h p q x y z
theorem Srt.all {lt : α → α → Bool} {l : List α} (h : Srt lt l 0 l.length) : l.Pairwise fun x y => lt y x = false := by
  rw [List.pairwise_iff_getElem]
  intro i j hi hj hij
  have := h i j (Nat.zero_le _) hij hj
  simpa [List.getD_eq_getElem?_getD, hi, hj] using this
theorem Srt.le {lt : α → α → Bool} (h : WO lt) {l : List α} {a b p q : Nat} (s : Srt lt l a b) (h1 : a ≤ p) (h2 : p ≤ q) (h3 : q < b) : lt (l.getD q default) (l.getD p default) = false := by
  rcases Nat.eq_or_lt_of_le h2 with rfl | h2
  · exact h.irr _
  · exact s p q h1 h2 h3
theorem Srt.glue {lt : α → α → Bool} {l : List α} {a m b : Nat} (h1 : Srt lt l a m) (h2 : Srt lt l m b) (hc : ∀ p q, a ≤ p → p < m → m ≤ q → q < b → lt (l.getD q default) (l.getD p default) = false) : Srt lt l a b := fun p q x y z => by
  by_cases hq : q < m
  · exact h1 p q x y hq
  · by_cases hp : p < m
    · exact hc p q x hp (by omega) z
    · exact h2 p q (by omega) y z
/-- An element put in where it belongs, from behind. -/
theorem srt_ins {lt : α → α → Bool} (h : WO lt) {l : List α} {a i j : Nat} (hs : Srt lt l a i) (hi : i < l.length) (h1 : a ≤ j) (h2 : j ≤ i) (hA : ∀ q, j ≤ q → q < i → lt (l.getD i default) (l.getD q default) = true)
    (hB : j = a ∨ lt (l.getD i default) (l.getD (j - 1) default) = false) : Stab lt l (mp (rotF j i (i + 1)) l) ∧ Srt lt (mp (rotF j i (i + 1)) l) a (i + 1) := by
  refine ⟨Stab.rot h h2 (by omega) (by omega) fun x y a1 a2 a3 a4 => by rw [show y = i by omega]; exact hA x a1 a2, fun p q a1 a2 a3 => ?_⟩
  rw [mp_at (by omega), mp_at (by omega)]
  have hlow : ∀ p, a ≤ p → p < j → lt (l.getD i default) (l.getD p default) = false := fun p b1 b2 => by
    rcases hB with rfl | hB
    · omega
    · exact h.ntr _ _ _ hB (hs.le h b1 (by omega) (by omega))
  have fp : ∀ k, k ≤ i → rotF j i (i + 1) k = if k < j then k else if k = j then i else k - 1 := fun k hk => by simp only [rotF]; grind
  rw [fp p (by omega), fp q (by omega)]
  by_cases c1 : q < j
  · rw [if_pos c1, if_pos (by omega)]; exact hs _ _ a1 a2 (by omega)
  · rw [if_neg c1]
    by_cases c2 : q = j
    · rw [if_pos c2, if_pos (by omega)]; exact hlow p a1 (by omega)
    · rw [if_neg c2]
      by_cases c3 : p < j
      · rw [if_pos c3]; exact hs _ _ a1 (by omega) (by omega)
      · rw [if_neg c3]
        by_cases c4 : p = j
        · rw [if_pos c4]; exact h.asym (hA _ (by omega) (by omega))
        · rw [if_neg c4]; exact hs _ _ (by omega) (by omega) (by omega)
/-- The same, from in front. -/
theorem srt_ins' {lt : α → α → Bool} (h : WO lt) {l : List α} {a i b : Nat} (hs : Srt lt l (a + 1) b) (hb : b ≤ l.length) (h1 : a + 1 ≤ i) (h2 : i ≤ b) (hA : ∀ q, a + 1 ≤ q → q < i → lt (l.getD q default) (l.getD a default) = true)
    (hB : ∀ q, i ≤ q → q < b → lt (l.getD q default) (l.getD a default) = false) : Stab lt l (mp (rotF a (a + 1) i) l) ∧ Srt lt (mp (rotF a (a + 1) i) l) a b := by
  refine ⟨Stab.rot h (by omega) h1 (by omega) fun x y a1 a2 a3 a4 => by rw [show x = a by omega]; exact hA y a3 a4, fun p q a1 a2 a3 => ?_⟩
  rw [mp_at (by omega), mp_at (by omega)]
  have fp : ∀ k, a ≤ k → rotF a (a + 1) i k = if k + 1 < i then k + 1 else if k + 1 = i then a else k := fun k hk => by simp only [rotF]; grind
  rw [fp p (by omega), fp q (by omega)]
  by_cases c1 : q + 1 < i
  · rw [if_pos c1, if_pos (by omega)]; exact hs _ _ (by omega) (by omega) (by omega)
  · rw [if_neg c1]
    by_cases c2 : q + 1 = i
    · rw [if_pos c2, if_pos (by omega)]; exact h.asym (hA _ (by omega) (by omega))
    · rw [if_neg c2]
      by_cases c3 : p + 1 < i
      · rw [if_pos c3]; exact hs _ _ (by omega) (by omega) (by omega)
      · rw [if_neg c3]
        by_cases c4 : p + 1 = i
        · rw [if_pos c4]; exact hB _ (by omega) (by omega)
        · rw [if_neg c4]; exact hs _ _ (by omega) (by omega) (by omega)
/-- What the rotation leaves: two halves, each of two sorted parts; none of the right before one of the left. -/
structure Half (lt : α → α → Bool) (l cur : List α) (a s mid e b : Nat) : Prop where
  st : Stab lt l cur
  fr : Fram a b l cur
  cr : ∀ p q, a ≤ p → p < mid → mid ≤ q → q < b → lt (cur.getD q default) (cur.getD p default) = false
  s1 : Srt lt cur a s
  s2 : Srt lt cur s mid
  s3 : Srt lt cur mid e
  s4 : Srt lt cur e b
theorem half_rot {lt : α → α → Bool} (h : WO lt) {l : List α} {a m b s mid e : Nat} (h1 : Srt lt l a m) (h2 : Srt lt l m b) (hb : b ≤ l.length) (ha : a ≤ s) (hs : s ≤ m) (he : m ≤ e) (hbb : e ≤ b) (hm : mid = s + (e - m))
    (hd : s = m ∨ m = e ∨ lt (l.getD (e - 1) default) (l.getD s default) = true) (hg : s = a ∨ e = b ∨ lt (l.getD e default) (l.getD (s - 1) default) = false) : Half lt l (mp (rotF s m e) l) a s mid e b := by
  have c1 : ∀ x y, s ≤ x → x < m → m ≤ y → y < e → lt (l.getD y default) (l.getD x default) = true := fun x y a1 a2 a3 a4 => by
    rcases hd with hd | hd | hd
    · omega
    · omega
    · exact h.le_lt (h2.le h (by omega) (show y ≤ e - 1 by omega) (by omega)) (h.lt_le hd (h1.le h (by omega) a1 (by omega)))
  have c2 : ∀ x y, a ≤ x → x < s → e ≤ y → y < b → lt (l.getD y default) (l.getD x default) = false := fun x y a1 a2 a3 a4 => by
    rcases hg with hg | hg | hg
    · omega
    · omega
    · exact h.ntr _ _ _ (h2.le h (by omega) a3 (by omega)) (h.ntr _ _ _ hg (h1.le h a1 (by omega) (by omega)))
  have fp : ∀ k, rotF s m e k = if s ≤ k ∧ k < mid then k + (m - s) else if mid ≤ k ∧ k < e then k - (e - m) else k := fun k => by subst hm; rfl
  have fl : ∀ k, k < b → k < l.length := fun k hk => by omega
  refine ⟨Stab.rot h hs he (by omega) c1, Fram.rot ha hbb hs he, fun p q a1 a2 a3 a4 => ?_, fun p q a1 a2 a3 => ?_, fun p q a1 a2 a3 => ?_, fun p q a1 a2 a3 => ?_, fun p q a1 a2 a3 => ?_⟩
  · rw [mp_at (by omega), mp_at (by omega), fp, fp, if_neg (c := s ≤ q ∧ q < mid) (by omega)]
    by_cases d1 : q < e
    · rw [if_pos (c := mid ≤ q ∧ q < e) ⟨a3, d1⟩]
      by_cases d2 : p < s
      · rw [if_neg (by omega), if_neg (by omega)]; exact h1 _ _ a1 (by omega) (by omega)
      · rw [if_pos (by omega)]; exact h.asym (c1 _ _ (by omega) (by omega) (by omega) (by omega))
    · rw [if_neg (c := mid ≤ q ∧ q < e) (by omega)]
      by_cases d2 : p < s
      · rw [if_neg (by omega), if_neg (by omega)]; exact c2 _ _ a1 d2 (by omega) a4
      · rw [if_pos (by omega)]; exact h2 _ _ (by omega) (by omega) a4
  · rw [mp_at (by omega), mp_at (by omega), fp, fp, if_neg (by omega), if_neg (by omega), if_neg (by omega), if_neg (by omega)]; exact h1 _ _ a1 a2 (by omega)
  · rw [mp_at (by omega), mp_at (by omega), fp, fp, if_pos (by omega), if_pos (by omega)]; exact h2 _ _ (by omega) (by omega) (by omega)
  · rw [mp_at (by omega), mp_at (by omega), fp, fp, if_neg (by omega), if_pos (by omega), if_neg (by omega), if_pos (by omega)]; exact h1 _ _ (by omega) (by omega) (by omega)
  · rw [mp_at (by omega), mp_at (by omega), fp, fp, if_neg (by omega), if_neg (by omega), if_neg (by omega), if_neg (by omega)]; exact h2 _ _ (by omega) a2 a3
theorem Half.left {lt : α → α → Bool} {l c1 c2 : List α} {a s mid e b : Nat} (h : Half lt l c1 a s mid e b) (hb : b ≤ l.length) (hm : mid ≤ e) (hmb : e ≤ b) (st : Stab lt c1 c2) (fr : Fram a mid c1 c2) (so : Srt lt c2 a mid) : Half lt l c2 a mid mid e b := by
  have hl := h.fr.1
  refine ⟨h.st.trans st, h.fr.trans (fr.mono (Nat.le_refl _) (by omega)), fun p q a1 a2 a3 a4 => ?_, so, .one (by omega), h.s3.fram fr (.inr (Nat.le_refl _)), h.s4.fram fr (.inr hm)⟩
  obtain ⟨j, b1, b2, b3⟩ := win_of st fr (by omega) a1 a2
  rw [b3, fr.2 q (.inr a3)]
  exact h.cr _ _ b1 b2 a3 a4
theorem Half.left0 {lt : α → α → Bool} {l c1 : List α} {a s mid e b : Nat} (h : Half lt l c1 a s mid e b) (hn : ¬ (a < s ∧ s < mid)) (ha : a ≤ s) (hs : s ≤ mid) : Half lt l c1 a mid mid e b := by
  refine ⟨h.st, h.fr, h.cr, ?_, .one (by omega), h.s3, h.s4⟩
  by_cases c : a = s
  · rw [c]; exact h.s2
  · rw [show mid = s by omega]; exact h.s1
theorem Half.right {lt : α → α → Bool} {l c2 c3 : List α} {a mid e b : Nat} (h : Half lt l c2 a mid mid e b) (hb : b ≤ l.length) (ha : a ≤ mid) (hm : mid ≤ b) (st : Stab lt c2 c3) (fr : Fram mid b c2 c3) (so : Srt lt c3 mid b) : Stab lt l c3 ∧ Fram a b l c3 ∧ Srt lt c3 a b := by
  have hl := h.fr.1
  refine ⟨h.st.trans st, h.fr.trans (fr.mono ha (Nat.le_refl _)), (h.s1.fram fr (.inl (Nat.le_refl _))).glue so fun p q a1 a2 a3 a4 => ?_⟩
  obtain ⟨j, b1, b2, b3⟩ := win_of st fr (by omega) a3 a4
  rw [b3, fr.2 p (.inl a2)]
  exact h.cr _ _ a1 a2 b1 b2
theorem Half.right0 {lt : α → α → Bool} {l c2 : List α} {a mid e b : Nat} (h : Half lt l c2 a mid mid e b) (hn : ¬ (mid < e ∧ e < b)) (hm : mid ≤ e) (hb : e ≤ b) : Stab lt l c2 ∧ Fram a b l c2 ∧ Srt lt c2 a b := by
  refine ⟨h.st, h.fr, h.s1.glue ?_ h.cr⟩
  by_cases c : mid = e
  · rw [c]; exact h.s4
  · rw [show b = e by omega]; exact h.s3
/-- Each block of bs is sorted, up to n. -/
def Blk (lt : α → α → Bool) (l : List α) (bs n : Nat) : Prop := ∀ t p q, t * bs ≤ p → p < q → q < (t + 1) * bs → q < n → lt (l.getD q default) (l.getD p default) = false
theorem Blk.all {lt : α → α → Bool} {l : List α} {bs n : Nat} (h : Blk lt l bs n) (hn : n ≤ bs) : Srt lt l 0 n := fun p q a1 a2 a3 => h 0 p q (by omega) a2 (by omega) a3
theorem blk_ins {lt : α → α → Bool} {l l' : List α} {bs t0 b : Nat} (h : Blk lt l bs (t0 * bs)) (f : Fram (t0 * bs) b l l') (s : Srt lt l' (t0 * bs) b) (hb : b ≤ (t0 + 1) * bs) : Blk lt l' bs b := fun t p q a1 a2 a3 a4 => by
  by_cases c : q < t0 * bs
  · rw [f.2 p (by omega), f.2 q (by omega)]; exact h t p q a1 a2 a3 c
  · have e1 : t * bs < (t0 + 1) * bs := by omega
    have e2 : t0 * bs < (t + 1) * bs := by omega
    have e3 := Nat.lt_of_mul_lt_mul_right e1
    have e4 := Nat.lt_of_mul_lt_mul_right e2
    obtain rfl : t = t0 := by omega
    exact s p q a1 a2 a4
/-- Blocks of 2bs up to a, of bs from there. -/
def Mix (lt : α → α → Bool) (l : List α) (bs a n : Nat) : Prop := Blk lt l (2 * bs) a ∧ ∀ t p q, t * bs ≤ p → p < q → q < (t + 1) * bs → a ≤ p → q < n → lt (l.getD q default) (l.getD p default) = false
theorem mix_0 {lt : α → α → Bool} {l : List α} {bs n : Nat} (h : Blk lt l bs n) : Mix lt l bs 0 n := ⟨fun t p q a1 a2 a3 a4 => by omega, fun t p q a1 a2 a3 _ a5 => h t p q a1 a2 a3 a5⟩
theorem mix_left {lt : α → α → Bool} {l : List α} {bs n t0 m : Nat} (h : Mix lt l bs (t0 * (2 * bs)) n) (hm : m ≤ t0 * (2 * bs) + bs) (hn : m ≤ n) : Srt lt l (t0 * (2 * bs)) m := fun p q a1 a2 a3 => by
  have e : 2 * t0 * bs = t0 * (2 * bs) := by rw [Nat.mul_comm 2 t0, Nat.mul_assoc]
  refine h.2 (2 * t0) p q (by omega) a2 (by rw [Nat.add_mul]; omega) a1 (by omega)
theorem mix_right {lt : α → α → Bool} {l : List α} {bs n t0 b : Nat} (h : Mix lt l bs (t0 * (2 * bs)) n) (hm : b ≤ t0 * (2 * bs) + 2 * bs) (hn : b ≤ n) : Srt lt l (t0 * (2 * bs) + bs) b := fun p q a1 a2 a3 => by
  have e : 2 * t0 * bs = t0 * (2 * bs) := by rw [Nat.mul_comm 2 t0, Nat.mul_assoc]
  refine h.2 (2 * t0 + 1) p q (by rw [Nat.add_mul]; omega) a2 (by rw [Nat.add_mul, Nat.add_mul]; omega) (by omega) (by omega)
theorem mix_step {lt : α → α → Bool} {l l' : List α} {bs n t0 b : Nat} (h : Mix lt l bs (t0 * (2 * bs)) n) (f : Fram (t0 * (2 * bs)) b l l') (s : Srt lt l' (t0 * (2 * bs)) b) (hb : b ≤ t0 * (2 * bs) + 2 * bs) (hab : t0 * (2 * bs) ≤ b) : Mix lt l' bs b n :=
  ⟨blk_ins h.1 f s (by rw [Nat.add_mul]; omega), fun t p q a1 a2 a3 a4 a5 => by
    rw [f.2 p (by omega), f.2 q (by omega)]; exact h.2 t p q a1 a2 a3 (by omega) a5⟩
theorem mix_end {lt : α → α → Bool} {l : List α} {bs n t0 : Nat} (h : Mix lt l bs (t0 * (2 * bs)) n) (hn : n ≤ t0 * (2 * bs) + bs) : Blk lt l (2 * bs) n := fun t p q a1 a2 a3 a4 => by
  by_cases c : q < t0 * (2 * bs)
  · exact h.1 t p q a1 a2 a3 c
  · have e1 : t * (2 * bs) < (t0 + 1) * (2 * bs) := by rw [Nat.add_mul]; omega
    have e2 : t0 * (2 * bs) < (t + 1) * (2 * bs) := by omega
    have e3 := Nat.lt_of_mul_lt_mul_right e1
    have e4 := Nat.lt_of_mul_lt_mul_right e2
    obtain rfl : t = t0 := by omega
    exact mix_left h hn (Nat.le_refl _) p q a1 a2 a4
end
end Go.HL
