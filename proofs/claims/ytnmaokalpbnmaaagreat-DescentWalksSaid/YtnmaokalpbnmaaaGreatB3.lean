/- Own rules and walks, part 3. -/
import Derived.Test.YtnmaokalpbnmaaaGreatB2
set_option linter.unusedSimpArgs false
set_option linter.unusedVariables false
set_option linter.unusedSectionVars false
namespace Go.Proofs.YtnmaokalpbnmaaaGreat
open Go Go.HL Go.RowKit
set_option maxRecDepth 100000 in
set_option maxHeartbeats 2000000 in
theorem bytesOf_any (i : Ins) (w : World) (hop : 0 ≤ i.op ∧ i.op ≤ 27) (hcc : -100 ≤ i.cc ∧ i.cc ≤ 100) (hwd : 0 ≤ i.width ∧ i.width ≤ 4) (ha : 0 ≤ i.a ∧ i.a ≤ 100) (hbb : 0 ≤ i.b ∧ i.b ≤ 100) :
  Calls Tryz.prog 113 #[.agg (encIns.enc i).toArray] w (fun e w' => ∃ V, e = .returned V ∧ Ext w w' ∧ NewRow w w' 5 encU8 (bytesP i) V) := by
 refine enter Tryz.func113 rfl Tryz.ntmps113 rfl ?_
 refine Tr.seq (Tr.region ?_)
 refine Tr.box rfl rfl rfl (fun b1 => ?_)
 refine Tr.q (QS.assign rfl) rfl ?_
 refine Tr.nil (Tr.thenN (Tr.seq (Tr.region ?_)))
 refine Tr.q (QS.fieldAddr (off := 6) (ft := 3) rfl Tryz.underlying46 rfl rfl Tryz.sizeOf3 (by decide)) rfl ?_
 refine Tr.q (QS.lV rfl Tryz.isAgg3) rfl ?_
 refine Tr.q (QS.mulI rfl rfl (by omega)) rfl ?_
 refine Tr.q (QS.fieldAddr (off := 7) (ft := 3) rfl Tryz.underlying46 rfl rfl Tryz.sizeOf3 (by decide)) rfl ?_
 refine Tr.q (QS.lV rfl Tryz.isAgg3) rfl ?_
 refine Tr.q (QS.addI rfl rfl (by omega)) rfl ?_
 refine Tr.q (QS.cvtTo8 rfl Tryz.underlying3 Tryz.underlying5) rfl ?_
 refine Tr.q (QS.assign rfl) rfl ?_
 refine Tr.nil (Tr.thenN (Tr.seq (Tr.seq (Tr.region ?_))))
 refine Tr.q (QS.fieldAddr (off := 2) (ft := 3) rfl Tryz.underlying46 rfl rfl Tryz.sizeOf3 (by decide)) rfl ?_
 refine Tr.q (QS.lV rfl Tryz.isAgg3) rfl ?_
 refine Tr.q (QS.call rfl Tryz.call110 (fun w hw => isTwo_any i.op w)) rfl ?_
 refine Tr.nil (Tr.thenN ?_)
 refine Tr.cond rfl (fun h2 => ?_) (fun h2 => ?_)
 ·try simp only [bs] at h2
  refine Tr.seq (Tr.region ?_)
  refine Tr.q (QS.fieldAddr (off := 2) (ft := 3) rfl Tryz.underlying46 rfl rfl Tryz.sizeOf3 (by decide)) rfl ?_
  refine Tr.q (QS.lV rfl Tryz.isAgg3) rfl ?_
  refine Tr.q (QS.subI rfl rfl (by omega)) rfl ?_
  refine Tr.q (QS.assign rfl) rfl ?_
  refine Tr.nil (Tr.thenN (Tr.seq (Tr.seq (Tr.region ?_))))
  refine Tr.q (QS.fieldAddr (off := 3) (ft := 3) rfl Tryz.underlying46 rfl rfl Tryz.sizeOf3 (by decide)) rfl ?_
  refine Tr.q (QS.lV rfl Tryz.isAgg3) rfl ?_
  refine Tr.q (QS.eql rfl rfl) rfl ?_
  refine Tr.nil (Tr.thenN ?_)
  refine Tr.cond rfl (fun h3 => ?_) (fun h3 => ?_)
  ·try simp only [bs] at h3
   refine Tr.seq (Tr.region ?_)
   refine Tr.q (QS.move rfl) rfl ?_
   refine Tr.q (QS.addI rfl rfl (by omega)) rfl ?_
   refine Tr.q (QS.cvtTo8 rfl Tryz.underlying3 Tryz.underlying5) rfl ?_
   refine Tr.q (QS.move rfl) rfl ?_
   refine Tr.litN (E := encU8) [u8 (32 + (i.op - 5)), u8 (16 * i.a + i.b)] (vs := [(0, _), (1, _)]) rfl rfl Tryz.underlying41 Tryz.sizeOf5 Tryz.zeroValue5 (by rfl) (by rfl) rfl (by first | kernel_rfl | rfl) rfl (fun V4 => ?_)
   refine Tr.q (QS.assign rfl) rfl ?_
   refine Tr.nil (Tr.thenN (Tr.ret (Tr.thenR (Tr.thenR ?_))))
   refine Tr.ret1 Tryz.results113 rfl (fun w' hw => ?_)
   exact ⟨_, rfl, hw.below (Bg.le.refl _), by unfold bytesP; (repeat (first | rw [if_pos (by first | assumption | omega | grind)] | rw [if_neg (by first | assumption | omega | grind)])); exact hw.new (.head _)⟩
  ·try simp only [bs] at h3
   refine Tr.skip (Tr.thenN (Tr.seq (Tr.seq (Tr.region ?_))))
   refine Tr.q (QS.fieldAddr (off := 3) (ft := 3) rfl Tryz.underlying46 rfl rfl Tryz.sizeOf3 (by decide)) rfl ?_
   refine Tr.q (QS.lV rfl Tryz.isAgg3) rfl ?_
   refine Tr.q (QS.eql rfl rfl) rfl ?_
   refine Tr.nil (Tr.thenN ?_)
   refine Tr.cond rfl (fun h5 => ?_) (fun h5 => ?_)
   ·try simp only [bs] at h5
    refine Tr.seq (Tr.region ?_)
    refine Tr.q (QS.move rfl) rfl ?_
    refine Tr.q (QS.addI rfl rfl (by omega)) rfl ?_
    refine Tr.q (QS.cvtTo8 rfl Tryz.underlying3 Tryz.underlying5) rfl ?_
    refine Tr.q (QS.fieldAddr (off := 6) (ft := 3) rfl Tryz.underlying46 rfl rfl Tryz.sizeOf3 (by decide)) rfl ?_
    refine Tr.q (QS.lV rfl Tryz.isAgg3) rfl ?_
    refine Tr.q (QS.cvtTo8 rfl Tryz.underlying3 Tryz.underlying5) rfl ?_
    refine Tr.q (QS.fieldAddr (off := 1) (ft := 40) rfl Tryz.underlying46 rfl rfl Tryz.sizeOf40 (by decide)) rfl ?_
    refine Tr.q (QS.lV rfl Tryz.isAgg40) rfl ?_
    refine Tr.q (QS.rem32 (n := 256) rfl rfl (by first | decide | assumption)) rfl ?_
    refine Tr.q (QS.cvt32to8 rfl Tryz.underlying40 Tryz.underlying5) rfl ?_
    refine Tr.litN (E := encU8) [u8 (48 + (i.op - 5)), u8 i.a, (i.imm % 256).toUInt8] (vs := [(0, _), (1, _), (2, _)]) rfl rfl Tryz.underlying41 Tryz.sizeOf5 Tryz.zeroValue5 (by rfl) (by rfl) rfl (by first | kernel_rfl | rfl) rfl (fun V6 => ?_)
    refine Tr.q (QS.assign rfl) rfl ?_
    refine Tr.nil (Tr.thenN (Tr.ret (Tr.thenR (Tr.thenR ?_))))
    refine Tr.ret1 Tryz.results113 rfl (fun w' hw => ?_)
    exact ⟨_, rfl, hw.below (Bg.le.refl _), by unfold bytesP; (repeat (first | rw [if_pos (by first | assumption | omega | grind)] | rw [if_neg (by first | assumption | omega | grind)])); exact hw.new (.head _)⟩
   ·try simp only [bs] at h5
    refine Tr.skip (Tr.thenN (Tr.seq ?_))
    refine Tr.regionH ([cellE b1 (encIns.enc i) 46]) 12 rfl HLF.mixed ?_
    refine Tr.hT 0 rfl (by kernel_rfl) (panicThen (panicThen panicBody)) (QS.move rfl) ?_
    refine Tr.hT 1 rfl (by kernel_rfl) (panicThen (panicThen panicBody)) (QS.addI rfl rfl (by omega)) ?_
    refine Tr.hT 2 rfl (by kernel_rfl) (panicThen (panicThen panicBody)) (QS.cvtTo8 rfl Tryz.underlying3 Tryz.underlying5) ?_
    refine Tr.hT 3 rfl (by kernel_rfl) (panicThen (panicThen panicBody)) (QS.fieldAddr (off := 6) (ft := 3) rfl Tryz.underlying46 rfl rfl Tryz.sizeOf3 (by decide)) ?_
    refine Tr.hT 4 rfl (by kernel_rfl) (panicThen (panicThen panicBody)) (QS.lV rfl Tryz.isAgg3) ?_
    refine Tr.hT 5 rfl (by kernel_rfl) (panicThen (panicThen panicBody)) (QS.cvtTo8 rfl Tryz.underlying3 Tryz.underlying5) ?_
    refine Tr.hT 7 rfl (by kernel_rfl) (panicThen (panicThen panicBody)) (QS.fieldAddr (off := 1) (ft := 40) rfl Tryz.underlying46 rfl rfl Tryz.sizeOf40 (by decide)) ?_
    refine Tr.hT 8 rfl (by kernel_rfl) (panicThen (panicThen panicBody)) (QS.lV rfl Tryz.isAgg40) ?_
    refine Tr.hAll [6, 9] (by kernel_rfl) (by simp) (fun iq hq => ?_)
    rcases List.mem_cons.1 hq with rfl | hq
    ·skip
     refine Tr.hOp rfl ?_
     refine Tr.litN (E := encU8) [u8 (64 + (i.op - 5)), u8 i.a] (vs := [(0, _), (1, _)]) rfl rfl Tryz.underlying41 Tryz.sizeOf5 Tryz.zeroValue5 (by rfl) (by rfl) rfl (by first | kernel_rfl | rfl) rfl (fun V7 => ?_)
     refine Tr.hN ?_
     refine Tr.hAll [9] (by kernel_rfl) (by simp) (fun iq hq => ?_)
     obtain rfl := List.mem_singleton.1 hq
     refine Tr.hOp rfl ?_
     refine Tr.callRow rfl Tryz.call122 (fun w hw => word_any i.imm w) rfl (fun V8 => ?_)
     refine Tr.hN ?_
     refine Tr.hAll [10] (by kernel_rfl) (by simp) (fun iq hq => ?_)
     obtain rfl := List.mem_singleton.1 hq
     refine Tr.hOp rfl ?_
     refine Tr.append1 rfl rfl (by repeat constructor) (by repeat constructor) Tryz.underlying41 HLF.info5 (by rfl) (by rfl) (by simp [wordP]) (by unfold maxLen; simp [wordP]) rfl (fun V9 => ?_)
     refine Tr.hN ?_
     refine Tr.hT 11 rfl (by kernel_rfl) (panicThen (panicThen panicBody)) (QS.assign rfl) ?_
     refine Tr.hDone (by kernel_rfl) ?_
     refine Tr.thenN (Tr.ret (Tr.thenR ?_))
     refine Tr.ret1 Tryz.results113 rfl (fun w' hw => ?_)
     exact ⟨_, rfl, hw.below (Bg.le.refl _), by unfold bytesP; (repeat (first | rw [if_pos (by first | assumption | omega | grind)] | rw [if_neg (by first | assumption | omega | grind)])); exact hw.new (.head _)⟩
    obtain rfl := List.mem_singleton.1 hq
    refine Tr.hOp rfl ?_
    refine Tr.callRow rfl Tryz.call122 (fun w hw => word_any i.imm w) rfl (fun V10 => ?_)
    refine Tr.hN ?_
    refine Tr.hAll [6] (by kernel_rfl) (by simp) (fun iq hq => ?_)
    obtain rfl := List.mem_singleton.1 hq
    refine Tr.hOp rfl ?_
    refine Tr.litN (E := encU8) [u8 (64 + (i.op - 5)), u8 i.a] (vs := [(0, _), (1, _)]) rfl rfl Tryz.underlying41 Tryz.sizeOf5 Tryz.zeroValue5 (by rfl) (by rfl) rfl (by first | kernel_rfl | rfl) rfl (fun V11 => ?_)
    refine Tr.hN ?_
    refine Tr.hAll [10] (by kernel_rfl) (by simp) (fun iq hq => ?_)
    obtain rfl := List.mem_singleton.1 hq
    refine Tr.hOp rfl ?_
    refine Tr.append1 rfl rfl (by repeat constructor) (by repeat constructor) Tryz.underlying41 HLF.info5 (by rfl) (by rfl) (by simp [wordP]) (by unfold maxLen; simp [wordP]) rfl (fun V12 => ?_)
    refine Tr.hN ?_
    refine Tr.hT 11 rfl (by kernel_rfl) (panicThen (panicThen panicBody)) (QS.assign rfl) ?_
    refine Tr.hDone (by kernel_rfl) ?_
    refine Tr.thenN (Tr.ret (Tr.thenR ?_))
    refine Tr.ret1 Tryz.results113 rfl (fun w' hw => ?_)
    exact ⟨_, rfl, hw.below (Bg.le.refl _), by unfold bytesP; (repeat (first | rw [if_pos (by first | assumption | omega | grind)] | rw [if_neg (by first | assumption | omega | grind)])); exact hw.new (.head _)⟩
 ·try simp only [bs] at h2
  refine Tr.skip (Tr.thenN (Tr.seq (Tr.seq (Tr.region ?_))))
  refine Tr.q (QS.fieldAddr (off := 2) (ft := 3) rfl Tryz.underlying46 rfl rfl Tryz.sizeOf3 (by decide)) rfl ?_
  refine Tr.q (QS.lV rfl Tryz.isAgg3) rfl ?_
  refine Tr.q (QS.call rfl Tryz.call111 (fun w hw => isAccess_any i.op w)) rfl ?_
  refine Tr.nil (Tr.thenN ?_)
  refine Tr.cond rfl (fun h13 => ?_) (fun h13 => ?_)
  ·try simp only [bs] at h13
   refine Tr.seq ?_
   refine Tr.regionH ([cellE b1 (encIns.enc i) 46]) 10 rfl HLF.mixed ?_
   refine Tr.hT 0 rfl (by kernel_rfl) (panicThen (panicThen panicBody)) (QS.lW rfl Tryz.isAgg46 Tryz.sizeOf46) ?_
   refine Tr.hT 3 rfl (by kernel_rfl) (panicThen (panicThen panicBody)) (QS.move rfl) ?_
   refine Tr.hT 4 rfl (by kernel_rfl) (panicThen (panicThen panicBody)) (QS.fieldAddr (off := 1) (ft := 40) rfl Tryz.underlying46 rfl rfl Tryz.sizeOf40 (by decide)) ?_
   refine Tr.hT 5 rfl (by kernel_rfl) (panicThen (panicThen panicBody)) (QS.lV rfl Tryz.isAgg40) ?_
   refine Tr.hT 6 rfl (by kernel_rfl) (panicThen (panicThen panicBody)) (QS.rem32 (n := 256) rfl rfl (by first | decide | assumption)) ?_
   refine Tr.hT 7 rfl (by kernel_rfl) (panicThen (panicThen panicBody)) (QS.cvt32to8 rfl Tryz.underlying40 Tryz.underlying5) ?_
   refine Tr.hAll [1] (by kernel_rfl) (by simp) (fun iq hq => ?_)
   obtain rfl := List.mem_singleton.1 hq
   refine Tr.hOp rfl ?_
   refine Tr.q (QS.call rfl Tryz.call123 (fun w hw => accCode_any i w hwd)) rfl ?_
   refine Tr.hN ?_
   refine Tr.hT 2 rfl (by kernel_rfl) (panicThen (panicThen panicBody)) (QS.cvtTo8 rfl Tryz.underlying3 Tryz.underlying5) ?_
   refine Tr.hAll [8] (by kernel_rfl) (by simp) (fun iq hq => ?_)
   obtain rfl := List.mem_singleton.1 hq
   refine Tr.hOp rfl ?_
   refine Tr.litN (E := encU8) [u8 (accCodeP i), u8 (16 * i.a + i.b), (i.imm % 256).toUInt8] (vs := [(0, _), (1, _), (2, _)]) rfl rfl Tryz.underlying41 Tryz.sizeOf5 Tryz.zeroValue5 (by rfl) (by rfl) rfl (by first | kernel_rfl | rfl) rfl (fun V14 => ?_)
   refine Tr.hN ?_
   refine Tr.hT 9 rfl (by kernel_rfl) (panicThen (panicThen panicBody)) (QS.assign rfl) ?_
   refine Tr.hDone (by kernel_rfl) ?_
   refine Tr.thenN (Tr.ret (Tr.thenR ?_))
   refine Tr.ret1 Tryz.results113 rfl (fun w' hw => ?_)
   exact ⟨_, rfl, hw.below (Bg.le.refl _), by unfold bytesP; (repeat (first | rw [if_pos (by first | assumption | omega | grind)] | rw [if_neg (by first | assumption | omega | grind)])); exact hw.new (.head _)⟩
  ·try simp only [bs] at h13
   refine Tr.skip (Tr.thenN (Tr.seq (Tr.seq (Tr.region ?_))))
   refine Tr.q (QS.fieldAddr (off := 2) (ft := 3) rfl Tryz.underlying46 rfl rfl Tryz.sizeOf3 (by decide)) rfl ?_
   refine Tr.q (QS.lV rfl Tryz.isAgg3) rfl ?_
   refine Tr.nil (Tr.thenN (Tr.block (Tr.seq (Tr.region ?_))))
   refine Tr.q (QS.eql rfl rfl) rfl ?_
   refine Tr.q (QS.assign rfl) rfl ?_
   refine Tr.nil (Tr.thenN ?_)
   refine Tr.cond rfl (fun h15 => ?_) (fun h15 => ?_)
   ·try simp only [bs] at h15
    refine Tr.seq (Tr.region ?_)
    refine Tr.q (QS.move rfl) rfl ?_
    refine Tr.q (QS.fieldAddr (off := 1) (ft := 40) rfl Tryz.underlying46 rfl rfl Tryz.sizeOf40 (by decide)) rfl ?_
    refine Tr.q (QS.lV rfl Tryz.isAgg40) rfl ?_
    refine Tr.q (QS.rem32 (n := 256) rfl rfl (by first | decide | assumption)) rfl ?_
    refine Tr.q (QS.cvt32to8 rfl Tryz.underlying40 Tryz.underlying5) rfl ?_
    refine Tr.litN (E := encU8) [90, u8 (16 * i.a + i.b), (i.imm % 256).toUInt8] (vs := [(0, _), (1, _), (2, _)]) rfl rfl Tryz.underlying41 Tryz.sizeOf5 Tryz.zeroValue5 (by rfl) (by rfl) rfl (by first | kernel_rfl | rfl) rfl (fun V16 => ?_)
    refine Tr.q (QS.assign rfl) rfl ?_
    refine Tr.nil (Tr.thenN (Tr.ret ?_))
    refine Tr.inR ?_
    refine Tr.thenR ?_
    refine Tr.ret1 Tryz.results113 rfl (fun w' hw => ?_)
    exact ⟨_, rfl, hw.below (Bg.le.refl _), by unfold bytesP; (repeat (first | rw [if_pos (by first | assumption | omega | grind)] | rw [if_neg (by first | assumption | omega | grind)])); exact hw.new (.head _)⟩
   ·try simp only [bs] at h15
    refine Tr.seq (Tr.region ?_)
    refine Tr.q (QS.eql rfl rfl) rfl ?_
    refine Tr.q (QS.assign rfl) rfl ?_
    refine Tr.nil (Tr.thenN ?_)
    refine Tr.cond rfl (fun h17 => ?_) (fun h17 => ?_)
    ·try simp only [bs] at h17
     refine Tr.seq (Tr.seq (Tr.region ?_))
     refine Tr.q (QS.fieldAddr (off := 3) (ft := 3) rfl Tryz.underlying46 rfl rfl Tryz.sizeOf3 (by decide)) rfl ?_
     refine Tr.q (QS.lV rfl Tryz.isAgg3) rfl ?_
     refine Tr.q (QS.eql rfl rfl) rfl ?_
     refine Tr.nil (Tr.thenN ?_)
     refine Tr.cond rfl (fun h18 => ?_) (fun h18 => ?_)
     ·try simp only [bs] at h18
      refine Tr.seq (Tr.region ?_)
      refine Tr.q (QS.fieldAddr (off := 5) (ft := 3) rfl Tryz.underlying46 rfl rfl Tryz.sizeOf3 (by decide)) rfl ?_
      refine Tr.q (QS.lV rfl Tryz.isAgg3) rfl ?_
      refine Tr.q (QS.addI rfl rfl (by omega)) rfl ?_
      refine Tr.q (QS.cvtTo8 rfl Tryz.underlying3 Tryz.underlying5) rfl ?_
      refine Tr.q (QS.fieldAddr (off := 1) (ft := 40) rfl Tryz.underlying46 rfl rfl Tryz.sizeOf40 (by decide)) rfl ?_
      refine Tr.q (QS.lV rfl Tryz.isAgg40) rfl ?_
      refine Tr.q (QS.fieldAddr (off := 0) (ft := 40) rfl Tryz.underlying46 rfl rfl Tryz.sizeOf40 (by decide)) rfl ?_
      refine Tr.q (QS.lV rfl Tryz.isAgg40) rfl ?_
      refine Tr.q (QS.sub32 rfl rfl) rfl ?_
      refine Tr.q (QS.sub32 (n := 2) rfl rfl) rfl ?_
      refine Tr.q (QS.rem32 (n := 256) rfl rfl (by first | decide | assumption)) rfl ?_
      refine Tr.q (QS.cvt32to8 rfl Tryz.underlying40 Tryz.underlying5) rfl ?_
      refine Tr.litN (E := encU8) [u8 (96 + i.cc), ((i.imm - i.addr - 2) % 256).toUInt8] (vs := [(0, _), (1, _)]) rfl rfl Tryz.underlying41 Tryz.sizeOf5 Tryz.zeroValue5 (by rfl) (by rfl) rfl (by first | kernel_rfl | rfl) rfl (fun V19 => ?_)
      refine Tr.q (QS.assign rfl) rfl ?_
      refine Tr.nil (Tr.thenN (Tr.ret (Tr.thenR ?_)))
      refine Tr.inR ?_
      refine Tr.thenR ?_
      refine Tr.ret1 Tryz.results113 rfl (fun w' hw => ?_)
      exact ⟨_, rfl, hw.below (Bg.le.refl _), by unfold bytesP; (repeat (first | rw [if_pos (by first | assumption | omega | grind)] | rw [if_neg (by first | assumption | omega | grind)])); exact hw.new (.head _)⟩
     ·try simp only [bs] at h18
      refine Tr.skip (Tr.thenN (Tr.seq ?_))
      refine Tr.regionH ([cellE b1 (encIns.enc i) 46]) 14 rfl HLF.mixed ?_
      refine Tr.hT 0 rfl (by kernel_rfl) (panicThen (panicIn (panicThen panicBody))) (QS.fieldAddr (off := 5) (ft := 3) rfl Tryz.underlying46 rfl rfl Tryz.sizeOf3 (by decide)) ?_
      refine Tr.hT 1 rfl (by kernel_rfl) (panicThen (panicIn (panicThen panicBody))) (QS.lV rfl Tryz.isAgg3) ?_
      refine Tr.hT 2 rfl (by kernel_rfl) (panicThen (panicIn (panicThen panicBody))) (QS.addI rfl rfl (by omega)) ?_
      refine Tr.hT 3 rfl (by kernel_rfl) (panicThen (panicIn (panicThen panicBody))) (QS.cvtTo8 rfl Tryz.underlying3 Tryz.underlying5) ?_
      refine Tr.hT 5 rfl (by kernel_rfl) (panicThen (panicIn (panicThen panicBody))) (QS.fieldAddr (off := 1) (ft := 40) rfl Tryz.underlying46 rfl rfl Tryz.sizeOf40 (by decide)) ?_
      refine Tr.hT 6 rfl (by kernel_rfl) (panicThen (panicIn (panicThen panicBody))) (QS.lV rfl Tryz.isAgg40) ?_
      refine Tr.hT 7 rfl (by kernel_rfl) (panicThen (panicIn (panicThen panicBody))) (QS.fieldAddr (off := 0) (ft := 40) rfl Tryz.underlying46 rfl rfl Tryz.sizeOf40 (by decide)) ?_
      refine Tr.hT 8 rfl (by kernel_rfl) (panicThen (panicIn (panicThen panicBody))) (QS.lV rfl Tryz.isAgg40) ?_
      refine Tr.hT 9 rfl (by kernel_rfl) (panicThen (panicIn (panicThen panicBody))) (QS.sub32 rfl rfl) ?_
      refine Tr.hT 10 rfl (by kernel_rfl) (panicThen (panicIn (panicThen panicBody))) (QS.sub32 (n := 5) rfl rfl) ?_
      refine Tr.hAll [4, 11] (by kernel_rfl) (by simp) (fun iq hq => ?_)
      rcases List.mem_cons.1 hq with rfl | hq
      ·skip
       refine Tr.hOp rfl ?_
       refine Tr.lit1 (E := encU8) _ rfl rfl Tryz.underlying41 Tryz.sizeOf5 Tryz.zeroValue5 (by rfl) (by rfl) rfl (fun V20 => ?_)
       refine Tr.hN ?_
       refine Tr.hAll [11] (by kernel_rfl) (by simp) (fun iq hq => ?_)
       obtain rfl := List.mem_singleton.1 hq
       refine Tr.hOp rfl ?_
       refine Tr.callRow rfl Tryz.call122 (fun w hw => word_any (i.imm - i.addr - 5) w) rfl (fun V21 => ?_)
       refine Tr.hN ?_
       refine Tr.hAll [12] (by kernel_rfl) (by simp) (fun iq hq => ?_)
       obtain rfl := List.mem_singleton.1 hq
       refine Tr.hOp rfl ?_
       refine Tr.append1 rfl rfl (by repeat constructor) (by repeat constructor) Tryz.underlying41 HLF.info5 (by rfl) (by rfl) (by simp [wordP]) (by unfold maxLen; simp [wordP]) rfl (fun V22 => ?_)
       refine Tr.hN ?_
       refine Tr.hT 13 rfl (by kernel_rfl) (panicThen (panicIn (panicThen panicBody))) (QS.assign rfl) ?_
       refine Tr.hDone (by kernel_rfl) ?_
       refine Tr.thenN (Tr.ret ?_)
       refine Tr.inR ?_
       refine Tr.thenR ?_
       refine Tr.ret1 Tryz.results113 rfl (fun w' hw => ?_)
       exact ⟨_, rfl, hw.below (Bg.le.refl _), by unfold bytesP; (repeat (first | rw [if_pos (by first | assumption | omega | grind)] | rw [if_neg (by first | assumption | omega | grind)])); exact hw.new (.head _)⟩
      obtain rfl := List.mem_singleton.1 hq
      refine Tr.hOp rfl ?_
      refine Tr.callRow rfl Tryz.call122 (fun w hw => word_any (i.imm - i.addr - 5) w) rfl (fun V23 => ?_)
      refine Tr.hN ?_
      refine Tr.hAll [4] (by kernel_rfl) (by simp) (fun iq hq => ?_)
      obtain rfl := List.mem_singleton.1 hq
      refine Tr.hOp rfl ?_
      refine Tr.lit1 (E := encU8) _ rfl rfl Tryz.underlying41 Tryz.sizeOf5 Tryz.zeroValue5 (by rfl) (by rfl) rfl (fun V24 => ?_)
      refine Tr.hN ?_
      refine Tr.hAll [12] (by kernel_rfl) (by simp) (fun iq hq => ?_)
      obtain rfl := List.mem_singleton.1 hq
      refine Tr.hOp rfl ?_
      refine Tr.append1 rfl rfl (by repeat constructor) (by repeat constructor) Tryz.underlying41 HLF.info5 (by rfl) (by rfl) (by simp [wordP]) (by unfold maxLen; simp [wordP]) rfl (fun V25 => ?_)
      refine Tr.hN ?_
      refine Tr.hT 13 rfl (by kernel_rfl) (panicThen (panicIn (panicThen panicBody))) (QS.assign rfl) ?_
      refine Tr.hDone (by kernel_rfl) ?_
      refine Tr.thenN (Tr.ret ?_)
      refine Tr.inR ?_
      refine Tr.thenR ?_
      refine Tr.ret1 Tryz.results113 rfl (fun w' hw => ?_)
      exact ⟨_, rfl, hw.below (Bg.le.refl _), by unfold bytesP; (repeat (first | rw [if_pos (by first | assumption | omega | grind)] | rw [if_neg (by first | assumption | omega | grind)])); exact hw.new (.head _)⟩
    ·try simp only [bs] at h17
     refine Tr.seq (Tr.region ?_)
     refine Tr.q (QS.eql rfl rfl) rfl ?_
     refine Tr.q (QS.assign rfl) rfl ?_
     refine Tr.nil (Tr.thenN ?_)
     refine Tr.cond rfl (fun h26 => ?_) (fun h26 => ?_)
     ·try simp only [bs] at h26
      refine Tr.seq (Tr.region ?_)
      refine Tr.lit1 (E := encU8) (128 : UInt8) rfl rfl Tryz.underlying41 Tryz.sizeOf5 Tryz.zeroValue5 (by rfl) (by rfl) rfl (fun V27 => ?_)
      refine Tr.q (QS.fieldAddr (off := 1) (ft := 40) rfl Tryz.underlying46 rfl rfl Tryz.sizeOf40 (by decide)) rfl ?_
      refine Tr.q (QS.lV rfl Tryz.isAgg40) rfl ?_
      refine Tr.q (QS.fieldAddr (off := 0) (ft := 40) rfl Tryz.underlying46 rfl rfl Tryz.sizeOf40 (by decide)) rfl ?_
      refine Tr.q (QS.lV rfl Tryz.isAgg40) rfl ?_
      refine Tr.q (QS.sub32 rfl rfl) rfl ?_
      refine Tr.q (QS.sub32 (n := 5) rfl rfl) rfl ?_
      refine Tr.callRow rfl Tryz.call122 (fun w hw => word_any (i.imm - i.addr - 5) w) rfl (fun V28 => ?_)
      refine Tr.append1 rfl rfl (by repeat constructor) (by repeat constructor) Tryz.underlying41 HLF.info5 (by rfl) (by rfl) (by simp [wordP]) (by unfold maxLen; simp [wordP]) rfl (fun V29 => ?_)
      refine Tr.q (QS.assign rfl) rfl ?_
      refine Tr.nil (Tr.thenN (Tr.ret ?_))
      refine Tr.inR ?_
      refine Tr.thenR ?_
      refine Tr.ret1 Tryz.results113 rfl (fun w' hw => ?_)
      exact ⟨_, rfl, hw.below (Bg.le.refl _), by unfold bytesP; (repeat (first | rw [if_pos (by first | assumption | omega | grind)] | rw [if_neg (by first | assumption | omega | grind)])); exact hw.new (.head _)⟩
     ·try simp only [bs] at h26
      refine Tr.seq (Tr.region ?_)
      refine Tr.q (QS.eql rfl rfl) rfl ?_
      refine Tr.q (QS.assign rfl) rfl ?_
      refine Tr.nil (Tr.thenN ?_)
      refine Tr.cond rfl (fun h30 => ?_) (fun h30 => ?_)
      ·try simp only [bs] at h30
       refine Tr.seq ?_
       refine Tr.regionH ([cellE b1 (encIns.enc i) 46]) 9 rfl HLF.mixed ?_
       refine Tr.hT 0 rfl (by kernel_rfl) (panicThen (panicIn (panicThen panicBody))) (QS.fieldAddr (off := 6) (ft := 3) rfl Tryz.underlying46 rfl rfl Tryz.sizeOf3 (by decide)) ?_
       refine Tr.hT 1 rfl (by kernel_rfl) (panicThen (panicIn (panicThen panicBody))) (QS.lV rfl Tryz.isAgg3) ?_
       refine Tr.hT 2 rfl (by kernel_rfl) (panicThen (panicIn (panicThen panicBody))) (QS.cvtTo8 rfl Tryz.underlying3 Tryz.underlying5) ?_
       refine Tr.hT 4 rfl (by kernel_rfl) (panicThen (panicIn (panicThen panicBody))) (QS.fieldAddr (off := 1) (ft := 40) rfl Tryz.underlying46 rfl rfl Tryz.sizeOf40 (by decide)) ?_
       refine Tr.hT 5 rfl (by kernel_rfl) (panicThen (panicIn (panicThen panicBody))) (QS.lV rfl Tryz.isAgg40) ?_
       refine Tr.hAll [3, 6] (by kernel_rfl) (by simp) (fun iq hq => ?_)
       rcases List.mem_cons.1 hq with rfl | hq
       ·skip
        refine Tr.hOp rfl ?_
        refine Tr.litN (E := encU8) [131, u8 i.a] (vs := [(0, _), (1, _)]) rfl rfl Tryz.underlying41 Tryz.sizeOf5 Tryz.zeroValue5 (by rfl) (by rfl) rfl (by first | kernel_rfl | rfl) rfl (fun V31 => ?_)
        refine Tr.hN ?_
        refine Tr.hAll [6] (by kernel_rfl) (by simp) (fun iq hq => ?_)
        obtain rfl := List.mem_singleton.1 hq
        refine Tr.hOp rfl ?_
        refine Tr.callRow rfl Tryz.call122 (fun w hw => word_any i.imm w) rfl (fun V32 => ?_)
        refine Tr.hN ?_
        refine Tr.hAll [7] (by kernel_rfl) (by simp) (fun iq hq => ?_)
        obtain rfl := List.mem_singleton.1 hq
        refine Tr.hOp rfl ?_
        refine Tr.append1 rfl rfl (by repeat constructor) (by repeat constructor) Tryz.underlying41 HLF.info5 (by rfl) (by rfl) (by simp [wordP]) (by unfold maxLen; simp [wordP]) rfl (fun V33 => ?_)
        refine Tr.hN ?_
        refine Tr.hT 8 rfl (by kernel_rfl) (panicThen (panicIn (panicThen panicBody))) (QS.assign rfl) ?_
        refine Tr.hDone (by kernel_rfl) ?_
        refine Tr.thenN (Tr.ret ?_)
        refine Tr.inR ?_
        refine Tr.thenR ?_
        refine Tr.ret1 Tryz.results113 rfl (fun w' hw => ?_)
        exact ⟨_, rfl, hw.below (Bg.le.refl _), by unfold bytesP; (repeat (first | rw [if_pos (by first | assumption | omega | grind)] | rw [if_neg (by first | assumption | omega | grind)])); exact hw.new (.head _)⟩
       obtain rfl := List.mem_singleton.1 hq
       refine Tr.hOp rfl ?_
       refine Tr.callRow rfl Tryz.call122 (fun w hw => word_any i.imm w) rfl (fun V34 => ?_)
       refine Tr.hN ?_
       refine Tr.hAll [3] (by kernel_rfl) (by simp) (fun iq hq => ?_)
       obtain rfl := List.mem_singleton.1 hq
       refine Tr.hOp rfl ?_
       refine Tr.litN (E := encU8) [131, u8 i.a] (vs := [(0, _), (1, _)]) rfl rfl Tryz.underlying41 Tryz.sizeOf5 Tryz.zeroValue5 (by rfl) (by rfl) rfl (by first | kernel_rfl | rfl) rfl (fun V35 => ?_)
       refine Tr.hN ?_
       refine Tr.hAll [7] (by kernel_rfl) (by simp) (fun iq hq => ?_)
       obtain rfl := List.mem_singleton.1 hq
       refine Tr.hOp rfl ?_
       refine Tr.append1 rfl rfl (by repeat constructor) (by repeat constructor) Tryz.underlying41 HLF.info5 (by rfl) (by rfl) (by simp [wordP]) (by unfold maxLen; simp [wordP]) rfl (fun V36 => ?_)
       refine Tr.hN ?_
       refine Tr.hT 8 rfl (by kernel_rfl) (panicThen (panicIn (panicThen panicBody))) (QS.assign rfl) ?_
       refine Tr.hDone (by kernel_rfl) ?_
       refine Tr.thenN (Tr.ret ?_)
       refine Tr.inR ?_
       refine Tr.thenR ?_
       refine Tr.ret1 Tryz.results113 rfl (fun w' hw => ?_)
       exact ⟨_, rfl, hw.below (Bg.le.refl _), by unfold bytesP; (repeat (first | rw [if_pos (by first | assumption | omega | grind)] | rw [if_neg (by first | assumption | omega | grind)])); exact hw.new (.head _)⟩
      ·try simp only [bs] at h30
       refine Tr.skip (Tr.inN (Tr.thenN (Tr.seq (Tr.region ?_))))
       refine Tr.q (QS.lW rfl Tryz.isAgg46 Tryz.sizeOf46) rfl ?_
       refine Tr.callRow rfl Tryz.call124 (fun w hw => plain_any i w hcc) rfl (fun V37 => ?_)
       refine Tr.q (QS.assign rfl) rfl ?_
       refine Tr.nil (Tr.thenN (Tr.ret ?_))
       refine Tr.ret1 Tryz.results113 rfl (fun w' hw => ?_)
       exact ⟨_, rfl, hw.below (Bg.le.refl _), by unfold bytesP; (repeat (first | rw [if_pos (by first | assumption | omega | grind)] | rw [if_neg (by first | assumption | omega | grind)])); exact hw.new (.head _)⟩
set_option maxRecDepth 100000 in
set_option maxHeartbeats 2000000 in
theorem refLength_any (i : Ins) (w : World) (hI : InsOK i) :
  Calls Tryz.prog 85 #[.agg (encIns.enc i).toArray] w (fun e w' => e = .returned (.int .i64 (refLenP i)) ∧ Ext w w') := by
 refine enter Tryz.func85 rfl Tryz.ntmps85 rfl ?_
 refine Tr.seq (Tr.region ?_)
 refine Tr.box rfl rfl rfl (fun b1 => ?_)
 refine Tr.q (QS.assign rfl) rfl ?_
 refine Tr.nil (Tr.thenN (Tr.seq (Tr.seq (Tr.region ?_))))
 refine Tr.q (QS.lW rfl Tryz.isAgg46 Tryz.sizeOf46) rfl ?_
 refine Tr.q (QS.call rfl Tryz.call60 (fun w hw => refValid_any i w)) rfl ?_
 refine Tr.q (QS.not rfl) rfl ?_
 refine Tr.nil (Tr.thenN ?_)
 refine Tr.cond rfl (fun h2 => ?_) (fun h2 => ?_)
 ·try simp only [bs] at h2
  refine Tr.seq (Tr.region ?_)
  refine Tr.q (QS.assign rfl) rfl ?_
  refine Tr.nil (Tr.thenN (Tr.ret (Tr.thenR ?_)))
  refine Tr.ret1 Tryz.results85 rfl (fun w' hw => ?_)
  exact ⟨by unfold refLenP; rw [if_neg (by assumption)], hw.below (Bg.le.refl _)⟩
 ·try simp only [bs] at h2
  refine Tr.skip (Tr.thenN (Tr.seq ?_))
  have he : refErrP i = 0 := (by first | assumption | grind)
  have hv := refErr_valid he
  refine Tr.region ?_
  refine Tr.q (QS.lW rfl Tryz.isAgg46 Tryz.sizeOf46) rfl ?_
  refine Tr.callRow rfl Tryz.call113 (fun w hw => bytesOf_any i w hv.1 hv.2.1 hv.2.2.1 hv.2.2.2.1 hv.2.2.2.2) rfl (fun V3 => ?_)
  refine Tr.q (QS.lenRow rfl (by repeat constructor) Tryz.underlying41) rfl ?_
  refine Tr.q (QS.assign rfl) rfl ?_
  refine Tr.nil (Tr.thenN (Tr.ret ?_))
  refine Tr.ret1 Tryz.results85 rfl (fun w' hw => ?_)
  exact ⟨by unfold refLenP; rw [if_pos he], hw.below (Bg.le.refl _)⟩
set_option maxRecDepth 100000 in
set_option maxHeartbeats 2000000 in
theorem refNext_any (i : Ins) (w : World) (hI : InsOK i) :
  Calls Tryz.prog 63 #[.agg (encIns.enc i).toArray] w (fun e w' => e = .returned (.int .u32 (i.addr + u32 (refLenP i)).toNat) ∧ Ext w w') := by
 refine enter Tryz.func63 rfl Tryz.ntmps63 rfl ?_
 refine Tr.seq (Tr.region ?_)
 refine Tr.box rfl rfl rfl (fun b1 => ?_)
 refine Tr.q (QS.assign rfl) rfl ?_
 refine Tr.nil (Tr.thenN (Tr.seq ?_))
 refine Tr.regionQ HLF.mixed (by kernel_rfl) ?_
 refine TrQ.q (QS.fieldAddr (off := 0) (ft := 40) rfl Tryz.underlying46 rfl rfl Tryz.sizeOf40 (by decide)) rfl ?_
 refine TrQ.q (QS.lV rfl Tryz.isAgg40) rfl ?_
 refine TrQ.q (QS.lW rfl Tryz.isAgg46 Tryz.sizeOf46) rfl ?_
 refine TrQ.q (QS.call rfl Tryz.call85 (fun w hw => refLength_any i w hI)) rfl ?_
 refine TrQ.q (QS.cvtTo32 rfl Tryz.underlying3 Tryz.underlying40) rfl ?_
 refine TrQ.q (QS.add32 rfl rfl) rfl ?_
 refine TrQ.q (QS.assign rfl) rfl ?_
 refine TrQ.nil ?_
 refine Tr.thenN (Tr.ret ?_)
 refine Tr.ret1 Tryz.results63 rfl (fun w' hw => ?_)
 exact ⟨rfl, hw.below (Bg.le.refl _)⟩
set_option maxRecDepth 100000 in
set_option maxHeartbeats 2000000 in
theorem refEnds_any (i : Ins) (w : World) :
  Calls Tryz.prog 62 #[.agg (encIns.enc i).toArray] w (fun e w' => e = .returned (.bool (endsP i)) ∧ Ext w w') := by
 refine enter Tryz.func62 rfl Tryz.ntmps62 rfl ?_
 refine Tr.seq (Tr.region ?_)
 refine Tr.box rfl rfl rfl (fun b1 => ?_)
 refine Tr.q (QS.assign rfl) rfl ?_
 refine Tr.nil (Tr.thenN (Tr.seq (Tr.region ?_)))
 refine Tr.q (QS.fieldAddr (off := 2) (ft := 3) rfl Tryz.underlying46 rfl rfl Tryz.sizeOf3 (by decide)) rfl ?_
 refine Tr.q (QS.lV rfl Tryz.isAgg3) rfl ?_
 refine Tr.q (QS.eql rfl rfl) rfl ?_
 refine Tr.q (QS.move rfl) rfl ?_
 apply Tr.orP
 ·exact (rfl : _ = (4, 6, 10))
 ·exact rfl
 ·intro hF2; have hF2' := hF2
  try simp only [bs] at hF2'
  refine Tr.gq rfl rfl hF2 (QS.fieldAddr (off := 2) (ft := 3) rfl Tryz.underlying46 rfl rfl Tryz.sizeOf3 (by decide)) rfl ?_
  refine Tr.gq rfl rfl hF2 (QS.lV rfl Tryz.isAgg3) rfl ?_
  refine Tr.gq rfl rfl hF2 (QS.eql rfl rfl) rfl ?_
  refine Tr.q (QS.pickF rfl hF2 rfl) rfl ?_
  refine Tr.nil (Tr.thenN ?_)
  exact Tr.endX (Sub.cons rfl (Sub.dropN 4 (by kernel_rfl) rfl))
 ·intro hT2
  refine Tr.gskip rfl rfl hT2 rfl ?_
  refine Tr.gskip rfl rfl hT2 rfl ?_
  refine Tr.gskip rfl rfl hT2 rfl ?_
  refine Tr.q (QS.pickT rfl hT2 rfl) rfl ?_
  refine Tr.nil (Tr.thenN ?_)
  exact Tr.endX (Sub.cons rfl (Sub.dropN 4 (by kernel_rfl) rfl))
 refine Tr.q (QS.move rfl) rfl ?_
 apply Tr.orP
 ·exact (rfl : _ = (4, 11, 15))
 ·exact rfl
 ·intro hF3; have hF3' := hF3
  try simp only [bs] at hF3'
  refine Tr.gq rfl rfl hF3 (QS.fieldAddr (off := 2) (ft := 3) rfl Tryz.underlying46 rfl rfl Tryz.sizeOf3 (by decide)) rfl ?_
  refine Tr.gq rfl rfl hF3 (QS.lV rfl Tryz.isAgg3) rfl ?_
  refine Tr.gq rfl rfl hF3 (QS.eql rfl rfl) rfl ?_
  refine Tr.q (QS.pickF rfl hF3 rfl) rfl ?_
  refine Tr.nil (Tr.thenN ?_)
  exact Tr.endX (Sub.cons rfl (Sub.dropN 4 (by kernel_rfl) rfl))
 ·intro hT3
  refine Tr.gskip rfl rfl hT3 rfl ?_
  refine Tr.gskip rfl rfl hT3 rfl ?_
  refine Tr.gskip rfl rfl hT3 rfl ?_
  refine Tr.q (QS.pickT rfl hT3 rfl) rfl ?_
  refine Tr.nil (Tr.thenN ?_)
  exact Tr.endX (Sub.cons rfl (Sub.dropN 4 (by kernel_rfl) rfl))
 refine Tr.q (QS.move rfl) rfl ?_
 apply Tr.orP
 ·exact (rfl : _ = (4, 16, 20))
 ·exact rfl
 ·intro hF4; have hF4' := hF4
  try simp only [bs] at hF4'
  refine Tr.gq rfl rfl hF4 (QS.fieldAddr (off := 2) (ft := 3) rfl Tryz.underlying46 rfl rfl Tryz.sizeOf3 (by decide)) rfl ?_
  refine Tr.gq rfl rfl hF4 (QS.lV rfl Tryz.isAgg3) rfl ?_
  refine Tr.gq rfl rfl hF4 (QS.eql rfl rfl) rfl ?_
  refine Tr.q (QS.pickF rfl hF4 rfl) rfl ?_
  refine Tr.nil (Tr.thenN ?_)
  exact Tr.endX (Sub.cons rfl (Sub.dropN 4 (by kernel_rfl) rfl))
 ·intro hT4
  refine Tr.gskip rfl rfl hT4 rfl ?_
  refine Tr.gskip rfl rfl hT4 rfl ?_
  refine Tr.gskip rfl rfl hT4 rfl ?_
  refine Tr.q (QS.pickT rfl hT4 rfl) rfl ?_
  refine Tr.nil (Tr.thenN ?_)
  exact Tr.endX (Sub.cons rfl (Sub.dropN 4 (by kernel_rfl) rfl))
 refine Tr.q (QS.move rfl) rfl ?_
 apply Tr.orP
 ·exact (rfl : _ = (9, 21, 30))
 ·exact rfl
 ·intro hF5; have hF5' := hF5
  try simp only [bs] at hF5'
  refine Tr.gq rfl rfl hF5 (QS.fieldAddr (off := 2) (ft := 3) rfl Tryz.underlying46 rfl rfl Tryz.sizeOf3 (by decide)) rfl ?_
  refine Tr.gq rfl rfl hF5 (QS.lV rfl Tryz.isAgg3) rfl ?_
  refine Tr.gq rfl rfl hF5 (QS.eql rfl rfl) rfl ?_
  refine Tr.gq rfl rfl hF5 (QS.move rfl) rfl ?_
  apply Tr.andP
  ·exact (rfl : _ = (4, 25, 29))
  ·exact rfl
  ·intro hT6; have hT6' := hT6
   try simp only [bs] at hT6'
   refine Tr.gq rfl rfl hT6 (QS.fieldAddr (off := 5) (ft := 3) rfl Tryz.underlying46 rfl rfl Tryz.sizeOf3 (by decide)) rfl ?_
   refine Tr.gq rfl rfl hT6 (QS.lV rfl Tryz.isAgg3) rfl ?_
   refine Tr.gq rfl rfl hT6 (QS.eql rfl rfl) rfl ?_
   refine Tr.gq rfl rfl hF5 (QS.pickT rfl hT6 rfl) rfl ?_
   refine Tr.nil (Tr.thenN ?_)
   exact Tr.endX (Sub.cons rfl (Sub.dropN 4 (by kernel_rfl) rfl))
  ·intro hF6
   refine Tr.gskip rfl rfl hF6 rfl ?_
   refine Tr.gskip rfl rfl hF6 rfl ?_
   refine Tr.gskip rfl rfl hF6 rfl ?_
   refine Tr.gq rfl rfl hF5 (QS.pickF rfl hF6 rfl) rfl ?_
   refine Tr.nil (Tr.thenN ?_)
   exact Tr.endX (Sub.cons rfl (Sub.dropN 4 (by kernel_rfl) rfl))
  refine Tr.q (QS.pickF rfl hF5 rfl) rfl ?_
  refine Tr.nil (Tr.thenN ?_)
  exact Tr.endX (Sub.cons rfl (Sub.dropN 6 (by kernel_rfl) rfl))
 ·intro hT5
  refine Tr.gskip rfl rfl hT5 rfl ?_
  refine Tr.gskip rfl rfl hT5 rfl ?_
  refine Tr.gskip rfl rfl hT5 rfl ?_
  refine Tr.gskip rfl rfl hT5 rfl ?_
  refine Tr.gskipU rfl rfl rfl ?_
  refine Tr.gskipU rfl rfl rfl ?_
  refine Tr.gskipU rfl rfl rfl ?_
  refine Tr.gskip rfl rfl hT5 rfl ?_
  refine Tr.q (QS.pickT rfl hT5 rfl) rfl ?_
  refine Tr.nil (Tr.thenN ?_)
  exact Tr.endX (Sub.cons rfl (Sub.dropN 9 (by kernel_rfl) rfl))
 refine Tr.q (QS.assign rfl) rfl ?_
 refine Tr.nil (Tr.thenN (Tr.ret ?_))
 refine Tr.ret1 Tryz.results62 rfl (fun w' hw => ?_)
 exact ⟨by clear hw; unfold endsP; congr 2; rw [Bool.eq_iff_iff]; simp; omega, hw.below (Bg.le.refl _)⟩
set_option maxRecDepth 100000 in
set_option maxHeartbeats 2000000 in
theorem refTarget_any (i : Ins) (w : World) :
  Calls Tryz.prog 61 #[.agg (encIns.enc i).toArray] w (fun e w' => e = .returned (.tuple #[.int .u32 (targetP i).1.toNat, .bool (targetP i).2]) ∧ Ext w w') := by
 refine enter Tryz.func61 rfl Tryz.ntmps61 rfl ?_
 refine Tr.seq (Tr.region ?_)
 refine Tr.box rfl rfl rfl (fun b1 => ?_)
 refine Tr.q (QS.assign rfl) rfl ?_
 refine Tr.q (QS.assign rfl) rfl ?_
 refine Tr.nil (Tr.thenN (Tr.seq (Tr.seq (Tr.region ?_))))
 refine Tr.q (QS.fieldAddr (off := 2) (ft := 3) rfl Tryz.underlying46 rfl rfl Tryz.sizeOf3 (by decide)) rfl ?_
 refine Tr.q (QS.lV rfl Tryz.isAgg3) rfl ?_
 refine Tr.q (QS.eql rfl rfl) rfl ?_
 refine Tr.q (QS.move rfl) rfl ?_
 apply Tr.orP
 ·exact (rfl : _ = (4, 7, 11))
 ·exact rfl
 ·intro hF2; have hF2' := hF2
  try simp only [bs] at hF2'
  refine Tr.gq rfl rfl hF2 (QS.fieldAddr (off := 2) (ft := 3) rfl Tryz.underlying46 rfl rfl Tryz.sizeOf3 (by decide)) rfl ?_
  refine Tr.gq rfl rfl hF2 (QS.lV rfl Tryz.isAgg3) rfl ?_
  refine Tr.gq rfl rfl hF2 (QS.eql rfl rfl) rfl ?_
  refine Tr.q (QS.pickF rfl hF2 rfl) rfl ?_
  refine Tr.nil (Tr.thenN ?_)
  exact Tr.endX (Sub.cons rfl (Sub.dropN 4 (by kernel_rfl) rfl))
 ·intro hT2
  refine Tr.gskip rfl rfl hT2 rfl ?_
  refine Tr.gskip rfl rfl hT2 rfl ?_
  refine Tr.gskip rfl rfl hT2 rfl ?_
  refine Tr.q (QS.pickT rfl hT2 rfl) rfl ?_
  refine Tr.nil (Tr.thenN ?_)
  exact Tr.endX (Sub.cons rfl (Sub.dropN 4 (by kernel_rfl) rfl))
 refine Tr.nil (Tr.thenN ?_)
 refine Tr.cond rfl (fun h3 => ?_) (fun h3 => ?_)
 ·try simp only [bs] at h3
  refine Tr.seq (Tr.region ?_)
  refine Tr.q (QS.fieldAddr (off := 1) (ft := 40) rfl Tryz.underlying46 rfl rfl Tryz.sizeOf40 (by decide)) rfl ?_
  refine Tr.q (QS.lV rfl Tryz.isAgg40) rfl ?_
  refine Tr.q (QS.assign rfl) rfl ?_
  refine Tr.q (QS.assign rfl) rfl ?_
  refine Tr.nil (Tr.thenN (Tr.ret (Tr.thenR ?_)))
  refine Tr.ret2 Tryz.results61 rfl rfl (fun w' hw => ?_)
  exact ⟨by clear hw; unfold targetP; (repeat (first | rw [if_pos (by first | assumption | omega | grind)] | rw [if_neg (by first | assumption | omega | grind)])) <;> rfl, hw.below (Bg.le.refl _)⟩
 ·try simp only [bs] at h3
  refine Tr.skip (Tr.thenN (Tr.seq (Tr.region ?_)))
  refine Tr.q (QS.assign rfl) rfl ?_
  refine Tr.q (QS.assign rfl) rfl ?_
  refine Tr.nil (Tr.thenN (Tr.ret ?_))
  refine Tr.ret2 Tryz.results61 rfl rfl (fun w' hw => ?_)
  exact ⟨by clear hw; unfold targetP; (repeat (first | rw [if_pos (by first | assumption | omega | grind)] | rw [if_neg (by first | assumption | omega | grind)])) <;> rfl, hw.below (Bg.le.refl _)⟩
set_option maxRecDepth 100000 in
set_option maxHeartbeats 2000000 in
theorem sized_any (c : Int) (w : World) :
  Calls Tryz.prog 57 #[.int .i64 c] w (fun e w' => e = .returned (.int .i64 (sizedP c)) ∧ Ext w w') := by
 refine enter Tryz.func57 rfl Tryz.ntmps57 rfl ?_
 refine Tr.seq (Tr.region ?_)
 refine Tr.q (QS.assign rfl) rfl ?_
 refine Tr.nil (Tr.thenN (Tr.seq (Tr.block (Tr.seq (Tr.region ?_)))))
 refine Tr.q (QS.move rfl) rfl ?_
 refine Tr.q (QS.leq rfl rfl) rfl ?_
 refine Tr.q (QS.move rfl) rfl ?_
 apply Tr.orP
 ·exact (rfl : _ = (7, 6, 13))
 ·exact rfl
 ·intro hF1; have hF1' := hF1
  try simp only [bs] at hF1'
  refine Tr.gq rfl rfl hF1 (QS.move rfl) rfl ?_
  refine Tr.gq rfl rfl hF1 (QS.geq rfl rfl) rfl ?_
  refine Tr.gq rfl rfl hF1 (QS.move rfl) rfl ?_
  apply Tr.andP
  ·exact (rfl : _ = (3, 9, 12))
  ·exact rfl
  ·intro hT2; have hT2' := hT2
   try simp only [bs] at hT2'
   refine Tr.gq rfl rfl hT2 (QS.move rfl) rfl ?_
   refine Tr.gq rfl rfl hT2 (QS.leq rfl rfl) rfl ?_
   refine Tr.gq rfl rfl hF1 (QS.pickT rfl hT2 rfl) rfl ?_
   refine Tr.nil (Tr.thenN ?_)
   exact Tr.endX (Sub.cons rfl (Sub.dropN 3 (by kernel_rfl) rfl))
  ·intro hF2
   refine Tr.gskip rfl rfl hF2 rfl ?_
   refine Tr.gskip rfl rfl hF2 rfl ?_
   refine Tr.gq rfl rfl hF1 (QS.pickF rfl hF2 rfl) rfl ?_
   refine Tr.nil (Tr.thenN ?_)
   exact Tr.endX (Sub.cons rfl (Sub.dropN 3 (by kernel_rfl) rfl))
  refine Tr.q (QS.pickF rfl hF1 rfl) rfl ?_
  refine Tr.nil (Tr.thenN ?_)
  exact Tr.endX (Sub.cons rfl (Sub.dropN 5 (by kernel_rfl) rfl))
 ·intro hT1
  refine Tr.gskip rfl rfl hT1 rfl ?_
  refine Tr.gskip rfl rfl hT1 rfl ?_
  refine Tr.gskip rfl rfl hT1 rfl ?_
  refine Tr.gskipU rfl rfl rfl ?_
  refine Tr.gskipU rfl rfl rfl ?_
  refine Tr.gskip rfl rfl hT1 rfl ?_
  refine Tr.q (QS.pickT rfl hT1 rfl) rfl ?_
  refine Tr.nil (Tr.thenN ?_)
  exact Tr.endX (Sub.cons rfl (Sub.dropN 7 (by kernel_rfl) rfl))
 refine Tr.q (QS.assign rfl) rfl ?_
 refine Tr.nil (Tr.thenN ?_)
 refine Tr.cond rfl (fun h3 => ?_) (fun h3 => ?_)
 ·try simp only [bs] at h3
  refine Tr.seq (Tr.region ?_)
  refine Tr.q (QS.assign rfl) rfl ?_
  refine Tr.nil (Tr.thenN (Tr.ret ?_))
  refine Tr.inR ?_
  refine Tr.thenR ?_
  refine Tr.ret1 Tryz.results57 rfl (fun w' hw => ?_)
  exact ⟨by clear hw; unfold sizedP; (repeat (first | rw [if_pos (by first | assumption | omega | grind)] | rw [if_neg (by first | assumption | omega | grind)])) <;> rfl, hw.below (Bg.le.refl _)⟩
 ·try simp only [bs] at h3
  refine Tr.seq (Tr.region ?_)
  refine Tr.q (QS.move rfl) rfl ?_
  refine Tr.q (QS.geq rfl rfl) rfl ?_
  refine Tr.q (QS.move rfl) rfl ?_
  apply Tr.andP
  ·exact (rfl : _ = (3, 17, 20))
  ·exact rfl
  ·intro hT4; have hT4' := hT4
   try simp only [bs] at hT4'
   refine Tr.gq rfl rfl hT4 (QS.move rfl) rfl ?_
   refine Tr.gq rfl rfl hT4 (QS.leq rfl rfl) rfl ?_
   refine Tr.q (QS.pickT rfl hT4 rfl) rfl ?_
   refine Tr.nil (Tr.thenN ?_)
   exact Tr.endX (Sub.cons rfl (Sub.dropN 3 (by kernel_rfl) rfl))
  ·intro hF4
   refine Tr.gskip rfl rfl hF4 rfl ?_
   refine Tr.gskip rfl rfl hF4 rfl ?_
   refine Tr.q (QS.pickF rfl hF4 rfl) rfl ?_
   refine Tr.nil (Tr.thenN ?_)
   exact Tr.endX (Sub.cons rfl (Sub.dropN 3 (by kernel_rfl) rfl))
  refine Tr.q (QS.move rfl) rfl ?_
  apply Tr.orP
  ·exact (rfl : _ = (7, 21, 28))
  ·exact rfl
  ·intro hF5; have hF5' := hF5
   try simp only [bs] at hF5'
   refine Tr.gq rfl rfl hF5 (QS.move rfl) rfl ?_
   refine Tr.gq rfl rfl hF5 (QS.geq rfl rfl) rfl ?_
   refine Tr.gq rfl rfl hF5 (QS.move rfl) rfl ?_
   apply Tr.andP
   ·exact (rfl : _ = (3, 24, 27))
   ·exact rfl
   ·intro hT6; have hT6' := hT6
    try simp only [bs] at hT6'
    refine Tr.gq rfl rfl hT6 (QS.move rfl) rfl ?_
    refine Tr.gq rfl rfl hT6 (QS.leq rfl rfl) rfl ?_
    refine Tr.gq rfl rfl hF5 (QS.pickT rfl hT6 rfl) rfl ?_
    refine Tr.nil (Tr.thenN ?_)
    exact Tr.endX (Sub.cons rfl (Sub.dropN 3 (by kernel_rfl) rfl))
   ·intro hF6
    refine Tr.gskip rfl rfl hF6 rfl ?_
    refine Tr.gskip rfl rfl hF6 rfl ?_
    refine Tr.gq rfl rfl hF5 (QS.pickF rfl hF6 rfl) rfl ?_
    refine Tr.nil (Tr.thenN ?_)
    exact Tr.endX (Sub.cons rfl (Sub.dropN 3 (by kernel_rfl) rfl))
   refine Tr.q (QS.pickF rfl hF5 rfl) rfl ?_
   refine Tr.nil (Tr.thenN ?_)
   exact Tr.endX (Sub.cons rfl (Sub.dropN 5 (by kernel_rfl) rfl))
  ·intro hT5
   refine Tr.gskip rfl rfl hT5 rfl ?_
   refine Tr.gskip rfl rfl hT5 rfl ?_
   refine Tr.gskip rfl rfl hT5 rfl ?_
   refine Tr.gskipU rfl rfl rfl ?_
   refine Tr.gskipU rfl rfl rfl ?_
   refine Tr.gskip rfl rfl hT5 rfl ?_
   refine Tr.q (QS.pickT rfl hT5 rfl) rfl ?_
   refine Tr.nil (Tr.thenN ?_)
   exact Tr.endX (Sub.cons rfl (Sub.dropN 7 (by kernel_rfl) rfl))
  refine Tr.q (QS.move rfl) rfl ?_
  apply Tr.orP
  ·exact (rfl : _ = (3, 29, 32))
  ·exact rfl
  ·intro hF7; have hF7' := hF7
   try simp only [bs] at hF7'
   refine Tr.gq rfl rfl hF7 (QS.move rfl) rfl ?_
   refine Tr.gq rfl rfl hF7 (QS.eql rfl rfl) rfl ?_
   refine Tr.q (QS.pickF rfl hF7 rfl) rfl ?_
   refine Tr.nil (Tr.thenN ?_)
   exact Tr.endX (Sub.cons rfl (Sub.dropN 3 (by kernel_rfl) rfl))
  ·intro hT7
   refine Tr.gskip rfl rfl hT7 rfl ?_
   refine Tr.gskip rfl rfl hT7 rfl ?_
   refine Tr.q (QS.pickT rfl hT7 rfl) rfl ?_
   refine Tr.nil (Tr.thenN ?_)
   exact Tr.endX (Sub.cons rfl (Sub.dropN 3 (by kernel_rfl) rfl))
  refine Tr.q (QS.move rfl) rfl ?_
  apply Tr.orP
  ·exact (rfl : _ = (3, 33, 36))
  ·exact rfl
  ·intro hF8; have hF8' := hF8
   try simp only [bs] at hF8'
   refine Tr.gq rfl rfl hF8 (QS.move rfl) rfl ?_
   refine Tr.gq rfl rfl hF8 (QS.eql rfl rfl) rfl ?_
   refine Tr.q (QS.pickF rfl hF8 rfl) rfl ?_
   refine Tr.nil (Tr.thenN ?_)
   exact Tr.endX (Sub.cons rfl (Sub.dropN 3 (by kernel_rfl) rfl))
  ·intro hT8
   refine Tr.gskip rfl rfl hT8 rfl ?_
   refine Tr.gskip rfl rfl hT8 rfl ?_
   refine Tr.q (QS.pickT rfl hT8 rfl) rfl ?_
   refine Tr.nil (Tr.thenN ?_)
   exact Tr.endX (Sub.cons rfl (Sub.dropN 3 (by kernel_rfl) rfl))
  refine Tr.q (QS.move rfl) rfl ?_
  apply Tr.orP
  ·exact (rfl : _ = (7, 37, 44))
  ·exact rfl
  ·intro hF9; have hF9' := hF9
   try simp only [bs] at hF9'
   refine Tr.gq rfl rfl hF9 (QS.move rfl) rfl ?_
   refine Tr.gq rfl rfl hF9 (QS.geq rfl rfl) rfl ?_
   refine Tr.gq rfl rfl hF9 (QS.move rfl) rfl ?_
   apply Tr.andP
   ·exact (rfl : _ = (3, 40, 43))
   ·exact rfl
   ·intro hT10; have hT10' := hT10
    try simp only [bs] at hT10'
    refine Tr.gq rfl rfl hT10 (QS.move rfl) rfl ?_
    refine Tr.gq rfl rfl hT10 (QS.leq rfl rfl) rfl ?_
    refine Tr.gq rfl rfl hF9 (QS.pickT rfl hT10 rfl) rfl ?_
    refine Tr.nil (Tr.thenN ?_)
    exact Tr.endX (Sub.cons rfl (Sub.dropN 3 (by kernel_rfl) rfl))
   ·intro hF10
    refine Tr.gskip rfl rfl hF10 rfl ?_
    refine Tr.gskip rfl rfl hF10 rfl ?_
    refine Tr.gq rfl rfl hF9 (QS.pickF rfl hF10 rfl) rfl ?_
    refine Tr.nil (Tr.thenN ?_)
    exact Tr.endX (Sub.cons rfl (Sub.dropN 3 (by kernel_rfl) rfl))
   refine Tr.q (QS.pickF rfl hF9 rfl) rfl ?_
   refine Tr.nil (Tr.thenN ?_)
   exact Tr.endX (Sub.cons rfl (Sub.dropN 5 (by kernel_rfl) rfl))
  ·intro hT9
   refine Tr.gskip rfl rfl hT9 rfl ?_
   refine Tr.gskip rfl rfl hT9 rfl ?_
   refine Tr.gskip rfl rfl hT9 rfl ?_
   refine Tr.gskipU rfl rfl rfl ?_
   refine Tr.gskipU rfl rfl rfl ?_
   refine Tr.gskip rfl rfl hT9 rfl ?_
   refine Tr.q (QS.pickT rfl hT9 rfl) rfl ?_
   refine Tr.nil (Tr.thenN ?_)
   exact Tr.endX (Sub.cons rfl (Sub.dropN 7 (by kernel_rfl) rfl))
  refine Tr.q (QS.move rfl) rfl ?_
  apply Tr.orP
  ·exact (rfl : _ = (3, 45, 48))
  ·exact rfl
  ·intro hF11; have hF11' := hF11
   try simp only [bs] at hF11'
   refine Tr.gq rfl rfl hF11 (QS.move rfl) rfl ?_
   refine Tr.gq rfl rfl hF11 (QS.eql rfl rfl) rfl ?_
   refine Tr.q (QS.pickF rfl hF11 rfl) rfl ?_
   refine Tr.nil (Tr.thenN ?_)
   exact Tr.endX (Sub.cons rfl (Sub.dropN 3 (by kernel_rfl) rfl))
  ·intro hT11
   refine Tr.gskip rfl rfl hT11 rfl ?_
   refine Tr.gskip rfl rfl hT11 rfl ?_
   refine Tr.q (QS.pickT rfl hT11 rfl) rfl ?_
   refine Tr.nil (Tr.thenN ?_)
   exact Tr.endX (Sub.cons rfl (Sub.dropN 3 (by kernel_rfl) rfl))
  refine Tr.q (QS.move rfl) rfl ?_
  apply Tr.orP
  ·exact (rfl : _ = (3, 49, 52))
  ·exact rfl
  ·intro hF12; have hF12' := hF12
   try simp only [bs] at hF12'
   refine Tr.gq rfl rfl hF12 (QS.move rfl) rfl ?_
   refine Tr.gq rfl rfl hF12 (QS.eql rfl rfl) rfl ?_
   refine Tr.q (QS.pickF rfl hF12 rfl) rfl ?_
   refine Tr.nil (Tr.thenN ?_)
   exact Tr.endX (Sub.cons rfl (Sub.dropN 3 (by kernel_rfl) rfl))
  ·intro hT12
   refine Tr.gskip rfl rfl hT12 rfl ?_
   refine Tr.gskip rfl rfl hT12 rfl ?_
   refine Tr.q (QS.pickT rfl hT12 rfl) rfl ?_
   refine Tr.nil (Tr.thenN ?_)
   exact Tr.endX (Sub.cons rfl (Sub.dropN 3 (by kernel_rfl) rfl))
  refine Tr.q (QS.assign rfl) rfl ?_
  refine Tr.nil (Tr.thenN ?_)
  refine Tr.cond rfl (fun h13 => ?_) (fun h13 => ?_)
  ·try simp only [bs] at h13
   refine Tr.seq (Tr.region ?_)
   refine Tr.q (QS.assign rfl) rfl ?_
   refine Tr.nil (Tr.thenN (Tr.ret ?_))
   refine Tr.inR ?_
   refine Tr.thenR ?_
   refine Tr.ret1 Tryz.results57 rfl (fun w' hw => ?_)
   exact ⟨by clear hw; unfold sizedP; (repeat (first | rw [if_pos (by first | assumption | omega | grind)] | rw [if_neg (by first | assumption | omega | grind)])) <;> rfl, hw.below (Bg.le.refl _)⟩
  ·try simp only [bs] at h13
   refine Tr.seq (Tr.region ?_)
   refine Tr.q (QS.move rfl) rfl ?_
   refine Tr.q (QS.geq rfl rfl) rfl ?_
   refine Tr.q (QS.move rfl) rfl ?_
   apply Tr.andP
   ·exact (rfl : _ = (3, 56, 59))
   ·exact rfl
   ·intro hT14; have hT14' := hT14
    try simp only [bs] at hT14'
    refine Tr.gq rfl rfl hT14 (QS.move rfl) rfl ?_
    refine Tr.gq rfl rfl hT14 (QS.leq rfl rfl) rfl ?_
    refine Tr.q (QS.pickT rfl hT14 rfl) rfl ?_
    refine Tr.nil (Tr.thenN ?_)
    exact Tr.endX (Sub.cons rfl (Sub.dropN 3 (by kernel_rfl) rfl))
   ·intro hF14
    refine Tr.gskip rfl rfl hF14 rfl ?_
    refine Tr.gskip rfl rfl hF14 rfl ?_
    refine Tr.q (QS.pickF rfl hF14 rfl) rfl ?_
    refine Tr.nil (Tr.thenN ?_)
    exact Tr.endX (Sub.cons rfl (Sub.dropN 3 (by kernel_rfl) rfl))
   refine Tr.q (QS.move rfl) rfl ?_
   apply Tr.orP
   ·exact (rfl : _ = (7, 60, 67))
   ·exact rfl
   ·intro hF15; have hF15' := hF15
    try simp only [bs] at hF15'
    refine Tr.gq rfl rfl hF15 (QS.move rfl) rfl ?_
    refine Tr.gq rfl rfl hF15 (QS.geq rfl rfl) rfl ?_
    refine Tr.gq rfl rfl hF15 (QS.move rfl) rfl ?_
    apply Tr.andP
    ·exact (rfl : _ = (3, 63, 66))
    ·exact rfl
    ·intro hT16; have hT16' := hT16
     try simp only [bs] at hT16'
     refine Tr.gq rfl rfl hT16 (QS.move rfl) rfl ?_
     refine Tr.gq rfl rfl hT16 (QS.leq rfl rfl) rfl ?_
     refine Tr.gq rfl rfl hF15 (QS.pickT rfl hT16 rfl) rfl ?_
     refine Tr.nil (Tr.thenN ?_)
     exact Tr.endX (Sub.cons rfl (Sub.dropN 3 (by kernel_rfl) rfl))
    ·intro hF16
     refine Tr.gskip rfl rfl hF16 rfl ?_
     refine Tr.gskip rfl rfl hF16 rfl ?_
     refine Tr.gq rfl rfl hF15 (QS.pickF rfl hF16 rfl) rfl ?_
     refine Tr.nil (Tr.thenN ?_)
     exact Tr.endX (Sub.cons rfl (Sub.dropN 3 (by kernel_rfl) rfl))
    refine Tr.q (QS.pickF rfl hF15 rfl) rfl ?_
    refine Tr.nil (Tr.thenN ?_)
    exact Tr.endX (Sub.cons rfl (Sub.dropN 5 (by kernel_rfl) rfl))
   ·intro hT15
    refine Tr.gskip rfl rfl hT15 rfl ?_
    refine Tr.gskip rfl rfl hT15 rfl ?_
    refine Tr.gskip rfl rfl hT15 rfl ?_
    refine Tr.gskipU rfl rfl rfl ?_
    refine Tr.gskipU rfl rfl rfl ?_
    refine Tr.gskip rfl rfl hT15 rfl ?_
    refine Tr.q (QS.pickT rfl hT15 rfl) rfl ?_
    refine Tr.nil (Tr.thenN ?_)
    exact Tr.endX (Sub.cons rfl (Sub.dropN 7 (by kernel_rfl) rfl))
   refine Tr.q (QS.move rfl) rfl ?_
   apply Tr.orP
   ·exact (rfl : _ = (3, 68, 71))
   ·exact rfl
   ·intro hF17; have hF17' := hF17
    try simp only [bs] at hF17'
    refine Tr.gq rfl rfl hF17 (QS.move rfl) rfl ?_
    refine Tr.gq rfl rfl hF17 (QS.eql rfl rfl) rfl ?_
    refine Tr.q (QS.pickF rfl hF17 rfl) rfl ?_
    refine Tr.nil (Tr.thenN ?_)
    exact Tr.endX (Sub.cons rfl (Sub.dropN 3 (by kernel_rfl) rfl))
   ·intro hT17
    refine Tr.gskip rfl rfl hT17 rfl ?_
    refine Tr.gskip rfl rfl hT17 rfl ?_
    refine Tr.q (QS.pickT rfl hT17 rfl) rfl ?_
    refine Tr.nil (Tr.thenN ?_)
    exact Tr.endX (Sub.cons rfl (Sub.dropN 3 (by kernel_rfl) rfl))
   refine Tr.q (QS.assign rfl) rfl ?_
   refine Tr.nil (Tr.thenN ?_)
   refine Tr.cond rfl (fun h18 => ?_) (fun h18 => ?_)
   ·try simp only [bs] at h18
    refine Tr.seq (Tr.region ?_)
    refine Tr.q (QS.assign rfl) rfl ?_
    refine Tr.nil (Tr.thenN (Tr.ret ?_))
    refine Tr.inR ?_
    refine Tr.thenR ?_
    refine Tr.ret1 Tryz.results57 rfl (fun w' hw => ?_)
    exact ⟨by clear hw; unfold sizedP; (repeat (first | rw [if_pos (by first | assumption | omega | grind)] | rw [if_neg (by first | assumption | omega | grind)])) <;> rfl, hw.below (Bg.le.refl _)⟩
   ·try simp only [bs] at h18
    refine Tr.seq (Tr.region ?_)
    refine Tr.q (QS.move rfl) rfl ?_
    refine Tr.q (QS.geq rfl rfl) rfl ?_
    refine Tr.q (QS.move rfl) rfl ?_
    apply Tr.andP
    ·exact (rfl : _ = (3, 75, 78))
    ·exact rfl
    ·intro hT19; have hT19' := hT19
     try simp only [bs] at hT19'
     refine Tr.gq rfl rfl hT19 (QS.move rfl) rfl ?_
     refine Tr.gq rfl rfl hT19 (QS.leq rfl rfl) rfl ?_
     refine Tr.q (QS.pickT rfl hT19 rfl) rfl ?_
     refine Tr.nil (Tr.thenN ?_)
     exact Tr.endX (Sub.cons rfl (Sub.dropN 3 (by kernel_rfl) rfl))
    ·intro hF19
     refine Tr.gskip rfl rfl hF19 rfl ?_
     refine Tr.gskip rfl rfl hF19 rfl ?_
     refine Tr.q (QS.pickF rfl hF19 rfl) rfl ?_
     refine Tr.nil (Tr.thenN ?_)
     exact Tr.endX (Sub.cons rfl (Sub.dropN 3 (by kernel_rfl) rfl))
    refine Tr.q (QS.move rfl) rfl ?_
    apply Tr.orP
    ·exact (rfl : _ = (3, 79, 82))
    ·exact rfl
    ·intro hF20; have hF20' := hF20
     try simp only [bs] at hF20'
     refine Tr.gq rfl rfl hF20 (QS.move rfl) rfl ?_
     refine Tr.gq rfl rfl hF20 (QS.eql rfl rfl) rfl ?_
     refine Tr.q (QS.pickF rfl hF20 rfl) rfl ?_
     refine Tr.nil (Tr.thenN ?_)
     exact Tr.endX (Sub.cons rfl (Sub.dropN 3 (by kernel_rfl) rfl))
    ·intro hT20
     refine Tr.gskip rfl rfl hT20 rfl ?_
     refine Tr.gskip rfl rfl hT20 rfl ?_
     refine Tr.q (QS.pickT rfl hT20 rfl) rfl ?_
     refine Tr.nil (Tr.thenN ?_)
     exact Tr.endX (Sub.cons rfl (Sub.dropN 3 (by kernel_rfl) rfl))
    refine Tr.q (QS.assign rfl) rfl ?_
    refine Tr.nil (Tr.thenN ?_)
    refine Tr.cond rfl (fun h21 => ?_) (fun h21 => ?_)
    ·try simp only [bs] at h21
     refine Tr.seq (Tr.region ?_)
     refine Tr.q (QS.assign rfl) rfl ?_
     refine Tr.nil (Tr.thenN (Tr.ret ?_))
     refine Tr.inR ?_
     refine Tr.thenR ?_
     refine Tr.ret1 Tryz.results57 rfl (fun w' hw => ?_)
     exact ⟨by clear hw; unfold sizedP; (repeat (first | rw [if_pos (by first | assumption | omega | grind)] | rw [if_neg (by first | assumption | omega | grind)])) <;> rfl, hw.below (Bg.le.refl _)⟩
    ·try simp only [bs] at h21
     refine Tr.seq (Tr.region ?_)
     refine Tr.q (QS.move rfl) rfl ?_
     refine Tr.q (QS.geq rfl rfl) rfl ?_
     refine Tr.q (QS.move rfl) rfl ?_
     apply Tr.andP
     ·exact (rfl : _ = (3, 86, 89))
     ·exact rfl
     ·intro hT22; have hT22' := hT22
      try simp only [bs] at hT22'
      refine Tr.gq rfl rfl hT22 (QS.move rfl) rfl ?_
      refine Tr.gq rfl rfl hT22 (QS.leq rfl rfl) rfl ?_
      refine Tr.q (QS.pickT rfl hT22 rfl) rfl ?_
      refine Tr.nil (Tr.thenN ?_)
      exact Tr.endX (Sub.cons rfl (Sub.dropN 3 (by kernel_rfl) rfl))
     ·intro hF22
      refine Tr.gskip rfl rfl hF22 rfl ?_
      refine Tr.gskip rfl rfl hF22 rfl ?_
      refine Tr.q (QS.pickF rfl hF22 rfl) rfl ?_
      refine Tr.nil (Tr.thenN ?_)
      exact Tr.endX (Sub.cons rfl (Sub.dropN 3 (by kernel_rfl) rfl))
     refine Tr.q (QS.move rfl) rfl ?_
     apply Tr.orP
     ·exact (rfl : _ = (3, 90, 93))
     ·exact rfl
     ·intro hF23; have hF23' := hF23
      try simp only [bs] at hF23'
      refine Tr.gq rfl rfl hF23 (QS.move rfl) rfl ?_
      refine Tr.gq rfl rfl hF23 (QS.eql rfl rfl) rfl ?_
      refine Tr.q (QS.pickF rfl hF23 rfl) rfl ?_
      refine Tr.nil (Tr.thenN ?_)
      exact Tr.endX (Sub.cons rfl (Sub.dropN 3 (by kernel_rfl) rfl))
     ·intro hT23
      refine Tr.gskip rfl rfl hT23 rfl ?_
      refine Tr.gskip rfl rfl hT23 rfl ?_
      refine Tr.q (QS.pickT rfl hT23 rfl) rfl ?_
      refine Tr.nil (Tr.thenN ?_)
      exact Tr.endX (Sub.cons rfl (Sub.dropN 3 (by kernel_rfl) rfl))
     refine Tr.q (QS.assign rfl) rfl ?_
     refine Tr.nil (Tr.thenN ?_)
     refine Tr.cond rfl (fun h24 => ?_) (fun h24 => ?_)
     ·try simp only [bs] at h24
      refine Tr.seq (Tr.region ?_)
      refine Tr.q (QS.assign rfl) rfl ?_
      refine Tr.nil (Tr.thenN (Tr.ret ?_))
      refine Tr.inR ?_
      refine Tr.thenR ?_
      refine Tr.ret1 Tryz.results57 rfl (fun w' hw => ?_)
      exact ⟨by clear hw; unfold sizedP; (repeat (first | rw [if_pos (by first | assumption | omega | grind)] | rw [if_neg (by first | assumption | omega | grind)])) <;> rfl, hw.below (Bg.le.refl _)⟩
     ·try simp only [bs] at h24
      refine Tr.skip (Tr.inN (Tr.thenN (Tr.seq (Tr.region ?_))))
      refine Tr.q (QS.assign rfl) rfl ?_
      refine Tr.nil (Tr.thenN (Tr.ret ?_))
      refine Tr.ret1 Tryz.results57 rfl (fun w' hw => ?_)
      exact ⟨by clear hw; unfold sizedP; (repeat (first | rw [if_pos (by first | assumption | omega | grind)] | rw [if_neg (by first | assumption | omega | grind)])) <;> rfl, hw.below (Bg.le.refl _)⟩
set_option maxRecDepth 100000 in
set_option maxHeartbeats 2000000 in
theorem signed_any (c : UInt8) (w : World) :
  Calls Tryz.prog 81 #[.int .u8 c.toNat] w (fun e w' => e = .returned (.int .u32 (sextP c).toNat) ∧ Ext w w') := by
 refine enter Tryz.func81 rfl Tryz.ntmps81 rfl ?_
 refine Tr.seq (Tr.region ?_)
 refine Tr.q (QS.assign rfl) rfl ?_
 refine Tr.nil (Tr.thenN (Tr.seq (Tr.seq (Tr.region ?_))))
 refine Tr.q (QS.move rfl) rfl ?_
 refine Tr.q (QS.lss8 (n := 128) rfl rfl) rfl ?_
 refine Tr.nil (Tr.thenN ?_)
 refine Tr.cond rfl (fun h1 => ?_) (fun h1 => ?_)
 ·try simp only [bs] at h1
  refine Tr.seq (Tr.region ?_)
  refine Tr.q (QS.move rfl) rfl ?_
  refine Tr.q (QS.cvt8to32 rfl Tryz.underlying5 Tryz.underlying40) rfl ?_
  refine Tr.q (QS.assign rfl) rfl ?_
  refine Tr.nil (Tr.thenN (Tr.ret (Tr.thenR ?_)))
  refine Tr.ret1 Tryz.results81 rfl (fun w' hw => ?_)
  exact ⟨by clear hw; unfold sextP; (repeat (first | rw [if_pos (by first | assumption | omega | grind)] | rw [if_neg (by first | assumption | omega | grind)])) <;> rfl, hw.below (Bg.le.refl _)⟩
 ·try simp only [bs] at h1
  refine Tr.skip (Tr.thenN (Tr.seq (Tr.region ?_)))
  refine Tr.q (QS.move rfl) rfl ?_
  refine Tr.q (QS.cvt8to32 rfl Tryz.underlying5 Tryz.underlying40) rfl ?_
  refine Tr.q (QS.add32 (n := 4294967040) rfl rfl) rfl ?_
  refine Tr.q (QS.assign rfl) rfl ?_
  refine Tr.nil (Tr.thenN (Tr.ret ?_))
  refine Tr.ret1 Tryz.results81 rfl (fun w' hw => ?_)
  exact ⟨by clear hw; unfold sextP; (repeat (first | rw [if_pos (by first | assumption | omega | grind)] | rw [if_neg (by first | assumption | omega | grind)])) <;> rfl, hw.below (Bg.le.refl _)⟩
set_option maxRecDepth 100000 in
set_option maxHeartbeats 2000000 in
theorem refLong_any (l : List UInt8) (V : Value) (w : World) (hV : Sl (hp w) encU8 l V) (hl : 4 ≤ l.length) :
  Calls Tryz.prog 82 #[V] w (fun e w' => e = .returned (.int .u32 (longP l 0).toNat) ∧ Ext w w') := by
 have hV' : Sl (Bg.of w).blk encU8 l V := hV
 have hlen := hV.len_le
 refine enter Tryz.func82 rfl Tryz.ntmps82 rfl ?_
 refine Tr.seq (Tr.region ?_)
 refine Tr.q (QS.assign rfl) rfl ?_
 refine Tr.nil (Tr.thenN (Tr.seq ?_))
 refine Tr.regionQ HLF.mixed (by kernel_rfl) ?_
 refine TrQ.q (QS.move rfl) rfl ?_
 refine TrQ.q (QS.idx rfl rfl (by assumption) Tryz.underlying41 Tryz.sizeOf5 (by rfl) (by omega)) rfl ?_
 refine TrQ.q (QS.el1 rfl (by assumption) Tryz.isAgg5 (by omega) (by rfl)) rfl ?_
 refine TrQ.q (QS.cvt8to32 rfl Tryz.underlying5 Tryz.underlying40) rfl ?_
 refine TrQ.q (QS.move rfl) rfl ?_
 refine TrQ.q (QS.idx rfl rfl (by assumption) Tryz.underlying41 Tryz.sizeOf5 (by rfl) (by omega)) rfl ?_
 refine TrQ.q (QS.el1 rfl (by assumption) Tryz.isAgg5 (by omega) (by rfl)) rfl ?_
 refine TrQ.q (QS.cvt8to32 rfl Tryz.underlying5 Tryz.underlying40) rfl ?_
 refine TrQ.q (QS.mul32 (m := 256) rfl rfl) rfl ?_
 refine TrQ.q (QS.add32 rfl rfl) rfl ?_
 refine TrQ.q (QS.move rfl) rfl ?_
 refine TrQ.q (QS.idx rfl rfl (by assumption) Tryz.underlying41 Tryz.sizeOf5 (by rfl) (by omega)) rfl ?_
 refine TrQ.q (QS.el1 rfl (by assumption) Tryz.isAgg5 (by omega) (by rfl)) rfl ?_
 refine TrQ.q (QS.cvt8to32 rfl Tryz.underlying5 Tryz.underlying40) rfl ?_
 refine TrQ.q (QS.mul32 (m := 65536) rfl rfl) rfl ?_
 refine TrQ.q (QS.add32 rfl rfl) rfl ?_
 refine TrQ.q (QS.move rfl) rfl ?_
 refine TrQ.q (QS.idx rfl rfl (by assumption) Tryz.underlying41 Tryz.sizeOf5 (by rfl) (by omega)) rfl ?_
 refine TrQ.q (QS.el1 rfl (by assumption) Tryz.isAgg5 (by omega) (by rfl)) rfl ?_
 refine TrQ.q (QS.cvt8to32 rfl Tryz.underlying5 Tryz.underlying40) rfl ?_
 refine TrQ.q (QS.mul32 (m := 16777216) rfl rfl) rfl ?_
 refine TrQ.q (QS.add32 rfl rfl) rfl ?_
 refine TrQ.q (QS.assign rfl) rfl ?_
 refine TrQ.nil ?_
 refine Tr.thenN (Tr.ret ?_)
 refine Tr.ret1 Tryz.results82 rfl (fun w' hw => ?_)
 exact ⟨rfl, hw.below (Bg.le.refl _)⟩
set_option maxRecDepth 100000 in
set_option maxHeartbeats 2000000 in
theorem refAccess_any (c : Int) (w : World) :
  Calls Tryz.prog 102 #[.int .i64 c] w (fun e w' => e = .returned (.tuple #[.int .i64 (refAccP c).1, .int .i64 (refAccP c).2]) ∧ Ext w w') := by
 refine enter Tryz.func102 rfl Tryz.ntmps102 rfl ?_
 refine Tr.seq (Tr.region ?_)
 refine Tr.q (QS.assign rfl) rfl ?_
 refine Tr.q (QS.assign rfl) rfl ?_
 refine Tr.nil (Tr.thenN (Tr.seq (Tr.seq (Tr.region ?_))))
 refine Tr.q (QS.move rfl) rfl ?_
 refine Tr.nil (Tr.thenN (Tr.block (Tr.seq (Tr.region ?_))))
 refine Tr.q (QS.eql rfl rfl) rfl ?_
 refine Tr.q (QS.assign rfl) rfl ?_
 refine Tr.nil (Tr.thenN ?_)
 refine Tr.cond rfl (fun h1 => ?_) (fun h1 => ?_)
 ·try simp only [bs] at h1
  refine Tr.seq (Tr.region ?_)
  refine Tr.q (QS.assign rfl) rfl ?_
  refine Tr.q (QS.assign rfl) rfl ?_
  refine Tr.nil (Tr.thenN (Tr.ret ?_))
  refine Tr.inR ?_
  refine Tr.thenR ?_
  refine Tr.ret2 Tryz.results102 rfl rfl (fun w' hw => ?_)
  exact ⟨by clear hw; unfold refAccP; (repeat (first | rw [if_pos (by first | assumption | omega | grind)] | rw [if_neg (by first | assumption | omega | grind)])) <;> rfl, hw.below (Bg.le.refl _)⟩
 ·try simp only [bs] at h1
  refine Tr.seq (Tr.region ?_)
  refine Tr.q (QS.eql rfl rfl) rfl ?_
  refine Tr.q (QS.assign rfl) rfl ?_
  refine Tr.nil (Tr.thenN ?_)
  refine Tr.cond rfl (fun h2 => ?_) (fun h2 => ?_)
  ·try simp only [bs] at h2
   refine Tr.seq (Tr.region ?_)
   refine Tr.q (QS.assign rfl) rfl ?_
   refine Tr.q (QS.assign rfl) rfl ?_
   refine Tr.nil (Tr.thenN (Tr.ret ?_))
   refine Tr.inR ?_
   refine Tr.thenR ?_
   refine Tr.ret2 Tryz.results102 rfl rfl (fun w' hw => ?_)
   exact ⟨by clear hw; unfold refAccP; (repeat (first | rw [if_pos (by first | assumption | omega | grind)] | rw [if_neg (by first | assumption | omega | grind)])) <;> rfl, hw.below (Bg.le.refl _)⟩
  ·try simp only [bs] at h2
   refine Tr.seq (Tr.region ?_)
   refine Tr.q (QS.eql rfl rfl) rfl ?_
   refine Tr.q (QS.assign rfl) rfl ?_
   refine Tr.nil (Tr.thenN ?_)
   refine Tr.cond rfl (fun h3 => ?_) (fun h3 => ?_)
   ·try simp only [bs] at h3
    refine Tr.seq (Tr.region ?_)
    refine Tr.q (QS.assign rfl) rfl ?_
    refine Tr.q (QS.assign rfl) rfl ?_
    refine Tr.nil (Tr.thenN (Tr.ret ?_))
    refine Tr.inR ?_
    refine Tr.thenR ?_
    refine Tr.ret2 Tryz.results102 rfl rfl (fun w' hw => ?_)
    exact ⟨by clear hw; unfold refAccP; (repeat (first | rw [if_pos (by first | assumption | omega | grind)] | rw [if_neg (by first | assumption | omega | grind)])) <;> rfl, hw.below (Bg.le.refl _)⟩
   ·try simp only [bs] at h3
    refine Tr.seq (Tr.region ?_)
    refine Tr.q (QS.eql rfl rfl) rfl ?_
    refine Tr.q (QS.assign rfl) rfl ?_
    refine Tr.nil (Tr.thenN ?_)
    refine Tr.cond rfl (fun h4 => ?_) (fun h4 => ?_)
    ·try simp only [bs] at h4
     refine Tr.seq (Tr.region ?_)
     refine Tr.q (QS.assign rfl) rfl ?_
     refine Tr.q (QS.assign rfl) rfl ?_
     refine Tr.nil (Tr.thenN (Tr.ret ?_))
     refine Tr.inR ?_
     refine Tr.thenR ?_
     refine Tr.ret2 Tryz.results102 rfl rfl (fun w' hw => ?_)
     exact ⟨by clear hw; unfold refAccP; (repeat (first | rw [if_pos (by first | assumption | omega | grind)] | rw [if_neg (by first | assumption | omega | grind)])) <;> rfl, hw.below (Bg.le.refl _)⟩
    ·try simp only [bs] at h4
     refine Tr.seq (Tr.region ?_)
     refine Tr.q (QS.eql rfl rfl) rfl ?_
     refine Tr.q (QS.assign rfl) rfl ?_
     refine Tr.nil (Tr.thenN ?_)
     refine Tr.cond rfl (fun h5 => ?_) (fun h5 => ?_)
     ·try simp only [bs] at h5
      refine Tr.seq (Tr.region ?_)
      refine Tr.q (QS.assign rfl) rfl ?_
      refine Tr.q (QS.assign rfl) rfl ?_
      refine Tr.nil (Tr.thenN (Tr.ret ?_))
      refine Tr.inR ?_
      refine Tr.thenR ?_
      refine Tr.ret2 Tryz.results102 rfl rfl (fun w' hw => ?_)
      exact ⟨by clear hw; unfold refAccP; (repeat (first | rw [if_pos (by first | assumption | omega | grind)] | rw [if_neg (by first | assumption | omega | grind)])) <;> rfl, hw.below (Bg.le.refl _)⟩
     ·try simp only [bs] at h5
      refine Tr.seq (Tr.region ?_)
      refine Tr.q (QS.eql rfl rfl) rfl ?_
      refine Tr.q (QS.assign rfl) rfl ?_
      refine Tr.nil (Tr.thenN ?_)
      refine Tr.cond rfl (fun h6 => ?_) (fun h6 => ?_)
      ·try simp only [bs] at h6
       refine Tr.seq (Tr.region ?_)
       refine Tr.q (QS.assign rfl) rfl ?_
       refine Tr.q (QS.assign rfl) rfl ?_
       refine Tr.nil (Tr.thenN (Tr.ret ?_))
       refine Tr.inR ?_
       refine Tr.thenR ?_
       refine Tr.ret2 Tryz.results102 rfl rfl (fun w' hw => ?_)
       exact ⟨by clear hw; unfold refAccP; (repeat (first | rw [if_pos (by first | assumption | omega | grind)] | rw [if_neg (by first | assumption | omega | grind)])) <;> rfl, hw.below (Bg.le.refl _)⟩
      ·try simp only [bs] at h6
       refine Tr.seq (Tr.region ?_)
       refine Tr.q (QS.eql rfl rfl) rfl ?_
       refine Tr.q (QS.assign rfl) rfl ?_
       refine Tr.nil (Tr.thenN ?_)
       refine Tr.cond rfl (fun h7 => ?_) (fun h7 => ?_)
       ·try simp only [bs] at h7
        refine Tr.seq (Tr.region ?_)
        refine Tr.q (QS.assign rfl) rfl ?_
        refine Tr.q (QS.assign rfl) rfl ?_
        refine Tr.nil (Tr.thenN (Tr.ret ?_))
        refine Tr.inR ?_
        refine Tr.thenR ?_
        refine Tr.ret2 Tryz.results102 rfl rfl (fun w' hw => ?_)
        exact ⟨by clear hw; unfold refAccP; (repeat (first | rw [if_pos (by first | assumption | omega | grind)] | rw [if_neg (by first | assumption | omega | grind)])) <;> rfl, hw.below (Bg.le.refl _)⟩
       ·try simp only [bs] at h7
        refine Tr.skip (Tr.inN (Tr.thenN (Tr.seq (Tr.region ?_))))
        refine Tr.q (QS.assign rfl) rfl ?_
        refine Tr.q (QS.assign rfl) rfl ?_
        refine Tr.nil (Tr.thenN (Tr.ret ?_))
        refine Tr.ret2 Tryz.results102 rfl rfl (fun w' hw => ?_)
        exact ⟨by clear hw; unfold refAccP; (repeat (first | rw [if_pos (by first | assumption | omega | grind)] | rw [if_neg (by first | assumption | omega | grind)])) <;> rfl, hw.below (Bg.le.refl _)⟩
set_option maxRecDepth 100000 in
set_option maxHeartbeats 2000000 in
theorem memoryOr_any (c : Int) (b : List UInt8) (V : Value) (addr : UInt32) (sz : Int) (w : World) (hV : Sl (hp w) encU8 b V) (hb : (b.length : Int) = sizedP c) (hc : 0 ≤ c ∧ c ≤ 255) (hz : sizedP c ≠ 0) (hn : ¬ (32 ≤ c ∧ c ≤ 42 ∨ 48 ≤ c ∧ c ≤ 58 ∨ 64 ≤ c ∧ c ≤ 74)) :
  Calls Tryz.prog 83 #[.int .i64 c, V, .agg (encIns.enc ⟨addr, 0, 0, 0, 0, 0, 0, 0, sz⟩).toArray] w (fun e w' => e = .returned (.agg (encIns.enc (refBodyP c b ⟨addr, 0, 0, 0, 0, 0, 0, 0, sz⟩)).toArray) ∧ Ext w w') := by
 have hV' : Sl (Bg.of w).blk encU8 b V := hV
 have hlen := hV.len_le
 have hsp := sizedP_spec (c := c)
 have hsz := sizedP_ne hz
 refine enter Tryz.func83 rfl Tryz.ntmps83 rfl ?_
 refine Tr.seq (Tr.region ?_)
 refine Tr.box rfl rfl rfl (fun b1 => ?_)
 refine Tr.alloc Tryz.zeroValue46 rfl rfl (fun b2 => ?_)
 refine Tr.nil (Tr.thenN (Tr.seq (Tr.region ?_)))
 refine Tr.q (QS.fieldAddr (off := 0) (ft := 40) rfl Tryz.underlying46 rfl rfl Tryz.sizeOf40 (by decide)) rfl ?_
 refine Tr.q (QS.lV rfl Tryz.isAgg40) rfl ?_
 refine Tr.q (QS.fieldAddr (off := 8) (ft := 3) rfl Tryz.underlying46 rfl rfl Tryz.sizeOf3 (by decide)) rfl ?_
 refine Tr.q (QS.lV rfl Tryz.isAgg3) rfl ?_
 refine Tr.q (QS.cvtTo32 rfl Tryz.underlying3 Tryz.underlying40) rfl ?_
 refine Tr.q (QS.add32 rfl rfl) rfl ?_
 refine Tr.q (QS.assign rfl) rfl ?_
 refine Tr.nil (Tr.thenN ?_)
 refine Tr.seqJ (ι := Ins) (fun k => k = refBodyP c b ⟨addr, 0, 0, 0, 0, 0, 0, 0, sz⟩) (fun _ => Bg.of w) (fun k => [cellE b1 (encIns.enc k) 46, cellE b2 (encIns.enc zeroIns) 46]) (fun k => []) ?_ (fun k hi => ?_)
 ·skip
  refine Tr.block (Tr.seq (Tr.region ?_))
  refine Tr.q (QS.move rfl) rfl ?_
  refine Tr.q (QS.leq rfl rfl) rfl ?_
  refine Tr.q (QS.assign rfl) rfl ?_
  refine Tr.nil (Tr.thenN ?_)
  refine Tr.cond rfl (fun h3 => ?_) (fun h3 => ?_)
  ·try simp only [bs] at h3
   refine Tr.region ?_
   refine Tr.q (QS.move rfl) rfl ?_
   refine Tr.q (QS.fieldAddr (off := 2) (ft := 3) rfl Tryz.underlying46 rfl rfl Tryz.sizeOf3 (by decide)) rfl ?_
   refine Tr.storeV (cs' := [_, _, _, _, _, _, _, _, _]) rfl rfl Tryz.sizeOf3 (by repeat constructor) rfl (by rfl) (by first | exact Nat.le_of_ble_eq_true rfl | simp) (by first | exact List.all_eq_true.1 rfl | (intro u hu; simp [Value.cells] at hu; simp_all [Value.oneCell'])) rfl ?_
   refine Tr.nil (Tr.inN (Tr.thenN ?_))
   apply Tr.joined ⟨addr, 0, c, 0, 0, 0, 0, 0, sz⟩
   ·exact rfl
   ·exact Front.nil
   ·exact SubX.dropN 5 (by kernel_rfl) rfl
   ·exact (by repeat' constructor)
   ·exact (by unfold refBodyP kindP; (repeat (first | rw [if_pos (by omega)] | rw [if_neg (by omega)])) <;> rfl)
  ·try simp only [bs] at h3
   refine Tr.seq (Tr.region ?_)
   refine Tr.q (QS.move rfl) rfl ?_
   refine Tr.q (QS.leq rfl rfl) rfl ?_
   refine Tr.q (QS.assign rfl) rfl ?_
   refine Tr.nil (Tr.thenN ?_)
   refine Tr.cond rfl (fun h4 => ?_) (fun h4 => ?_)
   ·try simp only [bs] at h4
    refine Tr.region ?_
    refine Tr.q (QS.move rfl) rfl ?_
    refine Tr.q (QS.subI rfl rfl (by omega)) rfl ?_
    refine Tr.q (QS.fieldAddr (off := 2) (ft := 3) rfl Tryz.underlying46 rfl rfl Tryz.sizeOf3 (by decide)) rfl ?_
    refine Tr.storeV (cs' := [_, _, _, _, _, _, _, _, _]) rfl rfl Tryz.sizeOf3 (by repeat constructor) rfl (by rfl) (by first | exact Nat.le_of_ble_eq_true rfl | simp) (by first | exact List.all_eq_true.1 rfl | (intro u hu; simp [Value.cells] at hu; simp_all [Value.oneCell'])) rfl ?_
    refine Tr.q (QS.fieldAddr (off := 6) (ft := 3) rfl Tryz.underlying46 rfl rfl Tryz.sizeOf3 (by decide)) rfl ?_
    refine Tr.storeV (cs' := [_, _, _, _, _, _, _, _, _]) rfl rfl Tryz.sizeOf3 (by repeat constructor) rfl (by rfl) (by first | exact Nat.le_of_ble_eq_true rfl | simp) (by first | exact List.all_eq_true.1 rfl | (intro u hu; simp [Value.cells] at hu; simp_all [Value.oneCell'])) rfl ?_
    refine Tr.nil (Tr.inN (Tr.thenN ?_))
    apply Tr.joined ⟨addr, 0, 3, 0, 0, 0, c - 8, 0, sz⟩
    ·exact rfl
    ·exact Front.nil
    ·exact SubX.dropN 10 (by kernel_rfl) rfl
    ·exact (by repeat' constructor)
    ·exact (by unfold refBodyP kindP; (repeat (first | rw [if_pos (by omega)] | rw [if_neg (by omega)])) <;> rfl)
   ·try simp only [bs] at h4
    refine Tr.seq (Tr.region ?_)
    refine Tr.q (QS.move rfl) rfl ?_
    refine Tr.q (QS.leq rfl rfl) rfl ?_
    refine Tr.q (QS.assign rfl) rfl ?_
    refine Tr.nil (Tr.thenN ?_)
    refine Tr.cond rfl (fun h5 => ?_) (fun h5 => ?_)
    ·try simp only [bs] at h5
     refine Tr.region ?_
     refine Tr.q (QS.move rfl) rfl ?_
     refine Tr.q (QS.subI rfl rfl (by omega)) rfl ?_
     refine Tr.q (QS.fieldAddr (off := 2) (ft := 3) rfl Tryz.underlying46 rfl rfl Tryz.sizeOf3 (by decide)) rfl ?_
     refine Tr.storeV (cs' := [_, _, _, _, _, _, _, _, _]) rfl rfl Tryz.sizeOf3 (by repeat constructor) rfl (by rfl) (by first | exact Nat.le_of_ble_eq_true rfl | simp) (by first | exact List.all_eq_true.1 rfl | (intro u hu; simp [Value.cells] at hu; simp_all [Value.oneCell'])) rfl ?_
     refine Tr.q (QS.fieldAddr (off := 6) (ft := 3) rfl Tryz.underlying46 rfl rfl Tryz.sizeOf3 (by decide)) rfl ?_
     refine Tr.storeV (cs' := [_, _, _, _, _, _, _, _, _]) rfl rfl Tryz.sizeOf3 (by repeat constructor) rfl (by rfl) (by first | exact Nat.le_of_ble_eq_true rfl | simp) (by first | exact List.all_eq_true.1 rfl | (intro u hu; simp [Value.cells] at hu; simp_all [Value.oneCell'])) rfl ?_
     refine Tr.nil (Tr.inN (Tr.thenN ?_))
     apply Tr.joined ⟨addr, 0, 4, 0, 0, 0, c - 16, 0, sz⟩
     ·exact rfl
     ·exact Front.nil
     ·exact SubX.dropN 13 (by kernel_rfl) rfl
     ·exact (by repeat' constructor)
     ·exact (by unfold refBodyP kindP; (repeat (first | rw [if_pos (by omega)] | rw [if_neg (by omega)])) <;> rfl)
    ·try simp only [bs] at h5
     refine Tr.seq (Tr.region ?_)
     refine Tr.q (QS.move rfl) rfl ?_
     refine Tr.q (QS.leq rfl rfl) rfl ?_
     refine Tr.q (QS.assign rfl) rfl ?_
     refine Tr.nil (Tr.thenN ?_)
     refine Tr.cond rfl (fun h6 => ?_) (fun h6 => ?_)
     ·try simp only [bs] at h6
      refine Tr.seq (Tr.region ?_)
      refine Tr.q (QS.move rfl) rfl ?_
      refine Tr.q (QS.call rfl Tryz.call102 (fun w hw => refAccess_any c w)) rfl ?_
      refine Tr.q (QS.move rfl) rfl ?_
      refine Tr.q (QS.extract rfl rfl) rfl ?_
      refine Tr.q (QS.extract rfl rfl) rfl ?_
      refine Tr.q (QS.fieldAddr (off := 2) (ft := 3) rfl Tryz.underlying46 rfl rfl Tryz.sizeOf3 (by decide)) rfl ?_
      refine Tr.storeV (cs' := [_, _, _, _, _, _, _, _, _]) rfl rfl Tryz.sizeOf3 (by repeat constructor) rfl (by rfl) (by first | exact Nat.le_of_ble_eq_true rfl | simp) (by first | exact List.all_eq_true.1 rfl | (intro u hu; simp [Value.cells] at hu; simp_all [Value.oneCell'])) rfl ?_
      refine Tr.q (QS.fieldAddr (off := 4) (ft := 3) rfl Tryz.underlying46 rfl rfl Tryz.sizeOf3 (by decide)) rfl ?_
      refine Tr.storeV (cs' := [_, _, _, _, _, _, _, _, _]) rfl rfl Tryz.sizeOf3 (by repeat constructor) rfl (by rfl) (by first | exact Nat.le_of_ble_eq_true rfl | simp) (by first | exact List.all_eq_true.1 rfl | (intro u hu; simp [Value.cells] at hu; simp_all [Value.oneCell'])) rfl ?_
      refine Tr.nil (Tr.thenN ?_)
      refine Tr.regionH ([cellE b2 (encIns.enc zeroIns) 46]) 20 rfl HLF.mixed ?_
      refine Tr.hT 0 rfl (by kernel_rfl) (panicIn (panicThen panicBody)) (QS.move rfl) ?_
      refine Tr.hT 1 rfl (by kernel_rfl) (panicIn (panicThen panicBody)) (QS.idx rfl rfl (by assumption) Tryz.underlying41 Tryz.sizeOf5 (by rfl) (by omega)) ?_
      refine Tr.hT 2 rfl (by kernel_rfl) (panicIn (panicThen panicBody)) (QS.el1 rfl (by assumption) Tryz.isAgg5 (by omega) (by rfl)) ?_
      refine Tr.hT 3 rfl (by kernel_rfl) (panicIn (panicThen panicBody)) (QS.quo8 (n := 16) rfl rfl (by first | decide | assumption)) ?_
      refine Tr.hT 4 rfl (by kernel_rfl) (panicIn (panicThen panicBody)) (QS.cvt8toI rfl Tryz.underlying5 Tryz.underlying3) ?_
      refine Tr.hT 5 rfl (by kernel_rfl) (panicIn (panicThen panicBody)) (QS.move rfl) ?_
      refine Tr.hT 6 rfl (by kernel_rfl) (panicIn (panicThen panicBody)) (QS.idx rfl rfl (by assumption) Tryz.underlying41 Tryz.sizeOf5 (by rfl) (by omega)) ?_
      refine Tr.hT 7 rfl (by kernel_rfl) (panicIn (panicThen panicBody)) (QS.el1 rfl (by assumption) Tryz.isAgg5 (by omega) (by rfl)) ?_
      refine Tr.hT 8 rfl (by kernel_rfl) (panicIn (panicThen panicBody)) (QS.rem8 (n := 16) rfl rfl (by first | decide | assumption)) ?_
      refine Tr.hT 9 rfl (by kernel_rfl) (panicIn (panicThen panicBody)) (QS.cvt8toI rfl Tryz.underlying5 Tryz.underlying3) ?_
      refine Tr.hT 10 rfl (by kernel_rfl) (panicIn (panicThen panicBody)) (QS.move rfl) ?_
      refine Tr.hT 11 rfl (by kernel_rfl) (panicIn (panicThen panicBody)) (QS.idx rfl rfl (by assumption) Tryz.underlying41 Tryz.sizeOf5 (by rfl) (by omega)) ?_
      refine Tr.hT 12 rfl (by kernel_rfl) (panicIn (panicThen panicBody)) (QS.el1 rfl (by assumption) Tryz.isAgg5 (by omega) (by rfl)) ?_
      refine Tr.hT 14 rfl (by kernel_rfl) (panicIn (panicThen panicBody)) (QS.fieldAddr (off := 6) (ft := 3) rfl Tryz.underlying46 rfl rfl Tryz.sizeOf3 (by decide)) ?_
      refine Tr.hAll [13] (by kernel_rfl) (by simp) (fun iq hq => ?_)
      obtain rfl := List.mem_singleton.1 hq
      refine Tr.hOp rfl ?_
      refine Tr.q (QS.call rfl Tryz.call81 (fun w hw => signed_any (b.getD 2 default) w)) rfl ?_
      refine Tr.hN ?_
      refine Tr.hAll [15] (by kernel_rfl) (by simp) (fun iq hq => ?_)
      obtain rfl := List.mem_singleton.1 hq
      refine Tr.hOp rfl ?_
      refine Tr.storeV (cs' := [_, _, _, _, _, _, _, _, _]) rfl rfl Tryz.sizeOf3 (by repeat constructor) rfl (by rfl) (by first | exact Nat.le_of_ble_eq_true rfl | simp) (by first | exact List.all_eq_true.1 rfl | (intro u hu; simp [Value.cells] at hu; simp_all [Value.oneCell'])) rfl ?_
      refine Tr.hN ?_
      refine Tr.hT 16 rfl (by kernel_rfl) (panicIn (panicThen panicBody)) (QS.fieldAddr (off := 7) (ft := 3) rfl Tryz.underlying46 rfl rfl Tryz.sizeOf3 (by decide)) ?_
      refine Tr.hAll [17] (by kernel_rfl) (by simp) (fun iq hq => ?_)
      obtain rfl := List.mem_singleton.1 hq
      refine Tr.hOp rfl ?_
      refine Tr.storeV (cs' := [_, _, _, _, _, _, _, _, _]) rfl rfl Tryz.sizeOf3 (by repeat constructor) rfl (by rfl) (by first | exact Nat.le_of_ble_eq_true rfl | simp) (by first | exact List.all_eq_true.1 rfl | (intro u hu; simp [Value.cells] at hu; simp_all [Value.oneCell'])) rfl ?_
      refine Tr.hN ?_
      refine Tr.hT 18 rfl (by kernel_rfl) (panicIn (panicThen panicBody)) (QS.fieldAddr (off := 1) (ft := 40) rfl Tryz.underlying46 rfl rfl Tryz.sizeOf40 (by decide)) ?_
      refine Tr.hAll [19] (by kernel_rfl) (by simp) (fun iq hq => ?_)
      obtain rfl := List.mem_singleton.1 hq
      refine Tr.hOp rfl ?_
      refine Tr.storeV (cs' := [_, _, _, _, _, _, _, _, _]) rfl rfl Tryz.sizeOf40 (by repeat constructor) rfl (by rfl) (by first | exact Nat.le_of_ble_eq_true rfl | simp) (by first | exact List.all_eq_true.1 rfl | (intro u hu; simp [Value.cells] at hu; simp_all [Value.oneCell'])) rfl ?_
      refine Tr.hN ?_
      refine Tr.hDone (by kernel_rfl) ?_
      refine Tr.inN (Tr.thenN ?_)
      apply Tr.joined ⟨addr, sextP (b.getD 2 default), (refAccP c).1, 0, (refAccP c).2, 0, ((b.getD 1 default) / 16).toNat, ((b.getD 1 default) % 16).toNat, sz⟩
      ·exact rfl
      ·exact Front.nil
      ·exact SubX.dropN 36 (by kernel_rfl) rfl
      ·exact (by repeat' constructor)
      ·exact (by unfold refBodyP kindP; (repeat (first | rw [if_pos (by omega)] | rw [if_neg (by omega)])) <;> rfl)
     ·try simp only [bs] at h6
      refine Tr.seq (Tr.region ?_)
      refine Tr.q (QS.move rfl) rfl ?_
      refine Tr.q (QS.eql rfl rfl) rfl ?_
      refine Tr.q (QS.assign rfl) rfl ?_
      refine Tr.nil (Tr.thenN ?_)
      refine Tr.cond rfl (fun h7 => ?_) (fun h7 => ?_)
      ·try simp only [bs] at h7
       refine Tr.regionH ([cellE b2 (encIns.enc zeroIns) 46]) 22 rfl HLF.mixed ?_
       refine Tr.hT 0 rfl (by kernel_rfl) (panicIn (panicThen panicBody)) (QS.move rfl) ?_
       refine Tr.hT 1 rfl (by kernel_rfl) (panicIn (panicThen panicBody)) (QS.idx rfl rfl (by assumption) Tryz.underlying41 Tryz.sizeOf5 (by rfl) (by omega)) ?_
       refine Tr.hT 2 rfl (by kernel_rfl) (panicIn (panicThen panicBody)) (QS.el1 rfl (by assumption) Tryz.isAgg5 (by omega) (by rfl)) ?_
       refine Tr.hT 3 rfl (by kernel_rfl) (panicIn (panicThen panicBody)) (QS.quo8 (n := 16) rfl rfl (by first | decide | assumption)) ?_
       refine Tr.hT 4 rfl (by kernel_rfl) (panicIn (panicThen panicBody)) (QS.cvt8toI rfl Tryz.underlying5 Tryz.underlying3) ?_
       refine Tr.hT 5 rfl (by kernel_rfl) (panicIn (panicThen panicBody)) (QS.move rfl) ?_
       refine Tr.hT 6 rfl (by kernel_rfl) (panicIn (panicThen panicBody)) (QS.idx rfl rfl (by assumption) Tryz.underlying41 Tryz.sizeOf5 (by rfl) (by omega)) ?_
       refine Tr.hT 7 rfl (by kernel_rfl) (panicIn (panicThen panicBody)) (QS.el1 rfl (by assumption) Tryz.isAgg5 (by omega) (by rfl)) ?_
       refine Tr.hT 8 rfl (by kernel_rfl) (panicIn (panicThen panicBody)) (QS.rem8 (n := 16) rfl rfl (by first | decide | assumption)) ?_
       refine Tr.hT 9 rfl (by kernel_rfl) (panicIn (panicThen panicBody)) (QS.cvt8toI rfl Tryz.underlying5 Tryz.underlying3) ?_
       refine Tr.hT 10 rfl (by kernel_rfl) (panicIn (panicThen panicBody)) (QS.move rfl) ?_
       refine Tr.hT 11 rfl (by kernel_rfl) (panicIn (panicThen panicBody)) (QS.idx rfl rfl (by assumption) Tryz.underlying41 Tryz.sizeOf5 (by rfl) (by omega)) ?_
       refine Tr.hT 12 rfl (by kernel_rfl) (panicIn (panicThen panicBody)) (QS.el1 rfl (by assumption) Tryz.isAgg5 (by omega) (by rfl)) ?_
       refine Tr.hT 14 rfl (by kernel_rfl) (panicIn (panicThen panicBody)) (QS.fieldAddr (off := 2) (ft := 3) rfl Tryz.underlying46 rfl rfl Tryz.sizeOf3 (by decide)) ?_
       refine Tr.hAll [13] (by kernel_rfl) (by simp) (fun iq hq => ?_)
       obtain rfl := List.mem_singleton.1 hq
       refine Tr.hOp rfl ?_
       refine Tr.q (QS.call rfl Tryz.call81 (fun w hw => signed_any (b.getD 2 default) w)) rfl ?_
       refine Tr.hN ?_
       refine Tr.hAll [15] (by kernel_rfl) (by simp) (fun iq hq => ?_)
       obtain rfl := List.mem_singleton.1 hq
       refine Tr.hOp rfl ?_
       refine Tr.storeV (cs' := [_, _, _, _, _, _, _, _, _]) rfl rfl Tryz.sizeOf3 (by repeat constructor) rfl (by rfl) (by first | exact Nat.le_of_ble_eq_true rfl | simp) (by first | exact List.all_eq_true.1 rfl | (intro u hu; simp [Value.cells] at hu; simp_all [Value.oneCell'])) rfl ?_
       refine Tr.hN ?_
       refine Tr.hT 16 rfl (by kernel_rfl) (panicIn (panicThen panicBody)) (QS.fieldAddr (off := 6) (ft := 3) rfl Tryz.underlying46 rfl rfl Tryz.sizeOf3 (by decide)) ?_
       refine Tr.hAll [17] (by kernel_rfl) (by simp) (fun iq hq => ?_)
       obtain rfl := List.mem_singleton.1 hq
       refine Tr.hOp rfl ?_
       refine Tr.storeV (cs' := [_, _, _, _, _, _, _, _, _]) rfl rfl Tryz.sizeOf3 (by repeat constructor) rfl (by rfl) (by first | exact Nat.le_of_ble_eq_true rfl | simp) (by first | exact List.all_eq_true.1 rfl | (intro u hu; simp [Value.cells] at hu; simp_all [Value.oneCell'])) rfl ?_
       refine Tr.hN ?_
       refine Tr.hT 18 rfl (by kernel_rfl) (panicIn (panicThen panicBody)) (QS.fieldAddr (off := 7) (ft := 3) rfl Tryz.underlying46 rfl rfl Tryz.sizeOf3 (by decide)) ?_
       refine Tr.hAll [19] (by kernel_rfl) (by simp) (fun iq hq => ?_)
       obtain rfl := List.mem_singleton.1 hq
       refine Tr.hOp rfl ?_
       refine Tr.storeV (cs' := [_, _, _, _, _, _, _, _, _]) rfl rfl Tryz.sizeOf3 (by repeat constructor) rfl (by rfl) (by first | exact Nat.le_of_ble_eq_true rfl | simp) (by first | exact List.all_eq_true.1 rfl | (intro u hu; simp [Value.cells] at hu; simp_all [Value.oneCell'])) rfl ?_
       refine Tr.hN ?_
       refine Tr.hT 20 rfl (by kernel_rfl) (panicIn (panicThen panicBody)) (QS.fieldAddr (off := 1) (ft := 40) rfl Tryz.underlying46 rfl rfl Tryz.sizeOf40 (by decide)) ?_
       refine Tr.hAll [21] (by kernel_rfl) (by simp) (fun iq hq => ?_)
       obtain rfl := List.mem_singleton.1 hq
       refine Tr.hOp rfl ?_
       refine Tr.storeV (cs' := [_, _, _, _, _, _, _, _, _]) rfl rfl Tryz.sizeOf40 (by repeat constructor) rfl (by rfl) (by first | exact Nat.le_of_ble_eq_true rfl | simp) (by first | exact List.all_eq_true.1 rfl | (intro u hu; simp [Value.cells] at hu; simp_all [Value.oneCell'])) rfl ?_
       refine Tr.hN ?_
       refine Tr.hDone (by kernel_rfl) ?_
       refine Tr.inN (Tr.thenN ?_)
       apply Tr.joined ⟨addr, sextP (b.getD 2 default), 19, 0, 0, 0, ((b.getD 1 default) / 16).toNat, ((b.getD 1 default) % 16).toNat, sz⟩
       ·exact rfl
       ·exact Front.nil
       ·exact SubX.dropN 33 (by kernel_rfl) rfl
       ·exact (by repeat' constructor)
       ·exact (by unfold refBodyP kindP; (repeat (first | rw [if_pos (by omega)] | rw [if_neg (by omega)])) <;> rfl)
      ·try simp only [bs] at h7
       refine Tr.seq (Tr.region ?_)
       refine Tr.q (QS.move rfl) rfl ?_
       refine Tr.q (QS.leq rfl rfl) rfl ?_
       refine Tr.q (QS.assign rfl) rfl ?_
       refine Tr.nil (Tr.thenN ?_)
       refine Tr.cond rfl (fun h8 => ?_) (fun h8 => ?_)
       ·try simp only [bs] at h8
        refine Tr.region ?_
        refine Tr.q (QS.move rfl) rfl ?_
        refine Tr.q (QS.subI rfl rfl (by omega)) rfl ?_
        refine Tr.q (QS.move rfl) rfl ?_
        refine Tr.q (QS.move rfl) rfl ?_
        refine Tr.q (QS.idx rfl rfl (by assumption) Tryz.underlying41 Tryz.sizeOf5 (by rfl) (by omega)) rfl ?_
        refine Tr.q (QS.el1 rfl (by assumption) Tryz.isAgg5 (by omega) (by rfl)) rfl ?_
        refine Tr.q (QS.call rfl Tryz.call81 (fun w hw => signed_any (b.getD 1 default) w)) rfl ?_
        refine Tr.q (QS.add32 rfl rfl) rfl ?_
        refine Tr.q (QS.fieldAddr (off := 2) (ft := 3) rfl Tryz.underlying46 rfl rfl Tryz.sizeOf3 (by decide)) rfl ?_
        refine Tr.storeV (cs' := [_, _, _, _, _, _, _, _, _]) rfl rfl Tryz.sizeOf3 (by repeat constructor) rfl (by rfl) (by first | exact Nat.le_of_ble_eq_true rfl | simp) (by first | exact List.all_eq_true.1 rfl | (intro u hu; simp [Value.cells] at hu; simp_all [Value.oneCell'])) rfl ?_
        refine Tr.q (QS.fieldAddr (off := 3) (ft := 3) rfl Tryz.underlying46 rfl rfl Tryz.sizeOf3 (by decide)) rfl ?_
        refine Tr.storeV (cs' := [_, _, _, _, _, _, _, _, _]) rfl rfl Tryz.sizeOf3 (by repeat constructor) rfl (by rfl) (by first | exact Nat.le_of_ble_eq_true rfl | simp) (by first | exact List.all_eq_true.1 rfl | (intro u hu; simp [Value.cells] at hu; simp_all [Value.oneCell'])) rfl ?_
        refine Tr.q (QS.fieldAddr (off := 5) (ft := 3) rfl Tryz.underlying46 rfl rfl Tryz.sizeOf3 (by decide)) rfl ?_
        refine Tr.storeV (cs' := [_, _, _, _, _, _, _, _, _]) rfl rfl Tryz.sizeOf3 (by repeat constructor) rfl (by rfl) (by first | exact Nat.le_of_ble_eq_true rfl | simp) (by first | exact List.all_eq_true.1 rfl | (intro u hu; simp [Value.cells] at hu; simp_all [Value.oneCell'])) rfl ?_
        refine Tr.q (QS.fieldAddr (off := 1) (ft := 40) rfl Tryz.underlying46 rfl rfl Tryz.sizeOf40 (by decide)) rfl ?_
        refine Tr.storeV (cs' := [_, _, _, _, _, _, _, _, _]) rfl rfl Tryz.sizeOf40 (by repeat constructor) rfl (by rfl) (by first | exact Nat.le_of_ble_eq_true rfl | simp) (by first | exact List.all_eq_true.1 rfl | (intro u hu; simp [Value.cells] at hu; simp_all [Value.oneCell'])) rfl ?_
        refine Tr.nil (Tr.inN (Tr.thenN ?_))
        apply Tr.joined ⟨addr, (addr + u32 sz) + sextP (b.getD 1 default), 20, 1, 0, c - 96, 0, 0, sz⟩
        ·exact rfl
        ·exact Front.nil
        ·exact SubX.dropN 30 (by kernel_rfl) rfl
        ·exact (by repeat' constructor)
        ·exact (by unfold refBodyP kindP; (repeat (first | rw [if_pos (by omega)] | rw [if_neg (by omega)])) <;> rfl)
       ·try simp only [bs] at h8
        refine Tr.seq (Tr.region ?_)
        refine Tr.q (QS.move rfl) rfl ?_
        refine Tr.q (QS.leq rfl rfl) rfl ?_
        refine Tr.q (QS.assign rfl) rfl ?_
        refine Tr.nil (Tr.thenN ?_)
        refine Tr.cond rfl (fun h9 => ?_) (fun h9 => ?_)
        ·try simp only [bs] at h9
         refine Tr.region ?_
         refine Tr.q (QS.move rfl) rfl ?_
         refine Tr.q (QS.subI rfl rfl (by omega)) rfl ?_
         refine Tr.q (QS.move rfl) rfl ?_
         refine Tr.q (QS.move rfl) rfl ?_
         refine Tr.q (QS.slice (lv := some (_, _)) (hv := none) rfl (by assumption) rfl rfl Tryz.underlying41 Tryz.sizeOf5 (by rfl) (by simp only [loOf, hiOf] <;> first | omega | assumption | (simp only [NatCast.natCast, Int.ofNat_eq_natCast]; omega)) (by simp only [loOf, hiOf] <;> first | omega | assumption | (simp only [NatCast.natCast, Int.ofNat_eq_natCast]; omega)) (by simp only [loOf, hiOf] <;> first | omega | assumption | (simp only [NatCast.natCast, Int.ofNat_eq_natCast]; omega))) rfl ?_
         refine Tr.q (QS.call rfl Tryz.call82 (fun w hw => refLong_any ((b.take (b.length : Int).toNat).drop (1 : Int).toNat) _ w (hw.slF (Sl.resl hV' (by omega) (by omega))) (by simp; omega))) rfl ?_
         refine Tr.q (QS.add32 rfl rfl) rfl ?_
         refine Tr.q (QS.fieldAddr (off := 2) (ft := 3) rfl Tryz.underlying46 rfl rfl Tryz.sizeOf3 (by decide)) rfl ?_
         refine Tr.storeV (cs' := [_, _, _, _, _, _, _, _, _]) rfl rfl Tryz.sizeOf3 (by repeat constructor) rfl (by rfl) (by first | exact Nat.le_of_ble_eq_true rfl | simp) (by first | exact List.all_eq_true.1 rfl | (intro u hu; simp [Value.cells] at hu; simp_all [Value.oneCell'])) rfl ?_
         refine Tr.q (QS.fieldAddr (off := 3) (ft := 3) rfl Tryz.underlying46 rfl rfl Tryz.sizeOf3 (by decide)) rfl ?_
         refine Tr.storeV (cs' := [_, _, _, _, _, _, _, _, _]) rfl rfl Tryz.sizeOf3 (by repeat constructor) rfl (by rfl) (by first | exact Nat.le_of_ble_eq_true rfl | simp) (by first | exact List.all_eq_true.1 rfl | (intro u hu; simp [Value.cells] at hu; simp_all [Value.oneCell'])) rfl ?_
         refine Tr.q (QS.fieldAddr (off := 5) (ft := 3) rfl Tryz.underlying46 rfl rfl Tryz.sizeOf3 (by decide)) rfl ?_
         refine Tr.storeV (cs' := [_, _, _, _, _, _, _, _, _]) rfl rfl Tryz.sizeOf3 (by repeat constructor) rfl (by rfl) (by first | exact Nat.le_of_ble_eq_true rfl | simp) (by first | exact List.all_eq_true.1 rfl | (intro u hu; simp [Value.cells] at hu; simp_all [Value.oneCell'])) rfl ?_
         refine Tr.q (QS.fieldAddr (off := 1) (ft := 40) rfl Tryz.underlying46 rfl rfl Tryz.sizeOf40 (by decide)) rfl ?_
         refine Tr.storeV (cs' := [_, _, _, _, _, _, _, _, _]) rfl rfl Tryz.sizeOf40 (by repeat constructor) rfl (by rfl) (by first | exact Nat.le_of_ble_eq_true rfl | simp) (by first | exact List.all_eq_true.1 rfl | (intro u hu; simp [Value.cells] at hu; simp_all [Value.oneCell'])) rfl ?_
         refine Tr.nil (Tr.inN (Tr.thenN ?_))
         rw [show longP ((b.take (b.length : Int).toNat).drop (1 : Int).toNat) 0 = longP b 1 from long_drop (k := 1) (by omega)]
         apply Tr.joined ⟨addr, (addr + u32 sz) + longP b 1, 20, 2, 0, c - 112, 0, 0, sz⟩
         ·exact rfl
         ·exact Front.nil
         ·exact SubX.dropN 32 (by kernel_rfl) rfl
         ·exact (by repeat' constructor)
         ·exact (by unfold refBodyP kindP; (repeat (first | rw [if_pos (by omega)] | rw [if_neg (by omega)])) <;> rfl)
        ·try simp only [bs] at h9
         refine Tr.seq (Tr.region ?_)
         refine Tr.q (QS.move rfl) rfl ?_
         refine Tr.q (QS.eql rfl rfl) rfl ?_
         refine Tr.q (QS.assign rfl) rfl ?_
         refine Tr.nil (Tr.thenN ?_)
         refine Tr.cond rfl (fun h10 => ?_) (fun h10 => ?_)
         ·try simp only [bs] at h10
          refine Tr.region ?_
          refine Tr.q (QS.move rfl) rfl ?_
          refine Tr.q (QS.move rfl) rfl ?_
          refine Tr.q (QS.slice (lv := some (_, _)) (hv := none) rfl (by assumption) rfl rfl Tryz.underlying41 Tryz.sizeOf5 (by rfl) (by simp only [loOf, hiOf] <;> first | omega | assumption | (simp only [NatCast.natCast, Int.ofNat_eq_natCast]; omega)) (by simp only [loOf, hiOf] <;> first | omega | assumption | (simp only [NatCast.natCast, Int.ofNat_eq_natCast]; omega)) (by simp only [loOf, hiOf] <;> first | omega | assumption | (simp only [NatCast.natCast, Int.ofNat_eq_natCast]; omega))) rfl ?_
          refine Tr.q (QS.call rfl Tryz.call82 (fun w hw => refLong_any ((b.take (b.length : Int).toNat).drop (1 : Int).toNat) _ w (hw.slF (Sl.resl hV' (by omega) (by omega))) (by simp; omega))) rfl ?_
          refine Tr.q (QS.add32 rfl rfl) rfl ?_
          refine Tr.q (QS.fieldAddr (off := 2) (ft := 3) rfl Tryz.underlying46 rfl rfl Tryz.sizeOf3 (by decide)) rfl ?_
          refine Tr.storeV (cs' := [_, _, _, _, _, _, _, _, _]) rfl rfl Tryz.sizeOf3 (by repeat constructor) rfl (by rfl) (by first | exact Nat.le_of_ble_eq_true rfl | simp) (by first | exact List.all_eq_true.1 rfl | (intro u hu; simp [Value.cells] at hu; simp_all [Value.oneCell'])) rfl ?_
          refine Tr.q (QS.fieldAddr (off := 1) (ft := 40) rfl Tryz.underlying46 rfl rfl Tryz.sizeOf40 (by decide)) rfl ?_
          refine Tr.storeV (cs' := [_, _, _, _, _, _, _, _, _]) rfl rfl Tryz.sizeOf40 (by repeat constructor) rfl (by rfl) (by first | exact Nat.le_of_ble_eq_true rfl | simp) (by first | exact List.all_eq_true.1 rfl | (intro u hu; simp [Value.cells] at hu; simp_all [Value.oneCell'])) rfl ?_
          refine Tr.nil (Tr.inN (Tr.thenN ?_))
          rw [show longP ((b.take (b.length : Int).toNat).drop (1 : Int).toNat) 0 = longP b 1 from long_drop (k := 1) (by omega)]
          apply Tr.joined ⟨addr, (addr + u32 sz) + longP b 1, 23, 0, 0, 0, 0, 0, sz⟩
          ·exact rfl
          ·exact Front.nil
          ·exact SubX.dropN 31 (by kernel_rfl) rfl
          ·exact (by repeat' constructor)
          ·exact (by unfold refBodyP kindP; (repeat (first | rw [if_pos (by omega)] | rw [if_neg (by omega)])) <;> rfl)
         ·try simp only [bs] at h10
          refine Tr.seq (Tr.region ?_)
          refine Tr.q (QS.move rfl) rfl ?_
          refine Tr.q (QS.eql rfl rfl) rfl ?_
          refine Tr.q (QS.assign rfl) rfl ?_
          refine Tr.nil (Tr.thenN ?_)
          refine Tr.cond rfl (fun h11 => ?_) (fun h11 => ?_)
          ·try simp only [bs] at h11
           refine Tr.regionH ([cellE b2 (encIns.enc zeroIns) 46]) 8 rfl HLF.mixed ?_
           refine Tr.hT 0 rfl (by kernel_rfl) (panicIn (panicThen panicBody)) (QS.move rfl) ?_
           refine Tr.hT 1 rfl (by kernel_rfl) (panicIn (panicThen panicBody)) (QS.idx rfl rfl (by assumption) Tryz.underlying41 Tryz.sizeOf5 (by rfl) (by omega)) ?_
           refine Tr.hT 2 rfl (by kernel_rfl) (panicIn (panicThen panicBody)) (QS.el1 rfl (by assumption) Tryz.isAgg5 (by omega) (by rfl)) ?_
           refine Tr.hT 3 rfl (by kernel_rfl) (panicIn (panicThen panicBody)) (QS.cvt8toI rfl Tryz.underlying5 Tryz.underlying3) ?_
           refine Tr.hT 4 rfl (by kernel_rfl) (panicIn (panicThen panicBody)) (QS.fieldAddr (off := 2) (ft := 3) rfl Tryz.underlying46 rfl rfl Tryz.sizeOf3 (by decide)) ?_
           refine Tr.hAll [5] (by kernel_rfl) (by simp) (fun iq hq => ?_)
           obtain rfl := List.mem_singleton.1 hq
           refine Tr.hOp rfl ?_
           refine Tr.storeV (cs' := [_, _, _, _, _, _, _, _, _]) rfl rfl Tryz.sizeOf3 (by repeat constructor) rfl (by rfl) (by first | exact Nat.le_of_ble_eq_true rfl | simp) (by first | exact List.all_eq_true.1 rfl | (intro u hu; simp [Value.cells] at hu; simp_all [Value.oneCell'])) rfl ?_
           refine Tr.hN ?_
           refine Tr.hT 6 rfl (by kernel_rfl) (panicIn (panicThen panicBody)) (QS.fieldAddr (off := 6) (ft := 3) rfl Tryz.underlying46 rfl rfl Tryz.sizeOf3 (by decide)) ?_
           refine Tr.hAll [7] (by kernel_rfl) (by simp) (fun iq hq => ?_)
           obtain rfl := List.mem_singleton.1 hq
           refine Tr.hOp rfl ?_
           refine Tr.storeV (cs' := [_, _, _, _, _, _, _, _, _]) rfl rfl Tryz.sizeOf3 (by repeat constructor) rfl (by rfl) (by first | exact Nat.le_of_ble_eq_true rfl | simp) (by first | exact List.all_eq_true.1 rfl | (intro u hu; simp [Value.cells] at hu; simp_all [Value.oneCell'])) rfl ?_
           refine Tr.hN ?_
           refine Tr.hDone (by kernel_rfl) ?_
           refine Tr.inN (Tr.thenN ?_)
           apply Tr.joined ⟨addr, 0, 24, 0, 0, 0, (b.getD 1 default).toNat, 0, sz⟩
           ·exact rfl
           ·exact Front.nil
           ·exact SubX.dropN 33 (by kernel_rfl) rfl
           ·exact (by repeat' constructor)
           ·exact (by unfold refBodyP kindP; (repeat (first | rw [if_pos (by omega)] | rw [if_neg (by omega)])) <;> rfl)
          ·try simp only [bs] at h11
           refine Tr.seq (Tr.region ?_)
           refine Tr.q (QS.move rfl) rfl ?_
           refine Tr.q (QS.eql rfl rfl) rfl ?_
           refine Tr.q (QS.assign rfl) rfl ?_
           refine Tr.nil (Tr.thenN ?_)
           refine Tr.cond rfl (fun h12 => ?_) (fun h12 => ?_)
           ·try simp only [bs] at h12
            refine Tr.regionH ([cellE b2 (encIns.enc zeroIns) 46]) 8 rfl HLF.mixed ?_
            refine Tr.hT 0 rfl (by kernel_rfl) (panicIn (panicThen panicBody)) (QS.move rfl) ?_
            refine Tr.hT 1 rfl (by kernel_rfl) (panicIn (panicThen panicBody)) (QS.idx rfl rfl (by assumption) Tryz.underlying41 Tryz.sizeOf5 (by rfl) (by omega)) ?_
            refine Tr.hT 2 rfl (by kernel_rfl) (panicIn (panicThen panicBody)) (QS.el1 rfl (by assumption) Tryz.isAgg5 (by omega) (by rfl)) ?_
            refine Tr.hT 3 rfl (by kernel_rfl) (panicIn (panicThen panicBody)) (QS.cvt8toI rfl Tryz.underlying5 Tryz.underlying3) ?_
            refine Tr.hT 4 rfl (by kernel_rfl) (panicIn (panicThen panicBody)) (QS.fieldAddr (off := 2) (ft := 3) rfl Tryz.underlying46 rfl rfl Tryz.sizeOf3 (by decide)) ?_
            refine Tr.hAll [5] (by kernel_rfl) (by simp) (fun iq hq => ?_)
            obtain rfl := List.mem_singleton.1 hq
            refine Tr.hOp rfl ?_
            refine Tr.storeV (cs' := [_, _, _, _, _, _, _, _, _]) rfl rfl Tryz.sizeOf3 (by repeat constructor) rfl (by rfl) (by first | exact Nat.le_of_ble_eq_true rfl | simp) (by first | exact List.all_eq_true.1 rfl | (intro u hu; simp [Value.cells] at hu; simp_all [Value.oneCell'])) rfl ?_
            refine Tr.hN ?_
            refine Tr.hT 6 rfl (by kernel_rfl) (panicIn (panicThen panicBody)) (QS.fieldAddr (off := 6) (ft := 3) rfl Tryz.underlying46 rfl rfl Tryz.sizeOf3 (by decide)) ?_
            refine Tr.hAll [7] (by kernel_rfl) (by simp) (fun iq hq => ?_)
            obtain rfl := List.mem_singleton.1 hq
            refine Tr.hOp rfl ?_
            refine Tr.storeV (cs' := [_, _, _, _, _, _, _, _, _]) rfl rfl Tryz.sizeOf3 (by repeat constructor) rfl (by rfl) (by first | exact Nat.le_of_ble_eq_true rfl | simp) (by first | exact List.all_eq_true.1 rfl | (intro u hu; simp [Value.cells] at hu; simp_all [Value.oneCell'])) rfl ?_
            refine Tr.hN ?_
            refine Tr.hDone (by kernel_rfl) ?_
            refine Tr.inN (Tr.thenN ?_)
            apply Tr.joined ⟨addr, 0, 21, 0, 0, 0, (b.getD 1 default).toNat, 0, sz⟩
            ·exact rfl
            ·exact Front.nil
            ·exact SubX.dropN 36 (by kernel_rfl) rfl
            ·exact (by repeat' constructor)
            ·exact (by unfold refBodyP kindP; (repeat (first | rw [if_pos (by omega)] | rw [if_neg (by omega)])) <;> rfl)
           ·try simp only [bs] at h12
            refine Tr.seq (Tr.region ?_)
            refine Tr.q (QS.move rfl) rfl ?_
            refine Tr.q (QS.eql rfl rfl) rfl ?_
            refine Tr.q (QS.assign rfl) rfl ?_
            refine Tr.nil (Tr.thenN ?_)
            refine Tr.cond rfl (fun h13 => ?_) (fun h13 => ?_)
            ·try simp only [bs] at h13
             refine Tr.regionH ([cellE b2 (encIns.enc zeroIns) 46]) 13 rfl HLF.mixed ?_
             refine Tr.hT 0 rfl (by kernel_rfl) (panicIn (panicThen panicBody)) (QS.move rfl) ?_
             refine Tr.hT 1 rfl (by kernel_rfl) (panicIn (panicThen panicBody)) (QS.idx rfl rfl (by assumption) Tryz.underlying41 Tryz.sizeOf5 (by rfl) (by omega)) ?_
             refine Tr.hT 2 rfl (by kernel_rfl) (panicIn (panicThen panicBody)) (QS.el1 rfl (by assumption) Tryz.isAgg5 (by omega) (by rfl)) ?_
             refine Tr.hT 3 rfl (by kernel_rfl) (panicIn (panicThen panicBody)) (QS.cvt8toI rfl Tryz.underlying5 Tryz.underlying3) ?_
             refine Tr.hT 4 rfl (by kernel_rfl) (panicIn (panicThen panicBody)) (QS.move rfl) ?_
             refine Tr.hT 5 rfl (by kernel_rfl) (panicIn (panicThen panicBody)) (QS.slice (lv := some (_, _)) (hv := none) rfl (by assumption) rfl rfl Tryz.underlying41 Tryz.sizeOf5 (by rfl) (by simp only [loOf, hiOf] <;> first | omega | assumption | (simp only [NatCast.natCast, Int.ofNat_eq_natCast]; omega)) (by simp only [loOf, hiOf] <;> first | omega | assumption | (simp only [NatCast.natCast, Int.ofNat_eq_natCast]; omega)) (by simp only [loOf, hiOf] <;> first | omega | assumption | (simp only [NatCast.natCast, Int.ofNat_eq_natCast]; omega))) ?_
             refine Tr.hT 7 rfl (by kernel_rfl) (panicIn (panicThen panicBody)) (QS.fieldAddr (off := 2) (ft := 3) rfl Tryz.underlying46 rfl rfl Tryz.sizeOf3 (by decide)) ?_
             refine Tr.hAll [6] (by kernel_rfl) (by simp) (fun iq hq => ?_)
             obtain rfl := List.mem_singleton.1 hq
             refine Tr.hOp rfl ?_
             refine Tr.q (QS.call rfl Tryz.call82 (fun w hw => refLong_any ((b.take (b.length : Int).toNat).drop (2 : Int).toNat) _ w (hw.slF (Sl.resl hV' (by omega) (by omega))) (by simp; omega))) rfl ?_
             refine Tr.hN ?_
             refine Tr.hAll [8] (by kernel_rfl) (by simp) (fun iq hq => ?_)
             obtain rfl := List.mem_singleton.1 hq
             refine Tr.hOp rfl ?_
             refine Tr.storeV (cs' := [_, _, _, _, _, _, _, _, _]) rfl rfl Tryz.sizeOf3 (by repeat constructor) rfl (by rfl) (by first | exact Nat.le_of_ble_eq_true rfl | simp) (by first | exact List.all_eq_true.1 rfl | (intro u hu; simp [Value.cells] at hu; simp_all [Value.oneCell'])) rfl ?_
             refine Tr.hN ?_
             refine Tr.hT 9 rfl (by kernel_rfl) (panicIn (panicThen panicBody)) (QS.fieldAddr (off := 6) (ft := 3) rfl Tryz.underlying46 rfl rfl Tryz.sizeOf3 (by decide)) ?_
             refine Tr.hAll [10] (by kernel_rfl) (by simp) (fun iq hq => ?_)
             obtain rfl := List.mem_singleton.1 hq
             refine Tr.hOp rfl ?_
             refine Tr.storeV (cs' := [_, _, _, _, _, _, _, _, _]) rfl rfl Tryz.sizeOf3 (by repeat constructor) rfl (by rfl) (by first | exact Nat.le_of_ble_eq_true rfl | simp) (by first | exact List.all_eq_true.1 rfl | (intro u hu; simp [Value.cells] at hu; simp_all [Value.oneCell'])) rfl ?_
             refine Tr.hN ?_
             refine Tr.hT 11 rfl (by kernel_rfl) (panicIn (panicThen panicBody)) (QS.fieldAddr (off := 1) (ft := 40) rfl Tryz.underlying46 rfl rfl Tryz.sizeOf40 (by decide)) ?_
             refine Tr.hAll [12] (by kernel_rfl) (by simp) (fun iq hq => ?_)
             obtain rfl := List.mem_singleton.1 hq
             refine Tr.hOp rfl ?_
             refine Tr.storeV (cs' := [_, _, _, _, _, _, _, _, _]) rfl rfl Tryz.sizeOf40 (by repeat constructor) rfl (by rfl) (by first | exact Nat.le_of_ble_eq_true rfl | simp) (by first | exact List.all_eq_true.1 rfl | (intro u hu; simp [Value.cells] at hu; simp_all [Value.oneCell'])) rfl ?_
             refine Tr.hN ?_
             refine Tr.hDone (by kernel_rfl) ?_
             refine Tr.inN (Tr.thenN ?_)
             rw [show longP ((b.take (b.length : Int).toNat).drop (2 : Int).toNat) 0 = longP b 2 from long_drop (k := 2) (by omega)]
             apply Tr.joined ⟨addr, longP b 2, 22, 0, 0, 0, (b.getD 1 default).toNat, 0, sz⟩
             ·exact rfl
             ·exact Front.nil
             ·exact SubX.dropN 43 (by kernel_rfl) rfl
             ·exact (by repeat' constructor)
             ·exact (by unfold refBodyP kindP; (repeat (first | rw [if_pos (by omega)] | rw [if_neg (by omega)])) <;> rfl)
            ·try simp only [bs] at h13
             refine Tr.seq (Tr.region ?_)
             refine Tr.q (QS.move rfl) rfl ?_
             refine Tr.q (QS.leq rfl rfl) rfl ?_
             refine Tr.q (QS.assign rfl) rfl ?_
             refine Tr.nil (Tr.thenN ?_)
             refine Tr.cond rfl (fun h14 => ?_) (fun h14 => ?_)
             ·try simp only [bs] at h14
              refine Tr.regionH ([cellE b2 (encIns.enc zeroIns) 46]) 12 rfl HLF.mixed ?_
              refine Tr.hT 0 rfl (by kernel_rfl) (panicIn (panicThen panicBody)) (QS.move rfl) ?_
              refine Tr.hT 1 rfl (by kernel_rfl) (panicIn (panicThen panicBody)) (QS.subI rfl rfl (by omega)) ?_
              refine Tr.hT 2 rfl (by kernel_rfl) (panicIn (panicThen panicBody)) (QS.move rfl) ?_
              refine Tr.hT 3 rfl (by kernel_rfl) (panicIn (panicThen panicBody)) (QS.idx rfl rfl (by assumption) Tryz.underlying41 Tryz.sizeOf5 (by rfl) (by omega)) ?_
              refine Tr.hT 4 rfl (by kernel_rfl) (panicIn (panicThen panicBody)) (QS.el1 rfl (by assumption) Tryz.isAgg5 (by omega) (by rfl)) ?_
              refine Tr.hT 5 rfl (by kernel_rfl) (panicIn (panicThen panicBody)) (QS.cvt8toI rfl Tryz.underlying5 Tryz.underlying3) ?_
              refine Tr.hT 6 rfl (by kernel_rfl) (panicIn (panicThen panicBody)) (QS.fieldAddr (off := 2) (ft := 3) rfl Tryz.underlying46 rfl rfl Tryz.sizeOf3 (by decide)) ?_
              refine Tr.hAll [7] (by kernel_rfl) (by simp) (fun iq hq => ?_)
              obtain rfl := List.mem_singleton.1 hq
              refine Tr.hOp rfl ?_
              refine Tr.storeV (cs' := [_, _, _, _, _, _, _, _, _]) rfl rfl Tryz.sizeOf3 (by repeat constructor) rfl (by rfl) (by first | exact Nat.le_of_ble_eq_true rfl | simp) (by first | exact List.all_eq_true.1 rfl | (intro u hu; simp [Value.cells] at hu; simp_all [Value.oneCell'])) rfl ?_
              refine Tr.hN ?_
              refine Tr.hT 8 rfl (by kernel_rfl) (panicIn (panicThen panicBody)) (QS.fieldAddr (off := 5) (ft := 3) rfl Tryz.underlying46 rfl rfl Tryz.sizeOf3 (by decide)) ?_
              refine Tr.hAll [9] (by kernel_rfl) (by simp) (fun iq hq => ?_)
              obtain rfl := List.mem_singleton.1 hq
              refine Tr.hOp rfl ?_
              refine Tr.storeV (cs' := [_, _, _, _, _, _, _, _, _]) rfl rfl Tryz.sizeOf3 (by repeat constructor) rfl (by rfl) (by first | exact Nat.le_of_ble_eq_true rfl | simp) (by first | exact List.all_eq_true.1 rfl | (intro u hu; simp [Value.cells] at hu; simp_all [Value.oneCell'])) rfl ?_
              refine Tr.hN ?_
              refine Tr.hT 10 rfl (by kernel_rfl) (panicIn (panicThen panicBody)) (QS.fieldAddr (off := 6) (ft := 3) rfl Tryz.underlying46 rfl rfl Tryz.sizeOf3 (by decide)) ?_
              refine Tr.hAll [11] (by kernel_rfl) (by simp) (fun iq hq => ?_)
              obtain rfl := List.mem_singleton.1 hq
              refine Tr.hOp rfl ?_
              refine Tr.storeV (cs' := [_, _, _, _, _, _, _, _, _]) rfl rfl Tryz.sizeOf3 (by repeat constructor) rfl (by rfl) (by first | exact Nat.le_of_ble_eq_true rfl | simp) (by first | exact List.all_eq_true.1 rfl | (intro u hu; simp [Value.cells] at hu; simp_all [Value.oneCell'])) rfl ?_
              refine Tr.hN ?_
              refine Tr.hDone (by kernel_rfl) ?_
              refine Tr.inN (Tr.thenN ?_)
              apply Tr.joined ⟨addr, 0, 25, 0, 0, c - 144, (b.getD 1 default).toNat, 0, sz⟩
              ·exact rfl
              ·exact Front.nil
              ·exact SubX.dropN 45 (by kernel_rfl) rfl
              ·exact (by repeat' constructor)
              ·exact (by unfold refBodyP kindP; (repeat (first | rw [if_pos (by omega)] | rw [if_neg (by omega)])) <;> rfl)
             ·try simp only [bs] at h14
              refine Tr.seq (Tr.region ?_)
              refine Tr.q (QS.move rfl) rfl ?_
              refine Tr.q (QS.eql rfl rfl) rfl ?_
              refine Tr.q (QS.assign rfl) rfl ?_
              refine Tr.nil (Tr.thenN ?_)
              refine Tr.cond rfl (fun h15 => ?_) (fun h15 => ?_)
              ·try simp only [bs] at h15
               refine Tr.regionH ([cellE b2 (encIns.enc zeroIns) 46]) 8 rfl HLF.mixed ?_
               refine Tr.hT 0 rfl (by kernel_rfl) (panicIn (panicThen panicBody)) (QS.move rfl) ?_
               refine Tr.hT 1 rfl (by kernel_rfl) (panicIn (panicThen panicBody)) (QS.idx rfl rfl (by assumption) Tryz.underlying41 Tryz.sizeOf5 (by rfl) (by omega)) ?_
               refine Tr.hT 2 rfl (by kernel_rfl) (panicIn (panicThen panicBody)) (QS.el1 rfl (by assumption) Tryz.isAgg5 (by omega) (by rfl)) ?_
               refine Tr.hT 3 rfl (by kernel_rfl) (panicIn (panicThen panicBody)) (QS.cvt8toI rfl Tryz.underlying5 Tryz.underlying3) ?_
               refine Tr.hT 4 rfl (by kernel_rfl) (panicIn (panicThen panicBody)) (QS.fieldAddr (off := 2) (ft := 3) rfl Tryz.underlying46 rfl rfl Tryz.sizeOf3 (by decide)) ?_
               refine Tr.hAll [5] (by kernel_rfl) (by simp) (fun iq hq => ?_)
               obtain rfl := List.mem_singleton.1 hq
               refine Tr.hOp rfl ?_
               refine Tr.storeV (cs' := [_, _, _, _, _, _, _, _, _]) rfl rfl Tryz.sizeOf3 (by repeat constructor) rfl (by rfl) (by first | exact Nat.le_of_ble_eq_true rfl | simp) (by first | exact List.all_eq_true.1 rfl | (intro u hu; simp [Value.cells] at hu; simp_all [Value.oneCell'])) rfl ?_
               refine Tr.hN ?_
               refine Tr.hT 6 rfl (by kernel_rfl) (panicIn (panicThen panicBody)) (QS.fieldAddr (off := 6) (ft := 3) rfl Tryz.underlying46 rfl rfl Tryz.sizeOf3 (by decide)) ?_
               refine Tr.hAll [7] (by kernel_rfl) (by simp) (fun iq hq => ?_)
               obtain rfl := List.mem_singleton.1 hq
               refine Tr.hOp rfl ?_
               refine Tr.storeV (cs' := [_, _, _, _, _, _, _, _, _]) rfl rfl Tryz.sizeOf3 (by repeat constructor) rfl (by rfl) (by first | exact Nat.le_of_ble_eq_true rfl | simp) (by first | exact List.all_eq_true.1 rfl | (intro u hu; simp [Value.cells] at hu; simp_all [Value.oneCell'])) rfl ?_
               refine Tr.hN ?_
               refine Tr.hDone (by kernel_rfl) ?_
               refine Tr.inN (Tr.thenN ?_)
               apply Tr.joined ⟨addr, 0, 26, 0, 0, 0, (b.getD 1 default).toNat, 0, sz⟩
               ·exact rfl
               ·exact Front.nil
               ·exact SubX.dropN 45 (by kernel_rfl) rfl
               ·exact (by repeat' constructor)
               ·exact (by unfold refBodyP kindP; (repeat (first | rw [if_pos (by omega)] | rw [if_neg (by omega)])) <;> rfl)
              ·try simp only [bs] at h15
               refine Tr.regionH ([cellE b2 (encIns.enc zeroIns) 46]) 8 rfl HLF.mixed ?_
               refine Tr.hT 0 rfl (by kernel_rfl) (panicIn (panicThen panicBody)) (QS.move rfl) ?_
               refine Tr.hT 1 rfl (by kernel_rfl) (panicIn (panicThen panicBody)) (QS.idx rfl rfl (by assumption) Tryz.underlying41 Tryz.sizeOf5 (by rfl) (by omega)) ?_
               refine Tr.hT 2 rfl (by kernel_rfl) (panicIn (panicThen panicBody)) (QS.el1 rfl (by assumption) Tryz.isAgg5 (by omega) (by rfl)) ?_
               refine Tr.hT 3 rfl (by kernel_rfl) (panicIn (panicThen panicBody)) (QS.cvt8toI rfl Tryz.underlying5 Tryz.underlying3) ?_
               refine Tr.hT 4 rfl (by kernel_rfl) (panicIn (panicThen panicBody)) (QS.fieldAddr (off := 2) (ft := 3) rfl Tryz.underlying46 rfl rfl Tryz.sizeOf3 (by decide)) ?_
               refine Tr.hAll [5] (by kernel_rfl) (by simp) (fun iq hq => ?_)
               obtain rfl := List.mem_singleton.1 hq
               refine Tr.hOp rfl ?_
               refine Tr.storeV (cs' := [_, _, _, _, _, _, _, _, _]) rfl rfl Tryz.sizeOf3 (by repeat constructor) rfl (by rfl) (by first | exact Nat.le_of_ble_eq_true rfl | simp) (by first | exact List.all_eq_true.1 rfl | (intro u hu; simp [Value.cells] at hu; simp_all [Value.oneCell'])) rfl ?_
               refine Tr.hN ?_
               refine Tr.hT 6 rfl (by kernel_rfl) (panicIn (panicThen panicBody)) (QS.fieldAddr (off := 6) (ft := 3) rfl Tryz.underlying46 rfl rfl Tryz.sizeOf3 (by decide)) ?_
               refine Tr.hAll [7] (by kernel_rfl) (by simp) (fun iq hq => ?_)
               obtain rfl := List.mem_singleton.1 hq
               refine Tr.hOp rfl ?_
               refine Tr.storeV (cs' := [_, _, _, _, _, _, _, _, _]) rfl rfl Tryz.sizeOf3 (by repeat constructor) rfl (by rfl) (by first | exact Nat.le_of_ble_eq_true rfl | simp) (by first | exact List.all_eq_true.1 rfl | (intro u hu; simp [Value.cells] at hu; simp_all [Value.oneCell'])) rfl ?_
               refine Tr.hN ?_
               refine Tr.hDone (by kernel_rfl) ?_
               refine Tr.inN (Tr.thenN ?_)
               apply Tr.joined ⟨addr, 0, 27, 0, 0, 0, (b.getD 1 default).toNat, 0, sz⟩
               ·exact rfl
               ·exact Front.nil
               ·exact SubX.dropN 45 (by kernel_rfl) rfl
               ·exact (by repeat' constructor)
               ·exact (by unfold refBodyP kindP; (repeat (first | rw [if_pos (by omega)] | rw [if_neg (by omega)])) <;> rfl)
 ·skip
  replace hi : k = refBodyP c b ⟨addr, 0, 0, 0, 0, 0, 0, 0, sz⟩ := hi
  change Tr _ _ [cellE b1 (encIns.enc k) 46, cellE b2 (encIns.enc zeroIns) 46] ([] ++ _) _
  refine Tr.seq (Tr.region ?_)
  refine Tr.q (QS.lW rfl Tryz.isAgg46 Tryz.sizeOf46) rfl ?_
  refine Tr.storeW rfl rfl Tryz.sizeOf46 (by repeat constructor) (by rfl) (by rfl) (by first | exact List.all_eq_true.1 rfl | exact Enc.one _ _ | exact Enc.one encIns _) rfl ?_
  refine Tr.nil (Tr.thenN (Tr.ret ?_))
  refine Tr.retC1 Tryz.results83 rfl (by repeat constructor) Tryz.isAgg46 Tryz.sizeOf46 (by rfl) (fun w' hw => ?_)
  exact ⟨by rw [hi]; rfl, hw.below (Bg.le.refl _)⟩
set_option maxRecDepth 100000 in
set_option maxHeartbeats 2000000 in
theorem fields_any (b : List UInt8) (V : Value) (addr : UInt32) (sz : Int) (w : World) (hV : Sl (hp w) encU8 b V) (hb : (b.length : Int) = sizedP (b.getD 0 default).toNat) (hz : sizedP (b.getD 0 default).toNat ≠ 0) :
  Calls Tryz.prog 58 #[V, .agg (encIns.enc ⟨addr, 0, 0, 0, 0, 0, 0, 0, sz⟩).toArray] w (fun e w' => e = .returned (.agg (encIns.enc (refBodyP (b.getD 0 default).toNat b ⟨addr, 0, 0, 0, 0, 0, 0, 0, sz⟩)).toArray) ∧ Ext w w') := by
 have hV' : Sl (Bg.of w).blk encU8 b V := hV
 have hlen := hV.len_le
 have hsp := sizedP_spec (c := ((b.getD 0 default).toNat : Nat))
 have hsz := sizedP_ne hz
 have hc0 := (b.getD 0 default).toNat_lt
 generalize hcc : (((b.getD 0 default).toNat : Nat) : Int) = c at *
 refine enter Tryz.func58 rfl Tryz.ntmps58 rfl ?_
 refine Tr.seq (Tr.region ?_)
 refine Tr.box rfl rfl rfl (fun b1 => ?_)
 refine Tr.alloc Tryz.zeroValue46 rfl rfl (fun b2 => ?_)
 refine Tr.nil (Tr.thenN (Tr.seq (Tr.region ?_)))
 refine Tr.q (QS.move rfl) rfl ?_
 refine Tr.q (QS.idx rfl rfl (by assumption) Tryz.underlying41 Tryz.sizeOf5 (by rfl) (by omega)) rfl ?_
 refine Tr.q (QS.el1 rfl (by assumption) Tryz.isAgg5 (by omega) (by rfl)) rfl ?_
 refine Tr.q (QS.cvt8toI rfl Tryz.underlying5 Tryz.underlying3) rfl ?_
 rw [show Int.toNat 0 = 0 from rfl, hcc]
 refine Tr.q (QS.assign rfl) rfl ?_
 refine Tr.nil (Tr.thenN ?_)
 refine Tr.seqJ (ι := Ins) (fun k => k = refBodyP c b ⟨addr, 0, 0, 0, 0, 0, 0, 0, sz⟩) (fun _ => Bg.of w) (fun k => [cellE b1 (encIns.enc k) 46, cellE b2 (encIns.enc zeroIns) 46]) (fun k => []) ?_ (fun k hi => ?_)
 ·skip
  refine Tr.block (Tr.seq (Tr.region ?_))
  refine Tr.q (QS.move rfl) rfl ?_
  refine Tr.q (QS.geq rfl rfl) rfl ?_
  refine Tr.q (QS.move rfl) rfl ?_
  apply Tr.andP
  ·exact (rfl : _ = (3, 17, 20))
  ·exact rfl
  ·intro hT3; have hT3' := hT3
   try simp only [bs] at hT3'
   refine Tr.gq rfl rfl hT3 (QS.move rfl) rfl ?_
   refine Tr.gq rfl rfl hT3 (QS.leq rfl rfl) rfl ?_
   refine Tr.q (QS.pickT rfl hT3 rfl) rfl ?_
   refine Tr.nil (Tr.thenN ?_)
   exact Tr.endX (Sub.cons rfl (Sub.dropN 3 (by kernel_rfl) rfl))
  ·intro hF3
   refine Tr.gskip rfl rfl hF3 rfl ?_
   refine Tr.gskip rfl rfl hF3 rfl ?_
   refine Tr.q (QS.pickF rfl hF3 rfl) rfl ?_
   refine Tr.nil (Tr.thenN ?_)
   exact Tr.endX (Sub.cons rfl (Sub.dropN 3 (by kernel_rfl) rfl))
  refine Tr.q (QS.assign rfl) rfl ?_
  refine Tr.nil (Tr.thenN ?_)
  refine Tr.cond rfl (fun h4 => ?_) (fun h4 => ?_)
  ·try simp only [bs] at h4
   refine Tr.regionH ([cellE b2 (encIns.enc zeroIns) 46]) 21 rfl HLF.mixed ?_
   refine Tr.hT 0 rfl (by kernel_rfl) (panicIn (panicThen panicBody)) (QS.move rfl) ?_
   refine Tr.hT 1 rfl (by kernel_rfl) (panicIn (panicThen panicBody)) (QS.addI rfl rfl (by omega)) ?_
   refine Tr.hT 2 rfl (by kernel_rfl) (panicIn (panicThen panicBody)) (QS.subI rfl rfl (by omega)) ?_
   refine Tr.hT 3 rfl (by kernel_rfl) (panicIn (panicThen panicBody)) (QS.move rfl) ?_
   refine Tr.hT 4 rfl (by kernel_rfl) (panicIn (panicThen panicBody)) (QS.idx rfl rfl (by assumption) Tryz.underlying41 Tryz.sizeOf5 (by rfl) (by omega)) ?_
   refine Tr.hT 5 rfl (by kernel_rfl) (panicIn (panicThen panicBody)) (QS.el1 rfl (by assumption) Tryz.isAgg5 (by omega) (by rfl)) ?_
   refine Tr.hT 6 rfl (by kernel_rfl) (panicIn (panicThen panicBody)) (QS.quo8 (n := 16) rfl rfl (by first | decide | assumption)) ?_
   refine Tr.hT 7 rfl (by kernel_rfl) (panicIn (panicThen panicBody)) (QS.cvt8toI rfl Tryz.underlying5 Tryz.underlying3) ?_
   refine Tr.hT 8 rfl (by kernel_rfl) (panicIn (panicThen panicBody)) (QS.move rfl) ?_
   refine Tr.hT 9 rfl (by kernel_rfl) (panicIn (panicThen panicBody)) (QS.idx rfl rfl (by assumption) Tryz.underlying41 Tryz.sizeOf5 (by rfl) (by omega)) ?_
   refine Tr.hT 10 rfl (by kernel_rfl) (panicIn (panicThen panicBody)) (QS.el1 rfl (by assumption) Tryz.isAgg5 (by omega) (by rfl)) ?_
   refine Tr.hT 11 rfl (by kernel_rfl) (panicIn (panicThen panicBody)) (QS.rem8 (n := 16) rfl rfl (by first | decide | assumption)) ?_
   refine Tr.hT 12 rfl (by kernel_rfl) (panicIn (panicThen panicBody)) (QS.cvt8toI rfl Tryz.underlying5 Tryz.underlying3) ?_
   refine Tr.hT 13 rfl (by kernel_rfl) (panicIn (panicThen panicBody)) (QS.fieldAddr (off := 2) (ft := 3) rfl Tryz.underlying46 rfl rfl Tryz.sizeOf3 (by decide)) ?_
   refine Tr.hAll [14] (by kernel_rfl) (by simp) (fun iq hq => ?_)
   obtain rfl := List.mem_singleton.1 hq
   refine Tr.hOp rfl ?_
   refine Tr.storeV (cs' := [_, _, _, _, _, _, _, _, _]) rfl rfl Tryz.sizeOf3 (by repeat constructor) rfl (by rfl) (by first | exact Nat.le_of_ble_eq_true rfl | simp) (by first | exact List.all_eq_true.1 rfl | (intro u hu; simp [Value.cells] at hu; simp_all [Value.oneCell'])) rfl ?_
   refine Tr.hN ?_
   refine Tr.hT 15 rfl (by kernel_rfl) (panicIn (panicThen panicBody)) (QS.fieldAddr (off := 3) (ft := 3) rfl Tryz.underlying46 rfl rfl Tryz.sizeOf3 (by decide)) ?_
   refine Tr.hAll [16] (by kernel_rfl) (by simp) (fun iq hq => ?_)
   obtain rfl := List.mem_singleton.1 hq
   refine Tr.hOp rfl ?_
   refine Tr.storeV (cs' := [_, _, _, _, _, _, _, _, _]) rfl rfl Tryz.sizeOf3 (by repeat constructor) rfl (by rfl) (by first | exact Nat.le_of_ble_eq_true rfl | simp) (by first | exact List.all_eq_true.1 rfl | (intro u hu; simp [Value.cells] at hu; simp_all [Value.oneCell'])) rfl ?_
   refine Tr.hN ?_
   refine Tr.hT 17 rfl (by kernel_rfl) (panicIn (panicThen panicBody)) (QS.fieldAddr (off := 6) (ft := 3) rfl Tryz.underlying46 rfl rfl Tryz.sizeOf3 (by decide)) ?_
   refine Tr.hAll [18] (by kernel_rfl) (by simp) (fun iq hq => ?_)
   obtain rfl := List.mem_singleton.1 hq
   refine Tr.hOp rfl ?_
   refine Tr.storeV (cs' := [_, _, _, _, _, _, _, _, _]) rfl rfl Tryz.sizeOf3 (by repeat constructor) rfl (by rfl) (by first | exact Nat.le_of_ble_eq_true rfl | simp) (by first | exact List.all_eq_true.1 rfl | (intro u hu; simp [Value.cells] at hu; simp_all [Value.oneCell'])) rfl ?_
   refine Tr.hN ?_
   refine Tr.hT 19 rfl (by kernel_rfl) (panicIn (panicThen panicBody)) (QS.fieldAddr (off := 7) (ft := 3) rfl Tryz.underlying46 rfl rfl Tryz.sizeOf3 (by decide)) ?_
   refine Tr.hAll [20] (by kernel_rfl) (by simp) (fun iq hq => ?_)
   obtain rfl := List.mem_singleton.1 hq
   refine Tr.hOp rfl ?_
   refine Tr.storeV (cs' := [_, _, _, _, _, _, _, _, _]) rfl rfl Tryz.sizeOf3 (by repeat constructor) rfl (by rfl) (by first | exact Nat.le_of_ble_eq_true rfl | simp) (by first | exact List.all_eq_true.1 rfl | (intro u hu; simp [Value.cells] at hu; simp_all [Value.oneCell'])) rfl ?_
   refine Tr.hN ?_
   refine Tr.hDone (by kernel_rfl) ?_
   refine Tr.inN (Tr.thenN ?_)
   apply Tr.joined ⟨addr, 0, 5 + c - 32, 0, 0, 0, ((b.getD 1 default) / 16).toNat, ((b.getD 1 default) % 16).toNat, sz⟩
   ·exact rfl
   ·exact Front.nil
   ·exact SubX.dropN 22 (by kernel_rfl) rfl
   ·exact (by repeat' constructor)
   ·exact (by unfold refBodyP kindP; (repeat (first | rw [if_pos (by omega)] | rw [if_neg (by omega)])) <;> rfl)
  ·try simp only [bs] at h4
   refine Tr.seq (Tr.region ?_)
   refine Tr.q (QS.move rfl) rfl ?_
   refine Tr.q (QS.geq rfl rfl) rfl ?_
   refine Tr.q (QS.move rfl) rfl ?_
   apply Tr.andP
   ·exact (rfl : _ = (3, 41, 44))
   ·exact rfl
   ·intro hT5; have hT5' := hT5
    try simp only [bs] at hT5'
    refine Tr.gq rfl rfl hT5 (QS.move rfl) rfl ?_
    refine Tr.gq rfl rfl hT5 (QS.leq rfl rfl) rfl ?_
    refine Tr.q (QS.pickT rfl hT5 rfl) rfl ?_
    refine Tr.nil (Tr.thenN ?_)
    exact Tr.endX (Sub.cons rfl (Sub.dropN 3 (by kernel_rfl) rfl))
   ·intro hF5
    refine Tr.gskip rfl rfl hF5 rfl ?_
    refine Tr.gskip rfl rfl hF5 rfl ?_
    refine Tr.q (QS.pickF rfl hF5 rfl) rfl ?_
    refine Tr.nil (Tr.thenN ?_)
    exact Tr.endX (Sub.cons rfl (Sub.dropN 3 (by kernel_rfl) rfl))
   refine Tr.q (QS.assign rfl) rfl ?_
   refine Tr.nil (Tr.thenN ?_)
   refine Tr.cond rfl (fun h6 => ?_) (fun h6 => ?_)
   ·try simp only [bs] at h6
    refine Tr.regionH ([cellE b2 (encIns.enc zeroIns) 46]) 19 rfl HLF.mixed ?_
    refine Tr.hT 0 rfl (by kernel_rfl) (panicIn (panicThen panicBody)) (QS.move rfl) ?_
    refine Tr.hT 1 rfl (by kernel_rfl) (panicIn (panicThen panicBody)) (QS.addI rfl rfl (by omega)) ?_
    refine Tr.hT 2 rfl (by kernel_rfl) (panicIn (panicThen panicBody)) (QS.subI rfl rfl (by omega)) ?_
    refine Tr.hT 3 rfl (by kernel_rfl) (panicIn (panicThen panicBody)) (QS.move rfl) ?_
    refine Tr.hT 4 rfl (by kernel_rfl) (panicIn (panicThen panicBody)) (QS.idx rfl rfl (by assumption) Tryz.underlying41 Tryz.sizeOf5 (by rfl) (by omega)) ?_
    refine Tr.hT 5 rfl (by kernel_rfl) (panicIn (panicThen panicBody)) (QS.el1 rfl (by assumption) Tryz.isAgg5 (by omega) (by rfl)) ?_
    refine Tr.hT 6 rfl (by kernel_rfl) (panicIn (panicThen panicBody)) (QS.cvt8toI rfl Tryz.underlying5 Tryz.underlying3) ?_
    refine Tr.hT 7 rfl (by kernel_rfl) (panicIn (panicThen panicBody)) (QS.move rfl) ?_
    refine Tr.hT 8 rfl (by kernel_rfl) (panicIn (panicThen panicBody)) (QS.idx rfl rfl (by assumption) Tryz.underlying41 Tryz.sizeOf5 (by rfl) (by omega)) ?_
    refine Tr.hT 9 rfl (by kernel_rfl) (panicIn (panicThen panicBody)) (QS.el1 rfl (by assumption) Tryz.isAgg5 (by omega) (by rfl)) ?_
    refine Tr.hT 11 rfl (by kernel_rfl) (panicIn (panicThen panicBody)) (QS.fieldAddr (off := 2) (ft := 3) rfl Tryz.underlying46 rfl rfl Tryz.sizeOf3 (by decide)) ?_
    refine Tr.hAll [10] (by kernel_rfl) (by simp) (fun iq hq => ?_)
    obtain rfl := List.mem_singleton.1 hq
    refine Tr.hOp rfl ?_
    refine Tr.q (QS.call rfl Tryz.call81 (fun w hw => signed_any (b.getD 2 default) w)) rfl ?_
    refine Tr.hN ?_
    refine Tr.hAll [12] (by kernel_rfl) (by simp) (fun iq hq => ?_)
    obtain rfl := List.mem_singleton.1 hq
    refine Tr.hOp rfl ?_
    refine Tr.storeV (cs' := [_, _, _, _, _, _, _, _, _]) rfl rfl Tryz.sizeOf3 (by repeat constructor) rfl (by rfl) (by first | exact Nat.le_of_ble_eq_true rfl | simp) (by first | exact List.all_eq_true.1 rfl | (intro u hu; simp [Value.cells] at hu; simp_all [Value.oneCell'])) rfl ?_
    refine Tr.hN ?_
    refine Tr.hT 13 rfl (by kernel_rfl) (panicIn (panicThen panicBody)) (QS.fieldAddr (off := 3) (ft := 3) rfl Tryz.underlying46 rfl rfl Tryz.sizeOf3 (by decide)) ?_
    refine Tr.hAll [14] (by kernel_rfl) (by simp) (fun iq hq => ?_)
    obtain rfl := List.mem_singleton.1 hq
    refine Tr.hOp rfl ?_
    refine Tr.storeV (cs' := [_, _, _, _, _, _, _, _, _]) rfl rfl Tryz.sizeOf3 (by repeat constructor) rfl (by rfl) (by first | exact Nat.le_of_ble_eq_true rfl | simp) (by first | exact List.all_eq_true.1 rfl | (intro u hu; simp [Value.cells] at hu; simp_all [Value.oneCell'])) rfl ?_
    refine Tr.hN ?_
    refine Tr.hT 15 rfl (by kernel_rfl) (panicIn (panicThen panicBody)) (QS.fieldAddr (off := 6) (ft := 3) rfl Tryz.underlying46 rfl rfl Tryz.sizeOf3 (by decide)) ?_
    refine Tr.hAll [16] (by kernel_rfl) (by simp) (fun iq hq => ?_)
    obtain rfl := List.mem_singleton.1 hq
    refine Tr.hOp rfl ?_
    refine Tr.storeV (cs' := [_, _, _, _, _, _, _, _, _]) rfl rfl Tryz.sizeOf3 (by repeat constructor) rfl (by rfl) (by first | exact Nat.le_of_ble_eq_true rfl | simp) (by first | exact List.all_eq_true.1 rfl | (intro u hu; simp [Value.cells] at hu; simp_all [Value.oneCell'])) rfl ?_
    refine Tr.hN ?_
    refine Tr.hT 17 rfl (by kernel_rfl) (panicIn (panicThen panicBody)) (QS.fieldAddr (off := 1) (ft := 40) rfl Tryz.underlying46 rfl rfl Tryz.sizeOf40 (by decide)) ?_
    refine Tr.hAll [18] (by kernel_rfl) (by simp) (fun iq hq => ?_)
    obtain rfl := List.mem_singleton.1 hq
    refine Tr.hOp rfl ?_
    refine Tr.storeV (cs' := [_, _, _, _, _, _, _, _, _]) rfl rfl Tryz.sizeOf40 (by repeat constructor) rfl (by rfl) (by first | exact Nat.le_of_ble_eq_true rfl | simp) (by first | exact List.all_eq_true.1 rfl | (intro u hu; simp [Value.cells] at hu; simp_all [Value.oneCell'])) rfl ?_
    refine Tr.hN ?_
    refine Tr.hDone (by kernel_rfl) ?_
    refine Tr.inN (Tr.thenN ?_)
    apply Tr.joined ⟨addr, sextP (b.getD 2 default), 5 + c - 48, 1, 0, 0, (b.getD 1 default).toNat, 0, sz⟩
    ·exact rfl
    ·exact Front.nil
    ·exact SubX.dropN 25 (by kernel_rfl) rfl
    ·exact (by repeat' constructor)
    ·exact (by unfold refBodyP kindP; (repeat (first | rw [if_pos (by omega)] | rw [if_neg (by omega)])) <;> rfl)
   ·try simp only [bs] at h6
    refine Tr.seq (Tr.region ?_)
    refine Tr.q (QS.move rfl) rfl ?_
    refine Tr.q (QS.geq rfl rfl) rfl ?_
    refine Tr.q (QS.move rfl) rfl ?_
    apply Tr.andP
    ·exact (rfl : _ = (3, 63, 66))
    ·exact rfl
    ·intro hT7; have hT7' := hT7
     try simp only [bs] at hT7'
     refine Tr.gq rfl rfl hT7 (QS.move rfl) rfl ?_
     refine Tr.gq rfl rfl hT7 (QS.leq rfl rfl) rfl ?_
     refine Tr.q (QS.pickT rfl hT7 rfl) rfl ?_
     refine Tr.nil (Tr.thenN ?_)
     exact Tr.endX (Sub.cons rfl (Sub.dropN 3 (by kernel_rfl) rfl))
    ·intro hF7
     refine Tr.gskip rfl rfl hF7 rfl ?_
     refine Tr.gskip rfl rfl hF7 rfl ?_
     refine Tr.q (QS.pickF rfl hF7 rfl) rfl ?_
     refine Tr.nil (Tr.thenN ?_)
     exact Tr.endX (Sub.cons rfl (Sub.dropN 3 (by kernel_rfl) rfl))
    refine Tr.q (QS.assign rfl) rfl ?_
    refine Tr.nil (Tr.thenN ?_)
    refine Tr.cond rfl (fun h8 => ?_) (fun h8 => ?_)
    ·try simp only [bs] at h8
     refine Tr.regionH ([cellE b2 (encIns.enc zeroIns) 46]) 18 rfl HLF.mixed ?_
     refine Tr.hT 0 rfl (by kernel_rfl) (panicIn (panicThen panicBody)) (QS.move rfl) ?_
     refine Tr.hT 1 rfl (by kernel_rfl) (panicIn (panicThen panicBody)) (QS.addI rfl rfl (by omega)) ?_
     refine Tr.hT 2 rfl (by kernel_rfl) (panicIn (panicThen panicBody)) (QS.subI rfl rfl (by omega)) ?_
     refine Tr.hT 3 rfl (by kernel_rfl) (panicIn (panicThen panicBody)) (QS.move rfl) ?_
     refine Tr.hT 4 rfl (by kernel_rfl) (panicIn (panicThen panicBody)) (QS.idx rfl rfl (by assumption) Tryz.underlying41 Tryz.sizeOf5 (by rfl) (by omega)) ?_
     refine Tr.hT 5 rfl (by kernel_rfl) (panicIn (panicThen panicBody)) (QS.el1 rfl (by assumption) Tryz.isAgg5 (by omega) (by rfl)) ?_
     refine Tr.hT 6 rfl (by kernel_rfl) (panicIn (panicThen panicBody)) (QS.cvt8toI rfl Tryz.underlying5 Tryz.underlying3) ?_
     refine Tr.hT 7 rfl (by kernel_rfl) (panicIn (panicThen panicBody)) (QS.move rfl) ?_
     refine Tr.hT 8 rfl (by kernel_rfl) (panicIn (panicThen panicBody)) (QS.slice (lv := some (_, _)) (hv := none) rfl (by assumption) rfl rfl Tryz.underlying41 Tryz.sizeOf5 (by rfl) (by simp only [loOf, hiOf] <;> first | omega | assumption | (simp only [NatCast.natCast, Int.ofNat_eq_natCast]; omega)) (by simp only [loOf, hiOf] <;> first | omega | assumption | (simp only [NatCast.natCast, Int.ofNat_eq_natCast]; omega)) (by simp only [loOf, hiOf] <;> first | omega | assumption | (simp only [NatCast.natCast, Int.ofNat_eq_natCast]; omega))) ?_
     refine Tr.hT 10 rfl (by kernel_rfl) (panicIn (panicThen panicBody)) (QS.fieldAddr (off := 2) (ft := 3) rfl Tryz.underlying46 rfl rfl Tryz.sizeOf3 (by decide)) ?_
     refine Tr.hAll [9] (by kernel_rfl) (by simp) (fun iq hq => ?_)
     obtain rfl := List.mem_singleton.1 hq
     refine Tr.hOp rfl ?_
     refine Tr.q (QS.call rfl Tryz.call82 (fun w hw => refLong_any ((b.take (b.length : Int).toNat).drop (2 : Int).toNat) _ w (hw.slF (Sl.resl hV' (by omega) (by omega))) (by simp; omega))) rfl ?_
     refine Tr.hN ?_
     refine Tr.hAll [11] (by kernel_rfl) (by simp) (fun iq hq => ?_)
     obtain rfl := List.mem_singleton.1 hq
     refine Tr.hOp rfl ?_
     refine Tr.storeV (cs' := [_, _, _, _, _, _, _, _, _]) rfl rfl Tryz.sizeOf3 (by repeat constructor) rfl (by rfl) (by first | exact Nat.le_of_ble_eq_true rfl | simp) (by first | exact List.all_eq_true.1 rfl | (intro u hu; simp [Value.cells] at hu; simp_all [Value.oneCell'])) rfl ?_
     refine Tr.hN ?_
     refine Tr.hT 12 rfl (by kernel_rfl) (panicIn (panicThen panicBody)) (QS.fieldAddr (off := 3) (ft := 3) rfl Tryz.underlying46 rfl rfl Tryz.sizeOf3 (by decide)) ?_
     refine Tr.hAll [13] (by kernel_rfl) (by simp) (fun iq hq => ?_)
     obtain rfl := List.mem_singleton.1 hq
     refine Tr.hOp rfl ?_
     refine Tr.storeV (cs' := [_, _, _, _, _, _, _, _, _]) rfl rfl Tryz.sizeOf3 (by repeat constructor) rfl (by rfl) (by first | exact Nat.le_of_ble_eq_true rfl | simp) (by first | exact List.all_eq_true.1 rfl | (intro u hu; simp [Value.cells] at hu; simp_all [Value.oneCell'])) rfl ?_
     refine Tr.hN ?_
     refine Tr.hT 14 rfl (by kernel_rfl) (panicIn (panicThen panicBody)) (QS.fieldAddr (off := 6) (ft := 3) rfl Tryz.underlying46 rfl rfl Tryz.sizeOf3 (by decide)) ?_
     refine Tr.hAll [15] (by kernel_rfl) (by simp) (fun iq hq => ?_)
     obtain rfl := List.mem_singleton.1 hq
     refine Tr.hOp rfl ?_
     refine Tr.storeV (cs' := [_, _, _, _, _, _, _, _, _]) rfl rfl Tryz.sizeOf3 (by repeat constructor) rfl (by rfl) (by first | exact Nat.le_of_ble_eq_true rfl | simp) (by first | exact List.all_eq_true.1 rfl | (intro u hu; simp [Value.cells] at hu; simp_all [Value.oneCell'])) rfl ?_
     refine Tr.hN ?_
     refine Tr.hT 16 rfl (by kernel_rfl) (panicIn (panicThen panicBody)) (QS.fieldAddr (off := 1) (ft := 40) rfl Tryz.underlying46 rfl rfl Tryz.sizeOf40 (by decide)) ?_
     refine Tr.hAll [17] (by kernel_rfl) (by simp) (fun iq hq => ?_)
     obtain rfl := List.mem_singleton.1 hq
     refine Tr.hOp rfl ?_
     refine Tr.storeV (cs' := [_, _, _, _, _, _, _, _, _]) rfl rfl Tryz.sizeOf40 (by repeat constructor) rfl (by rfl) (by first | exact Nat.le_of_ble_eq_true rfl | simp) (by first | exact List.all_eq_true.1 rfl | (intro u hu; simp [Value.cells] at hu; simp_all [Value.oneCell'])) rfl ?_
     refine Tr.hN ?_
     refine Tr.hDone (by kernel_rfl) ?_
     refine Tr.inN (Tr.thenN ?_)
     rw [show longP ((b.take (b.length : Int).toNat).drop (2 : Int).toNat) 0 = longP b 2 from long_drop (k := 2) (by omega)]
     apply Tr.joined ⟨addr, longP b 2, 5 + c - 64, 2, 0, 0, (b.getD 1 default).toNat, 0, sz⟩
     ·exact rfl
     ·exact Front.nil
     ·exact SubX.dropN 29 (by kernel_rfl) rfl
     ·exact (by repeat' constructor)
     ·exact (by unfold refBodyP kindP; (repeat (first | rw [if_pos (by omega)] | rw [if_neg (by omega)])) <;> rfl)
    ·try simp only [bs] at h8
     refine Tr.seq (Tr.region ?_)
     refine Tr.q (QS.move rfl) rfl ?_
     refine Tr.q (QS.move rfl) rfl ?_
     refine Tr.q (QS.lW rfl Tryz.isAgg46 Tryz.sizeOf46) rfl ?_
     refine Tr.q (QS.call rfl Tryz.call83 (fun w hw => memoryOr_any c b V addr sz w (hw.slF hV) hb (by omega) hz (by omega))) rfl ?_
     refine Tr.storeW rfl rfl Tryz.sizeOf46 (by repeat constructor) (by rfl) (by rfl) (by first | exact List.all_eq_true.1 rfl | exact Enc.one _ _ | exact Enc.one encIns _) rfl ?_
     refine Tr.nil (Tr.thenN (Tr.ret ?_))
     refine Tr.inR ?_
     refine Tr.thenR ?_
     refine Tr.retC1 Tryz.results58 rfl (by repeat constructor) Tryz.isAgg46 Tryz.sizeOf46 (by rfl) (fun w' hw => ?_)
     exact ⟨rfl, hw.below (Bg.le.refl _)⟩
 ·skip
  replace hi : k = refBodyP c b ⟨addr, 0, 0, 0, 0, 0, 0, 0, sz⟩ := hi
  change Tr _ _ [cellE b1 (encIns.enc k) 46, cellE b2 (encIns.enc zeroIns) 46] ([] ++ _) _
  refine Tr.seq (Tr.region ?_)
  refine Tr.q (QS.lW rfl Tryz.isAgg46 Tryz.sizeOf46) rfl ?_
  refine Tr.storeW rfl rfl Tryz.sizeOf46 (by repeat constructor) (by rfl) (by rfl) (by first | exact List.all_eq_true.1 rfl | exact Enc.one _ _ | exact Enc.one encIns _) rfl ?_
  refine Tr.nil (Tr.thenN (Tr.ret ?_))
  refine Tr.retC1 Tryz.results58 rfl (by repeat constructor) Tryz.isAgg46 Tryz.sizeOf46 (by rfl) (fun w' hw => ?_)
  exact ⟨by rw [hi]; rfl, hw.below (Bg.le.refl _)⟩
set_option maxRecDepth 100000 in
set_option maxHeartbeats 2000000 in
theorem refDecode_any (b : List UInt8) (V : Value) (addr : UInt32) (w : World) (hV : Sl (hp w) encU8 b V) :
  Calls Tryz.prog 33 #[V, .int .u32 addr.toNat] w (fun e w' => e = .returned (.tuple #[.agg (encIns.enc (refDecP b addr).1).toArray, .int .i64 (refDecP b addr).2]) ∧ Ext w w') := by
 have hV' : Sl (Bg.of w).blk encU8 b V := hV
 have hlen := hV.len_le
 have hpos := sizedP_nonneg (((b.getD 0 default).toNat : Nat) : Int)
 refine enter Tryz.func33 rfl Tryz.ntmps33 rfl ?_
 refine Tr.seq (Tr.region ?_)
 refine Tr.alloc Tryz.zeroValue46 rfl rfl (fun b1 => ?_)
 refine Tr.q (QS.assign rfl) rfl ?_
 refine Tr.nil (Tr.thenN (Tr.seq (Tr.seq (Tr.region ?_))))
 refine Tr.q (QS.move rfl) rfl ?_
 refine Tr.q (QS.len rfl (by assumption) Tryz.underlying41) rfl ?_
 refine Tr.q (QS.eql rfl rfl) rfl ?_
 refine Tr.nil (Tr.thenN ?_)
 refine Tr.cond rfl (fun h2 => ?_) (fun h2 => ?_)
 ·try simp only [bs] at h2
  refine Tr.seq (Tr.region ?_)
  refine Tr.q (QS.build (vs := []) rfl rfl (HLF.built46)) rfl ?_
  refine Tr.storeW rfl rfl Tryz.sizeOf46 (by repeat constructor) (by rfl) (by rfl) (by first | exact List.all_eq_true.1 rfl | exact Enc.one _ _ | exact Enc.one encIns _) rfl ?_
  refine Tr.q (QS.assign rfl) rfl ?_
  refine Tr.nil (Tr.thenN (Tr.ret (Tr.thenR ?_)))
  refine Tr.retC2 Tryz.results33 rfl rfl (by repeat constructor) Tryz.isAgg46 Tryz.sizeOf46 (by rfl) (fun w' hw => ?_)
  exact ⟨by unfold refDecP; rw [if_pos (by omega)]; rfl, hw.below (Bg.le.refl _)⟩
 ·try simp only [bs] at h2
  refine Tr.skip (Tr.thenN (Tr.seq (Tr.region ?_)))
  refine Tr.q (QS.move rfl) rfl ?_
  refine Tr.q (QS.idx rfl rfl (by assumption) Tryz.underlying41 Tryz.sizeOf5 (by rfl) (by omega)) rfl ?_
  refine Tr.q (QS.el1 rfl (by assumption) Tryz.isAgg5 (by omega) (by rfl)) rfl ?_
  refine Tr.q (QS.cvt8toI rfl Tryz.underlying5 Tryz.underlying3) rfl ?_
  refine Tr.q (QS.call rfl Tryz.call57 (fun w hw => sized_any (b.getD 0 default).toNat w)) rfl ?_
  generalize hq : sizedP (b.getD 0 default).toNat = n at *
  refine Tr.q (QS.assign rfl) rfl ?_
  refine Tr.nil (Tr.thenN (Tr.seq (Tr.seq (Tr.region ?_))))
  refine Tr.q (QS.move rfl) rfl ?_
  refine Tr.q (QS.eql rfl rfl) rfl ?_
  refine Tr.nil (Tr.thenN ?_)
  refine Tr.cond rfl (fun h3 => ?_) (fun h3 => ?_)
  ·try simp only [bs] at h3
   refine Tr.seq (Tr.region ?_)
   refine Tr.q (QS.build (vs := []) rfl rfl (HLF.built46)) rfl ?_
   refine Tr.storeW rfl rfl Tryz.sizeOf46 (by repeat constructor) (by rfl) (by rfl) (by first | exact List.all_eq_true.1 rfl | exact Enc.one _ _ | exact Enc.one encIns _) rfl ?_
   refine Tr.q (QS.assign rfl) rfl ?_
   refine Tr.nil (Tr.thenN (Tr.ret (Tr.thenR ?_)))
   refine Tr.retC2 Tryz.results33 rfl rfl (by repeat constructor) Tryz.isAgg46 Tryz.sizeOf46 (by rfl) (fun w' hw => ?_)
   exact ⟨by unfold refDecP; rw [if_neg (by omega), if_pos (by rw [hq]; assumption)]; rfl, hw.below (Bg.le.refl _)⟩
  ·try simp only [bs] at h3
   refine Tr.skip (Tr.thenN (Tr.seq (Tr.seq (Tr.region ?_))))
   refine Tr.q (QS.move rfl) rfl ?_
   refine Tr.q (QS.len rfl (by assumption) Tryz.underlying41) rfl ?_
   refine Tr.q (QS.move rfl) rfl ?_
   refine Tr.q (QS.lss rfl rfl) rfl ?_
   refine Tr.nil (Tr.thenN ?_)
   refine Tr.cond rfl (fun h4 => ?_) (fun h4 => ?_)
   ·try simp only [bs] at h4
    refine Tr.seq (Tr.region ?_)
    refine Tr.q (QS.build (vs := []) rfl rfl (HLF.built46)) rfl ?_
    refine Tr.storeW rfl rfl Tryz.sizeOf46 (by repeat constructor) (by rfl) (by rfl) (by first | exact List.all_eq_true.1 rfl | exact Enc.one _ _ | exact Enc.one encIns _) rfl ?_
    refine Tr.q (QS.assign rfl) rfl ?_
    refine Tr.nil (Tr.thenN (Tr.ret (Tr.thenR ?_)))
    refine Tr.retC2 Tryz.results33 rfl rfl (by repeat constructor) Tryz.isAgg46 Tryz.sizeOf46 (by rfl) (fun w' hw => ?_)
    exact ⟨by unfold refDecP; rw [if_neg (by omega), if_neg (by rw [hq]; assumption), if_pos (by rw [hq]; assumption)]; rfl, hw.below (Bg.le.refl _)⟩
   ·try simp only [bs] at h4
    refine Tr.skip (Tr.thenN (Tr.seq (Tr.region ?_)))
    refine Tr.q (QS.move rfl) rfl ?_
    refine Tr.q (QS.move rfl) rfl ?_
    refine Tr.q (QS.slice (lv := none) (hv := some (_, _)) rfl (by assumption) rfl rfl Tryz.underlying41 Tryz.sizeOf5 (by rfl) (by simp only [loOf, hiOf] <;> first | omega | assumption | (simp only [NatCast.natCast, Int.ofNat_eq_natCast]; omega)) (by simp only [loOf, hiOf] <;> first | omega | assumption | (simp only [NatCast.natCast, Int.ofNat_eq_natCast]; omega)) (by simp only [loOf, hiOf] <;> first | omega | assumption | (simp only [NatCast.natCast, Int.ofNat_eq_natCast]; omega))) rfl ?_
    refine Tr.q (QS.move rfl) rfl ?_
    refine Tr.q (QS.move rfl) rfl ?_
    refine Tr.q (QS.build (vs := [(0, _), (8, _)]) rfl rfl (HLF.built46_0_8 _ _)) rfl ?_
    refine Tr.q (QS.call rfl Tryz.call58 (fun w hw => fields_any ((b.take n.toNat).drop 0) _ addr n w (hw.slF (Sl.resl hV' (by omega) (by omega))) (by rw [List.drop_zero]; exact take_size (by omega) (by omega) (take_head (by omega)) hq) (by rw [List.drop_zero, take_head (by omega), hq]; assumption))) rfl ?_
    refine Tr.alloc Tryz.zeroValue46 rfl rfl (fun b5 => ?_)
    refine Tr.storeW rfl rfl Tryz.sizeOf46 (by repeat constructor) (by rfl) (by rfl) (by first | exact List.all_eq_true.1 rfl | exact Enc.one _ _ | exact Enc.one encIns _) rfl ?_
    refine Tr.nil (Tr.thenN (Tr.seq (Tr.seq (Tr.region ?_))))
    refine Tr.q (QS.fieldAddr (off := 6) (ft := 3) rfl Tryz.underlying46 rfl rfl Tryz.sizeOf3 (by decide)) rfl ?_
    refine Tr.q (QS.lV rfl Tryz.isAgg3) rfl ?_
    refine Tr.q (QS.call rfl Tryz.call59 (fun w hw => isReg_any _ w)) rfl ?_
    refine Tr.q (QS.not rfl) rfl ?_
    refine Tr.q (QS.move rfl) rfl ?_
    apply Tr.orP
    ·exact (rfl : _ = (5, 36, 41))
    ·exact rfl
    ·intro hF6; have hF6' := hF6
     try simp only [bs] at hF6'
     refine Tr.gq rfl rfl hF6 (QS.fieldAddr (off := 7) (ft := 3) rfl Tryz.underlying46 rfl rfl Tryz.sizeOf3 (by decide)) rfl ?_
     refine Tr.gq rfl rfl hF6 (QS.lV rfl Tryz.isAgg3) rfl ?_
     refine Tr.gq rfl rfl hF6 (QS.call rfl Tryz.call59 (fun w hw => isReg_any _ w)) rfl ?_
     refine Tr.gq rfl rfl hF6 (QS.not rfl) rfl ?_
     refine Tr.q (QS.pickF rfl hF6 rfl) rfl ?_
     refine Tr.nil (Tr.thenN ?_)
     exact Tr.endX (Sub.cons rfl (Sub.dropN 5 (by kernel_rfl) rfl))
    ·intro hT6
     refine Tr.gskip rfl rfl hT6 rfl ?_
     refine Tr.gskip rfl rfl hT6 rfl ?_
     refine Tr.gskip rfl rfl hT6 rfl ?_
     refine Tr.gskip rfl rfl hT6 rfl ?_
     refine Tr.q (QS.pickT rfl hT6 rfl) rfl ?_
     refine Tr.nil (Tr.thenN ?_)
     exact Tr.endX (Sub.cons rfl (Sub.dropN 5 (by kernel_rfl) rfl))
    refine Tr.nil (Tr.thenN ?_)
    refine Tr.cond rfl (fun h7 => ?_) (fun h7 => ?_)
    ·try simp only [bs] at h7
     refine Tr.seq (Tr.region ?_)
     refine Tr.q (QS.build (vs := []) rfl rfl (HLF.built46)) rfl ?_
     refine Tr.storeW rfl rfl Tryz.sizeOf46 (by repeat constructor) (by rfl) (by rfl) (by first | exact List.all_eq_true.1 rfl | exact Enc.one _ _ | exact Enc.one encIns _) rfl ?_
     refine Tr.q (QS.assign rfl) rfl ?_
     refine Tr.nil (Tr.thenN (Tr.ret (Tr.thenR ?_)))
     refine Tr.retC2 Tryz.results33 rfl rfl (by repeat constructor) Tryz.isAgg46 Tryz.sizeOf46 (by rfl) (fun w' hw => ?_)
     exact ⟨by unfold refDecP; rw [if_neg (by omega), if_neg (by rw [hq]; assumption), if_neg (by rw [hq]; assumption), hq]; simp only [List.drop_zero, take_head (show 0 < n.toNat by omega)] at *; (first | rw [if_pos (by assumption)] | rw [if_neg (by grind)]); rfl, hw.below (Bg.le.refl _)⟩
    ·try simp only [bs] at h7
     refine Tr.skip (Tr.thenN (Tr.seq (Tr.region ?_)))
     refine Tr.q (QS.lW rfl Tryz.isAgg46 Tryz.sizeOf46) rfl ?_
     refine Tr.storeW rfl rfl Tryz.sizeOf46 (by repeat constructor) (by rfl) (by rfl) (by first | exact List.all_eq_true.1 rfl | exact Enc.one _ _ | exact Enc.one encIns _) rfl ?_
     refine Tr.q (QS.assign rfl) rfl ?_
     refine Tr.nil (Tr.thenN (Tr.ret ?_))
     refine Tr.retC2 Tryz.results33 rfl rfl (by repeat constructor) Tryz.isAgg46 Tryz.sizeOf46 (by rfl) (fun w' hw => ?_)
     exact ⟨by unfold refDecP; rw [if_neg (by omega), if_neg (by rw [hq]; assumption), if_neg (by rw [hq]; assumption), hq]; simp only [List.drop_zero, take_head (show 0 < n.toNat by omega)] at *; (first | rw [if_pos (by assumption)] | rw [if_neg (by grind)]); rfl, hw.below (Bg.le.refl _)⟩
end Go.Proofs.YtnmaokalpbnmaaaGreat
namespace Go.HL
open Go Go.Sort
open Go.Proofs (ltOf)
def Has (l : List Rng) (n : Nat) : Prop := ∃ r ∈ l, r.lo.toNat ≤ n ∧ n < r.hi.toNat
theorem Has.nil {n : Nat} : ¬ Has [] n := by rintro ⟨r, h, _⟩; simp at h
theorem Has.perm {a b : List Rng} (h : a.Perm b) {n : Nat} : Has a n ↔ Has b n :=
  ⟨fun ⟨r, m, q⟩ => ⟨r, h.mem_iff.1 m, q⟩, fun ⟨r, m, q⟩ => ⟨r, h.mem_iff.2 m, q⟩⟩
theorem max_toNat (a b : UInt32) : (if a < b then b else a).toNat = max a.toNat b.toNat := by
  split <;> rename_i h <;> rw [UInt32.lt_iff_toNat_lt] at h <;> omega
end Go.HL
namespace Go.HL
open Go Go.Sort
def SA (l : List UInt32) : Prop := l.Pairwise fun x y => x.toNat < y.toNat
theorem SA.nodup {l : List UInt32} (h : SA l) : l.Nodup := h.imp fun {a b} q e => by rw [e] at q; omega
theorem SA.lt {l : List UInt32} (h : SA l) {i j : Nat} (hij : i < j) (hj : j < l.length) : (l.getD i default).toNat < (l.getD j default).toNat := by
  have := List.pairwise_iff_getElem.1 h i j (by omega) hj hij
  simpa [List.getD_eq_getElem?_getD, hj, show i < l.length by omega] using this
/-- No cut lies inside a gap. -/
theorem SA.out {l : List UInt32} (h : SA l) {i : Nat} (hi : i + 1 < l.length) {x : UInt32} (hx : x ∈ l) : x.toNat ≤ (l.getD i default).toNat ∨ (l.getD (i + 1) default).toNat ≤ x.toNat := by
  obtain ⟨j, hj, rfl⟩ := List.mem_iff_getElem.1 hx
  have e : l[j] = l.getD j default := by simp [List.getD_eq_getElem?_getD, hj]
  rw [e]
  rcases Nat.lt_trichotomy j i with h1 | rfl | h1
  · exact .inl (Nat.le_of_lt (h.lt h1 (by omega)))
  · exact .inl (Nat.le_refl _)
  · rcases Nat.lt_or_ge (i + 1) j with h2 | h2
    · exact .inr (Nat.le_of_lt (h.lt h2 hj))
    · rw [show j = i + 1 by omega]; exact .inr (Nat.le_refl _)
end Go.HL
namespace Go.HL
open Go Go.Sort
theorem min_toNat (a b : UInt32) : (if b < a then b else a).toNat = min a.toNat b.toNat := by
  split <;> rename_i h <;> rw [UInt32.lt_iff_toNat_lt] at h <;> omega
end Go.HL
namespace Go.HL
open Go Go.Sort
theorem meet_iff (x s : SecV) : meetP (spaceP x) (spaceP s) = true ↔ ((0 < x.data.length ∧ 0 < s.data.length) ∧ (s.addr.toNat : Int) < endP x) ∧ (x.addr.toNat : Int) < endP s := by
  have h1 := space_hi x
  have h2 := space_hi s
  have e1 : (spaceP x).lo = x.addr := rfl
  have e2 : (spaceP s).lo = s.addr := rfl
  rw [meetP, decide_eq_true_eq, UInt32.lt_iff_toNat_lt, max_toNat, min_toNat, e1, e2]
  unfold endP at *
  omega
theorem stack_iff (s : SecV) : meetP (spaceP s) stackP = true ↔ (0 < s.data.length ∧ (s.addr.toNat : Int) < 983040) ∧ 978944 < endP s := by
  have h1 := space_hi s
  have e1 : (spaceP s).lo = s.addr := rfl
  have e2 : stackP.lo.toNat = 978944 := rfl
  have e3 : stackP.hi.toNat = 983040 := rfl
  rw [meetP, decide_eq_true_eq, UInt32.lt_iff_toNat_lt, max_toNat, min_toNat, e1, e2, e3]
  unfold endP at *
  omega
/-- A sign that is none of a name, as the reference says it. -/
theorem refBad (c : UInt8) : badB c = ((((!((decide (97 ≤ c) && decide (c ≤ 122)) || (decide (65 ≤ c) && decide (c ≤ 90)))) && (decide (c < 48) || decide (57 < c))) && decide (c ≠ 95)) && decide (c ≠ 46)) := by
  rw [Bool.eq_iff_iff]
  have e1 : (97 : UInt8).toNat = 97 := rfl
  have e2 : (122 : UInt8).toNat = 122 := rfl
  have e3 : (65 : UInt8).toNat = 65 := rfl
  have e4 : (90 : UInt8).toNat = 90 := rfl
  have e5 : (48 : UInt8).toNat = 48 := rfl
  have e6 : (57 : UInt8).toNat = 57 := rfl
  simp only [badB, lowB, uppB, digB, Bool.and_eq_true, Bool.or_eq_true, Bool.not_eq_true', Bool.or_eq_false_iff, Bool.and_eq_false_iff, decide_eq_true_eq, decide_eq_false_iff_not, UInt8.lt_iff_toNat_lt, UInt8.le_iff_toNat_le, e1, e2, e3, e4, e5, e6]
  constructor
  · rintro ⟨⟨h, h2⟩, h3⟩; exact ⟨⟨by omega, h2⟩, h3⟩
  · rintro ⟨⟨h, h2⟩, h3⟩; exact ⟨⟨by omega, h2⟩, h3⟩
end Go.HL
namespace Go.Proofs.YtnmaokalpbnmaaaGreat
open Go Go.HL Go.RowKit
set_option maxRecDepth 100000 in
set_option maxHeartbeats 2000000 in
theorem refEnd_any (s : SecV) (w : World) (hs : s.data.length ≤ 200000) :
  Calls Tryz.prog 31 #[.agg (encSec.enc s).toArray] w (fun e w' => e = .returned (.int .i64 (endP s)) ∧ Ext w w') := by
 have hadr := s.addr.toNat_lt
 refine enter Tryz.func31 rfl Tryz.ntmps31 rfl ?_
 refine Tr.seq (Tr.region ?_)
 refine Tr.box rfl rfl rfl (fun b1 => ?_)
 refine Tr.q (QS.assign rfl) rfl ?_
 refine Tr.nil (Tr.thenN (Tr.seq (Tr.region ?_)))
 refine Tr.q (QS.fieldAddr (off := 1) (ft := 40) rfl Tryz.underlying43 rfl rfl Tryz.sizeOf40 (by decide)) rfl ?_
 refine Tr.q (QS.lV rfl Tryz.isAgg40) rfl ?_
 refine Tr.q (QS.cvt32toI rfl Tryz.underlying40 Tryz.underlying3) rfl ?_
 refine Tr.q (QS.fieldAddr (off := 2) (ft := 41) rfl Tryz.underlying43 rfl rfl Tryz.sizeOf41 (by decide)) rfl ?_
 refine Tr.q (QS.lV rfl Tryz.isAgg41) rfl ?_
 refine Tr.q (QS.lenNil rfl Tryz.underlying41) rfl ?_
 refine Tr.q (QS.addI rfl rfl (by omega)) rfl ?_
 refine Tr.q (QS.assign rfl) rfl ?_
 refine Tr.nil (Tr.thenN (Tr.seq (Tr.seq (Tr.region ?_))))
 refine Tr.q (QS.move rfl) rfl ?_
 refine Tr.q (QS.gtr rfl rfl) rfl ?_
 refine Tr.nil (Tr.thenN ?_)
 refine Tr.cond rfl (fun h2 => ?_) (fun h2 => ?_)
 ·try simp only [bs] at h2
  refine Tr.seq (Tr.region ?_)
  refine Tr.q (QS.assign rfl) rfl ?_
  refine Tr.nil (Tr.thenN (Tr.ret (Tr.thenR ?_)))
  refine Tr.ret1 Tryz.results31 rfl (fun w' hw => ?_)
  exact ⟨by unfold endP; rw [Int.min_eq_right (by omega)], hw.below (Bg.le.refl _)⟩
 ·try simp only [bs] at h2
  refine Tr.skip (Tr.thenN (Tr.seq (Tr.region ?_)))
  refine Tr.q (QS.move rfl) rfl ?_
  refine Tr.q (QS.assign rfl) rfl ?_
  refine Tr.nil (Tr.thenN (Tr.ret ?_))
  refine Tr.ret1 Tryz.results31 rfl (fun w' hw => ?_)
  exact ⟨by unfold endP; rw [Int.min_eq_left (by omega)], hw.below (Bg.le.refl _)⟩
set_option maxRecDepth 100000 in
set_option maxHeartbeats 2000000 in
theorem refName_any (s : ByteArray) (w : World) (hs : s.size ≤ 9223372036854775807) :
  Calls Tryz.prog 56 #[.string s] w (fun e w' => e = .returned (.bool (nameP s)) ∧ Ext w w') := by
 have hbl := bts_len s
 refine enter Tryz.func56 rfl Tryz.ntmps56 rfl ?_
 refine Tr.seq (Tr.region ?_)
 refine Tr.q (QS.assign rfl) rfl ?_
 refine Tr.nil (Tr.thenN (Tr.seq (Tr.seq (Tr.region ?_))))
 refine Tr.q (QS.assign rfl) rfl ?_
 refine Tr.nil (Tr.thenN (Tr.block ?_))
 refine Tr.loop (ι := Nat) (fun k => k ≤ s.size ∧ ((bts s).take k).any badB = false) (fun _ => _) (fun k => []) (fun k => [(3, .int .i64 (k : Nat))]) (fun k => s.size - k) 0 ⟨Nat.zero_le _, rfl⟩ (.cons (by first | rfl | exact lookI rfl (by omega) | exact lookI rfl (by simp) | exact lookB rfl (by simp)) Front.nil) (by repeat' constructor) rfl (fun k hi m hm => ?_)
 replace hi : k ≤ s.size ∧ ((bts s).take k).any badB = false := hi
 replace hm : m = s.size - k := hm
 change Tr _ _ [] ([(3, .int .i64 (k : Nat))] ++ _) _
 obtain ⟨hk1, hk2⟩ := hi
 refine Tr.seq (Tr.seq (Tr.region ?_))
 refine Tr.q (QS.move rfl) rfl ?_
 refine Tr.q (QS.move rfl) rfl ?_
 refine Tr.q (QS.lenStr rfl Tryz.underlying9) rfl ?_
 refine Tr.q (QS.lss rfl rfl) rfl ?_
 refine Tr.nil (Tr.thenN ?_)
 refine Tr.cond rfl (fun h1 => ?_) (fun h1 => ?_)
 ·try simp only [bs] at h1
  refine Tr.skip (Tr.thenN (Tr.seq (Tr.block (Tr.seq (Tr.region ?_)))))
  refine Tr.q (QS.move rfl) rfl ?_
  refine Tr.q (QS.move rfl) rfl ?_
  refine Tr.q (QS.strIdx rfl rfl Tryz.underlying9 (by omega)) rfl ?_
  refine Tr.q (QS.assign rfl) rfl ?_
  refine Tr.nil (Tr.thenN (Tr.seq (Tr.region ?_)))
  refine Tr.q (QS.move rfl) rfl ?_
  refine Tr.q (QS.geq8 (n := 97) rfl rfl) rfl ?_
  refine Tr.q (QS.move rfl) rfl ?_
  apply Tr.andP
  ·exact (rfl : _ = (3, 17, 20))
  ·exact rfl
  ·intro hT2; have hT2' := hT2
   try simp only [bs] at hT2'
   refine Tr.gq rfl rfl hT2 (QS.move rfl) rfl ?_
   refine Tr.gq rfl rfl hT2 (QS.leq8 (n := 122) rfl rfl) rfl ?_
   refine Tr.q (QS.pickT rfl hT2 rfl) rfl ?_
   refine Tr.nil (Tr.thenN ?_)
   exact Tr.endX (Sub.cons rfl (Sub.dropN 3 (by kernel_rfl) rfl))
  ·intro hF2
   refine Tr.gskip rfl rfl hF2 rfl ?_
   refine Tr.gskip rfl rfl hF2 rfl ?_
   refine Tr.q (QS.pickF rfl hF2 rfl) rfl ?_
   refine Tr.nil (Tr.thenN ?_)
   exact Tr.endX (Sub.cons rfl (Sub.dropN 3 (by kernel_rfl) rfl))
  refine Tr.q (QS.move rfl) rfl ?_
  apply Tr.orP
  ·exact (rfl : _ = (7, 21, 28))
  ·exact rfl
  ·intro hF3; have hF3' := hF3
   try simp only [bs] at hF3'
   refine Tr.gq rfl rfl hF3 (QS.move rfl) rfl ?_
   refine Tr.gq rfl rfl hF3 (QS.geq8 (n := 65) rfl rfl) rfl ?_
   refine Tr.gq rfl rfl hF3 (QS.move rfl) rfl ?_
   apply Tr.andP
   ·exact (rfl : _ = (3, 24, 27))
   ·exact rfl
   ·intro hT4; have hT4' := hT4
    try simp only [bs] at hT4'
    refine Tr.gq rfl rfl hT4 (QS.move rfl) rfl ?_
    refine Tr.gq rfl rfl hT4 (QS.leq8 (n := 90) rfl rfl) rfl ?_
    refine Tr.gq rfl rfl hF3 (QS.pickT rfl hT4 rfl) rfl ?_
    refine Tr.nil (Tr.thenN ?_)
    exact Tr.endX (Sub.cons rfl (Sub.dropN 3 (by kernel_rfl) rfl))
   ·intro hF4
    refine Tr.gskip rfl rfl hF4 rfl ?_
    refine Tr.gskip rfl rfl hF4 rfl ?_
    refine Tr.gq rfl rfl hF3 (QS.pickF rfl hF4 rfl) rfl ?_
    refine Tr.nil (Tr.thenN ?_)
    exact Tr.endX (Sub.cons rfl (Sub.dropN 3 (by kernel_rfl) rfl))
   refine Tr.q (QS.pickF rfl hF3 rfl) rfl ?_
   refine Tr.nil (Tr.thenN ?_)
   exact Tr.endX (Sub.cons rfl (Sub.dropN 5 (by kernel_rfl) rfl))
  ·intro hT3
   refine Tr.gskip rfl rfl hT3 rfl ?_
   refine Tr.gskip rfl rfl hT3 rfl ?_
   refine Tr.gskip rfl rfl hT3 rfl ?_
   refine Tr.gskipU rfl rfl rfl ?_
   refine Tr.gskipU rfl rfl rfl ?_
   refine Tr.gskip rfl rfl hT3 rfl ?_
   refine Tr.q (QS.pickT rfl hT3 rfl) rfl ?_
   refine Tr.nil (Tr.thenN ?_)
   exact Tr.endX (Sub.cons rfl (Sub.dropN 7 (by kernel_rfl) rfl))
  refine Tr.q (QS.assign rfl) rfl ?_
  refine Tr.nil (Tr.thenN (Tr.seq (Tr.region ?_)))
  refine Tr.q (QS.move rfl) rfl ?_
  refine Tr.q (QS.not rfl) rfl ?_
  refine Tr.q (QS.move rfl) rfl ?_
  apply Tr.andP
  ·exact (rfl : _ = (7, 31, 38))
  ·exact rfl
  ·intro hT5; have hT5' := hT5
   try simp only [bs] at hT5'
   refine Tr.gq rfl rfl hT5 (QS.move rfl) rfl ?_
   refine Tr.gq rfl rfl hT5 (QS.lss8 (n := 48) rfl rfl) rfl ?_
   refine Tr.gq rfl rfl hT5 (QS.move rfl) rfl ?_
   apply Tr.orP
   ·exact (rfl : _ = (3, 34, 37))
   ·exact rfl
   ·intro hF6; have hF6' := hF6
    try simp only [bs] at hF6'
    refine Tr.gq rfl rfl hF6 (QS.move rfl) rfl ?_
    refine Tr.gq rfl rfl hF6 (QS.gtr8 (n := 57) rfl rfl) rfl ?_
    refine Tr.gq rfl rfl hT5 (QS.pickF rfl hF6 rfl) rfl ?_
    refine Tr.nil (Tr.thenN ?_)
    exact Tr.endX (Sub.cons rfl (Sub.dropN 3 (by kernel_rfl) rfl))
   ·intro hT6
    refine Tr.gskip rfl rfl hT6 rfl ?_
    refine Tr.gskip rfl rfl hT6 rfl ?_
    refine Tr.gq rfl rfl hT5 (QS.pickT rfl hT6 rfl) rfl ?_
    refine Tr.nil (Tr.thenN ?_)
    exact Tr.endX (Sub.cons rfl (Sub.dropN 3 (by kernel_rfl) rfl))
   refine Tr.q (QS.pickT rfl hT5 rfl) rfl ?_
   refine Tr.nil (Tr.thenN ?_)
   exact Tr.endX (Sub.cons rfl (Sub.dropN 5 (by kernel_rfl) rfl))
  ·intro hF5
   refine Tr.gskip rfl rfl hF5 rfl ?_
   refine Tr.gskip rfl rfl hF5 rfl ?_
   refine Tr.gskip rfl rfl hF5 rfl ?_
   refine Tr.gskipU rfl rfl rfl ?_
   refine Tr.gskipU rfl rfl rfl ?_
   refine Tr.gskip rfl rfl hF5 rfl ?_
   refine Tr.q (QS.pickF rfl hF5 rfl) rfl ?_
   refine Tr.nil (Tr.thenN ?_)
   exact Tr.endX (Sub.cons rfl (Sub.dropN 7 (by kernel_rfl) rfl))
  refine Tr.q (QS.move rfl) rfl ?_
  apply Tr.andP
  ·exact (rfl : _ = (3, 39, 42))
  ·exact rfl
  ·intro hT7; have hT7' := hT7
   try simp only [bs] at hT7'
   refine Tr.gq rfl rfl hT7 (QS.move rfl) rfl ?_
   refine Tr.gq rfl rfl hT7 (QS.neq8 (n := 95) rfl rfl) rfl ?_
   refine Tr.q (QS.pickT rfl hT7 rfl) rfl ?_
   refine Tr.nil (Tr.thenN ?_)
   exact Tr.endX (Sub.cons rfl (Sub.dropN 3 (by kernel_rfl) rfl))
  ·intro hF7
   refine Tr.gskip rfl rfl hF7 rfl ?_
   refine Tr.gskip rfl rfl hF7 rfl ?_
   refine Tr.q (QS.pickF rfl hF7 rfl) rfl ?_
   refine Tr.nil (Tr.thenN ?_)
   exact Tr.endX (Sub.cons rfl (Sub.dropN 3 (by kernel_rfl) rfl))
  refine Tr.q (QS.move rfl) rfl ?_
  apply Tr.andP
  ·exact (rfl : _ = (3, 43, 46))
  ·exact rfl
  ·intro hT8; have hT8' := hT8
   try simp only [bs] at hT8'
   refine Tr.gq rfl rfl hT8 (QS.move rfl) rfl ?_
   refine Tr.gq rfl rfl hT8 (QS.neq8 (n := 46) rfl rfl) rfl ?_
   refine Tr.q (QS.pickT rfl hT8 rfl) rfl ?_
   refine Tr.nil (Tr.thenN ?_)
   exact Tr.endX (Sub.cons rfl (Sub.dropN 3 (by kernel_rfl) rfl))
  ·intro hF8
   refine Tr.gskip rfl rfl hF8 rfl ?_
   refine Tr.gskip rfl rfl hF8 rfl ?_
   refine Tr.q (QS.pickF rfl hF8 rfl) rfl ?_
   refine Tr.nil (Tr.thenN ?_)
   exact Tr.endX (Sub.cons rfl (Sub.dropN 3 (by kernel_rfl) rfl))
  refine Tr.nil (Tr.thenN ?_)
  refine Tr.cond rfl (fun h9 => ?_) (fun h9 => ?_)
  ·try simp only [bs] at h9
   refine Tr.seq (Tr.region ?_)
   refine Tr.q (QS.assign rfl) rfl ?_
   refine Tr.nil (Tr.thenN (Tr.ret ?_))
   refine Tr.inR ?_
   refine Tr.thenR (Tr.thenR ?_)
   refine Tr.inR ?_
   refine Tr.thenR ?_
   refine Tr.ret1 Tryz.results56 rfl (fun w' hw => ?_)
   have hbad : badB ((bts s).getD k default) = true := by rw [refBad]; simp only [bs]; assumption
   exact ⟨by rw [nameP_bad (by omega) hbad], hw.below (Bg.le.refl _)⟩
  ·try simp only [bs] at h9
   refine Tr.skip (Tr.inN (Tr.thenN (Tr.region ?_)))
   refine Tr.q (QS.move rfl) rfl ?_
   refine Tr.q (QS.addI rfl rfl (by omega)) rfl ?_
   refine Tr.q (QS.assign rfl) rfl ?_
   refine Tr.nil (Tr.thenN ?_)
   have hbad : badB ((bts s).getD k default) = false := by rw [refBad]; simp only [bs]; assumption
   apply Tr.again (k + 1)
   ·exact rfl
   ·exact (.cons (by first | rfl | exact lookI rfl (by omega) | exact lookI rfl (by simp) | exact lookB rfl (by simp)) Front.nil)
   ·exact SubX.dropN 27 (by kernel_rfl) rfl
   ·exact (by repeat' constructor)
   ·exact ⟨by omega, by rw [any_take_succ (by omega), hk2, hbad]; rfl⟩
   ·exact (by (try dsimp only); omega)
 ·try simp only [bs] at h1
  refine Tr.exit ?_
  refine Tr.thenE (Tr.thenE (Tr.inHit (Tr.thenN (Tr.seq (Tr.region ?_)))))
  refine Tr.q (QS.move rfl) rfl ?_
  refine Tr.q (QS.lenStr rfl Tryz.underlying9) rfl ?_
  refine Tr.q (QS.gtr rfl rfl) rfl ?_
  refine Tr.q (QS.move rfl) rfl ?_
  apply Tr.andP
  ·exact (rfl : _ = (4, 50, 54))
  ·exact rfl
  ·intro hT10; have hT10' := hT10
   try simp only [bs] at hT10'
   refine Tr.gq rfl rfl hT10 (QS.move rfl) rfl ?_
   refine Tr.gq rfl rfl hT10 (QS.lenStr rfl Tryz.underlying9) rfl ?_
   refine Tr.gq rfl rfl hT10 (QS.leq rfl rfl) rfl ?_
   refine Tr.q (QS.pickT rfl hT10 rfl) rfl ?_
   refine Tr.nil (Tr.thenN ?_)
   exact Tr.endX (Sub.cons rfl (Sub.dropN 4 (by kernel_rfl) rfl))
  ·intro hF10
   refine Tr.gskip rfl rfl hF10 rfl ?_
   refine Tr.gskip rfl rfl hF10 rfl ?_
   refine Tr.gskip rfl rfl hF10 rfl ?_
   refine Tr.q (QS.pickF rfl hF10 rfl) rfl ?_
   refine Tr.nil (Tr.thenN ?_)
   exact Tr.endX (Sub.cons rfl (Sub.dropN 4 (by kernel_rfl) rfl))
  refine Tr.q (QS.assign rfl) rfl ?_
  refine Tr.nil (Tr.thenN (Tr.ret ?_))
  refine Tr.ret1 Tryz.results56 rfl (fun w' hw => ?_)
  exact ⟨by rw [nameP_end (by omega) hk2]; congr 2, hw.below (Bg.le.refl _)⟩
set_option maxRecDepth 100000 in
set_option maxHeartbeats 2000000 in
theorem refFind_any (l : List SecV) (V : Value) (a : UInt32) (w : World) (hV : Sl (hp w) encSec l V) (hB : SecB l) :
  Calls Tryz.prog 32 #[V, .int .u32 a.toNat] w (fun e w' => e = .returned (.int .i64 (findP l a)) ∧ Ext w w') := by
 have hV' : Sl (Bg.of w).blk encSec l V := hV
 have hlen := hB.1
 refine enter Tryz.func32 rfl Tryz.ntmps32 rfl ?_
 refine Tr.seq (Tr.region ?_)
 refine Tr.q (QS.assign rfl) rfl ?_
 refine Tr.nil (Tr.thenN (Tr.seq (Tr.seq (Tr.region ?_))))
 refine Tr.q (QS.assign rfl) rfl ?_
 refine Tr.nil (Tr.thenN (Tr.block ?_))
 refine Tr.loop (ι := Nat) (fun k => k ≤ l.length ∧ idxP (inS a) k (l.drop k) = idxP (inS a) 0 l) (fun _ => _) (fun k => []) (fun k => [(5, .int .i64 (k : Nat))]) (fun k => l.length - k) 0 ⟨Nat.zero_le _, rfl⟩ (.cons (by first | rfl | exact lookI rfl (by omega) | exact lookI rfl (by simp) | exact lookB rfl (by simp)) Front.nil) (by repeat' constructor) rfl (fun k hi m hm => ?_)
 replace hi : k ≤ l.length ∧ idxP (inS a) k (l.drop k) = idxP (inS a) 0 l := hi
 replace hm : m = l.length - k := hm
 change Tr _ _ [] ([(5, .int .i64 (k : Nat))] ++ _) _
 obtain ⟨hk1, hk2⟩ := hi
 refine Tr.seq (Tr.seq (Tr.region ?_))
 refine Tr.q (QS.move rfl) rfl ?_
 refine Tr.q (QS.move rfl) rfl ?_
 refine Tr.q (QS.len rfl (by assumption) Tryz.underlying22) rfl ?_
 refine Tr.q (QS.lss rfl rfl) rfl ?_
 refine Tr.nil (Tr.thenN ?_)
 refine Tr.cond rfl (fun h1 => ?_) (fun h1 => ?_)
 ·try simp only [bs] at h1
  refine Tr.skip (Tr.thenN (Tr.seq (Tr.block (Tr.seq (Tr.region ?_)))))
  refine Tr.q (QS.move rfl) rfl ?_
  refine Tr.q (QS.move rfl) rfl ?_
  refine Tr.q (QS.idxN rfl rfl (by assumption) Tryz.underlying22 Tryz.sizeOf43 (by rfl) (by omega)) rfl ?_
  refine Tr.q (QS.fieldAddr (off := 1) (ft := 40) rfl Tryz.underlying43 rfl rfl Tryz.sizeOf40 (by decide)) rfl ?_
  refine Tr.q (QS.elF rfl (by assumption) Tryz.isAgg40 (by omega) (by rfl)) rfl ?_
  refine Tr.q (QS.move rfl) rfl ?_
  refine Tr.q (QS.leq32 rfl rfl) rfl ?_
  refine Tr.q (QS.move rfl) rfl ?_
  apply Tr.andP
  ·exact (rfl : _ = (9, 19, 28))
  ·exact rfl
  ·intro hT2; have hT2' := hT2
   try simp only [bs] at hT2'
   refine Tr.gq rfl rfl hT2 (QS.move rfl) rfl ?_
   refine Tr.gq rfl rfl hT2 (QS.cvt32toI rfl Tryz.underlying40 Tryz.underlying3) rfl ?_
   refine Tr.gq rfl rfl hT2 (QS.move rfl) rfl ?_
   refine Tr.gq rfl rfl hT2 (QS.move rfl) rfl ?_
   refine Tr.gq rfl rfl hT2 (QS.idxN rfl rfl (by assumption) Tryz.underlying22 Tryz.sizeOf43 (by rfl) (by omega)) rfl ?_
   refine Tr.gq rfl rfl hT2 (QS.elA rfl (by assumption) Tryz.isAgg43 Tryz.sizeOf43 (by rfl) (by omega)) rfl ?_
   refine Tr.gq rfl rfl hT2 (QS.call rfl Tryz.call31 (fun w hw => refEnd_any (l.getD k default) w (hB.at (by omega)))) rfl ?_
   refine Tr.gq rfl rfl hT2 (QS.lss rfl rfl) rfl ?_
   refine Tr.q (QS.pickT rfl hT2 rfl) rfl ?_
   refine Tr.nil (Tr.thenN ?_)
   exact Tr.endX (Sub.cons rfl (Sub.dropN 9 (by kernel_rfl) rfl))
  ·intro hF2
   refine Tr.gskip rfl rfl hF2 rfl ?_
   refine Tr.gskip rfl rfl hF2 rfl ?_
   refine Tr.gskip rfl rfl hF2 rfl ?_
   refine Tr.gskip rfl rfl hF2 rfl ?_
   refine Tr.gskip rfl rfl hF2 rfl ?_
   refine Tr.gskip rfl rfl hF2 rfl ?_
   refine Tr.gskip rfl rfl hF2 rfl ?_
   refine Tr.gskip rfl rfl hF2 rfl ?_
   refine Tr.q (QS.pickF rfl hF2 rfl) rfl ?_
   refine Tr.nil (Tr.thenN ?_)
   exact Tr.endX (Sub.cons rfl (Sub.dropN 9 (by kernel_rfl) rfl))
  refine Tr.nil (Tr.thenN ?_)
  refine Tr.cond rfl (fun h3 => ?_) (fun h3 => ?_)
  ·try simp only [bs] at h3
   refine Tr.seq (Tr.region ?_)
   refine Tr.q (QS.move rfl) rfl ?_
   refine Tr.q (QS.assign rfl) rfl ?_
   refine Tr.nil (Tr.thenN (Tr.ret ?_))
   refine Tr.inR ?_
   refine Tr.thenR (Tr.thenR ?_)
   refine Tr.inR ?_
   refine Tr.thenR ?_
   refine Tr.ret1 Tryz.results32 rfl (fun w' hw => ?_)
   exact ⟨by unfold findP; rw [← hk2, drop_cons (k := k) (by omega), idxP, if_pos (by rw [inS_iff]; simp only [UInt32.le_iff_toNat_le] at *; omega)], hw.below (Bg.le.refl _)⟩
  ·try simp only [bs] at h3
   refine Tr.skip (Tr.inN (Tr.thenN (Tr.region ?_)))
   refine Tr.q (QS.move rfl) rfl ?_
   refine Tr.q (QS.addI rfl rfl (by omega)) rfl ?_
   refine Tr.q (QS.assign rfl) rfl ?_
   refine Tr.nil (Tr.thenN ?_)
   apply Tr.again (k + 1)
   ·exact rfl
   ·exact (.cons (by first | rfl | exact lookI rfl (by omega) | exact lookI rfl (by simp) | exact lookB rfl (by simp)) Front.nil)
   ·exact SubX.dropN 17 (by kernel_rfl) rfl
   ·exact (by repeat' constructor)
   ·exact ⟨by omega, by rw [← hk2, drop_cons (k := k) (by omega), idxP, if_neg (by rw [inS_iff]; simp only [UInt32.le_iff_toNat_le] at *; omega)]⟩
   ·exact (by (try dsimp only); omega)
 ·try simp only [bs] at h1
  refine Tr.exit ?_
  refine Tr.thenE (Tr.thenE (Tr.inHit (Tr.thenN (Tr.seq (Tr.region ?_)))))
  refine Tr.q (QS.assign rfl) rfl ?_
  refine Tr.nil (Tr.thenN (Tr.ret ?_))
  refine Tr.ret1 Tryz.results32 rfl (fun w' hw => ?_)
  exact ⟨by unfold findP; rw [← hk2, List.drop_of_length_le (by omega)]; rfl, hw.below (Bg.le.refl _)⟩
set_option maxRecDepth 100000 in
set_option maxHeartbeats 2000000 in
theorem refOne_any (l : List SecV) (V : Value) (i : Nat) (w : World) (hV : Sl (hp w) encSec l V) (hB : SecB l) (hi : i < l.length) (hN : (l.getD i default).name.size ≤ 9223372036854775807) :
  Calls Tryz.prog 30 #[V, .int .i64 (i : Nat)] w (fun e w' => e = .returned (.int .i64 (oneP l i)) ∧ Ext w w') := by
 have hV' : Sl (Bg.of w).blk encSec l V := hV
 have hlen := hB.1
 obtain ⟨s, hs⟩ : ∃ s, s = l.getD i default := ⟨_, rfl⟩
 have hsd : s.data.length ≤ 200000 := by rw [hs]; exact hB.at hi
 have hadr := s.addr.toNat_lt
 have hst := stack_iff s
 refine enter Tryz.func30 rfl Tryz.ntmps30 rfl ?_
 refine Tr.seq (Tr.region ?_)
 refine Tr.q (QS.assign rfl) rfl ?_
 refine Tr.nil (Tr.thenN (Tr.seq (Tr.region ?_)))
 refine Tr.q (QS.move rfl) rfl ?_
 refine Tr.q (QS.move rfl) rfl ?_
 refine Tr.q (QS.idxN rfl rfl (by assumption) Tryz.underlying22 Tryz.sizeOf43 (by rfl) (by omega)) rfl ?_
 refine Tr.q (QS.elA rfl (by assumption) Tryz.isAgg43 Tryz.sizeOf43 (by rfl) (by omega)) rfl ?_
 refine Tr.alloc Tryz.zeroValue43 rfl rfl (fun b1 => ?_)
 refine Tr.storeW rfl rfl Tryz.sizeOf43 (by repeat constructor) (by rfl) (by rfl) (by first | exact List.all_eq_true.1 rfl | exact Enc.one _ _ | exact Enc.one encSec _) rfl ?_
 refine Tr.nil (Tr.thenN (Tr.seq (Tr.seq ?_)))
 rw [← hs]
 refine Tr.region ?_
 refine Tr.q (QS.fieldAddr (off := 2) (ft := 41) rfl Tryz.underlying43 rfl rfl Tryz.sizeOf41 (by decide)) rfl ?_
 refine Tr.q (QS.lV rfl Tryz.isAgg41) rfl ?_
 refine Tr.q (QS.lenNil rfl Tryz.underlying41) rfl ?_
 refine Tr.q (QS.gtr rfl rfl) rfl ?_
 refine Tr.nil (Tr.thenN ?_)
 refine Tr.cond rfl (fun h2 => ?_) (fun h2 => ?_)
 ·try simp only [bs] at h2
  refine Tr.seq (Tr.region ?_)
  refine Tr.q (QS.assign rfl) rfl ?_
  refine Tr.nil (Tr.thenN (Tr.ret (Tr.thenR ?_)))
  refine Tr.ret1 Tryz.results30 rfl (fun w' hw => ?_)
  exact ⟨by unfold oneP; dsimp only; rw [← hs, if_pos (by assumption)], hw.below (Bg.le.refl _)⟩
 ·try simp only [bs] at h2
  refine Tr.skip (Tr.thenN (Tr.seq (Tr.seq (Tr.region ?_))))
  refine Tr.q (QS.fieldAddr (off := 0) (ft := 9) rfl Tryz.underlying43 rfl rfl Tryz.sizeOf9 (by decide)) rfl ?_
  refine Tr.q (QS.lV rfl Tryz.isAgg9) rfl ?_
  refine Tr.q (QS.call rfl Tryz.call56 (fun w hw => refName_any s.name w (by rw [hs]; exact hN))) rfl ?_
  refine Tr.q (QS.not rfl) rfl ?_
  refine Tr.nil (Tr.thenN ?_)
  refine Tr.cond rfl (fun h3 => ?_) (fun h3 => ?_)
  ·try simp only [bs] at h3
   refine Tr.seq (Tr.region ?_)
   refine Tr.q (QS.assign rfl) rfl ?_
   refine Tr.nil (Tr.thenN (Tr.ret (Tr.thenR ?_)))
   refine Tr.ret1 Tryz.results30 rfl (fun w' hw => ?_)
   exact ⟨by unfold oneP; dsimp only; rw [← hs, if_neg (by assumption), if_pos (by assumption)], hw.below (Bg.le.refl _)⟩
  ·try simp only [bs] at h3
   refine Tr.skip (Tr.thenN (Tr.seq (Tr.seq (Tr.region ?_))))
   refine Tr.q (QS.assign rfl) rfl ?_
   refine Tr.nil (Tr.thenN (Tr.block ?_))
   refine Tr.loop (ι := Nat) (fun k => k ≤ i ∧ (l.take k).any (fun x => decide (x.name = s.name)) = false) (fun _ => _) (fun k => [cellE b1 (encSec.enc s) 43]) (fun k => [(6, .int .i64 (k : Nat))]) (fun k => i - k) 0 ⟨Nat.zero_le _, rfl⟩ (.cons (by first | rfl | exact lookI rfl (by omega) | exact lookI rfl (by simp) | exact lookB rfl (by simp)) Front.nil) (by repeat' constructor) rfl (fun k hi m hm => ?_)
   replace hi : k ≤ i ∧ (l.take k).any (fun x => decide (x.name = s.name)) = false := hi
   replace hm : m = i - k := hm
   change Tr _ _ [cellE b1 (encSec.enc s) 43] ([(6, .int .i64 (k : Nat))] ++ _) _
   obtain ⟨hk1, hk2⟩ := hi
   refine Tr.seq (Tr.seq (Tr.region ?_))
   refine Tr.q (QS.move rfl) rfl ?_
   refine Tr.q (QS.move rfl) rfl ?_
   refine Tr.q (QS.lss rfl rfl) rfl ?_
   refine Tr.nil (Tr.thenN ?_)
   refine Tr.cond rfl (fun h4 => ?_) (fun h4 => ?_)
   ·try simp only [bs] at h4
    refine Tr.skip (Tr.thenN (Tr.seq (Tr.block (Tr.seq ?_))))
    refine Tr.regionQ HLF.mixed (by kernel_rfl) ?_
    refine TrQ.q (QS.move rfl) rfl ?_
    refine TrQ.q (QS.move rfl) rfl ?_
    refine TrQ.q (QS.idxN rfl rfl (by assumption) Tryz.underlying22 Tryz.sizeOf43 (by rfl) (by omega)) rfl ?_
    refine TrQ.q (QS.fieldAddr (off := 0) (ft := 9) rfl Tryz.underlying43 rfl rfl Tryz.sizeOf9 (by decide)) rfl ?_
    refine TrQ.q (QS.elF rfl (by assumption) Tryz.isAgg9 (by omega) (by rfl)) rfl ?_
    refine TrQ.q (QS.fieldAddr (off := 0) (ft := 9) rfl Tryz.underlying43 rfl rfl Tryz.sizeOf9 (by decide)) rfl ?_
    refine TrQ.q (QS.lV rfl Tryz.isAgg9) rfl ?_
    refine TrQ.q (QS.str_eql rfl rfl) rfl ?_
    refine TrQ.nil ?_
    refine Tr.thenN ?_
    refine Tr.cond rfl (fun h5 => ?_) (fun h5 => ?_)
    ·try simp only [bs] at h5
     refine Tr.seq (Tr.region ?_)
     refine Tr.q (QS.assign rfl) rfl ?_
     refine Tr.nil (Tr.thenN (Tr.ret ?_))
     refine Tr.inR ?_
     refine Tr.thenR (Tr.thenR ?_)
     refine Tr.inR ?_
     refine Tr.thenR ?_
     refine Tr.ret1 Tryz.results30 rfl (fun w' hw => ?_)
     have hany : (l.take i).any (fun x => decide (x.name = s.name)) = true := List.any_eq_true.2 ⟨l.getD k default, by rw [List.mem_take_iff_getElem]; exact ⟨k, by omega, by simp [List.getD_eq_getElem?_getD, show k < l.length by omega]⟩, decide_eq_true (by assumption)⟩
     exact ⟨by unfold oneP; dsimp only; rw [← hs, if_neg (by assumption), if_neg (by simp_all), if_pos hany], hw.below (Bg.le.refl _)⟩
    ·try simp only [bs] at h5
     refine Tr.skip (Tr.inN (Tr.thenN (Tr.region ?_)))
     refine Tr.q (QS.move rfl) rfl ?_
     refine Tr.q (QS.addI rfl rfl (by omega)) rfl ?_
     refine Tr.q (QS.assign rfl) rfl ?_
     refine Tr.nil (Tr.thenN ?_)
     apply Tr.again (k + 1)
     ·exact rfl
     ·exact (.cons (by first | rfl | exact lookI rfl (by omega) | exact lookI rfl (by simp) | exact lookB rfl (by simp)) Front.nil)
     ·exact SubX.dropN 15 (by kernel_rfl) rfl
     ·exact (by repeat' constructor)
     ·exact ⟨by omega, by rw [any_take_succ (by omega), hk2, Bool.false_or]; exact decide_eq_false (by assumption)⟩
     ·exact (by (try dsimp only); omega)
   ·try simp only [bs] at h4
    refine Tr.exit ?_
    refine Tr.thenE (Tr.thenE (Tr.inHit (Tr.thenN (Tr.seq (Tr.seq (Tr.region ?_))))))
    refine Tr.q (QS.fieldAddr (off := 1) (ft := 40) rfl Tryz.underlying43 rfl rfl Tryz.sizeOf40 (by decide)) rfl ?_
    refine Tr.q (QS.lV rfl Tryz.isAgg40) rfl ?_
    refine Tr.q (QS.cvt32toI rfl Tryz.underlying40 Tryz.underlying3) rfl ?_
    refine Tr.q (QS.fieldAddr (off := 2) (ft := 41) rfl Tryz.underlying43 rfl rfl Tryz.sizeOf41 (by decide)) rfl ?_
    refine Tr.q (QS.lV rfl Tryz.isAgg41) rfl ?_
    refine Tr.q (QS.lenNil rfl Tryz.underlying41) rfl ?_
    refine Tr.q (QS.addI rfl rfl (by omega)) rfl ?_
    refine Tr.q (QS.gtr rfl rfl) rfl ?_
    refine Tr.nil (Tr.thenN ?_)
    refine Tr.cond rfl (fun h6 => ?_) (fun h6 => ?_)
    ·try simp only [bs] at h6
     refine Tr.seq (Tr.region ?_)
     refine Tr.q (QS.assign rfl) rfl ?_
     refine Tr.nil (Tr.thenN (Tr.ret (Tr.thenR ?_)))
     refine Tr.ret1 Tryz.results30 rfl (fun w' hw => ?_)
     have hany : ¬ (l.take i).any (fun x => decide (x.name = s.name)) = true := by obtain rfl : k = i := (by omega); rw [hk2]; decide
     exact ⟨by unfold oneP; dsimp only; rw [← hs, if_neg (by assumption), if_neg (by simp_all), if_neg hany, if_pos (.inl (by assumption))], hw.below (Bg.le.refl _)⟩
    ·try simp only [bs] at h6
     refine Tr.skip (Tr.thenN (Tr.seq (Tr.seq (Tr.region ?_))))
     refine Tr.q (QS.fieldAddr (off := 2) (ft := 41) rfl Tryz.underlying43 rfl rfl Tryz.sizeOf41 (by decide)) rfl ?_
     refine Tr.q (QS.lV rfl Tryz.isAgg41) rfl ?_
     refine Tr.q (QS.lenNil rfl Tryz.underlying41) rfl ?_
     refine Tr.q (QS.gtr rfl rfl) rfl ?_
     refine Tr.q (QS.move rfl) rfl ?_
     apply Tr.andP
     ·exact (rfl : _ = (5, 44, 49))
     ·exact rfl
     ·intro hT7; have hT7' := hT7
      try simp only [bs] at hT7'
      refine Tr.gq rfl rfl hT7 (QS.fieldAddr (off := 1) (ft := 40) rfl Tryz.underlying43 rfl rfl Tryz.sizeOf40 (by decide)) rfl ?_
      refine Tr.gq rfl rfl hT7 (QS.lV rfl Tryz.isAgg40) rfl ?_
      refine Tr.gq rfl rfl hT7 (QS.cvt32toI rfl Tryz.underlying40 Tryz.underlying3) rfl ?_
      refine Tr.gq rfl rfl hT7 (QS.lss rfl rfl) rfl ?_
      refine Tr.q (QS.pickT rfl hT7 rfl) rfl ?_
      refine Tr.nil (Tr.thenN ?_)
      exact Tr.endX (Sub.cons rfl (Sub.dropN 5 (by kernel_rfl) rfl))
     ·intro hF7
      refine Tr.gskip rfl rfl hF7 rfl ?_
      refine Tr.gskip rfl rfl hF7 rfl ?_
      refine Tr.gskip rfl rfl hF7 rfl ?_
      refine Tr.gskip rfl rfl hF7 rfl ?_
      refine Tr.q (QS.pickF rfl hF7 rfl) rfl ?_
      refine Tr.nil (Tr.thenN ?_)
      exact Tr.endX (Sub.cons rfl (Sub.dropN 5 (by kernel_rfl) rfl))
     refine Tr.q (QS.move rfl) rfl ?_
     apply Tr.andP
     ·exact (rfl : _ = (4, 50, 54))
     ·exact rfl
     ·intro hT8; have hT8' := hT8
      try simp only [bs] at hT8'
      refine Tr.gq rfl rfl hT8 (QS.lW rfl Tryz.isAgg43 Tryz.sizeOf43) rfl ?_
      refine Tr.gq rfl rfl hT8 (QS.call rfl Tryz.call31 (fun w hw => refEnd_any s w hsd)) rfl ?_
      refine Tr.gq rfl rfl hT8 (QS.gtr rfl rfl) rfl ?_
      refine Tr.q (QS.pickT rfl hT8 rfl) rfl ?_
      refine Tr.nil (Tr.thenN ?_)
      exact Tr.endX (Sub.cons rfl (Sub.dropN 4 (by kernel_rfl) rfl))
     ·intro hF8
      refine Tr.gskip rfl rfl hF8 rfl ?_
      refine Tr.gskip rfl rfl hF8 rfl ?_
      refine Tr.gskip rfl rfl hF8 rfl ?_
      refine Tr.q (QS.pickF rfl hF8 rfl) rfl ?_
      refine Tr.nil (Tr.thenN ?_)
      exact Tr.endX (Sub.cons rfl (Sub.dropN 4 (by kernel_rfl) rfl))
     refine Tr.nil (Tr.thenN ?_)
     refine Tr.cond rfl (fun h9 => ?_) (fun h9 => ?_)
     ·try simp only [bs] at h9
      refine Tr.seq (Tr.region ?_)
      refine Tr.q (QS.assign rfl) rfl ?_
      refine Tr.nil (Tr.thenN (Tr.ret (Tr.thenR ?_)))
      refine Tr.ret1 Tryz.results30 rfl (fun w' hw => ?_)
      have hany : ¬ (l.take i).any (fun x => decide (x.name = s.name)) = true := by obtain rfl : k = i := (by omega); rw [hk2]; decide
      exact ⟨by unfold oneP; dsimp only; rw [← hs, if_neg (by assumption), if_neg (by simp_all), if_neg hany, if_pos (.inr (hst.2 (by omega)))], hw.below (Bg.le.refl _)⟩
     ·try simp only [bs] at h9
      refine Tr.skip (Tr.thenN (Tr.seq (Tr.region ?_)))
      refine Tr.q (QS.assign rfl) rfl ?_
      refine Tr.nil (Tr.thenN (Tr.ret ?_))
      refine Tr.ret1 Tryz.results30 rfl (fun w' hw => ?_)
      have hany : ¬ (l.take i).any (fun x => decide (x.name = s.name)) = true := by obtain rfl : k = i := (by omega); rw [hk2]; decide
      exact ⟨by unfold oneP; dsimp only; rw [← hs, if_neg (by assumption), if_neg (by simp_all), if_neg hany, if_neg (fun q => q.elim (by assumption) (fun q => by have := hst.1 q; omega))], hw.below (Bg.le.refl _)⟩
set_option maxRecDepth 100000 in
set_option maxHeartbeats 2000000 in
theorem refCheckS_any (l : List SecV) (V : Value) (w : World) (hV : Sl (hp w) encSec l V) (hB : SecB l) (hN : ∀ s ∈ l, s.name.size ≤ 9223372036854775807) :
  Calls Tryz.prog 12 #[V] w (fun e w' => e = .returned (.int .i64 (checkS l)) ∧ Ext w w') := by
 have hV' : Sl (Bg.of w).blk encSec l V := hV
 have hlen := hB.1
 refine enter Tryz.func12 rfl Tryz.ntmps12 rfl ?_
 refine Tr.seq (Tr.region ?_)
 refine Tr.q (QS.assign rfl) rfl ?_
 refine Tr.nil (Tr.thenN (Tr.seq (Tr.seq (Tr.region ?_))))
 refine Tr.q (QS.move rfl) rfl ?_
 refine Tr.q (QS.len rfl (by assumption) Tryz.underlying22) rfl ?_
 refine Tr.q (QS.gtr rfl rfl) rfl ?_
 refine Tr.nil (Tr.thenN ?_)
 refine Tr.cond rfl (fun h1 => ?_) (fun h1 => ?_)
 ·try simp only [bs] at h1
  refine Tr.seq (Tr.region ?_)
  refine Tr.q (QS.assign rfl) rfl ?_
  refine Tr.nil (Tr.thenN (Tr.ret (Tr.thenR ?_)))
  refine Tr.ret1 Tryz.results12 rfl (fun w' hw => ?_)
  exact ⟨by rw [check_0 (by assumption)], hw.below (Bg.le.refl _)⟩
 ·try simp only [bs] at h1
  refine Tr.skip (Tr.thenN (Tr.seq (Tr.seq (Tr.region ?_))))
  refine Tr.q (QS.assign rfl) rfl ?_
  refine Tr.nil (Tr.thenN (Tr.block ?_))
  refine Tr.loop (ι := Nat) (fun k => k ≤ l.length ∧ firstP (oneP l) k (l.length - k) = firstP (oneP l) 0 l.length) (fun _ => _) (fun k => []) (fun k => [(3, .int .i64 (k : Nat))]) (fun k => l.length - k) 0 ⟨Nat.zero_le _, rfl⟩ (.cons (by first | rfl | exact lookI rfl (by omega) | exact lookI rfl (by simp) | exact lookB rfl (by simp)) Front.nil) (by repeat' constructor) rfl (fun k hi m hm => ?_)
  replace hi : k ≤ l.length ∧ firstP (oneP l) k (l.length - k) = firstP (oneP l) 0 l.length := hi
  replace hm : m = l.length - k := hm
  change Tr _ _ [] ([(3, .int .i64 (k : Nat))] ++ _) _
  obtain ⟨hk1, hk2⟩ := hi
  refine Tr.seq (Tr.seq (Tr.region ?_))
  refine Tr.q (QS.move rfl) rfl ?_
  refine Tr.q (QS.move rfl) rfl ?_
  refine Tr.q (QS.len rfl (by assumption) Tryz.underlying22) rfl ?_
  refine Tr.q (QS.lss rfl rfl) rfl ?_
  refine Tr.nil (Tr.thenN ?_)
  refine Tr.cond rfl (fun h2 => ?_) (fun h2 => ?_)
  ·try simp only [bs] at h2
   refine Tr.skip (Tr.thenN (Tr.seq (Tr.block (Tr.seq (Tr.region ?_)))))
   refine Tr.q (QS.move rfl) rfl ?_
   refine Tr.q (QS.move rfl) rfl ?_
   refine Tr.q (QS.call rfl Tryz.call30 (fun w hw => refOne_any l V k w (hw.slF hV) hB (by omega) (hN _ (mem_getD (by omega))))) rfl ?_
   refine Tr.q (QS.assign rfl) rfl ?_
   refine Tr.nil (Tr.thenN (Tr.seq (Tr.region ?_)))
   refine Tr.q (QS.move rfl) rfl ?_
   refine Tr.q (QS.neq rfl rfl) rfl ?_
   refine Tr.nil (Tr.thenN ?_)
   refine Tr.cond rfl (fun h3 => ?_) (fun h3 => ?_)
   ·try simp only [bs] at h3
    refine Tr.seq (Tr.region ?_)
    refine Tr.q (QS.move rfl) rfl ?_
    refine Tr.q (QS.assign rfl) rfl ?_
    refine Tr.nil (Tr.thenN (Tr.ret ?_))
    refine Tr.inR ?_
    refine Tr.thenR (Tr.thenR ?_)
    refine Tr.inR ?_
    refine Tr.thenR ?_
    refine Tr.ret1 Tryz.results12 rfl (fun w' hw => ?_)
    exact ⟨by rw [check_1 (v := oneP l k) (by assumption) (by omega) hk2 rfl (by assumption)], hw.below (Bg.le.refl _)⟩
   ·try simp only [bs] at h3
    refine Tr.skip (Tr.inN (Tr.thenN (Tr.region ?_)))
    refine Tr.q (QS.move rfl) rfl ?_
    refine Tr.q (QS.addI rfl rfl (by omega)) rfl ?_
    refine Tr.q (QS.assign rfl) rfl ?_
    refine Tr.nil (Tr.thenN ?_)
    apply Tr.again (k + 1)
    ·exact rfl
    ·exact (.cons (by first | rfl | exact lookI rfl (by omega) | exact lookI rfl (by simp) | exact lookB rfl (by simp)) Front.nil)
    ·exact SubX.dropN 14 (by kernel_rfl) rfl
    ·exact (by repeat' constructor)
    ·exact ⟨by omega, by rw [firstP_next (by omega) (by omega), hk2]⟩
    ·exact (by (try dsimp only); omega)
  ·try simp only [bs] at h2
   refine Tr.exit ?_
   refine Tr.thenE (Tr.thenE (Tr.inHit (Tr.thenN (Tr.seq (Tr.seq (Tr.region ?_))))))
   refine Tr.q (QS.assign rfl) rfl ?_
   refine Tr.nil (Tr.thenN (Tr.block ?_))
   have hz1 : firstP (oneP l) 0 l.length = 0 := by rw [← hk2]; exact firstP_zero (by omega)
   clear hk2 hk1 hm
   refine Tr.loop (ι := Nat) (fun k => k ≤ l.length ∧ firstP (fun i => if overP l i = true then 10 else 0) k (l.length - k) = firstP (fun i => if overP l i = true then 10 else 0) 0 l.length) (fun _ => _) (fun k => []) (fun k => [(5, .int .i64 (k : Nat))]) (fun k => l.length - k) 0 ⟨Nat.zero_le _, rfl⟩ (.cons (by first | rfl | exact lookI rfl (by omega) | exact lookI rfl (by simp) | exact lookB rfl (by simp)) Front.nil) (by repeat' constructor) rfl (fun k hi m hm => ?_)
   replace hi : k ≤ l.length ∧ firstP (fun i => if overP l i = true then 10 else 0) k (l.length - k) = firstP (fun i => if overP l i = true then 10 else 0) 0 l.length := hi
   replace hm : m = l.length - k := hm
   change Tr _ _ [] ([(5, .int .i64 (k : Nat))] ++ _) _
   obtain ⟨hk1, hk2⟩ := hi
   refine Tr.seq (Tr.seq (Tr.region ?_))
   refine Tr.q (QS.move rfl) rfl ?_
   refine Tr.q (QS.move rfl) rfl ?_
   refine Tr.q (QS.len rfl (by assumption) Tryz.underlying22) rfl ?_
   refine Tr.q (QS.lss rfl rfl) rfl ?_
   refine Tr.nil (Tr.thenN ?_)
   refine Tr.cond rfl (fun h4 => ?_) (fun h4 => ?_)
   ·try simp only [bs] at h4
    refine Tr.skip (Tr.thenN (Tr.seq (Tr.block (Tr.seq (Tr.region ?_)))))
    refine Tr.q (QS.assign rfl) rfl ?_
    refine Tr.nil (Tr.thenN (Tr.block ?_))
    refine Tr.loop (ι := Nat) (fun j => j ≤ k ∧ (l.take j).any (fun x => meetP (spaceP x) (spaceP (l.getD k default))) = false) (fun _ => _) (fun j => []) (fun j => [(6, .int .i64 (j : Nat))]) (fun j => k - j) 0 ⟨Nat.zero_le _, rfl⟩ (.cons (by first | rfl | exact lookI rfl (by omega) | exact lookI rfl (by simp) | exact lookB rfl (by simp)) Front.nil) (by repeat' constructor) rfl (fun j hi m hm => ?_)
    replace hi : j ≤ k ∧ (l.take j).any (fun x => meetP (spaceP x) (spaceP (l.getD k default))) = false := hi
    replace hm : m = k - j := hm
    change Tr _ _ [] ([(6, .int .i64 (j : Nat))] ++ _) _
    obtain ⟨hj1, hj2⟩ := hi
    have hmi := meet_iff (l.getD j default) (l.getD k default)
    refine Tr.seq (Tr.seq (Tr.region ?_))
    refine Tr.q (QS.move rfl) rfl ?_
    refine Tr.q (QS.move rfl) rfl ?_
    refine Tr.q (QS.lss rfl rfl) rfl ?_
    refine Tr.nil (Tr.thenN ?_)
    refine Tr.cond rfl (fun h5 => ?_) (fun h5 => ?_)
    ·try simp only [bs] at h5
     refine Tr.skip (Tr.thenN (Tr.seq (Tr.block (Tr.seq ?_))))
     refine Tr.regionQ HLF.mixed (by kernel_rfl) ?_
     refine TrQ.q (QS.move rfl) rfl ?_
     refine TrQ.q (QS.move rfl) rfl ?_
     refine TrQ.q (QS.idxN rfl rfl (by assumption) Tryz.underlying22 Tryz.sizeOf43 (by rfl) (by omega)) rfl ?_
     refine TrQ.q (QS.fieldAddr (off := 2) (ft := 41) rfl Tryz.underlying43 rfl rfl Tryz.sizeOf41 (by decide)) rfl ?_
     refine TrQ.q (QS.elF rfl (by assumption) Tryz.isAgg41 (by omega) (by rfl)) rfl ?_
     refine TrQ.q (QS.lenNil rfl Tryz.underlying41) rfl ?_
     refine TrQ.q (QS.gtr rfl rfl) rfl ?_
     refine TrQ.q (QS.move rfl) rfl ?_
     apply TrQ.andP
     ·exact (rfl : _ = (8, 40, 48))
     ·exact rfl
     ·intro hT6; have hT6' := hT6
      try simp only [bs] at hT6'
      refine TrQ.gq rfl rfl hT6 (QS.move rfl) rfl ?_
      refine TrQ.gq rfl rfl hT6 (QS.move rfl) rfl ?_
      refine TrQ.gq rfl rfl hT6 (QS.idxN rfl rfl (by assumption) Tryz.underlying22 Tryz.sizeOf43 (by rfl) (by omega)) rfl ?_
      refine TrQ.gq rfl rfl hT6 (QS.fieldAddr (off := 2) (ft := 41) rfl Tryz.underlying43 rfl rfl Tryz.sizeOf41 (by decide)) rfl ?_
      refine TrQ.gq rfl rfl hT6 (QS.elF rfl (by assumption) Tryz.isAgg41 (by omega) (by rfl)) rfl ?_
      refine TrQ.gq rfl rfl hT6 (QS.lenNil rfl Tryz.underlying41) rfl ?_
      refine TrQ.gq rfl rfl hT6 (QS.gtr rfl rfl) rfl ?_
      refine TrQ.q (QS.pickT rfl hT6 rfl) rfl ?_
      exact TrQ.end (Sub.cons rfl (Sub.dropN 8 (by kernel_rfl) rfl))
     ·intro hF6
      refine TrQ.gskip rfl rfl hF6 rfl ?_
      refine TrQ.gskip rfl rfl hF6 rfl ?_
      refine TrQ.gskip rfl rfl hF6 rfl ?_
      refine TrQ.gskip rfl rfl hF6 rfl ?_
      refine TrQ.gskip rfl rfl hF6 rfl ?_
      refine TrQ.gskip rfl rfl hF6 rfl ?_
      refine TrQ.gskip rfl rfl hF6 rfl ?_
      refine TrQ.q (QS.pickF rfl hF6 rfl) rfl ?_
      exact TrQ.end (Sub.cons rfl (Sub.dropN 8 (by kernel_rfl) rfl))
     refine TrQ.q (QS.move rfl) rfl ?_
     apply TrQ.andP
     ·exact (rfl : _ = (13, 49, 62))
     ·exact rfl
     ·intro hT7; have hT7' := hT7
      try simp only [bs] at hT7'
      refine TrQ.gq rfl rfl hT7 (QS.move rfl) rfl ?_
      refine TrQ.gq rfl rfl hT7 (QS.move rfl) rfl ?_
      refine TrQ.gq rfl rfl hT7 (QS.idxN rfl rfl (by assumption) Tryz.underlying22 Tryz.sizeOf43 (by rfl) (by omega)) rfl ?_
      refine TrQ.gq rfl rfl hT7 (QS.fieldAddr (off := 1) (ft := 40) rfl Tryz.underlying43 rfl rfl Tryz.sizeOf40 (by decide)) rfl ?_
      refine TrQ.gq rfl rfl hT7 (QS.elF rfl (by assumption) Tryz.isAgg40 (by omega) (by rfl)) rfl ?_
      refine TrQ.gq rfl rfl hT7 (QS.cvt32toI rfl Tryz.underlying40 Tryz.underlying3) rfl ?_
      refine TrQ.gq rfl rfl hT7 (QS.move rfl) rfl ?_
      refine TrQ.gq rfl rfl hT7 (QS.move rfl) rfl ?_
      refine TrQ.gq rfl rfl hT7 (QS.idxN rfl rfl (by assumption) Tryz.underlying22 Tryz.sizeOf43 (by rfl) (by omega)) rfl ?_
      refine TrQ.gq rfl rfl hT7 (QS.elA rfl (by assumption) Tryz.isAgg43 Tryz.sizeOf43 (by rfl) (by omega)) rfl ?_
      refine TrQ.gq rfl rfl hT7 (QS.call rfl Tryz.call31 (fun w hw => refEnd_any (l.getD j default) w (hB.at (by omega)))) rfl ?_
      refine TrQ.gq rfl rfl hT7 (QS.lss rfl rfl) rfl ?_
      refine TrQ.q (QS.pickT rfl hT7 rfl) rfl ?_
      exact TrQ.end (Sub.cons rfl (Sub.dropN 13 (by kernel_rfl) rfl))
     ·intro hF7
      refine TrQ.gskip rfl rfl hF7 rfl ?_
      refine TrQ.gskip rfl rfl hF7 rfl ?_
      refine TrQ.gskip rfl rfl hF7 rfl ?_
      refine TrQ.gskip rfl rfl hF7 rfl ?_
      refine TrQ.gskip rfl rfl hF7 rfl ?_
      refine TrQ.gskip rfl rfl hF7 rfl ?_
      refine TrQ.gskip rfl rfl hF7 rfl ?_
      refine TrQ.gskip rfl rfl hF7 rfl ?_
      refine TrQ.gskip rfl rfl hF7 rfl ?_
      refine TrQ.gskip rfl rfl hF7 rfl ?_
      refine TrQ.gskip rfl rfl hF7 rfl ?_
      refine TrQ.gskip rfl rfl hF7 rfl ?_
      refine TrQ.q (QS.pickF rfl hF7 rfl) rfl ?_
      exact TrQ.end (Sub.cons rfl (Sub.dropN 13 (by kernel_rfl) rfl))
     refine TrQ.q (QS.move rfl) rfl ?_
     apply TrQ.andP
     ·exact (rfl : _ = (13, 63, 76))
     ·exact rfl
     ·intro hT8; have hT8' := hT8
      try simp only [bs] at hT8'
      refine TrQ.gq rfl rfl hT8 (QS.move rfl) rfl ?_
      refine TrQ.gq rfl rfl hT8 (QS.move rfl) rfl ?_
      refine TrQ.gq rfl rfl hT8 (QS.idxN rfl rfl (by assumption) Tryz.underlying22 Tryz.sizeOf43 (by rfl) (by omega)) rfl ?_
      refine TrQ.gq rfl rfl hT8 (QS.fieldAddr (off := 1) (ft := 40) rfl Tryz.underlying43 rfl rfl Tryz.sizeOf40 (by decide)) rfl ?_
      refine TrQ.gq rfl rfl hT8 (QS.elF rfl (by assumption) Tryz.isAgg40 (by omega) (by rfl)) rfl ?_
      refine TrQ.gq rfl rfl hT8 (QS.cvt32toI rfl Tryz.underlying40 Tryz.underlying3) rfl ?_
      refine TrQ.gq rfl rfl hT8 (QS.move rfl) rfl ?_
      refine TrQ.gq rfl rfl hT8 (QS.move rfl) rfl ?_
      refine TrQ.gq rfl rfl hT8 (QS.idxN rfl rfl (by assumption) Tryz.underlying22 Tryz.sizeOf43 (by rfl) (by omega)) rfl ?_
      refine TrQ.gq rfl rfl hT8 (QS.elA rfl (by assumption) Tryz.isAgg43 Tryz.sizeOf43 (by rfl) (by omega)) rfl ?_
      refine TrQ.gq rfl rfl hT8 (QS.call rfl Tryz.call31 (fun w hw => refEnd_any (l.getD k default) w (hB.at (by omega)))) rfl ?_
      refine TrQ.gq rfl rfl hT8 (QS.lss rfl rfl) rfl ?_
      refine TrQ.q (QS.pickT rfl hT8 rfl) rfl ?_
      exact TrQ.end (Sub.cons rfl (Sub.dropN 13 (by kernel_rfl) rfl))
     ·intro hF8
      refine TrQ.gskip rfl rfl hF8 rfl ?_
      refine TrQ.gskip rfl rfl hF8 rfl ?_
      refine TrQ.gskip rfl rfl hF8 rfl ?_
      refine TrQ.gskip rfl rfl hF8 rfl ?_
      refine TrQ.gskip rfl rfl hF8 rfl ?_
      refine TrQ.gskip rfl rfl hF8 rfl ?_
      refine TrQ.gskip rfl rfl hF8 rfl ?_
      refine TrQ.gskip rfl rfl hF8 rfl ?_
      refine TrQ.gskip rfl rfl hF8 rfl ?_
      refine TrQ.gskip rfl rfl hF8 rfl ?_
      refine TrQ.gskip rfl rfl hF8 rfl ?_
      refine TrQ.gskip rfl rfl hF8 rfl ?_
      refine TrQ.q (QS.pickF rfl hF8 rfl) rfl ?_
      exact TrQ.end (Sub.cons rfl (Sub.dropN 13 (by kernel_rfl) rfl))
     refine TrQ.nil ?_
     refine Tr.thenN ?_
     refine Tr.cond rfl (fun h9 => ?_) (fun h9 => ?_)
     ·try simp only [bs] at h9
      refine Tr.seq (Tr.region ?_)
      refine Tr.q (QS.assign rfl) rfl ?_
      refine Tr.nil (Tr.thenN (Tr.ret ?_))
      refine Tr.inR ?_
      refine Tr.thenR (Tr.thenR ?_)
      refine Tr.inR ?_
      refine Tr.inR ?_
      refine Tr.thenR (Tr.thenR ?_)
      refine Tr.inR ?_
      refine Tr.thenR ?_
      refine Tr.ret1 Tryz.results12 rfl (fun w' hw => ?_)
      have hov : overP l k = true := List.any_eq_true.2 ⟨l.getD j default, by rw [List.mem_take_iff_getElem]; exact ⟨j, by omega, by simp [List.getD_eq_getElem?_getD, show j < l.length by omega]⟩, hmi.2 (by omega)⟩
      exact ⟨by rw [check_2 (k := k) (by assumption) hz1 (by omega) hk2 hov], hw.below (Bg.le.refl _)⟩
     ·try simp only [bs] at h9
      refine Tr.skip (Tr.inN (Tr.thenN (Tr.region ?_)))
      refine Tr.q (QS.move rfl) rfl ?_
      refine Tr.q (QS.addI rfl rfl (by omega)) rfl ?_
      refine Tr.q (QS.assign rfl) rfl ?_
      refine Tr.nil (Tr.thenN ?_)
      have hmf : meetP (spaceP (l.getD j default)) (spaceP (l.getD k default)) = false := by rw [← Bool.not_eq_true, hmi]; omega
      apply Tr.again (j + 1)
      ·exact rfl
      ·exact (.cons (by first | rfl | exact lookI rfl (by omega) | exact lookI rfl (by simp) | exact lookB rfl (by simp)) Front.nil)
      ·exact SubX.dropN 20 (by kernel_rfl) rfl
      ·exact (by repeat' constructor)
      ·exact ⟨by omega, by rw [any_take_succ (by omega), hj2, hmf]; rfl⟩
      ·exact (by (try dsimp only); omega)
    ·try simp only [bs] at h5
     refine Tr.exit ?_
     refine Tr.thenE (Tr.thenE (Tr.inHit (Tr.inN (Tr.thenN (Tr.region ?_)))))
     refine Tr.q (QS.move rfl) rfl ?_
     refine Tr.q (QS.addI rfl rfl (by omega)) rfl ?_
     refine Tr.q (QS.assign rfl) rfl ?_
     refine Tr.nil (Tr.thenN ?_)
     have hz : overP l k = false := by obtain rfl : j = k := (by omega); exact hj2
     apply Tr.again (k + 1)
     ·exact rfl
     ·exact (.cons (by first | rfl | exact lookI rfl (by omega) | exact lookI rfl (by simp) | exact lookB rfl (by simp)) Front.nil)
     ·exact SubX.dropN 13 (by kernel_rfl) rfl
     ·exact (by repeat' constructor)
     ·exact ⟨by omega, by rw [firstP_next (by omega) (by rw [if_neg (by rw [hz]; decide)]), hk2]⟩
     ·exact (by (try dsimp only); omega)
   ·try simp only [bs] at h4
    refine Tr.exit ?_
    refine Tr.thenE (Tr.thenE (Tr.inHit (Tr.thenN (Tr.seq (Tr.region ?_)))))
    refine Tr.q (QS.assign rfl) rfl ?_
    refine Tr.nil (Tr.thenN (Tr.ret ?_))
    refine Tr.ret1 Tryz.results12 rfl (fun w' hw => ?_)
    exact ⟨by rw [check_3 (by assumption) hz1 (by rw [← hk2]; exact firstP_zero (by omega))], hw.below (Bg.le.refl _)⟩
end Go.Proofs.YtnmaokalpbnmaaaGreat
namespace Go.HL
open Go Go.RowKit
section
variable {P : Program} {ops : Array Oper} {Q : Exit → Act → World → Prop} {N : Nat} {F : Bg} {L : List Ent} {M : Fr} {ty : TypeId} {pos : String} {after : Array Edge} {rest : List Oper} {d : Nat} {op : Op}
theorem flatMap_setEl {α : Type} (E : Enc α) (x' : α) : ∀ (l : List α) (i : Nat), i < l.length → (l.set i x').flatMap E.enc = splice (l.flatMap E.enc) (i * E.k) (E.enc x')
  | [], i, h => by simp at h
  | y :: l, 0, _ => by
    simp only [List.set_cons_zero, List.flatMap_cons, Nat.zero_mul, splice, List.take_zero, List.nil_append, Nat.zero_add, E.len]
    rw [List.drop_append_of_le_length (by rw [E.len]; exact Nat.le_refl _), List.drop_of_length_le (by rw [E.len]; exact Nat.le_refl _)]; rfl
  | y :: l, i + 1, h => by
    have ih := flatMap_setEl E x' l i (by simpa using h)
    simp only [List.set_cons_succ, List.flatMap_cons, ih, splice]
    have hl : (E.enc y).length = E.k := E.len y
    rw [show (i + 1) * E.k = (E.enc y).length + i * E.k by rw [hl, Nat.add_mul]; omega, List.take_length_add_append, show (E.enc y).length + i * E.k + (E.enc x').length = (E.enc y).length + (i * E.k + (E.enc x').length) by omega, List.drop_length_add_append]
    simp only [List.append_assoc]
theorem take_splice {cs v : List Value} {o n : Nat} (h : o + v.length ≤ n) (hn : n ≤ cs.length) : (splice cs o v).take n = splice (cs.take n) o v := by
  apply List.ext_getElem?
  intro q
  simp only [splice, List.getElem?_take, List.getElem?_append, List.length_take, List.getElem?_drop, List.length_append]
  grind
/-- A store of a whole element of one's own slice. -/
theorem Tr.storeEl {α : Type} {E : Enc α} {l : List α} (x' : α) {x y : Operand} {t T : TypeId} {V v : Value} {i : Nat} {L' : List Ent} {dst : Option Tmp} (hx : opv M x = some (.pointer (some ⟨bk V, ofs V + i * E.k, none⟩))) (hy : opv M y = some v)
    (hz : ∀ w, (sizeOf t).run P w = .ok E.k w) (hput : Put (rowE V T E l) (rowE V T E (l.set i x')) L L') (hi : i < l.length) (hc : v.cells.toList = E.enc x') (hdst : dst = none)
    (K : Tr N F L' M (wpList P ops Q rest)) : Tr N F L M (wpList P ops Q (⟨dst, .store t x y, ty, pos, after, none⟩ :: rest)) := by
  subst hdst
  intro a w ha hw
  refine wpList_plain rfl fun K' hK => ?_
  have hr : RowOK V T E l (V.ownBlock.bind (w.heap[·]?)) := hw.ent _ hput.mem
  rcases hr with ⟨_, rfl⟩ | ⟨gb, cap, cur, rfl, ho, hc1, hc2, hc3, hc4⟩
  · simp at hi
  · have ho' : w.heap[gb]? = some (.cells cur T (0, 0)) := ho
    have hlt : i * E.k + E.k ≤ l.length * E.k := by rw [← Nat.succ_mul]; exact Nat.mul_le_mul_right _ hi
    have hle : l.length * E.k ≤ cur.size := Nat.le_trans (Nat.mul_le_mul_right _ hc1) hc3
    have hs : v.cells.size = E.k := by have := congrArg List.length hc; rw [E.len] at this; simpa using this
    have hst := run_storeV (P := P) (w := w) (b := gb) (o := i * E.k) (cs := cur.toList) (T := T) (t := t) (v := v) (by simpa using ho') hz hs (by simp; omega) (by rw [hc]; intro u hu; exact E.one _ _ hu)
    simp only [bk, ofs, Nat.zero_add] at hx
    unfold Oper.wp
    simp only [execOp, ha.eval hx, ha.eval hy, Sem.run_bind, hst, Result.andThen_ok, Sem.run_pure, Oper.upon, Act.put]
    refine hK _ _ (K _ _ ha ?_)
    have e1 : rowE (.slice (some ⟨gb, 0, none⟩) l.length cap) T E l = ⟨some gb, RowOK (.slice (some ⟨gb, 0, none⟩) l.length cap) T E l⟩ := rfl
    have e2 : rowE (.slice (some ⟨gb, 0, none⟩) l.length cap) T E (l.set i x') = ⟨some gb, RowOK (.slice (some ⟨gb, 0, none⟩) l.length cap) T E (l.set i x')⟩ := rfl
    rw [e1, e2] at hput
    refine HpOK.set hw hput rfl rfl rfl (by simp) (Nat.le_refl _) (fun k _ hkb => setRow_other w gb k _ hkb) ?_
    rw [setRow_heap w gb _ _ T (0, 0) ho']
    have hll : (l.set i x').length = l.length := by simp
    refine .inr ⟨gb, cap, _, by rw [hll], rfl, by rw [hll]; exact hc1, hc2, ?_, ?_⟩
    · rw [List.size_toArray]
      simp only [splice, hc, List.length_append, List.length_take, List.length_drop, Array.length_toList, E.len]
      omega
    · rw [hll, flatMap_setEl E x' l i hi, ← hc4, hc, List.toList_toArray]
      refine take_splice ?_ ?_
      · rw [E.len]; omega
      · rw [Array.length_toList]; exact hle
theorem Tr.rowEq {α : Type} {E : Enc α} {l l' : List α} {V : Value} {T : TypeId} {L0 : List Ent} {X : Act → World → Prop} (h : l = l') (K : Tr N F (rowE V T E l' :: L0) M X) : Tr N F (rowE V T E l :: L0) M X := h ▸ K
/-- An operation of the region's beginning that looks at the frame alone. -/
theorem TrQ.pureQ {X : Act → Prop} {v : Value} (h : ∀ F, QS P N F [] M ⟨some d, op, ty, pos, after, none⟩ v) (hp : plainOp op = true) (hd : Nat.ble (d + 1) N = true) (k : TrQ N ((d, v) :: M) (wpPure P ops X rest)) :
    TrQ N M (wpPure P ops X (⟨some d, op, ty, pos, after, none⟩ :: rest)) := fun a ha =>
  ⟨v, .inl ⟨by simp [Region.wanted], fun w => QS.run (h (Bg.of w)) hp ha (HpOK.start w)⟩, k _ (ha.put (Nat.le_of_ble_eq_true hd))⟩
end
end Go.HL
namespace Go.HL
open Go Go.Sort
def ltW (x y : UInt32) : Bool := decide (x < y)
theorem swo_ltW : SWO ltW where
  irrefl x := by simp [ltW]
  trans x y z h1 h2 := by simp only [ltW, decide_eq_true_eq, UInt32.lt_iff_toNat_lt] at *; omega
  ntrans x y z h1 h2 := by simp only [ltW, decide_eq_false_iff_not, UInt32.lt_iff_toNat_lt] at *; omega
theorem bang {d : Array UInt32} {i : Nat} : d.toList.getD i default = d[i]! := by
  rw [List.getD_eq_getElem?_getD, Array.getElem?_toList, Array.getElem!_eq_getD, Array.getD_eq_getD_getElem?]
theorem set_swp {d : Array UInt32} {i j : Nat} : (d.toList.set i d[j]!).set j d[i]! = (swp d i j).toList := by
  simp [swp, Array.toList_setIfInBounds]
theorem swpW {d : Array UInt32} {i j : Nat} : (swp d i j).size = d.size := by simp [swp]
theorem insOuter_ge {a b i : Nat} {d : Array UInt32} (h : b ≤ i) : insOuter ltW a b i d = d := by rw [insOuter, if_neg (by omega)]
theorem insOuter_lt {a b i : Nat} {d : Array UInt32} (h : i < b) : insOuter ltW a b i d = insOuter ltW a b (i + 1) (insInner ltW a i d) := by rw [insOuter, if_pos h]
theorem own_insInner_go {a j : Nat} {d : Array UInt32} (h : a < j) (h2 : ltW d[j]! d[j - 1]! = true) : insInner ltW a j d = insInner ltW a (j - 1) (swp d j (j - 1)) := by
  cases j with
  | zero => omega
  | succ j => rw [insInner, if_pos (by simp only [Bool.and_eq_true, decide_eq_true_eq]; exact ⟨h, h2⟩)]; rfl
theorem own_insInner_stop {a j : Nat} {d : Array UInt32} (h : j ≤ a ∨ ltW d[j]! d[j - 1]! = false) : insInner ltW a j d = d := by
  cases j with
  | zero => rfl
  | succ j =>
    rw [insInner, if_neg]
    simp only [Bool.and_eq_true, decide_eq_true_eq]
    rintro ⟨h1, h2⟩
    rcases h with h | h
    · omega
    · rw [show j + 1 - 1 = j from rfl, h2] at h; cases h
theorem sift_end {hi f r : Nat} {d : Array UInt32} (h : hi ≤ 2 * r + 1) : siftDown ltW hi f r d = d := by rw [siftDown, dif_pos h]
theorem sift_r {hi f r : Nat} {d : Array UInt32} (h : 2 * r + 2 < hi) (hl : ltW d[f + (2 * r + 1)]! d[f + (2 * r + 1) + 1]! = true) :
    siftDown ltW hi f r d = if ltW d[f + r]! d[f + (2 * r + 2)]! = true then siftDown ltW hi f (2 * r + 2) (swp d (f + r) (f + (2 * r + 2))) else d := by
  rw [siftDown, dif_neg (by omega), if_pos (by simp only [Bool.and_eq_true, decide_eq_true_eq]; exact ⟨by omega, hl⟩), dif_pos h]
  cases ltW d[f + r]! d[f + (2 * r + 2)]! <;> rfl
theorem sift_l {hi f r : Nat} {d : Array UInt32} (h : 2 * r + 1 < hi) (hl : hi ≤ 2 * r + 2 ∨ ltW d[f + (2 * r + 1)]! d[f + (2 * r + 1) + 1]! = false) :
    siftDown ltW hi f r d = if ltW d[f + r]! d[f + (2 * r + 1)]! = true then siftDown ltW hi f (2 * r + 1) (swp d (f + r) (f + (2 * r + 1))) else d := by
  rw [siftDown, dif_neg (by omega), if_neg]
  · cases ltW d[f + r]! d[f + (2 * r + 1)]! <;> rfl
  · simp only [Bool.and_eq_true, decide_eq_true_eq]
    rintro ⟨q1, q2⟩
    rcases hl with hl | hl
    · omega
    · rw [q2] at hl; cases hl
theorem sift_size {hi f : Nat} : ∀ (n r : Nat) (d : Array UInt32), hi - r ≤ n → (siftDown ltW hi f r d).size = d.size
  | n, r, d, h => by
    by_cases c1 : hi ≤ 2 * r + 1
    · rw [sift_end c1]
    · cases n with
      | zero => omega
      | succ n =>
        by_cases c2 : 2 * r + 2 < hi ∧ ltW d[f + (2 * r + 1)]! d[f + (2 * r + 1) + 1]! = true
        · rw [sift_r c2.1 c2.2]
          split
          · rw [sift_size n (2 * r + 2) _ (by omega), swpW]
          · rfl
        · rw [sift_l (by omega) (by
            by_cases q : 2 * r + 2 < hi
            · refine .inr ?_
              cases e : ltW d[f + (2 * r + 1)]! d[f + (2 * r + 1) + 1]!
              · rfl
              · exact absurd ⟨q, e⟩ c2
            · exact .inl (by omega))]
          split
          · rw [sift_size n (2 * r + 1) _ (by omega), swpW]
          · rfl
theorem siftW {hi f r : Nat} {d : Array UInt32} : (siftDown ltW hi f r d).size = d.size := sift_size _ _ _ (Nat.le_refl _)
theorem rev_stop {i j : Nat} {d : Array UInt32} (h : ¬ i < j) : reverseLoop i j d = d := by rw [reverseLoop, if_neg h]
theorem rev_go {i j : Nat} {d : Array UInt32} (h : i < j) : reverseLoop i j d = reverseLoop (i + 1) (j - 1) (swp d i j) := by rw [reverseLoop, if_pos h]
theorem up_go {p : UInt32 → Bool} {d : Array UInt32} {i j : Nat} (h : i ≤ j) (hp : p d[i]! = true) : scanUp p d j i = scanUp p d j (i + 1) := by
  rw [scanUp, if_pos (by simp only [Bool.and_eq_true, decide_eq_true_eq]; exact ⟨h, hp⟩)]
theorem up_stop {p : UInt32 → Bool} {d : Array UInt32} {i j : Nat} (h : j < i ∨ p d[i]! = false) : scanUp p d j i = i := by
  rw [scanUp, if_neg]
  simp only [Bool.and_eq_true, decide_eq_true_eq]
  rintro ⟨q1, q2⟩
  rcases h with h | h
  · omega
  · rw [q2] at h; cases h
theorem down_go {p : UInt32 → Bool} {d : Array UInt32} {i j : Nat} (h : i ≤ j) (h0 : 0 < j) (hp : p d[j]! = true) : scanDown p d i j = scanDown p d i (j - 1) := by
  obtain ⟨k, rfl⟩ : ∃ k, j = k + 1 := ⟨j - 1, by omega⟩
  rw [scanDown, if_pos (by simp only [Bool.and_eq_true, decide_eq_true_eq]; exact ⟨h, hp⟩)]; rfl
theorem down_stop {p : UInt32 → Bool} {d : Array UInt32} {i j : Nat} (h : j < i ∨ p d[j]! = false) : scanDown p d i j = j := by
  cases j with
  | zero => rfl
  | succ k =>
    rw [scanDown, if_neg]
    simp only [Bool.and_eq_true, decide_eq_true_eq]
    rintro ⟨q1, q2⟩
    rcases h with h | h
    · omega
    · rw [q2] at h; cases h
theorem part_end {a i j I J : Nat} {d : Array UInt32} (hI : scanUp (fun x => ltW x d[a]!) d j i = I) (hJ : scanDown (fun x => !ltW x d[a]!) d I j = J) (h : J < I) : partLoop ltW a i j d = (J, d) := by
  rw [partLoop]; simp only [hI, hJ]; rw [if_pos h]
theorem own_part_go {a i j I J : Nat} {d : Array UInt32} (hI : scanUp (fun x => ltW x d[a]!) d j i = I) (hJ : scanDown (fun x => !ltW x d[a]!) d I j = J) (h : I < J) (h1 : i ≤ I) (h2 : J ≤ j) :
    partLoop ltW a i j d = partLoop ltW a (I + 1) (J - 1) (swp d I J) := by
  rw [partLoop]; simp only [hI, hJ]; rw [if_neg (by omega), dif_pos (by omega)]
theorem parteq_end {a i j I J : Nat} {d : Array UInt32} (hI : scanUp (fun x => !ltW d[a]! x) d j i = I) (hJ : scanDown (fun x => ltW d[a]! x) d I j = J) (h : J < I) : partEqLoop ltW a i j d = (I, d) := by
  rw [partEqLoop]; simp only [hI, hJ]; rw [if_pos h]
theorem parteq_go {a i j I J : Nat} {d : Array UInt32} (hI : scanUp (fun x => !ltW d[a]! x) d j i = I) (hJ : scanDown (fun x => ltW d[a]! x) d I j = J) (h : I < J) (h1 : i ≤ I) (h2 : J ≤ j) :
    partEqLoop ltW a i j d = partEqLoop ltW a (I + 1) (J - 1) (swp d I J) := by
  rw [partEqLoop]; simp only [hI, hJ]; rw [if_neg (by omega), dif_pos (by omega)]
theorem ss_go {b i : Nat} {d : Array UInt32} (h : i < b) (hl : ltW d[i]! d[i - 1]! = false) : scanSorted ltW d b i = scanSorted ltW d b (i + 1) := by
  rw [scanSorted, if_pos (by simp only [Bool.and_eq_true, decide_eq_true_eq, Bool.not_eq_true']; exact ⟨h, hl⟩)]
theorem ss_stop {b i : Nat} {d : Array UInt32} (h : b ≤ i ∨ ltW d[i]! d[i - 1]! = true) : scanSorted ltW d b i = i := by
  rw [scanSorted, if_neg]
  simp only [Bool.and_eq_true, decide_eq_true_eq, Bool.not_eq_true']
  rintro ⟨q1, q2⟩
  rcases h with h | h
  · omega
  · rw [q2] at h; cases h
theorem sd_go {j : Nat} {d : Array UInt32} (h : 0 < j) (hl : ltW d[j]! d[j - 1]! = true) : shiftDown ltW j d = shiftDown ltW (j - 1) (swp d j (j - 1)) := by
  obtain ⟨k, rfl⟩ : ∃ k, j = k + 1 := ⟨j - 1, by omega⟩
  rw [shiftDown, if_neg (by rw [show k + 1 - 1 = k from rfl] at hl; simp [hl])]; rfl
theorem sd_stop {j : Nat} {d : Array UInt32} (h : j = 0 ∨ ltW d[j]! d[j - 1]! = false) : shiftDown ltW j d = d := by
  cases j with
  | zero => rfl
  | succ k =>
    rcases h with h | h
    · omega
    · rw [shiftDown, if_pos (by rw [show k + 1 - 1 = k from rfl] at h; simp [h])]
theorem su_go {b j : Nat} {d : Array UInt32} (h : j < b) (hl : ltW d[j]! d[j - 1]! = true) : shiftUp ltW b j d = shiftUp ltW b (j + 1) (swp d j (j - 1)) := by
  rw [shiftUp, if_pos h, if_neg (by simp [hl])]
theorem su_stop {b j : Nat} {d : Array UInt32} (h : b ≤ j ∨ ltW d[j]! d[j - 1]! = false) : shiftUp ltW b j d = d := by
  rw [shiftUp]
  rcases h with h | h
  · rw [if_neg (by omega)]
  · split
    · rw [if_pos (by simp [h])]
    · rfl
theorem own_pi_end {a b k i x : Nat} {d : Array UInt32} (hX : scanSorted ltW d b i = x) (h : x = b) : partialIns ltW a b (k + 1) i d = (d, true) := by
  rw [partialIns]; simp only [hX]; rw [if_pos h]
theorem pi_few {a b k i x : Nat} {d : Array UInt32} (hX : scanSorted ltW d b i = x) (h : x ≠ b) (h2 : b - a < 50) : partialIns ltW a b (k + 1) i d = (d, false) := by
  rw [partialIns]; simp only [hX]; rw [if_neg h, if_pos h2]
theorem own_pi_go {a b k i x : Nat} {d d3 d4 : Array UInt32} (hX : scanSorted ltW d b i = x) (h : x ≠ b) (h2 : ¬ b - a < 50) (h3 : d3 = if x - a ≥ 2 then shiftDown ltW (x - 1) (swp d x (x - 1)) else swp d x (x - 1)) (h4 : d4 = if b - x ≥ 2 then shiftUp ltW b (x + 1) d3 else d3) :
    partialIns ltW a b (k + 1) i d = partialIns ltW a b k x d4 := by
  rw [partialIns]; simp only [hX]; rw [if_neg h, if_neg h2, ← h3, ← h4]
end Go.HL
