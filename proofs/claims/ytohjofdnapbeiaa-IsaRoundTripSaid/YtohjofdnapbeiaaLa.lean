/- Chapter 03: the example; Decode and its reference. -/
import Derived.Test.YtohjofdnapbeiaaWl
import Derived.Test.YtohjofdnapbeiaaIk
import Derived.Test.YtohjofdnapbeiaaHc
set_option linter.unusedSimpArgs false
set_option linter.unusedVariables false
namespace Go.Proofs.Ytohjofdnapbeiaa
open Go Go.HL Go.RowKit

theorem encode_rowF (i : Ins) (w : World) (hI : InsOK i) : Calls Try.prog 15 [Value.agg (encIns.enc i).toArray].toArray w fun e w' => ∃ V, e = .returned ((fun V => .tuple #[V, .int .i64 (errP i)]) V) ∧ Ext w w' ∧ NewRow w w' 5 encU8 (encodeP i) V := encode_isa i w hI

set_option maxRecDepth 100000 in
set_option maxHeartbeats 2000000 in
theorem few_any (b : List UInt8) (V : Value) (w : World) (hV : Sl (hp w) encU8 b V) :
    Calls Try.prog 11 #[V] w (fun e w' => e = .returned (.bool (decide ((b.length : Int) ≤ 40))) ∧ Ext w w') := by
  have hV' : Sl (Bg.of w).blk encU8 b V := hV
  refine enter Try.func11 rfl Try.ntmps11 rfl ?_
  refine Tr.seq ?_
  refine Tr.region ?_
  refine Tr.q (QS.assign rfl) rfl ?_
  refine Tr.nil ?_
  refine Tr.thenN ?_
  refine Tr.seq ?_
  refine Tr.region ?_
  refine Tr.q (QS.move rfl) rfl ?_
  first | refine Tr.q (QS.len rfl (by assumption) Try.underlying22) rfl ?_ | refine Tr.q (QS.lenRow rfl (by repeat (first | exact List.Mem.head _ | apply List.Mem.tail)) Try.underlying22) rfl ?_ | refine Tr.q (QS.lenNil rfl Try.underlying22) rfl ?_
  refine Tr.q (QS.leq rfl rfl) rfl ?_
  refine Tr.q (QS.assign rfl) rfl ?_
  refine Tr.nil ?_
  refine Tr.thenN ?_
  refine Tr.ret ?_
  refine Tr.ret1 Try.results11 rfl (fun w' hw => ?_)
  exact ⟨rfl, hw.below (Bg.le.refl _)⟩

set_option maxRecDepth 100000 in
set_option maxHeartbeats 4000000 in
theorem example03_any (w : World) :
    Calls Try.prog 12 #[] w (fun e w' => e = .returned (.bool true) ∧ Ext w w') := by
  refine enter Try.func12 rfl Try.ntmps12 rfl ?_
  refine Tr.seq ?_
  refine Tr.region ?_
  refine Tr.q (QS.assign rfl) rfl ?_
  refine Tr.nil ?_
  refine Tr.thenN ?_
  refine Tr.seq ?_
  refine Tr.region ?_
  refine Tr.litN (E := encU8) [33, 19] (vs := [(0, _), (1, _)]) rfl rfl Try.underlying22 Try.sizeOf5 Try.zeroValue5 (by rfl) (by rfl) rfl (by first | kernel_rfl | rfl) rfl (fun V1 => ?_)
  refine Tr.q (QS.call rfl Try.call13 (fun w hw => decode_isa [33, 19] _ 4096 w (hw.row (.head _)))) rfl ?_
  refine Tr.q (QS.move rfl) rfl ?_
  refine Tr.q (QS.extract rfl rfl) rfl ?_
  refine Tr.q (QS.extract rfl rfl) rfl ?_
  refine Tr.alloc Try.zeroValue27 rfl rfl (fun b2 => ?_)
  refine Tr.storeW rfl rfl Try.sizeOf27 (by repeat (first | exact Put.here _ | apply Put.there)) (by rfl) (by rfl) (by first | exact List.all_eq_true.1 rfl | exact Enc.one _ _ | exact Enc.one encIns _) rfl ?_
  refine Tr.q (QS.assign rfl) rfl ?_
  refine Tr.nil ?_
  refine Tr.thenN ?_
  refine Tr.seq ?_
  refine Tr.region ?_
  refine Tr.litN (E := encU8) [97, 254, 9] (vs := [(0, _), (1, _), (2, _)]) rfl rfl Try.underlying22 Try.sizeOf5 Try.zeroValue5 (by rfl) (by rfl) rfl (by first | kernel_rfl | rfl) rfl (fun V3 => ?_)
  refine Tr.q (QS.call rfl Try.call13 (fun w hw => decode_isa [97, 254, 9] _ 4096 w (hw.row (.head _)))) rfl ?_
  refine Tr.q (QS.move rfl) rfl ?_
  refine Tr.q (QS.extract rfl rfl) rfl ?_
  refine Tr.q (QS.extract rfl rfl) rfl ?_
  refine Tr.alloc Try.zeroValue27 rfl rfl (fun b4 => ?_)
  refine Tr.storeW rfl rfl Try.sizeOf27 (by repeat (first | exact Put.here _ | apply Put.there)) (by rfl) (by rfl) (by first | exact List.all_eq_true.1 rfl | exact Enc.one _ _ | exact Enc.one encIns _) rfl ?_
  refine Tr.q (QS.assign rfl) rfl ?_
  refine Tr.nil ?_
  refine Tr.thenN ?_
  refine Tr.seq ?_
  refine Tr.region ?_
  refine Tr.litN (E := encU8) [33, 147] (vs := [(0, _), (1, _)]) rfl rfl Try.underlying22 Try.sizeOf5 Try.zeroValue5 (by rfl) (by rfl) rfl (by first | kernel_rfl | rfl) rfl (fun V5 => ?_)
  refine Tr.q (QS.call rfl Try.call13 (fun w hw => decode_isa [33, 147] _ 0 w (hw.row (.head _)))) rfl ?_
  refine Tr.q (QS.move rfl) rfl ?_
  refine Tr.q (QS.extract rfl rfl) rfl ?_
  refine Tr.q (QS.extract rfl rfl) rfl ?_
  refine Tr.alloc Try.zeroValue27 rfl rfl (fun b6 => ?_)
  refine Tr.storeW rfl rfl Try.sizeOf27 (by repeat (first | exact Put.here _ | apply Put.there)) (by rfl) (by rfl) (by first | exact List.all_eq_true.1 rfl | exact Enc.one _ _ | exact Enc.one encIns _) rfl ?_
  refine Tr.q (QS.assign rfl) rfl ?_
  refine Tr.nil ?_
  refine Tr.thenN ?_
  refine Tr.seq ?_
  refine Tr.region ?_
  refine Tr.q (QS.build (vs := [(2, _), (3, _), (6, _), (1, _)]) rfl rfl (HLF.built27_2_3_6_1 _ _ _ _)) rfl ?_
  refine Tr.callRowF (fun V => .tuple #[V, .int .i64 (errP ⟨0, 200, 5, 1, 0, 0, 2, 0, 0⟩)]) rfl Try.call15 (fun w hw => encode_rowF (⟨0, 200, 5, 1, 0, 0, 2, 0, 0⟩) w (by exact ⟨by simp [I64], by simp [I64], by simp [I64], by simp [I64], by simp [I64], by simp [I64], by simp [I64]⟩)) rfl (fun V7 => ?_)
  refine Tr.q (QS.move rfl) rfl ?_
  refine Tr.q (QS.extract rfl rfl) rfl ?_
  refine Tr.q (QS.extract rfl rfl) rfl ?_
  refine Tr.q (QS.assign rfl) rfl ?_
  refine Tr.q (QS.assign rfl) rfl ?_
  refine Tr.nil ?_
  refine Tr.thenN ?_
  refine Tr.seq ?_
  refine Tr.region ?_
  refine Tr.q (QS.build (vs := [(2, _), (3, _), (6, _), (1, _)]) rfl rfl (HLF.built27_2_3_6_1 _ _ _ _)) rfl ?_
  refine Tr.callRowF (fun V => .tuple #[V, .int .i64 (errP ⟨0, 4294967295, 5, 1, 0, 0, 2, 0, 0⟩)]) rfl Try.call15 (fun w hw => encode_rowF (⟨0, 4294967295, 5, 1, 0, 0, 2, 0, 0⟩) w (by exact ⟨by simp [I64], by simp [I64], by simp [I64], by simp [I64], by simp [I64], by simp [I64], by simp [I64]⟩)) rfl (fun V8 => ?_)
  refine Tr.q (QS.move rfl) rfl ?_
  refine Tr.q (QS.extract rfl rfl) rfl ?_
  refine Tr.q (QS.extract rfl rfl) rfl ?_
  refine Tr.q (QS.assign rfl) rfl ?_
  refine Tr.q (QS.assign rfl) rfl ?_
  refine Tr.nil ?_
  refine Tr.thenN ?_
  refine Tr.seq ?_
  refine Tr.region ?_
  refine Tr.q (QS.lW rfl Try.isAgg27 Try.sizeOf27) rfl ?_
  refine Tr.q (QS.build (vs := [(0, _), (2, _), (6, _), (7, _), (8, _)]) rfl rfl (HLF.built27_0_2_6_7_8 _ _ _ _ _)) rfl ?_
  refine Tr.q (QS.eqlE (q := ⟨4096, 0, 6, 0, 0, 0, 1, 3, 2⟩) rfl rfl insEqEnc Try.underlying27 (HLF.words27 _ Try.underlying27) rfl HLF.held27 HLF.eqg27) rfl ?_
  refine Tr.q (QS.move rfl) rfl ?_
  apply Tr.andP
  · exact (rfl : _ = (3, 39, 42))
  · exact rfl
  · intro hT9; have hT9' := hT9
    try simp only [bs] at hT9'
    refine Tr.gq rfl rfl hT9 (QS.move rfl) rfl ?_
    refine Tr.gq rfl rfl hT9 (QS.eql rfl rfl) rfl ?_
    refine Tr.q (QS.pickT rfl hT9 rfl) rfl ?_
    refine Tr.nil (Tr.thenN ?_)
    exact Tr.endX (Sub.cons rfl (Sub.dropN 3 (by kernel_rfl) rfl))
  · intro hF9
    refine Tr.gskip rfl rfl hF9 rfl ?_
    refine Tr.gskip rfl rfl hF9 rfl ?_
    refine Tr.q (QS.pickF rfl hF9 rfl) rfl ?_
    refine Tr.nil (Tr.thenN ?_)
    exact Tr.endX (Sub.cons rfl (Sub.dropN 3 (by kernel_rfl) rfl))
  refine Tr.q (QS.move rfl) rfl ?_
  apply Tr.andP
  · exact (rfl : _ = (4, 43, 47))
  · exact rfl
  · intro hT10; have hT10' := hT10
    try simp only [bs] at hT10'
    refine Tr.gq rfl rfl hT10 (QS.lW rfl Try.isAgg27 Try.sizeOf27) rfl ?_
    refine Tr.gq rfl rfl hT10 (QS.build (vs := [(0, _), (1, _), (2, _), (3, _), (5, _), (8, _)]) rfl rfl (HLF.built27_0_1_2_3_5_8 _ _ _ _ _ _)) rfl ?_
    refine Tr.gq rfl rfl hT10 (QS.eqlE (q := ⟨4096, 4096, 20, 1, 0, 1, 0, 0, 2⟩) rfl rfl insEqEnc Try.underlying27 (HLF.words27 _ Try.underlying27) rfl HLF.held27 HLF.eqg27) rfl ?_
    refine Tr.q (QS.pickT rfl hT10 rfl) rfl ?_
    refine Tr.nil (Tr.thenN ?_)
    exact Tr.endX (Sub.cons rfl (Sub.dropN 4 (by kernel_rfl) rfl))
  · intro hF10
    refine Tr.gskip rfl rfl hF10 rfl ?_
    refine Tr.gskip rfl rfl hF10 rfl ?_
    refine Tr.gskip rfl rfl hF10 rfl ?_
    refine Tr.q (QS.pickF rfl hF10 rfl) rfl ?_
    refine Tr.nil (Tr.thenN ?_)
    exact Tr.endX (Sub.cons rfl (Sub.dropN 4 (by kernel_rfl) rfl))
  refine Tr.q (QS.move rfl) rfl ?_
  apply Tr.andP
  · exact (rfl : _ = (3, 48, 51))
  · exact rfl
  · intro hT11; have hT11' := hT11
    try simp only [bs] at hT11'
    refine Tr.gq rfl rfl hT11 (QS.move rfl) rfl ?_
    refine Tr.gq rfl rfl hT11 (QS.eql rfl rfl) rfl ?_
    refine Tr.q (QS.pickT rfl hT11 rfl) rfl ?_
    refine Tr.nil (Tr.thenN ?_)
    exact Tr.endX (Sub.cons rfl (Sub.dropN 3 (by kernel_rfl) rfl))
  · intro hF11
    refine Tr.gskip rfl rfl hF11 rfl ?_
    refine Tr.gskip rfl rfl hF11 rfl ?_
    refine Tr.q (QS.pickF rfl hF11 rfl) rfl ?_
    refine Tr.nil (Tr.thenN ?_)
    exact Tr.endX (Sub.cons rfl (Sub.dropN 3 (by kernel_rfl) rfl))
  refine Tr.q (QS.move rfl) rfl ?_
  apply Tr.andP
  · exact (rfl : _ = (3, 52, 55))
  · exact rfl
  · intro hT12; have hT12' := hT12
    try simp only [bs] at hT12'
    refine Tr.gq rfl rfl hT12 (QS.move rfl) rfl ?_
    refine Tr.gq rfl rfl hT12 (QS.eql rfl rfl) rfl ?_
    refine Tr.q (QS.pickT rfl hT12 rfl) rfl ?_
    refine Tr.nil (Tr.thenN ?_)
    exact Tr.endX (Sub.cons rfl (Sub.dropN 3 (by kernel_rfl) rfl))
  · intro hF12
    refine Tr.gskip rfl rfl hF12 rfl ?_
    refine Tr.gskip rfl rfl hF12 rfl ?_
    refine Tr.q (QS.pickF rfl hF12 rfl) rfl ?_
    refine Tr.nil (Tr.thenN ?_)
    exact Tr.endX (Sub.cons rfl (Sub.dropN 3 (by kernel_rfl) rfl))
  refine Tr.q (QS.move rfl) rfl ?_
  apply Tr.andP
  · exact (rfl : _ = (3, 56, 59))
  · exact rfl
  · intro hT13; have hT13' := hT13
    try simp only [bs] at hT13'
    refine Tr.gq rfl rfl hT13 (QS.move rfl) rfl ?_
    refine Tr.gq rfl rfl hT13 (QS.eql rfl rfl) rfl ?_
    refine Tr.q (QS.pickT rfl hT13 rfl) rfl ?_
    refine Tr.nil (Tr.thenN ?_)
    exact Tr.endX (Sub.cons rfl (Sub.dropN 3 (by kernel_rfl) rfl))
  · intro hF13
    refine Tr.gskip rfl rfl hF13 rfl ?_
    refine Tr.gskip rfl rfl hF13 rfl ?_
    refine Tr.q (QS.pickF rfl hF13 rfl) rfl ?_
    refine Tr.nil (Tr.thenN ?_)
    exact Tr.endX (Sub.cons rfl (Sub.dropN 3 (by kernel_rfl) rfl))
  refine Tr.q (QS.move rfl) rfl ?_
  apply Tr.andP
  · exact (rfl : _ = (4, 60, 64))
  · exact rfl
  · intro hT14; have hT14' := hT14
    try simp only [bs] at hT14'
    refine Tr.gq rfl rfl hT14 (QS.move rfl) rfl ?_
    first | refine Tr.gq rfl rfl hT14 (QS.bytesStr rfl (by assumption) Try.underlying22 Try.underlying5 Try.underlying9) rfl ?_ | refine Tr.gq rfl rfl hT14 (QS.bytesStrRow rfl (by repeat (first | exact List.Mem.head _ | apply List.Mem.tail)) Try.underlying22 Try.underlying5 Try.underlying9) rfl ?_ | refine Tr.gq rfl rfl hT14 (QS.bytesStr rfl (Sl.resl (by assumption) (by simp only [loOf, hiOf]; omega) (by simp only [loOf, hiOf]; omega)) Try.underlying22 Try.underlying5 Try.underlying9) rfl ?_
    refine Tr.gq rfl rfl hT14 (QS.str_eql rfl rfl) rfl ?_
    refine Tr.q (QS.pickT rfl hT14 rfl) rfl ?_
    refine Tr.nil (Tr.thenN ?_)
    exact Tr.endX (Sub.cons rfl (Sub.dropN 4 (by kernel_rfl) rfl))
  · intro hF14
    refine Tr.gskip rfl rfl hF14 rfl ?_
    refine Tr.gskip rfl rfl hF14 rfl ?_
    refine Tr.gskip rfl rfl hF14 rfl ?_
    refine Tr.q (QS.pickF rfl hF14 rfl) rfl ?_
    refine Tr.nil (Tr.thenN ?_)
    exact Tr.endX (Sub.cons rfl (Sub.dropN 4 (by kernel_rfl) rfl))
  refine Tr.q (QS.move rfl) rfl ?_
  apply Tr.andP
  · exact (rfl : _ = (3, 65, 68))
  · exact rfl
  · intro hT15; have hT15' := hT15
    try simp only [bs] at hT15'
    refine Tr.gq rfl rfl hT15 (QS.move rfl) rfl ?_
    refine Tr.gq rfl rfl hT15 (QS.eql rfl rfl) rfl ?_
    refine Tr.q (QS.pickT rfl hT15 rfl) rfl ?_
    refine Tr.nil (Tr.thenN ?_)
    exact Tr.endX (Sub.cons rfl (Sub.dropN 3 (by kernel_rfl) rfl))
  · intro hF15
    refine Tr.gskip rfl rfl hF15 rfl ?_
    refine Tr.gskip rfl rfl hF15 rfl ?_
    refine Tr.q (QS.pickF rfl hF15 rfl) rfl ?_
    refine Tr.nil (Tr.thenN ?_)
    exact Tr.endX (Sub.cons rfl (Sub.dropN 3 (by kernel_rfl) rfl))
  refine Tr.q (QS.move rfl) rfl ?_
  apply Tr.andP
  · exact (rfl : _ = (5, 69, 74))
  · exact rfl
  · intro hT16; have hT16' := hT16
    try simp only [bs] at hT16'
    refine Tr.gq rfl rfl hT16 (QS.lW rfl Try.isAgg27 Try.sizeOf27) rfl ?_
    refine Tr.gdo rfl rfl hT16 ?_
    refine Tr.callRow rfl Try.call17 (fun w hw => reads_any (decP [33, 19] 4096).1 w dec_ok) rfl (fun V17 => ?_)
    refine Tr.gdo rfl rfl hT16 ?_
    refine Tr.litN (E := encInt) [1, 3] (vs := [(0, _), (1, _)]) rfl rfl Try.underlying36 Try.sizeOf3 Try.zeroValue3 (by rfl) (by rfl) rfl (by first | kernel_rfl | rfl) rfl (fun V18 => ?_)
    refine Tr.gq rfl rfl hT16 (QS.call rfl Try.call16 (fun w hw => ints_any (readsP (decP [33, 19] 4096).1) [1, 3] _ _ w (hw.row (.tail _ (.head _))) (hw.row (.head _)))) rfl ?_
    refine Tr.q (QS.pickT rfl hT16 rfl) rfl ?_
    refine Tr.nil (Tr.thenN ?_)
    exact Tr.endX (Sub.cons rfl (Sub.dropN 5 (by kernel_rfl) rfl))
  · intro hF16
    refine Tr.gskip rfl rfl hF16 rfl ?_
    refine Tr.gskip rfl rfl hF16 rfl ?_
    refine Tr.gskip rfl rfl hF16 rfl ?_
    refine Tr.gskip rfl rfl hF16 rfl ?_
    refine Tr.q (QS.pickF rfl hF16 rfl) rfl ?_
    refine Tr.nil (Tr.thenN ?_)
    exact Tr.endX (Sub.cons rfl (Sub.dropN 5 (by kernel_rfl) rfl))
  refine Tr.q (QS.move rfl) rfl ?_
  apply Tr.andP
  · exact (rfl : _ = (5, 75, 80))
  · exact rfl
  · intro hT19; have hT19' := hT19
    try simp only [bs] at hT19'
    refine Tr.gq rfl rfl hT19 (QS.lW rfl Try.isAgg27 Try.sizeOf27) rfl ?_
    refine Tr.gdo rfl rfl hT19 ?_
    refine Tr.callRow rfl Try.call19 (fun w hw => writes_any (decP [33, 19] 4096).1 w dec_ok) rfl (fun V20 => ?_)
    refine Tr.gdo rfl rfl hT19 ?_
    refine Tr.litN (E := encInt) [1, 8, 9, 10, 11] (vs := [(0, _), (1, _), (2, _), (3, _), (4, _)]) rfl rfl Try.underlying36 Try.sizeOf3 Try.zeroValue3 (by rfl) (by rfl) rfl (by first | kernel_rfl | rfl) rfl (fun V21 => ?_)
    refine Tr.gq rfl rfl hT19 (QS.call rfl Try.call16 (fun w hw => ints_any (writesP (decP [33, 19] 4096).1) [1, 8, 9, 10, 11] _ _ w (hw.row (.tail _ (.head _))) (hw.row (.head _)))) rfl ?_
    refine Tr.q (QS.pickT rfl hT19 rfl) rfl ?_
    refine Tr.nil (Tr.thenN ?_)
    exact Tr.endX (Sub.cons rfl (Sub.dropN 5 (by kernel_rfl) rfl))
  · intro hF19
    refine Tr.gskip rfl rfl hF19 rfl ?_
    refine Tr.gskip rfl rfl hF19 rfl ?_
    refine Tr.gskip rfl rfl hF19 rfl ?_
    refine Tr.gskip rfl rfl hF19 rfl ?_
    refine Tr.q (QS.pickF rfl hF19 rfl) rfl ?_
    refine Tr.nil (Tr.thenN ?_)
    exact Tr.endX (Sub.cons rfl (Sub.dropN 5 (by kernel_rfl) rfl))
  refine Tr.q (QS.assign rfl) rfl ?_
  refine Tr.nil ?_
  refine Tr.thenN ?_
  refine Tr.ret ?_
  refine Tr.ret1 Try.results12 rfl (fun w' hw => ?_)
  exact ⟨by rw [ex03_reads, ex03_writes]; refine congrArg (fun b => Ending.returned (Value.bool b)) ?_; decide +kernel, hw.below (Bg.le.refl _)⟩

set_option maxRecDepth 100000 in
set_option maxHeartbeats 2000000 in
theorem decodes_true (b : List UInt8) (V : Value) (addr : UInt32) (w : World) (hV : Sl (hp w) encU8 b V) :
    Calls Try.prog 3 #[V, .int .u32 addr.toNat] w (fun e w' => e = .returned (.bool true) ∧ Ext w w') := by
  refine enter Try.func3 rfl Try.ntmps3 rfl ?_
  refine Tr.seq ?_
  refine Tr.region ?_
  refine Tr.q (QS.assign rfl) rfl ?_
  refine Tr.nil ?_
  refine Tr.thenN ?_
  refine Tr.seq ?_
  refine Tr.seq ?_
  refine Tr.region ?_
  refine Tr.q (QS.move rfl) rfl ?_
  refine Tr.q (QS.call rfl Try.call11 (fun w hw => few_any b V w (hw.slF hV))) rfl ?_
  refine Tr.q (QS.not rfl) rfl ?_
  refine Tr.nil ?_
  refine Tr.thenN ?_
  refine Tr.cond rfl (fun h1 => ?_) (fun h1 => ?_)
  · try simp only [bs] at h1
    refine Tr.seq ?_
    refine Tr.region ?_
    refine Tr.q (QS.call rfl Try.call12 (fun w hw => example03_any w)) rfl ?_
    refine Tr.q (QS.assign rfl) rfl ?_
    refine Tr.nil ?_
    refine Tr.thenN ?_
    refine Tr.ret ?_
    refine Tr.thenR ?_
    refine Tr.ret1 Try.results3 rfl (fun w' hw => ?_)
    exact ⟨rfl, hw.below (Bg.le.refl _)⟩
  · try simp only [bs] at h1
    refine Tr.skip ?_
    refine Tr.thenN ?_
    refine Tr.seq ?_
    refine Tr.region ?_
    refine Tr.q (QS.move rfl) rfl ?_
    refine Tr.q (QS.move rfl) rfl ?_
    refine Tr.q (QS.call rfl Try.call13 (fun w hw => decode_isa b V addr w (hw.slF hV))) rfl ?_
    refine Tr.q (QS.move rfl) rfl ?_
    refine Tr.q (QS.extract rfl rfl) rfl ?_
    refine Tr.q (QS.extract rfl rfl) rfl ?_
    refine Tr.alloc Try.zeroValue27 rfl rfl (fun b2 => ?_)
    refine Tr.storeW rfl rfl Try.sizeOf27 (by repeat (first | exact Put.here _ | apply Put.there)) (by rfl) (by rfl) (by first | exact List.all_eq_true.1 rfl | exact Enc.one _ _ | exact Enc.one encIns _) rfl ?_
    refine Tr.q (QS.assign rfl) rfl ?_
    refine Tr.nil ?_
    refine Tr.thenN ?_
    refine Tr.seq ?_
    refine Tr.region ?_
    refine Tr.q (QS.move rfl) rfl ?_
    refine Tr.q (QS.move rfl) rfl ?_
    refine Tr.q (QS.call rfl Try.call14 (fun w hw => refDecode_any b V addr w (hw.slF hV))) rfl ?_
    refine Tr.q (QS.move rfl) rfl ?_
    refine Tr.q (QS.extract rfl rfl) rfl ?_
    refine Tr.q (QS.extract rfl rfl) rfl ?_
    refine Tr.alloc Try.zeroValue27 rfl rfl (fun b3 => ?_)
    refine Tr.storeW rfl rfl Try.sizeOf27 (by repeat (first | exact Put.here _ | apply Put.there)) (by rfl) (by rfl) (by first | exact List.all_eq_true.1 rfl | exact Enc.one _ _ | exact Enc.one encIns _) rfl ?_
    refine Tr.q (QS.assign rfl) rfl ?_
    refine Tr.nil ?_
    refine Tr.thenN ?_
    refine Tr.seq ?_
    refine Tr.region ?_
    refine Tr.q (QS.lW rfl Try.isAgg27 Try.sizeOf27) rfl ?_
    refine Tr.q (QS.lW rfl Try.isAgg27 Try.sizeOf27) rfl ?_
    refine Tr.q (QS.eqlE rfl rfl insEqEnc Try.underlying27 (HLF.words27 _ Try.underlying27) rfl HLF.held27 HLF.eqg27) rfl ?_
    refine Tr.q (QS.move rfl) rfl ?_
    apply Tr.andP
    · exact (rfl : _ = (4, 28, 32))
    · exact rfl
    · intro hT4; have hT4' := hT4
      try simp only [bs] at hT4'
      refine Tr.gq rfl rfl hT4 (QS.move rfl) rfl ?_
      refine Tr.gq rfl rfl hT4 (QS.move rfl) rfl ?_
      refine Tr.gq rfl rfl hT4 (QS.eql rfl rfl) rfl ?_
      refine Tr.q (QS.pickT rfl hT4 rfl) rfl ?_
      refine Tr.nil (Tr.thenN ?_)
      exact Tr.endX (Sub.cons rfl (Sub.dropN 4 (by kernel_rfl) rfl))
    · intro hF4
      refine Tr.gskip rfl rfl hF4 rfl ?_
      refine Tr.gskip rfl rfl hF4 rfl ?_
      refine Tr.gskip rfl rfl hF4 rfl ?_
      refine Tr.q (QS.pickF rfl hF4 rfl) rfl ?_
      refine Tr.nil (Tr.thenN ?_)
      exact Tr.endX (Sub.cons rfl (Sub.dropN 4 (by kernel_rfl) rfl))
    refine Tr.q (QS.move rfl) rfl ?_
    apply Tr.andP
    · exact (rfl : _ = (2, 33, 35))
    · exact rfl
    · intro hT5; have hT5' := hT5
      try simp only [bs] at hT5'
      refine Tr.gq rfl rfl hT5 (QS.call rfl Try.call12 (fun w hw => example03_any w)) rfl ?_
      refine Tr.q (QS.pickT rfl hT5 rfl) rfl ?_
      refine Tr.nil (Tr.thenN ?_)
      exact Tr.endX (Sub.cons rfl (Sub.dropN 2 (by kernel_rfl) rfl))
    · intro hF5
      refine Tr.gskip rfl rfl hF5 rfl ?_
      refine Tr.q (QS.pickF rfl hF5 rfl) rfl ?_
      refine Tr.nil (Tr.thenN ?_)
      exact Tr.endX (Sub.cons rfl (Sub.dropN 2 (by kernel_rfl) rfl))
    refine Tr.q (QS.assign rfl) rfl ?_
    refine Tr.nil ?_
    refine Tr.thenN ?_
    refine Tr.ret ?_
    refine Tr.ret1 Try.results3 rfl (fun w' hw => ?_)
    exact ⟨by rw [dec_ref]; simp, hw.below (Bg.le.refl _)⟩

end Go.Proofs.Ytohjofdnapbeiaa
