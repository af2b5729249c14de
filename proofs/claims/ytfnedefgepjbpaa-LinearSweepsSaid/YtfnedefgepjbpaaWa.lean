/- The walks of package image and of its reference: what each function returns. -/
import Derived.Test.YtfnedefgepjbpaaF
import Derived.Test.YtfnedefgepjbpaaMa
set_option linter.unusedSimpArgs false
set_option linter.unusedVariables false
namespace Go.Proofs.Ytfnedefgepjbpaa
open Go Go.HL Go.RowKit

set_option maxRecDepth 100000 in
set_option maxHeartbeats 2000000 in
theorem valid_any (width : Int) (w : World) :
    Calls Try.prog 87 #[.int .i64 width] w (fun e w' => e = .returned (.bool (widthOK width)) ∧ Ext w w') := by
  refine enter Try.func87 rfl Try.ntmps87 rfl ?_
  refine Tr.seq ?_
  refine Tr.region ?_
  refine Tr.q (QS.assign rfl) rfl ?_
  refine Tr.nil ?_
  refine Tr.thenN ?_
  refine Tr.seq ?_
  refine Tr.region ?_
  refine Tr.q (QS.move rfl) rfl ?_
  refine Tr.q (QS.eql rfl rfl) rfl ?_
  refine Tr.q (QS.move rfl) rfl ?_
  apply Tr.or (t := 5) (d := 8) 3
  · exact rfl
  · intro hF1; have hF1' := hF1
    try simp only [Bool.and_eq_true, Bool.or_eq_true, Bool.not_eq_true', Bool.not_eq_false', decide_eq_true_eq, decide_eq_false_iff_not, Bool.and_eq_false_iff, Bool.or_eq_false_iff, ne_eq, Decidable.not_not] at hF1'
    refine Tr.gq rfl rfl hF1 (QS.move rfl) rfl ?_
    refine Tr.gq rfl rfl hF1 (QS.eql rfl rfl) rfl ?_
    refine Tr.q (QS.pickF rfl hF1 rfl) rfl ?_
    refine Tr.nil (Tr.thenN ?_)
    first | exact Tr.end (Sub.cons rfl (Sub.dropN 3 (by kernel_rfl) rfl)) rfl rfl | exact Tr.endP (Sub.cons rfl (Sub.dropN 3 (by kernel_rfl) rfl)) rfl (by repeat' (first | exact Pick.nil _ | exact Del.here _ | apply Pick.cons | apply Del.there))
  · intro hT1
    refine Tr.gskip rfl rfl hT1 rfl ?_
    refine Tr.gskip rfl rfl hT1 rfl ?_
    refine Tr.q (QS.pickT rfl hT1 rfl) rfl ?_
    refine Tr.nil (Tr.thenN ?_)
    first | exact Tr.end (Sub.cons rfl (Sub.dropN 3 (by kernel_rfl) rfl)) rfl rfl | exact Tr.endP (Sub.cons rfl (Sub.dropN 3 (by kernel_rfl) rfl)) rfl (by repeat' (first | exact Pick.nil _ | exact Del.here _ | apply Pick.cons | apply Del.there))
  refine Tr.q (QS.move rfl) rfl ?_
  apply Tr.or (t := 9) (d := 12) 3
  · exact rfl
  · intro hF2; have hF2' := hF2
    try simp only [Bool.and_eq_true, Bool.or_eq_true, Bool.not_eq_true', Bool.not_eq_false', decide_eq_true_eq, decide_eq_false_iff_not, Bool.and_eq_false_iff, Bool.or_eq_false_iff, ne_eq, Decidable.not_not] at hF2'
    refine Tr.gq rfl rfl hF2 (QS.move rfl) rfl ?_
    refine Tr.gq rfl rfl hF2 (QS.eql rfl rfl) rfl ?_
    refine Tr.q (QS.pickF rfl hF2 rfl) rfl ?_
    refine Tr.nil (Tr.thenN ?_)
    first | exact Tr.end (Sub.cons rfl (Sub.dropN 3 (by kernel_rfl) rfl)) rfl rfl | exact Tr.endP (Sub.cons rfl (Sub.dropN 3 (by kernel_rfl) rfl)) rfl (by repeat' (first | exact Pick.nil _ | exact Del.here _ | apply Pick.cons | apply Del.there))
  · intro hT2
    refine Tr.gskip rfl rfl hT2 rfl ?_
    refine Tr.gskip rfl rfl hT2 rfl ?_
    refine Tr.q (QS.pickT rfl hT2 rfl) rfl ?_
    refine Tr.nil (Tr.thenN ?_)
    first | exact Tr.end (Sub.cons rfl (Sub.dropN 3 (by kernel_rfl) rfl)) rfl rfl | exact Tr.endP (Sub.cons rfl (Sub.dropN 3 (by kernel_rfl) rfl)) rfl (by repeat' (first | exact Pick.nil _ | exact Del.here _ | apply Pick.cons | apply Del.there))
  refine Tr.q (QS.assign rfl) rfl ?_
  refine Tr.nil ?_
  refine Tr.thenN ?_
  refine Tr.ret ?_
  refine Tr.ret1 Try.results87 rfl (fun w' hw => ?_)
  exact ⟨rfl, hw.below (Bg.le.refl _)⟩

set_option maxRecDepth 100000 in
set_option maxHeartbeats 2000000 in
theorem clone_u8 (l : List UInt8) (V : Value) (w : World) (hV : Sl (hp w) encU8 l V) (hb : l.length ≤ 140737488355328) :
    Calls Try.prog 58 #[V] w (fun e w' => ∃ V', e = .returned V' ∧ Ext w w' ∧ NewRow w w' 5 encU8 l V') := by
  have hV' : Sl (Bg.of w).blk encU8 l V := hV
  refine enter Try.func58 rfl Try.ntmps58 rfl ?_
  refine Tr.seq ?_
  refine Tr.region ?_
  refine Tr.q (QS.assign rfl) rfl ?_
  refine Tr.nil ?_
  refine Tr.thenN ?_
  refine Tr.seq ?_
  refine Tr.seq ?_
  refine Tr.region ?_
  refine Tr.q (QS.move rfl) rfl ?_
  refine Tr.q (QS.eqlNilS rfl (by assumption) Try.underlying54) rfl ?_
  refine Tr.nil ?_
  refine Tr.thenN ?_
  refine Tr.cond rfl (fun h1 => ?_) (fun h1 => ?_)
  · try simp only [Bool.and_eq_true, Bool.or_eq_true, Bool.not_eq_true', Bool.not_eq_false', decide_eq_true_eq, decide_eq_false_iff_not, Bool.and_eq_false_iff, Bool.or_eq_false_iff, ne_eq, Decidable.not_not] at h1
    refine Tr.seq ?_
    refine Tr.region ?_
    refine Tr.q (QS.assign rfl) rfl ?_
    refine Tr.nil ?_
    refine Tr.thenN ?_
    refine Tr.ret ?_
    refine Tr.thenR ?_
    refine Tr.ret1 Try.results58 rfl (fun w' hw => ?_)
    exact ⟨_, rfl, hw.below (Bg.le.refl _), newRow_nil (hV.isNil h1)⟩
  · try simp only [Bool.and_eq_true, Bool.or_eq_true, Bool.not_eq_true', Bool.not_eq_false', decide_eq_true_eq, decide_eq_false_iff_not, Bool.and_eq_false_iff, Bool.or_eq_false_iff, ne_eq, Decidable.not_not] at h1
    refine Tr.skip ?_
    refine Tr.thenN ?_
    refine Tr.seq ?_
    refine Tr.region ?_
    refine Tr.lit0 encU8 Try.underlying54 Try.sizeOf5 rfl (fun V2 => ?_)
    refine Tr.q (QS.move rfl) rfl ?_
    first | refine Tr.append1 rfl rfl (by repeat (first | exact Del.here _ | apply Del.there)) (by repeat (first | exact Del.here _ | apply Del.there)) Try.underlying54 HLF.info5 (by rfl) (by rfl) (by (try simp only [List.length_cons, List.length_nil, List.length_append, List.length_take]); omega) (by unfold maxLen; (try simp only [List.length_cons, List.length_nil, List.length_append, List.length_take]); omega) rfl (fun V3 => ?_) | refine Tr.ownNil _ _ (Tr.append1 rfl rfl (by repeat (first | exact Del.here _ | apply Del.there)) (by repeat (first | exact Del.here _ | apply Del.there)) Try.underlying54 HLF.info5 (by rfl) (by rfl) (by (try simp only [List.length_cons, List.length_nil, List.length_append, List.length_take]); omega) (by unfold maxLen; (try simp only [List.length_cons, List.length_nil, List.length_append, List.length_take]); omega) rfl (fun V3 => ?_)) | refine Tr.appendOf rfl rfl (by repeat (first | exact Del.here _ | apply Del.there)) (fun w hw => hw.slF (by assumption)) Try.underlying54 HLF.info5 (by rfl) (by rfl) (by (try simp only [List.length_cons, List.length_nil, List.length_append, List.length_take]); omega) (by unfold maxLen; (try simp only [List.length_cons, List.length_nil, List.length_append, List.length_take]); omega) rfl (fun V3 => ?_) | refine Tr.ownNil _ _ (Tr.appendOf rfl rfl (by repeat (first | exact Del.here _ | apply Del.there)) (fun w hw => hw.slF (by assumption)) Try.underlying54 HLF.info5 (by rfl) (by rfl) (by (try simp only [List.length_cons, List.length_nil, List.length_append, List.length_take]); omega) (by unfold maxLen; (try simp only [List.length_cons, List.length_nil, List.length_append, List.length_take]); omega) rfl (fun V3 => ?_)) | refine Tr.appendOf rfl rfl (by repeat (first | exact Del.here _ | apply Del.there)) (fun w hw => hw.row (by repeat (first | exact List.Mem.head _ | apply List.Mem.tail))) Try.underlying54 HLF.info5 (by rfl) (by rfl) (by (try simp only [List.length_cons, List.length_nil, List.length_append, List.length_take]); omega) (by unfold maxLen; (try simp only [List.length_cons, List.length_nil, List.length_append, List.length_take]); omega) rfl (fun V3 => ?_)
    refine Tr.q (QS.assign rfl) rfl ?_
    refine Tr.nil ?_
    refine Tr.thenN ?_
    refine Tr.ret ?_
    refine Tr.ret1 Try.results58 rfl (fun w' hw => ?_)
    exact ⟨_, rfl, hw.below (Bg.le.refl _), hw.new (.head _)⟩

set_option maxRecDepth 100000 in
set_option maxHeartbeats 2000000 in
theorem own_u8 (l : List UInt8) (V : Value) (w : World) (hV : Sl (hp w) encU8 l V) (hb : l.length ≤ 140737488355328) :
    Calls Try.prog 86 #[V] w (fun e w' => ∃ V', e = .returned V' ∧ Ext w w' ∧ NewRow w w' 5 encU8 l V') := by
  refine enter Try.func86 rfl Try.ntmps86 rfl ?_
  refine Tr.seq ?_
  refine Tr.region ?_
  refine Tr.q (QS.assign rfl) rfl ?_
  refine Tr.nil ?_
  refine Tr.thenN ?_
  refine Tr.seq ?_
  refine Tr.region ?_
  refine Tr.q (QS.move rfl) rfl ?_
  refine Tr.callRow rfl Try.call58 (fun w hw => clone_u8 l V w (hw.slF hV) hb) rfl (fun V1 => ?_)
  refine Tr.q (QS.assign rfl) rfl ?_
  refine Tr.nil ?_
  refine Tr.thenN ?_
  refine Tr.seq ?_
  refine Tr.region ?_
  refine Tr.q (QS.move rfl) rfl ?_
  refine Tr.q (QS.move rfl) rfl ?_
  first | refine Tr.q (QS.len rfl (by assumption) Try.underlying54) rfl ?_ | refine Tr.q (QS.lenRow rfl (by repeat (first | exact List.Mem.head _ | apply List.Mem.tail)) Try.underlying54) rfl ?_ | refine Tr.q (QS.lenNil rfl Try.underlying54) rfl ?_
  refine Tr.q (QS.move rfl) rfl ?_
  first | refine Tr.q (QS.len rfl (by assumption) Try.underlying54) rfl ?_ | refine Tr.q (QS.lenRow rfl (by repeat (first | exact List.Mem.head _ | apply List.Mem.tail)) Try.underlying54) rfl ?_ | refine Tr.q (QS.lenNil rfl Try.underlying54) rfl ?_
  refine Tr.sliceFull rfl (by repeat (first | exact Del.here _ | apply Del.there)) rfl rfl Try.underlying54 Try.sizeOf5 rfl (fun V2 => ?_)
  refine Tr.q (QS.assign rfl) rfl ?_
  refine Tr.nil ?_
  refine Tr.thenN ?_
  refine Tr.ret ?_
  refine Tr.ret1 Try.results86 rfl (fun w' hw => ?_)
  exact ⟨_, rfl, hw.below (Bg.le.refl _), hw.new (.head _)⟩

set_option maxRecDepth 100000 in
set_option maxHeartbeats 2000000 in
theorem put_any (b : List UInt8) (V : Value) (n : UInt32) (width : Int) (w : World) (hV : Sl (hp w) encU8 b V) (hb : b.length ≤ 140737488355000) :
    Calls Try.prog 56 #[V, .int .u32 n.toNat, .int .i64 width] w (fun e w' => ∃ V', e = .returned V' ∧ Ext w w' ∧ NewRow w w' 5 encU8 (putP b n width) V') := by
  refine enter Try.func56 rfl Try.ntmps56 rfl ?_
  refine Tr.seq ?_
  refine Tr.region ?_
  refine Tr.q (QS.assign rfl) rfl ?_
  refine Tr.nil ?_
  refine Tr.thenN ?_
  refine Tr.seq ?_
  refine Tr.region ?_
  refine Tr.q (QS.move rfl) rfl ?_
  refine Tr.callRow rfl Try.call86 (fun w hw => own_u8 b V w (hw.slF hV) (by omega)) rfl (fun V1 => ?_)
  refine Tr.q (QS.assign rfl) rfl ?_
  refine Tr.nil ?_
  refine Tr.thenN ?_
  refine Tr.seq ?_
  refine Tr.seq ?_
  refine Tr.region ?_
  refine Tr.q (QS.move rfl) rfl ?_
  refine Tr.q (QS.call rfl Try.call87 (fun w hw => valid_any width w)) rfl ?_
  refine Tr.q (QS.not rfl) rfl ?_
  refine Tr.nil ?_
  refine Tr.thenN ?_
  refine Tr.cond rfl (fun h2 => ?_) (fun h2 => ?_)
  · try simp only [Bool.and_eq_true, Bool.or_eq_true, Bool.not_eq_true', Bool.not_eq_false', decide_eq_true_eq, decide_eq_false_iff_not, Bool.and_eq_false_iff, Bool.or_eq_false_iff, ne_eq, Decidable.not_not] at h2
    refine Tr.seq ?_
    refine Tr.region ?_
    refine Tr.q (QS.move rfl) rfl ?_
    refine Tr.q (QS.assign rfl) rfl ?_
    refine Tr.nil ?_
    refine Tr.thenN ?_
    refine Tr.ret ?_
    refine Tr.thenR ?_
    refine Tr.ret1 Try.results56 rfl (fun w' hw => ?_)
    exact ⟨_, rfl, hw.below (Bg.le.refl _), by simp only [putP, h2, Bool.false_eq_true, if_false]; exact hw.new (.head _)⟩
  · try simp only [Bool.and_eq_true, Bool.or_eq_true, Bool.not_eq_true', Bool.not_eq_false', decide_eq_true_eq, decide_eq_false_iff_not, Bool.and_eq_false_iff, Bool.or_eq_false_iff, ne_eq, Decidable.not_not] at h2
    refine Tr.skip ?_
    refine Tr.thenN ?_
    refine Tr.seq ?_
    refine Tr.seq ?_
    refine Tr.region ?_
    refine Tr.q (QS.move rfl) rfl ?_
    refine Tr.q (QS.move rfl) rfl ?_
    refine Tr.nil ?_
    refine Tr.thenN ?_
    refine Tr.block ?_
    have hwd := (widthOK_iff width).1 h2
    refine Tr.loop (ι := Nat × Value × List UInt8) (fun ⟨k, V', xs⟩ => (k : Int) ≤ width ∧ xs.length = b.length + k ∧ putF n xs k (width - k).toNat = putP b n width ∧ width ≤ 4) (fun _ => _) (fun ⟨k, V', xs⟩ => [rowE V' 5 encU8 xs]) (fun ⟨k, V', xs⟩ => [(16, .int .i64 (k : Nat)), (7, V')]) (fun ⟨k, V', xs⟩ => (width - k).toNat) (0, V1, b) ⟨by omega, by simp, by simp [putP, h2], by omega⟩ (.cons (by first | rfl | exact lookI rfl (by omega) | exact lookI rfl (by simp) | exact lookB rfl (by simp)) (.cons (by first | rfl | exact lookI rfl (by omega) | exact lookI rfl (by simp) | exact lookB rfl (by simp)) Front.nil)) (by repeat' (first | exact Pick.nil _ | exact Del.here _ | apply Pick.cons | apply Del.there)) rfl (fun i hi m hm => ?_)
    obtain ⟨k, V', xs⟩ := i
    replace hi : (k : Int) ≤ width ∧ xs.length = b.length + k ∧ putF n xs k (width - k).toNat = putP b n width ∧ width ≤ 4 := hi
    replace hm : m = (width - k).toNat := hm
    change Tr _ _ [rowE V' 5 encU8 xs] ([(16, .int .i64 (k : Nat)), (7, V')] ++ _) _
    obtain ⟨hk1, hk2, hk3, hk4⟩ := hi
    refine Tr.seq ?_
    refine Tr.region ?_
    refine Tr.q (QS.lss rfl rfl) rfl ?_
    refine Tr.nil ?_
    refine Tr.thenN ?_
    refine Tr.seq ?_
    refine Tr.cond rfl (fun h3 => ?_) (fun h3 => ?_)
    · try simp only [Bool.and_eq_true, Bool.or_eq_true, Bool.not_eq_true', Bool.not_eq_false', decide_eq_true_eq, decide_eq_false_iff_not, Bool.and_eq_false_iff, Bool.or_eq_false_iff, ne_eq, Decidable.not_not] at h3
      refine Tr.skip ?_
      refine Tr.thenN ?_
      refine Tr.seq ?_
      refine Tr.block ?_
      refine Tr.seq ?_
      refine Tr.region ?_
      refine Tr.q (QS.move rfl) rfl ?_
      refine Tr.q (QS.assign rfl) rfl ?_
      refine Tr.nil ?_
      refine Tr.thenN ?_
      refine Tr.region ?_
      refine Tr.q (QS.move rfl) rfl ?_
      refine Tr.q (QS.move rfl) rfl ?_
      refine Tr.q (QS.move rfl) rfl ?_
      first | refine Tr.q (QS.mulI rfl rfl (by omega)) rfl ?_ | refine Tr.q (QS.mul rfl rfl) rfl ?_
      refine Tr.q (QS.shr32 rfl rfl (by omega)) rfl ?_
      refine Tr.q (QS.cvt32to8 rfl Try.underlying23 Try.underlying5) rfl ?_
      refine Tr.lit1 (E := encU8) _ rfl rfl Try.underlying54 Try.sizeOf5 Try.zeroValue5 (by rfl) (by rfl) rfl (fun V4 => ?_)
      first | refine Tr.append1 rfl rfl (by repeat (first | exact Del.here _ | apply Del.there)) (by repeat (first | exact Del.here _ | apply Del.there)) Try.underlying54 HLF.info5 (by rfl) (by rfl) (by (try simp only [List.length_cons, List.length_nil, List.length_append, List.length_take]); omega) (by unfold maxLen; (try simp only [List.length_cons, List.length_nil, List.length_append, List.length_take]); omega) rfl (fun V5 => ?_) | refine Tr.ownNil _ _ (Tr.append1 rfl rfl (by repeat (first | exact Del.here _ | apply Del.there)) (by repeat (first | exact Del.here _ | apply Del.there)) Try.underlying54 HLF.info5 (by rfl) (by rfl) (by (try simp only [List.length_cons, List.length_nil, List.length_append, List.length_take]); omega) (by unfold maxLen; (try simp only [List.length_cons, List.length_nil, List.length_append, List.length_take]); omega) rfl (fun V5 => ?_)) | refine Tr.appendOf rfl rfl (by repeat (first | exact Del.here _ | apply Del.there)) (fun w hw => hw.slF (by assumption)) Try.underlying54 HLF.info5 (by rfl) (by rfl) (by (try simp only [List.length_cons, List.length_nil, List.length_append, List.length_take]); omega) (by unfold maxLen; (try simp only [List.length_cons, List.length_nil, List.length_append, List.length_take]); omega) rfl (fun V5 => ?_) | refine Tr.ownNil _ _ (Tr.appendOf rfl rfl (by repeat (first | exact Del.here _ | apply Del.there)) (fun w hw => hw.slF (by assumption)) Try.underlying54 HLF.info5 (by rfl) (by rfl) (by (try simp only [List.length_cons, List.length_nil, List.length_append, List.length_take]); omega) (by unfold maxLen; (try simp only [List.length_cons, List.length_nil, List.length_append, List.length_take]); omega) rfl (fun V5 => ?_)) | refine Tr.appendOf rfl rfl (by repeat (first | exact Del.here _ | apply Del.there)) (fun w hw => hw.row (by repeat (first | exact List.Mem.head _ | apply List.Mem.tail))) Try.underlying54 HLF.info5 (by rfl) (by rfl) (by (try simp only [List.length_cons, List.length_nil, List.length_append, List.length_take]); omega) (by unfold maxLen; (try simp only [List.length_cons, List.length_nil, List.length_append, List.length_take]); omega) rfl (fun V5 => ?_)
      refine Tr.q (QS.assign rfl) rfl ?_
      refine Tr.nil ?_
      refine Tr.inN ?_
      refine Tr.thenN ?_
      refine Tr.region ?_
      first | refine Tr.q (QS.addI rfl rfl (by omega)) rfl ?_ | refine Tr.q (QS.add rfl rfl) rfl ?_
      refine Tr.q (QS.move rfl) rfl ?_
      refine Tr.nil ?_
      refine Tr.thenN ?_
      apply Tr.again (k + 1, _, _)
      · exact rfl
      · exact (.cons (by first | rfl | exact lookI rfl (by omega) | exact lookI rfl (by simp) | exact lookB rfl (by simp)) (.cons (by first | rfl | exact lookI rfl (by omega) | exact lookI rfl (by simp) | exact lookB rfl (by simp)) Front.nil))
      · exact SubX.dropN 16 (by kernel_rfl) rfl
      · exact (by repeat' (first | exact Pick.nil _ | exact Del.here _ | apply Pick.cons | apply Del.there))
      · exact ⟨by omega, by simp; omega, by rw [← hk3, show (width - (k : Int)).toNat = (width - ((k + 1 : Nat) : Int)).toNat + 1 by omega]; rfl, hk4⟩
      · exact (by (try dsimp only); omega)
    · try simp only [Bool.and_eq_true, Bool.or_eq_true, Bool.not_eq_true', Bool.not_eq_false', decide_eq_true_eq, decide_eq_false_iff_not, Bool.and_eq_false_iff, Bool.or_eq_false_iff, ne_eq, Decidable.not_not] at h3
      refine Tr.exit ?_
      refine Tr.thenE ?_
      refine Tr.thenE ?_
      refine Tr.inHit ?_
      refine Tr.thenN ?_
      refine Tr.seq ?_
      refine Tr.region ?_
      refine Tr.q (QS.move rfl) rfl ?_
      refine Tr.q (QS.assign rfl) rfl ?_
      refine Tr.nil ?_
      refine Tr.thenN ?_
      refine Tr.ret ?_
      refine Tr.ret1 Try.results56 rfl (fun w' hw => ?_)
      exact ⟨_, rfl, hw.below (Bg.le.refl _), by rw [← hk3, show (width - (k : Int)).toNat = 0 by omega]; exact hw.new (.head _)⟩

set_option maxRecDepth 100000 in
set_option maxHeartbeats 2000000 in
theorem get_any (b : List UInt8) (V : Value) (at_ width : Int) (w : World) (hV : Sl (hp w) encU8 b V) (ha : -9223372036854775808 ≤ at_ ∧ at_ ≤ 9223372036854775807) :
    Calls Try.prog 62 #[V, .int .i64 at_, .int .i64 width] w (fun e w' => e = .returned (.tuple #[.int .u32 (getP b at_ width).1.toNat, .int .i64 (getP b at_ width).2]) ∧ Ext w w') := by
  have hV' : Sl (Bg.of w).blk encU8 b V := hV
  have hlen := hV.len_le
  refine enter Try.func62 rfl Try.ntmps62 rfl ?_
  refine Tr.seq ?_
  refine Tr.region ?_
  refine Tr.q (QS.assign rfl) rfl ?_
  refine Tr.q (QS.assign rfl) rfl ?_
  refine Tr.nil ?_
  refine Tr.thenN ?_
  refine Tr.seq ?_
  refine Tr.seq ?_
  refine Tr.region ?_
  refine Tr.q (QS.move rfl) rfl ?_
  refine Tr.q (QS.call rfl Try.call87 (fun w hw => valid_any width w)) rfl ?_
  refine Tr.q (QS.not rfl) rfl ?_
  refine Tr.nil ?_
  refine Tr.thenN ?_
  refine Tr.cond rfl (fun h1 => ?_) (fun h1 => ?_)
  · try simp only [Bool.and_eq_true, Bool.or_eq_true, Bool.not_eq_true', Bool.not_eq_false', decide_eq_true_eq, decide_eq_false_iff_not, Bool.and_eq_false_iff, Bool.or_eq_false_iff, ne_eq, Decidable.not_not] at h1
    refine Tr.seq ?_
    refine Tr.region ?_
    refine Tr.q (QS.assign rfl) rfl ?_
    refine Tr.q (QS.assign rfl) rfl ?_
    refine Tr.nil ?_
    refine Tr.thenN ?_
    refine Tr.ret ?_
    refine Tr.thenR ?_
    refine Tr.ret2 Try.results62 rfl rfl (fun w' hw => ?_)
    exact ⟨by rw [getP_arg h1]; rfl, hw.below (Bg.le.refl _)⟩
  · try simp only [Bool.and_eq_true, Bool.or_eq_true, Bool.not_eq_true', Bool.not_eq_false', decide_eq_true_eq, decide_eq_false_iff_not, Bool.and_eq_false_iff, Bool.or_eq_false_iff, ne_eq, Decidable.not_not] at h1
    refine Tr.skip ?_
    refine Tr.thenN ?_
    refine Tr.seq ?_
    refine Tr.seq ?_
    have hwd := (widthOK_iff width).1 h1
    refine Tr.region ?_
    refine Tr.q (QS.move rfl) rfl ?_
    refine Tr.q (QS.lss rfl rfl) rfl ?_
    refine Tr.q (QS.move rfl) rfl ?_
    apply Tr.or (t := 15) (d := 22) 7
    · exact rfl
    · intro hF2; have hF2' := hF2
      try simp only [Bool.and_eq_true, Bool.or_eq_true, Bool.not_eq_true', Bool.not_eq_false', decide_eq_true_eq, decide_eq_false_iff_not, Bool.and_eq_false_iff, Bool.or_eq_false_iff, ne_eq, Decidable.not_not] at hF2'
      refine Tr.gq rfl rfl hF2 (QS.move rfl) rfl ?_
      refine Tr.gq rfl rfl hF2 (QS.move rfl) rfl ?_
      first | refine Tr.gq rfl rfl hF2 (QS.len rfl (by assumption) Try.underlying54) rfl ?_ | refine Tr.gq rfl rfl hF2 (QS.lenRow rfl (by repeat (first | exact List.Mem.head _ | apply List.Mem.tail)) Try.underlying54) rfl ?_ | refine Tr.gq rfl rfl hF2 (QS.lenNil rfl Try.underlying54) rfl ?_
      refine Tr.gq rfl rfl hF2 (QS.move rfl) rfl ?_
      first | refine Tr.gq rfl rfl hF2 (QS.subI rfl rfl (by omega)) rfl ?_ | refine Tr.gq rfl rfl hF2 (QS.sub rfl rfl) rfl ?_
      refine Tr.gq rfl rfl hF2 (QS.gtr rfl rfl) rfl ?_
      refine Tr.q (QS.pickF rfl hF2 rfl) rfl ?_
      refine Tr.nil (Tr.thenN ?_)
      first | exact Tr.end (Sub.cons rfl (Sub.dropN 7 (by kernel_rfl) rfl)) rfl rfl | exact Tr.endP (Sub.cons rfl (Sub.dropN 7 (by kernel_rfl) rfl)) rfl (by repeat' (first | exact Pick.nil _ | exact Del.here _ | apply Pick.cons | apply Del.there))
    · intro hT2
      refine Tr.gskip rfl rfl hT2 rfl ?_
      refine Tr.gskip rfl rfl hT2 rfl ?_
      refine Tr.gskip rfl rfl hT2 rfl ?_
      refine Tr.gskip rfl rfl hT2 rfl ?_
      refine Tr.gskip rfl rfl hT2 rfl ?_
      refine Tr.gskip rfl rfl hT2 rfl ?_
      refine Tr.q (QS.pickT rfl hT2 rfl) rfl ?_
      refine Tr.nil (Tr.thenN ?_)
      first | exact Tr.end (Sub.cons rfl (Sub.dropN 7 (by kernel_rfl) rfl)) rfl rfl | exact Tr.endP (Sub.cons rfl (Sub.dropN 7 (by kernel_rfl) rfl)) rfl (by repeat' (first | exact Pick.nil _ | exact Del.here _ | apply Pick.cons | apply Del.there))
    refine Tr.nil ?_
    refine Tr.thenN ?_
    refine Tr.cond rfl (fun h3 => ?_) (fun h3 => ?_)
    · try simp only [Bool.and_eq_true, Bool.or_eq_true, Bool.not_eq_true', Bool.not_eq_false', decide_eq_true_eq, decide_eq_false_iff_not, Bool.and_eq_false_iff, Bool.or_eq_false_iff, ne_eq, Decidable.not_not] at h3
      refine Tr.seq ?_
      refine Tr.region ?_
      refine Tr.q (QS.assign rfl) rfl ?_
      refine Tr.q (QS.assign rfl) rfl ?_
      refine Tr.nil ?_
      refine Tr.thenN ?_
      refine Tr.ret ?_
      refine Tr.thenR ?_
      refine Tr.ret2 Try.results62 rfl rfl (fun w' hw => ?_)
      exact ⟨by rw [getP_short h1 h3]; rfl, hw.below (Bg.le.refl _)⟩
    · try simp only [Bool.and_eq_true, Bool.or_eq_true, Bool.not_eq_true', Bool.not_eq_false', decide_eq_true_eq, decide_eq_false_iff_not, Bool.and_eq_false_iff, Bool.or_eq_false_iff, ne_eq, Decidable.not_not] at h3
      refine Tr.skip ?_
      refine Tr.thenN ?_
      refine Tr.seq ?_
      refine Tr.region ?_
      refine Tr.q (QS.assign rfl) rfl ?_
      refine Tr.nil ?_
      refine Tr.thenN ?_
      refine Tr.seq ?_
      refine Tr.seq ?_
      refine Tr.region ?_
      refine Tr.q (QS.move rfl) rfl ?_
      first | refine Tr.q (QS.subI rfl rfl (by omega)) rfl ?_ | refine Tr.q (QS.sub rfl rfl) rfl ?_
      refine Tr.q (QS.assign rfl) rfl ?_
      refine Tr.nil ?_
      refine Tr.thenN ?_
      refine Tr.block ?_
      refine Tr.loop (ι := Nat × UInt32) (fun ⟨k, acc⟩ => (k : Int) ≤ width ∧ getF b at_ acc k = (getP b at_ width).1) (fun _ => _) (fun ⟨k, acc⟩ => []) (fun ⟨k, acc⟩ => [(9, .int .i64 ((k : Int) - 1)), (8, .int .u32 acc.toNat)]) (fun ⟨k, acc⟩ => k) (width.toNat, 0) ⟨by omega, by rw [getP_ok h1 (by omega)]⟩ (.cons (by first | rfl | exact lookI rfl (by omega) | exact lookI rfl (by simp) | exact lookB rfl (by simp)) (.cons (by first | rfl | exact lookI rfl (by omega) | exact lookI rfl (by simp) | exact lookB rfl (by simp)) Front.nil)) (by repeat' (first | exact Pick.nil _ | exact Del.here _ | apply Pick.cons | apply Del.there)) rfl (fun i hi m hm => ?_)
      obtain ⟨k, acc⟩ := i
      replace hi : (k : Int) ≤ width ∧ getF b at_ acc k = (getP b at_ width).1 := hi
      replace hm : m = k := hm
      change Tr _ _ [] ([(9, .int .i64 ((k : Int) - 1)), (8, .int .u32 acc.toNat)] ++ _) _
      obtain ⟨hk1, hk3⟩ := hi
      refine Tr.seq ?_
      refine Tr.seq ?_
      refine Tr.region ?_
      refine Tr.q (QS.move rfl) rfl ?_
      refine Tr.q (QS.geq rfl rfl) rfl ?_
      refine Tr.nil ?_
      refine Tr.thenN ?_
      refine Tr.cond rfl (fun h4 => ?_) (fun h4 => ?_)
      · try simp only [Bool.and_eq_true, Bool.or_eq_true, Bool.not_eq_true', Bool.not_eq_false', decide_eq_true_eq, decide_eq_false_iff_not, Bool.and_eq_false_iff, Bool.or_eq_false_iff, ne_eq, Decidable.not_not] at h4
        refine Tr.skip ?_
        refine Tr.thenN ?_
        refine Tr.seq ?_
        refine Tr.block ?_
        refine Tr.region ?_
        refine Tr.q (QS.move rfl) rfl ?_
        refine Tr.q (QS.shl32 rfl rfl (by omega)) rfl ?_
        refine Tr.q (QS.move rfl) rfl ?_
        refine Tr.q (QS.move rfl) rfl ?_
        refine Tr.q (QS.move rfl) rfl ?_
        first | refine Tr.q (QS.addI rfl rfl (by omega)) rfl ?_ | refine Tr.q (QS.add rfl rfl) rfl ?_
        first | refine Tr.q (QS.idxN rfl rfl (by assumption) Try.underlying54 Try.sizeOf5 (by rfl) (by omega)) rfl ?_ | refine Tr.q (QS.idxRowN rfl rfl (by repeat (first | exact List.Mem.head _ | apply List.Mem.tail)) Try.underlying54 Try.sizeOf5 (by rfl) (by omega)) rfl ?_ | refine Tr.q (QS.idx rfl rfl (by assumption) Try.underlying54 Try.sizeOf5 (by rfl) (by omega)) rfl ?_ | refine Tr.q (QS.idxRow rfl rfl (by repeat (first | exact List.Mem.head _ | apply List.Mem.tail)) Try.underlying54 Try.sizeOf5 (by rfl) (by omega)) rfl ?_
        first | refine Tr.q (QS.loadV rfl (by repeat (first | exact List.Mem.head _ | apply List.Mem.tail)) Try.isAgg5 (by rfl)) rfl ?_ | refine Tr.q (QS.loadC rfl (by assumption) Try.isAgg5) rfl ?_ | refine Tr.q (QS.loadCF rfl (by assumption) Try.isAgg5 (by rfl)) rfl ?_ | refine Tr.q (QS.el1 rfl (by assumption) Try.isAgg5 (by omega) (by rfl)) rfl ?_ | refine Tr.q (QS.elF rfl (by assumption) Try.isAgg5 (by omega) (by rfl)) rfl ?_ | refine Tr.q (QS.elR1 rfl (by repeat (first | exact List.Mem.head _ | apply List.Mem.tail)) Try.isAgg5 (by omega) (by rfl)) rfl ?_ | refine Tr.q (QS.elRF rfl (by repeat (first | exact List.Mem.head _ | apply List.Mem.tail)) Try.isAgg5 (by omega) (by rfl)) rfl ?_
        refine Tr.q (QS.cvt8to32 rfl Try.underlying5 Try.underlying23) rfl ?_
        refine Tr.q (QS.or32 rfl rfl) rfl ?_
        refine Tr.q (QS.assign rfl) rfl ?_
        refine Tr.nil ?_
        refine Tr.inN ?_
        refine Tr.thenN ?_
        refine Tr.region ?_
        refine Tr.q (QS.move rfl) rfl ?_
        first | refine Tr.q (QS.subI rfl rfl (by omega)) rfl ?_ | refine Tr.q (QS.sub rfl rfl) rfl ?_
        refine Tr.q (QS.assign rfl) rfl ?_
        refine Tr.nil ?_
        refine Tr.thenN ?_
        apply Tr.again (k - 1, _)
        · exact rfl
        · exact (.cons (by first | rfl | exact lookI rfl (by omega) | exact lookI rfl (by simp) | exact lookB rfl (by simp)) (.cons (by first | rfl | exact lookI rfl (by omega) | exact lookI rfl (by simp) | exact lookB rfl (by simp)) Front.nil))
        · exact SubX.dropN 18 (by kernel_rfl) rfl
        · exact (by repeat' (first | exact Pick.nil _ | exact Del.here _ | apply Pick.cons | apply Del.there))
        · exact ⟨by omega, by rw [← hk3]; obtain ⟨q, rfl⟩ : ∃ q, k = q + 1 := ⟨k - 1, by omega⟩; simp only [getF, Nat.add_sub_cancel]; congr 4; omega⟩
        · exact (by (try dsimp only); omega)
      · try simp only [Bool.and_eq_true, Bool.or_eq_true, Bool.not_eq_true', Bool.not_eq_false', decide_eq_true_eq, decide_eq_false_iff_not, Bool.and_eq_false_iff, Bool.or_eq_false_iff, ne_eq, Decidable.not_not] at h4
        refine Tr.exit ?_
        refine Tr.thenE ?_
        refine Tr.thenE ?_
        refine Tr.inHit ?_
        refine Tr.thenN ?_
        refine Tr.seq ?_
        refine Tr.region ?_
        refine Tr.q (QS.move rfl) rfl ?_
        refine Tr.q (QS.assign rfl) rfl ?_
        refine Tr.q (QS.assign rfl) rfl ?_
        refine Tr.nil ?_
        refine Tr.thenN ?_
        refine Tr.ret ?_
        refine Tr.ret2 Try.results62 rfl rfl (fun w' hw => ?_)
        exact ⟨by rw [← hk3, getP_ok h1 (by omega)]; obtain rfl : k = 0 := (by omega); rfl, hw.below (Bg.le.refl _)⟩

set_option maxRecDepth 100000 in
set_option maxHeartbeats 2000000 in
theorem indexFunc_rng (l : List Rng) (V : Value) (g : FuncId) (cb : List Value) (w : World) (hV : Sl (hp w) encRng l V) (eg : ∀ args w, (callFunc g args).run Try.prog w = .ok (.enter g args) w) (p : Rng → Bool) (hp : ∀ x, x ∈ l → ∀ w', Ext w w' → Calls Try.prog g ([Value.agg (encRng.enc x).toArray] ++ cb).toArray w' fun e w'' => e = .returned (.bool (p x)) ∧ Ext w' w'') :
    Calls Try.prog 74 #[V, .func (.func g) #[] cb.toArray] w (fun e w' => e = .returned (.int .i64 (idxP p 0 l)) ∧ Ext w w') := by
  have hV' : Sl (Bg.of w).blk encRng l V := hV
  have hlen := hV.len_le
  refine enter Try.func74 rfl Try.ntmps74 rfl ?_
  refine Tr.seq ?_
  refine Tr.region ?_
  refine Tr.q (QS.assign rfl) rfl ?_
  refine Tr.nil ?_
  refine Tr.thenN ?_
  refine Tr.seq ?_
  refine Tr.seq ?_
  refine Tr.region ?_
  refine Tr.q (QS.move rfl) rfl ?_
  first | refine Tr.q (QS.len rfl (by assumption) Try.underlying27) rfl ?_ | refine Tr.q (QS.lenRow rfl (by repeat (first | exact List.Mem.head _ | apply List.Mem.tail)) Try.underlying27) rfl ?_ | refine Tr.q (QS.lenNil rfl Try.underlying27) rfl ?_
  refine Tr.q (QS.move rfl) rfl ?_
  refine Tr.nil ?_
  refine Tr.thenN ?_
  refine Tr.block ?_
  refine Tr.loop (ι := Nat) (fun k => k ≤ l.length ∧ idxP p k (l.drop k) = idxP p 0 l) (fun _ => _) (fun k => []) (fun k => [(8, .int .i64 (k : Nat))]) (fun k => l.length - k) 0 ⟨Nat.zero_le _, rfl⟩ (.cons (by first | rfl | exact lookI rfl (by omega) | exact lookI rfl (by simp) | exact lookB rfl (by simp)) Front.nil) (by repeat' (first | exact Pick.nil _ | exact Del.here _ | apply Pick.cons | apply Del.there)) rfl (fun k hi m hm => ?_)
  replace hi : k ≤ l.length ∧ idxP p k (l.drop k) = idxP p 0 l := hi
  replace hm : m = l.length - k := hm
  change Tr _ _ [] ([(8, .int .i64 (k : Nat))] ++ _) _
  obtain ⟨hk1, hk2⟩ := hi
  refine Tr.seq ?_
  refine Tr.region ?_
  refine Tr.q (QS.lss rfl rfl) rfl ?_
  refine Tr.nil ?_
  refine Tr.thenN ?_
  refine Tr.seq ?_
  refine Tr.cond rfl (fun h1 => ?_) (fun h1 => ?_)
  · try simp only [Bool.and_eq_true, Bool.or_eq_true, Bool.not_eq_true', Bool.not_eq_false', decide_eq_true_eq, decide_eq_false_iff_not, Bool.and_eq_false_iff, Bool.or_eq_false_iff, ne_eq, Decidable.not_not] at h1
    refine Tr.skip ?_
    refine Tr.thenN ?_
    refine Tr.seq ?_
    refine Tr.block ?_
    refine Tr.seq ?_
    refine Tr.region ?_
    refine Tr.q (QS.move rfl) rfl ?_
    refine Tr.q (QS.assign rfl) rfl ?_
    refine Tr.nil ?_
    refine Tr.thenN ?_
    refine Tr.seq ?_
    refine Tr.region ?_
    refine Tr.q (QS.move rfl) rfl ?_
    refine Tr.q (QS.move rfl) rfl ?_
    refine Tr.q (QS.move rfl) rfl ?_
    first | refine Tr.q (QS.idxN rfl rfl (by assumption) Try.underlying27 Try.sizeOf61 (by rfl) (by omega)) rfl ?_ | refine Tr.q (QS.idxRowN rfl rfl (by repeat (first | exact List.Mem.head _ | apply List.Mem.tail)) Try.underlying27 Try.sizeOf61 (by rfl) (by omega)) rfl ?_ | refine Tr.q (QS.idx rfl rfl (by assumption) Try.underlying27 Try.sizeOf61 (by rfl) (by omega)) rfl ?_ | refine Tr.q (QS.idxRow rfl rfl (by repeat (first | exact List.Mem.head _ | apply List.Mem.tail)) Try.underlying27 Try.sizeOf61 (by rfl) (by omega)) rfl ?_
    first | refine Tr.q (QS.loadCA rfl (by assumption) Try.isAgg61 Try.sizeOf61 (by rfl)) rfl ?_ | refine Tr.q (QS.loadVW rfl (by repeat (first | exact List.Mem.head _ | apply List.Mem.tail)) Try.isAgg61 Try.sizeOf61 (by rfl)) rfl ?_ | refine Tr.q (QS.elA rfl (by assumption) Try.isAgg61 Try.sizeOf61 (by rfl) (by omega)) rfl ?_ | refine Tr.q (QS.elRA rfl (by repeat (first | exact List.Mem.head _ | apply List.Mem.tail)) Try.isAgg61 Try.sizeOf61 (by rfl) (by omega)) rfl ?_
    refine Tr.q (QS.callV rfl rfl eg (fun w hw => hp _ (mem_getD (by omega)) w (hw.below (Bg.le.refl _)))) rfl ?_
    refine Tr.nil ?_
    refine Tr.thenN ?_
    refine Tr.cond rfl (fun h2 => ?_) (fun h2 => ?_)
    · try simp only [Bool.and_eq_true, Bool.or_eq_true, Bool.not_eq_true', Bool.not_eq_false', decide_eq_true_eq, decide_eq_false_iff_not, Bool.and_eq_false_iff, Bool.or_eq_false_iff, ne_eq, Decidable.not_not] at h2
      refine Tr.seq ?_
      refine Tr.region ?_
      refine Tr.q (QS.move rfl) rfl ?_
      refine Tr.q (QS.assign rfl) rfl ?_
      refine Tr.nil ?_
      refine Tr.thenN ?_
      refine Tr.ret ?_
      refine Tr.inR ?_
      refine Tr.thenR ?_
      refine Tr.thenR ?_
      refine Tr.inR ?_
      refine Tr.thenR ?_
      refine Tr.ret1 Try.results74 rfl (fun w' hw => ?_)
      exact ⟨by rw [← hk2, drop_cons (k := k) (by omega), idxP, if_pos (by assumption)], hw.below (Bg.le.refl _)⟩
    · try simp only [Bool.and_eq_true, Bool.or_eq_true, Bool.not_eq_true', Bool.not_eq_false', decide_eq_true_eq, decide_eq_false_iff_not, Bool.and_eq_false_iff, Bool.or_eq_false_iff, ne_eq, Decidable.not_not] at h2
      refine Tr.skip ?_
      refine Tr.inN ?_
      refine Tr.thenN ?_
      refine Tr.region ?_
      first | refine Tr.q (QS.addI rfl rfl (by omega)) rfl ?_ | refine Tr.q (QS.add rfl rfl) rfl ?_
      refine Tr.q (QS.move rfl) rfl ?_
      refine Tr.nil ?_
      refine Tr.thenN ?_
      apply Tr.again (k + 1)
      · exact rfl
      · exact (.cons (by first | rfl | exact lookI rfl (by omega) | exact lookI rfl (by simp) | exact lookB rfl (by simp)) Front.nil)
      · exact SubX.dropN 12 (by kernel_rfl) rfl
      · exact (by repeat' (first | exact Pick.nil _ | exact Del.here _ | apply Pick.cons | apply Del.there))
      · exact ⟨by omega, by rw [← hk2, drop_cons (k := k) (by omega), idxP, if_neg (by simp_all)]⟩
      · exact (by (try dsimp only); omega)
  · try simp only [Bool.and_eq_true, Bool.or_eq_true, Bool.not_eq_true', Bool.not_eq_false', decide_eq_true_eq, decide_eq_false_iff_not, Bool.and_eq_false_iff, Bool.or_eq_false_iff, ne_eq, Decidable.not_not] at h1
    refine Tr.exit ?_
    refine Tr.thenE ?_
    refine Tr.thenE ?_
    refine Tr.inHit ?_
    refine Tr.thenN ?_
    refine Tr.seq ?_
    refine Tr.region ?_
    refine Tr.q (QS.assign rfl) rfl ?_
    refine Tr.nil ?_
    refine Tr.thenN ?_
    refine Tr.ret ?_
    refine Tr.ret1 Try.results74 rfl (fun w' hw => ?_)
    exact ⟨by rw [← hk2, List.drop_of_length_le (by omega)]; rfl, hw.below (Bg.le.refl _)⟩

set_option maxRecDepth 100000 in
set_option maxHeartbeats 2000000 in
theorem containsFunc_rng (l : List Rng) (V : Value) (g : FuncId) (cb : List Value) (w : World) (hV : Sl (hp w) encRng l V) (eg : ∀ args w, (callFunc g args).run Try.prog w = .ok (.enter g args) w) (p : Rng → Bool) (hp : ∀ x, x ∈ l → ∀ w', Ext w w' → Calls Try.prog g ([Value.agg (encRng.enc x).toArray] ++ cb).toArray w' fun e w'' => e = .returned (.bool (p x)) ∧ Ext w' w'') :
    Calls Try.prog 49 #[V, .func (.func g) #[] cb.toArray] w (fun e w' => e = .returned (.bool (l.any p)) ∧ Ext w w') := by
  refine enter Try.func49 rfl Try.ntmps49 rfl ?_
  refine Tr.seq ?_
  refine Tr.region ?_
  refine Tr.q (QS.assign rfl) rfl ?_
  refine Tr.nil ?_
  refine Tr.thenN ?_
  refine Tr.seq ?_
  refine Tr.region ?_
  refine Tr.q (QS.move rfl) rfl ?_
  refine Tr.q (QS.move rfl) rfl ?_
  refine Tr.q (QS.call rfl Try.call74 (fun w hw => indexFunc_rng l V g cb w (hw.slF hV) eg p (fun x hx w'' h => hp x hx w'' ((hw.below (Bg.le.refl _)).trans h)))) rfl ?_
  refine Tr.q (QS.geq rfl rfl) rfl ?_
  refine Tr.q (QS.assign rfl) rfl ?_
  refine Tr.nil ?_
  refine Tr.thenN ?_
  refine Tr.ret ?_
  refine Tr.ret1 Try.results49 rfl (fun w' hw => ?_)
  exact ⟨by rw [idxP_any], hw.below (Bg.le.refl _)⟩

set_option maxRecDepth 100000 in
set_option maxHeartbeats 2000000 in
theorem contains1_any (r : Rng) (a : UInt32) (b : Nat) (w : World) (hc : Cell (hp w) b 0 (.int .u32 a.toNat)) :
    Calls Try.prog 50 #[.agg (encRng.enc r).toArray, .pointer (some ⟨b, 0, none⟩)] w (fun e w' => e = .returned (.bool (inR a r)) ∧ Ext w w') := by
  have hc' : Cell (Bg.of w).blk b 0 (.int .u32 a.toNat) := hc
  refine enter Try.func50 rfl Try.ntmps50 rfl ?_
  refine Tr.seq ?_
  refine Tr.region ?_
  refine Tr.box rfl rfl rfl (fun b1 => ?_)
  refine Tr.q (QS.assign rfl) rfl ?_
  refine Tr.nil ?_
  refine Tr.thenN ?_
  refine Tr.seq ?_
  refine Tr.region ?_
  refine Tr.q (QS.fieldAddr (off := 0) (ft := 23) rfl Try.underlying61 rfl rfl Try.sizeOf23 (by decide)) rfl ?_
  first | refine Tr.q (QS.loadV rfl (by repeat (first | exact List.Mem.head _ | apply List.Mem.tail)) Try.isAgg23 (by rfl)) rfl ?_ | refine Tr.q (QS.loadC rfl (by assumption) Try.isAgg23) rfl ?_ | refine Tr.q (QS.loadCF rfl (by assumption) Try.isAgg23 (by rfl)) rfl ?_ | refine Tr.q (QS.el1 rfl (by assumption) Try.isAgg23 (by omega) (by rfl)) rfl ?_ | refine Tr.q (QS.elF rfl (by assumption) Try.isAgg23 (by omega) (by rfl)) rfl ?_ | refine Tr.q (QS.elR1 rfl (by repeat (first | exact List.Mem.head _ | apply List.Mem.tail)) Try.isAgg23 (by omega) (by rfl)) rfl ?_ | refine Tr.q (QS.elRF rfl (by repeat (first | exact List.Mem.head _ | apply List.Mem.tail)) Try.isAgg23 (by omega) (by rfl)) rfl ?_
  first | refine Tr.q (QS.loadV rfl (by repeat (first | exact List.Mem.head _ | apply List.Mem.tail)) Try.isAgg23 (by rfl)) rfl ?_ | refine Tr.q (QS.loadC rfl (by assumption) Try.isAgg23) rfl ?_ | refine Tr.q (QS.loadCF rfl (by assumption) Try.isAgg23 (by rfl)) rfl ?_ | refine Tr.q (QS.el1 rfl (by assumption) Try.isAgg23 (by omega) (by rfl)) rfl ?_ | refine Tr.q (QS.elF rfl (by assumption) Try.isAgg23 (by omega) (by rfl)) rfl ?_ | refine Tr.q (QS.elR1 rfl (by repeat (first | exact List.Mem.head _ | apply List.Mem.tail)) Try.isAgg23 (by omega) (by rfl)) rfl ?_ | refine Tr.q (QS.elRF rfl (by repeat (first | exact List.Mem.head _ | apply List.Mem.tail)) Try.isAgg23 (by omega) (by rfl)) rfl ?_
  refine Tr.q (QS.leq32 rfl rfl) rfl ?_
  refine Tr.q (QS.move rfl) rfl ?_
  apply Tr.and (t := 8) (d := 13) 5
  · exact rfl
  · intro hT2; have hT2' := hT2
    try simp only [Bool.and_eq_true, Bool.or_eq_true, Bool.not_eq_true', Bool.not_eq_false', decide_eq_true_eq, decide_eq_false_iff_not, Bool.and_eq_false_iff, Bool.or_eq_false_iff, ne_eq, Decidable.not_not] at hT2'
    first | refine Tr.gq rfl rfl hT2 (QS.loadV rfl (by repeat (first | exact List.Mem.head _ | apply List.Mem.tail)) Try.isAgg23 (by rfl)) rfl ?_ | refine Tr.gq rfl rfl hT2 (QS.loadC rfl (by assumption) Try.isAgg23) rfl ?_ | refine Tr.gq rfl rfl hT2 (QS.loadCF rfl (by assumption) Try.isAgg23 (by rfl)) rfl ?_ | refine Tr.gq rfl rfl hT2 (QS.el1 rfl (by assumption) Try.isAgg23 (by omega) (by rfl)) rfl ?_ | refine Tr.gq rfl rfl hT2 (QS.elF rfl (by assumption) Try.isAgg23 (by omega) (by rfl)) rfl ?_ | refine Tr.gq rfl rfl hT2 (QS.elR1 rfl (by repeat (first | exact List.Mem.head _ | apply List.Mem.tail)) Try.isAgg23 (by omega) (by rfl)) rfl ?_ | refine Tr.gq rfl rfl hT2 (QS.elRF rfl (by repeat (first | exact List.Mem.head _ | apply List.Mem.tail)) Try.isAgg23 (by omega) (by rfl)) rfl ?_
    refine Tr.gq rfl rfl hT2 (QS.fieldAddr (off := 1) (ft := 23) rfl Try.underlying61 rfl rfl Try.sizeOf23 (by decide)) rfl ?_
    first | refine Tr.gq rfl rfl hT2 (QS.loadV rfl (by repeat (first | exact List.Mem.head _ | apply List.Mem.tail)) Try.isAgg23 (by rfl)) rfl ?_ | refine Tr.gq rfl rfl hT2 (QS.loadC rfl (by assumption) Try.isAgg23) rfl ?_ | refine Tr.gq rfl rfl hT2 (QS.loadCF rfl (by assumption) Try.isAgg23 (by rfl)) rfl ?_ | refine Tr.gq rfl rfl hT2 (QS.el1 rfl (by assumption) Try.isAgg23 (by omega) (by rfl)) rfl ?_ | refine Tr.gq rfl rfl hT2 (QS.elF rfl (by assumption) Try.isAgg23 (by omega) (by rfl)) rfl ?_ | refine Tr.gq rfl rfl hT2 (QS.elR1 rfl (by repeat (first | exact List.Mem.head _ | apply List.Mem.tail)) Try.isAgg23 (by omega) (by rfl)) rfl ?_ | refine Tr.gq rfl rfl hT2 (QS.elRF rfl (by repeat (first | exact List.Mem.head _ | apply List.Mem.tail)) Try.isAgg23 (by omega) (by rfl)) rfl ?_
    refine Tr.gq rfl rfl hT2 (QS.lss32 rfl rfl) rfl ?_
    refine Tr.q (QS.pickT rfl hT2 rfl) rfl ?_
    refine Tr.nil (Tr.thenN ?_)
    first | exact Tr.end (Sub.cons rfl (Sub.dropN 5 (by kernel_rfl) rfl)) rfl rfl | exact Tr.endP (Sub.cons rfl (Sub.dropN 5 (by kernel_rfl) rfl)) rfl (by repeat' (first | exact Pick.nil _ | exact Del.here _ | apply Pick.cons | apply Del.there))
  · intro hF2
    refine Tr.gskip rfl rfl hF2 rfl ?_
    refine Tr.gskip rfl rfl hF2 rfl ?_
    refine Tr.gskip rfl rfl hF2 rfl ?_
    refine Tr.gskip rfl rfl hF2 rfl ?_
    refine Tr.q (QS.pickF rfl hF2 rfl) rfl ?_
    refine Tr.nil (Tr.thenN ?_)
    first | exact Tr.end (Sub.cons rfl (Sub.dropN 5 (by kernel_rfl) rfl)) rfl rfl | exact Tr.endP (Sub.cons rfl (Sub.dropN 5 (by kernel_rfl) rfl)) rfl (by repeat' (first | exact Pick.nil _ | exact Del.here _ | apply Pick.cons | apply Del.there))
  refine Tr.q (QS.assign rfl) rfl ?_
  refine Tr.nil ?_
  refine Tr.thenN ?_
  refine Tr.ret ?_
  refine Tr.ret1 Try.results50 rfl (fun w' hw => ?_)
  exact ⟨rfl, hw.below (Bg.le.refl _)⟩

set_option maxRecDepth 100000 in
set_option maxHeartbeats 2000000 in
theorem contains_any (l : List Rng) (V : Value) (a : UInt32) (w : World) (hV : Sl (hp w) encRng l V) :
    Calls Try.prog 22 #[V, .int .u32 a.toNat] w (fun e w' => e = .returned (.bool (l.any (inR a))) ∧ Ext w w') := by
  refine enter Try.func22 rfl Try.ntmps22 rfl ?_
  refine Tr.seq ?_
  refine Tr.region ?_
  refine Tr.box rfl rfl rfl (fun b1 => ?_)
  refine Tr.q (QS.assign rfl) rfl ?_
  refine Tr.nil ?_
  refine Tr.thenN ?_
  refine Tr.seq ?_
  refine Tr.region ?_
  refine Tr.q (QS.move rfl) rfl ?_
  refine Tr.q (QS.makeFunc rfl rfl) rfl ?_
  refine Tr.q (QS.call rfl Try.call49 (fun w hw => containsFunc_rng l V _ _ w (hw.slF hV) Try.call50 (inR a) (fun x _ w'' h => contains1_any x a _ w'' (cellE.cell (hw.ent _ (.head _)) h rfl)))) rfl ?_
  refine Tr.q (QS.assign rfl) rfl ?_
  refine Tr.nil ?_
  refine Tr.thenN ?_
  refine Tr.ret ?_
  refine Tr.ret1 Try.results22 rfl (fun w' hw => ?_)
  exact ⟨rfl, hw.below (Bg.le.refl _)⟩

set_option maxRecDepth 100000 in
set_option maxHeartbeats 2000000 in
theorem refContains_any (l : List Rng) (V : Value) (a : UInt32) (w : World) (hV : Sl (hp w) encRng l V) :
    Calls Try.prog 96 #[V, .int .u32 a.toNat] w (fun e w' => e = .returned (.bool (l.any (inR a))) ∧ Ext w w') := by
  have hV' : Sl (Bg.of w).blk encRng l V := hV
  have hlen := hV.len_le
  refine enter Try.func96 rfl Try.ntmps96 rfl ?_
  refine Tr.seq ?_
  refine Tr.region ?_
  refine Tr.q (QS.assign rfl) rfl ?_
  refine Tr.nil ?_
  refine Tr.thenN ?_
  refine Tr.seq ?_
  refine Tr.seq ?_
  refine Tr.region ?_
  refine Tr.q (QS.assign rfl) rfl ?_
  refine Tr.nil ?_
  refine Tr.thenN ?_
  refine Tr.block ?_
  refine Tr.loop (ι := Nat) (fun k => k ≤ l.length ∧ (l.drop k).any (inR a) = l.any (inR a)) (fun _ => _) (fun k => []) (fun k => [(5, .int .i64 (k : Nat))]) (fun k => l.length - k) 0 ⟨Nat.zero_le _, rfl⟩ (.cons (by first | rfl | exact lookI rfl (by omega) | exact lookI rfl (by simp) | exact lookB rfl (by simp)) Front.nil) (by repeat' (first | exact Pick.nil _ | exact Del.here _ | apply Pick.cons | apply Del.there)) rfl (fun k hi m hm => ?_)
  replace hi : k ≤ l.length ∧ (l.drop k).any (inR a) = l.any (inR a) := hi
  replace hm : m = l.length - k := hm
  change Tr _ _ [] ([(5, .int .i64 (k : Nat))] ++ _) _
  obtain ⟨hk1, hk2⟩ := hi
  refine Tr.seq ?_
  refine Tr.seq ?_
  refine Tr.region ?_
  refine Tr.q (QS.move rfl) rfl ?_
  refine Tr.q (QS.move rfl) rfl ?_
  first | refine Tr.q (QS.len rfl (by assumption) Try.underlying30) rfl ?_ | refine Tr.q (QS.lenRow rfl (by repeat (first | exact List.Mem.head _ | apply List.Mem.tail)) Try.underlying30) rfl ?_ | refine Tr.q (QS.lenNil rfl Try.underlying30) rfl ?_
  refine Tr.q (QS.lss rfl rfl) rfl ?_
  refine Tr.nil ?_
  refine Tr.thenN ?_
  refine Tr.cond rfl (fun h1 => ?_) (fun h1 => ?_)
  · try simp only [Bool.and_eq_true, Bool.or_eq_true, Bool.not_eq_true', Bool.not_eq_false', decide_eq_true_eq, decide_eq_false_iff_not, Bool.and_eq_false_iff, Bool.or_eq_false_iff, ne_eq, Decidable.not_not] at h1
    refine Tr.skip ?_
    refine Tr.thenN ?_
    refine Tr.seq ?_
    refine Tr.block ?_
    refine Tr.seq ?_
    refine Tr.region ?_
    refine Tr.q (QS.move rfl) rfl ?_
    refine Tr.q (QS.move rfl) rfl ?_
    first | refine Tr.q (QS.idxN rfl rfl (by assumption) Try.underlying30 Try.sizeOf73 (by rfl) (by omega)) rfl ?_ | refine Tr.q (QS.idxRowN rfl rfl (by repeat (first | exact List.Mem.head _ | apply List.Mem.tail)) Try.underlying30 Try.sizeOf73 (by rfl) (by omega)) rfl ?_ | refine Tr.q (QS.idx rfl rfl (by assumption) Try.underlying30 Try.sizeOf73 (by rfl) (by omega)) rfl ?_ | refine Tr.q (QS.idxRow rfl rfl (by repeat (first | exact List.Mem.head _ | apply List.Mem.tail)) Try.underlying30 Try.sizeOf73 (by rfl) (by omega)) rfl ?_
    refine Tr.q (QS.fieldAddr (off := 0) (ft := 23) rfl Try.underlying73 rfl rfl Try.sizeOf23 (by decide)) rfl ?_
    first | refine Tr.q (QS.loadV rfl (by repeat (first | exact List.Mem.head _ | apply List.Mem.tail)) Try.isAgg23 (by rfl)) rfl ?_ | refine Tr.q (QS.loadC rfl (by assumption) Try.isAgg23) rfl ?_ | refine Tr.q (QS.loadCF rfl (by assumption) Try.isAgg23 (by rfl)) rfl ?_ | refine Tr.q (QS.el1 rfl (by assumption) Try.isAgg23 (by omega) (by rfl)) rfl ?_ | refine Tr.q (QS.elF rfl (by assumption) Try.isAgg23 (by omega) (by rfl)) rfl ?_ | refine Tr.q (QS.elR1 rfl (by repeat (first | exact List.Mem.head _ | apply List.Mem.tail)) Try.isAgg23 (by omega) (by rfl)) rfl ?_ | refine Tr.q (QS.elRF rfl (by repeat (first | exact List.Mem.head _ | apply List.Mem.tail)) Try.isAgg23 (by omega) (by rfl)) rfl ?_
    refine Tr.q (QS.move rfl) rfl ?_
    refine Tr.q (QS.leq32 rfl rfl) rfl ?_
    refine Tr.q (QS.move rfl) rfl ?_
    apply Tr.and (t := 19) (d := 27) 8
    · exact rfl
    · intro hT2; have hT2' := hT2
      try simp only [Bool.and_eq_true, Bool.or_eq_true, Bool.not_eq_true', Bool.not_eq_false', decide_eq_true_eq, decide_eq_false_iff_not, Bool.and_eq_false_iff, Bool.or_eq_false_iff, ne_eq, Decidable.not_not] at hT2'
      refine Tr.gq rfl rfl hT2 (QS.move rfl) rfl ?_
      refine Tr.gq rfl rfl hT2 (QS.move rfl) rfl ?_
      refine Tr.gq rfl rfl hT2 (QS.move rfl) rfl ?_
      first | refine Tr.gq rfl rfl hT2 (QS.idxN rfl rfl (by assumption) Try.underlying30 Try.sizeOf73 (by rfl) (by omega)) rfl ?_ | refine Tr.gq rfl rfl hT2 (QS.idxRowN rfl rfl (by repeat (first | exact List.Mem.head _ | apply List.Mem.tail)) Try.underlying30 Try.sizeOf73 (by rfl) (by omega)) rfl ?_ | refine Tr.gq rfl rfl hT2 (QS.idx rfl rfl (by assumption) Try.underlying30 Try.sizeOf73 (by rfl) (by omega)) rfl ?_ | refine Tr.gq rfl rfl hT2 (QS.idxRow rfl rfl (by repeat (first | exact List.Mem.head _ | apply List.Mem.tail)) Try.underlying30 Try.sizeOf73 (by rfl) (by omega)) rfl ?_
      refine Tr.gq rfl rfl hT2 (QS.fieldAddr (off := 1) (ft := 23) rfl Try.underlying73 rfl rfl Try.sizeOf23 (by decide)) rfl ?_
      first | refine Tr.gq rfl rfl hT2 (QS.loadV rfl (by repeat (first | exact List.Mem.head _ | apply List.Mem.tail)) Try.isAgg23 (by rfl)) rfl ?_ | refine Tr.gq rfl rfl hT2 (QS.loadC rfl (by assumption) Try.isAgg23) rfl ?_ | refine Tr.gq rfl rfl hT2 (QS.loadCF rfl (by assumption) Try.isAgg23 (by rfl)) rfl ?_ | refine Tr.gq rfl rfl hT2 (QS.el1 rfl (by assumption) Try.isAgg23 (by omega) (by rfl)) rfl ?_ | refine Tr.gq rfl rfl hT2 (QS.elF rfl (by assumption) Try.isAgg23 (by omega) (by rfl)) rfl ?_ | refine Tr.gq rfl rfl hT2 (QS.elR1 rfl (by repeat (first | exact List.Mem.head _ | apply List.Mem.tail)) Try.isAgg23 (by omega) (by rfl)) rfl ?_ | refine Tr.gq rfl rfl hT2 (QS.elRF rfl (by repeat (first | exact List.Mem.head _ | apply List.Mem.tail)) Try.isAgg23 (by omega) (by rfl)) rfl ?_
      refine Tr.gq rfl rfl hT2 (QS.lss32 rfl rfl) rfl ?_
      refine Tr.q (QS.pickT rfl hT2 rfl) rfl ?_
      refine Tr.nil (Tr.thenN ?_)
      first | exact Tr.end (Sub.cons rfl (Sub.dropN 8 (by kernel_rfl) rfl)) rfl rfl | exact Tr.endP (Sub.cons rfl (Sub.dropN 8 (by kernel_rfl) rfl)) rfl (by repeat' (first | exact Pick.nil _ | exact Del.here _ | apply Pick.cons | apply Del.there))
    · intro hF2
      refine Tr.gskip rfl rfl hF2 rfl ?_
      refine Tr.gskip rfl rfl hF2 rfl ?_
      refine Tr.gskip rfl rfl hF2 rfl ?_
      refine Tr.gskip rfl rfl hF2 rfl ?_
      refine Tr.gskip rfl rfl hF2 rfl ?_
      refine Tr.gskip rfl rfl hF2 rfl ?_
      refine Tr.gskip rfl rfl hF2 rfl ?_
      refine Tr.q (QS.pickF rfl hF2 rfl) rfl ?_
      refine Tr.nil (Tr.thenN ?_)
      first | exact Tr.end (Sub.cons rfl (Sub.dropN 8 (by kernel_rfl) rfl)) rfl rfl | exact Tr.endP (Sub.cons rfl (Sub.dropN 8 (by kernel_rfl) rfl)) rfl (by repeat' (first | exact Pick.nil _ | exact Del.here _ | apply Pick.cons | apply Del.there))
    refine Tr.nil ?_
    refine Tr.thenN ?_
    refine Tr.cond rfl (fun h3 => ?_) (fun h3 => ?_)
    · try simp only [Bool.and_eq_true, Bool.or_eq_true, Bool.not_eq_true', Bool.not_eq_false', decide_eq_true_eq, decide_eq_false_iff_not, Bool.and_eq_false_iff, Bool.or_eq_false_iff, ne_eq, Decidable.not_not] at h3
      refine Tr.seq ?_
      refine Tr.region ?_
      refine Tr.q (QS.assign rfl) rfl ?_
      refine Tr.nil ?_
      refine Tr.thenN ?_
      refine Tr.ret ?_
      refine Tr.inR ?_
      refine Tr.thenR ?_
      refine Tr.thenR ?_
      refine Tr.inR ?_
      refine Tr.thenR ?_
      refine Tr.ret1 Try.results96 rfl (fun w' hw => ?_)
      exact ⟨by rw [← hk2, drop_cons (k := k) (by omega), List.any_cons, inR_true (by simp_all)]; rfl, hw.below (Bg.le.refl _)⟩
    · try simp only [Bool.and_eq_true, Bool.or_eq_true, Bool.not_eq_true', Bool.not_eq_false', decide_eq_true_eq, decide_eq_false_iff_not, Bool.and_eq_false_iff, Bool.or_eq_false_iff, ne_eq, Decidable.not_not] at h3
      refine Tr.skip ?_
      refine Tr.inN ?_
      refine Tr.thenN ?_
      refine Tr.region ?_
      refine Tr.q (QS.move rfl) rfl ?_
      first | refine Tr.q (QS.addI rfl rfl (by omega)) rfl ?_ | refine Tr.q (QS.add rfl rfl) rfl ?_
      refine Tr.q (QS.assign rfl) rfl ?_
      refine Tr.nil ?_
      refine Tr.thenN ?_
      apply Tr.again (k + 1)
      · exact rfl
      · exact (.cons (by first | rfl | exact lookI rfl (by omega) | exact lookI rfl (by simp) | exact lookB rfl (by simp)) Front.nil)
      · exact SubX.dropN 17 (by kernel_rfl) rfl
      · exact (by repeat' (first | exact Pick.nil _ | exact Del.here _ | apply Pick.cons | apply Del.there))
      · exact ⟨by omega, by rw [← hk2, drop_cons (k := k) (by omega), List.any_cons, inR_false (fun e => h3.elim (fun q => q e.1) (fun q => q e.2))]; rfl⟩
      · exact (by (try dsimp only); omega)
  · try simp only [Bool.and_eq_true, Bool.or_eq_true, Bool.not_eq_true', Bool.not_eq_false', decide_eq_true_eq, decide_eq_false_iff_not, Bool.and_eq_false_iff, Bool.or_eq_false_iff, ne_eq, Decidable.not_not] at h1
    refine Tr.exit ?_
    refine Tr.thenE ?_
    refine Tr.thenE ?_
    refine Tr.inHit ?_
    refine Tr.thenN ?_
    refine Tr.seq ?_
    refine Tr.region ?_
    refine Tr.q (QS.assign rfl) rfl ?_
    refine Tr.nil ?_
    refine Tr.thenN ?_
    refine Tr.ret ?_
    refine Tr.ret1 Try.results96 rfl (fun w' hw => ?_)
    exact ⟨by rw [← hk2, List.drop_of_length_le (by omega)]; rfl, hw.below (Bg.le.refl _)⟩

end Go.Proofs.Ytfnedefgepjbpaa
