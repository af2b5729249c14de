/- Own rules and walks, part 6. -/
import Derived.Test.YtnmaokalpbnmaaaB5
set_option linter.unusedSimpArgs false
set_option linter.unusedVariables false
set_option linter.unusedSectionVars false
namespace Go.Proofs.Ytnmaokalpbnmaaa
open Go Go.HL Go.RowKit
set_option maxRecDepth 100000 in
set_option maxHeartbeats 2000000 in
theorem decoded_any (l : List SecV) (V : Value) (a : UInt32) (w : World) (hV : Sl (hp w) encSec l V) (hB : SecB l) (hD : DataIn (hp w) l) :
    Calls Try.prog 19 #[V, .int .u32 a.toNat] w (fun e w' => e = .returned (.tuple #[.agg (encIns.enc (atP l a).1).toArray, .bool (atP l a).2]) ∧ Ext w w') := by
  have hV' : Sl (Bg.of w).blk encSec l V := hV
  have hlen := hB.1
  have hf := findP_lt (l := l) (a := a)
  have ha := a.toNat_lt
  refine enter Try.func19 rfl Try.ntmps19 rfl ?_
  refine Tr.seq ?_
  refine Tr.region ?_
  refine Tr.alloc Try.zeroValue41 rfl rfl (fun b1 => ?_)
  refine Tr.q (QS.assign rfl) rfl ?_
  refine Tr.nil ?_
  refine Tr.thenN ?_
  refine Tr.seq ?_
  refine Tr.region ?_
  refine Tr.q (QS.move rfl) rfl ?_
  refine Tr.q (QS.move rfl) rfl ?_
  refine Tr.q (QS.call rfl Try.call36 (fun w hw => refFind_any l V a w (hw.slF hV') hB)) rfl ?_
  refine Tr.q (QS.assign rfl) rfl ?_
  refine Tr.nil ?_
  refine Tr.thenN ?_
  refine Tr.seq ?_
  refine Tr.seq ?_
  refine Tr.region ?_
  refine Tr.q (QS.move rfl) rfl ?_
  refine Tr.q (QS.lss rfl rfl) rfl ?_
  refine Tr.q (QS.move rfl) rfl ?_
  apply Tr.orP
  · exact (rfl : _ = (7, 15, 22))
  · exact rfl
  · intro hF2; have hF2' := hF2
    try simp only [bs] at hF2'
    refine Tr.gq rfl rfl hF2 (QS.move rfl) rfl ?_
    refine Tr.gq rfl rfl hF2 (QS.move rfl) rfl ?_
    refine Tr.gq rfl rfl hF2 (QS.idx rfl rfl (by assumption) Try.underlying22 Try.sizeOf63 (by rfl) (by omega)) rfl ?_
    refine Tr.gq rfl rfl hF2 (QS.fieldAddr (off := 4) (ft := 4) rfl Try.underlying63 rfl rfl Try.sizeOf4 (by decide)) rfl ?_
    refine Tr.gq rfl rfl hF2 (QS.elF rfl (by assumption) Try.isAgg4 (by omega) (by rfl)) rfl ?_
    refine Tr.gq rfl rfl hF2 (QS.not rfl) rfl ?_
    refine Tr.q (QS.pickF rfl hF2 rfl) rfl ?_
    refine Tr.nil (Tr.thenN ?_)
    exact Tr.endX (Sub.cons rfl (Sub.dropN 7 (by kernel_rfl) rfl))
  · intro hT2
    refine Tr.gskip rfl rfl hT2 rfl ?_
    refine Tr.gskip rfl rfl hT2 rfl ?_
    refine Tr.gskip rfl rfl hT2 rfl ?_
    refine Tr.gskip rfl rfl hT2 rfl ?_
    refine Tr.gskip rfl rfl hT2 rfl ?_
    refine Tr.gskip rfl rfl hT2 rfl ?_
    refine Tr.q (QS.pickT rfl hT2 rfl) rfl ?_
    refine Tr.nil (Tr.thenN ?_)
    exact Tr.endX (Sub.cons rfl (Sub.dropN 7 (by kernel_rfl) rfl))
  refine Tr.nil ?_
  refine Tr.thenN ?_
  refine Tr.cond rfl (fun h3 => ?_) (fun h3 => ?_)
  · try simp only [bs] at h3
    refine Tr.seq ?_
    refine Tr.region ?_
    refine Tr.q (QS.build (vs := []) rfl rfl (HLF.built41)) rfl ?_
    refine Tr.storeW rfl rfl Try.sizeOf41 (by repeat (first | exact Put.here _ | apply Put.there)) (by rfl) (by rfl) (by first | exact List.all_eq_true.1 rfl | exact Enc.one _ _ | exact Enc.one encIns _) rfl ?_
    refine Tr.q (QS.assign rfl) rfl ?_
    refine Tr.nil ?_
    refine Tr.thenN ?_
    refine Tr.ret ?_
    refine Tr.thenR ?_
    refine Tr.retC2 Try.results19 rfl rfl (by repeat (first | exact List.Mem.head _ | apply List.Mem.tail)) Try.isAgg41 Try.sizeOf41 (by rfl) (fun w' hw => ?_)
    exact ⟨by unfold atP; rw [if_pos (by unfold noAt; simp_all)]; rfl, hw.below (Bg.le.refl _)⟩
  · try simp only [bs] at h3
    refine Tr.skip ?_
    refine Tr.thenN ?_
    refine Tr.seq ?_
    have hna : noAt l a = false := by unfold noAt; rw [Bool.or_eq_false_iff]; exact ⟨decide_eq_false h3.1, by rw [h3.2]; rfl⟩
    have hin := inS_iff.1 (findP_in (l := l) (a := a) (by omega))
    have hen : endP (l.getD (findP l a).toNat default) ≤ ((l.getD (findP l a).toNat default).addr.toNat : Int) + (l.getD (findP l a).toNat default).data.length := by unfold endP; omega
    have hsub : (a - (l.getD (findP l a).toNat default).addr).toNat = a.toNat - (l.getD (findP l a).toNat default).addr.toNat := UInt32.toNat_sub_of_le _ _ (UInt32.le_iff_toNat_le.2 hin.1)
    have hdl := hB.at (k := (findP l a).toNat) (by omega)
    have hDk : Sl (Bg.of w).blk encU8 (l.getD (findP l a).toNat default).data (.slice (l.getD (findP l a).toNat default).dp (l.getD (findP l a).toNat default).data.length (l.getD (findP l a).toNat default).dc) := hD _ (mem_getD (by omega))
    refine Tr.region ?_
    refine Tr.q (QS.move rfl) rfl ?_
    refine Tr.q (QS.move rfl) rfl ?_
    refine Tr.q (QS.move rfl) rfl ?_
    refine Tr.q (QS.idx rfl rfl (by assumption) Try.underlying22 Try.sizeOf63 (by rfl) (by omega)) rfl ?_
    refine Tr.q (QS.fieldAddr (off := 1) (ft := 39) rfl Try.underlying63 rfl rfl Try.sizeOf39 (by decide)) rfl ?_
    refine Tr.q (QS.elF rfl (by assumption) Try.isAgg39 (by omega) (by rfl)) rfl ?_
    refine Tr.q (QS.sub32 rfl rfl) rfl ?_
    refine Tr.q (QS.cvt32toI rfl Try.underlying39 Try.underlying3) rfl ?_
    refine Tr.q (QS.assign rfl) rfl ?_
    refine Tr.nil ?_
    refine Tr.thenN ?_
    refine Tr.seq ?_
    have hs1 := Sl.resl (l := (a - (l.getD (findP l a).toNat default).addr).toNat) (h := (min (((a - (l.getD (findP l a).toNat default).addr).toNat : Int) + 6) ((l.getD (findP l a).toNat default).data.length : Int)).toNat) hDk (by omega) (by omega)
    have hs3 := hs1
    rw [show List.drop (a - (l.getD (findP l a).toNat default).addr).toNat ((l.getD (findP l a).toNat default).data.take (min (((a - (l.getD (findP l a).toNat default).addr).toNat : Int) + 6) ((l.getD (findP l a).toNat default).data.length : Int)).toNat) = winD l a by unfold winD; rw [List.drop_take, List.take_eq_take_iff, List.length_drop]; omega] at hs3
    refine Tr.regionH ([]) 24 rfl HLF.mixed ?_
    refine Tr.hT 0 rfl (by kernel_rfl) (panicThen panicBody) (QS.move rfl) ?_
    refine Tr.hT 1 rfl (by kernel_rfl) (panicThen panicBody) (QS.move rfl) ?_
    refine Tr.hT 2 rfl (by kernel_rfl) (panicThen panicBody) (QS.idx rfl rfl (by assumption) Try.underlying22 Try.sizeOf63 (by rfl) (by omega)) ?_
    refine Tr.hT 3 rfl (by kernel_rfl) (panicThen panicBody) (QS.fieldAddr (off := 2) (ft := 61) rfl Try.underlying63 rfl rfl Try.sizeOf61 (by decide)) ?_
    refine Tr.hT 4 rfl (by kernel_rfl) (panicThen panicBody) (QS.elF rfl (by assumption) Try.isAgg61 (by omega) (by rfl)) ?_
    refine Tr.hT 5 rfl (by kernel_rfl) (panicThen panicBody) (QS.move rfl) ?_
    refine Tr.hT 6 rfl (by kernel_rfl) (panicThen panicBody) (QS.move rfl) ?_
    refine Tr.hT 7 rfl (by kernel_rfl) (panicThen panicBody) (QS.addI rfl rfl (by omega)) ?_
    refine Tr.hT 8 rfl (by kernel_rfl) (panicThen panicBody) (QS.move rfl) ?_
    refine Tr.hT 9 rfl (by kernel_rfl) (panicThen panicBody) (QS.move rfl) ?_
    refine Tr.hT 10 rfl (by kernel_rfl) (panicThen panicBody) (QS.idx rfl rfl (by assumption) Try.underlying22 Try.sizeOf63 (by rfl) (by omega)) ?_
    refine Tr.hT 11 rfl (by kernel_rfl) (panicThen panicBody) (QS.fieldAddr (off := 2) (ft := 61) rfl Try.underlying63 rfl rfl Try.sizeOf61 (by decide)) ?_
    refine Tr.hT 12 rfl (by kernel_rfl) (panicThen panicBody) (QS.elF rfl (by assumption) Try.isAgg61 (by omega) (by rfl)) ?_
    refine Tr.hT 16 rfl (by kernel_rfl) (panicThen panicBody) (QS.move rfl) ?_
    refine Tr.hAll [13, 21] (by kernel_rfl) (by simp) (fun iq hq => ?_)
    rcases List.mem_cons.1 hq with rfl | hq
    · skip
      refine Tr.hOp rfl ?_
      refine Tr.q (QS.len rfl (by assumption) Try.underlying61) rfl ?_
      refine Tr.hN ?_
      refine Tr.hAll [14, 21] (by kernel_rfl) (by simp) (fun iq hq => ?_)
      rcases List.mem_cons.1 hq with rfl | hq
      · skip
        refine Tr.hOp rfl ?_
        refine Tr.q (QS.min2 rfl rfl) rfl ?_
        refine Tr.hN ?_
        refine Tr.hT 15 rfl (by kernel_rfl) (panicThen panicBody) (QS.slice (lv := some (_, _)) (hv := some (_, _)) rfl (by assumption) rfl rfl Try.underlying61 Try.sizeOf5 (by rfl) (by simp only [loOf, hiOf] <;> first | omega | assumption | (simp only [NatCast.natCast, Int.ofNat_eq_natCast]; omega)) (by simp only [loOf, hiOf] <;> first | omega | assumption | (simp only [NatCast.natCast, Int.ofNat_eq_natCast]; omega)) (by simp only [loOf, hiOf] <;> first | omega | assumption | (simp only [NatCast.natCast, Int.ofNat_eq_natCast]; omega))) ?_
        refine Tr.hAll [17, 21] (by kernel_rfl) (by simp) (fun iq hq => ?_)
        rcases List.mem_cons.1 hq with rfl | hq
        · skip
          refine Tr.hOp rfl ?_
          refine Tr.q (QS.call rfl Try.call37 (fun w hw => decode_isa (winD l a) _ a w (hw.slF hs3))) rfl ?_
          refine Tr.hN ?_
          refine Tr.hT 18 rfl (by kernel_rfl) (panicThen panicBody) (QS.move rfl) ?_
          refine Tr.hT 19 rfl (by kernel_rfl) (panicThen panicBody) (QS.extract rfl rfl) ?_
          refine Tr.hT 20 rfl (by kernel_rfl) (panicThen panicBody) (QS.extract rfl rfl) ?_
          refine Tr.hAll [21] (by kernel_rfl) (by simp) (fun iq hq => ?_)
          obtain rfl := List.mem_singleton.1 hq
          refine Tr.hOp rfl ?_
          refine Tr.alloc Try.zeroValue41 rfl rfl (fun b4 => ?_)
          refine Tr.hN ?_
          refine Tr.hAll [22] (by kernel_rfl) (by simp) (fun iq hq => ?_)
          obtain rfl := List.mem_singleton.1 hq
          refine Tr.hOp rfl ?_
          refine Tr.storeW rfl rfl Try.sizeOf41 (by repeat (first | exact Put.here _ | apply Put.there)) (by rfl) (by rfl) (by first | exact List.all_eq_true.1 rfl | exact Enc.one _ _ | exact Enc.one encIns _) rfl ?_
          refine Tr.hN ?_
          refine Tr.hT 23 rfl (by kernel_rfl) (panicThen panicBody) (QS.assign rfl) ?_
          refine Tr.hDone (by kernel_rfl) ?_
          refine Tr.thenN ?_
          refine Tr.seq ?_
          refine Tr.region ?_
          refine Tr.q (QS.lW rfl Try.isAgg41 Try.sizeOf41) rfl ?_
          refine Tr.q (QS.move rfl) rfl ?_
          refine Tr.q (QS.eql rfl rfl) rfl ?_
          refine Tr.storeW rfl rfl Try.sizeOf41 (by repeat (first | exact Put.here _ | apply Put.there)) (by rfl) (by rfl) (by first | exact List.all_eq_true.1 rfl | exact Enc.one _ _ | exact Enc.one encIns _) rfl ?_
          refine Tr.q (QS.assign rfl) rfl ?_
          refine Tr.nil ?_
          refine Tr.thenN ?_
          refine Tr.ret ?_
          refine Tr.retC2 Try.results19 rfl rfl (by repeat (first | exact List.Mem.head _ | apply List.Mem.tail)) Try.isAgg41 Try.sizeOf41 (by rfl) (fun w' hw => ?_)
          exact ⟨by unfold atP; rw [if_neg (by simp [hna])]; rfl, hw.below (Bg.le.refl _)⟩
        obtain rfl := List.mem_singleton.1 hq
        refine Tr.hOp rfl ?_
        refine Tr.alloc Try.zeroValue41 rfl rfl (fun b5 => ?_)
        refine Tr.hN ?_
        refine Tr.hAll [17] (by kernel_rfl) (by simp) (fun iq hq => ?_)
        obtain rfl := List.mem_singleton.1 hq
        refine Tr.hOp rfl ?_
        refine Tr.q (QS.call rfl Try.call37 (fun w hw => decode_isa (winD l a) _ a w (hw.slF hs3))) rfl ?_
        refine Tr.hN ?_
        refine Tr.hT 18 rfl (by kernel_rfl) (panicThen panicBody) (QS.move rfl) ?_
        refine Tr.hT 19 rfl (by kernel_rfl) (panicThen panicBody) (QS.extract rfl rfl) ?_
        refine Tr.hT 20 rfl (by kernel_rfl) (panicThen panicBody) (QS.extract rfl rfl) ?_
        refine Tr.hAll [22] (by kernel_rfl) (by simp) (fun iq hq => ?_)
        obtain rfl := List.mem_singleton.1 hq
        refine Tr.hOp rfl ?_
        refine Tr.storeW rfl rfl Try.sizeOf41 (by repeat (first | exact Put.here _ | apply Put.there)) (by rfl) (by rfl) (by first | exact List.all_eq_true.1 rfl | exact Enc.one _ _ | exact Enc.one encIns _) rfl ?_
        refine Tr.hN ?_
        refine Tr.hT 23 rfl (by kernel_rfl) (panicThen panicBody) (QS.assign rfl) ?_
        refine Tr.hDone (by kernel_rfl) ?_
        refine Tr.thenN ?_
        refine Tr.seq ?_
        refine Tr.region ?_
        refine Tr.q (QS.lW rfl Try.isAgg41 Try.sizeOf41) rfl ?_
        refine Tr.q (QS.move rfl) rfl ?_
        refine Tr.q (QS.eql rfl rfl) rfl ?_
        refine Tr.storeW rfl rfl Try.sizeOf41 (by repeat (first | exact Put.here _ | apply Put.there)) (by rfl) (by rfl) (by first | exact List.all_eq_true.1 rfl | exact Enc.one _ _ | exact Enc.one encIns _) rfl ?_
        refine Tr.q (QS.assign rfl) rfl ?_
        refine Tr.nil ?_
        refine Tr.thenN ?_
        refine Tr.ret ?_
        refine Tr.retC2 Try.results19 rfl rfl (by repeat (first | exact List.Mem.head _ | apply List.Mem.tail)) Try.isAgg41 Try.sizeOf41 (by rfl) (fun w' hw => ?_)
        exact ⟨by unfold atP; rw [if_neg (by simp [hna])]; rfl, hw.below (Bg.le.refl _)⟩
      obtain rfl := List.mem_singleton.1 hq
      refine Tr.hOp rfl ?_
      refine Tr.alloc Try.zeroValue41 rfl rfl (fun b6 => ?_)
      refine Tr.hN ?_
      refine Tr.hAll [14] (by kernel_rfl) (by simp) (fun iq hq => ?_)
      obtain rfl := List.mem_singleton.1 hq
      refine Tr.hOp rfl ?_
      refine Tr.q (QS.min2 rfl rfl) rfl ?_
      refine Tr.hN ?_
      refine Tr.hT 15 rfl (by kernel_rfl) (panicThen panicBody) (QS.slice (lv := some (_, _)) (hv := some (_, _)) rfl (by assumption) rfl rfl Try.underlying61 Try.sizeOf5 (by rfl) (by simp only [loOf, hiOf] <;> first | omega | assumption | (simp only [NatCast.natCast, Int.ofNat_eq_natCast]; omega)) (by simp only [loOf, hiOf] <;> first | omega | assumption | (simp only [NatCast.natCast, Int.ofNat_eq_natCast]; omega)) (by simp only [loOf, hiOf] <;> first | omega | assumption | (simp only [NatCast.natCast, Int.ofNat_eq_natCast]; omega))) ?_
      refine Tr.hAll [17] (by kernel_rfl) (by simp) (fun iq hq => ?_)
      obtain rfl := List.mem_singleton.1 hq
      refine Tr.hOp rfl ?_
      refine Tr.q (QS.call rfl Try.call37 (fun w hw => decode_isa (winD l a) _ a w (hw.slF hs3))) rfl ?_
      refine Tr.hN ?_
      refine Tr.hT 18 rfl (by kernel_rfl) (panicThen panicBody) (QS.move rfl) ?_
      refine Tr.hT 19 rfl (by kernel_rfl) (panicThen panicBody) (QS.extract rfl rfl) ?_
      refine Tr.hT 20 rfl (by kernel_rfl) (panicThen panicBody) (QS.extract rfl rfl) ?_
      refine Tr.hAll [22] (by kernel_rfl) (by simp) (fun iq hq => ?_)
      obtain rfl := List.mem_singleton.1 hq
      refine Tr.hOp rfl ?_
      refine Tr.storeW rfl rfl Try.sizeOf41 (by repeat (first | exact Put.here _ | apply Put.there)) (by rfl) (by rfl) (by first | exact List.all_eq_true.1 rfl | exact Enc.one _ _ | exact Enc.one encIns _) rfl ?_
      refine Tr.hN ?_
      refine Tr.hT 23 rfl (by kernel_rfl) (panicThen panicBody) (QS.assign rfl) ?_
      refine Tr.hDone (by kernel_rfl) ?_
      refine Tr.thenN ?_
      refine Tr.seq ?_
      refine Tr.region ?_
      refine Tr.q (QS.lW rfl Try.isAgg41 Try.sizeOf41) rfl ?_
      refine Tr.q (QS.move rfl) rfl ?_
      refine Tr.q (QS.eql rfl rfl) rfl ?_
      refine Tr.storeW rfl rfl Try.sizeOf41 (by repeat (first | exact Put.here _ | apply Put.there)) (by rfl) (by rfl) (by first | exact List.all_eq_true.1 rfl | exact Enc.one _ _ | exact Enc.one encIns _) rfl ?_
      refine Tr.q (QS.assign rfl) rfl ?_
      refine Tr.nil ?_
      refine Tr.thenN ?_
      refine Tr.ret ?_
      refine Tr.retC2 Try.results19 rfl rfl (by repeat (first | exact List.Mem.head _ | apply List.Mem.tail)) Try.isAgg41 Try.sizeOf41 (by rfl) (fun w' hw => ?_)
      exact ⟨by unfold atP; rw [if_neg (by simp [hna])]; rfl, hw.below (Bg.le.refl _)⟩
    obtain rfl := List.mem_singleton.1 hq
    refine Tr.hOp rfl ?_
    refine Tr.alloc Try.zeroValue41 rfl rfl (fun b7 => ?_)
    refine Tr.hN ?_
    refine Tr.hAll [13] (by kernel_rfl) (by simp) (fun iq hq => ?_)
    obtain rfl := List.mem_singleton.1 hq
    refine Tr.hOp rfl ?_
    refine Tr.q (QS.len rfl (by assumption) Try.underlying61) rfl ?_
    refine Tr.hN ?_
    refine Tr.hAll [14] (by kernel_rfl) (by simp) (fun iq hq => ?_)
    obtain rfl := List.mem_singleton.1 hq
    refine Tr.hOp rfl ?_
    refine Tr.q (QS.min2 rfl rfl) rfl ?_
    refine Tr.hN ?_
    refine Tr.hT 15 rfl (by kernel_rfl) (panicThen panicBody) (QS.slice (lv := some (_, _)) (hv := some (_, _)) rfl (by assumption) rfl rfl Try.underlying61 Try.sizeOf5 (by rfl) (by simp only [loOf, hiOf] <;> first | omega | assumption | (simp only [NatCast.natCast, Int.ofNat_eq_natCast]; omega)) (by simp only [loOf, hiOf] <;> first | omega | assumption | (simp only [NatCast.natCast, Int.ofNat_eq_natCast]; omega)) (by simp only [loOf, hiOf] <;> first | omega | assumption | (simp only [NatCast.natCast, Int.ofNat_eq_natCast]; omega))) ?_
    refine Tr.hAll [17] (by kernel_rfl) (by simp) (fun iq hq => ?_)
    obtain rfl := List.mem_singleton.1 hq
    refine Tr.hOp rfl ?_
    refine Tr.q (QS.call rfl Try.call37 (fun w hw => decode_isa (winD l a) _ a w (hw.slF hs3))) rfl ?_
    refine Tr.hN ?_
    refine Tr.hT 18 rfl (by kernel_rfl) (panicThen panicBody) (QS.move rfl) ?_
    refine Tr.hT 19 rfl (by kernel_rfl) (panicThen panicBody) (QS.extract rfl rfl) ?_
    refine Tr.hT 20 rfl (by kernel_rfl) (panicThen panicBody) (QS.extract rfl rfl) ?_
    refine Tr.hAll [22] (by kernel_rfl) (by simp) (fun iq hq => ?_)
    obtain rfl := List.mem_singleton.1 hq
    refine Tr.hOp rfl ?_
    refine Tr.storeW rfl rfl Try.sizeOf41 (by repeat (first | exact Put.here _ | apply Put.there)) (by rfl) (by rfl) (by first | exact List.all_eq_true.1 rfl | exact Enc.one _ _ | exact Enc.one encIns _) rfl ?_
    refine Tr.hN ?_
    refine Tr.hT 23 rfl (by kernel_rfl) (panicThen panicBody) (QS.assign rfl) ?_
    refine Tr.hDone (by kernel_rfl) ?_
    refine Tr.thenN ?_
    refine Tr.seq ?_
    refine Tr.region ?_
    refine Tr.q (QS.lW rfl Try.isAgg41 Try.sizeOf41) rfl ?_
    refine Tr.q (QS.move rfl) rfl ?_
    refine Tr.q (QS.eql rfl rfl) rfl ?_
    refine Tr.storeW rfl rfl Try.sizeOf41 (by repeat (first | exact Put.here _ | apply Put.there)) (by rfl) (by rfl) (by first | exact List.all_eq_true.1 rfl | exact Enc.one _ _ | exact Enc.one encIns _) rfl ?_
    refine Tr.q (QS.assign rfl) rfl ?_
    refine Tr.nil ?_
    refine Tr.thenN ?_
    refine Tr.ret ?_
    refine Tr.retC2 Try.results19 rfl rfl (by repeat (first | exact List.Mem.head _ | apply List.Mem.tail)) Try.isAgg41 Try.sizeOf41 (by rfl) (fun w' hw => ?_)
    exact ⟨by unfold atP; rw [if_neg (by simp [hna])]; rfl, hw.below (Bg.le.refl _)⟩
set_option maxRecDepth 100000 in
set_option maxHeartbeats 4000000 in
theorem leads_any (l : List SecV) (es : List UInt32) (ts : List TabV) (at_ : List UInt32) (V VE VT VP : Value) (li : List Ins) (Vi Ve Vu Vb : Value) (a : UInt32) (w : World) (hV : Sl (hp w) encSec l V) (hE : Sl (hp w) encU32 es VE) (hT : Sl (hp w) encTab ts VT) (hP : Sl (hp w) encU32 at_ VP) (hI : Sl (hp w) encIns li Vi) (hIO : ∀ x ∈ li, InsOK x) (hl : ts.length = at_.length) (hTI : TabIn (hp w) ts) (hTB : TabB ts) :
    Calls Try.prog 20 #[.agg #[V, VE, VT, VP], .agg #[Vi, Ve, Vu, Vb], .int .u32 a.toNat] w (fun e w' => e = .returned (.bool (leadsP es ts at_ li a)) ∧ Ext w w') := by
  have hV' : Sl (Bg.of w).blk encSec l V := hV
  have hE' : Sl (Bg.of w).blk encU32 es VE := hE
  have hT' : Sl (Bg.of w).blk encTab ts VT := hT
  have hP' : Sl (Bg.of w).blk encU32 at_ VP := hP
  have hI' : Sl (Bg.of w).blk encIns li Vi := hI
  have hlen := hI.len_le
  have hTI' : TabIn (Bg.of w).blk ts := hTI
  refine enter Try.func20 rfl Try.ntmps20 rfl ?_
  refine Tr.seq ?_
  refine Tr.region ?_
  refine Tr.box rfl rfl rfl (fun b1 => ?_)
  refine Tr.box rfl rfl rfl (fun b2 => ?_)
  refine Tr.q (QS.assign rfl) rfl ?_
  refine Tr.nil ?_
  refine Tr.thenN ?_
  refine Tr.seq ?_
  refine Tr.seq ?_
  refine Tr.region ?_
  refine Tr.q (QS.fieldAddr (off := 1) (ft := 23) rfl Try.underlying26 rfl rfl Try.sizeOf23 (by decide)) rfl ?_
  refine Tr.q (QS.lV rfl Try.isAgg23) rfl ?_
  refine Tr.q (QS.move rfl) rfl ?_
  refine Tr.q (QS.call rfl Try.call18 (fun w hw => has12_any es VE a w (hw.slF hE'))) rfl ?_
  refine Tr.nil ?_
  refine Tr.thenN ?_
  refine Tr.cond rfl (fun h3 => ?_) (fun h3 => ?_)
  · try simp only [bs] at h3
    refine Tr.seq ?_
    refine Tr.region ?_
    refine Tr.q (QS.assign rfl) rfl ?_
    refine Tr.nil ?_
    refine Tr.thenN ?_
    refine Tr.ret ?_
    refine Tr.thenR ?_
    refine Tr.ret1 Try.results20 rfl (fun w' hw => ?_)
    exact ⟨by unfold leadsP; simp_all, hw.below (Bg.le.refl _)⟩
  · try simp only [bs] at h3
    refine Tr.skip ?_
    refine Tr.thenN ?_
    refine Tr.seq ?_
    refine Tr.seq ?_
    refine Tr.region ?_
    refine Tr.q (QS.assign rfl) rfl ?_
    refine Tr.nil ?_
    refine Tr.thenN ?_
    refine Tr.block ?_
    refine Tr.loop (ι := Nat) (fun k => k ≤ li.length ∧ (li.take k).any (fun i => hasU (succP i) a || (indP i.op && hasU ((knownP ts at_ i.addr).getD []) a)) = false) (fun _ => _) (fun k => [cellE b2 [Vi, Ve, Vu, Vb] 31, cellE b1 [V, VE, VT, VP] 26]) (fun k => [(7, .int .i64 (k : Nat))]) (fun k => li.length - k) 0 ⟨Nat.zero_le _, rfl⟩ (.cons (by first | rfl | exact lookI rfl (by omega) | exact lookI rfl (by simp) | exact lookB rfl (by simp)) Front.nil) (by repeat' (first | exact Pick.nil _ | exact Del.here _ | apply Pick.cons | apply Del.there)) rfl (fun k hi m hm => ?_)
    replace hi : k ≤ li.length ∧ (li.take k).any (fun i => hasU (succP i) a || (indP i.op && hasU ((knownP ts at_ i.addr).getD []) a)) = false := hi
    replace hm : m = li.length - k := hm
    change Tr _ _ [cellE b2 [Vi, Ve, Vu, Vb] 31, cellE b1 [V, VE, VT, VP] 26] ([(7, .int .i64 (k : Nat))] ++ _) _
    obtain ⟨hk1, hk2⟩ := hi
    refine Tr.seq ?_
    refine Tr.seq ?_
    refine Tr.region ?_
    refine Tr.q (QS.move rfl) rfl ?_
    refine Tr.q (QS.fieldAddr (off := 0) (ft := 29) rfl Try.underlying31 rfl rfl Try.sizeOf29 (by decide)) rfl ?_
    refine Tr.q (QS.lV rfl Try.isAgg29) rfl ?_
    refine Tr.q (QS.len rfl (by assumption) Try.underlying29) rfl ?_
    refine Tr.q (QS.lss rfl rfl) rfl ?_
    refine Tr.nil ?_
    refine Tr.thenN ?_
    refine Tr.cond rfl (fun h4 => ?_) (fun h4 => ?_)
    · try simp only [bs] at h4
      refine Tr.skip ?_
      refine Tr.thenN ?_
      refine Tr.seq ?_
      refine Tr.block ?_
      refine Tr.seq ?_
      refine Tr.regionQ HLF.mixed (by kernel_rfl) ?_
      refine TrQ.q (QS.fieldAddr (off := 0) (ft := 29) rfl Try.underlying31 rfl rfl Try.sizeOf29 (by decide)) rfl ?_
      refine TrQ.q (QS.lV rfl Try.isAgg29) rfl ?_
      refine TrQ.q (QS.move rfl) rfl ?_
      refine TrQ.q (QS.idxN rfl rfl (by assumption) Try.underlying29 Try.sizeOf41 (by rfl) (by omega)) rfl ?_
      refine TrQ.q (QS.fieldAddr (off := 0) (ft := 39) rfl Try.underlying41 rfl rfl Try.sizeOf39 (by decide)) rfl ?_
      refine TrQ.q (QS.elF rfl (by assumption) Try.isAgg39 (by omega) (by rfl)) rfl ?_
      refine TrQ.q (QS.fieldAddr (off := 2) (ft := 24) rfl Try.underlying26 rfl rfl Try.sizeOf24 (by decide)) rfl ?_
      refine TrQ.q (QS.lV rfl Try.isAgg24) rfl ?_
      refine TrQ.q (QS.fieldAddr (off := 3) (ft := 23) rfl Try.underlying26 rfl rfl Try.sizeOf23 (by decide)) rfl ?_
      refine TrQ.q (QS.lV rfl Try.isAgg23) rfl ?_
      refine TrQ.q (QS.call rfl Try.call15 (fun w hw => known12_any (li.getD k default).addr ts at_ VT VP w (hw.slF hT') (hw.slF hP') hl)) rfl ?_
      refine TrQ.q (QS.move rfl) rfl ?_
      refine TrQ.q (QS.extract rfl rfl) rfl ?_
      refine TrQ.q (QS.extract rfl rfl) rfl ?_
      refine TrQ.q (QS.assign rfl) rfl ?_
      refine TrQ.q (QS.assign rfl) rfl ?_
      refine TrQ.nil ?_
      refine Tr.thenN ?_
      refine Tr.seq ?_
      refine Tr.region ?_
      refine Tr.q (QS.fieldAddr (off := 0) (ft := 29) rfl Try.underlying31 rfl rfl Try.sizeOf29 (by decide)) rfl ?_
      refine Tr.q (QS.lV rfl Try.isAgg29) rfl ?_
      refine Tr.q (QS.move rfl) rfl ?_
      refine Tr.q (QS.idxN rfl rfl (by assumption) Try.underlying29 Try.sizeOf41 (by rfl) (by omega)) rfl ?_
      refine Tr.q (QS.elA rfl (by assumption) Try.isAgg41 Try.sizeOf41 (by rfl) (by omega)) rfl ?_
      refine Tr.callRow rfl Try.call17 (fun w hw => succ_any (li.getD k default) w (hIO _ (mem_getD (by omega)))) rfl (fun V5 => ?_)
      refine Tr.q (QS.move rfl) rfl ?_
      refine Tr.q (QS.call rfl Try.call18 (fun w hw => has12_any (succP (li.getD k default)) _ a w (hw.row (.head _)))) rfl ?_
      refine Tr.q (QS.move rfl) rfl ?_
      apply Tr.orP
      · exact (rfl : _ = (13, 43, 56))
      · exact rfl
      · intro hF6; have hF6' := hF6
        try simp only [bs] at hF6'
        refine Tr.gq rfl rfl hF6 (QS.fieldAddr (off := 0) (ft := 29) rfl Try.underlying31 rfl rfl Try.sizeOf29 (by decide)) rfl ?_
        refine Tr.gq rfl rfl hF6 (QS.lV rfl Try.isAgg29) rfl ?_
        refine Tr.gq rfl rfl hF6 (QS.move rfl) rfl ?_
        refine Tr.gq rfl rfl hF6 (QS.idxN rfl rfl (by assumption) Try.underlying29 Try.sizeOf41 (by rfl) (by omega)) rfl ?_
        refine Tr.gq rfl rfl hF6 (QS.fieldAddr (off := 2) (ft := 3) rfl Try.underlying41 rfl rfl Try.sizeOf3 (by decide)) rfl ?_
        refine Tr.gq rfl rfl hF6 (QS.elF rfl (by assumption) Try.isAgg3 (by omega) (by rfl)) rfl ?_
        refine Tr.gq rfl rfl hF6 (QS.call rfl Try.call16 (fun w hw => indirect12_any (li.getD k default).op w)) rfl ?_
        refine Tr.gq rfl rfl hF6 (QS.move rfl) rfl ?_
        apply Tr.andP
        · exact (rfl : _ = (4, 51, 55))
        · exact rfl
        · intro hT7; have hT7' := hT7
          try simp only [bs] at hT7'
          refine Tr.gq rfl rfl hT7 (QS.move rfl) rfl ?_
          refine Tr.gq rfl rfl hT7 (QS.move rfl) rfl ?_
          refine Tr.gq rfl rfl hT7 (QS.call rfl Try.call18 (fun w hw => has12_any ((knownP ts at_ (li.getD k default).addr).getD []) _ a w (hw.slF (known_sl hTI' hTB hl)))) rfl ?_
          refine Tr.gq rfl rfl hF6 (QS.pickT rfl hT7 rfl) rfl ?_
          refine Tr.nil (Tr.thenN ?_)
          exact Tr.endX (Sub.cons rfl (Sub.dropN 4 (by kernel_rfl) rfl))
        · intro hF7
          refine Tr.gskip rfl rfl hF7 rfl ?_
          refine Tr.gskip rfl rfl hF7 rfl ?_
          refine Tr.gskip rfl rfl hF7 rfl ?_
          refine Tr.gq rfl rfl hF6 (QS.pickF rfl hF7 rfl) rfl ?_
          refine Tr.nil (Tr.thenN ?_)
          exact Tr.endX (Sub.cons rfl (Sub.dropN 4 (by kernel_rfl) rfl))
        refine Tr.q (QS.pickF rfl hF6 rfl) rfl ?_
        refine Tr.nil (Tr.thenN ?_)
        exact Tr.endX (Sub.cons rfl (Sub.dropN 10 (by kernel_rfl) rfl))
      · intro hT6
        refine Tr.gskip rfl rfl hT6 rfl ?_
        refine Tr.gskip rfl rfl hT6 rfl ?_
        refine Tr.gskip rfl rfl hT6 rfl ?_
        refine Tr.gskip rfl rfl hT6 rfl ?_
        refine Tr.gskip rfl rfl hT6 rfl ?_
        refine Tr.gskip rfl rfl hT6 rfl ?_
        refine Tr.gskip rfl rfl hT6 rfl ?_
        refine Tr.gskip rfl rfl hT6 rfl ?_
        refine Tr.gskipU rfl rfl rfl ?_
        refine Tr.gskipU rfl rfl rfl ?_
        refine Tr.gskipU rfl rfl rfl ?_
        refine Tr.gskip rfl rfl hT6 rfl ?_
        refine Tr.q (QS.pickT rfl hT6 rfl) rfl ?_
        refine Tr.nil (Tr.thenN ?_)
        exact Tr.endX (Sub.cons rfl (Sub.dropN 13 (by kernel_rfl) rfl))
      refine Tr.nil ?_
      refine Tr.thenN ?_
      refine Tr.cond rfl (fun h8 => ?_) (fun h8 => ?_)
      · try simp only [bs] at h8
        refine Tr.seq ?_
        refine Tr.region ?_
        refine Tr.q (QS.assign rfl) rfl ?_
        refine Tr.nil ?_
        refine Tr.thenN ?_
        refine Tr.ret ?_
        refine Tr.inR ?_
        refine Tr.thenR ?_
        refine Tr.thenR ?_
        refine Tr.inR ?_
        refine Tr.thenR ?_
        refine Tr.ret1 Try.results20 rfl (fun w' hw => ?_)
        have hyes : (hasU (succP (li.getD k default)) a || (indP (li.getD k default).op && hasU ((knownP ts at_ (li.getD k default).addr).getD []) a)) = true := by rw [Bool.or_eq_true, Bool.and_eq_true]; assumption
        exact ⟨by unfold leadsP; rw [List.any_eq_true.2 ⟨_, mem_getD (k := k) (by omega), hyes⟩, Bool.or_true], hw.below (Bg.le.refl _)⟩
      · try simp only [bs] at h8
        refine Tr.skip ?_
        refine Tr.inN ?_
        refine Tr.thenN ?_
        refine Tr.region ?_
        refine Tr.q (QS.move rfl) rfl ?_
        refine Tr.q (QS.addI rfl rfl (by omega)) rfl ?_
        refine Tr.q (QS.assign rfl) rfl ?_
        refine Tr.nil ?_
        refine Tr.thenN ?_
        have hne : (hasU (succP (li.getD k default)) a || (indP (li.getD k default).op && hasU ((knownP ts at_ (li.getD k default).addr).getD []) a)) = false := by rw [Bool.or_eq_false_iff, Bool.and_eq_false_iff]; assumption
        apply Tr.again (k + 1)
        · exact rfl
        · exact (.cons (by first | rfl | exact lookI rfl (by omega) | exact lookI rfl (by simp) | exact lookB rfl (by simp)) Front.nil)
        · exact SubX.dropN 35 (by kernel_rfl) rfl
        · exact (by repeat' (first | exact Pick.nil _ | exact Del.here _ | apply Pick.cons | apply Del.there))
        · exact ⟨by omega, by rw [any_take_succ (by omega), hk2, hne]; rfl⟩
        · exact (by (try dsimp only); omega)
    · try simp only [bs] at h4
      refine Tr.exit ?_
      refine Tr.thenE ?_
      refine Tr.thenE ?_
      refine Tr.inHit ?_
      refine Tr.thenN ?_
      refine Tr.seq ?_
      refine Tr.region ?_
      refine Tr.q (QS.assign rfl) rfl ?_
      refine Tr.nil ?_
      refine Tr.thenN ?_
      refine Tr.ret ?_
      refine Tr.ret1 Try.results20 rfl (fun w' hw => ?_)
      exact ⟨by rw [List.take_of_length_le (by omega)] at hk2; unfold leadsP; rw [hk2]; simp_all, hw.below (Bg.le.refl _)⟩
set_option maxRecDepth 100000 in
set_option maxHeartbeats 8000000 in
theorem decodes12_true (l : List SecV) (es : List UInt32) (ts : List TabV) (at_ : List UInt32) (V VE VT VP : Value) (w : World) (hV : Sl (hp w) encSec l V) (hE : Sl (hp w) encU32 es VE) (hT : Sl (hp w) encTab ts VT) (hP : Sl (hp w) encU32 at_ VP) (hD : DataIn (hp w) l) (hTI : TabIn (hp w) ts) (hN : ∀ s ∈ l, s.name.size ≤ 140737488351232) :
    Calls Try.prog 4 #[.agg #[V, VE, VT, VP]] w (fun e w' => e = .returned (.bool true) ∧ Below w.heap.size w w') := by
  have hV0 : Sl (Bg.of0 w).blk encSec l V := hV
  have hD0 : DataIn (Bg.of0 w).blk l := hD
  have hE0 : Sl (Bg.of0 w).blk encU32 es VE := hE
  have hT0 : Sl (Bg.of0 w).blk encTab ts VT := hT
  have hTI0 : TabIn (Bg.of0 w).blk ts := hTI
  have hP0 : Sl (Bg.of0 w).blk encU32 at_ VP := hP
  obtain ⟨sa1, sc1, hv1, _⟩ := hV.shape
  subst hv1
  obtain ⟨sa2, sc2, hv2, _⟩ := hE.shape
  subst hv2
  obtain ⟨sa3, sc3, hv3, _⟩ := hT.shape
  subst hv3
  obtain ⟨sa4, sc4, hv4, _⟩ := hP.shape
  subst hv4
  refine enter0 Try.func4 rfl Try.ntmps4 rfl ?_
  refine Tr.seq ?_
  refine Tr.region ?_
  refine Tr.box rfl rfl rfl (fun b1 => ?_)
  refine Tr.q (QS.assign rfl) rfl ?_
  refine Tr.nil ?_
  refine Tr.thenN ?_
  refine Tr.seq ?_
  refine Tr.seq ?_
  refine Tr.region ?_
  refine Tr.q (QS.lW rfl Try.isAgg26 Try.sizeOf26) rfl ?_
  refine Tr.q (QS.call rfl Try.call10 (fun w hw => few12_any l es ts at_ _ _ _ _ w (hw.slF hV0) (hw.slF hE0) (hw.slF hT0) (hw.slF hP0))) rfl ?_
  refine Tr.q (QS.not rfl) rfl ?_
  refine Tr.nil ?_
  refine Tr.thenN ?_
  refine Tr.cond rfl (fun h2 => ?_) (fun h2 => ?_)
  · try simp only [bs] at h2
    refine Tr.seq ?_
    refine Tr.region ?_
    refine Tr.q (QS.call0 rfl rfl Try.call11 (fun w hw => example12_any w)) rfl ?_
    refine Tr.q (QS.assign rfl) rfl ?_
    refine Tr.nil ?_
    refine Tr.thenN ?_
    refine Tr.ret ?_
    refine Tr.thenR ?_
    refine Tr.ret1 Try.results4 rfl (fun w' hw => ?_)
    exact ⟨rfl, hw.below0 (Bg.le.refl _)⟩
  · try simp only [bs] at h2
    refine Tr.skip ?_
    refine Tr.thenN ?_
    refine Tr.seq ?_
    have hfw := few_of (by assumption)
    refine Tr.region ?_
    refine Tr.q (QS.lW rfl Try.isAgg26 Try.sizeOf26) rfl ?_
    refine Tr.callEnts0 (fun i : ((Value × Value × Value × Value) × CodeP × Int) => .tuple #[.agg #[i.1.1, i.1.2.1, i.1.2.2.1, i.1.2.2.2], .int .i64 i.2.2]) (fun i : ((Value × Value × Value × Value) × CodeP × Int) => [rowE i.1.1 41 encIns i.2.1.ins, rowE i.1.2.1 39 encU32 i.2.1.ents, rowE i.1.2.2.1 39 encU32 i.2.1.unk, rowE i.1.2.2.2 39 encU32 i.2.1.bad]) (ok := fun i => WalkIs l ts at_ es i.2.1 i.2.2) (rfl) rfl Try.call12 (fun w hw => lwalk_any l ts at_ es _ _ _ _ w (hw.slF hV0) hfw.secB (hD0.mono hw.bg) hN (hw.slF hE0) (hw.slF hT0) (hTI0.mono hw.bg) hfw.tab (hw.slF hP0) hfw.tot (by have := hfw.es; omega)) rfl (fun i hi => ?_)
    obtain ⟨⟨Vi, Ve, Vu, Vb⟩, c, e0⟩ := i
    replace hi : WalkIs l ts at_ es c e0 := hi
    change Tr _ _ ([rowE Vi 41 encIns c.ins, rowE Ve 39 encU32 c.ents, rowE Vu 39 encU32 c.unk, rowE Vb 39 encU32 c.bad] ++ _) _ _
    refine Tr.rowShape (V := Vi) (by repeat (first | exact List.Mem.head _ | apply List.Mem.tail)) (fun pVi cVi hpv => ?_)
    subst hpv
    refine Tr.rowShape (V := Ve) (by repeat (first | exact List.Mem.head _ | apply List.Mem.tail)) (fun pVe cVe hpv => ?_)
    subst hpv
    refine Tr.rowShape (V := Vu) (by repeat (first | exact List.Mem.head _ | apply List.Mem.tail)) (fun pVu cVu hpv => ?_)
    subst hpv
    refine Tr.rowShape (V := Vb) (by repeat (first | exact List.Mem.head _ | apply List.Mem.tail)) (fun pVb cVb hpv => ?_)
    subst hpv
    refine Tr.q (QS.move rfl) rfl ?_
    refine Tr.q (QS.extract rfl rfl) rfl ?_
    refine Tr.q (QS.extract rfl rfl) rfl ?_
    refine Tr.alloc Try.zeroValue31 rfl rfl (fun b3 => ?_)
    refine Tr.storeW rfl rfl Try.sizeOf31 (by repeat (first | exact Put.here _ | apply Put.there)) (by rfl) (by rfl) (by first | exact List.all_eq_true.1 rfl | exact Enc.one _ _ | (intro u hu; simp [Value.cells] at hu; simp_all [Value.oneCell'])) rfl ?_
    refine Tr.q (QS.assign rfl) rfl ?_
    refine Tr.nil ?_
    refine Tr.thenN ?_
    refine Tr.seq ?_
    refine Tr.seq ?_
    refine Tr.frozen (V := .slice pVi c.ins.length cVi) (by repeat (first | exact Del.here _ | apply Del.there)) (fun F1 hF1 hcI0 => ?_)
    refine Tr.frozen (V := .slice pVe c.ents.length cVe) (by repeat (first | exact Del.here _ | apply Del.there)) (fun F2 hF2 hcE0 => ?_)
    refine Tr.frozen (V := .slice pVu c.unk.length cVu) (by repeat (first | exact Del.here _ | apply Del.there)) (fun F3 hF3 hcU0 => ?_)
    refine Tr.frozen (V := .slice pVb c.bad.length cVb) (by repeat (first | exact Del.here _ | apply Del.there)) (fun F4 hF4 hcB => ?_)
    have hcI := hcI0.mono (hF2.trans (hF3.trans hF4)).blk
    have hcE := hcE0.mono (hF3.trans hF4).blk
    have hcU := hcU0.mono hF4.blk
    have hF04 := hF1.trans (hF2.trans (hF3.trans hF4))
    have hdr4 : F4.dr = 0 := hF04.dr
    have hV4 := hV0.mono hF04.blk
    have hD4 := hD0.mono hF04.blk
    have hE4 := hE0.mono hF04.blk
    have hT4 := hT0.mono hF04.blk
    have hTI4 := hTI0.mono hF04.blk
    have hP4 := hP0.mono hF04.blk
    refine Tr.region ?_
    refine Tr.q (QS.move rfl) rfl ?_
    refine Tr.q (QS.neq rfl rfl) rfl ?_
    refine Tr.nil ?_
    refine Tr.thenN ?_
    refine Tr.cond rfl (fun h4 => ?_) (fun h4 => ?_)
    · try simp only [bs] at h4
      refine Tr.seq ?_
      have hcz := hi.err (by assumption)
      refine Tr.region ?_
      refine Tr.q (QS.lW rfl Try.isAgg31 Try.sizeOf31) rfl ?_
      refine Tr.q (QS.call rfl Try.call13 (fun w hw => none12_any c.ins c.ents c.unk c.bad _ _ _ _ w (hw.slF hcI) (hw.slF hcE) (hw.slF hcU) (hw.slF hcB) (by rw [hcz]; decide) (by rw [hcz]; decide) (by rw [hcz]; decide) (by rw [hcz]; decide))) rfl ?_
      refine Tr.q (QS.move rfl) rfl ?_
      apply Tr.andP
      · exact (rfl : _ = (2, 24, 26))
      · exact rfl
      · intro hT5; have hT5' := hT5
        try simp only [bs] at hT5'
        refine Tr.gq rfl rfl hT5 (QS.call0 hdr4 rfl Try.call11 (fun w hw => example12_any w)) rfl ?_
        refine Tr.q (QS.pickT rfl hT5 rfl) rfl ?_
        refine Tr.nil (Tr.thenN ?_)
        exact Tr.endX (Sub.cons rfl (Sub.dropN 2 (by kernel_rfl) rfl))
      · intro hF5
        refine Tr.gskip rfl rfl hF5 rfl ?_
        refine Tr.q (QS.pickF rfl hF5 rfl) rfl ?_
        refine Tr.nil (Tr.thenN ?_)
        exact Tr.endX (Sub.cons rfl (Sub.dropN 2 (by kernel_rfl) rfl))
      refine Tr.q (QS.assign rfl) rfl ?_
      refine Tr.nil ?_
      refine Tr.thenN ?_
      refine Tr.ret ?_
      refine Tr.thenR ?_
      refine Tr.ret1 Try.results4 rfl (fun w' hw => ?_)
      exact ⟨by rw [hcz]; rfl, hw.below0 hF04⟩
    · try simp only [bs] at h4
      refine Tr.skip ?_
      refine Tr.thenN ?_
      refine Tr.seq ?_
      refine Tr.seq ?_
      obtain ⟨hl, hcode⟩ := hi.good (by assumption)
      have hcl1 := hcI.len_le
      have hcl2 := hcB.len_le
      have hcl3 := hcE.len_le
      refine Tr.region ?_
      refine Tr.q (QS.assign rfl) rfl ?_
      refine Tr.nil ?_
      refine Tr.thenN ?_
      refine Tr.block ?_
      refine Tr.loop (ι := Nat) (fun k => k ≤ c.ins.length) (fun _ => _) (fun k => [cellE b3 [.slice pVi c.ins.length cVi, .slice pVe c.ents.length cVe, .slice pVu c.unk.length cVu, .slice pVb c.bad.length cVb] 31, cellE b1 [.slice sa1 l.length sc1, .slice sa2 es.length sc2, .slice sa3 ts.length sc3, .slice sa4 at_.length sc4] 26]) (fun k => [(5, .int .i64 (k : Nat))]) (fun k => c.ins.length - k) 0 (Nat.zero_le _) (.cons (by first | rfl | exact lookI rfl (by omega) | exact lookI rfl (by simp) | exact lookB rfl (by simp)) Front.nil) (by repeat' (first | exact Pick.nil _ | exact Del.here _ | apply Pick.cons | apply Del.there)) rfl (fun k hi m hm => ?_)
      replace hi : k ≤ c.ins.length := hi
      replace hm : m = c.ins.length - k := hm
      change Tr _ _ [cellE b3 [.slice pVi c.ins.length cVi, .slice pVe c.ents.length cVe, .slice pVu c.unk.length cVu, .slice pVb c.bad.length cVb] 31, cellE b1 [.slice sa1 l.length sc1, .slice sa2 es.length sc2, .slice sa3 ts.length sc3, .slice sa4 at_.length sc4] 26] ([(5, .int .i64 (k : Nat))] ++ _) _
      refine Tr.seq ?_
      refine Tr.seq ?_
      refine Tr.region ?_
      refine Tr.q (QS.move rfl) rfl ?_
      refine Tr.q (QS.fieldAddr (off := 0) (ft := 29) rfl Try.underlying31 rfl rfl Try.sizeOf29 (by decide)) rfl ?_
      refine Tr.q (QS.lV rfl Try.isAgg29) rfl ?_
      refine Tr.q (QS.len rfl (by assumption) Try.underlying29) rfl ?_
      refine Tr.q (QS.lss rfl rfl) rfl ?_
      refine Tr.nil ?_
      refine Tr.thenN ?_
      refine Tr.cond rfl (fun h6 => ?_) (fun h6 => ?_)
      · try simp only [bs] at h6
        refine Tr.skip ?_
        refine Tr.thenN ?_
        refine Tr.seq ?_
        refine Tr.block ?_
        refine Tr.seq ?_
        have hq := hcode.mem (mem_getD (l := c.ins) (k := k) (by omega))
        have hq2 := hq.2.1
        have hq3 := hq.2.2.symm
        refine Tr.regionH ([cellE b3 [.slice pVi c.ins.length cVi, .slice pVe c.ents.length cVe, .slice pVu c.unk.length cVu, .slice pVb c.bad.length cVb] 31, cellE b1 [.slice sa1 l.length sc1, .slice sa2 es.length sc2, .slice sa3 ts.length sc3, .slice sa4 at_.length sc4] 26]) 15 rfl HLF.mixed ?_
        refine Tr.hT 0 rfl (by kernel_rfl) (panicThen (panicIn (panicThen (panicThen (panicIn (panicThen panicBody)))))) (QS.fieldAddr (off := 0) (ft := 22) rfl Try.underlying26 rfl rfl Try.sizeOf22 (by decide)) ?_
        refine Tr.hT 1 rfl (by kernel_rfl) (panicThen (panicIn (panicThen (panicThen (panicIn (panicThen panicBody)))))) (QS.lV rfl Try.isAgg22) ?_
        refine Tr.hT 2 rfl (by kernel_rfl) (panicThen (panicIn (panicThen (panicThen (panicIn (panicThen panicBody)))))) (QS.fieldAddr (off := 0) (ft := 29) rfl Try.underlying31 rfl rfl Try.sizeOf29 (by decide)) ?_
        refine Tr.hT 3 rfl (by kernel_rfl) (panicThen (panicIn (panicThen (panicThen (panicIn (panicThen panicBody)))))) (QS.lV rfl Try.isAgg29) ?_
        refine Tr.hT 4 rfl (by kernel_rfl) (panicThen (panicIn (panicThen (panicThen (panicIn (panicThen panicBody)))))) (QS.move rfl) ?_
        refine Tr.hT 5 rfl (by kernel_rfl) (panicThen (panicIn (panicThen (panicThen (panicIn (panicThen panicBody)))))) (QS.idxN rfl rfl (by assumption) Try.underlying29 Try.sizeOf41 (by rfl) (by omega)) ?_
        refine Tr.hT 6 rfl (by kernel_rfl) (panicThen (panicIn (panicThen (panicThen (panicIn (panicThen panicBody)))))) (QS.fieldAddr (off := 0) (ft := 39) rfl Try.underlying41 rfl rfl Try.sizeOf39 (by decide)) ?_
        refine Tr.hT 7 rfl (by kernel_rfl) (panicThen (panicIn (panicThen (panicThen (panicIn (panicThen panicBody)))))) (QS.elF rfl (by assumption) Try.isAgg39 (by omega) (by rfl)) ?_
        refine Tr.hAll [8, 12] (by kernel_rfl) (by simp) (fun iq hq => ?_)
        rcases List.mem_cons.1 hq with rfl | hq
        · skip
          refine Tr.hOp rfl ?_
          refine Tr.q (QS.call rfl Try.call19 (fun w hw => decoded_any l _ (c.ins.getD k default).addr w (hw.slF hV4) hfw.secB (hD4.mono hw.bg))) rfl ?_
          refine Tr.hN ?_
          refine Tr.hT 9 rfl (by kernel_rfl) (panicThen (panicIn (panicThen (panicThen (panicIn (panicThen panicBody)))))) (QS.move rfl) ?_
          refine Tr.hT 10 rfl (by kernel_rfl) (panicThen (panicIn (panicThen (panicThen (panicIn (panicThen panicBody)))))) (QS.extract rfl rfl) ?_
          refine Tr.hT 11 rfl (by kernel_rfl) (panicThen (panicIn (panicThen (panicThen (panicIn (panicThen panicBody)))))) (QS.extract rfl rfl) ?_
          refine Tr.hAll [12] (by kernel_rfl) (by simp) (fun iq hq => ?_)
          obtain rfl := List.mem_singleton.1 hq
          refine Tr.hOp rfl ?_
          refine Tr.alloc Try.zeroValue41 rfl rfl (fun b7 => ?_)
          refine Tr.hN ?_
          refine Tr.hAll [13] (by kernel_rfl) (by simp) (fun iq hq => ?_)
          obtain rfl := List.mem_singleton.1 hq
          refine Tr.hOp rfl ?_
          refine Tr.storeW rfl rfl Try.sizeOf41 (by repeat (first | exact Put.here _ | apply Put.there)) (by rfl) (by rfl) (by first | exact List.all_eq_true.1 rfl | exact Enc.one _ _ | exact Enc.one encIns _) rfl ?_
          refine Tr.hN ?_
          refine Tr.hT 14 rfl (by kernel_rfl) (panicThen (panicIn (panicThen (panicThen (panicIn (panicThen panicBody)))))) (QS.assign rfl) ?_
          refine Tr.hDone (by kernel_rfl) ?_
          refine Tr.thenN ?_
          refine Tr.seq ?_
          refine Tr.regionQ HLF.mixed (by kernel_rfl) ?_
          refine TrQ.q (QS.move rfl) rfl ?_
          refine TrQ.q (QS.not rfl) rfl ?_
          refine TrQ.q (QS.move rfl) rfl ?_
          apply TrQ.orP
          · exact (rfl : _ = (8, 48, 56))
          · exact rfl
          · intro hF8; have hF8' := hF8
            try simp only [bs] at hF8'
            refine TrQ.gq rfl rfl hF8 (QS.lW rfl Try.isAgg41 Try.sizeOf41) rfl ?_
            refine TrQ.gq rfl rfl hF8 (QS.fieldAddr (off := 0) (ft := 29) rfl Try.underlying31 rfl rfl Try.sizeOf29 (by decide)) rfl ?_
            refine TrQ.gq rfl rfl hF8 (QS.lV rfl Try.isAgg29) rfl ?_
            refine TrQ.gq rfl rfl hF8 (QS.move rfl) rfl ?_
            refine TrQ.gq rfl rfl hF8 (QS.idxN rfl rfl (by assumption) Try.underlying29 Try.sizeOf41 (by rfl) (by omega)) rfl ?_
            refine TrQ.gq rfl rfl hF8 (QS.elA rfl (by assumption) Try.isAgg41 Try.sizeOf41 (by rfl) (by omega)) rfl ?_
            refine TrQ.gq rfl rfl hF8 (QS.neqE rfl rfl insEqEnc Try.underlying41 (HLF.words41 _ Try.underlying41) rfl HLF.held41 HLF.eqg41) rfl ?_
            refine TrQ.q (QS.pickF rfl hF8 rfl) rfl ?_
            exact TrQ.end (Sub.cons rfl (Sub.dropN 8 (by kernel_rfl) rfl))
          · intro hT8
            refine TrQ.gskip rfl rfl hT8 rfl ?_
            refine TrQ.gskip rfl rfl hT8 rfl ?_
            refine TrQ.gskip rfl rfl hT8 rfl ?_
            refine TrQ.gskip rfl rfl hT8 rfl ?_
            refine TrQ.gskip rfl rfl hT8 rfl ?_
            refine TrQ.gskip rfl rfl hT8 rfl ?_
            refine TrQ.gskip rfl rfl hT8 rfl ?_
            refine TrQ.q (QS.pickT rfl hT8 rfl) rfl ?_
            exact TrQ.end (Sub.cons rfl (Sub.dropN 8 (by kernel_rfl) rfl))
          refine TrQ.nil ?_
          refine Tr.thenN ?_
          refine Tr.cond rfl (fun h9 => ?_) (fun h9 => ?_)
          · try simp only [bs] at h9
            rcases h9 with q | q
            · rw [hq2] at q; cases q
            · exact absurd hq3 q
          · try simp only [bs] at h9
            refine Tr.skip ?_
            refine Tr.inN ?_
            refine Tr.thenN ?_
            refine Tr.region ?_
            refine Tr.q (QS.move rfl) rfl ?_
            refine Tr.q (QS.addI rfl rfl (by omega)) rfl ?_
            refine Tr.q (QS.assign rfl) rfl ?_
            refine Tr.nil ?_
            refine Tr.thenN ?_
            apply Tr.again (k + 1)
            · exact rfl
            · exact (.cons (by first | rfl | exact lookI rfl (by omega) | exact lookI rfl (by simp) | exact lookB rfl (by simp)) Front.nil)
            · exact SubX.dropN 27 (by kernel_rfl) rfl
            · exact (by repeat' (first | exact Pick.nil _ | exact Del.here _ | apply Pick.cons | apply Del.there))
            · exact (by show k + 1 ≤ _; omega)
            · exact (by (try dsimp only); omega)
        obtain rfl := List.mem_singleton.1 hq
        refine Tr.hOp rfl ?_
        refine Tr.alloc Try.zeroValue41 rfl rfl (fun b10 => ?_)
        refine Tr.hN ?_
        refine Tr.hAll [8] (by kernel_rfl) (by simp) (fun iq hq => ?_)
        obtain rfl := List.mem_singleton.1 hq
        refine Tr.hOp rfl ?_
        refine Tr.q (QS.call rfl Try.call19 (fun w hw => decoded_any l _ (c.ins.getD k default).addr w (hw.slF hV4) hfw.secB (hD4.mono hw.bg))) rfl ?_
        refine Tr.hN ?_
        refine Tr.hT 9 rfl (by kernel_rfl) (panicThen (panicIn (panicThen (panicThen (panicIn (panicThen panicBody)))))) (QS.move rfl) ?_
        refine Tr.hT 10 rfl (by kernel_rfl) (panicThen (panicIn (panicThen (panicThen (panicIn (panicThen panicBody)))))) (QS.extract rfl rfl) ?_
        refine Tr.hT 11 rfl (by kernel_rfl) (panicThen (panicIn (panicThen (panicThen (panicIn (panicThen panicBody)))))) (QS.extract rfl rfl) ?_
        refine Tr.hAll [13] (by kernel_rfl) (by simp) (fun iq hq => ?_)
        obtain rfl := List.mem_singleton.1 hq
        refine Tr.hOp rfl ?_
        refine Tr.storeW rfl rfl Try.sizeOf41 (by repeat (first | exact Put.here _ | apply Put.there)) (by rfl) (by rfl) (by first | exact List.all_eq_true.1 rfl | exact Enc.one _ _ | exact Enc.one encIns _) rfl ?_
        refine Tr.hN ?_
        refine Tr.hT 14 rfl (by kernel_rfl) (panicThen (panicIn (panicThen (panicThen (panicIn (panicThen panicBody)))))) (QS.assign rfl) ?_
        refine Tr.hDone (by kernel_rfl) ?_
        refine Tr.thenN ?_
        refine Tr.seq ?_
        refine Tr.regionQ HLF.mixed (by kernel_rfl) ?_
        refine TrQ.q (QS.move rfl) rfl ?_
        refine TrQ.q (QS.not rfl) rfl ?_
        refine TrQ.q (QS.move rfl) rfl ?_
        apply TrQ.orP
        · exact (rfl : _ = (8, 48, 56))
        · exact rfl
        · intro hF11; have hF11' := hF11
          try simp only [bs] at hF11'
          refine TrQ.gq rfl rfl hF11 (QS.lW rfl Try.isAgg41 Try.sizeOf41) rfl ?_
          refine TrQ.gq rfl rfl hF11 (QS.fieldAddr (off := 0) (ft := 29) rfl Try.underlying31 rfl rfl Try.sizeOf29 (by decide)) rfl ?_
          refine TrQ.gq rfl rfl hF11 (QS.lV rfl Try.isAgg29) rfl ?_
          refine TrQ.gq rfl rfl hF11 (QS.move rfl) rfl ?_
          refine TrQ.gq rfl rfl hF11 (QS.idxN rfl rfl (by assumption) Try.underlying29 Try.sizeOf41 (by rfl) (by omega)) rfl ?_
          refine TrQ.gq rfl rfl hF11 (QS.elA rfl (by assumption) Try.isAgg41 Try.sizeOf41 (by rfl) (by omega)) rfl ?_
          refine TrQ.gq rfl rfl hF11 (QS.neqE rfl rfl insEqEnc Try.underlying41 (HLF.words41 _ Try.underlying41) rfl HLF.held41 HLF.eqg41) rfl ?_
          refine TrQ.q (QS.pickF rfl hF11 rfl) rfl ?_
          exact TrQ.end (Sub.cons rfl (Sub.dropN 8 (by kernel_rfl) rfl))
        · intro hT11
          refine TrQ.gskip rfl rfl hT11 rfl ?_
          refine TrQ.gskip rfl rfl hT11 rfl ?_
          refine TrQ.gskip rfl rfl hT11 rfl ?_
          refine TrQ.gskip rfl rfl hT11 rfl ?_
          refine TrQ.gskip rfl rfl hT11 rfl ?_
          refine TrQ.gskip rfl rfl hT11 rfl ?_
          refine TrQ.gskip rfl rfl hT11 rfl ?_
          refine TrQ.q (QS.pickT rfl hT11 rfl) rfl ?_
          exact TrQ.end (Sub.cons rfl (Sub.dropN 8 (by kernel_rfl) rfl))
        refine TrQ.nil ?_
        refine Tr.thenN ?_
        refine Tr.cond rfl (fun h12 => ?_) (fun h12 => ?_)
        · try simp only [bs] at h12
          rcases h12 with q | q
          · rw [hq2] at q; cases q
          · exact absurd hq3 q
        · try simp only [bs] at h12
          refine Tr.skip ?_
          refine Tr.inN ?_
          refine Tr.thenN ?_
          refine Tr.region ?_
          refine Tr.q (QS.move rfl) rfl ?_
          refine Tr.q (QS.addI rfl rfl (by omega)) rfl ?_
          refine Tr.q (QS.assign rfl) rfl ?_
          refine Tr.nil ?_
          refine Tr.thenN ?_
          apply Tr.again (k + 1)
          · exact rfl
          · exact (.cons (by first | rfl | exact lookI rfl (by omega) | exact lookI rfl (by simp) | exact lookB rfl (by simp)) Front.nil)
          · exact SubX.dropN 27 (by kernel_rfl) rfl
          · exact (by repeat' (first | exact Pick.nil _ | exact Del.here _ | apply Pick.cons | apply Del.there))
          · exact (by show k + 1 ≤ _; omega)
          · exact (by (try dsimp only); omega)
      · try simp only [bs] at h6
        refine Tr.exit ?_
        refine Tr.thenE ?_
        refine Tr.thenE ?_
        refine Tr.inHit ?_
        refine Tr.thenN ?_
        refine Tr.seq ?_
        refine Tr.seq ?_
        refine Tr.region ?_
        refine Tr.q (QS.assign rfl) rfl ?_
        refine Tr.nil ?_
        refine Tr.thenN ?_
        refine Tr.block ?_
        refine Tr.loop (ι := Nat) (fun j => j ≤ c.bad.length) (fun _ => _) (fun j => [cellE b3 [.slice pVi c.ins.length cVi, .slice pVe c.ents.length cVe, .slice pVu c.unk.length cVu, .slice pVb c.bad.length cVb] 31, cellE b1 [.slice sa1 l.length sc1, .slice sa2 es.length sc2, .slice sa3 ts.length sc3, .slice sa4 at_.length sc4] 26]) (fun j => [(8, .int .i64 (j : Nat))]) (fun j => c.bad.length - j) 0 (Nat.zero_le _) (.cons (by first | rfl | exact lookI rfl (by omega) | exact lookI rfl (by simp) | exact lookB rfl (by simp)) Front.nil) (by repeat' (first | exact Pick.nil _ | exact Del.here _ | apply Pick.cons | apply Del.there)) rfl (fun j hi m hm => ?_)
        replace hi : j ≤ c.bad.length := hi
        replace hm : m = c.bad.length - j := hm
        change Tr _ _ [cellE b3 [.slice pVi c.ins.length cVi, .slice pVe c.ents.length cVe, .slice pVu c.unk.length cVu, .slice pVb c.bad.length cVb] 31, cellE b1 [.slice sa1 l.length sc1, .slice sa2 es.length sc2, .slice sa3 ts.length sc3, .slice sa4 at_.length sc4] 26] ([(8, .int .i64 (j : Nat))] ++ _) _
        refine Tr.seq ?_
        refine Tr.seq ?_
        refine Tr.region ?_
        refine Tr.q (QS.move rfl) rfl ?_
        refine Tr.q (QS.fieldAddr (off := 3) (ft := 23) rfl Try.underlying31 rfl rfl Try.sizeOf23 (by decide)) rfl ?_
        refine Tr.q (QS.lV rfl Try.isAgg23) rfl ?_
        refine Tr.q (QS.len rfl (by assumption) Try.underlying23) rfl ?_
        refine Tr.q (QS.lss rfl rfl) rfl ?_
        refine Tr.nil ?_
        refine Tr.thenN ?_
        refine Tr.cond rfl (fun h13 => ?_) (fun h13 => ?_)
        · try simp only [bs] at h13
          refine Tr.skip ?_
          refine Tr.thenN ?_
          refine Tr.seq ?_
          refine Tr.block ?_
          refine Tr.seq ?_
          have hq := ((hcode.bad.2 _).1 (mem_getD (l := c.bad) (k := j) (by omega))).2
          refine Tr.regionH ([cellE b3 [.slice pVi c.ins.length cVi, .slice pVe c.ents.length cVe, .slice pVu c.unk.length cVu, .slice pVb c.bad.length cVb] 31, cellE b1 [.slice sa1 l.length sc1, .slice sa2 es.length sc2, .slice sa3 ts.length sc3, .slice sa4 at_.length sc4] 26]) 14 rfl HLF.mixed ?_
          refine Tr.hT 0 rfl (by kernel_rfl) (panicThen (panicIn (panicThen (panicThen (panicIn (panicThen panicBody)))))) (QS.fieldAddr (off := 0) (ft := 22) rfl Try.underlying26 rfl rfl Try.sizeOf22 (by decide)) ?_
          refine Tr.hT 1 rfl (by kernel_rfl) (panicThen (panicIn (panicThen (panicThen (panicIn (panicThen panicBody)))))) (QS.lV rfl Try.isAgg22) ?_
          refine Tr.hT 2 rfl (by kernel_rfl) (panicThen (panicIn (panicThen (panicThen (panicIn (panicThen panicBody)))))) (QS.fieldAddr (off := 3) (ft := 23) rfl Try.underlying31 rfl rfl Try.sizeOf23 (by decide)) ?_
          refine Tr.hT 3 rfl (by kernel_rfl) (panicThen (panicIn (panicThen (panicThen (panicIn (panicThen panicBody)))))) (QS.lV rfl Try.isAgg23) ?_
          refine Tr.hT 4 rfl (by kernel_rfl) (panicThen (panicIn (panicThen (panicThen (panicIn (panicThen panicBody)))))) (QS.move rfl) ?_
          refine Tr.hT 5 rfl (by kernel_rfl) (panicThen (panicIn (panicThen (panicThen (panicIn (panicThen panicBody)))))) (QS.idxN rfl rfl (by assumption) Try.underlying23 Try.sizeOf39 (by rfl) (by omega)) ?_
          refine Tr.hT 6 rfl (by kernel_rfl) (panicThen (panicIn (panicThen (panicThen (panicIn (panicThen panicBody)))))) (QS.el1 rfl (by assumption) Try.isAgg39 (by omega) (by rfl)) ?_
          refine Tr.hAll [7, 11] (by kernel_rfl) (by simp) (fun iq hq => ?_)
          rcases List.mem_cons.1 hq with rfl | hq
          · skip
            refine Tr.hOp rfl ?_
            refine Tr.q (QS.call rfl Try.call19 (fun w hw => decoded_any l _ (c.bad.getD j default) w (hw.slF hV4) hfw.secB (hD4.mono hw.bg))) rfl ?_
            refine Tr.hN ?_
            refine Tr.hT 8 rfl (by kernel_rfl) (panicThen (panicIn (panicThen (panicThen (panicIn (panicThen panicBody)))))) (QS.move rfl) ?_
            refine Tr.hT 9 rfl (by kernel_rfl) (panicThen (panicIn (panicThen (panicThen (panicIn (panicThen panicBody)))))) (QS.extract rfl rfl) ?_
            refine Tr.hT 10 rfl (by kernel_rfl) (panicThen (panicIn (panicThen (panicThen (panicIn (panicThen panicBody)))))) (QS.extract rfl rfl) ?_
            refine Tr.hAll [11] (by kernel_rfl) (by simp) (fun iq hq => ?_)
            obtain rfl := List.mem_singleton.1 hq
            refine Tr.hOp rfl ?_
            refine Tr.alloc Try.zeroValue41 rfl rfl (fun b14 => ?_)
            refine Tr.hN ?_
            refine Tr.hAll [12] (by kernel_rfl) (by simp) (fun iq hq => ?_)
            obtain rfl := List.mem_singleton.1 hq
            refine Tr.hOp rfl ?_
            refine Tr.storeW rfl rfl Try.sizeOf41 (by repeat (first | exact Put.here _ | apply Put.there)) (by rfl) (by rfl) (by first | exact List.all_eq_true.1 rfl | exact Enc.one _ _ | exact Enc.one encIns _) rfl ?_
            refine Tr.hN ?_
            refine Tr.hT 13 rfl (by kernel_rfl) (panicThen (panicIn (panicThen (panicThen (panicIn (panicThen panicBody)))))) (QS.assign rfl) ?_
            refine Tr.hDone (by kernel_rfl) ?_
            refine Tr.thenN ?_
            refine Tr.seq ?_
            refine Tr.region ?_
            refine Tr.q (QS.move rfl) rfl ?_
            refine Tr.nil ?_
            refine Tr.thenN ?_
            refine Tr.cond rfl (fun h15 => ?_) (fun h15 => ?_)
            · try simp only [bs] at h15
              first | contradiction | (exfalso; omega) | simp_all
            · try simp only [bs] at h15
              refine Tr.skip ?_
              refine Tr.inN ?_
              refine Tr.thenN ?_
              refine Tr.region ?_
              refine Tr.q (QS.move rfl) rfl ?_
              refine Tr.q (QS.addI rfl rfl (by omega)) rfl ?_
              refine Tr.q (QS.assign rfl) rfl ?_
              refine Tr.nil ?_
              refine Tr.thenN ?_
              apply Tr.again (j + 1)
              · exact rfl
              · exact (.cons (by first | rfl | exact lookI rfl (by omega) | exact lookI rfl (by simp) | exact lookB rfl (by simp)) Front.nil)
              · exact SubX.dropN 23 (by kernel_rfl) rfl
              · exact (by repeat' (first | exact Pick.nil _ | exact Del.here _ | apply Pick.cons | apply Del.there))
              · exact (by show j + 1 ≤ _; omega)
              · exact (by (try dsimp only); omega)
          obtain rfl := List.mem_singleton.1 hq
          refine Tr.hOp rfl ?_
          refine Tr.alloc Try.zeroValue41 rfl rfl (fun b16 => ?_)
          refine Tr.hN ?_
          refine Tr.hAll [7] (by kernel_rfl) (by simp) (fun iq hq => ?_)
          obtain rfl := List.mem_singleton.1 hq
          refine Tr.hOp rfl ?_
          refine Tr.q (QS.call rfl Try.call19 (fun w hw => decoded_any l _ (c.bad.getD j default) w (hw.slF hV4) hfw.secB (hD4.mono hw.bg))) rfl ?_
          refine Tr.hN ?_
          refine Tr.hT 8 rfl (by kernel_rfl) (panicThen (panicIn (panicThen (panicThen (panicIn (panicThen panicBody)))))) (QS.move rfl) ?_
          refine Tr.hT 9 rfl (by kernel_rfl) (panicThen (panicIn (panicThen (panicThen (panicIn (panicThen panicBody)))))) (QS.extract rfl rfl) ?_
          refine Tr.hT 10 rfl (by kernel_rfl) (panicThen (panicIn (panicThen (panicThen (panicIn (panicThen panicBody)))))) (QS.extract rfl rfl) ?_
          refine Tr.hAll [12] (by kernel_rfl) (by simp) (fun iq hq => ?_)
          obtain rfl := List.mem_singleton.1 hq
          refine Tr.hOp rfl ?_
          refine Tr.storeW rfl rfl Try.sizeOf41 (by repeat (first | exact Put.here _ | apply Put.there)) (by rfl) (by rfl) (by first | exact List.all_eq_true.1 rfl | exact Enc.one _ _ | exact Enc.one encIns _) rfl ?_
          refine Tr.hN ?_
          refine Tr.hT 13 rfl (by kernel_rfl) (panicThen (panicIn (panicThen (panicThen (panicIn (panicThen panicBody)))))) (QS.assign rfl) ?_
          refine Tr.hDone (by kernel_rfl) ?_
          refine Tr.thenN ?_
          refine Tr.seq ?_
          refine Tr.region ?_
          refine Tr.q (QS.move rfl) rfl ?_
          refine Tr.nil ?_
          refine Tr.thenN ?_
          refine Tr.cond rfl (fun h17 => ?_) (fun h17 => ?_)
          · try simp only [bs] at h17
            first | contradiction | (exfalso; omega) | simp_all
          · try simp only [bs] at h17
            refine Tr.skip ?_
            refine Tr.inN ?_
            refine Tr.thenN ?_
            refine Tr.region ?_
            refine Tr.q (QS.move rfl) rfl ?_
            refine Tr.q (QS.addI rfl rfl (by omega)) rfl ?_
            refine Tr.q (QS.assign rfl) rfl ?_
            refine Tr.nil ?_
            refine Tr.thenN ?_
            apply Tr.again (j + 1)
            · exact rfl
            · exact (.cons (by first | rfl | exact lookI rfl (by omega) | exact lookI rfl (by simp) | exact lookB rfl (by simp)) Front.nil)
            · exact SubX.dropN 23 (by kernel_rfl) rfl
            · exact (by repeat' (first | exact Pick.nil _ | exact Del.here _ | apply Pick.cons | apply Del.there))
            · exact (by show j + 1 ≤ _; omega)
            · exact (by (try dsimp only); omega)
        · try simp only [bs] at h13
          refine Tr.exit ?_
          refine Tr.thenE ?_
          refine Tr.thenE ?_
          refine Tr.inHit ?_
          refine Tr.thenN ?_
          refine Tr.seq ?_
          refine Tr.region ?_
          refine Tr.q (QS.call0 hdr4 rfl Try.call11 (fun w hw => example12_any w)) rfl ?_
          refine Tr.q (QS.assign rfl) rfl ?_
          refine Tr.nil ?_
          refine Tr.thenN ?_
          refine Tr.ret ?_
          refine Tr.ret1 Try.results4 rfl (fun w' hw => ?_)
          exact ⟨rfl, hw.below0 hF04⟩
set_option maxRecDepth 100000 in
set_option maxHeartbeats 8000000 in
theorem reasons12_true (l : List SecV) (es : List UInt32) (ts : List TabV) (at_ : List UInt32) (V VE VT VP : Value) (w : World) (hV : Sl (hp w) encSec l V) (hE : Sl (hp w) encU32 es VE) (hT : Sl (hp w) encTab ts VT) (hP : Sl (hp w) encU32 at_ VP) (hD : DataIn (hp w) l) (hTI : TabIn (hp w) ts) (hN : ∀ s ∈ l, s.name.size ≤ 140737488351232) :
    Calls Try.prog 5 #[.agg #[V, VE, VT, VP]] w (fun e w' => e = .returned (.bool true) ∧ Below w.heap.size w w') := by
  have hV0 : Sl (Bg.of0 w).blk encSec l V := hV
  have hD0 : DataIn (Bg.of0 w).blk l := hD
  have hE0 : Sl (Bg.of0 w).blk encU32 es VE := hE
  have hT0 : Sl (Bg.of0 w).blk encTab ts VT := hT
  have hTI0 : TabIn (Bg.of0 w).blk ts := hTI
  have hP0 : Sl (Bg.of0 w).blk encU32 at_ VP := hP
  obtain ⟨sa1, sc1, hv1, _⟩ := hV.shape
  subst hv1
  obtain ⟨sa2, sc2, hv2, _⟩ := hE.shape
  subst hv2
  obtain ⟨sa3, sc3, hv3, _⟩ := hT.shape
  subst hv3
  obtain ⟨sa4, sc4, hv4, _⟩ := hP.shape
  subst hv4
  refine enter0 Try.func5 rfl Try.ntmps5 rfl ?_
  refine Tr.seq ?_
  refine Tr.region ?_
  refine Tr.box rfl rfl rfl (fun b1 => ?_)
  refine Tr.q (QS.assign rfl) rfl ?_
  refine Tr.nil ?_
  refine Tr.thenN ?_
  refine Tr.seq ?_
  refine Tr.seq ?_
  refine Tr.region ?_
  refine Tr.q (QS.lW rfl Try.isAgg26 Try.sizeOf26) rfl ?_
  refine Tr.q (QS.call rfl Try.call10 (fun w hw => few12_any l es ts at_ _ _ _ _ w (hw.slF hV0) (hw.slF hE0) (hw.slF hT0) (hw.slF hP0))) rfl ?_
  refine Tr.q (QS.not rfl) rfl ?_
  refine Tr.nil ?_
  refine Tr.thenN ?_
  refine Tr.cond rfl (fun h2 => ?_) (fun h2 => ?_)
  · try simp only [bs] at h2
    refine Tr.seq ?_
    refine Tr.region ?_
    refine Tr.q (QS.call0 rfl rfl Try.call11 (fun w hw => example12_any w)) rfl ?_
    refine Tr.q (QS.assign rfl) rfl ?_
    refine Tr.nil ?_
    refine Tr.thenN ?_
    refine Tr.ret ?_
    refine Tr.thenR ?_
    refine Tr.ret1 Try.results5 rfl (fun w' hw => ?_)
    exact ⟨rfl, hw.below0 (Bg.le.refl _)⟩
  · try simp only [bs] at h2
    refine Tr.skip ?_
    refine Tr.thenN ?_
    refine Tr.seq ?_
    have hfw := few_of (by assumption)
    refine Tr.region ?_
    refine Tr.q (QS.lW rfl Try.isAgg26 Try.sizeOf26) rfl ?_
    refine Tr.callEnts0 (fun i : ((Value × Value × Value × Value) × CodeP × Int) => .tuple #[.agg #[i.1.1, i.1.2.1, i.1.2.2.1, i.1.2.2.2], .int .i64 i.2.2]) (fun i : ((Value × Value × Value × Value) × CodeP × Int) => [rowE i.1.1 41 encIns i.2.1.ins, rowE i.1.2.1 39 encU32 i.2.1.ents, rowE i.1.2.2.1 39 encU32 i.2.1.unk, rowE i.1.2.2.2 39 encU32 i.2.1.bad]) (ok := fun i => WalkIs l ts at_ es i.2.1 i.2.2) (rfl) rfl Try.call12 (fun w hw => lwalk_any l ts at_ es _ _ _ _ w (hw.slF hV0) hfw.secB (hD0.mono hw.bg) hN (hw.slF hE0) (hw.slF hT0) (hTI0.mono hw.bg) hfw.tab (hw.slF hP0) hfw.tot (by have := hfw.es; omega)) rfl (fun i hi => ?_)
    obtain ⟨⟨Vi, Ve, Vu, Vb⟩, c, e0⟩ := i
    replace hi : WalkIs l ts at_ es c e0 := hi
    change Tr _ _ ([rowE Vi 41 encIns c.ins, rowE Ve 39 encU32 c.ents, rowE Vu 39 encU32 c.unk, rowE Vb 39 encU32 c.bad] ++ _) _ _
    refine Tr.rowShape (V := Vi) (by repeat (first | exact List.Mem.head _ | apply List.Mem.tail)) (fun pVi cVi hpv => ?_)
    subst hpv
    refine Tr.rowShape (V := Ve) (by repeat (first | exact List.Mem.head _ | apply List.Mem.tail)) (fun pVe cVe hpv => ?_)
    subst hpv
    refine Tr.rowShape (V := Vu) (by repeat (first | exact List.Mem.head _ | apply List.Mem.tail)) (fun pVu cVu hpv => ?_)
    subst hpv
    refine Tr.rowShape (V := Vb) (by repeat (first | exact List.Mem.head _ | apply List.Mem.tail)) (fun pVb cVb hpv => ?_)
    subst hpv
    refine Tr.q (QS.move rfl) rfl ?_
    refine Tr.q (QS.extract rfl rfl) rfl ?_
    refine Tr.q (QS.extract rfl rfl) rfl ?_
    refine Tr.alloc Try.zeroValue31 rfl rfl (fun b3 => ?_)
    refine Tr.storeW rfl rfl Try.sizeOf31 (by repeat (first | exact Put.here _ | apply Put.there)) (by rfl) (by rfl) (by first | exact List.all_eq_true.1 rfl | exact Enc.one _ _ | (intro u hu; simp [Value.cells] at hu; simp_all [Value.oneCell'])) rfl ?_
    refine Tr.q (QS.assign rfl) rfl ?_
    refine Tr.nil ?_
    refine Tr.thenN ?_
    refine Tr.seq ?_
    refine Tr.seq ?_
    refine Tr.frozen (V := .slice pVi c.ins.length cVi) (by repeat (first | exact Del.here _ | apply Del.there)) (fun F1 hF1 hcI0 => ?_)
    refine Tr.frozen (V := .slice pVe c.ents.length cVe) (by repeat (first | exact Del.here _ | apply Del.there)) (fun F2 hF2 hcE0 => ?_)
    refine Tr.frozen (V := .slice pVu c.unk.length cVu) (by repeat (first | exact Del.here _ | apply Del.there)) (fun F3 hF3 hcU0 => ?_)
    refine Tr.frozen (V := .slice pVb c.bad.length cVb) (by repeat (first | exact Del.here _ | apply Del.there)) (fun F4 hF4 hcB => ?_)
    have hcI := hcI0.mono (hF2.trans (hF3.trans hF4)).blk
    have hcE := hcE0.mono (hF3.trans hF4).blk
    have hcU := hcU0.mono hF4.blk
    have hF04 := hF1.trans (hF2.trans (hF3.trans hF4))
    have hdr4 : F4.dr = 0 := hF04.dr
    have hV4 := hV0.mono hF04.blk
    have hD4 := hD0.mono hF04.blk
    have hE4 := hE0.mono hF04.blk
    have hT4 := hT0.mono hF04.blk
    have hTI4 := hTI0.mono hF04.blk
    have hP4 := hP0.mono hF04.blk
    refine Tr.region ?_
    refine Tr.q (QS.move rfl) rfl ?_
    refine Tr.q (QS.neq rfl rfl) rfl ?_
    refine Tr.nil ?_
    refine Tr.thenN ?_
    refine Tr.cond rfl (fun h4 => ?_) (fun h4 => ?_)
    · try simp only [bs] at h4
      refine Tr.seq ?_
      have hcz := hi.err (by assumption)
      refine Tr.region ?_
      refine Tr.q (QS.lW rfl Try.isAgg31 Try.sizeOf31) rfl ?_
      refine Tr.q (QS.call rfl Try.call13 (fun w hw => none12_any c.ins c.ents c.unk c.bad _ _ _ _ w (hw.slF hcI) (hw.slF hcE) (hw.slF hcU) (hw.slF hcB) (by rw [hcz]; decide) (by rw [hcz]; decide) (by rw [hcz]; decide) (by rw [hcz]; decide))) rfl ?_
      refine Tr.q (QS.move rfl) rfl ?_
      apply Tr.andP
      · exact (rfl : _ = (2, 21, 23))
      · exact rfl
      · intro hT5; have hT5' := hT5
        try simp only [bs] at hT5'
        refine Tr.gq rfl rfl hT5 (QS.call0 hdr4 rfl Try.call11 (fun w hw => example12_any w)) rfl ?_
        refine Tr.q (QS.pickT rfl hT5 rfl) rfl ?_
        refine Tr.nil (Tr.thenN ?_)
        exact Tr.endX (Sub.cons rfl (Sub.dropN 2 (by kernel_rfl) rfl))
      · intro hF5
        refine Tr.gskip rfl rfl hF5 rfl ?_
        refine Tr.q (QS.pickF rfl hF5 rfl) rfl ?_
        refine Tr.nil (Tr.thenN ?_)
        exact Tr.endX (Sub.cons rfl (Sub.dropN 2 (by kernel_rfl) rfl))
      refine Tr.q (QS.assign rfl) rfl ?_
      refine Tr.nil ?_
      refine Tr.thenN ?_
      refine Tr.ret ?_
      refine Tr.thenR ?_
      refine Tr.ret1 Try.results5 rfl (fun w' hw => ?_)
      exact ⟨by rw [hcz]; rfl, hw.below0 hF04⟩
    · try simp only [bs] at h4
      refine Tr.skip ?_
      refine Tr.thenN ?_
      refine Tr.seq ?_
      refine Tr.seq ?_
      obtain ⟨hl, hcode⟩ := hi.good (by assumption)
      have hcl1 := hcI.len_le
      have hcl2 := hcB.len_le
      have hcl3 := hcE.len_le
      refine Tr.region ?_
      refine Tr.q (QS.assign rfl) rfl ?_
      refine Tr.nil ?_
      refine Tr.thenN ?_
      refine Tr.block ?_
      refine Tr.loop (ι := Nat) (fun k => k ≤ c.ins.length) (fun _ => _) (fun k => [cellE b3 [.slice pVi c.ins.length cVi, .slice pVe c.ents.length cVe, .slice pVu c.unk.length cVu, .slice pVb c.bad.length cVb] 31, cellE b1 [.slice sa1 l.length sc1, .slice sa2 es.length sc2, .slice sa3 ts.length sc3, .slice sa4 at_.length sc4] 26]) (fun k => [(5, .int .i64 (k : Nat))]) (fun k => c.ins.length - k) 0 (Nat.zero_le _) (.cons (by first | rfl | exact lookI rfl (by omega) | exact lookI rfl (by simp) | exact lookB rfl (by simp)) Front.nil) (by repeat' (first | exact Pick.nil _ | exact Del.here _ | apply Pick.cons | apply Del.there)) rfl (fun k hi m hm => ?_)
      replace hi : k ≤ c.ins.length := hi
      replace hm : m = c.ins.length - k := hm
      change Tr _ _ [cellE b3 [.slice pVi c.ins.length cVi, .slice pVe c.ents.length cVe, .slice pVu c.unk.length cVu, .slice pVb c.bad.length cVb] 31, cellE b1 [.slice sa1 l.length sc1, .slice sa2 es.length sc2, .slice sa3 ts.length sc3, .slice sa4 at_.length sc4] 26] ([(5, .int .i64 (k : Nat))] ++ _) _
      refine Tr.seq ?_
      refine Tr.seq ?_
      refine Tr.region ?_
      refine Tr.q (QS.move rfl) rfl ?_
      refine Tr.q (QS.fieldAddr (off := 0) (ft := 29) rfl Try.underlying31 rfl rfl Try.sizeOf29 (by decide)) rfl ?_
      refine Tr.q (QS.lV rfl Try.isAgg29) rfl ?_
      refine Tr.q (QS.len rfl (by assumption) Try.underlying29) rfl ?_
      refine Tr.q (QS.lss rfl rfl) rfl ?_
      refine Tr.nil ?_
      refine Tr.thenN ?_
      refine Tr.cond rfl (fun h6 => ?_) (fun h6 => ?_)
      · try simp only [bs] at h6
        refine Tr.skip ?_
        refine Tr.thenN ?_
        refine Tr.seq ?_
        refine Tr.block ?_
        refine Tr.seq ?_
        have hmi := mem_getD (l := c.ins) (k := k) (by omega)
        have hq1 := hcode.leads (hcode.mem hmi).1
        have hq2 := hcode.calls hmi
        refine Tr.regionQ HLF.mixed (by kernel_rfl) ?_
        refine TrQ.q (QS.lW rfl Try.isAgg26 Try.sizeOf26) rfl ?_
        refine TrQ.q (QS.lW rfl Try.isAgg31 Try.sizeOf31) rfl ?_
        refine TrQ.q (QS.fieldAddr (off := 0) (ft := 29) rfl Try.underlying31 rfl rfl Try.sizeOf29 (by decide)) rfl ?_
        refine TrQ.q (QS.lV rfl Try.isAgg29) rfl ?_
        refine TrQ.q (QS.move rfl) rfl ?_
        refine TrQ.q (QS.idxN rfl rfl (by assumption) Try.underlying29 Try.sizeOf41 (by rfl) (by omega)) rfl ?_
        refine TrQ.q (QS.fieldAddr (off := 0) (ft := 39) rfl Try.underlying41 rfl rfl Try.sizeOf39 (by decide)) rfl ?_
        refine TrQ.q (QS.elF rfl (by assumption) Try.isAgg39 (by omega) (by rfl)) rfl ?_
        refine TrQ.q (QS.call rfl Try.call20 (fun w hw => leads_any l es ts at_ _ _ _ _ c.ins _ _ _ _ (c.ins.getD k default).addr w (hw.slF hV4) (hw.slF hE4) (hw.slF hT4) (hw.slF hP4) (hw.slF hcI) hcode.insOK hl (hTI4.mono hw.bg) hfw.tab)) rfl ?_
        refine TrQ.q (QS.not rfl) rfl ?_
        refine TrQ.q (QS.move rfl) rfl ?_
        apply TrQ.orP
        · exact (rfl : _ = (30, 41, 71))
        · exact rfl
        · intro hF7; have hF7' := hF7
          try simp only [bs] at hF7'
          refine TrQ.gq rfl rfl hF7 (QS.fieldAddr (off := 0) (ft := 29) rfl Try.underlying31 rfl rfl Try.sizeOf29 (by decide)) rfl ?_
          refine TrQ.gq rfl rfl hF7 (QS.lV rfl Try.isAgg29) rfl ?_
          refine TrQ.gq rfl rfl hF7 (QS.move rfl) rfl ?_
          refine TrQ.gq rfl rfl hF7 (QS.idxN rfl rfl (by assumption) Try.underlying29 Try.sizeOf41 (by rfl) (by omega)) rfl ?_
          refine TrQ.gq rfl rfl hF7 (QS.fieldAddr (off := 2) (ft := 3) rfl Try.underlying41 rfl rfl Try.sizeOf3 (by decide)) rfl ?_
          refine TrQ.gq rfl rfl hF7 (QS.elF rfl (by assumption) Try.isAgg3 (by omega) (by rfl)) rfl ?_
          refine TrQ.gq rfl rfl hF7 (QS.eql rfl rfl) rfl ?_
          refine TrQ.gq rfl rfl hF7 (QS.move rfl) rfl ?_
          apply TrQ.andP
          · exact (rfl : _ = (9, 49, 58))
          · exact rfl
          · intro hT8; have hT8' := hT8
            try simp only [bs] at hT8'
            refine TrQ.gq rfl rfl hT8 (QS.lW rfl Try.isAgg31 Try.sizeOf31) rfl ?_
            refine TrQ.gq rfl rfl hT8 (QS.fieldAddr (off := 0) (ft := 29) rfl Try.underlying31 rfl rfl Try.sizeOf29 (by decide)) rfl ?_
            refine TrQ.gq rfl rfl hT8 (QS.lV rfl Try.isAgg29) rfl ?_
            refine TrQ.gq rfl rfl hT8 (QS.move rfl) rfl ?_
            refine TrQ.gq rfl rfl hT8 (QS.idxN rfl rfl (by assumption) Try.underlying29 Try.sizeOf41 (by rfl) (by omega)) rfl ?_
            refine TrQ.gq rfl rfl hT8 (QS.fieldAddr (off := 1) (ft := 39) rfl Try.underlying41 rfl rfl Try.sizeOf39 (by decide)) rfl ?_
            refine TrQ.gq rfl rfl hT8 (QS.elF rfl (by assumption) Try.isAgg39 (by omega) (by rfl)) rfl ?_
            refine TrQ.gq rfl rfl hT8 (QS.call rfl Try.call21 (fun w hw => dreach_any c.ins (c.ins.getD k default).imm _ _ _ _ w (hw.slF hcI))) rfl ?_
            refine TrQ.gq rfl rfl hF7 (QS.pickT rfl hT8 rfl) rfl ?_
            exact TrQ.end (Sub.cons rfl (Sub.dropN 9 (by kernel_rfl) rfl))
          · intro hF8
            refine TrQ.gskip rfl rfl hF8 rfl ?_
            refine TrQ.gskip rfl rfl hF8 rfl ?_
            refine TrQ.gskip rfl rfl hF8 rfl ?_
            refine TrQ.gskip rfl rfl hF8 rfl ?_
            refine TrQ.gskip rfl rfl hF8 rfl ?_
            refine TrQ.gskip rfl rfl hF8 rfl ?_
            refine TrQ.gskip rfl rfl hF8 rfl ?_
            refine TrQ.gskip rfl rfl hF8 rfl ?_
            refine TrQ.gq rfl rfl hF7 (QS.pickF rfl hF8 rfl) rfl ?_
            exact TrQ.end (Sub.cons rfl (Sub.dropN 9 (by kernel_rfl) rfl))
          refine TrQ.gq rfl rfl hF7 (QS.move rfl) rfl ?_
          apply TrQ.andP
          · exact (rfl : _ = (11, 59, 70))
          · exact rfl
          · intro hT9; have hT9' := hT9
            try simp only [bs] at hT9'
            refine TrQ.gq rfl rfl hT9 (QS.fieldAddr (off := 1) (ft := 23) rfl Try.underlying31 rfl rfl Try.sizeOf23 (by decide)) rfl ?_
            refine TrQ.gq rfl rfl hT9 (QS.lV rfl Try.isAgg23) rfl ?_
            refine TrQ.gq rfl rfl hT9 (QS.fieldAddr (off := 0) (ft := 29) rfl Try.underlying31 rfl rfl Try.sizeOf29 (by decide)) rfl ?_
            refine TrQ.gq rfl rfl hT9 (QS.lV rfl Try.isAgg29) rfl ?_
            refine TrQ.gq rfl rfl hT9 (QS.move rfl) rfl ?_
            refine TrQ.gq rfl rfl hT9 (QS.idxN rfl rfl (by assumption) Try.underlying29 Try.sizeOf41 (by rfl) (by omega)) rfl ?_
            refine TrQ.gq rfl rfl hT9 (QS.fieldAddr (off := 1) (ft := 39) rfl Try.underlying41 rfl rfl Try.sizeOf39 (by decide)) rfl ?_
            refine TrQ.gq rfl rfl hT9 (QS.elF rfl (by assumption) Try.isAgg39 (by omega) (by rfl)) rfl ?_
            refine TrQ.gq rfl rfl hT9 (QS.call rfl Try.call18 (fun w hw => has12_any c.ents _ (c.ins.getD k default).imm w (hw.slF hcE))) rfl ?_
            refine TrQ.gq rfl rfl hT9 (QS.not rfl) rfl ?_
            refine TrQ.gq rfl rfl hF7 (QS.pickT rfl hT9 rfl) rfl ?_
            exact TrQ.end (Sub.cons rfl (Sub.dropN 11 (by kernel_rfl) rfl))
          · intro hF9
            refine TrQ.gskip rfl rfl hF9 rfl ?_
            refine TrQ.gskip rfl rfl hF9 rfl ?_
            refine TrQ.gskip rfl rfl hF9 rfl ?_
            refine TrQ.gskip rfl rfl hF9 rfl ?_
            refine TrQ.gskip rfl rfl hF9 rfl ?_
            refine TrQ.gskip rfl rfl hF9 rfl ?_
            refine TrQ.gskip rfl rfl hF9 rfl ?_
            refine TrQ.gskip rfl rfl hF9 rfl ?_
            refine TrQ.gskip rfl rfl hF9 rfl ?_
            refine TrQ.gskip rfl rfl hF9 rfl ?_
            refine TrQ.gq rfl rfl hF7 (QS.pickF rfl hF9 rfl) rfl ?_
            exact TrQ.end (Sub.cons rfl (Sub.dropN 11 (by kernel_rfl) rfl))
          refine TrQ.q (QS.pickF rfl hF7 rfl) rfl ?_
          exact TrQ.end (Sub.cons rfl (Sub.dropN 12 (by kernel_rfl) rfl))
        · intro hT7
          refine TrQ.gskip rfl rfl hT7 rfl ?_
          refine TrQ.gskip rfl rfl hT7 rfl ?_
          refine TrQ.gskip rfl rfl hT7 rfl ?_
          refine TrQ.gskip rfl rfl hT7 rfl ?_
          refine TrQ.gskip rfl rfl hT7 rfl ?_
          refine TrQ.gskip rfl rfl hT7 rfl ?_
          refine TrQ.gskip rfl rfl hT7 rfl ?_
          refine TrQ.gskip rfl rfl hT7 rfl ?_
          refine TrQ.gskipU rfl rfl rfl ?_
          refine TrQ.gskipU rfl rfl rfl ?_
          refine TrQ.gskipU rfl rfl rfl ?_
          refine TrQ.gskipU rfl rfl rfl ?_
          refine TrQ.gskipU rfl rfl rfl ?_
          refine TrQ.gskipU rfl rfl rfl ?_
          refine TrQ.gskipU rfl rfl rfl ?_
          refine TrQ.gskipU rfl rfl rfl ?_
          refine TrQ.gskip rfl rfl hT7 rfl ?_
          refine TrQ.gskip rfl rfl hT7 rfl ?_
          refine TrQ.gskipU rfl rfl rfl ?_
          refine TrQ.gskipU rfl rfl rfl ?_
          refine TrQ.gskipU rfl rfl rfl ?_
          refine TrQ.gskipU rfl rfl rfl ?_
          refine TrQ.gskipU rfl rfl rfl ?_
          refine TrQ.gskipU rfl rfl rfl ?_
          refine TrQ.gskipU rfl rfl rfl ?_
          refine TrQ.gskipU rfl rfl rfl ?_
          refine TrQ.gskipU rfl rfl rfl ?_
          refine TrQ.gskipU rfl rfl rfl ?_
          refine TrQ.gskip rfl rfl hT7 rfl ?_
          refine TrQ.q (QS.pickT rfl hT7 rfl) rfl ?_
          exact TrQ.end (Sub.cons rfl (Sub.dropN 30 (by kernel_rfl) rfl))
        refine TrQ.nil ?_
        refine Tr.thenN ?_
        refine Tr.cond rfl (fun h10 => ?_) (fun h10 => ?_)
        · try simp only [bs] at h10
          rcases h10 with q | ⟨⟨q1, q2⟩, q3⟩
          · rw [hq1] at q; cases q
          · rw [hq2 q1 q2] at q3; cases q3
        · try simp only [bs] at h10
          refine Tr.skip ?_
          refine Tr.inN ?_
          refine Tr.thenN ?_
          refine Tr.region ?_
          refine Tr.q (QS.move rfl) rfl ?_
          refine Tr.q (QS.addI rfl rfl (by omega)) rfl ?_
          refine Tr.q (QS.assign rfl) rfl ?_
          refine Tr.nil ?_
          refine Tr.thenN ?_
          apply Tr.again (k + 1)
          · exact rfl
          · exact (.cons (by first | rfl | exact lookI rfl (by omega) | exact lookI rfl (by simp) | exact lookB rfl (by simp)) Front.nil)
          · exact SubX.dropN 21 (by kernel_rfl) rfl
          · exact (by repeat' (first | exact Pick.nil _ | exact Del.here _ | apply Pick.cons | apply Del.there))
          · exact (by show k + 1 ≤ _; omega)
          · exact (by (try dsimp only); omega)
      · try simp only [bs] at h6
        refine Tr.exit ?_
        refine Tr.thenE ?_
        refine Tr.thenE ?_
        refine Tr.inHit ?_
        refine Tr.thenN ?_
        refine Tr.seq ?_
        refine Tr.seq ?_
        refine Tr.region ?_
        refine Tr.q (QS.assign rfl) rfl ?_
        refine Tr.nil ?_
        refine Tr.thenN ?_
        refine Tr.block ?_
        refine Tr.loop (ι := Nat) (fun j => j ≤ c.bad.length) (fun _ => _) (fun j => [cellE b3 [.slice pVi c.ins.length cVi, .slice pVe c.ents.length cVe, .slice pVu c.unk.length cVu, .slice pVb c.bad.length cVb] 31, cellE b1 [.slice sa1 l.length sc1, .slice sa2 es.length sc2, .slice sa3 ts.length sc3, .slice sa4 at_.length sc4] 26]) (fun j => [(6, .int .i64 (j : Nat))]) (fun j => c.bad.length - j) 0 (Nat.zero_le _) (.cons (by first | rfl | exact lookI rfl (by omega) | exact lookI rfl (by simp) | exact lookB rfl (by simp)) Front.nil) (by repeat' (first | exact Pick.nil _ | exact Del.here _ | apply Pick.cons | apply Del.there)) rfl (fun j hi m hm => ?_)
        replace hi : j ≤ c.bad.length := hi
        replace hm : m = c.bad.length - j := hm
        change Tr _ _ [cellE b3 [.slice pVi c.ins.length cVi, .slice pVe c.ents.length cVe, .slice pVu c.unk.length cVu, .slice pVb c.bad.length cVb] 31, cellE b1 [.slice sa1 l.length sc1, .slice sa2 es.length sc2, .slice sa3 ts.length sc3, .slice sa4 at_.length sc4] 26] ([(6, .int .i64 (j : Nat))] ++ _) _
        refine Tr.seq ?_
        refine Tr.seq ?_
        refine Tr.region ?_
        refine Tr.q (QS.move rfl) rfl ?_
        refine Tr.q (QS.fieldAddr (off := 3) (ft := 23) rfl Try.underlying31 rfl rfl Try.sizeOf23 (by decide)) rfl ?_
        refine Tr.q (QS.lV rfl Try.isAgg23) rfl ?_
        refine Tr.q (QS.len rfl (by assumption) Try.underlying23) rfl ?_
        refine Tr.q (QS.lss rfl rfl) rfl ?_
        refine Tr.nil ?_
        refine Tr.thenN ?_
        refine Tr.cond rfl (fun h11 => ?_) (fun h11 => ?_)
        · try simp only [bs] at h11
          refine Tr.skip ?_
          refine Tr.thenN ?_
          refine Tr.seq ?_
          refine Tr.block ?_
          refine Tr.seq ?_
          have hmb := mem_getD (l := c.bad) (k := j) (by omega)
          have hq1 := hcode.leads ((hcode.bad.2 _).1 hmb).1
          have hq2 := fun q => asc_list hcode.bad.1 (k := j) q (by omega)
          have hej : ((j : Int) - 1).toNat = j - 1 := by omega
          refine Tr.regionQ HLF.mixed (by kernel_rfl) ?_
          refine TrQ.q (QS.lW rfl Try.isAgg26 Try.sizeOf26) rfl ?_
          refine TrQ.q (QS.lW rfl Try.isAgg31 Try.sizeOf31) rfl ?_
          refine TrQ.q (QS.fieldAddr (off := 3) (ft := 23) rfl Try.underlying31 rfl rfl Try.sizeOf23 (by decide)) rfl ?_
          refine TrQ.q (QS.lV rfl Try.isAgg23) rfl ?_
          refine TrQ.q (QS.move rfl) rfl ?_
          refine TrQ.q (QS.idxN rfl rfl (by assumption) Try.underlying23 Try.sizeOf39 (by rfl) (by omega)) rfl ?_
          refine TrQ.q (QS.el1 rfl (by assumption) Try.isAgg39 (by omega) (by rfl)) rfl ?_
          refine TrQ.q (QS.call rfl Try.call20 (fun w hw => leads_any l es ts at_ _ _ _ _ c.ins _ _ _ _ (c.bad.getD j default) w (hw.slF hV4) (hw.slF hE4) (hw.slF hT4) (hw.slF hP4) (hw.slF hcI) hcode.insOK hl (hTI4.mono hw.bg) hfw.tab)) rfl ?_
          refine TrQ.q (QS.not rfl) rfl ?_
          refine TrQ.q (QS.move rfl) rfl ?_
          apply TrQ.orP
          · exact (rfl : _ = (17, 88, 105))
          · exact rfl
          · intro hF12; have hF12' := hF12
            try simp only [bs] at hF12'
            refine TrQ.gq rfl rfl hF12 (QS.move rfl) rfl ?_
            refine TrQ.gq rfl rfl hF12 (QS.gtr rfl rfl) rfl ?_
            refine TrQ.gq rfl rfl hF12 (QS.move rfl) rfl ?_
            apply TrQ.andP
            · exact (rfl : _ = (13, 91, 104))
            · exact rfl
            · intro hT13; have hT13' := hT13
              try simp only [bs] at hT13'
              refine TrQ.gq rfl rfl hT13 (QS.fieldAddr (off := 3) (ft := 23) rfl Try.underlying31 rfl rfl Try.sizeOf23 (by decide)) rfl ?_
              refine TrQ.gq rfl rfl hT13 (QS.lV rfl Try.isAgg23) rfl ?_
              refine TrQ.gq rfl rfl hT13 (QS.move rfl) rfl ?_
              refine TrQ.gq rfl rfl hT13 (QS.idxN rfl rfl (by assumption) Try.underlying23 Try.sizeOf39 (by rfl) (by omega)) rfl ?_
              refine TrQ.gq rfl rfl hT13 (QS.el1 rfl (by assumption) Try.isAgg39 (by omega) (by rfl)) rfl ?_
              refine TrQ.gq rfl rfl hT13 (QS.fieldAddr (off := 3) (ft := 23) rfl Try.underlying31 rfl rfl Try.sizeOf23 (by decide)) rfl ?_
              refine TrQ.gq rfl rfl hT13 (QS.lV rfl Try.isAgg23) rfl ?_
              refine TrQ.gq rfl rfl hT13 (QS.move rfl) rfl ?_
              refine TrQ.gq rfl rfl hT13 (QS.subI rfl rfl (by omega)) rfl ?_
              refine TrQ.gq rfl rfl hT13 (QS.idx rfl rfl hcB Try.underlying23 Try.sizeOf39 (by rfl) (by omega)) rfl ?_
              refine TrQ.gq rfl rfl hT13 (QS.el1 rfl (by assumption) Try.isAgg39 (by omega) (by rfl)) rfl ?_
              refine TrQ.gq rfl rfl hT13 (QS.leq32 rfl rfl) rfl ?_
              refine TrQ.gq rfl rfl hF12 (QS.pickT rfl hT13 rfl) rfl ?_
              exact TrQ.end (Sub.cons rfl (Sub.dropN 13 (by kernel_rfl) rfl))
            · intro hF13
              refine TrQ.gskip rfl rfl hF13 rfl ?_
              refine TrQ.gskip rfl rfl hF13 rfl ?_
              refine TrQ.gskip rfl rfl hF13 rfl ?_
              refine TrQ.gskip rfl rfl hF13 rfl ?_
              refine TrQ.gskip rfl rfl hF13 rfl ?_
              refine TrQ.gskip rfl rfl hF13 rfl ?_
              refine TrQ.gskip rfl rfl hF13 rfl ?_
              refine TrQ.gskip rfl rfl hF13 rfl ?_
              refine TrQ.gskip rfl rfl hF13 rfl ?_
              refine TrQ.gskip rfl rfl hF13 rfl ?_
              refine TrQ.gskip rfl rfl hF13 rfl ?_
              refine TrQ.gskip rfl rfl hF13 rfl ?_
              refine TrQ.gq rfl rfl hF12 (QS.pickF rfl hF13 rfl) rfl ?_
              exact TrQ.end (Sub.cons rfl (Sub.dropN 13 (by kernel_rfl) rfl))
            refine TrQ.q (QS.pickF rfl hF12 rfl) rfl ?_
            exact TrQ.end (Sub.cons rfl (Sub.dropN 5 (by kernel_rfl) rfl))
          · intro hT12
            refine TrQ.gskip rfl rfl hT12 rfl ?_
            refine TrQ.gskip rfl rfl hT12 rfl ?_
            refine TrQ.gskip rfl rfl hT12 rfl ?_
            refine TrQ.gskipU rfl rfl rfl ?_
            refine TrQ.gskipU rfl rfl rfl ?_
            refine TrQ.gskipU rfl rfl rfl ?_
            refine TrQ.gskipU rfl rfl rfl ?_
            refine TrQ.gskipU rfl rfl rfl ?_
            refine TrQ.gskipU rfl rfl rfl ?_
            refine TrQ.gskipU rfl rfl rfl ?_
            refine TrQ.gskipU rfl rfl rfl ?_
            refine TrQ.gskipU rfl rfl rfl ?_
            refine TrQ.gskipU rfl rfl rfl ?_
            refine TrQ.gskipU rfl rfl rfl ?_
            refine TrQ.gskipU rfl rfl rfl ?_
            refine TrQ.gskip rfl rfl hT12 rfl ?_
            refine TrQ.q (QS.pickT rfl hT12 rfl) rfl ?_
            exact TrQ.end (Sub.cons rfl (Sub.dropN 17 (by kernel_rfl) rfl))
          refine TrQ.nil ?_
          refine Tr.thenN ?_
          refine Tr.cond rfl (fun h14 => ?_) (fun h14 => ?_)
          · try simp only [bs] at h14
            rcases h14 with q | ⟨q1, q2⟩
            · rw [hq1] at q; cases q
            · rw [hej] at q2; exact (hq2 (by omega) q2).elim
          · try simp only [bs] at h14
            refine Tr.skip ?_
            refine Tr.inN ?_
            refine Tr.thenN ?_
            refine Tr.region ?_
            refine Tr.q (QS.move rfl) rfl ?_
            refine Tr.q (QS.addI rfl rfl (by omega)) rfl ?_
            refine Tr.q (QS.assign rfl) rfl ?_
            refine Tr.nil ?_
            refine Tr.thenN ?_
            apply Tr.again (j + 1)
            · exact rfl
            · exact (.cons (by first | rfl | exact lookI rfl (by omega) | exact lookI rfl (by simp) | exact lookB rfl (by simp)) Front.nil)
            · exact SubX.dropN 20 (by kernel_rfl) rfl
            · exact (by repeat' (first | exact Pick.nil _ | exact Del.here _ | apply Pick.cons | apply Del.there))
            · exact (by show j + 1 ≤ _; omega)
            · exact (by (try dsimp only); omega)
        · try simp only [bs] at h11
          refine Tr.exit ?_
          refine Tr.thenE ?_
          refine Tr.thenE ?_
          refine Tr.inHit ?_
          refine Tr.thenN ?_
          refine Tr.seq ?_
          refine Tr.seq ?_
          refine Tr.region ?_
          refine Tr.q (QS.assign rfl) rfl ?_
          refine Tr.nil ?_
          refine Tr.thenN ?_
          refine Tr.block ?_
          refine Tr.loop (ι := Nat) (fun n => n ≤ c.ents.length) (fun _ => _) (fun n => [cellE b3 [.slice pVi c.ins.length cVi, .slice pVe c.ents.length cVe, .slice pVu c.unk.length cVu, .slice pVb c.bad.length cVb] 31, cellE b1 [.slice sa1 l.length sc1, .slice sa2 es.length sc2, .slice sa3 ts.length sc3, .slice sa4 at_.length sc4] 26]) (fun n => [(7, .int .i64 (n : Nat))]) (fun n => c.ents.length - n) 0 (Nat.zero_le _) (.cons (by first | rfl | exact lookI rfl (by omega) | exact lookI rfl (by simp) | exact lookB rfl (by simp)) Front.nil) (by repeat' (first | exact Pick.nil _ | exact Del.here _ | apply Pick.cons | apply Del.there)) rfl (fun n hi m hm => ?_)
          replace hi : n ≤ c.ents.length := hi
          replace hm : m = c.ents.length - n := hm
          change Tr _ _ [cellE b3 [.slice pVi c.ins.length cVi, .slice pVe c.ents.length cVe, .slice pVu c.unk.length cVu, .slice pVb c.bad.length cVb] 31, cellE b1 [.slice sa1 l.length sc1, .slice sa2 es.length sc2, .slice sa3 ts.length sc3, .slice sa4 at_.length sc4] 26] ([(7, .int .i64 (n : Nat))] ++ _) _
          refine Tr.seq ?_
          refine Tr.seq ?_
          refine Tr.region ?_
          refine Tr.q (QS.move rfl) rfl ?_
          refine Tr.q (QS.fieldAddr (off := 1) (ft := 23) rfl Try.underlying31 rfl rfl Try.sizeOf23 (by decide)) rfl ?_
          refine Tr.q (QS.lV rfl Try.isAgg23) rfl ?_
          refine Tr.q (QS.len rfl (by assumption) Try.underlying23) rfl ?_
          refine Tr.q (QS.lss rfl rfl) rfl ?_
          refine Tr.nil ?_
          refine Tr.thenN ?_
          refine Tr.cond rfl (fun h15 => ?_) (fun h15 => ?_)
          · try simp only [bs] at h15
            refine Tr.skip ?_
            refine Tr.thenN ?_
            refine Tr.seq ?_
            refine Tr.block ?_
            refine Tr.seq ?_
            have hme := mem_getD (l := c.ents) (k := n) (by omega)
            have hq1 := hcode.entLead hme
            have hq2 := fun q => asc_list hcode.ents.1 (k := n) q (by omega)
            have hen : ((n : Int) - 1).toNat = n - 1 := by omega
            refine Tr.regionQ HLF.mixed (by kernel_rfl) ?_
            refine TrQ.q (QS.lW rfl Try.isAgg31 Try.sizeOf31) rfl ?_
            refine TrQ.q (QS.fieldAddr (off := 1) (ft := 23) rfl Try.underlying31 rfl rfl Try.sizeOf23 (by decide)) rfl ?_
            refine TrQ.q (QS.lV rfl Try.isAgg23) rfl ?_
            refine TrQ.q (QS.move rfl) rfl ?_
            refine TrQ.q (QS.idxN rfl rfl (by assumption) Try.underlying23 Try.sizeOf39 (by rfl) (by omega)) rfl ?_
            refine TrQ.q (QS.el1 rfl (by assumption) Try.isAgg39 (by omega) (by rfl)) rfl ?_
            refine TrQ.q (QS.call rfl Try.call21 (fun w hw => dreach_any c.ins (c.ents.getD n default) _ _ _ _ w (hw.slF hcI))) rfl ?_
            refine TrQ.q (QS.not rfl) rfl ?_
            refine TrQ.q (QS.move rfl) rfl ?_
            apply TrQ.orP
            · exact (rfl : _ = (10, 121, 131))
            · exact rfl
            · intro hF16; have hF16' := hF16
              try simp only [bs] at hF16'
              refine TrQ.gq rfl rfl hF16 (QS.lW rfl Try.isAgg26 Try.sizeOf26) rfl ?_
              refine TrQ.gq rfl rfl hF16 (QS.lW rfl Try.isAgg31 Try.sizeOf31) rfl ?_
              refine TrQ.gq rfl rfl hF16 (QS.fieldAddr (off := 1) (ft := 23) rfl Try.underlying31 rfl rfl Try.sizeOf23 (by decide)) rfl ?_
              refine TrQ.gq rfl rfl hF16 (QS.lV rfl Try.isAgg23) rfl ?_
              refine TrQ.gq rfl rfl hF16 (QS.move rfl) rfl ?_
              refine TrQ.gq rfl rfl hF16 (QS.idxN rfl rfl (by assumption) Try.underlying23 Try.sizeOf39 (by rfl) (by omega)) rfl ?_
              refine TrQ.gq rfl rfl hF16 (QS.el1 rfl (by assumption) Try.isAgg39 (by omega) (by rfl)) rfl ?_
              refine TrQ.gq rfl rfl hF16 (QS.call rfl Try.call20 (fun w hw => leads_any l es ts at_ _ _ _ _ c.ins _ _ _ _ (c.ents.getD n default) w (hw.slF hV4) (hw.slF hE4) (hw.slF hT4) (hw.slF hP4) (hw.slF hcI) hcode.insOK hl (hTI4.mono hw.bg) hfw.tab)) rfl ?_
              refine TrQ.gq rfl rfl hF16 (QS.not rfl) rfl ?_
              refine TrQ.q (QS.pickF rfl hF16 rfl) rfl ?_
              exact TrQ.end (Sub.cons rfl (Sub.dropN 10 (by kernel_rfl) rfl))
            · intro hT16
              refine TrQ.gskip rfl rfl hT16 rfl ?_
              refine TrQ.gskip rfl rfl hT16 rfl ?_
              refine TrQ.gskip rfl rfl hT16 rfl ?_
              refine TrQ.gskip rfl rfl hT16 rfl ?_
              refine TrQ.gskip rfl rfl hT16 rfl ?_
              refine TrQ.gskip rfl rfl hT16 rfl ?_
              refine TrQ.gskip rfl rfl hT16 rfl ?_
              refine TrQ.gskip rfl rfl hT16 rfl ?_
              refine TrQ.gskip rfl rfl hT16 rfl ?_
              refine TrQ.q (QS.pickT rfl hT16 rfl) rfl ?_
              exact TrQ.end (Sub.cons rfl (Sub.dropN 10 (by kernel_rfl) rfl))
            refine TrQ.q (QS.move rfl) rfl ?_
            apply TrQ.orP
            · exact (rfl : _ = (17, 132, 149))
            · exact rfl
            · intro hF17; have hF17' := hF17
              try simp only [bs] at hF17'
              refine TrQ.gq rfl rfl hF17 (QS.move rfl) rfl ?_
              refine TrQ.gq rfl rfl hF17 (QS.gtr rfl rfl) rfl ?_
              refine TrQ.gq rfl rfl hF17 (QS.move rfl) rfl ?_
              apply TrQ.andP
              · exact (rfl : _ = (13, 135, 148))
              · exact rfl
              · intro hT18; have hT18' := hT18
                try simp only [bs] at hT18'
                refine TrQ.gq rfl rfl hT18 (QS.fieldAddr (off := 1) (ft := 23) rfl Try.underlying31 rfl rfl Try.sizeOf23 (by decide)) rfl ?_
                refine TrQ.gq rfl rfl hT18 (QS.lV rfl Try.isAgg23) rfl ?_
                refine TrQ.gq rfl rfl hT18 (QS.move rfl) rfl ?_
                refine TrQ.gq rfl rfl hT18 (QS.idxN rfl rfl (by assumption) Try.underlying23 Try.sizeOf39 (by rfl) (by omega)) rfl ?_
                refine TrQ.gq rfl rfl hT18 (QS.el1 rfl (by assumption) Try.isAgg39 (by omega) (by rfl)) rfl ?_
                refine TrQ.gq rfl rfl hT18 (QS.fieldAddr (off := 1) (ft := 23) rfl Try.underlying31 rfl rfl Try.sizeOf23 (by decide)) rfl ?_
                refine TrQ.gq rfl rfl hT18 (QS.lV rfl Try.isAgg23) rfl ?_
                refine TrQ.gq rfl rfl hT18 (QS.move rfl) rfl ?_
                refine TrQ.gq rfl rfl hT18 (QS.subI rfl rfl (by omega)) rfl ?_
                refine TrQ.gq rfl rfl hT18 (QS.idx rfl rfl (by assumption) Try.underlying23 Try.sizeOf39 (by rfl) (by omega)) rfl ?_
                refine TrQ.gq rfl rfl hT18 (QS.el1 rfl (by assumption) Try.isAgg39 (by omega) (by rfl)) rfl ?_
                refine TrQ.gq rfl rfl hT18 (QS.leq32 rfl rfl) rfl ?_
                refine TrQ.gq rfl rfl hF17 (QS.pickT rfl hT18 rfl) rfl ?_
                exact TrQ.end (Sub.cons rfl (Sub.dropN 13 (by kernel_rfl) rfl))
              · intro hF18
                refine TrQ.gskip rfl rfl hF18 rfl ?_
                refine TrQ.gskip rfl rfl hF18 rfl ?_
                refine TrQ.gskip rfl rfl hF18 rfl ?_
                refine TrQ.gskip rfl rfl hF18 rfl ?_
                refine TrQ.gskip rfl rfl hF18 rfl ?_
                refine TrQ.gskip rfl rfl hF18 rfl ?_
                refine TrQ.gskip rfl rfl hF18 rfl ?_
                refine TrQ.gskip rfl rfl hF18 rfl ?_
                refine TrQ.gskip rfl rfl hF18 rfl ?_
                refine TrQ.gskip rfl rfl hF18 rfl ?_
                refine TrQ.gskip rfl rfl hF18 rfl ?_
                refine TrQ.gskip rfl rfl hF18 rfl ?_
                refine TrQ.gq rfl rfl hF17 (QS.pickF rfl hF18 rfl) rfl ?_
                exact TrQ.end (Sub.cons rfl (Sub.dropN 13 (by kernel_rfl) rfl))
              refine TrQ.q (QS.pickF rfl hF17 rfl) rfl ?_
              exact TrQ.end (Sub.cons rfl (Sub.dropN 5 (by kernel_rfl) rfl))
            · intro hT17
              refine TrQ.gskip rfl rfl hT17 rfl ?_
              refine TrQ.gskip rfl rfl hT17 rfl ?_
              refine TrQ.gskip rfl rfl hT17 rfl ?_
              refine TrQ.gskipU rfl rfl rfl ?_
              refine TrQ.gskipU rfl rfl rfl ?_
              refine TrQ.gskipU rfl rfl rfl ?_
              refine TrQ.gskipU rfl rfl rfl ?_
              refine TrQ.gskipU rfl rfl rfl ?_
              refine TrQ.gskipU rfl rfl rfl ?_
              refine TrQ.gskipU rfl rfl rfl ?_
              refine TrQ.gskipU rfl rfl rfl ?_
              refine TrQ.gskipU rfl rfl rfl ?_
              refine TrQ.gskipU rfl rfl rfl ?_
              refine TrQ.gskipU rfl rfl rfl ?_
              refine TrQ.gskipU rfl rfl rfl ?_
              refine TrQ.gskip rfl rfl hT17 rfl ?_
              refine TrQ.q (QS.pickT rfl hT17 rfl) rfl ?_
              exact TrQ.end (Sub.cons rfl (Sub.dropN 17 (by kernel_rfl) rfl))
            refine TrQ.nil ?_
            refine Tr.thenN ?_
            refine Tr.cond rfl (fun h19 => ?_) (fun h19 => ?_)
            · try simp only [bs] at h19
              rcases h19 with (q | q) | ⟨q1, q2⟩
              · rw [hq1.1] at q; cases q
              · rw [hq1.2] at q; cases q
              · rw [hen] at q2; exact (hq2 (by omega) q2).elim
            · try simp only [bs] at h19
              refine Tr.skip ?_
              refine Tr.inN ?_
              refine Tr.thenN ?_
              refine Tr.region ?_
              refine Tr.q (QS.move rfl) rfl ?_
              refine Tr.q (QS.addI rfl rfl (by omega)) rfl ?_
              refine Tr.q (QS.assign rfl) rfl ?_
              refine Tr.nil ?_
              refine Tr.thenN ?_
              apply Tr.again (n + 1)
              · exact rfl
              · exact (.cons (by first | rfl | exact lookI rfl (by omega) | exact lookI rfl (by simp) | exact lookB rfl (by simp)) Front.nil)
              · exact SubX.dropN 21 (by kernel_rfl) rfl
              · exact (by repeat' (first | exact Pick.nil _ | exact Del.here _ | apply Pick.cons | apply Del.there))
              · exact (by show n + 1 ≤ _; omega)
              · exact (by (try dsimp only); omega)
          · try simp only [bs] at h15
            refine Tr.exit ?_
            refine Tr.thenE ?_
            refine Tr.thenE ?_
            refine Tr.inHit ?_
            refine Tr.thenN ?_
            refine Tr.seq ?_
            refine Tr.region ?_
            refine Tr.q (QS.call0 hdr4 rfl Try.call11 (fun w hw => example12_any w)) rfl ?_
            refine Tr.q (QS.assign rfl) rfl ?_
            refine Tr.nil ?_
            refine Tr.thenN ?_
            refine Tr.ret ?_
            refine Tr.ret1 Try.results5 rfl (fun w' hw => ?_)
            exact ⟨rfl, hw.below0 hF04⟩
set_option maxRecDepth 100000 in
set_option maxHeartbeats 8000000 in
theorem order12_true (l : List SecV) (es : List UInt32) (ts : List TabV) (at_ : List UInt32) (V VE VT VP : Value) (w : World) (hV : Sl (hp w) encSec l V) (hE : Sl (hp w) encU32 es VE) (hT : Sl (hp w) encTab ts VT) (hP : Sl (hp w) encU32 at_ VP) (hD : DataIn (hp w) l) (hTI : TabIn (hp w) ts) (hN : ∀ s ∈ l, s.name.size ≤ 140737488351232) :
    Calls Try.prog 6 #[.agg #[V, VE, VT, VP]] w (fun e w' => e = .returned (.bool true) ∧ Below w.heap.size w w') := by
  have hV0 : Sl (Bg.of0 w).blk encSec l V := hV
  have hD0 : DataIn (Bg.of0 w).blk l := hD
  have hE0 : Sl (Bg.of0 w).blk encU32 es VE := hE
  have hT0 : Sl (Bg.of0 w).blk encTab ts VT := hT
  have hTI0 : TabIn (Bg.of0 w).blk ts := hTI
  have hP0 : Sl (Bg.of0 w).blk encU32 at_ VP := hP
  obtain ⟨sa1, sc1, hv1, _⟩ := hV.shape
  subst hv1
  obtain ⟨sa2, sc2, hv2, _⟩ := hE.shape
  subst hv2
  obtain ⟨sa3, sc3, hv3, _⟩ := hT.shape
  subst hv3
  obtain ⟨sa4, sc4, hv4, _⟩ := hP.shape
  subst hv4
  refine enter0 Try.func6 rfl Try.ntmps6 rfl ?_
  refine Tr.seq ?_
  refine Tr.region ?_
  refine Tr.box rfl rfl rfl (fun b1 => ?_)
  refine Tr.q (QS.assign rfl) rfl ?_
  refine Tr.nil ?_
  refine Tr.thenN ?_
  refine Tr.seq ?_
  refine Tr.seq ?_
  refine Tr.region ?_
  refine Tr.q (QS.lW rfl Try.isAgg26 Try.sizeOf26) rfl ?_
  refine Tr.q (QS.call rfl Try.call10 (fun w hw => few12_any l es ts at_ _ _ _ _ w (hw.slF hV0) (hw.slF hE0) (hw.slF hT0) (hw.slF hP0))) rfl ?_
  refine Tr.q (QS.not rfl) rfl ?_
  refine Tr.nil ?_
  refine Tr.thenN ?_
  refine Tr.cond rfl (fun h2 => ?_) (fun h2 => ?_)
  · try simp only [bs] at h2
    refine Tr.seq ?_
    refine Tr.region ?_
    refine Tr.q (QS.call0 rfl rfl Try.call11 (fun w hw => example12_any w)) rfl ?_
    refine Tr.q (QS.assign rfl) rfl ?_
    refine Tr.nil ?_
    refine Tr.thenN ?_
    refine Tr.ret ?_
    refine Tr.thenR ?_
    refine Tr.ret1 Try.results6 rfl (fun w' hw => ?_)
    exact ⟨rfl, hw.below0 (Bg.le.refl _)⟩
  · try simp only [bs] at h2
    refine Tr.skip ?_
    refine Tr.thenN ?_
    refine Tr.seq ?_
    have hfw := few_of (by assumption)
    refine Tr.region ?_
    refine Tr.q (QS.lW rfl Try.isAgg26 Try.sizeOf26) rfl ?_
    refine Tr.callEnts0 (fun i : ((Value × Value × Value × Value) × CodeP × Int) => .tuple #[.agg #[i.1.1, i.1.2.1, i.1.2.2.1, i.1.2.2.2], .int .i64 i.2.2]) (fun i : ((Value × Value × Value × Value) × CodeP × Int) => [rowE i.1.1 41 encIns i.2.1.ins, rowE i.1.2.1 39 encU32 i.2.1.ents, rowE i.1.2.2.1 39 encU32 i.2.1.unk, rowE i.1.2.2.2 39 encU32 i.2.1.bad]) (ok := fun i => WalkIs l ts at_ es i.2.1 i.2.2) (rfl) rfl Try.call12 (fun w hw => lwalk_any l ts at_ es _ _ _ _ w (hw.slF hV0) hfw.secB (hD0.mono hw.bg) hN (hw.slF hE0) (hw.slF hT0) (hTI0.mono hw.bg) hfw.tab (hw.slF hP0) hfw.tot (by have := hfw.es; omega)) rfl (fun i hi => ?_)
    obtain ⟨⟨Vi, Ve, Vu, Vb⟩, c, e0⟩ := i
    replace hi : WalkIs l ts at_ es c e0 := hi
    change Tr _ _ ([rowE Vi 41 encIns c.ins, rowE Ve 39 encU32 c.ents, rowE Vu 39 encU32 c.unk, rowE Vb 39 encU32 c.bad] ++ _) _ _
    refine Tr.rowShape (V := Vi) (by repeat (first | exact List.Mem.head _ | apply List.Mem.tail)) (fun pVi cVi hpv => ?_)
    subst hpv
    refine Tr.rowShape (V := Ve) (by repeat (first | exact List.Mem.head _ | apply List.Mem.tail)) (fun pVe cVe hpv => ?_)
    subst hpv
    refine Tr.rowShape (V := Vu) (by repeat (first | exact List.Mem.head _ | apply List.Mem.tail)) (fun pVu cVu hpv => ?_)
    subst hpv
    refine Tr.rowShape (V := Vb) (by repeat (first | exact List.Mem.head _ | apply List.Mem.tail)) (fun pVb cVb hpv => ?_)
    subst hpv
    refine Tr.q (QS.move rfl) rfl ?_
    refine Tr.q (QS.extract rfl rfl) rfl ?_
    refine Tr.q (QS.extract rfl rfl) rfl ?_
    refine Tr.alloc Try.zeroValue31 rfl rfl (fun b3 => ?_)
    refine Tr.storeW rfl rfl Try.sizeOf31 (by repeat (first | exact Put.here _ | apply Put.there)) (by rfl) (by rfl) (by first | exact List.all_eq_true.1 rfl | exact Enc.one _ _ | (intro u hu; simp [Value.cells] at hu; simp_all [Value.oneCell'])) rfl ?_
    refine Tr.q (QS.assign rfl) rfl ?_
    refine Tr.nil ?_
    refine Tr.thenN ?_
    refine Tr.seq ?_
    refine Tr.frozen (V := .slice pVi c.ins.length cVi) (by repeat (first | exact Del.here _ | apply Del.there)) (fun F1 hF1 hcI0 => ?_)
    refine Tr.frozen (V := .slice pVe c.ents.length cVe) (by repeat (first | exact Del.here _ | apply Del.there)) (fun F2 hF2 hcE0 => ?_)
    refine Tr.frozen (V := .slice pVu c.unk.length cVu) (by repeat (first | exact Del.here _ | apply Del.there)) (fun F3 hF3 hcU0 => ?_)
    refine Tr.frozen (V := .slice pVb c.bad.length cVb) (by repeat (first | exact Del.here _ | apply Del.there)) (fun F4 hF4 hcB => ?_)
    have hcI := hcI0.mono (hF2.trans (hF3.trans hF4)).blk
    have hcE := hcE0.mono (hF3.trans hF4).blk
    have hcU := hcU0.mono hF4.blk
    have hF04 := hF1.trans (hF2.trans (hF3.trans hF4))
    have hdr4 : F4.dr = 0 := hF04.dr
    have hV4 := hV0.mono hF04.blk
    have hD4 := hD0.mono hF04.blk
    have hE4 := hE0.mono hF04.blk
    have hT4 := hT0.mono hF04.blk
    have hTI4 := hTI0.mono hF04.blk
    have hP4 := hP0.mono hF04.blk
    have hel := hfw.es
    have hwk := hi
    refine Tr.region ?_
    refine Tr.q (QS.assign rfl) rfl ?_
    refine Tr.nil ?_
    refine Tr.thenN ?_
    refine Tr.seq ?_
    refine Tr.seq ?_
    refine Tr.region ?_
    refine Tr.q (QS.fieldAddr (off := 1) (ft := 23) rfl Try.underlying26 rfl rfl Try.sizeOf23 (by decide)) rfl ?_
    refine Tr.q (QS.lV rfl Try.isAgg23) rfl ?_
    refine Tr.q (QS.len rfl (by assumption) Try.underlying23) rfl ?_
    refine Tr.q (QS.subI rfl rfl (by omega)) rfl ?_
    refine Tr.q (QS.assign rfl) rfl ?_
    refine Tr.nil ?_
    refine Tr.thenN ?_
    refine Tr.block ?_
    refine Tr.ownNil 39 encU32 ?_
    refine Tr.rowEq (l' := backL es es.length) (by unfold backL; rw [List.drop_length]; rfl) ?_
    refine Tr.loop (ι := Nat × Value) (fun ⟨k, VK⟩ => k ≤ es.length) (fun _ => _) (fun ⟨k, VK⟩ => [rowE VK 39 encU32 (backL es k), cellE b3 [.slice pVi c.ins.length cVi, .slice pVe c.ents.length cVe, .slice pVu c.unk.length cVu, .slice pVb c.bad.length cVb] 31, cellE b1 [.slice sa1 l.length sc1, .slice sa2 es.length sc2, .slice sa3 ts.length sc3, .slice sa4 at_.length sc4] 26]) (fun ⟨k, VK⟩ => [(6, .int .i64 ((k : Int) - 1)), (5, VK)]) (fun ⟨k, VK⟩ => k) (es.length, _) (Nat.le_refl _) (.cons (by first | rfl | exact lookI rfl (by omega) | exact lookI rfl (by simp) | exact lookB rfl (by simp)) (.cons (by first | rfl | exact lookI rfl (by omega) | exact lookI rfl (by simp) | exact lookB rfl (by simp)) Front.nil)) (by repeat' (first | exact Pick.nil _ | exact Del.here _ | apply Pick.cons | apply Del.there)) rfl (fun i hi m hm => ?_)
    obtain ⟨k, VK⟩ := i
    replace hi : k ≤ es.length := hi
    replace hm : m = k := hm
    change Tr _ _ [rowE VK 39 encU32 (backL es k), cellE b3 [.slice pVi c.ins.length cVi, .slice pVe c.ents.length cVe, .slice pVu c.unk.length cVu, .slice pVb c.bad.length cVb] 31, cellE b1 [.slice sa1 l.length sc1, .slice sa2 es.length sc2, .slice sa3 ts.length sc3, .slice sa4 at_.length sc4] 26] ([(6, .int .i64 ((k : Int) - 1)), (5, VK)] ++ _) _
    have hbl := back_len es k
    refine Tr.seq ?_
    refine Tr.seq ?_
    refine Tr.region ?_
    refine Tr.q (QS.move rfl) rfl ?_
    refine Tr.q (QS.geq rfl rfl) rfl ?_
    refine Tr.nil ?_
    refine Tr.thenN ?_
    refine Tr.cond rfl (fun h4 => ?_) (fun h4 => ?_)
    · try simp only [bs] at h4
      refine Tr.skip ?_
      refine Tr.thenN ?_
      refine Tr.seq ?_
      refine Tr.block ?_
      refine Tr.regionT 1 10 HLF.mixed (by kernel_rfl) (panicIn (panicThen (panicThen (panicIn (panicThen panicBody))))) ?_
      refine TrQ.pureMove rfl rfl ?_
      refine TrQ.pureNil ?_
      refine TrQ.q (QS.fieldAddr (off := 1) (ft := 23) rfl Try.underlying26 rfl rfl Try.sizeOf23 (by decide)) rfl ?_
      refine TrQ.q (QS.lV rfl Try.isAgg23) rfl ?_
      refine TrQ.q (QS.move rfl) rfl ?_
      refine TrQ.q (QS.idx rfl rfl (by assumption) Try.underlying23 Try.sizeOf39 (by rfl) (by omega)) rfl ?_
      refine TrQ.q (QS.el1 rfl (by assumption) Try.isAgg39 (by omega) (by rfl)) rfl ?_
      refine TrQ.q (QS.fieldAddr (off := 1) (ft := 23) rfl Try.underlying26 rfl rfl Try.sizeOf23 (by decide)) rfl ?_
      refine TrQ.q (QS.lV rfl Try.isAgg23) rfl ?_
      refine TrQ.q (QS.idx rfl rfl (by assumption) Try.underlying23 Try.sizeOf39 (by rfl) (by omega)) rfl ?_
      refine TrQ.q (QS.el1 rfl (by assumption) Try.isAgg39 (by omega) (by rfl)) rfl ?_
      refine TrQ.nil ?_
      refine Tr.litN (E := encU32) ([es.getD ((k : Int) - 1).toNat default, es.getD (0 : Int).toNat default] : List UInt32) (vs := [(0, _), (1, _)]) rfl rfl Try.underlying23 Try.sizeOf39 Try.zeroValue39 (by rfl) (by rfl) rfl (by first | kernel_rfl | rfl) rfl (fun V5 => ?_)
      refine Tr.appendOf rfl rfl (by repeat (first | exact Del.here _ | apply Del.there)) (fun w hw => hw.row (by repeat (first | exact List.Mem.head _ | apply List.Mem.tail))) Try.underlying23 HLF.info39 (by rfl) (by rfl) (by (try simp only [List.length_cons, List.length_nil, List.length_append, List.length_take]); omega) (by unfold maxLen; (try simp only [List.length_cons, List.length_nil, List.length_append, List.length_take]); omega) rfl (fun V6 => ?_)
      refine Tr.q (QS.assign rfl) rfl ?_
      refine Tr.nil ?_
      refine Tr.inN ?_
      refine Tr.thenN ?_
      refine Tr.region ?_
      refine Tr.q (QS.move rfl) rfl ?_
      refine Tr.q (QS.subI rfl rfl (by omega)) rfl ?_
      refine Tr.q (QS.assign rfl) rfl ?_
      refine Tr.nil ?_
      refine Tr.thenN ?_
      rw [back_step (by omega) (by omega)]
      apply Tr.again (k - 1, _)
      · exact rfl
      · exact (.cons (by first | rfl | exact lookI rfl (by omega) | exact lookI rfl (by simp) | exact lookB rfl (by simp)) (.cons (by first | rfl | exact lookI rfl (by omega) | exact lookI rfl (by simp) | exact lookB rfl (by simp)) Front.nil))
      · exact SubX.dropN 20 (by kernel_rfl) rfl
      · exact (by repeat' (first | exact Pick.nil _ | exact Del.here _ | apply Pick.cons | apply Del.there))
      · exact (by show k - 1 ≤ _; omega)
      · exact (by show k - 1 < m; omega)
    · try simp only [bs] at h4
      refine Tr.exit ?_
      refine Tr.thenE ?_
      refine Tr.thenE ?_
      refine Tr.inHit ?_
      refine Tr.thenN ?_
      refine Tr.seq ?_
      obtain rfl : k = 0 := by omega
      refine Tr.frozen (V := VK) (by repeat (first | exact Del.here _ | apply Del.there)) (fun F5 hF5 hbk => ?_)
      have hdr5 : F5.dr = 0 := hF5.dr.trans hdr4
      have hV5 := hV4.mono hF5.blk
      have hD5 := hD4.mono hF5.blk
      have hT5 := hT4.mono hF5.blk
      have hTI5 := hTI4.mono hF5.blk
      have hP5 := hP4.mono hF5.blk
      have hcI5 := hcI.mono hF5.blk
      have hcE5 := hcE.mono hF5.blk
      have hcU5 := hcU.mono hF5.blk
      have hcB5 := hcB.mono hF5.blk
      refine Tr.region ?_
      refine Tr.q (QS.fieldAddr (off := 0) (ft := 22) rfl Try.underlying26 rfl rfl Try.sizeOf22 (by decide)) rfl ?_
      refine Tr.q (QS.lV rfl Try.isAgg22) rfl ?_
      refine Tr.q (QS.move rfl) rfl ?_
      refine Tr.q (QS.fieldAddr (off := 2) (ft := 24) rfl Try.underlying26 rfl rfl Try.sizeOf24 (by decide)) rfl ?_
      refine Tr.q (QS.lV rfl Try.isAgg24) rfl ?_
      refine Tr.q (QS.fieldAddr (off := 3) (ft := 23) rfl Try.underlying26 rfl rfl Try.sizeOf23 (by decide)) rfl ?_
      refine Tr.q (QS.lV rfl Try.isAgg23) rfl ?_
      refine Tr.callEnts0 (fun i : ((Value × Value × Value × Value) × CodeP × Int) => .tuple #[.agg #[i.1.1, i.1.2.1, i.1.2.2.1, i.1.2.2.2], .int .i64 i.2.2]) (fun i : ((Value × Value × Value × Value) × CodeP × Int) => [rowE i.1.1 41 encIns i.2.1.ins, rowE i.1.2.1 39 encU32 i.2.1.ents, rowE i.1.2.2.1 39 encU32 i.2.1.unk, rowE i.1.2.2.2 39 encU32 i.2.1.bad]) (ok := fun i => WalkIs l ts at_ (backL es 0) i.2.1 i.2.2) (hdr5) rfl Try.call22 (fun w hw => walk_any l ts at_ (backL es 0) _ _ _ _ w (hw.slF hV5) hfw.secB (hD5.mono hw.bg) hN (hw.slF hbk) (hw.slF hT5) (hTI5.mono hw.bg) hfw.tab (hw.slF hP5) hfw.tot (by have := hfw.es; have := back_len es 0; omega)) rfl (fun i2 hi2 => ?_)
      obtain ⟨⟨Wi, We, Wu, Wb⟩, c2, e2⟩ := i2
      replace hi2 : WalkIs l ts at_ (backL es 0) c2 e2 := hi2
      obtain ⟨hcc, hee⟩ := hwk.fun_ hi2 (back_mem es)
      subst hcc hee
      change Tr _ _ ([rowE Wi 41 encIns c.ins, rowE We 39 encU32 c.ents, rowE Wu 39 encU32 c.unk, rowE Wb 39 encU32 c.bad] ++ _) _ _
      refine Tr.rowShape (V := Wi) (by repeat (first | exact List.Mem.head _ | apply List.Mem.tail)) (fun pWi cWi hpv => ?_)
      subst hpv
      refine Tr.rowShape (V := We) (by repeat (first | exact List.Mem.head _ | apply List.Mem.tail)) (fun pWe cWe hpv => ?_)
      subst hpv
      refine Tr.rowShape (V := Wu) (by repeat (first | exact List.Mem.head _ | apply List.Mem.tail)) (fun pWu cWu hpv => ?_)
      subst hpv
      refine Tr.rowShape (V := Wb) (by repeat (first | exact List.Mem.head _ | apply List.Mem.tail)) (fun pWb cWb hpv => ?_)
      subst hpv
      refine Tr.q (QS.move rfl) rfl ?_
      refine Tr.q (QS.extract rfl rfl) rfl ?_
      refine Tr.q (QS.extract rfl rfl) rfl ?_
      refine Tr.alloc Try.zeroValue31 rfl rfl (fun b7 => ?_)
      refine Tr.storeW rfl rfl Try.sizeOf31 (by repeat (first | exact Put.here _ | apply Put.there)) (by rfl) (by rfl) (by first | exact List.all_eq_true.1 rfl | exact Enc.one _ _ | (intro u hu; simp [Value.cells] at hu; simp_all [Value.oneCell'])) rfl ?_
      refine Tr.q (QS.assign rfl) rfl ?_
      refine Tr.nil ?_
      refine Tr.thenN ?_
      refine Tr.seq ?_
      refine Tr.regionT 0 11 HLF.mixed (by kernel_rfl) (panicThen panicBody) ?_
      refine TrQ.pureNil ?_
      refine TrQ.q (QS.move rfl) rfl ?_
      refine TrQ.q (QS.move rfl) rfl ?_
      refine TrQ.q (QS.eql rfl rfl) rfl ?_
      refine TrQ.q (QS.move rfl) rfl ?_
      apply TrQ.andP
      · exact (rfl : _ = (6, 52, 58))
      · exact rfl
      · intro hT8; have hT8' := hT8
        try simp only [bs] at hT8'
        refine TrQ.gq rfl rfl hT8 (QS.lW rfl Try.isAgg31 Try.sizeOf31) rfl ?_
        refine TrQ.gq rfl rfl hT8 (QS.call rfl Try.call24 (fun w hw => toRef_any _ _ _ _ _ _ _ _ _ _ _ _ w)) rfl ?_
        refine TrQ.gq rfl rfl hT8 (QS.lW rfl Try.isAgg31 Try.sizeOf31) rfl ?_
        refine TrQ.gq rfl rfl hT8 (QS.call rfl Try.call24 (fun w hw => toRef_any _ _ _ _ _ _ _ _ _ _ _ _ w)) rfl ?_
        refine TrQ.gq rfl rfl hT8 (QS.call rfl Try.call23 (fun w hw => same12_any c c _ _ _ _ _ _ _ _ w (hw.slF hcI5) (hw.slF hcE5) (hw.slF hcU5) (hw.slF hcB5) (hw.row (by repeat (first | exact List.Mem.head _ | apply List.Mem.tail))) (hw.row (by repeat (first | exact List.Mem.head _ | apply List.Mem.tail))) (hw.row (by repeat (first | exact List.Mem.head _ | apply List.Mem.tail))) (hw.row (by repeat (first | exact List.Mem.head _ | apply List.Mem.tail))))) rfl ?_
        refine TrQ.q (QS.pickT rfl hT8 rfl) rfl ?_
        exact TrQ.end (Sub.cons rfl (Sub.dropN 6 (by kernel_rfl) rfl))
      · intro hF8
        refine TrQ.gskip rfl rfl hF8 rfl ?_
        refine TrQ.gskip rfl rfl hF8 rfl ?_
        refine TrQ.gskip rfl rfl hF8 rfl ?_
        refine TrQ.gskip rfl rfl hF8 rfl ?_
        refine TrQ.gskip rfl rfl hF8 rfl ?_
        refine TrQ.q (QS.pickF rfl hF8 rfl) rfl ?_
        exact TrQ.end (Sub.cons rfl (Sub.dropN 6 (by kernel_rfl) rfl))
      refine TrQ.q (QS.move rfl) rfl ?_
      refine TrQ.nil ?_
      apply Tr.andP
      · exact (rfl : _ = (2, 59, 61))
      · exact rfl
      · intro hT9; have hT9' := hT9
        try simp only [bs] at hT9'
        refine Tr.gq rfl rfl hT9 (QS.call0 hdr5 rfl Try.call11 (fun w hw => example12_any w)) rfl ?_
        refine Tr.q (QS.pickT rfl hT9 rfl) rfl ?_
        refine Tr.nil (Tr.thenN ?_)
        exact Tr.endX (Sub.cons rfl (Sub.dropN 2 (by kernel_rfl) rfl))
      · intro hF9
        refine Tr.gskip rfl rfl hF9 rfl ?_
        refine Tr.q (QS.pickF rfl hF9 rfl) rfl ?_
        refine Tr.nil (Tr.thenN ?_)
        exact Tr.endX (Sub.cons rfl (Sub.dropN 2 (by kernel_rfl) rfl))
      refine Tr.q (QS.assign rfl) rfl ?_
      refine Tr.nil ?_
      refine Tr.thenN ?_
      refine Tr.ret ?_
      refine Tr.ret1 Try.results6 rfl (fun w' hw => ?_)
      exact ⟨by simp, hw.below0 (hF04.trans hF5)⟩
set_option maxRecDepth 100000 in
set_option maxHeartbeats 8000000 in
theorem closure12_true (l : List SecV) (es : List UInt32) (ts : List TabV) (at_ : List UInt32) (V VE VT VP : Value) (w : World) (hV : Sl (hp w) encSec l V) (hE : Sl (hp w) encU32 es VE) (hT : Sl (hp w) encTab ts VT) (hP : Sl (hp w) encU32 at_ VP) (hD : DataIn (hp w) l) (hTI : TabIn (hp w) ts) (hN : ∀ s ∈ l, s.name.size ≤ 140737488351232) :
    Calls Try.prog 3 #[.agg #[V, VE, VT, VP]] w (fun e w' => e = .returned (.bool true) ∧ Below w.heap.size w w') := by
  have hV0 : Sl (Bg.of0 w).blk encSec l V := hV
  have hD0 : DataIn (Bg.of0 w).blk l := hD
  have hE0 : Sl (Bg.of0 w).blk encU32 es VE := hE
  have hT0 : Sl (Bg.of0 w).blk encTab ts VT := hT
  have hTI0 : TabIn (Bg.of0 w).blk ts := hTI
  have hP0 : Sl (Bg.of0 w).blk encU32 at_ VP := hP
  obtain ⟨sa1, sc1, hv1, _⟩ := hV.shape
  subst hv1
  obtain ⟨sa2, sc2, hv2, _⟩ := hE.shape
  subst hv2
  obtain ⟨sa3, sc3, hv3, _⟩ := hT.shape
  subst hv3
  obtain ⟨sa4, sc4, hv4, _⟩ := hP.shape
  subst hv4
  refine enter0 Try.func3 rfl Try.ntmps3 rfl ?_
  refine Tr.seq ?_
  refine Tr.region ?_
  refine Tr.box rfl rfl rfl (fun b1 => ?_)
  refine Tr.q (QS.assign rfl) rfl ?_
  refine Tr.nil ?_
  refine Tr.thenN ?_
  refine Tr.seq ?_
  refine Tr.seq ?_
  refine Tr.region ?_
  refine Tr.q (QS.lW rfl Try.isAgg26 Try.sizeOf26) rfl ?_
  refine Tr.q (QS.call rfl Try.call10 (fun w hw => few12_any l es ts at_ _ _ _ _ w (hw.slF hV0) (hw.slF hE0) (hw.slF hT0) (hw.slF hP0))) rfl ?_
  refine Tr.q (QS.not rfl) rfl ?_
  refine Tr.nil ?_
  refine Tr.thenN ?_
  refine Tr.cond rfl (fun h2 => ?_) (fun h2 => ?_)
  · try simp only [bs] at h2
    refine Tr.seq ?_
    refine Tr.region ?_
    refine Tr.q (QS.call0 rfl rfl Try.call11 (fun w hw => example12_any w)) rfl ?_
    refine Tr.q (QS.assign rfl) rfl ?_
    refine Tr.nil ?_
    refine Tr.thenN ?_
    refine Tr.ret ?_
    refine Tr.thenR ?_
    refine Tr.ret1 Try.results3 rfl (fun w' hw => ?_)
    exact ⟨rfl, hw.below0 (Bg.le.refl _)⟩
  · try simp only [bs] at h2
    refine Tr.skip ?_
    refine Tr.thenN ?_
    refine Tr.seq ?_
    have hfw := few_of (by assumption)
    refine Tr.region ?_
    refine Tr.q (QS.lW rfl Try.isAgg26 Try.sizeOf26) rfl ?_
    refine Tr.callEnts0 (fun i : ((Value × Value × Value × Value) × CodeP × Int) => .tuple #[.agg #[i.1.1, i.1.2.1, i.1.2.2.1, i.1.2.2.2], .int .i64 i.2.2]) (fun i : ((Value × Value × Value × Value) × CodeP × Int) => [rowE i.1.1 41 encIns i.2.1.ins, rowE i.1.2.1 39 encU32 i.2.1.ents, rowE i.1.2.2.1 39 encU32 i.2.1.unk, rowE i.1.2.2.2 39 encU32 i.2.1.bad]) (ok := fun i => WalkIs l ts at_ es i.2.1 i.2.2) (rfl) rfl Try.call12 (fun w hw => lwalk_any l ts at_ es _ _ _ _ w (hw.slF hV0) hfw.secB (hD0.mono hw.bg) hN (hw.slF hE0) (hw.slF hT0) (hTI0.mono hw.bg) hfw.tab (hw.slF hP0) hfw.tot (by have := hfw.es; omega)) rfl (fun i hi => ?_)
    obtain ⟨⟨Vi, Ve, Vu, Vb⟩, c, e0⟩ := i
    replace hi : WalkIs l ts at_ es c e0 := hi
    change Tr _ _ ([rowE Vi 41 encIns c.ins, rowE Ve 39 encU32 c.ents, rowE Vu 39 encU32 c.unk, rowE Vb 39 encU32 c.bad] ++ _) _ _
    refine Tr.rowShape (V := Vi) (by repeat (first | exact List.Mem.head _ | apply List.Mem.tail)) (fun pVi cVi hpv => ?_)
    subst hpv
    refine Tr.rowShape (V := Ve) (by repeat (first | exact List.Mem.head _ | apply List.Mem.tail)) (fun pVe cVe hpv => ?_)
    subst hpv
    refine Tr.rowShape (V := Vu) (by repeat (first | exact List.Mem.head _ | apply List.Mem.tail)) (fun pVu cVu hpv => ?_)
    subst hpv
    refine Tr.rowShape (V := Vb) (by repeat (first | exact List.Mem.head _ | apply List.Mem.tail)) (fun pVb cVb hpv => ?_)
    subst hpv
    refine Tr.q (QS.move rfl) rfl ?_
    refine Tr.q (QS.extract rfl rfl) rfl ?_
    refine Tr.q (QS.extract rfl rfl) rfl ?_
    refine Tr.alloc Try.zeroValue31 rfl rfl (fun b3 => ?_)
    refine Tr.storeW rfl rfl Try.sizeOf31 (by repeat (first | exact Put.here _ | apply Put.there)) (by rfl) (by rfl) (by first | exact List.all_eq_true.1 rfl | exact Enc.one _ _ | (intro u hu; simp [Value.cells] at hu; simp_all [Value.oneCell'])) rfl ?_
    refine Tr.q (QS.assign rfl) rfl ?_
    refine Tr.nil ?_
    refine Tr.thenN ?_
    refine Tr.seq ?_
    refine Tr.seq ?_
    refine Tr.frozen (V := .slice pVi c.ins.length cVi) (by repeat (first | exact Del.here _ | apply Del.there)) (fun F1 hF1 hcI0 => ?_)
    refine Tr.frozen (V := .slice pVe c.ents.length cVe) (by repeat (first | exact Del.here _ | apply Del.there)) (fun F2 hF2 hcE0 => ?_)
    refine Tr.frozen (V := .slice pVu c.unk.length cVu) (by repeat (first | exact Del.here _ | apply Del.there)) (fun F3 hF3 hcU0 => ?_)
    refine Tr.frozen (V := .slice pVb c.bad.length cVb) (by repeat (first | exact Del.here _ | apply Del.there)) (fun F4 hF4 hcB => ?_)
    have hcI := hcI0.mono (hF2.trans (hF3.trans hF4)).blk
    have hcE := hcE0.mono (hF3.trans hF4).blk
    have hcU := hcU0.mono hF4.blk
    have hF04 := hF1.trans (hF2.trans (hF3.trans hF4))
    have hdr4 : F4.dr = 0 := hF04.dr
    have hV4 := hV0.mono hF04.blk
    have hD4 := hD0.mono hF04.blk
    have hE4 := hE0.mono hF04.blk
    have hT4 := hT0.mono hF04.blk
    have hTI4 := hTI0.mono hF04.blk
    have hP4 := hP0.mono hF04.blk
    refine Tr.region ?_
    refine Tr.q (QS.move rfl) rfl ?_
    refine Tr.q (QS.neq rfl rfl) rfl ?_
    refine Tr.nil ?_
    refine Tr.thenN ?_
    refine Tr.cond rfl (fun h4 => ?_) (fun h4 => ?_)
    · try simp only [bs] at h4
      refine Tr.seq ?_
      have hcz := hi.err (by assumption)
      refine Tr.region ?_
      refine Tr.q (QS.lW rfl Try.isAgg31 Try.sizeOf31) rfl ?_
      refine Tr.q (QS.call rfl Try.call13 (fun w hw => none12_any c.ins c.ents c.unk c.bad _ _ _ _ w (hw.slF hcI) (hw.slF hcE) (hw.slF hcU) (hw.slF hcB) (by rw [hcz]; decide) (by rw [hcz]; decide) (by rw [hcz]; decide) (by rw [hcz]; decide))) rfl ?_
      refine Tr.q (QS.move rfl) rfl ?_
      apply Tr.andP
      · exact (rfl : _ = (2, 22, 24))
      · exact rfl
      · intro hT5; have hT5' := hT5
        try simp only [bs] at hT5'
        refine Tr.gq rfl rfl hT5 (QS.call0 hdr4 rfl Try.call11 (fun w hw => example12_any w)) rfl ?_
        refine Tr.q (QS.pickT rfl hT5 rfl) rfl ?_
        refine Tr.nil (Tr.thenN ?_)
        exact Tr.endX (Sub.cons rfl (Sub.dropN 2 (by kernel_rfl) rfl))
      · intro hF5
        refine Tr.gskip rfl rfl hF5 rfl ?_
        refine Tr.q (QS.pickF rfl hF5 rfl) rfl ?_
        refine Tr.nil (Tr.thenN ?_)
        exact Tr.endX (Sub.cons rfl (Sub.dropN 2 (by kernel_rfl) rfl))
      refine Tr.q (QS.assign rfl) rfl ?_
      refine Tr.nil ?_
      refine Tr.thenN ?_
      refine Tr.ret ?_
      refine Tr.thenR ?_
      refine Tr.ret1 Try.results3 rfl (fun w' hw => ?_)
      exact ⟨by rw [hcz]; rfl, hw.below0 hF04⟩
    · try simp only [bs] at h4
      refine Tr.skip ?_
      refine Tr.thenN ?_
      refine Tr.seq ?_
      refine Tr.seq ?_
      obtain ⟨hl, hcode⟩ := hi.good (by assumption)
      have hcl1 := hcI.len_le
      have hcl2 := hcB.len_le
      have hcl3 := hcE.len_le
      have hall : es.all (foundP12 c.ins c.bad) = true := hcode.all (fun a ha => .ent a ha)
      refine Tr.region ?_
      refine Tr.q (QS.lW rfl Try.isAgg31 Try.sizeOf31) rfl ?_
      refine Tr.q (QS.fieldAddr (off := 1) (ft := 23) rfl Try.underlying26 rfl rfl Try.sizeOf23 (by decide)) rfl ?_
      refine Tr.q (QS.lV rfl Try.isAgg23) rfl ?_
      refine Tr.q (QS.call rfl Try.call14 (fun w hw => all12_any c.ins c.bad _ _ _ _ es _ w (hw.slF hcI) (hw.slF hcB) (hw.slF hE4))) rfl ?_
      refine Tr.q (QS.not rfl) rfl ?_
      refine Tr.nil ?_
      refine Tr.thenN ?_
      refine Tr.cond rfl (fun h6 => ?_) (fun h6 => ?_)
      · try simp only [bs] at h6
        first | contradiction | (exfalso; omega) | simp_all
      · try simp only [bs] at h6
        refine Tr.skip ?_
        refine Tr.thenN ?_
        refine Tr.seq ?_
        refine Tr.seq ?_
        refine Tr.region ?_
        refine Tr.q (QS.assign rfl) rfl ?_
        refine Tr.nil ?_
        refine Tr.thenN ?_
        refine Tr.block ?_
        refine Tr.loop (ι := Nat) (fun k => k ≤ c.ins.length) (fun _ => _) (fun k => [cellE b3 [.slice pVi c.ins.length cVi, .slice pVe c.ents.length cVe, .slice pVu c.unk.length cVu, .slice pVb c.bad.length cVb] 31, cellE b1 [.slice sa1 l.length sc1, .slice sa2 es.length sc2, .slice sa3 ts.length sc3, .slice sa4 at_.length sc4] 26]) (fun k => [(5, .int .i64 (k : Nat))]) (fun k => c.ins.length - k) 0 (Nat.zero_le _) (.cons (by first | rfl | exact lookI rfl (by omega) | exact lookB rfl (by rw [hunk]; first | (rw [show indP _ = true from by assumption]; cases (knownP ts at_ _).isSome <;> rfl) | (rw [show indP _ = false from by assumption]; rfl)) | exact lookI rfl (by simp) | exact lookB rfl (by simp)) Front.nil) (by repeat' (first | exact Pick.nil _ | exact Del.here _ | apply Pick.cons | apply Del.there)) rfl (fun k hi m hm => ?_)
        replace hi : k ≤ c.ins.length := hi
        replace hm : m = c.ins.length - k := hm
        change Tr _ _ [cellE b3 [.slice pVi c.ins.length cVi, .slice pVe c.ents.length cVe, .slice pVu c.unk.length cVu, .slice pVb c.bad.length cVb] 31, cellE b1 [.slice sa1 l.length sc1, .slice sa2 es.length sc2, .slice sa3 ts.length sc3, .slice sa4 at_.length sc4] 26] ([(5, .int .i64 (k : Nat))] ++ _) _
        refine Tr.seq ?_
        refine Tr.seq ?_
        refine Tr.region ?_
        refine Tr.q (QS.move rfl) rfl ?_
        refine Tr.q (QS.fieldAddr (off := 0) (ft := 29) rfl Try.underlying31 rfl rfl Try.sizeOf29 (by decide)) rfl ?_
        refine Tr.q (QS.lV rfl Try.isAgg29) rfl ?_
        refine Tr.q (QS.len rfl (by assumption) Try.underlying29) rfl ?_
        refine Tr.q (QS.lss rfl rfl) rfl ?_
        refine Tr.nil ?_
        refine Tr.thenN ?_
        refine Tr.cond rfl (fun h7 => ?_) (fun h7 => ?_)
        · try simp only [bs] at h7
          refine Tr.skip ?_
          refine Tr.thenN ?_
          refine Tr.seq ?_
          refine Tr.block ?_
          refine Tr.seq ?_
          refine Tr.regionQ HLF.mixed (by kernel_rfl) ?_
          refine TrQ.q (QS.fieldAddr (off := 0) (ft := 29) rfl Try.underlying31 rfl rfl Try.sizeOf29 (by decide)) rfl ?_
          refine TrQ.q (QS.lV rfl Try.isAgg29) rfl ?_
          refine TrQ.q (QS.move rfl) rfl ?_
          refine TrQ.q (QS.idxN rfl rfl (by assumption) Try.underlying29 Try.sizeOf41 (by rfl) (by omega)) rfl ?_
          refine TrQ.q (QS.fieldAddr (off := 0) (ft := 39) rfl Try.underlying41 rfl rfl Try.sizeOf39 (by decide)) rfl ?_
          refine TrQ.q (QS.elF rfl (by assumption) Try.isAgg39 (by omega) (by rfl)) rfl ?_
          refine TrQ.q (QS.fieldAddr (off := 2) (ft := 24) rfl Try.underlying26 rfl rfl Try.sizeOf24 (by decide)) rfl ?_
          refine TrQ.q (QS.lV rfl Try.isAgg24) rfl ?_
          refine TrQ.q (QS.fieldAddr (off := 3) (ft := 23) rfl Try.underlying26 rfl rfl Try.sizeOf23 (by decide)) rfl ?_
          refine TrQ.q (QS.lV rfl Try.isAgg23) rfl ?_
          refine TrQ.q (QS.call rfl Try.call15 (fun w hw => known12_any (c.ins.getD k default).addr ts at_ _ _ w (hw.slF hT4) (hw.slF hP4) hl)) rfl ?_
          refine TrQ.q (QS.move rfl) rfl ?_
          refine TrQ.q (QS.extract rfl rfl) rfl ?_
          refine TrQ.q (QS.extract rfl rfl) rfl ?_
          refine TrQ.q (QS.assign rfl) rfl ?_
          refine TrQ.q (QS.assign rfl) rfl ?_
          refine TrQ.nil ?_
          refine Tr.thenN ?_
          refine Tr.seq ?_
          refine Tr.region ?_
          refine Tr.q (QS.fieldAddr (off := 0) (ft := 29) rfl Try.underlying31 rfl rfl Try.sizeOf29 (by decide)) rfl ?_
          refine Tr.q (QS.lV rfl Try.isAgg29) rfl ?_
          refine Tr.q (QS.move rfl) rfl ?_
          refine Tr.q (QS.idxN rfl rfl (by assumption) Try.underlying29 Try.sizeOf41 (by rfl) (by omega)) rfl ?_
          refine Tr.q (QS.fieldAddr (off := 2) (ft := 3) rfl Try.underlying41 rfl rfl Try.sizeOf3 (by decide)) rfl ?_
          refine Tr.q (QS.elF rfl (by assumption) Try.isAgg3 (by omega) (by rfl)) rfl ?_
          refine Tr.q (QS.call rfl Try.call16 (fun w hw => indirect12_any (c.ins.getD k default).op w)) rfl ?_
          refine Tr.q (QS.assign rfl) rfl ?_
          refine Tr.nil ?_
          refine Tr.thenN ?_
          have hmi := mem_getD (l := c.ins) (k := k) (by omega)
          have hat := hcode.atI hmi
          have hasc : (0 : Int) < (k : Int) → ¬ (c.ins.getD k default).addr ≤ (c.ins.getD ((k : Int) - 1).toNat default).addr := fun q => by rw [show ((k : Int) - 1).toNat = k - 1 by omega]; exact hcode.asc (by omega) (by omega)
          have hsuc : (succP (c.ins.getD k default)).all (foundP12 c.ins c.bad) = true := hcode.all (fun a ha => hat.1 a (List.mem_append_left _ ha))
          have hkn : indP (c.ins.getD k default).op = true → ((knownP ts at_ (c.ins.getD k default).addr).getD []).all (foundP12 c.ins c.bad) = true := fun q => hcode.all (fun a ha => hat.1 a (by unfold leadP; rw [if_pos q]; exact List.mem_append_right _ ha))
          have hunk : hasU c.unk (c.ins.getD k default).addr = (indP (c.ins.getD k default).op && !(knownP ts at_ (c.ins.getD k default).addr).isSome) := by rw [hat.2]; unfold unkP; cases knownP ts at_ (c.ins.getD k default).addr <;> rfl
          refine Tr.seqJ (ι := Unit) (fun u => True) (fun _ => F4) (fun u => [cellE b3 [.slice pVi c.ins.length cVi, .slice pVe c.ents.length cVe, .slice pVu c.unk.length cVu, .slice pVb c.bad.length cVb] 31, cellE b1 [.slice sa1 l.length sc1, .slice sa2 es.length sc2, .slice sa3 ts.length sc3, .slice sa4 at_.length sc4] 26]) (fun u => [(112, .bool false)]) ?_ (fun u hi => ?_)
          · skip
            refine Tr.regionH ([cellE b3 [.slice pVi c.ins.length cVi, .slice pVe c.ents.length cVe, .slice pVu c.unk.length cVu, .slice pVb c.bad.length cVb] 31, cellE b1 [.slice sa1 l.length sc1, .slice sa2 es.length sc2, .slice sa3 ts.length sc3, .slice sa4 at_.length sc4] 26]) 55 rfl HLF.mixed ?_
            refine Tr.hT 0 rfl (by kernel_rfl) (panicThen (panicIn (panicThen (panicThen (panicIn (panicThen panicBody)))))) (QS.move rfl) ?_
            refine Tr.hT 1 rfl (by kernel_rfl) (panicThen (panicIn (panicThen (panicThen (panicIn (panicThen panicBody)))))) (QS.gtr rfl rfl) ?_
            refine Tr.hT 2 rfl (by kernel_rfl) (panicThen (panicIn (panicThen (panicThen (panicIn (panicThen panicBody)))))) (QS.move rfl) ?_
            refine Tr.hGuard (t := 60) rfl (fun hG8 => ?_) (fun hG8 => ?_)
            · have hG8' := hG8
              try simp only [bs] at hG8'
              refine Tr.hTakeG 3 rfl (by kernel_rfl) (panicThen (panicIn (panicThen (panicThen (panicIn (panicThen panicBody)))))) rfl rfl rfl hG8 (QS.fieldAddr (off := 0) (ft := 29) rfl Try.underlying31 rfl rfl Try.sizeOf29 (by decide)) (by repeat' (first | exact Pick.nil _ | exact Del.here _ | apply Pick.cons | apply Del.there)) rfl ?_
              refine Tr.hTakeG 4 rfl (by kernel_rfl) (panicThen (panicIn (panicThen (panicThen (panicIn (panicThen panicBody)))))) rfl rfl rfl hG8 (QS.lV rfl Try.isAgg29) (by repeat' (first | exact Pick.nil _ | exact Del.here _ | apply Pick.cons | apply Del.there)) rfl ?_
              refine Tr.hTakeG 5 rfl (by kernel_rfl) (panicThen (panicIn (panicThen (panicThen (panicIn (panicThen panicBody)))))) rfl rfl rfl hG8 (QS.move rfl) (by repeat' (first | exact Pick.nil _ | exact Del.here _ | apply Pick.cons | apply Del.there)) rfl ?_
              refine Tr.hTakeG 6 rfl (by kernel_rfl) (panicThen (panicIn (panicThen (panicThen (panicIn (panicThen panicBody)))))) rfl rfl rfl hG8 (QS.idxN rfl rfl (by assumption) Try.underlying29 Try.sizeOf41 (by rfl) (by omega)) (by repeat' (first | exact Pick.nil _ | exact Del.here _ | apply Pick.cons | apply Del.there)) rfl ?_
              refine Tr.hTakeG 7 rfl (by kernel_rfl) (panicThen (panicIn (panicThen (panicThen (panicIn (panicThen panicBody)))))) rfl rfl rfl hG8 (QS.fieldAddr (off := 0) (ft := 39) rfl Try.underlying41 rfl rfl Try.sizeOf39 (by decide)) (by repeat' (first | exact Pick.nil _ | exact Del.here _ | apply Pick.cons | apply Del.there)) rfl ?_
              refine Tr.hTakeG 8 rfl (by kernel_rfl) (panicThen (panicIn (panicThen (panicThen (panicIn (panicThen panicBody)))))) rfl rfl rfl hG8 (QS.elF rfl (by assumption) Try.isAgg39 (by omega) (by rfl)) (by repeat' (first | exact Pick.nil _ | exact Del.here _ | apply Pick.cons | apply Del.there)) rfl ?_
              refine Tr.hTakeG 9 rfl (by kernel_rfl) (panicThen (panicIn (panicThen (panicThen (panicIn (panicThen panicBody)))))) rfl rfl rfl hG8 (QS.fieldAddr (off := 0) (ft := 29) rfl Try.underlying31 rfl rfl Try.sizeOf29 (by decide)) (by repeat' (first | exact Pick.nil _ | exact Del.here _ | apply Pick.cons | apply Del.there)) rfl ?_
              refine Tr.hTakeG 10 rfl (by kernel_rfl) (panicThen (panicIn (panicThen (panicThen (panicIn (panicThen panicBody)))))) rfl rfl rfl hG8 (QS.lV rfl Try.isAgg29) (by repeat' (first | exact Pick.nil _ | exact Del.here _ | apply Pick.cons | apply Del.there)) rfl ?_
              refine Tr.hTakeG 11 rfl (by kernel_rfl) (panicThen (panicIn (panicThen (panicThen (panicIn (panicThen panicBody)))))) rfl rfl rfl hG8 (QS.move rfl) (by repeat' (first | exact Pick.nil _ | exact Del.here _ | apply Pick.cons | apply Del.there)) rfl ?_
              refine Tr.hTakeG 12 rfl (by kernel_rfl) (panicThen (panicIn (panicThen (panicThen (panicIn (panicThen panicBody)))))) rfl rfl rfl hG8 (QS.subI rfl rfl (by omega)) (by repeat' (first | exact Pick.nil _ | exact Del.here _ | apply Pick.cons | apply Del.there)) rfl ?_
              refine Tr.hTakeG 13 rfl (by kernel_rfl) (panicThen (panicIn (panicThen (panicThen (panicIn (panicThen panicBody)))))) rfl rfl rfl hG8 (QS.idx rfl rfl (by assumption) Try.underlying29 Try.sizeOf41 (by rfl) (by omega)) (by repeat' (first | exact Pick.nil _ | exact Del.here _ | apply Pick.cons | apply Del.there)) rfl ?_
              refine Tr.hTakeG 14 rfl (by kernel_rfl) (panicThen (panicIn (panicThen (panicThen (panicIn (panicThen panicBody)))))) rfl rfl rfl hG8 (QS.fieldAddr (off := 0) (ft := 39) rfl Try.underlying41 rfl rfl Try.sizeOf39 (by decide)) (by repeat' (first | exact Pick.nil _ | exact Del.here _ | apply Pick.cons | apply Del.there)) rfl ?_
              refine Tr.hTakeG 15 rfl (by kernel_rfl) (panicThen (panicIn (panicThen (panicThen (panicIn (panicThen panicBody)))))) rfl rfl rfl hG8 (QS.elF rfl (by assumption) Try.isAgg39 (by omega) (by rfl)) (by repeat' (first | exact Pick.nil _ | exact Del.here _ | apply Pick.cons | apply Del.there)) rfl ?_
              refine Tr.hTakeG 16 rfl (by kernel_rfl) (panicThen (panicIn (panicThen (panicThen (panicIn (panicThen panicBody)))))) rfl rfl rfl hG8 (QS.leq32 rfl rfl) (by repeat' (first | exact Pick.nil _ | exact Del.here _ | apply Pick.cons | apply Del.there)) rfl ?_
              refine Tr.hT 17 rfl (by kernel_rfl) (panicThen (panicIn (panicThen (panicThen (panicIn (panicThen panicBody)))))) (QS.pickT rfl hG8 rfl) ?_
              refine Tr.hT 18 rfl (by kernel_rfl) (panicThen (panicIn (panicThen (panicThen (panicIn (panicThen panicBody)))))) (QS.move rfl) ?_
              refine Tr.hGuard (t := 76) rfl (fun hG9 => ?_) (fun hG9 => ?_)
              · exact absurd (of_decide_eq_true hG9) (hasc (of_decide_eq_true hG8))
              · have hG9' := hG9
                try simp only [bs] at hG9'
                refine Tr.hTakeG 19 rfl (by kernel_rfl) (panicThen (panicIn (panicThen (panicThen (panicIn (panicThen panicBody)))))) rfl rfl rfl hG9 (QS.lW rfl Try.isAgg31 Try.sizeOf31) (by repeat' (first | exact Pick.nil _ | exact Del.here _ | apply Pick.cons | apply Del.there)) rfl ?_
                refine Tr.hTakeG 20 rfl (by kernel_rfl) (panicThen (panicIn (panicThen (panicThen (panicIn (panicThen panicBody)))))) rfl rfl rfl hG9 (QS.fieldAddr (off := 0) (ft := 29) rfl Try.underlying31 rfl rfl Try.sizeOf29 (by decide)) (by repeat' (first | exact Pick.nil _ | exact Del.here _ | apply Pick.cons | apply Del.there)) rfl ?_
                refine Tr.hTakeG 21 rfl (by kernel_rfl) (panicThen (panicIn (panicThen (panicThen (panicIn (panicThen panicBody)))))) rfl rfl rfl hG9 (QS.lV rfl Try.isAgg29) (by repeat' (first | exact Pick.nil _ | exact Del.here _ | apply Pick.cons | apply Del.there)) rfl ?_
                refine Tr.hTakeG 22 rfl (by kernel_rfl) (panicThen (panicIn (panicThen (panicThen (panicIn (panicThen panicBody)))))) rfl rfl rfl hG9 (QS.move rfl) (by repeat' (first | exact Pick.nil _ | exact Del.here _ | apply Pick.cons | apply Del.there)) rfl ?_
                refine Tr.hTakeG 23 rfl (by kernel_rfl) (panicThen (panicIn (panicThen (panicThen (panicIn (panicThen panicBody)))))) rfl rfl rfl hG9 (QS.idxN rfl rfl (by assumption) Try.underlying29 Try.sizeOf41 (by rfl) (by omega)) (by repeat' (first | exact Pick.nil _ | exact Del.here _ | apply Pick.cons | apply Del.there)) rfl ?_
                refine Tr.hTakeG 24 rfl (by kernel_rfl) (panicThen (panicIn (panicThen (panicThen (panicIn (panicThen panicBody)))))) rfl rfl rfl hG9 (QS.elA rfl (by assumption) Try.isAgg41 Try.sizeOf41 (by rfl) (by omega)) (by repeat' (first | exact Pick.nil _ | exact Del.here _ | apply Pick.cons | apply Del.there)) rfl ?_
                refine Tr.hAll [25] (by kernel_rfl) (by simp) (fun iq hq => ?_)
                obtain rfl := List.mem_singleton.1 hq
                refine Tr.hOp rfl ?_
                refine Tr.gdo rfl rfl hG9 ?_
                refine Tr.callRow rfl Try.call17 (fun w hw => succ_any (c.ins.getD k default) w (hcode.insOK _ hmi)) rfl (fun V10 => ?_)
                refine Tr.hN ?_
                refine Tr.hAll [26] (by kernel_rfl) (by simp) (fun iq hq => ?_)
                obtain rfl := List.mem_singleton.1 hq
                refine Tr.hOp rfl ?_
                refine Tr.gq rfl rfl hG9 (QS.call rfl Try.call14 (fun w hw => all12_any c.ins c.bad _ _ _ _ (succP (c.ins.getD k default)) _ w (hw.slF hcI) (hw.slF hcB) (hw.row (by repeat (first | exact List.Mem.head _ | apply List.Mem.tail))))) rfl ?_
                refine Tr.hN ?_
                refine Tr.hTakeG 27 rfl (by kernel_rfl) (panicThen (panicIn (panicThen (panicThen (panicIn (panicThen panicBody)))))) rfl rfl rfl hG9 (QS.not rfl) (by repeat' (first | exact Pick.nil _ | exact Del.here _ | apply Pick.cons | apply Del.there)) rfl ?_
                refine Tr.hT 28 rfl (by kernel_rfl) (panicThen (panicIn (panicThen (panicThen (panicIn (panicThen panicBody)))))) (QS.pickF rfl hG9 rfl) ?_
                refine Tr.hT 29 rfl (by kernel_rfl) (panicThen (panicIn (panicThen (panicThen (panicIn (panicThen panicBody)))))) (QS.move rfl) ?_
                refine Tr.hGuard (t := 87) rfl (fun hG11 => ?_) (fun hG11 => ?_)
                · rw [hsuc] at hG11; cases hG11
                · have hG11' := hG11
                  try simp only [bs] at hG11'
                  refine Tr.hTakeG 30 rfl (by kernel_rfl) (panicThen (panicIn (panicThen (panicThen (panicIn (panicThen panicBody)))))) rfl rfl rfl hG11 (QS.move rfl) (by repeat' (first | exact Pick.nil _ | exact Del.here _ | apply Pick.cons | apply Del.there)) rfl ?_
                  refine Tr.hTakeG 31 rfl (by kernel_rfl) (panicThen (panicIn (panicThen (panicThen (panicIn (panicThen panicBody)))))) rfl rfl rfl hG11 (QS.move rfl) (by repeat' (first | exact Pick.nil _ | exact Del.here _ | apply Pick.cons | apply Del.there)) rfl ?_
                  refine Tr.hGuard (t := 89) rfl (fun hG12 => ?_) (fun hG12 => ?_)
                  · have hG12' := hG12
                    try simp only [bs] at hG12'
                    refine Tr.hTakeG 32 rfl (by kernel_rfl) (panicThen (panicIn (panicThen (panicThen (panicIn (panicThen panicBody)))))) rfl rfl rfl hG12 (QS.lW rfl Try.isAgg31 Try.sizeOf31) (by repeat' (first | exact Pick.nil _ | exact Del.here _ | apply Pick.cons | apply Del.there)) rfl ?_
                    refine Tr.hTakeG 33 rfl (by kernel_rfl) (panicThen (panicIn (panicThen (panicThen (panicIn (panicThen panicBody)))))) rfl rfl rfl hG12 (QS.move rfl) (by repeat' (first | exact Pick.nil _ | exact Del.here _ | apply Pick.cons | apply Del.there)) rfl ?_
                    refine Tr.hAll [34] (by kernel_rfl) (by simp) (fun iq hq => ?_)
                    obtain rfl := List.mem_singleton.1 hq
                    refine Tr.hOp rfl ?_
                    refine Tr.gq rfl rfl hG12 (QS.call rfl Try.call14 (fun w hw => all12_any c.ins c.bad _ _ _ _ ((knownP ts at_ (c.ins.getD k default).addr).getD []) _ w (hw.slF hcI) (hw.slF hcB) (hw.slF (known_sl hTI4 hfw.tab hl)))) rfl ?_
                    refine Tr.hN ?_
                    refine Tr.hTakeG 35 rfl (by kernel_rfl) (panicThen (panicIn (panicThen (panicThen (panicIn (panicThen panicBody)))))) rfl rfl rfl hG12 (QS.not rfl) (by repeat' (first | exact Pick.nil _ | exact Del.here _ | apply Pick.cons | apply Del.there)) rfl ?_
                    refine Tr.hTakeG 36 rfl (by kernel_rfl) (panicThen (panicIn (panicThen (panicThen (panicIn (panicThen panicBody)))))) rfl rfl rfl hG11 (QS.pickT rfl hG12 rfl) (by repeat' (first | exact Pick.nil _ | exact Del.here _ | apply Pick.cons | apply Del.there)) rfl ?_
                    refine Tr.hT 37 rfl (by kernel_rfl) (panicThen (panicIn (panicThen (panicThen (panicIn (panicThen panicBody)))))) (QS.pickF rfl hG11 rfl) ?_
                    refine Tr.hT 38 rfl (by kernel_rfl) (panicThen (panicIn (panicThen (panicThen (panicIn (panicThen panicBody)))))) (QS.move rfl) ?_
                    refine Tr.hGuard (t := 96) rfl (fun hG13 => ?_) (fun hG13 => ?_)
                    · rw [hkn hG12] at hG13; cases hG13
                    · have hG13' := hG13
                      try simp only [bs] at hG13'
                      refine Tr.hTakeG 39 rfl (by kernel_rfl) (panicThen (panicIn (panicThen (panicThen (panicIn (panicThen panicBody)))))) rfl rfl rfl hG13 (QS.fieldAddr (off := 2) (ft := 23) rfl Try.underlying31 rfl rfl Try.sizeOf23 (by decide)) (by repeat' (first | exact Pick.nil _ | exact Del.here _ | apply Pick.cons | apply Del.there)) rfl ?_
                      refine Tr.hTakeG 40 rfl (by kernel_rfl) (panicThen (panicIn (panicThen (panicThen (panicIn (panicThen panicBody)))))) rfl rfl rfl hG13 (QS.lV rfl Try.isAgg23) (by repeat' (first | exact Pick.nil _ | exact Del.here _ | apply Pick.cons | apply Del.there)) rfl ?_
                      refine Tr.hTakeG 41 rfl (by kernel_rfl) (panicThen (panicIn (panicThen (panicThen (panicIn (panicThen panicBody)))))) rfl rfl rfl hG13 (QS.fieldAddr (off := 0) (ft := 29) rfl Try.underlying31 rfl rfl Try.sizeOf29 (by decide)) (by repeat' (first | exact Pick.nil _ | exact Del.here _ | apply Pick.cons | apply Del.there)) rfl ?_
                      refine Tr.hTakeG 42 rfl (by kernel_rfl) (panicThen (panicIn (panicThen (panicThen (panicIn (panicThen panicBody)))))) rfl rfl rfl hG13 (QS.lV rfl Try.isAgg29) (by repeat' (first | exact Pick.nil _ | exact Del.here _ | apply Pick.cons | apply Del.there)) rfl ?_
                      refine Tr.hTakeG 43 rfl (by kernel_rfl) (panicThen (panicIn (panicThen (panicThen (panicIn (panicThen panicBody)))))) rfl rfl rfl hG13 (QS.move rfl) (by repeat' (first | exact Pick.nil _ | exact Del.here _ | apply Pick.cons | apply Del.there)) rfl ?_
                      refine Tr.hTakeG 44 rfl (by kernel_rfl) (panicThen (panicIn (panicThen (panicThen (panicIn (panicThen panicBody)))))) rfl rfl rfl hG13 (QS.idxN rfl rfl (by assumption) Try.underlying29 Try.sizeOf41 (by rfl) (by omega)) (by repeat' (first | exact Pick.nil _ | exact Del.here _ | apply Pick.cons | apply Del.there)) rfl ?_
                      refine Tr.hTakeG 45 rfl (by kernel_rfl) (panicThen (panicIn (panicThen (panicThen (panicIn (panicThen panicBody)))))) rfl rfl rfl hG13 (QS.fieldAddr (off := 0) (ft := 39) rfl Try.underlying41 rfl rfl Try.sizeOf39 (by decide)) (by repeat' (first | exact Pick.nil _ | exact Del.here _ | apply Pick.cons | apply Del.there)) rfl ?_
                      refine Tr.hTakeG 46 rfl (by kernel_rfl) (panicThen (panicIn (panicThen (panicThen (panicIn (panicThen panicBody)))))) rfl rfl rfl hG13 (QS.elF rfl (by assumption) Try.isAgg39 (by omega) (by rfl)) (by repeat' (first | exact Pick.nil _ | exact Del.here _ | apply Pick.cons | apply Del.there)) rfl ?_
                      refine Tr.hTakeG 48 rfl (by kernel_rfl) (panicThen (panicIn (panicThen (panicThen (panicIn (panicThen panicBody)))))) rfl rfl rfl hG13 (QS.move rfl) (by repeat' (first | exact Pick.nil _ | exact Del.here _ | apply Pick.cons | apply Del.there)) rfl ?_
                      refine Tr.hAll [47] (by kernel_rfl) (by simp) (fun iq hq => ?_)
                      obtain rfl := List.mem_singleton.1 hq
                      refine Tr.hOp rfl ?_
                      refine Tr.gq rfl rfl hG13 (QS.call rfl Try.call18 (fun w hw => has12_any c.unk _ (c.ins.getD k default).addr w (hw.slF hcU))) rfl ?_
                      refine Tr.hN ?_
                      refine Tr.hTakeG 49 rfl (by kernel_rfl) (panicThen (panicIn (panicThen (panicThen (panicIn (panicThen panicBody)))))) rfl rfl rfl hG13 (QS.move rfl) (by repeat' (first | exact Pick.nil _ | exact Del.here _ | apply Pick.cons | apply Del.there)) rfl ?_
                      refine Tr.hGuard (t := 107) rfl (fun hG14 => ?_) (fun hG14 => ?_)
                      · have hG14' := hG14
                        try simp only [bs] at hG14'
                        refine Tr.hTakeG 50 rfl (by kernel_rfl) (panicThen (panicIn (panicThen (panicThen (panicIn (panicThen panicBody)))))) rfl rfl rfl hG14 (QS.move rfl) (by repeat' (first | exact Pick.nil _ | exact Del.here _ | apply Pick.cons | apply Del.there)) rfl ?_
                        refine Tr.hTakeG 51 rfl (by kernel_rfl) (panicThen (panicIn (panicThen (panicThen (panicIn (panicThen panicBody)))))) rfl rfl rfl hG14 (QS.not rfl) (by repeat' (first | exact Pick.nil _ | exact Del.here _ | apply Pick.cons | apply Del.there)) rfl ?_
                        refine Tr.hTakeG 52 rfl (by kernel_rfl) (panicThen (panicIn (panicThen (panicThen (panicIn (panicThen panicBody)))))) rfl rfl rfl hG13 (QS.pickT rfl hG14 rfl) (by repeat' (first | exact Pick.nil _ | exact Del.here _ | apply Pick.cons | apply Del.there)) rfl ?_
                        refine Tr.hTakeG 53 rfl (by kernel_rfl) (panicThen (panicIn (panicThen (panicThen (panicIn (panicThen panicBody)))))) rfl rfl rfl hG13 (QS.bool_neq rfl rfl Try.underlying4) (by repeat' (first | exact Pick.nil _ | exact Del.here _ | apply Pick.cons | apply Del.there)) rfl ?_
                        refine Tr.hT 54 rfl (by kernel_rfl) (panicThen (panicIn (panicThen (panicThen (panicIn (panicThen panicBody)))))) (QS.pickF rfl hG13 rfl) ?_
                        refine Tr.hDone (by kernel_rfl) ?_
                        refine Tr.thenN ?_
                        apply Tr.joined ()
                        · exact rfl
                        · exact (.cons (by first | rfl | exact lookI rfl (by omega) | exact lookB rfl (by rw [hunk]; first | (rw [show indP _ = true from by assumption]; cases (knownP ts at_ _).isSome <;> rfl) | (rw [show indP _ = false from by assumption]; rfl)) | exact lookI rfl (by simp) | exact lookB rfl (by simp)) Front.nil)
                        · exact SubX.dropN 55 (by kernel_rfl) rfl
                        · exact (by repeat' (first | exact Pick.nil _ | exact Del.here _ | apply Pick.cons | apply Del.there))
                        · exact trivial
                      · rw [hG12] at hG14; cases hG14
                  · have hG12' := hG12
                    try simp only [bs] at hG12'
                    refine Tr.hSkip 32 rfl (by kernel_rfl) (panicThen (panicIn (panicThen (panicThen (panicIn (panicThen panicBody)))))) rfl rfl hG12 (by repeat' (first | exact Pick.nil _ | exact Del.here _ | apply Pick.cons | apply Del.there)) rfl ?_
                    refine Tr.hSkip 33 rfl (by kernel_rfl) (panicThen (panicIn (panicThen (panicThen (panicIn (panicThen panicBody)))))) rfl rfl hG12 (by repeat' (first | exact Pick.nil _ | exact Del.here _ | apply Pick.cons | apply Del.there)) rfl ?_
                    refine Tr.hSkip 34 rfl (by kernel_rfl) (panicThen (panicIn (panicThen (panicThen (panicIn (panicThen panicBody)))))) rfl rfl hG12 (by repeat' (first | exact Pick.nil _ | exact Del.here _ | apply Pick.cons | apply Del.there)) rfl ?_
                    refine Tr.hSkip 35 rfl (by kernel_rfl) (panicThen (panicIn (panicThen (panicThen (panicIn (panicThen panicBody)))))) rfl rfl hG12 (by repeat' (first | exact Pick.nil _ | exact Del.here _ | apply Pick.cons | apply Del.there)) rfl ?_
                    refine Tr.hTakeG 36 rfl (by kernel_rfl) (panicThen (panicIn (panicThen (panicThen (panicIn (panicThen panicBody)))))) rfl rfl rfl hG11 (QS.pickF rfl hG12 rfl) (by repeat' (first | exact Pick.nil _ | exact Del.here _ | apply Pick.cons | apply Del.there)) rfl ?_
                    refine Tr.hT 37 rfl (by kernel_rfl) (panicThen (panicIn (panicThen (panicThen (panicIn (panicThen panicBody)))))) (QS.pickF rfl hG11 rfl) ?_
                    refine Tr.hT 38 rfl (by kernel_rfl) (panicThen (panicIn (panicThen (panicThen (panicIn (panicThen panicBody)))))) (QS.move rfl) ?_
                    refine Tr.hGuard (t := 96) rfl (fun hG15 => ?_) (fun hG15 => ?_)
                    · cases hG15
                    · have hG15' := hG15
                      try simp only [bs] at hG15'
                      refine Tr.hTakeG 39 rfl (by kernel_rfl) (panicThen (panicIn (panicThen (panicThen (panicIn (panicThen panicBody)))))) rfl rfl rfl hG15 (QS.fieldAddr (off := 2) (ft := 23) rfl Try.underlying31 rfl rfl Try.sizeOf23 (by decide)) (by repeat' (first | exact Pick.nil _ | exact Del.here _ | apply Pick.cons | apply Del.there)) rfl ?_
                      refine Tr.hTakeG 40 rfl (by kernel_rfl) (panicThen (panicIn (panicThen (panicThen (panicIn (panicThen panicBody)))))) rfl rfl rfl hG15 (QS.lV rfl Try.isAgg23) (by repeat' (first | exact Pick.nil _ | exact Del.here _ | apply Pick.cons | apply Del.there)) rfl ?_
                      refine Tr.hTakeG 41 rfl (by kernel_rfl) (panicThen (panicIn (panicThen (panicThen (panicIn (panicThen panicBody)))))) rfl rfl rfl hG15 (QS.fieldAddr (off := 0) (ft := 29) rfl Try.underlying31 rfl rfl Try.sizeOf29 (by decide)) (by repeat' (first | exact Pick.nil _ | exact Del.here _ | apply Pick.cons | apply Del.there)) rfl ?_
                      refine Tr.hTakeG 42 rfl (by kernel_rfl) (panicThen (panicIn (panicThen (panicThen (panicIn (panicThen panicBody)))))) rfl rfl rfl hG15 (QS.lV rfl Try.isAgg29) (by repeat' (first | exact Pick.nil _ | exact Del.here _ | apply Pick.cons | apply Del.there)) rfl ?_
                      refine Tr.hTakeG 43 rfl (by kernel_rfl) (panicThen (panicIn (panicThen (panicThen (panicIn (panicThen panicBody)))))) rfl rfl rfl hG15 (QS.move rfl) (by repeat' (first | exact Pick.nil _ | exact Del.here _ | apply Pick.cons | apply Del.there)) rfl ?_
                      refine Tr.hTakeG 44 rfl (by kernel_rfl) (panicThen (panicIn (panicThen (panicThen (panicIn (panicThen panicBody)))))) rfl rfl rfl hG15 (QS.idxN rfl rfl (by assumption) Try.underlying29 Try.sizeOf41 (by rfl) (by omega)) (by repeat' (first | exact Pick.nil _ | exact Del.here _ | apply Pick.cons | apply Del.there)) rfl ?_
                      refine Tr.hTakeG 45 rfl (by kernel_rfl) (panicThen (panicIn (panicThen (panicThen (panicIn (panicThen panicBody)))))) rfl rfl rfl hG15 (QS.fieldAddr (off := 0) (ft := 39) rfl Try.underlying41 rfl rfl Try.sizeOf39 (by decide)) (by repeat' (first | exact Pick.nil _ | exact Del.here _ | apply Pick.cons | apply Del.there)) rfl ?_
                      refine Tr.hTakeG 46 rfl (by kernel_rfl) (panicThen (panicIn (panicThen (panicThen (panicIn (panicThen panicBody)))))) rfl rfl rfl hG15 (QS.elF rfl (by assumption) Try.isAgg39 (by omega) (by rfl)) (by repeat' (first | exact Pick.nil _ | exact Del.here _ | apply Pick.cons | apply Del.there)) rfl ?_
                      refine Tr.hTakeG 48 rfl (by kernel_rfl) (panicThen (panicIn (panicThen (panicThen (panicIn (panicThen panicBody)))))) rfl rfl rfl hG15 (QS.move rfl) (by repeat' (first | exact Pick.nil _ | exact Del.here _ | apply Pick.cons | apply Del.there)) rfl ?_
                      refine Tr.hAll [47] (by kernel_rfl) (by simp) (fun iq hq => ?_)
                      obtain rfl := List.mem_singleton.1 hq
                      refine Tr.hOp rfl ?_
                      refine Tr.gq rfl rfl hG15 (QS.call rfl Try.call18 (fun w hw => has12_any c.unk _ (c.ins.getD k default).addr w (hw.slF hcU))) rfl ?_
                      refine Tr.hN ?_
                      refine Tr.hTakeG 49 rfl (by kernel_rfl) (panicThen (panicIn (panicThen (panicThen (panicIn (panicThen panicBody)))))) rfl rfl rfl hG15 (QS.move rfl) (by repeat' (first | exact Pick.nil _ | exact Del.here _ | apply Pick.cons | apply Del.there)) rfl ?_
                      refine Tr.hGuard (t := 107) rfl (fun hG16 => ?_) (fun hG16 => ?_)
                      · rw [hG12] at hG16; cases hG16
                      · have hG16' := hG16
                        try simp only [bs] at hG16'
                        refine Tr.hSkip 50 rfl (by kernel_rfl) (panicThen (panicIn (panicThen (panicThen (panicIn (panicThen panicBody)))))) rfl rfl hG16 (by repeat' (first | exact Pick.nil _ | exact Del.here _ | apply Pick.cons | apply Del.there)) rfl ?_
                        refine Tr.hSkip 51 rfl (by kernel_rfl) (panicThen (panicIn (panicThen (panicThen (panicIn (panicThen panicBody)))))) rfl rfl hG16 (by repeat' (first | exact Pick.nil _ | exact Del.here _ | apply Pick.cons | apply Del.there)) rfl ?_
                        refine Tr.hTakeG 52 rfl (by kernel_rfl) (panicThen (panicIn (panicThen (panicThen (panicIn (panicThen panicBody)))))) rfl rfl rfl hG15 (QS.pickF rfl hG16 rfl) (by repeat' (first | exact Pick.nil _ | exact Del.here _ | apply Pick.cons | apply Del.there)) rfl ?_
                        refine Tr.hTakeG 53 rfl (by kernel_rfl) (panicThen (panicIn (panicThen (panicThen (panicIn (panicThen panicBody)))))) rfl rfl rfl hG15 (QS.bool_neq rfl rfl Try.underlying4) (by repeat' (first | exact Pick.nil _ | exact Del.here _ | apply Pick.cons | apply Del.there)) rfl ?_
                        refine Tr.hT 54 rfl (by kernel_rfl) (panicThen (panicIn (panicThen (panicThen (panicIn (panicThen panicBody)))))) (QS.pickF rfl hG15 rfl) ?_
                        refine Tr.hDone (by kernel_rfl) ?_
                        refine Tr.thenN ?_
                        apply Tr.joined ()
                        · exact rfl
                        · exact (.cons (by first | rfl | exact lookI rfl (by omega) | exact lookB rfl (by rw [hunk]; first | (rw [show indP _ = true from by assumption]; cases (knownP ts at_ _).isSome <;> rfl) | (rw [show indP _ = false from by assumption]; rfl)) | exact lookI rfl (by simp) | exact lookB rfl (by simp)) Front.nil)
                        · exact SubX.dropN 55 (by kernel_rfl) rfl
                        · exact (by repeat' (first | exact Pick.nil _ | exact Del.here _ | apply Pick.cons | apply Del.there))
                        · exact trivial
            · have hG8' := hG8
              try simp only [bs] at hG8'
              refine Tr.hSkip 3 rfl (by kernel_rfl) (panicThen (panicIn (panicThen (panicThen (panicIn (panicThen panicBody)))))) rfl rfl hG8 (by repeat' (first | exact Pick.nil _ | exact Del.here _ | apply Pick.cons | apply Del.there)) rfl ?_
              refine Tr.hSkip 4 rfl (by kernel_rfl) (panicThen (panicIn (panicThen (panicThen (panicIn (panicThen panicBody)))))) rfl rfl hG8 (by repeat' (first | exact Pick.nil _ | exact Del.here _ | apply Pick.cons | apply Del.there)) rfl ?_
              refine Tr.hSkip 5 rfl (by kernel_rfl) (panicThen (panicIn (panicThen (panicThen (panicIn (panicThen panicBody)))))) rfl rfl hG8 (by repeat' (first | exact Pick.nil _ | exact Del.here _ | apply Pick.cons | apply Del.there)) rfl ?_
              refine Tr.hSkip 6 rfl (by kernel_rfl) (panicThen (panicIn (panicThen (panicThen (panicIn (panicThen panicBody)))))) rfl rfl hG8 (by repeat' (first | exact Pick.nil _ | exact Del.here _ | apply Pick.cons | apply Del.there)) rfl ?_
              refine Tr.hSkip 7 rfl (by kernel_rfl) (panicThen (panicIn (panicThen (panicThen (panicIn (panicThen panicBody)))))) rfl rfl hG8 (by repeat' (first | exact Pick.nil _ | exact Del.here _ | apply Pick.cons | apply Del.there)) rfl ?_
              refine Tr.hSkip 8 rfl (by kernel_rfl) (panicThen (panicIn (panicThen (panicThen (panicIn (panicThen panicBody)))))) rfl rfl hG8 (by repeat' (first | exact Pick.nil _ | exact Del.here _ | apply Pick.cons | apply Del.there)) rfl ?_
              refine Tr.hSkip 9 rfl (by kernel_rfl) (panicThen (panicIn (panicThen (panicThen (panicIn (panicThen panicBody)))))) rfl rfl hG8 (by repeat' (first | exact Pick.nil _ | exact Del.here _ | apply Pick.cons | apply Del.there)) rfl ?_
              refine Tr.hSkip 10 rfl (by kernel_rfl) (panicThen (panicIn (panicThen (panicThen (panicIn (panicThen panicBody)))))) rfl rfl hG8 (by repeat' (first | exact Pick.nil _ | exact Del.here _ | apply Pick.cons | apply Del.there)) rfl ?_
              refine Tr.hSkip 11 rfl (by kernel_rfl) (panicThen (panicIn (panicThen (panicThen (panicIn (panicThen panicBody)))))) rfl rfl hG8 (by repeat' (first | exact Pick.nil _ | exact Del.here _ | apply Pick.cons | apply Del.there)) rfl ?_
              refine Tr.hSkip 12 rfl (by kernel_rfl) (panicThen (panicIn (panicThen (panicThen (panicIn (panicThen panicBody)))))) rfl rfl hG8 (by repeat' (first | exact Pick.nil _ | exact Del.here _ | apply Pick.cons | apply Del.there)) rfl ?_
              refine Tr.hSkip 13 rfl (by kernel_rfl) (panicThen (panicIn (panicThen (panicThen (panicIn (panicThen panicBody)))))) rfl rfl hG8 (by repeat' (first | exact Pick.nil _ | exact Del.here _ | apply Pick.cons | apply Del.there)) rfl ?_
              refine Tr.hSkip 14 rfl (by kernel_rfl) (panicThen (panicIn (panicThen (panicThen (panicIn (panicThen panicBody)))))) rfl rfl hG8 (by repeat' (first | exact Pick.nil _ | exact Del.here _ | apply Pick.cons | apply Del.there)) rfl ?_
              refine Tr.hSkip 15 rfl (by kernel_rfl) (panicThen (panicIn (panicThen (panicThen (panicIn (panicThen panicBody)))))) rfl rfl hG8 (by repeat' (first | exact Pick.nil _ | exact Del.here _ | apply Pick.cons | apply Del.there)) rfl ?_
              refine Tr.hSkip 16 rfl (by kernel_rfl) (panicThen (panicIn (panicThen (panicThen (panicIn (panicThen panicBody)))))) rfl rfl hG8 (by repeat' (first | exact Pick.nil _ | exact Del.here _ | apply Pick.cons | apply Del.there)) rfl ?_
              refine Tr.hT 17 rfl (by kernel_rfl) (panicThen (panicIn (panicThen (panicThen (panicIn (panicThen panicBody)))))) (QS.pickF rfl hG8 rfl) ?_
              refine Tr.hT 18 rfl (by kernel_rfl) (panicThen (panicIn (panicThen (panicThen (panicIn (panicThen panicBody)))))) (QS.move rfl) ?_
              refine Tr.hGuard (t := 76) rfl (fun hG17 => ?_) (fun hG17 => ?_)
              · cases hG17
              · have hG17' := hG17
                try simp only [bs] at hG17'
                refine Tr.hTakeG 19 rfl (by kernel_rfl) (panicThen (panicIn (panicThen (panicThen (panicIn (panicThen panicBody)))))) rfl rfl rfl hG17 (QS.lW rfl Try.isAgg31 Try.sizeOf31) (by repeat' (first | exact Pick.nil _ | exact Del.here _ | apply Pick.cons | apply Del.there)) rfl ?_
                refine Tr.hTakeG 20 rfl (by kernel_rfl) (panicThen (panicIn (panicThen (panicThen (panicIn (panicThen panicBody)))))) rfl rfl rfl hG17 (QS.fieldAddr (off := 0) (ft := 29) rfl Try.underlying31 rfl rfl Try.sizeOf29 (by decide)) (by repeat' (first | exact Pick.nil _ | exact Del.here _ | apply Pick.cons | apply Del.there)) rfl ?_
                refine Tr.hTakeG 21 rfl (by kernel_rfl) (panicThen (panicIn (panicThen (panicThen (panicIn (panicThen panicBody)))))) rfl rfl rfl hG17 (QS.lV rfl Try.isAgg29) (by repeat' (first | exact Pick.nil _ | exact Del.here _ | apply Pick.cons | apply Del.there)) rfl ?_
                refine Tr.hTakeG 22 rfl (by kernel_rfl) (panicThen (panicIn (panicThen (panicThen (panicIn (panicThen panicBody)))))) rfl rfl rfl hG17 (QS.move rfl) (by repeat' (first | exact Pick.nil _ | exact Del.here _ | apply Pick.cons | apply Del.there)) rfl ?_
                refine Tr.hTakeG 23 rfl (by kernel_rfl) (panicThen (panicIn (panicThen (panicThen (panicIn (panicThen panicBody)))))) rfl rfl rfl hG17 (QS.idxN rfl rfl (by assumption) Try.underlying29 Try.sizeOf41 (by rfl) (by omega)) (by repeat' (first | exact Pick.nil _ | exact Del.here _ | apply Pick.cons | apply Del.there)) rfl ?_
                refine Tr.hTakeG 24 rfl (by kernel_rfl) (panicThen (panicIn (panicThen (panicThen (panicIn (panicThen panicBody)))))) rfl rfl rfl hG17 (QS.elA rfl (by assumption) Try.isAgg41 Try.sizeOf41 (by rfl) (by omega)) (by repeat' (first | exact Pick.nil _ | exact Del.here _ | apply Pick.cons | apply Del.there)) rfl ?_
                refine Tr.hAll [25] (by kernel_rfl) (by simp) (fun iq hq => ?_)
                obtain rfl := List.mem_singleton.1 hq
                refine Tr.hOp rfl ?_
                refine Tr.gdo rfl rfl hG17 ?_
                refine Tr.callRow rfl Try.call17 (fun w hw => succ_any (c.ins.getD k default) w (hcode.insOK _ hmi)) rfl (fun V18 => ?_)
                refine Tr.hN ?_
                refine Tr.hAll [26] (by kernel_rfl) (by simp) (fun iq hq => ?_)
                obtain rfl := List.mem_singleton.1 hq
                refine Tr.hOp rfl ?_
                refine Tr.gq rfl rfl hG17 (QS.call rfl Try.call14 (fun w hw => all12_any c.ins c.bad _ _ _ _ (succP (c.ins.getD k default)) _ w (hw.slF hcI) (hw.slF hcB) (hw.row (by repeat (first | exact List.Mem.head _ | apply List.Mem.tail))))) rfl ?_
                refine Tr.hN ?_
                refine Tr.hTakeG 27 rfl (by kernel_rfl) (panicThen (panicIn (panicThen (panicThen (panicIn (panicThen panicBody)))))) rfl rfl rfl hG17 (QS.not rfl) (by repeat' (first | exact Pick.nil _ | exact Del.here _ | apply Pick.cons | apply Del.there)) rfl ?_
                refine Tr.hT 28 rfl (by kernel_rfl) (panicThen (panicIn (panicThen (panicThen (panicIn (panicThen panicBody)))))) (QS.pickF rfl hG17 rfl) ?_
                refine Tr.hT 29 rfl (by kernel_rfl) (panicThen (panicIn (panicThen (panicThen (panicIn (panicThen panicBody)))))) (QS.move rfl) ?_
                refine Tr.hGuard (t := 87) rfl (fun hG19 => ?_) (fun hG19 => ?_)
                · rw [hsuc] at hG19; cases hG19
                · have hG19' := hG19
                  try simp only [bs] at hG19'
                  refine Tr.hTakeG 30 rfl (by kernel_rfl) (panicThen (panicIn (panicThen (panicThen (panicIn (panicThen panicBody)))))) rfl rfl rfl hG19 (QS.move rfl) (by repeat' (first | exact Pick.nil _ | exact Del.here _ | apply Pick.cons | apply Del.there)) rfl ?_
                  refine Tr.hTakeG 31 rfl (by kernel_rfl) (panicThen (panicIn (panicThen (panicThen (panicIn (panicThen panicBody)))))) rfl rfl rfl hG19 (QS.move rfl) (by repeat' (first | exact Pick.nil _ | exact Del.here _ | apply Pick.cons | apply Del.there)) rfl ?_
                  refine Tr.hGuard (t := 89) rfl (fun hG20 => ?_) (fun hG20 => ?_)
                  · have hG20' := hG20
                    try simp only [bs] at hG20'
                    refine Tr.hTakeG 32 rfl (by kernel_rfl) (panicThen (panicIn (panicThen (panicThen (panicIn (panicThen panicBody)))))) rfl rfl rfl hG20 (QS.lW rfl Try.isAgg31 Try.sizeOf31) (by repeat' (first | exact Pick.nil _ | exact Del.here _ | apply Pick.cons | apply Del.there)) rfl ?_
                    refine Tr.hTakeG 33 rfl (by kernel_rfl) (panicThen (panicIn (panicThen (panicThen (panicIn (panicThen panicBody)))))) rfl rfl rfl hG20 (QS.move rfl) (by repeat' (first | exact Pick.nil _ | exact Del.here _ | apply Pick.cons | apply Del.there)) rfl ?_
                    refine Tr.hAll [34] (by kernel_rfl) (by simp) (fun iq hq => ?_)
                    obtain rfl := List.mem_singleton.1 hq
                    refine Tr.hOp rfl ?_
                    refine Tr.gq rfl rfl hG20 (QS.call rfl Try.call14 (fun w hw => all12_any c.ins c.bad _ _ _ _ ((knownP ts at_ (c.ins.getD k default).addr).getD []) _ w (hw.slF hcI) (hw.slF hcB) (hw.slF (known_sl hTI4 hfw.tab hl)))) rfl ?_
                    refine Tr.hN ?_
                    refine Tr.hTakeG 35 rfl (by kernel_rfl) (panicThen (panicIn (panicThen (panicThen (panicIn (panicThen panicBody)))))) rfl rfl rfl hG20 (QS.not rfl) (by repeat' (first | exact Pick.nil _ | exact Del.here _ | apply Pick.cons | apply Del.there)) rfl ?_
                    refine Tr.hTakeG 36 rfl (by kernel_rfl) (panicThen (panicIn (panicThen (panicThen (panicIn (panicThen panicBody)))))) rfl rfl rfl hG19 (QS.pickT rfl hG20 rfl) (by repeat' (first | exact Pick.nil _ | exact Del.here _ | apply Pick.cons | apply Del.there)) rfl ?_
                    refine Tr.hT 37 rfl (by kernel_rfl) (panicThen (panicIn (panicThen (panicThen (panicIn (panicThen panicBody)))))) (QS.pickF rfl hG19 rfl) ?_
                    refine Tr.hT 38 rfl (by kernel_rfl) (panicThen (panicIn (panicThen (panicThen (panicIn (panicThen panicBody)))))) (QS.move rfl) ?_
                    refine Tr.hGuard (t := 96) rfl (fun hG21 => ?_) (fun hG21 => ?_)
                    · rw [hkn hG20] at hG21; cases hG21
                    · have hG21' := hG21
                      try simp only [bs] at hG21'
                      refine Tr.hTakeG 39 rfl (by kernel_rfl) (panicThen (panicIn (panicThen (panicThen (panicIn (panicThen panicBody)))))) rfl rfl rfl hG21 (QS.fieldAddr (off := 2) (ft := 23) rfl Try.underlying31 rfl rfl Try.sizeOf23 (by decide)) (by repeat' (first | exact Pick.nil _ | exact Del.here _ | apply Pick.cons | apply Del.there)) rfl ?_
                      refine Tr.hTakeG 40 rfl (by kernel_rfl) (panicThen (panicIn (panicThen (panicThen (panicIn (panicThen panicBody)))))) rfl rfl rfl hG21 (QS.lV rfl Try.isAgg23) (by repeat' (first | exact Pick.nil _ | exact Del.here _ | apply Pick.cons | apply Del.there)) rfl ?_
                      refine Tr.hTakeG 41 rfl (by kernel_rfl) (panicThen (panicIn (panicThen (panicThen (panicIn (panicThen panicBody)))))) rfl rfl rfl hG21 (QS.fieldAddr (off := 0) (ft := 29) rfl Try.underlying31 rfl rfl Try.sizeOf29 (by decide)) (by repeat' (first | exact Pick.nil _ | exact Del.here _ | apply Pick.cons | apply Del.there)) rfl ?_
                      refine Tr.hTakeG 42 rfl (by kernel_rfl) (panicThen (panicIn (panicThen (panicThen (panicIn (panicThen panicBody)))))) rfl rfl rfl hG21 (QS.lV rfl Try.isAgg29) (by repeat' (first | exact Pick.nil _ | exact Del.here _ | apply Pick.cons | apply Del.there)) rfl ?_
                      refine Tr.hTakeG 43 rfl (by kernel_rfl) (panicThen (panicIn (panicThen (panicThen (panicIn (panicThen panicBody)))))) rfl rfl rfl hG21 (QS.move rfl) (by repeat' (first | exact Pick.nil _ | exact Del.here _ | apply Pick.cons | apply Del.there)) rfl ?_
                      refine Tr.hTakeG 44 rfl (by kernel_rfl) (panicThen (panicIn (panicThen (panicThen (panicIn (panicThen panicBody)))))) rfl rfl rfl hG21 (QS.idxN rfl rfl (by assumption) Try.underlying29 Try.sizeOf41 (by rfl) (by omega)) (by repeat' (first | exact Pick.nil _ | exact Del.here _ | apply Pick.cons | apply Del.there)) rfl ?_
                      refine Tr.hTakeG 45 rfl (by kernel_rfl) (panicThen (panicIn (panicThen (panicThen (panicIn (panicThen panicBody)))))) rfl rfl rfl hG21 (QS.fieldAddr (off := 0) (ft := 39) rfl Try.underlying41 rfl rfl Try.sizeOf39 (by decide)) (by repeat' (first | exact Pick.nil _ | exact Del.here _ | apply Pick.cons | apply Del.there)) rfl ?_
                      refine Tr.hTakeG 46 rfl (by kernel_rfl) (panicThen (panicIn (panicThen (panicThen (panicIn (panicThen panicBody)))))) rfl rfl rfl hG21 (QS.elF rfl (by assumption) Try.isAgg39 (by omega) (by rfl)) (by repeat' (first | exact Pick.nil _ | exact Del.here _ | apply Pick.cons | apply Del.there)) rfl ?_
                      refine Tr.hTakeG 48 rfl (by kernel_rfl) (panicThen (panicIn (panicThen (panicThen (panicIn (panicThen panicBody)))))) rfl rfl rfl hG21 (QS.move rfl) (by repeat' (first | exact Pick.nil _ | exact Del.here _ | apply Pick.cons | apply Del.there)) rfl ?_
                      refine Tr.hAll [47] (by kernel_rfl) (by simp) (fun iq hq => ?_)
                      obtain rfl := List.mem_singleton.1 hq
                      refine Tr.hOp rfl ?_
                      refine Tr.gq rfl rfl hG21 (QS.call rfl Try.call18 (fun w hw => has12_any c.unk _ (c.ins.getD k default).addr w (hw.slF hcU))) rfl ?_
                      refine Tr.hN ?_
                      refine Tr.hTakeG 49 rfl (by kernel_rfl) (panicThen (panicIn (panicThen (panicThen (panicIn (panicThen panicBody)))))) rfl rfl rfl hG21 (QS.move rfl) (by repeat' (first | exact Pick.nil _ | exact Del.here _ | apply Pick.cons | apply Del.there)) rfl ?_
                      refine Tr.hGuard (t := 107) rfl (fun hG22 => ?_) (fun hG22 => ?_)
                      · have hG22' := hG22
                        try simp only [bs] at hG22'
                        refine Tr.hTakeG 50 rfl (by kernel_rfl) (panicThen (panicIn (panicThen (panicThen (panicIn (panicThen panicBody)))))) rfl rfl rfl hG22 (QS.move rfl) (by repeat' (first | exact Pick.nil _ | exact Del.here _ | apply Pick.cons | apply Del.there)) rfl ?_
                        refine Tr.hTakeG 51 rfl (by kernel_rfl) (panicThen (panicIn (panicThen (panicThen (panicIn (panicThen panicBody)))))) rfl rfl rfl hG22 (QS.not rfl) (by repeat' (first | exact Pick.nil _ | exact Del.here _ | apply Pick.cons | apply Del.there)) rfl ?_
                        refine Tr.hTakeG 52 rfl (by kernel_rfl) (panicThen (panicIn (panicThen (panicThen (panicIn (panicThen panicBody)))))) rfl rfl rfl hG21 (QS.pickT rfl hG22 rfl) (by repeat' (first | exact Pick.nil _ | exact Del.here _ | apply Pick.cons | apply Del.there)) rfl ?_
                        refine Tr.hTakeG 53 rfl (by kernel_rfl) (panicThen (panicIn (panicThen (panicThen (panicIn (panicThen panicBody)))))) rfl rfl rfl hG21 (QS.bool_neq rfl rfl Try.underlying4) (by repeat' (first | exact Pick.nil _ | exact Del.here _ | apply Pick.cons | apply Del.there)) rfl ?_
                        refine Tr.hT 54 rfl (by kernel_rfl) (panicThen (panicIn (panicThen (panicThen (panicIn (panicThen panicBody)))))) (QS.pickF rfl hG21 rfl) ?_
                        refine Tr.hDone (by kernel_rfl) ?_
                        refine Tr.thenN ?_
                        apply Tr.joined ()
                        · exact rfl
                        · exact (.cons (by first | rfl | exact lookI rfl (by omega) | exact lookB rfl (by rw [hunk]; first | (rw [show indP _ = true from by assumption]; cases (knownP ts at_ _).isSome <;> rfl) | (rw [show indP _ = false from by assumption]; rfl)) | exact lookI rfl (by simp) | exact lookB rfl (by simp)) Front.nil)
                        · exact SubX.dropN 55 (by kernel_rfl) rfl
                        · exact (by repeat' (first | exact Pick.nil _ | exact Del.here _ | apply Pick.cons | apply Del.there))
                        · exact trivial
                      · rw [hG20] at hG22; cases hG22
                  · have hG20' := hG20
                    try simp only [bs] at hG20'
                    refine Tr.hSkip 32 rfl (by kernel_rfl) (panicThen (panicIn (panicThen (panicThen (panicIn (panicThen panicBody)))))) rfl rfl hG20 (by repeat' (first | exact Pick.nil _ | exact Del.here _ | apply Pick.cons | apply Del.there)) rfl ?_
                    refine Tr.hSkip 33 rfl (by kernel_rfl) (panicThen (panicIn (panicThen (panicThen (panicIn (panicThen panicBody)))))) rfl rfl hG20 (by repeat' (first | exact Pick.nil _ | exact Del.here _ | apply Pick.cons | apply Del.there)) rfl ?_
                    refine Tr.hSkip 34 rfl (by kernel_rfl) (panicThen (panicIn (panicThen (panicThen (panicIn (panicThen panicBody)))))) rfl rfl hG20 (by repeat' (first | exact Pick.nil _ | exact Del.here _ | apply Pick.cons | apply Del.there)) rfl ?_
                    refine Tr.hSkip 35 rfl (by kernel_rfl) (panicThen (panicIn (panicThen (panicThen (panicIn (panicThen panicBody)))))) rfl rfl hG20 (by repeat' (first | exact Pick.nil _ | exact Del.here _ | apply Pick.cons | apply Del.there)) rfl ?_
                    refine Tr.hTakeG 36 rfl (by kernel_rfl) (panicThen (panicIn (panicThen (panicThen (panicIn (panicThen panicBody)))))) rfl rfl rfl hG19 (QS.pickF rfl hG20 rfl) (by repeat' (first | exact Pick.nil _ | exact Del.here _ | apply Pick.cons | apply Del.there)) rfl ?_
                    refine Tr.hT 37 rfl (by kernel_rfl) (panicThen (panicIn (panicThen (panicThen (panicIn (panicThen panicBody)))))) (QS.pickF rfl hG19 rfl) ?_
                    refine Tr.hT 38 rfl (by kernel_rfl) (panicThen (panicIn (panicThen (panicThen (panicIn (panicThen panicBody)))))) (QS.move rfl) ?_
                    refine Tr.hGuard (t := 96) rfl (fun hG23 => ?_) (fun hG23 => ?_)
                    · cases hG23
                    · have hG23' := hG23
                      try simp only [bs] at hG23'
                      refine Tr.hTakeG 39 rfl (by kernel_rfl) (panicThen (panicIn (panicThen (panicThen (panicIn (panicThen panicBody)))))) rfl rfl rfl hG23 (QS.fieldAddr (off := 2) (ft := 23) rfl Try.underlying31 rfl rfl Try.sizeOf23 (by decide)) (by repeat' (first | exact Pick.nil _ | exact Del.here _ | apply Pick.cons | apply Del.there)) rfl ?_
                      refine Tr.hTakeG 40 rfl (by kernel_rfl) (panicThen (panicIn (panicThen (panicThen (panicIn (panicThen panicBody)))))) rfl rfl rfl hG23 (QS.lV rfl Try.isAgg23) (by repeat' (first | exact Pick.nil _ | exact Del.here _ | apply Pick.cons | apply Del.there)) rfl ?_
                      refine Tr.hTakeG 41 rfl (by kernel_rfl) (panicThen (panicIn (panicThen (panicThen (panicIn (panicThen panicBody)))))) rfl rfl rfl hG23 (QS.fieldAddr (off := 0) (ft := 29) rfl Try.underlying31 rfl rfl Try.sizeOf29 (by decide)) (by repeat' (first | exact Pick.nil _ | exact Del.here _ | apply Pick.cons | apply Del.there)) rfl ?_
                      refine Tr.hTakeG 42 rfl (by kernel_rfl) (panicThen (panicIn (panicThen (panicThen (panicIn (panicThen panicBody)))))) rfl rfl rfl hG23 (QS.lV rfl Try.isAgg29) (by repeat' (first | exact Pick.nil _ | exact Del.here _ | apply Pick.cons | apply Del.there)) rfl ?_
                      refine Tr.hTakeG 43 rfl (by kernel_rfl) (panicThen (panicIn (panicThen (panicThen (panicIn (panicThen panicBody)))))) rfl rfl rfl hG23 (QS.move rfl) (by repeat' (first | exact Pick.nil _ | exact Del.here _ | apply Pick.cons | apply Del.there)) rfl ?_
                      refine Tr.hTakeG 44 rfl (by kernel_rfl) (panicThen (panicIn (panicThen (panicThen (panicIn (panicThen panicBody)))))) rfl rfl rfl hG23 (QS.idxN rfl rfl (by assumption) Try.underlying29 Try.sizeOf41 (by rfl) (by omega)) (by repeat' (first | exact Pick.nil _ | exact Del.here _ | apply Pick.cons | apply Del.there)) rfl ?_
                      refine Tr.hTakeG 45 rfl (by kernel_rfl) (panicThen (panicIn (panicThen (panicThen (panicIn (panicThen panicBody)))))) rfl rfl rfl hG23 (QS.fieldAddr (off := 0) (ft := 39) rfl Try.underlying41 rfl rfl Try.sizeOf39 (by decide)) (by repeat' (first | exact Pick.nil _ | exact Del.here _ | apply Pick.cons | apply Del.there)) rfl ?_
                      refine Tr.hTakeG 46 rfl (by kernel_rfl) (panicThen (panicIn (panicThen (panicThen (panicIn (panicThen panicBody)))))) rfl rfl rfl hG23 (QS.elF rfl (by assumption) Try.isAgg39 (by omega) (by rfl)) (by repeat' (first | exact Pick.nil _ | exact Del.here _ | apply Pick.cons | apply Del.there)) rfl ?_
                      refine Tr.hTakeG 48 rfl (by kernel_rfl) (panicThen (panicIn (panicThen (panicThen (panicIn (panicThen panicBody)))))) rfl rfl rfl hG23 (QS.move rfl) (by repeat' (first | exact Pick.nil _ | exact Del.here _ | apply Pick.cons | apply Del.there)) rfl ?_
                      refine Tr.hAll [47] (by kernel_rfl) (by simp) (fun iq hq => ?_)
                      obtain rfl := List.mem_singleton.1 hq
                      refine Tr.hOp rfl ?_
                      refine Tr.gq rfl rfl hG23 (QS.call rfl Try.call18 (fun w hw => has12_any c.unk _ (c.ins.getD k default).addr w (hw.slF hcU))) rfl ?_
                      refine Tr.hN ?_
                      refine Tr.hTakeG 49 rfl (by kernel_rfl) (panicThen (panicIn (panicThen (panicThen (panicIn (panicThen panicBody)))))) rfl rfl rfl hG23 (QS.move rfl) (by repeat' (first | exact Pick.nil _ | exact Del.here _ | apply Pick.cons | apply Del.there)) rfl ?_
                      refine Tr.hGuard (t := 107) rfl (fun hG24 => ?_) (fun hG24 => ?_)
                      · rw [hG20] at hG24; cases hG24
                      · have hG24' := hG24
                        try simp only [bs] at hG24'
                        refine Tr.hSkip 50 rfl (by kernel_rfl) (panicThen (panicIn (panicThen (panicThen (panicIn (panicThen panicBody)))))) rfl rfl hG24 (by repeat' (first | exact Pick.nil _ | exact Del.here _ | apply Pick.cons | apply Del.there)) rfl ?_
                        refine Tr.hSkip 51 rfl (by kernel_rfl) (panicThen (panicIn (panicThen (panicThen (panicIn (panicThen panicBody)))))) rfl rfl hG24 (by repeat' (first | exact Pick.nil _ | exact Del.here _ | apply Pick.cons | apply Del.there)) rfl ?_
                        refine Tr.hTakeG 52 rfl (by kernel_rfl) (panicThen (panicIn (panicThen (panicThen (panicIn (panicThen panicBody)))))) rfl rfl rfl hG23 (QS.pickF rfl hG24 rfl) (by repeat' (first | exact Pick.nil _ | exact Del.here _ | apply Pick.cons | apply Del.there)) rfl ?_
                        refine Tr.hTakeG 53 rfl (by kernel_rfl) (panicThen (panicIn (panicThen (panicThen (panicIn (panicThen panicBody)))))) rfl rfl rfl hG23 (QS.bool_neq rfl rfl Try.underlying4) (by repeat' (first | exact Pick.nil _ | exact Del.here _ | apply Pick.cons | apply Del.there)) rfl ?_
                        refine Tr.hT 54 rfl (by kernel_rfl) (panicThen (panicIn (panicThen (panicThen (panicIn (panicThen panicBody)))))) (QS.pickF rfl hG23 rfl) ?_
                        refine Tr.hDone (by kernel_rfl) ?_
                        refine Tr.thenN ?_
                        apply Tr.joined ()
                        · exact rfl
                        · exact (.cons (by first | rfl | exact lookI rfl (by omega) | exact lookB rfl (by rw [hunk]; first | (rw [show indP _ = true from by assumption]; cases (knownP ts at_ _).isSome <;> rfl) | (rw [show indP _ = false from by assumption]; rfl)) | exact lookI rfl (by simp) | exact lookB rfl (by simp)) Front.nil)
                        · exact SubX.dropN 55 (by kernel_rfl) rfl
                        · exact (by repeat' (first | exact Pick.nil _ | exact Del.here _ | apply Pick.cons | apply Del.there))
                        · exact trivial
          · skip
            replace hi : True := hi
            change Tr _ _ [cellE b3 [.slice pVi c.ins.length cVi, .slice pVe c.ents.length cVe, .slice pVu c.unk.length cVu, .slice pVb c.bad.length cVb] 31, cellE b1 [.slice sa1 l.length sc1, .slice sa2 es.length sc2, .slice sa3 ts.length sc3, .slice sa4 at_.length sc4] 26] ([(112, .bool false)] ++ _) _
            refine Tr.cond rfl (fun h25 => ?_) (fun h25 => ?_)
            · try simp only [bs] at h25
              first | contradiction | (exfalso; omega) | simp_all
            · try simp only [bs] at h25
              refine Tr.skip ?_
              refine Tr.inN ?_
              refine Tr.thenN ?_
              refine Tr.region ?_
              refine Tr.q (QS.move rfl) rfl ?_
              refine Tr.q (QS.addI rfl rfl (by omega)) rfl ?_
              refine Tr.q (QS.assign rfl) rfl ?_
              refine Tr.nil ?_
              refine Tr.thenN ?_
              apply Tr.again (k + 1)
              · exact rfl
              · exact (.cons (by first | rfl | exact lookI rfl (by omega) | exact lookB rfl (by rw [hunk]; first | (rw [show indP _ = true from by assumption]; cases (knownP ts at_ _).isSome <;> rfl) | (rw [show indP _ = false from by assumption]; rfl)) | exact lookI rfl (by simp) | exact lookB rfl (by simp)) Front.nil)
              · exact SubX.dropN 34 (by kernel_rfl) rfl
              · exact (by repeat' (first | exact Pick.nil _ | exact Del.here _ | apply Pick.cons | apply Del.there))
              · exact (by show k + 1 ≤ _; omega)
              · exact (by (try dsimp only); omega)
        · try simp only [bs] at h7
          refine Tr.exit ?_
          refine Tr.thenE ?_
          refine Tr.thenE ?_
          refine Tr.inHit ?_
          refine Tr.thenN ?_
          refine Tr.seq ?_
          refine Tr.region ?_
          refine Tr.q (QS.call0 hdr4 rfl Try.call11 (fun w hw => example12_any w)) rfl ?_
          refine Tr.q (QS.assign rfl) rfl ?_
          refine Tr.nil ?_
          refine Tr.thenN ?_
          refine Tr.ret ?_
          refine Tr.ret1 Try.results3 rfl (fun w' hw => ?_)
          exact ⟨rfl, hw.below0 hF04⟩
end Go.Proofs.Ytnmaokalpbnmaaa
namespace Go.HL
open Go Go.Deep Go.ChangeShapes Go.WideShapes
section
variable {H : Type} {enc : TypeId × Value → H} {P : Program} {w : World} {base : Nat} {spare : Nat → Bool} {held : Bool}
theorem sl_of_trod {α : Type} [Inhabited α] {E : Enc α} {R : α → Prop} {t e : TypeId} {fuel : Nat} {V : Value} {x : DataW H × List MemPlace} (ht : P.underlying t = some (.slice e)) (hc : P.cellsOf e = E.k) (hk : 0 < E.k)
    (hf : ∀ n cs y, cs.length = E.k → DataW.trod enc P w base spare held n e cs = some y → ∃ a : α, cs = E.enc a ∧ R a)
    (h : DataW.trod enc P w base spare held fuel t [V] = some x) : ∃ l : List α, Sl (hp w) E l V ∧ ∀ a ∈ l, R a := by
  rcases open_slice ht h with ⟨h0, _⟩ | ⟨a, len, cap, m, n, D, Pl, hv, hb, hl, hm, hmm, _, hx⟩
  · simp only [List.cons.injEq, and_true] at h0
    subst h0
    exact ⟨[], Sl.nil _ _, by simp⟩
  · simp only [List.cons.injEq, and_true] at hv
    subst hv
    have hlm : len ≤ m := by rw [hmm]; split <;> omega
    have each : ∀ i, i < len → ∃ q : α, w.cells? base (a.add (i * E.k)) E.k = some (E.enc q) ∧ R q := fun i hi => by
      obtain ⟨cs', h1, h2⟩ := hx i (by omega)
      rw [hc] at h1
      obtain ⟨q, rfl, hq⟩ := hf n cs' _ (World.cells?_some h1).2.1 h2
      exact ⟨q, h1, hq⟩
    obtain ⟨f, hfn⟩ := choose_lt each
    have hsp : 0 < len → a = ⟨a.block, a.off, none⟩ := fun hl0 => by
      have h1 := (World.cells?_some (hfn 0 hl0).1).2.2 0 hk
      have hlen : 0 < (E.enc (f 0)).length := by rw [E.len]; exact hk
      rw [List.getElem?_eq_getElem hlen] at h1
      have hsp := World.cell?_spot h1
      obtain ⟨b, o, sp⟩ := a
      have : sp = none := by simpa [Addr.add] using hsp
      subst this
      rfl
    refine ⟨(List.range len).map f, ⟨⟨some a, cap, by simp, by simpa using hl, hm, fun hne => ?_⟩, fun i q hq => ?_⟩, fun q hq => ?_⟩
    · have hl0 : 0 < len := by
        rcases Nat.eq_zero_or_pos len with h | h
        · subst h; simp at hne
        · exact h
      rw [hsp hl0]; rfl
    · have hi : i < len := by
        have := (List.getElem?_eq_some_iff.1 hq).1
        simpa using this
      have hq' : f i = q := by simpa [hi] using hq
      subst hq'
      have ha := hsp (by omega)
      obtain ⟨b, o, sp⟩ := a
      obtain rfl : sp = none := by simpa using ha
      have hc' := (World.cells?_some (hfn i hi).1).2.2
      have hlen : (E.enc (f i)).length = E.k := E.len _
      have eA : ∀ j, (((⟨b, o, none⟩ : Addr).add (i * E.k)).add j) = ⟨b, o + i * E.k + j, none⟩ := fun j => by
        rw [Go.Deep.add_add]; simp only [Addr.add]
        by_cases h0 : i * E.k + j = 0
        · rw [if_pos h0]
          have : i * E.k = 0 := by omega
          have : j = 0 := by omega
          simp_all
        · rw [if_neg h0, Nat.add_assoc]
      have h1 := hc' 0 hk
      rw [List.getElem?_eq_getElem (by omega), eA] at h1
      have hb1 : ∃ cs T fz, w.heap[b]? = some (.cells cs T fz) := by
        unfold World.cell? at h1
        split at h1
        · rename_i cs T fz hh; exact ⟨cs, T, fz, hh⟩
        · simp at h1
      obtain ⟨cs, T, fz, hh⟩ := hb1
      refine ⟨cs, T, fz, hh, fun j v hj => ?_⟩
      have hjk : j < E.k := by have := (List.getElem?_eq_some_iff.1 hj).1; omega
      have h2 := hc' j hjk
      rw [hj, eA] at h2
      unfold World.cell? at h2
      simp only [hh] at h2
      simp only [ofs]
      simpa using h2
    · obtain ⟨i, hi, rfl⟩ := List.mem_map.1 hq
      exact (hfn i (List.mem_range.1 hi)).2
theorem u8_of_wf {n : Int} (h : (Lit.int .u8 n).wf = true) : ∃ x : UInt8, n = (x.toNat : Int) := by
  have := bounds_u8 h
  refine ⟨UInt8.ofNat n.toNat, ?_⟩
  rw [UInt8.toNat_ofNat']; omega
theorem u32_of_wf {n : Int} (h : (Lit.int .u32 n).wf = true) : ∃ x : UInt32, n = (x.toNat : Int) := by
  have := bounds_u32 h
  refine ⟨UInt32.ofNat n.toNat, ?_⟩
  rw [UInt32.toNat_ofNat']; omega
theorem flat_u8 {e : TypeId} (he : P.underlying e = some (.int .u8)) {n : Nat} {cs : List Value} {y : DataW H × List MemPlace} (h : DataW.trod enc P w base spare held n e cs = some y) : ∃ a, cs = encU8.enc a ∧ True := by
  obtain ⟨z, rfl, _, hw⟩ := DataW.trod_int he h
  obtain ⟨x, rfl⟩ := u8_of_wf hw
  exact ⟨x, rfl, trivial⟩
end
end Go.HL
namespace Go.HL
open Go Go.Deep Go.ChangeShapes Go.WideShapes
section
variable {H : Type} {enc : TypeId × Value → H} {P : Program} {w : World} {base : Nat} {spare : Nat → Bool} {held : Bool}
theorem agg_of {cs : Array Value} {l : List Value} (h : (Value.agg cs).cells.toList = l) : cs = l.toArray := by
  subst h; simp [Value.cells]
end
end Go.HL
namespace Go.HL
open Go Go.Deep Go.ChangeShapes Go.WideShapes
section
variable {H : Type} {enc : TypeId × Value → H} {P : Program} {w : World} {base : Nat} {spare : Nat → Bool} {held : Bool}
theorem flat_u32 {e : TypeId} (he : P.underlying e = some (.int .u32)) {n : Nat} {cs : List Value} {y : DataW H × List MemPlace} (h : DataW.trod enc P w base spare held n e cs = some y) : ∃ a, cs = encU32.enc a ∧ True := by
  obtain ⟨z, rfl, _, hw⟩ := DataW.trod_int he h
  obtain ⟨x, rfl⟩ := u32_of_wf hw
  exact ⟨x, rfl, trivial⟩
end
end Go.HL
namespace Go.HL
open Go Go.Deep Go.ChangeShapes Go.WideShapes
section
variable {H : Type} {enc : TypeId × Value → H} {P : Program} {w : World} {base : Nat} {spare : Nat → Bool} {held : Bool}
/-- No slice and no text in it is beyond what the form reaches. -/
def Light (P : Program) (t : TypeId) (d : DataW H) : Prop := ∀ n ∈ d.weights P t, n ≤ reachBytes
theorem weightsAll_mem {P : Program} {e : TypeId} : ∀ {l : List (DataW H)} {d : DataW H}, d ∈ l → ∀ n ∈ d.weights P e, n ∈ DataW.weightsAll P e l
  | x :: l, d, h, n, hn => by
    simp only [DataW.weightsAll, List.mem_append]
    rcases List.mem_cons.1 h with rfl | h
    · exact .inl hn
    · exact .inr (weightsAll_mem h n hn)
theorem sl_of_trodW {α : Type} [Inhabited α] {E : Enc α} {R : α → Prop} {t e : TypeId} {fuel : Nat} {V : Value} {x : DataW H × List MemPlace} (ht : P.underlying t = some (.slice e)) (hc : P.cellsOf e = E.k) (hk : 0 < E.k) (hL : Light P t x.1)
    (hf : ∀ n cs y, cs.length = E.k → DataW.trod enc P w base spare held n e cs = some y → Light P e y.1 → ∃ a : α, cs = E.enc a ∧ R a)
    (h : DataW.trod enc P w base spare held fuel t [V] = some x) : ∃ l : List α, Sl (hp w) E l V ∧ (∀ a ∈ l, R a) ∧ l.length * P.bytesOf e ≤ reachBytes := by
  rcases open_slice ht h with ⟨h0, _⟩ | ⟨a, len, cap, m, n, D, Pl, hv, hb, hl, hm, hmm, hxx, hx⟩
  · simp only [List.cons.injEq, and_true] at h0
    subst h0
    exact ⟨[], Sl.nil _ _, by simp, by simp⟩
  · simp only [List.cons.injEq, and_true] at hv
    subst hv
    subst hxx
    have hlm : len ≤ m := by rw [hmm]; split <;> omega
    have hw : DataW.weights P t (.slice ((List.range len).map D) ((List.range (m - len)).map fun j => D (len + j))) = (((List.range len).map D).length + ((List.range (m - len)).map fun j => D (len + j)).length) * P.bytesOf e :: (DataW.weightsAll P e ((List.range len).map D) ++ DataW.weightsAll P e ((List.range (m - len)).map fun j => D (len + j))) := by
      simp only [DataW.weights, ht]
    have each : ∀ i, i < len → ∃ q : α, w.cells? base (a.add (i * E.k)) E.k = some (E.enc q) ∧ R q := fun i hi => by
      obtain ⟨cs', h1, h2⟩ := hx i (by omega)
      rw [hc] at h1
      obtain ⟨q, rfl, hq⟩ := hf n cs' _ (World.cells?_some h1).2.1 h2 (fun z hz => hL z (by
        rw [hw]
        exact .tail _ (List.mem_append.2 (.inl (weightsAll_mem (List.mem_map.2 ⟨i, List.mem_range.2 hi, rfl⟩) z hz)))))
      exact ⟨q, h1, hq⟩
    obtain ⟨f, hfn⟩ := choose_lt each
    have hsp : 0 < len → a = ⟨a.block, a.off, none⟩ := fun hl0 => by
      have h1 := (World.cells?_some (hfn 0 hl0).1).2.2 0 hk
      have hlen : 0 < (E.enc (f 0)).length := by rw [E.len]; exact hk
      rw [List.getElem?_eq_getElem hlen] at h1
      have hsp := World.cell?_spot h1
      obtain ⟨b, o, sp⟩ := a
      have : sp = none := by simpa [Addr.add] using hsp
      subst this
      rfl
    refine ⟨(List.range len).map f, ⟨⟨some a, cap, by simp, by simpa using hl, hm, fun hne => ?_⟩, fun i q hq => ?_⟩, fun q hq => ?_, ?_⟩
    · have hl0 : 0 < len := by
        rcases Nat.eq_zero_or_pos len with h | h
        · subst h; simp at hne
        · exact h
      rw [hsp hl0]; rfl
    · have hi : i < len := by
        have := (List.getElem?_eq_some_iff.1 hq).1
        simpa using this
      have hq' : f i = q := by simpa [hi] using hq
      subst hq'
      have ha := hsp (by omega)
      obtain ⟨b, o, sp⟩ := a
      obtain rfl : sp = none := by simpa using ha
      have hc' := (World.cells?_some (hfn i hi).1).2.2
      have hlen : (E.enc (f i)).length = E.k := E.len _
      have eA : ∀ j, (((⟨b, o, none⟩ : Addr).add (i * E.k)).add j) = ⟨b, o + i * E.k + j, none⟩ := fun j => by
        rw [Go.Deep.add_add]; simp only [Addr.add]
        by_cases h0 : i * E.k + j = 0
        · rw [if_pos h0]
          have : i * E.k = 0 := by omega
          have : j = 0 := by omega
          simp_all
        · rw [if_neg h0, Nat.add_assoc]
      have h1 := hc' 0 hk
      rw [List.getElem?_eq_getElem (by omega), eA] at h1
      have hb1 : ∃ cs T fz, w.heap[b]? = some (.cells cs T fz) := by
        unfold World.cell? at h1
        split at h1
        · rename_i cs T fz hh; exact ⟨cs, T, fz, hh⟩
        · simp at h1
      obtain ⟨cs, T, fz, hh⟩ := hb1
      refine ⟨cs, T, fz, hh, fun j v hj => ?_⟩
      have hjk : j < E.k := by have := (List.getElem?_eq_some_iff.1 hj).1; omega
      have h2 := hc' j hjk
      rw [hj, eA] at h2
      unfold World.cell? at h2
      simp only [hh] at h2
      simp only [ofs]
      simpa using h2
    · obtain ⟨i, hi, rfl⟩ := List.mem_map.1 hq
      exact (hfn i (List.mem_range.1 hi)).2
    · have := hL _ (by rw [hw]; exact .head _)
      simp only [List.length_map, List.length_range] at this ⊢
      exact Nat.le_trans (Nat.mul_le_mul_right _ (by omega)) this
theorem flat_sec {e ts tu tb tB eu : TypeId} {f0 f1 f2 f3 f4 : Field} (he : P.underlying e = some (.struct #[f0, f1, f2, f3, f4]))
    (ho : [f0.offset, f1.offset, f2.offset, f3.offset, f4.offset] = [0, 1, 2, 3, 4]) (ht : [f0.type, f1.type, f2.type, f3.type, f4.type] = [ts, tu, tb, tB, tB])
    (c0 : P.cellsOf ts = 1) (c1 : P.cellsOf tu = 1) (c2 : P.cellsOf tb = 1) (c3 : P.cellsOf tB = 1) (us : P.underlying ts = some .string) (uu : P.underlying tu = some (.int .u32))
    (ub : P.underlying tb = some (.slice eu)) (ue : P.underlying eu = some (.int .u8)) (ce : P.cellsOf eu = 1) (be : P.bytesOf eu = 1) (uB : P.underlying tB = some .bool)
    {n : Nat} {cs : List Value} {y : DataW H × List MemPlace} (hl : cs.length = 5) (h : DataW.trod enc P w base spare held n e cs = some y) (hL : Light P e y.1) :
    ∃ s : SecV, cs = encSec.enc s ∧ Sl (hp w) encU8 s.data (.slice s.dp s.data.length s.dc) ∧ s.data.length ≤ reachBytes ∧ s.name.size ≤ reachBytes := by
  simp only [List.cons.injEq, and_true] at ho ht
  obtain ⟨o0, o1, o2, o3, o4⟩ := ho
  obtain ⟨t0, t1, t2, t3, t4⟩ := ht
  obtain ⟨xs, k, hk, hxy, _, hxl, hf⟩ := DataW.trod_struct he h
  match xs, hxl, cs, hl with
  | [y0, y1, y2, y3, y4], _, [v0, v1, v2, v3, v4], _ =>
    have g0 := hf 0 f0 rfl
    have g1 := hf 1 f1 rfl
    have g2 := hf 2 f2 rfl
    have g3 := hf 3 f3 rfl
    have g4 := hf 4 f4 rfl
    simp [o0, o1, o2, o3, o4, t0, t1, t2, t3, t4, c0, c1, c2, c3] at g0 g1 g2 g3 g4
    subst hxy
    have hw : ∀ j t d, [ts, tu, tb, tB, tB][j]? = some t → [y0.1, y1.1, y2.1, y3.1, y4.1][j]? = some d → Light P t d := fun j t d q1 q2 z hz => hL z (by
      simp only [DataW.weights, he, List.map_cons, List.map_nil, t0, t1, t2, t3, t4]
      exact DataW.weights_mem_each (j := j) q1 q2 z hz)
    have w0' := hw 0 ts y0.1 rfl rfl
    have w2' := hw 2 tb y2.1 rfl rfl
    obtain ⟨z0, e0, q0, w0⟩ := DataW.trod_string us g0
    obtain ⟨z1, e1, _, w1⟩ := DataW.trod_int uu g1
    obtain ⟨l, s2, _, hbl⟩ := sl_of_trodW (E := encU8) (R := fun _ => True) ub ce (by decide) w2' (fun n cs y _ hh _ => flat_u8 ue hh) g2
    obtain ⟨z3, e3, _⟩ := DataW.trod_bool uB g3
    obtain ⟨z4, e4, _⟩ := DataW.trod_bool uB g4
    obtain ⟨x1, rfl⟩ := u32_of_wf w1
    simp only [List.cons.injEq, and_true] at e0 e1 e3 e4
    subst e0; subst e1; subst e3; subst e4
    obtain ⟨a, c, hv, _⟩ := s2.shape
    subst hv
    refine ⟨⟨z0, x1, l, a, c, z3, z4⟩, rfl, s2, by rw [be, Nat.mul_one] at hbl; exact hbl, ?_⟩
    have := w0' z0.data.toList.length (by rw [q0]; simp [DataW.weights])
    rw [Array.length_toList] at this
    exact this
end
end Go.HL
namespace Go.HL
open Go Go.Deep Go.ChangeShapes Go.WideShapes
section
variable {H : Type} {enc : TypeId × Value → H} {P : Program} {w : World} {base : Nat} {spare : Nat → Bool} {held : Bool}
theorem flat_tab {e eu : TypeId} (he : P.underlying e = some (.slice eu)) (ue : P.underlying eu = some (.int .u32)) (cu : P.cellsOf eu = 1)
    {n : Nat} {cs : List Value} {y : DataW H × List MemPlace} (hl : cs.length = 1) (h : DataW.trod enc P w base spare held n e cs = some y) :
    ∃ t : TabV, cs = encTab.enc t ∧ Sl (hp w) encU32 t.data (.slice t.dp t.data.length t.dc) := by
  match cs, hl with
  | [V], _ =>
    obtain ⟨l, s, _⟩ := sl_of_trod (E := encU32) (R := fun _ => True) he cu (by decide) (fun n cs y _ hh => flat_u32 ue hh) h
    obtain ⟨a, c, hv, _⟩ := s.shape
    subst hv
    exact ⟨⟨l, a, c⟩, rfl, s⟩
theorem flat_prog {e tl tu tt el et eu : TypeId} {f0 f1 f2 f3 : Field} (he : P.underlying e = some (.struct #[f0, f1, f2, f3]))
    (ho : [f0.offset, f1.offset, f2.offset, f3.offset] = [0, 1, 2, 3]) (ht : [f0.type, f1.type, f2.type, f3.type] = [tl, tu, tt, tu])
    (c0 : P.cellsOf tl = 1) (c1 : P.cellsOf tu = 1) (c2 : P.cellsOf tt = 1) (ul : P.underlying tl = some (.slice el)) (uu : P.underlying tu = some (.slice eu)) (ut : P.underlying tt = some (.slice et)) (uet : P.underlying et = some (.slice eu)) (ue : P.underlying eu = some (.int .u32))
    (cl : P.cellsOf el = 5) (cet : P.cellsOf et = 1) (cu : P.cellsOf eu = 1)
    (hfs : ∀ n cs (y : DataW H × List MemPlace), cs.length = 5 → DataW.trod enc P w base spare held n el cs = some y → Light P el y.1 → ∃ s : SecV, cs = encSec.enc s ∧ Sl (hp w) encU8 s.data (.slice s.dp s.data.length s.dc) ∧ s.data.length ≤ reachBytes ∧ s.name.size ≤ reachBytes)
    {n : Nat} {cs : List Value} {y : DataW H × List MemPlace} (hl : cs.length = 4) (h : DataW.trod enc P w base spare held n e cs = some y) (hL : Light P e y.1) :
    ∃ (l : List SecV) (es : List UInt32) (ts : List TabV) (at_ : List UInt32) (V VE VT VP : Value), cs = [V, VE, VT, VP] ∧ Sl (hp w) encSec l V ∧ Sl (hp w) encU32 es VE ∧ Sl (hp w) encTab ts VT ∧ Sl (hp w) encU32 at_ VP ∧ DataIn (hp w) l ∧ TabIn (hp w) ts ∧ ∀ s ∈ l, s.name.size ≤ 140737488351232 := by
  simp only [List.cons.injEq, and_true] at ho ht
  obtain ⟨o0, o1, o2, o3⟩ := ho
  obtain ⟨t0', t1', t2', t3'⟩ := ht
  obtain ⟨xs, k, hk, hxy, _, hxl, hf⟩ := DataW.trod_struct he h
  match xs, hxl, cs, hl with
  | [y0, y1, y2, y3], _, [v0, v1, v2, v3], _ =>
    have g0 := hf 0 f0 rfl
    have g1 := hf 1 f1 rfl
    have g2 := hf 2 f2 rfl
    have g3 := hf 3 f3 rfl
    simp [o0, o1, o2, o3, t0', t1', t2', t3', c0, c1, c2] at g0 g1 g2 g3
    subst hxy
    have hw : Light P tl y0.1 := fun z hz => hL z (by
      simp only [DataW.weights, he, List.map_cons, List.map_nil, t0', t1', t2', t3']
      exact DataW.weights_mem_each (j := 0) rfl rfl z hz)
    obtain ⟨l, s0, R0, _⟩ := sl_of_trodW (E := encSec) (R := fun s => Sl (hp w) encU8 s.data (.slice s.dp s.data.length s.dc) ∧ s.data.length ≤ reachBytes ∧ s.name.size ≤ reachBytes) ul cl (by decide) hw hfs g0
    obtain ⟨le, s1, _⟩ := sl_of_trod (E := encU32) (R := fun _ => True) uu cu (by decide) (fun n cs y _ hh => flat_u32 ue hh) g1
    obtain ⟨lt, s2, R2⟩ := sl_of_trod (E := encTab) (R := fun t => Sl (hp w) encU32 t.data (.slice t.dp t.data.length t.dc)) ut cet (by decide) (fun n cs y hl hh => flat_tab uet ue cu hl hh) g2
    obtain ⟨la, s3, _⟩ := sl_of_trod (E := encU32) (R := fun _ => True) uu cu (by decide) (fun n cs y _ hh => flat_u32 ue hh) g3
    exact ⟨l, le, lt, la, v0, v1, v2, v3, rfl, s0, s1, s2, s3, fun s hs => (R0 s hs).1, R2, fun s hs => (R0 s hs).2.2⟩
end
end Go.HL
