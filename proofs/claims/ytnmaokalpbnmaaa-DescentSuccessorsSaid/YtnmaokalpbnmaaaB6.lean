/- Own rules and walks, part 6. -/
import Derived.Test.YtnmaokalpbnmaaaB5
set_option linter.unusedSimpArgs false
set_option linter.unusedVariables false
set_option linter.unusedSectionVars false
namespace Go.Proofs.Ytnmaokalpbnmaaa
open Go Go.HL Go.RowKit
set_option maxRecDepth 100000 in
set_option maxHeartbeats 2000000 in
theorem indirect_any (i : Ins) (w : World) :
    Calls Try.prog 75 #[.agg (encIns.enc i).toArray] w (fun e w' => e = .returned (.bool (indP i.op)) ∧ Ext w w') := by
  refine enter Try.func75 rfl Try.ntmps75 rfl ?_
  refine Tr.seq ?_
  refine Tr.region ?_
  refine Tr.box rfl rfl rfl (fun b1 => ?_)
  refine Tr.q (QS.assign rfl) rfl ?_
  refine Tr.nil ?_
  refine Tr.thenN ?_
  refine Tr.seq ?_
  refine Tr.region ?_
  refine Tr.q (QS.fieldAddr (off := 2) (ft := 3) rfl Try.underlying41 rfl rfl Try.sizeOf3 (by decide)) rfl ?_
  refine Tr.q (QS.lV rfl Try.isAgg3) rfl ?_
  refine Tr.q (QS.eql rfl rfl) rfl ?_
  refine Tr.q (QS.move rfl) rfl ?_
  apply Tr.orP
  · exact (rfl : _ = (4, 6, 10))
  · exact rfl
  · intro hF2; have hF2' := hF2
    try simp only [bs] at hF2'
    refine Tr.gq rfl rfl hF2 (QS.fieldAddr (off := 2) (ft := 3) rfl Try.underlying41 rfl rfl Try.sizeOf3 (by decide)) rfl ?_
    refine Tr.gq rfl rfl hF2 (QS.lV rfl Try.isAgg3) rfl ?_
    refine Tr.gq rfl rfl hF2 (QS.eql rfl rfl) rfl ?_
    refine Tr.q (QS.pickF rfl hF2 rfl) rfl ?_
    refine Tr.nil (Tr.thenN ?_)
    exact Tr.endX (Sub.cons rfl (Sub.dropN 4 (by kernel_rfl) rfl))
  · intro hT2
    refine Tr.gskip rfl rfl hT2 rfl ?_
    refine Tr.gskip rfl rfl hT2 rfl ?_
    refine Tr.gskip rfl rfl hT2 rfl ?_
    refine Tr.q (QS.pickT rfl hT2 rfl) rfl ?_
    refine Tr.nil (Tr.thenN ?_)
    exact Tr.endX (Sub.cons rfl (Sub.dropN 4 (by kernel_rfl) rfl))
  refine Tr.q (QS.move rfl) rfl ?_
  apply Tr.orP
  · exact (rfl : _ = (4, 11, 15))
  · exact rfl
  · intro hF3; have hF3' := hF3
    try simp only [bs] at hF3'
    refine Tr.gq rfl rfl hF3 (QS.fieldAddr (off := 2) (ft := 3) rfl Try.underlying41 rfl rfl Try.sizeOf3 (by decide)) rfl ?_
    refine Tr.gq rfl rfl hF3 (QS.lV rfl Try.isAgg3) rfl ?_
    refine Tr.gq rfl rfl hF3 (QS.eql rfl rfl) rfl ?_
    refine Tr.q (QS.pickF rfl hF3 rfl) rfl ?_
    refine Tr.nil (Tr.thenN ?_)
    exact Tr.endX (Sub.cons rfl (Sub.dropN 4 (by kernel_rfl) rfl))
  · intro hT3
    refine Tr.gskip rfl rfl hT3 rfl ?_
    refine Tr.gskip rfl rfl hT3 rfl ?_
    refine Tr.gskip rfl rfl hT3 rfl ?_
    refine Tr.q (QS.pickT rfl hT3 rfl) rfl ?_
    refine Tr.nil (Tr.thenN ?_)
    exact Tr.endX (Sub.cons rfl (Sub.dropN 4 (by kernel_rfl) rfl))
  refine Tr.q (QS.assign rfl) rfl ?_
  refine Tr.nil ?_
  refine Tr.thenN ?_
  refine Tr.ret ?_
  refine Tr.ret1 Try.results75 rfl (fun w' hw => ?_)
  exact ⟨by unfold indP; congr 2; rw [Bool.eq_iff_iff]; simp [or_assoc], hw.below (Bg.le.refl _)⟩
set_option maxRecDepth 100000 in
set_option maxHeartbeats 2000000 in
theorem succ_any (i : Ins) (w : World) (hI : InsOK i) :
    Calls Try.prog 17 #[.agg (encIns.enc i).toArray] w (fun e w' => ∃ V', e = .returned V' ∧ Ext w w' ∧ NewRow w w' 39 encU32 (succP i) V') := by
  refine enter Try.func17 rfl Try.ntmps17 rfl ?_
  refine Tr.seq ?_
  refine Tr.region ?_
  refine Tr.box rfl rfl rfl (fun b1 => ?_)
  refine Tr.q (QS.assign rfl) rfl ?_
  refine Tr.nil ?_
  refine Tr.thenN ?_
  refine Tr.seq ?_
  refine Tr.seq ?_
  refine Tr.region ?_
  refine Tr.q (QS.lW rfl Try.isAgg41 Try.sizeOf41) rfl ?_
  refine Tr.q (QS.call rfl Try.call32 (fun w hw => valid_isa i w hI)) rfl ?_
  refine Tr.q (QS.not rfl) rfl ?_
  refine Tr.nil ?_
  refine Tr.thenN ?_
  refine Tr.cond rfl (fun h2 => ?_) (fun h2 => ?_)
  · try simp only [bs] at h2
    refine Tr.seq ?_
    refine Tr.ownNil 39 encU32 ?_
    refine Tr.region ?_
    refine Tr.q (QS.assign rfl) rfl ?_
    refine Tr.nil ?_
    refine Tr.thenN ?_
    refine Tr.ret ?_
    refine Tr.thenR ?_
    refine Tr.ret1 Try.results17 rfl (fun w' hw => ?_)
    exact ⟨_, rfl, hw.below (Bg.le.refl _), by rw [show succP i = [] by unfold succP; rw [if_neg (by simp_all)]]; exact hw.new (.head _)⟩
  · try simp only [bs] at h2
    refine Tr.skip ?_
    refine Tr.thenN ?_
    refine Tr.seq ?_
    refine Tr.ownNil 39 encU32 ?_
    refine Tr.region ?_
    refine Tr.q (QS.assign rfl) rfl ?_
    refine Tr.nil ?_
    refine Tr.thenN ?_
    refine Tr.seqJ (ι := Value) (fun V1 => True) (fun _ => Bg.of w) (fun V1 => [rowE V1 39 encU32 (if (targetP i).2 = true then [(targetP i).1] else []), cellE b1 (encIns.enc i) 41]) (fun V1 => [(3, V1)]) ?_ (fun V1 hi => ?_)
    · skip
      refine Tr.seq ?_
      refine Tr.region ?_
      refine Tr.q (QS.lW rfl Try.isAgg41 Try.sizeOf41) rfl ?_
      refine Tr.q (QS.call rfl Try.call33 (fun w hw => target_isa i w)) rfl ?_
      refine Tr.q (QS.move rfl) rfl ?_
      refine Tr.q (QS.extract rfl rfl) rfl ?_
      refine Tr.q (QS.extract rfl rfl) rfl ?_
      refine Tr.q (QS.assign rfl) rfl ?_
      refine Tr.q (QS.assign rfl) rfl ?_
      refine Tr.nil ?_
      refine Tr.thenN ?_
      refine Tr.seq ?_
      refine Tr.region ?_
      refine Tr.q (QS.move rfl) rfl ?_
      refine Tr.nil ?_
      refine Tr.thenN ?_
      refine Tr.cond rfl (fun h3 => ?_) (fun h3 => ?_)
      · try simp only [bs] at h3
        refine Tr.region ?_
        refine Tr.q (QS.move rfl) rfl ?_
        refine Tr.q (QS.move rfl) rfl ?_
        refine Tr.lit1 (E := encU32) (targetP i).1 rfl rfl Try.underlying23 Try.sizeOf39 Try.zeroValue39 (by rfl) (by rfl) rfl (fun V4 => ?_)
        refine Tr.append1 rfl rfl (by repeat (first | exact Del.here _ | apply Del.there)) (by repeat (first | exact Del.here _ | apply Del.there)) Try.underlying23 HLF.info39 (by rfl) (by rfl) (by (try simp only [List.length_cons, List.length_nil, List.length_append, List.length_take]); omega) (by unfold maxLen; (try simp only [List.length_cons, List.length_nil, List.length_append, List.length_take]); omega) rfl (fun V5 => ?_)
        refine Tr.q (QS.assign rfl) rfl ?_
        refine Tr.nil ?_
        refine Tr.thenN ?_
        refine Tr.rowEq (l' := if (targetP i).2 = true then [(targetP i).1] else []) (by rw [if_pos (by assumption)]; rfl) ?_
        apply Tr.joined _
        · exact rfl
        · exact (.cons (by first | rfl | exact lookI rfl (by omega) | exact lookI rfl (by simp) | exact lookB rfl (by simp)) Front.nil)
        · exact SubX.dropN 13 (by kernel_rfl) rfl
        · exact (by repeat' (first | exact Pick.nil _ | exact Del.here _ | apply Pick.cons | apply Del.there))
        · exact trivial
      · try simp only [bs] at h3
        refine Tr.skip ?_
        refine Tr.thenN ?_
        refine Tr.rowEq (l' := if (targetP i).2 = true then [(targetP i).1] else []) (by rw [if_neg (by simp_all)]) ?_
        apply Tr.joined _
        · exact rfl
        · exact (.cons (by first | rfl | exact lookI rfl (by omega) | exact lookI rfl (by simp) | exact lookB rfl (by simp)) Front.nil)
        · exact SubX.dropN 8 (by kernel_rfl) rfl
        · exact (by repeat' (first | exact Pick.nil _ | exact Del.here _ | apply Pick.cons | apply Del.there))
        · exact trivial
    · skip
      replace hi : True := hi
      change Tr _ _ [rowE V1 39 encU32 (if (targetP i).2 = true then [(targetP i).1] else []), cellE b1 (encIns.enc i) 41] ([(3, V1)] ++ _) _
      have htl : (if (targetP i).2 = true then [(targetP i).1] else []).length ≤ 1 := by split <;> simp
      refine Tr.seqJ (ι := Value) (fun V2 => True) (fun _ => Bg.of w) (fun V2 => [rowE V2 39 encU32 ((if (targetP i).2 = true then [(targetP i).1] else []) ++ (if endsP i = true then [] else [nextP i])), cellE b1 (encIns.enc i) 41]) (fun V2 => [(3, V2)]) ?_ (fun V2 hi => ?_)
      · skip
        refine Tr.seq ?_
        refine Tr.region ?_
        refine Tr.q (QS.lW rfl Try.isAgg41 Try.sizeOf41) rfl ?_
        refine Tr.q (QS.call rfl Try.call34 (fun w hw => ends_isa i w)) rfl ?_
        refine Tr.q (QS.not rfl) rfl ?_
        refine Tr.nil ?_
        refine Tr.thenN ?_
        refine Tr.cond rfl (fun h6 => ?_) (fun h6 => ?_)
        · try simp only [bs] at h6
          refine Tr.region ?_
          refine Tr.q (QS.move rfl) rfl ?_
          refine Tr.q (QS.lW rfl Try.isAgg41 Try.sizeOf41) rfl ?_
          refine Tr.q (QS.call rfl Try.call35 (fun w hw => next_isa i w hI)) rfl ?_
          refine Tr.lit1 (E := encU32) (nextP i) rfl rfl Try.underlying23 Try.sizeOf39 Try.zeroValue39 (by rfl) (by rfl) rfl (fun V7 => ?_)
          refine Tr.append1 rfl rfl (by repeat (first | exact Del.here _ | apply Del.there)) (by repeat (first | exact Del.here _ | apply Del.there)) Try.underlying23 HLF.info39 (by rfl) (by rfl) (by (try simp only [List.length_cons, List.length_nil, List.length_append, List.length_take]); omega) (by unfold maxLen; (try simp only [List.length_cons, List.length_nil, List.length_append, List.length_take]); omega) rfl (fun V8 => ?_)
          refine Tr.q (QS.assign rfl) rfl ?_
          refine Tr.nil ?_
          refine Tr.thenN ?_
          refine Tr.rowEq (l' := (if (targetP i).2 = true then [(targetP i).1] else []) ++ (if endsP i = true then [] else [nextP i])) (by rw [if_neg (c := endsP i = true) (by simp_all)]) ?_
          apply Tr.joined _
          · exact rfl
          · exact (.cons (by first | rfl | exact lookI rfl (by omega) | exact lookI rfl (by simp) | exact lookB rfl (by simp)) Front.nil)
          · exact SubX.dropN 9 (by kernel_rfl) rfl
          · exact (by repeat' (first | exact Pick.nil _ | exact Del.here _ | apply Pick.cons | apply Del.there))
          · exact trivial
        · try simp only [bs] at h6
          refine Tr.skip ?_
          refine Tr.thenN ?_
          refine Tr.rowEq (l' := (if (targetP i).2 = true then [(targetP i).1] else []) ++ (if endsP i = true then [] else [nextP i])) (by rw [if_pos (c := endsP i = true) (by simp_all), List.append_nil]) ?_
          apply Tr.joined _
          · exact rfl
          · exact (.cons (by first | rfl | exact lookI rfl (by omega) | exact lookI rfl (by simp) | exact lookB rfl (by simp)) Front.nil)
          · exact SubX.dropN 3 (by kernel_rfl) rfl
          · exact (by repeat' (first | exact Pick.nil _ | exact Del.here _ | apply Pick.cons | apply Del.there))
          · exact trivial
      · skip
        replace hi : True := hi
        change Tr _ _ [rowE V2 39 encU32 ((if (targetP i).2 = true then [(targetP i).1] else []) ++ (if endsP i = true then [] else [nextP i])), cellE b1 (encIns.enc i) 41] ([(3, V2)] ++ _) _
        refine Tr.seq ?_
        refine Tr.region ?_
        refine Tr.q (QS.move rfl) rfl ?_
        refine Tr.q (QS.assign rfl) rfl ?_
        refine Tr.nil ?_
        refine Tr.thenN ?_
        refine Tr.ret ?_
        refine Tr.ret1 Try.results17 rfl (fun w' hw => ?_)
        exact ⟨_, rfl, hw.below (Bg.le.refl _), by rw [show succP i = _ by unfold succP; rw [if_pos (by simp_all)]]; exact hw.new (.head _)⟩
set_option maxRecDepth 100000 in
set_option maxHeartbeats 2000000 in
theorem dat_any (l : List SecV) (V : Value) (a : UInt32) (w : World) (hV : Sl (hp w) encSec l V) (hB : SecB l) (hD : DataIn (hp w) l) :
    Calls Try.prog 42 #[V, .int .u32 a.toNat] w (fun e w' => e = .returned (.tuple #[.agg (encIns.enc (atP l a).1).toArray, .bool (atP l a).2]) ∧ Ext w w') := by
  have hV' : Sl (Bg.of w).blk encSec l V := hV
  have hlen := hB.1
  have hf := findP_lt (l := l) (a := a)
  have ha := a.toNat_lt
  refine enter Try.func42 rfl Try.ntmps42 rfl ?_
  refine Tr.seq ?_
  refine Tr.region ?_
  refine Tr.alloc Try.zeroValue41 rfl rfl (fun b1 => ?_)
  refine Tr.q (QS.assign rfl) rfl ?_
  refine Tr.nil ?_
  refine Tr.thenN ?_
  refine Tr.seq ?_
  refine Tr.region ?_
  refine Tr.q (QS.move rfl) rfl ?_
  refine Tr.q (QS.move rfl) rfl ?_
  refine Tr.q (QS.call rfl Try.call74 (fun w hw => find_any l V a w (hw.slF hV') hB)) rfl ?_
  refine Tr.q (QS.assign rfl) rfl ?_
  refine Tr.nil ?_
  refine Tr.thenN ?_
  refine Tr.seq ?_
  refine Tr.seq ?_
  refine Tr.region ?_
  refine Tr.q (QS.move rfl) rfl ?_
  refine Tr.q (QS.lss rfl rfl) rfl ?_
  refine Tr.q (QS.move rfl) rfl ?_
  apply Tr.orP
  · exact (rfl : _ = (7, 15, 22))
  · exact rfl
  · intro hF2; have hF2' := hF2
    try simp only [bs] at hF2'
    refine Tr.gq rfl rfl hF2 (QS.move rfl) rfl ?_
    refine Tr.gq rfl rfl hF2 (QS.move rfl) rfl ?_
    refine Tr.gq rfl rfl hF2 (QS.idx rfl rfl (by assumption) Try.underlying22 Try.sizeOf63 (by rfl) (by omega)) rfl ?_
    refine Tr.gq rfl rfl hF2 (QS.fieldAddr (off := 4) (ft := 4) rfl Try.underlying63 rfl rfl Try.sizeOf4 (by decide)) rfl ?_
    refine Tr.gq rfl rfl hF2 (QS.elF rfl (by assumption) Try.isAgg4 (by omega) (by rfl)) rfl ?_
    refine Tr.gq rfl rfl hF2 (QS.not rfl) rfl ?_
    refine Tr.q (QS.pickF rfl hF2 rfl) rfl ?_
    refine Tr.nil (Tr.thenN ?_)
    exact Tr.endX (Sub.cons rfl (Sub.dropN 7 (by kernel_rfl) rfl))
  · intro hT2
    refine Tr.gskip rfl rfl hT2 rfl ?_
    refine Tr.gskip rfl rfl hT2 rfl ?_
    refine Tr.gskip rfl rfl hT2 rfl ?_
    refine Tr.gskip rfl rfl hT2 rfl ?_
    refine Tr.gskip rfl rfl hT2 rfl ?_
    refine Tr.gskip rfl rfl hT2 rfl ?_
    refine Tr.q (QS.pickT rfl hT2 rfl) rfl ?_
    refine Tr.nil (Tr.thenN ?_)
    exact Tr.endX (Sub.cons rfl (Sub.dropN 7 (by kernel_rfl) rfl))
  refine Tr.nil ?_
  refine Tr.thenN ?_
  refine Tr.cond rfl (fun h3 => ?_) (fun h3 => ?_)
  · try simp only [bs] at h3
    refine Tr.seq ?_
    refine Tr.region ?_
    refine Tr.q (QS.build (vs := []) rfl rfl (HLF.built41)) rfl ?_
    refine Tr.storeW rfl rfl Try.sizeOf41 (by repeat (first | exact Put.here _ | apply Put.there)) (by rfl) (by rfl) (by first | exact List.all_eq_true.1 rfl | exact Enc.one _ _ | exact Enc.one encIns _) rfl ?_
    refine Tr.q (QS.assign rfl) rfl ?_
    refine Tr.nil ?_
    refine Tr.thenN ?_
    refine Tr.ret ?_
    refine Tr.thenR ?_
    refine Tr.retC2 Try.results42 rfl rfl (by repeat (first | exact List.Mem.head _ | apply List.Mem.tail)) Try.isAgg41 Try.sizeOf41 (by rfl) (fun w' hw => ?_)
    exact ⟨by unfold atP; rw [if_pos (by unfold noAt; simp_all)]; rfl, hw.below (Bg.le.refl _)⟩
  · try simp only [bs] at h3
    refine Tr.skip ?_
    refine Tr.thenN ?_
    refine Tr.seq ?_
    have hna : noAt l a = false := by unfold noAt; rw [Bool.or_eq_false_iff]; exact ⟨decide_eq_false h3.1, by rw [h3.2]; rfl⟩
    have hin := inS_iff.1 (findP_in (l := l) (a := a) (by omega))
    have hen : endP (l.getD (findP l a).toNat default) ≤ ((l.getD (findP l a).toNat default).addr.toNat : Int) + (l.getD (findP l a).toNat default).data.length := by unfold endP; omega
    have hsub : (a - (l.getD (findP l a).toNat default).addr).toNat = a.toNat - (l.getD (findP l a).toNat default).addr.toNat := UInt32.toNat_sub_of_le _ _ (UInt32.le_iff_toNat_le.2 hin.1)
    have hdl := hB.at (k := (findP l a).toNat) (by omega)
    have hDk : Sl (Bg.of w).blk encU8 (l.getD (findP l a).toNat default).data (.slice (l.getD (findP l a).toNat default).dp (l.getD (findP l a).toNat default).data.length (l.getD (findP l a).toNat default).dc) := hD _ (mem_getD (by omega))
    refine Tr.regionQ HLF.mixed (by kernel_rfl) ?_
    refine TrQ.q (QS.move rfl) rfl ?_
    refine TrQ.q (QS.move rfl) rfl ?_
    refine TrQ.q (QS.idx rfl rfl (by assumption) Try.underlying22 Try.sizeOf63 (by rfl) (by omega)) rfl ?_
    refine TrQ.q (QS.fieldAddr (off := 2) (ft := 61) rfl Try.underlying63 rfl rfl Try.sizeOf61 (by decide)) rfl ?_
    refine TrQ.q (QS.elF rfl (by assumption) Try.isAgg61 (by omega) (by rfl)) rfl ?_
    refine TrQ.q (QS.move rfl) rfl ?_
    refine TrQ.q (QS.move rfl) rfl ?_
    refine TrQ.q (QS.move rfl) rfl ?_
    refine TrQ.q (QS.idx rfl rfl (by assumption) Try.underlying22 Try.sizeOf63 (by rfl) (by omega)) rfl ?_
    refine TrQ.q (QS.fieldAddr (off := 1) (ft := 39) rfl Try.underlying63 rfl rfl Try.sizeOf39 (by decide)) rfl ?_
    refine TrQ.q (QS.elF rfl (by assumption) Try.isAgg39 (by omega) (by rfl)) rfl ?_
    refine TrQ.q (QS.sub32 rfl rfl) rfl ?_
    refine TrQ.q (QS.slice (lv := some (_, _)) (hv := none) rfl (by assumption) rfl rfl Try.underlying61 Try.sizeOf5 (by rfl) (by simp only [loOf, hiOf] <;> first | omega | assumption | (simp only [NatCast.natCast, Int.ofNat_eq_natCast]; omega)) (by simp only [loOf, hiOf] <;> first | omega | assumption | (simp only [NatCast.natCast, Int.ofNat_eq_natCast]; omega)) (by simp only [loOf, hiOf] <;> first | omega | assumption | (simp only [NatCast.natCast, Int.ofNat_eq_natCast]; omega))) rfl ?_
    refine TrQ.q (QS.assign rfl) rfl ?_
    refine TrQ.nil ?_
    refine Tr.thenN ?_
    refine Tr.seq ?_
    have hs1 := Sl.resl (l := (a - (l.getD (findP l a).toNat default).addr).toNat) (h := (l.getD (findP l a).toNat default).data.length) hDk (by omega) (Nat.le_refl _)
    rw [List.take_length] at hs1
    have hs1l : (List.drop (a - (l.getD (findP l a).toNat default).addr).toNat (l.getD (findP l a).toNat default).data).length = (l.getD (findP l a).toNat default).data.length - (a - (l.getD (findP l a).toNat default).addr).toNat := List.length_drop
    have hs3 := Sl.resl (l := 0) (h := (min (((l.getD (findP l a).toNat default).data.drop (a - (l.getD (findP l a).toNat default).addr).toNat).length : Int) 6).toNat) hs1 (Nat.zero_le _) (by omega)
    rw [List.drop_zero, show ((l.getD (findP l a).toNat default).data.drop (a - (l.getD (findP l a).toNat default).addr).toNat).take (min (((l.getD (findP l a).toNat default).data.drop (a - (l.getD (findP l a).toNat default).addr).toNat).length : Int) 6).toNat = winD l a by unfold winD; rw [List.take_eq_take_iff]; omega] at hs3
    refine Tr.region ?_
    refine Tr.q (QS.move rfl) rfl ?_
    refine Tr.q (QS.move rfl) rfl ?_
    refine Tr.q (QS.len rfl (by assumption) Try.underlying61) rfl ?_
    refine Tr.q (QS.min2 rfl rfl) rfl ?_
    refine Tr.q (QS.slice (lv := none) (hv := some (_, _)) rfl (by assumption) rfl rfl Try.underlying61 Try.sizeOf5 (by rfl) (by simp only [loOf, hiOf] <;> first | omega | assumption | (simp only [NatCast.natCast, Int.ofNat_eq_natCast]; omega)) (by simp only [loOf, hiOf] <;> first | omega | assumption | (simp only [NatCast.natCast, Int.ofNat_eq_natCast]; omega)) (by simp only [loOf, hiOf] <;> first | omega | assumption | (simp only [NatCast.natCast, Int.ofNat_eq_natCast]; omega))) rfl ?_
    refine Tr.q (QS.move rfl) rfl ?_
    refine Tr.q (QS.call rfl Try.call37 (fun w hw => decode_isa (winD l a) _ a w (hw.slF hs3))) rfl ?_
    refine Tr.q (QS.move rfl) rfl ?_
    refine Tr.q (QS.extract rfl rfl) rfl ?_
    refine Tr.q (QS.extract rfl rfl) rfl ?_
    refine Tr.alloc Try.zeroValue41 rfl rfl (fun b4 => ?_)
    refine Tr.storeW rfl rfl Try.sizeOf41 (by repeat (first | exact Put.here _ | apply Put.there)) (by rfl) (by rfl) (by first | exact List.all_eq_true.1 rfl | exact Enc.one _ _ | exact Enc.one encIns _) rfl ?_
    refine Tr.q (QS.assign rfl) rfl ?_
    refine Tr.nil ?_
    refine Tr.thenN ?_
    refine Tr.seq ?_
    refine Tr.region ?_
    refine Tr.q (QS.lW rfl Try.isAgg41 Try.sizeOf41) rfl ?_
    refine Tr.q (QS.move rfl) rfl ?_
    refine Tr.q (QS.eql rfl rfl) rfl ?_
    refine Tr.storeW rfl rfl Try.sizeOf41 (by repeat (first | exact Put.here _ | apply Put.there)) (by rfl) (by rfl) (by first | exact List.all_eq_true.1 rfl | exact Enc.one _ _ | exact Enc.one encIns _) rfl ?_
    refine Tr.q (QS.assign rfl) rfl ?_
    refine Tr.nil ?_
    refine Tr.thenN ?_
    refine Tr.ret ?_
    refine Tr.retC2 Try.results42 rfl rfl (by repeat (first | exact List.Mem.head _ | apply List.Mem.tail)) Try.isAgg41 Try.sizeOf41 (by rfl) (fun w' hw => ?_)
    exact ⟨by unfold atP; rw [if_neg (by simp [hna])]; rfl, hw.below (Bg.le.refl _)⟩
set_option maxRecDepth 100000 in
set_option maxHeartbeats 2000000 in
theorem dknown_any (bw bi bb be bu : Nat) (VT VP : Value) (ts : List TabV) (at_ : List UInt32) (a : UInt32) (w : World) (hcw : CellsIn (hp w) bw [.map (some bi), .map (some bb), .map (some be), .map (some bu), VT, VP]) (hT : Sl (hp w) encTab ts VT) (hP : Sl (hp w) encU32 at_ VP) (hl : ts.length = at_.length) :
    Calls Try.prog 76 #[.pointer (some ⟨bw, 0, none⟩), .int .u32 a.toNat] w (fun e w' => e = .returned (.tuple #[knownV ts at_ a, .bool (knownP ts at_ a).isSome]) ∧ Ext w w') := by
  have hcw' : CellsIn (Bg.of w).blk bw [.map (some bi), .map (some bb), .map (some be), .map (some bu), VT, VP] := hcw
  have hT' : Sl (Bg.of w).blk encTab ts VT := hT
  have hP' : Sl (Bg.of w).blk encU32 at_ VP := hP
  have hib := idxP_bound (fun x => decide (a = x)) at_ 0
  refine enter Try.func76 rfl Try.ntmps76 rfl ?_
  refine Tr.seq ?_
  refine Tr.region ?_
  refine Tr.q (QS.assign rfl) rfl ?_
  refine Tr.q (QS.assign rfl) rfl ?_
  refine Tr.nil ?_
  refine Tr.thenN ?_
  refine Tr.seq ?_
  refine Tr.region ?_
  refine Tr.q (QS.move rfl) rfl ?_
  refine Tr.q (QS.nilCheck rfl) rfl ?_
  refine Tr.q (QS.fieldAddr (off := 5) (ft := 23) rfl Try.underlying76 rfl rfl Try.sizeOf23 (by decide)) rfl ?_
  refine Tr.q (QS.loadCF rfl (by assumption) Try.isAgg23 (by rfl)) rfl ?_
  refine Tr.q (QS.move rfl) rfl ?_
  refine Tr.q (QS.call rfl Try.call94 (fun w hw => index_u32 at_ VP a w (hw.slF hP'))) rfl ?_
  refine Tr.q (QS.assign rfl) rfl ?_
  refine Tr.nil ?_
  refine Tr.thenN ?_
  refine Tr.seq ?_
  refine Tr.seq ?_
  refine Tr.region ?_
  refine Tr.q (QS.move rfl) rfl ?_
  refine Tr.q (QS.lss rfl rfl) rfl ?_
  refine Tr.nil ?_
  refine Tr.thenN ?_
  refine Tr.cond rfl (fun h1 => ?_) (fun h1 => ?_)
  · try simp only [bs] at h1
    refine Tr.seq ?_
    refine Tr.region ?_
    refine Tr.q (QS.assign rfl) rfl ?_
    refine Tr.q (QS.assign rfl) rfl ?_
    refine Tr.nil ?_
    refine Tr.thenN ?_
    refine Tr.ret ?_
    refine Tr.thenR ?_
    refine Tr.ret2 Try.results76 rfl rfl (fun w' hw => ?_)
    exact ⟨by rw [knownV_no (by omega), knownP_no (by omega)]; rfl, hw.below (Bg.le.refl _)⟩
  · try simp only [bs] at h1
    refine Tr.skip ?_
    refine Tr.thenN ?_
    refine Tr.seq ?_
    refine Tr.region ?_
    refine Tr.q (QS.move rfl) rfl ?_
    refine Tr.q (QS.nilCheck rfl) rfl ?_
    refine Tr.q (QS.fieldAddr (off := 4) (ft := 24) rfl Try.underlying76 rfl rfl Try.sizeOf24 (by decide)) rfl ?_
    refine Tr.q (QS.loadCF rfl (by assumption) Try.isAgg24 (by rfl)) rfl ?_
    refine Tr.q (QS.move rfl) rfl ?_
    refine Tr.q (QS.idx rfl rfl (by assumption) Try.underlying24 Try.sizeOf23 (by rfl) (by omega)) rfl ?_
    refine Tr.q (QS.el1 rfl (by assumption) Try.isAgg23 (by omega) (by rfl)) rfl ?_
    refine Tr.q (QS.assign rfl) rfl ?_
    refine Tr.q (QS.assign rfl) rfl ?_
    refine Tr.nil ?_
    refine Tr.thenN ?_
    refine Tr.ret ?_
    refine Tr.ret2 Try.results76 rfl rfl (fun w' hw => ?_)
    exact ⟨by rw [knownV_yes (by omega), knownP_yes (by omega)]; rfl, hw.below (Bg.le.refl _)⟩
set_option maxRecDepth 100000 in
set_option maxHeartbeats 8000000 in
theorem follow_any (bw bi bb be bu : Nat) (VT VP : Value) (ts : List TabV) (at_ : List UInt32) (i : Ins) (ents unk : List (UInt32 × Bool)) (w : World) (ho : OwnAt w [mapE be boolV ents, mapE bu boolV unk]) (hcw : CellsIn (Bg.lessB w [be, bu] 0).blk bw [.map (some bi), .map (some bb), .map (some be), .map (some bu), VT, VP]) (hT : Sl (Bg.lessB w [be, bu] 0).blk encTab ts VT) (hTI : TabIn (Bg.lessB w [be, bu] 0).blk ts) (hTB : TabB ts) (hP : Sl (Bg.lessB w [be, bu] 0).blk encU32 at_ VP) (hl : ts.length = at_.length) (hI : InsOK i) :
    Calls Try.prog 43 #[.pointer (some ⟨bw, 0, none⟩), .agg (encIns.enc i).toArray] w (fun e w' => ∃ V : Value, e = .returned V ∧ Upd 0 w w' (blks [mapE be boolV ents, mapE bu boolV unk]) [rowE V 39 encU32 (leadP ts at_ i), mapE be boolV (mputs ents (callP ts at_ i)), mapE bu boolV (if unkP ts at_ i = true then mput unk i.addr true else unk)] ∧ True) := by
  have hKS := known_sl hTI hTB (at_ := at_) (a := i.addr) hl
  have hkl := known_len hTB at_ i.addr
  have hsl := succ_len i
  refine enterB (L := [mapE be boolV ents, mapE bu boolV unk]) ho rfl (Nat.zero_le _) Try.func43 rfl Try.ntmps43 rfl ?_
  refine Tr.seq ?_
  refine Tr.region ?_
  refine Tr.box rfl rfl rfl (fun b1 => ?_)
  refine Tr.q (QS.assign rfl) rfl ?_
  refine Tr.nil ?_
  refine Tr.thenN ?_
  refine Tr.seq ?_
  refine Tr.region ?_
  refine Tr.q (QS.lW rfl Try.isAgg41 Try.sizeOf41) rfl ?_
  refine Tr.callRow rfl Try.call17 (fun w hw => succ_any i w hI) rfl (fun V2 => ?_)
  refine Tr.q (QS.assign rfl) rfl ?_
  refine Tr.nil ?_
  refine Tr.thenN ?_
  refine Tr.seqJ (ι := List (UInt32 × Bool)) (fun m1 => m1 = (if i.op = 23 then mput ents i.imm true else ents)) (fun _ => (Bg.lessB w [be, bu] 0)) (fun m1 => [rowE V2 39 encU32 (succP i), mapE be boolV m1, mapE bu boolV unk, cellE b1 (encIns.enc i) 41]) (fun m1 => []) ?_ (fun m1 hi => ?_)
  · skip
    refine Tr.seq ?_
    refine Tr.region ?_
    refine Tr.q (QS.fieldAddr (off := 2) (ft := 3) rfl Try.underlying41 rfl rfl Try.sizeOf3 (by decide)) rfl ?_
    refine Tr.q (QS.lV rfl Try.isAgg3) rfl ?_
    refine Tr.q (QS.eql rfl rfl) rfl ?_
    refine Tr.nil ?_
    refine Tr.thenN ?_
    refine Tr.cond rfl (fun h3 => ?_) (fun h3 => ?_)
    · try simp only [bs] at h3
      refine Tr.regionT 0 6 HLF.mixed (by kernel_rfl) (panicThen panicBody) ?_
      refine TrQ.pureNil ?_
      refine TrQ.q (QS.move rfl) rfl ?_
      refine TrQ.q (QS.nilCheck rfl) rfl ?_
      refine TrQ.q (QS.fieldAddr (off := 2) (ft := 74) rfl Try.underlying76 rfl rfl Try.sizeOf74 (by decide)) rfl ?_
      refine TrQ.q (QS.loadCF rfl (by assumption) Try.isAgg74 (by rfl)) rfl ?_
      refine TrQ.q (QS.fieldAddr (off := 1) (ft := 39) rfl Try.underlying41 rfl rfl Try.sizeOf39 (by decide)) rfl ?_
      refine TrQ.q (QS.lV rfl Try.isAgg39) rfl ?_
      refine TrQ.nil ?_
      refine Tr.mapUpdate true rfl rfl rfl (by repeat (first | exact Put.here _ | apply Put.there)) Try.underlying74 Try.underlying39 rfl ?_
      refine Tr.nil ?_
      refine Tr.thenN ?_
      apply Tr.joined _
      · exact rfl
      · exact Front.nil
      · exact SubX.dropN 9 (by kernel_rfl) rfl
      · exact (by repeat' (first | exact Pick.nil _ | exact Del.here _ | apply Pick.cons | apply Del.there))
      · exact (by show _ = _; rw [if_pos (by assumption)])
    · try simp only [bs] at h3
      refine Tr.skip ?_
      refine Tr.thenN ?_
      apply Tr.joined _
      · exact rfl
      · exact Front.nil
      · exact SubX.dropN 3 (by kernel_rfl) rfl
      · exact (by repeat' (first | exact Pick.nil _ | exact Del.here _ | apply Pick.cons | apply Del.there))
      · exact (by show _ = _; rw [if_neg (by assumption)])
  · skip
    replace hi : m1 = (if i.op = 23 then mput ents i.imm true else ents) := hi
    change Tr _ _ [rowE V2 39 encU32 (succP i), mapE be boolV m1, mapE bu boolV unk, cellE b1 (encIns.enc i) 41] ([] ++ _) _
    have hm1 := hi
    refine Tr.seq ?_
    refine Tr.seq ?_
    refine Tr.region ?_
    refine Tr.q (QS.lW rfl Try.isAgg41 Try.sizeOf41) rfl ?_
    refine Tr.q (QS.call rfl Try.call75 (fun w hw => indirect_any i w)) rfl ?_
    refine Tr.q (QS.not rfl) rfl ?_
    refine Tr.nil ?_
    refine Tr.thenN ?_
    refine Tr.cond rfl (fun h4 => ?_) (fun h4 => ?_)
    · try simp only [bs] at h4
      refine Tr.seq ?_
      refine Tr.region ?_
      refine Tr.q (QS.move rfl) rfl ?_
      refine Tr.q (QS.assign rfl) rfl ?_
      refine Tr.nil ?_
      refine Tr.thenN ?_
      refine Tr.ret ?_
      refine Tr.thenR ?_
      refine Tr.ret1 Try.results43 rfl (fun w' hw => ?_)
      have hb1 : leadP ts at_ i = succP i := by unfold leadP; rw [if_neg (by simp_all), List.append_nil]
      have hb2 : mputs ents (callP ts at_ i) = m1 := call_plain hm1 (by simp_all)
      have hb3 : unkP ts at_ i = false := by unfold unkP; simp_all
      exact ⟨_, rfl, by rw [hb1, hb2, hb3, if_neg (by decide)]; exact hw.upd (Bg.le.refl _) (by repeat' (first | exact Pick.nil _ | exact Del.here _ | apply Pick.cons | apply Del.there)), trivial⟩
    · try simp only [bs] at h4
      refine Tr.skip ?_
      refine Tr.thenN ?_
      refine Tr.seq ?_
      refine Tr.region ?_
      refine Tr.q (QS.move rfl) rfl ?_
      refine Tr.q (QS.fieldAddr (off := 0) (ft := 39) rfl Try.underlying41 rfl rfl Try.sizeOf39 (by decide)) rfl ?_
      refine Tr.q (QS.lV rfl Try.isAgg39) rfl ?_
      refine Tr.q (QS.call rfl Try.call76 (fun w hw => dknown_any bw bi bb be bu VT VP ts at_ i.addr w (hcw.mono hw.bg) (hw.slF hT) (hw.slF hP) hl)) rfl ?_
      refine Tr.q (QS.move rfl) rfl ?_
      refine Tr.q (QS.extract rfl rfl) rfl ?_
      refine Tr.q (QS.extract rfl rfl) rfl ?_
      refine Tr.q (QS.assign rfl) rfl ?_
      refine Tr.q (QS.assign rfl) rfl ?_
      refine Tr.nil ?_
      refine Tr.thenN ?_
      refine Tr.seqJ (ι := List (UInt32 × Bool)) (fun u1 => u1 = (if (knownP ts at_ i.addr).isSome = true then unk else mput unk i.addr true)) (fun _ => (Bg.lessB w [be, bu] 0)) (fun u1 => [rowE V2 39 encU32 (succP i), mapE be boolV m1, mapE bu boolV u1, cellE b1 (encIns.enc i) 41]) (fun u1 => []) ?_ (fun u1 hi => ?_)
      · skip
        refine Tr.seq ?_
        refine Tr.region ?_
        refine Tr.q (QS.move rfl) rfl ?_
        refine Tr.q (QS.not rfl) rfl ?_
        refine Tr.nil ?_
        refine Tr.thenN ?_
        refine Tr.cond rfl (fun h5 => ?_) (fun h5 => ?_)
        · try simp only [bs] at h5
          refine Tr.regionT 0 6 HLF.mixed (by kernel_rfl) (panicThen panicBody) ?_
          refine TrQ.pureNil ?_
          refine TrQ.q (QS.move rfl) rfl ?_
          refine TrQ.q (QS.nilCheck rfl) rfl ?_
          refine TrQ.q (QS.fieldAddr (off := 3) (ft := 74) rfl Try.underlying76 rfl rfl Try.sizeOf74 (by decide)) rfl ?_
          refine TrQ.q (QS.loadCF rfl (by assumption) Try.isAgg74 (by rfl)) rfl ?_
          refine TrQ.q (QS.fieldAddr (off := 0) (ft := 39) rfl Try.underlying41 rfl rfl Try.sizeOf39 (by decide)) rfl ?_
          refine TrQ.q (QS.lV rfl Try.isAgg39) rfl ?_
          refine TrQ.nil ?_
          refine Tr.mapUpdate true rfl rfl rfl (by repeat (first | exact Put.here _ | apply Put.there)) Try.underlying74 Try.underlying39 rfl ?_
          refine Tr.nil ?_
          refine Tr.thenN ?_
          apply Tr.joined _
          · exact rfl
          · exact Front.nil
          · exact SubX.dropN 8 (by kernel_rfl) rfl
          · exact (by repeat' (first | exact Pick.nil _ | exact Del.here _ | apply Pick.cons | apply Del.there))
          · exact (by show _ = _; rw [if_neg (by simp_all)])
        · try simp only [bs] at h5
          refine Tr.skip ?_
          refine Tr.thenN ?_
          apply Tr.joined _
          · exact rfl
          · exact Front.nil
          · exact SubX.dropN 2 (by kernel_rfl) rfl
          · exact (by repeat' (first | exact Pick.nil _ | exact Del.here _ | apply Pick.cons | apply Del.there))
          · exact (by show _ = _; rw [if_pos (by assumption)])
      · skip
        replace hi : u1 = (if (knownP ts at_ i.addr).isSome = true then unk else mput unk i.addr true) := hi
        change Tr _ _ [rowE V2 39 encU32 (succP i), mapE be boolV m1, mapE bu boolV u1, cellE b1 (encIns.enc i) 41] ([] ++ _) _
        have hu1 := hi
        refine Tr.seqJ (ι := List (UInt32 × Bool)) (fun m2 => m2 = if i.op = 24 then mputs m1 ((knownP ts at_ i.addr).getD []) else m1) (fun _ => (Bg.lessB w [be, bu] 0)) (fun m2 => [rowE V2 39 encU32 (succP i), mapE be boolV m2, mapE bu boolV u1, cellE b1 (encIns.enc i) 41]) (fun m2 => []) ?_ (fun m2 hi => ?_)
        · skip
          refine Tr.seq ?_
          refine Tr.region ?_
          refine Tr.q (QS.fieldAddr (off := 2) (ft := 3) rfl Try.underlying41 rfl rfl Try.sizeOf3 (by decide)) rfl ?_
          refine Tr.q (QS.lV rfl Try.isAgg3) rfl ?_
          refine Tr.q (QS.eql rfl rfl) rfl ?_
          refine Tr.nil ?_
          refine Tr.thenN ?_
          refine Tr.cond rfl (fun h6 => ?_) (fun h6 => ?_)
          · try simp only [bs] at h6
            refine Tr.seq ?_
            refine Tr.region ?_
            refine Tr.q (QS.move rfl) rfl ?_
            refine Tr.q (QS.len rfl (by assumption) Try.underlying23) rfl ?_
            refine Tr.q (QS.move rfl) rfl ?_
            refine Tr.nil ?_
            refine Tr.thenN ?_
            refine Tr.block ?_
            refine Tr.loop (ι := Nat) (fun k => k ≤ ((knownP ts at_ i.addr).getD []).length) (fun _ => (Bg.lessB w [be, bu] 0)) (fun k => [rowE V2 39 encU32 (succP i), mapE be boolV (mputs m1 (((knownP ts at_ i.addr).getD []).take k)), mapE bu boolV u1, cellE b1 (encIns.enc i) 41]) (fun k => [(45, .int .i64 (k : Nat))]) (fun k => ((knownP ts at_ i.addr).getD []).length - k) 0 (Nat.zero_le _) (.cons (by first | rfl | exact lookI rfl (by omega) | exact lookI rfl (by simp) | exact lookB rfl (by simp)) Front.nil) (by repeat' (first | exact Pick.nil _ | exact Del.here _ | apply Pick.cons | apply Del.there)) rfl (fun k hi m hm => ?_)
            replace hi : k ≤ ((knownP ts at_ i.addr).getD []).length := hi
            replace hm : m = ((knownP ts at_ i.addr).getD []).length - k := hm
            change Tr _ _ [rowE V2 39 encU32 (succP i), mapE be boolV (mputs m1 (((knownP ts at_ i.addr).getD []).take k)), mapE bu boolV u1, cellE b1 (encIns.enc i) 41] ([(45, .int .i64 (k : Nat))] ++ _) _
            refine Tr.seq ?_
            refine Tr.region ?_
            refine Tr.q (QS.lss rfl rfl) rfl ?_
            refine Tr.nil ?_
            refine Tr.thenN ?_
            refine Tr.seq ?_
            refine Tr.cond rfl (fun h7 => ?_) (fun h7 => ?_)
            · try simp only [bs] at h7
              refine Tr.skip ?_
              refine Tr.thenN ?_
              refine Tr.seq ?_
              refine Tr.block ?_
              refine Tr.seq ?_
              refine Tr.region ?_
              refine Tr.q (QS.idxN rfl rfl (by assumption) Try.underlying23 Try.sizeOf39 (by rfl) (by omega)) rfl ?_
              refine Tr.q (QS.el1 rfl (by assumption) Try.isAgg39 (by omega) (by rfl)) rfl ?_
              refine Tr.q (QS.assign rfl) rfl ?_
              refine Tr.nil ?_
              refine Tr.thenN ?_
              refine Tr.region ?_
              refine Tr.q (QS.move rfl) rfl ?_
              refine Tr.q (QS.nilCheck rfl) rfl ?_
              refine Tr.q (QS.fieldAddr (off := 2) (ft := 74) rfl Try.underlying76 rfl rfl Try.sizeOf74 (by decide)) rfl ?_
              refine Tr.q (QS.loadCF rfl (by assumption) Try.isAgg74 (by rfl)) rfl ?_
              refine Tr.q (QS.move rfl) rfl ?_
              refine Tr.mapUpdate true rfl rfl rfl (by repeat (first | exact Put.here _ | apply Put.there)) Try.underlying74 Try.underlying39 rfl ?_
              refine Tr.nil ?_
              refine Tr.inN ?_
              refine Tr.thenN ?_
              refine Tr.region ?_
              refine Tr.q (QS.addI rfl rfl (by omega)) rfl ?_
              refine Tr.q (QS.move rfl) rfl ?_
              refine Tr.nil ?_
              refine Tr.thenN ?_
              rw [← mputs_snoc, ← take_succ (by omega)]
              apply Tr.again (k + 1)
              · exact rfl
              · exact (.cons (by first | rfl | exact lookI rfl (by omega) | exact lookI rfl (by simp) | exact lookB rfl (by simp)) Front.nil)
              · exact SubX.dropN 12 (by kernel_rfl) rfl
              · exact (by repeat' (first | exact Pick.nil _ | exact Del.here _ | apply Pick.cons | apply Del.there))
              · exact (by show k + 1 ≤ _; omega)
              · exact (by (try dsimp only); omega)
            · try simp only [bs] at h7
              refine Tr.exit ?_
              refine Tr.thenE ?_
              refine Tr.thenE ?_
              refine Tr.inHit ?_
              refine Tr.thenN ?_
              apply Tr.joined _
              · exact rfl
              · exact Front.nil
              · exact SubX.dropN 8 (by kernel_rfl) rfl
              · exact (by repeat' (first | exact Pick.nil _ | exact Del.here _ | apply Pick.cons | apply Del.there))
              · exact (by show _ = _; rw [if_pos (by assumption), List.take_of_length_le (by omega)])
          · try simp only [bs] at h6
            refine Tr.skip ?_
            refine Tr.thenN ?_
            apply Tr.joined _
            · exact rfl
            · exact Front.nil
            · exact SubX.dropN 3 (by kernel_rfl) rfl
            · exact (by repeat' (first | exact Pick.nil _ | exact Del.here _ | apply Pick.cons | apply Del.there))
            · exact (by show _ = _; rw [if_neg (by assumption)])
        · skip
          replace hi : m2 = if i.op = 24 then mputs m1 ((knownP ts at_ i.addr).getD []) else m1 := hi
          change Tr _ _ [rowE V2 39 encU32 (succP i), mapE be boolV m2, mapE bu boolV u1, cellE b1 (encIns.enc i) 41] ([] ++ _) _
          have hm2 := hi
          refine Tr.seq ?_
          refine Tr.region ?_
          refine Tr.q (QS.move rfl) rfl ?_
          refine Tr.q (QS.move rfl) rfl ?_
          refine Tr.appendOf rfl rfl (by repeat (first | exact Del.here _ | apply Del.there)) (fun w hw => hw.slF (by assumption)) Try.underlying23 HLF.info39 (by rfl) (by rfl) (by (try simp only [List.length_cons, List.length_nil, List.length_append, List.length_take]); omega) (by unfold maxLen; (try simp only [List.length_cons, List.length_nil, List.length_append, List.length_take]); omega) rfl (fun V8 => ?_)
          refine Tr.q (QS.assign rfl) rfl ?_
          refine Tr.nil ?_
          refine Tr.thenN ?_
          refine Tr.ret ?_
          refine Tr.ret1 Try.results43 rfl (fun w' hw => ?_)
          have hb1 : leadP ts at_ i = succP i ++ ((knownP ts at_ i.addr).getD []) := by unfold leadP; rw [if_pos (by simp_all)]
          have hb2 : mputs ents (callP ts at_ i) = m2 := call_ind hm1 hm2 (by simp_all)
          have hb3 : (if unkP ts at_ i = true then mput unk i.addr true else unk) = u1 := unk_ind hu1 (by simp_all)
          exact ⟨_, rfl, by rw [hb1, hb2, hb3]; exact hw.upd (Bg.le.refl _) (by repeat' (first | exact Pick.nil _ | exact Del.here _ | apply Pick.cons | apply Del.there)), trivial⟩
set_option maxRecDepth 100000 in
set_option maxHeartbeats 16000000 in
theorem walk_any (l : List SecV) (ts : List TabV) (at_ es : List UInt32) (V VE VT VP : Value) (w : World) (hV : Sl (hp w) encSec l V) (hB : SecB l) (hD : DataIn (hp w) l) (hN : ∀ s ∈ l, s.name.size ≤ 140737488351232) (hE : Sl (hp w) encU32 es VE) (hT : Sl (hp w) encTab ts VT) (hTI : TabIn (hp w) ts) (hTB : TabB ts) (hP : Sl (hp w) encU32 at_ VP) (ht : totD l ≤ 480) (hel : es.length ≤ 100) :
    Calls Try.prog 22 #[V, VE, VT, VP] w (fun e w' => ∃ i : ((Value × Value × Value × Value) × CodeP × Int), e = .returned ((fun i : ((Value × Value × Value × Value) × CodeP × Int) => .tuple #[.agg #[i.1.1, i.1.2.1, i.1.2.2.1, i.1.2.2.2], .int .i64 i.2.2]) i) ∧ Below w.heap.size w w' ∧ NewEnts w w' ((fun i : ((Value × Value × Value × Value) × CodeP × Int) => [rowE i.1.1 41 encIns i.2.1.ins, rowE i.1.2.1 39 encU32 i.2.1.ents, rowE i.1.2.2.1 39 encU32 i.2.1.unk, rowE i.1.2.2.2 39 encU32 i.2.1.bad]) i) ∧ WalkIs l ts at_ es i.2.1 i.2.2) := by
  obtain ⟨ta, tc, hvt, _⟩ := hT.shape
  subst hvt
  obtain ⟨pa, pc, hvp, _⟩ := hP.shape
  subst hvp
  have hV0 : Sl (Bg.of0 w).blk encSec l V := hV
  have hD0 : DataIn (Bg.of0 w).blk l := hD
  have hE0 : Sl (Bg.of0 w).blk encU32 es VE := hE
  have hT0 : Sl (Bg.of0 w).blk encTab ts (.slice ta ts.length tc) := hT
  have hTI0 : TabIn (Bg.of0 w).blk ts := hTI
  have hP0 : Sl (Bg.of0 w).blk encU32 at_ (.slice pa at_.length pc) := hP
  refine enter0 Try.func22 rfl Try.ntmps22 rfl ?_
  refine Tr.seq ?_
  refine Tr.region ?_
  refine Tr.alloc Try.zeroValue31 rfl rfl (fun b1 => ?_)
  refine Tr.q (QS.assign rfl) rfl ?_
  refine Tr.nil ?_
  refine Tr.thenN ?_
  refine Tr.scope ?_
  refine Tr.seq ?_
  refine Tr.seq ?_
  refine Tr.region ?_
  refine Tr.q (QS.move rfl) rfl ?_
  refine Tr.q (QS.len rfl (by assumption) Try.underlying24) rfl ?_
  refine Tr.q (QS.move rfl) rfl ?_
  refine Tr.q (QS.len rfl (by assumption) Try.underlying23) rfl ?_
  refine Tr.q (QS.neq rfl rfl) rfl ?_
  refine Tr.nil ?_
  refine Tr.thenN ?_
  refine Tr.cond rfl (fun h2 => ?_) (fun h2 => ?_)
  · try simp only [bs] at h2
    refine Tr.seq ?_
    refine Tr.ownNil 41 encIns ?_
    refine Tr.ownNil 39 encU32 ?_
    refine Tr.ownNil 39 encU32 ?_
    refine Tr.ownNil 39 encU32 ?_
    refine Tr.region ?_
    refine Tr.q (QS.build (vs := []) rfl rfl (HLF.built31)) rfl ?_
    refine Tr.storeW rfl rfl Try.sizeOf31 (by repeat (first | exact Put.here _ | apply Put.there)) (by rfl) (by rfl) (by first | exact List.all_eq_true.1 rfl | exact Enc.one _ _ | (intro u hu; simp [Value.cells] at hu; simp_all [Value.oneCell'])) rfl ?_
    refine Tr.q (QS.assign rfl) rfl ?_
    refine Tr.nil ?_
    refine Tr.thenN ?_
    refine Tr.ret ?_
    refine Tr.thenR ?_
    refine Tr.scopeR ?_
    refine Tr.retC2 Try.results22 rfl rfl (by repeat (first | exact List.Mem.head _ | apply List.Mem.tail)) Try.isAgg31 Try.sizeOf31 (by rfl) (fun w' hw => ?_)
    exact ⟨((.slice none 0 0, .slice none 0 0, .slice none 0 0, .slice none 0 0), ⟨[], [], [], []⟩, 2), rfl, hw.below0 (Bg.le.refl _), hw.ents0 rfl (by repeat' (first | exact Pick.nil _ | exact Del.here _ | apply Pick.cons | apply Del.there)), .arg (by show ts.length ≠ at_.length; omega) rfl rfl⟩
  · try simp only [bs] at h2
    refine Tr.skip ?_
    refine Tr.thenN ?_
    refine Tr.seq ?_
    refine Tr.seq ?_
    refine Tr.region ?_
    refine Tr.q (QS.move rfl) rfl ?_
    refine Tr.q (QS.call rfl Try.call40 (fun w hw => check_sec l V w (hw.slF hV0) hB (fun s hs => by have := hN s hs; omega))) rfl ?_
    refine Tr.q (QS.assign rfl) rfl ?_
    refine Tr.nil ?_
    refine Tr.thenN ?_
    refine Tr.seq ?_
    refine Tr.region ?_
    refine Tr.q (QS.move rfl) rfl ?_
    refine Tr.q (QS.neq rfl rfl) rfl ?_
    refine Tr.nil ?_
    refine Tr.thenN ?_
    refine Tr.cond rfl (fun h3 => ?_) (fun h3 => ?_)
    · try simp only [bs] at h3
      refine Tr.seq ?_
      refine Tr.ownNil 41 encIns ?_
      refine Tr.ownNil 39 encU32 ?_
      refine Tr.ownNil 39 encU32 ?_
      refine Tr.ownNil 39 encU32 ?_
      refine Tr.region ?_
      refine Tr.q (QS.build (vs := []) rfl rfl (HLF.built31)) rfl ?_
      refine Tr.q (QS.move rfl) rfl ?_
      refine Tr.storeW rfl rfl Try.sizeOf31 (by repeat (first | exact Put.here _ | apply Put.there)) (by rfl) (by rfl) (by first | exact List.all_eq_true.1 rfl | exact Enc.one _ _ | (intro u hu; simp [Value.cells] at hu; simp_all [Value.oneCell'])) rfl ?_
      refine Tr.q (QS.assign rfl) rfl ?_
      refine Tr.nil ?_
      refine Tr.thenN ?_
      refine Tr.ret ?_
      refine Tr.thenR ?_
      refine Tr.scopeR ?_
      refine Tr.retC2 Try.results22 rfl rfl (by repeat (first | exact List.Mem.head _ | apply List.Mem.tail)) Try.isAgg31 Try.sizeOf31 (by rfl) (fun w' hw => ?_)
      exact ⟨((.slice none 0 0, .slice none 0 0, .slice none 0 0, .slice none 0 0), ⟨[], [], [], []⟩, checkS l), rfl, hw.below0 (Bg.le.refl _), hw.ents0 rfl (by repeat' (first | exact Pick.nil _ | exact Del.here _ | apply Pick.cons | apply Del.there)), .chk (by show ts.length = at_.length; omega) (by assumption) rfl rfl⟩
    · try simp only [bs] at h3
      refine Tr.skip ?_
      refine Tr.thenN ?_
      refine Tr.seq ?_
      have hl : ts.length = at_.length := by omega
      refine Tr.region ?_
      refine Tr.makeMap insV rfl (fun b4 => ?_)
      refine Tr.makeMap boolV rfl (fun b5 => ?_)
      refine Tr.makeMap boolV rfl (fun b6 => ?_)
      refine Tr.makeMap boolV rfl (fun b7 => ?_)
      refine Tr.q (QS.move rfl) rfl ?_
      refine Tr.q (QS.move rfl) rfl ?_
      refine Tr.q (QS.build (vs := [(0, _), (1, _), (2, _), (3, _), (4, _), (5, _)]) (cs := #[.map (some b4), .map (some b5), .map (some b6), .map (some b7), (.slice ta ts.length tc), (.slice pa at_.length pc)]) rfl rfl (by kernel_rfl)) rfl ?_
      refine Tr.box (cs := [.map (some b4), .map (some b5), .map (some b6), .map (some b7), (.slice ta ts.length tc), (.slice pa at_.length pc)]) rfl rfl rfl (fun b8 => ?_)
      refine Tr.frozenC (b := b8) (by repeat (first | exact Del.here _ | apply Del.there)) (fun F1 hF1 hcw => ?_)
      have hV1 := hV0.mono hF1.blk
      have hD1 := hD0.mono hF1.blk
      have hE1 := hE0.mono hF1.blk
      have hT1 := hT0.mono hF1.blk
      have hTI1 := hTI0.mono hF1.blk
      have hP1 := hP0.mono hF1.blk
      refine Tr.q (QS.assign rfl) rfl ?_
      refine Tr.nil ?_
      refine Tr.thenN ?_
      refine Tr.seq ?_
      refine Tr.seq ?_
      refine Tr.region ?_
      refine Tr.q (QS.move rfl) rfl ?_
      refine Tr.q (QS.len rfl (by assumption) Try.underlying23) rfl ?_
      refine Tr.q (QS.move rfl) rfl ?_
      refine Tr.nil ?_
      refine Tr.thenN ?_
      refine Tr.block ?_
      refine Tr.loop (ι := Nat) (fun k => k ≤ es.length) (fun _ => _) (fun k => [mapE b6 boolV (mputs [] (es.take k)), mapE b4 insV [], mapE b5 boolV [], mapE b7 boolV [], cellE b1 [.slice none 0 0, .slice none 0 0, .slice none 0 0, .slice none 0 0] 31]) (fun k => [(50, .int .i64 (k : Nat))]) (fun k => es.length - k) 0 (Nat.zero_le _) (.cons (by first | rfl | exact lookI rfl (by omega) | exact lookI rfl (by simp) | exact lookB rfl (by simp)) Front.nil) (by repeat' (first | exact Pick.nil _ | exact Del.here _ | apply Pick.cons | apply Del.there)) rfl (fun k hi m hm => ?_)
      replace hi : k ≤ es.length := hi
      replace hm : m = es.length - k := hm
      change Tr _ _ [mapE b6 boolV (mputs [] (es.take k)), mapE b4 insV [], mapE b5 boolV [], mapE b7 boolV [], cellE b1 [.slice none 0 0, .slice none 0 0, .slice none 0 0, .slice none 0 0] 31] ([(50, .int .i64 (k : Nat))] ++ _) _
      refine Tr.seq ?_
      refine Tr.region ?_
      refine Tr.q (QS.lss rfl rfl) rfl ?_
      refine Tr.nil ?_
      refine Tr.thenN ?_
      refine Tr.seq ?_
      refine Tr.cond rfl (fun h8 => ?_) (fun h8 => ?_)
      · try simp only [bs] at h8
        refine Tr.skip ?_
        refine Tr.thenN ?_
        refine Tr.seq ?_
        refine Tr.block ?_
        refine Tr.seq ?_
        refine Tr.region ?_
        refine Tr.q (QS.idxN rfl rfl (by assumption) Try.underlying23 Try.sizeOf39 (by rfl) (by omega)) rfl ?_
        refine Tr.q (QS.el1 rfl (by assumption) Try.isAgg39 (by omega) (by rfl)) rfl ?_
        refine Tr.q (QS.assign rfl) rfl ?_
        refine Tr.nil ?_
        refine Tr.thenN ?_
        refine Tr.region ?_
        refine Tr.q (QS.move rfl) rfl ?_
        refine Tr.q (QS.nilCheck rfl) rfl ?_
        refine Tr.q (QS.fieldAddr (off := 2) (ft := 74) rfl Try.underlying76 rfl rfl Try.sizeOf74 (by decide)) rfl ?_
        refine Tr.q (QS.loadCF rfl hcw Try.isAgg74 (by rfl)) rfl ?_
        refine Tr.q (QS.move rfl) rfl ?_
        refine Tr.mapUpdate true rfl rfl rfl (by repeat (first | exact Put.here _ | apply Put.there)) Try.underlying74 Try.underlying39 rfl ?_
        refine Tr.nil ?_
        refine Tr.inN ?_
        refine Tr.thenN ?_
        refine Tr.region ?_
        refine Tr.q (QS.addI rfl rfl (by omega)) rfl ?_
        refine Tr.q (QS.move rfl) rfl ?_
        refine Tr.nil ?_
        refine Tr.thenN ?_
        rw [← mputs_snoc, ← take_succ (by omega)]
        apply Tr.again (k + 1)
        · exact rfl
        · exact (.cons (by first | rfl | exact lookI rfl (by omega) | exact lookI rfl (by simp) | exact lookB rfl (by simp)) Front.nil)
        · exact SubX.dropN 12 (by kernel_rfl) rfl
        · exact (by repeat' (first | exact Pick.nil _ | exact Del.here _ | apply Pick.cons | apply Del.there))
        · exact (by show k + 1 ≤ _; omega)
        · exact (by (try dsimp only); omega)
      · try simp only [bs] at h8
        refine Tr.exit ?_
        refine Tr.thenE ?_
        refine Tr.thenE ?_
        refine Tr.inHit ?_
        refine Tr.thenN ?_
        refine Tr.seq ?_
        obtain rfl : k = es.length := by omega
        rw [List.take_length]
        refine Tr.region ?_
        refine Tr.q (QS.move rfl) rfl ?_
        refine Tr.callRow rfl Try.call41 (fun w hw => clone_u32 es VE w (hw.slF hE1) (by omega)) rfl (fun V9 => ?_)
        refine Tr.q (QS.assign rfl) rfl ?_
        refine Tr.nil ?_
        refine Tr.thenN ?_
        refine Tr.seq ?_
        refine Tr.region ?_
        refine Tr.q (QS.assign rfl) rfl ?_
        refine Tr.nil ?_
        refine Tr.thenN ?_
        refine Tr.seq ?_
        refine Tr.label ?_
        refine Tr.thenN ?_
        refine Tr.seq ?_
        refine Tr.block ?_
        refine Tr.loop (ι := DSt × Value) (fun ⟨s, Vr⟩ => DInv l ts at_ es s) (fun _ => _) (fun ⟨s, Vr⟩ => [rowE Vr 39 encU32 s.rest, mapE b4 insV s.ins, mapE b5 boolV s.bad, mapE b6 boolV s.ents, mapE b7 boolV s.unk, cellE b1 [.slice none 0 0, .slice none 0 0, .slice none 0 0, .slice none 0 0] 31]) (fun ⟨s, Vr⟩ => [(14, Vr), (15, .bool false)]) (fun ⟨s, Vr⟩ => (481 - s.ins.length) * 16 + s.rest.length) (⟨[], [], mputs [] es, [], es⟩, _) DInv.begin (.cons (by first | rfl | exact lookI rfl (by omega) | exact lookI rfl (by simp) | exact lookB rfl (by simp)) (.cons (by first | rfl | exact lookI rfl (by omega) | exact lookI rfl (by simp) | exact lookB rfl (by simp)) Front.nil)) (by repeat' (first | exact Pick.nil _ | exact Del.here _ | apply Pick.cons | apply Del.there)) rfl (fun i hi m hm => ?_)
        obtain ⟨s, Vr⟩ := i
        replace hi : DInv l ts at_ es s := hi
        replace hm : m = (481 - s.ins.length) * 16 + s.rest.length := hm
        change Tr _ _ [rowE Vr 39 encU32 s.rest, mapE b4 insV s.ins, mapE b5 boolV s.bad, mapE b6 boolV s.ents, mapE b7 boolV s.unk, cellE b1 [.slice none 0 0, .slice none 0 0, .slice none 0 0, .slice none 0 0] 31] ([(14, Vr), (15, .bool false)] ++ _) _
        have hinv := hi
        have hic := hinv.count
        have hil := hinv.lRest
        refine Tr.seq ?_
        refine Tr.seq ?_
        refine Tr.region ?_
        refine Tr.q (QS.move rfl) rfl ?_
        refine Tr.q (QS.lenRow rfl (by repeat (first | exact List.Mem.head _ | apply List.Mem.tail)) Try.underlying23) rfl ?_
        refine Tr.q (QS.gtr rfl rfl) rfl ?_
        refine Tr.nil ?_
        refine Tr.thenN ?_
        refine Tr.cond rfl (fun h10 => ?_) (fun h10 => ?_)
        · try simp only [bs] at h10
          refine Tr.skip ?_
          refine Tr.thenN ?_
          refine Tr.block ?_
          refine Tr.seq ?_
          refine Tr.region ?_
          refine Tr.q (QS.move rfl) rfl ?_
          refine Tr.q (QS.move rfl) rfl ?_
          refine Tr.q (QS.lenRow rfl (by repeat (first | exact List.Mem.head _ | apply List.Mem.tail)) Try.underlying23) rfl ?_
          refine Tr.q (QS.subI rfl rfl (by omega)) rfl ?_
          refine Tr.q (QS.idxRow rfl rfl (by repeat (first | exact List.Mem.head _ | apply List.Mem.tail)) Try.underlying23 Try.sizeOf39 (by rfl) (by omega)) rfl ?_
          refine Tr.q (QS.elR1 rfl (by repeat (first | exact List.Mem.head _ | apply List.Mem.tail)) Try.isAgg39 (by omega) (by rfl)) rfl ?_
          obtain ⟨a, ha⟩ : ∃ a, a = s.rest.getD ((s.rest.length : Int) - 1).toNat default := ⟨_, rfl⟩
          obtain ⟨r, hre⟩ : ∃ r, r = s.rest.take ((s.rest.length : Int) - 1).toNat := ⟨_, rfl⟩
          have hr : s.rest = r ++ [a] := by rw [ha, hre]; exact last_split (by omega)
          have hrl : r.length + 1 = s.rest.length := by rw [hr, List.length_append]; rfl
          rw [← ha]
          refine Tr.q (QS.assign rfl) rfl ?_
          refine Tr.nil ?_
          refine Tr.thenN ?_
          refine Tr.seq ?_
          refine Tr.region ?_
          refine Tr.q (QS.move rfl) rfl ?_
          refine Tr.q (QS.move rfl) rfl ?_
          refine Tr.q (QS.lenRow rfl (by repeat (first | exact List.Mem.head _ | apply List.Mem.tail)) Try.underlying23) rfl ?_
          refine Tr.q (QS.subI rfl rfl (by omega)) rfl ?_
          refine Tr.shrink rfl (by repeat (first | exact Del.here _ | apply Del.there)) rfl Try.underlying23 Try.sizeOf39 (by omega) rfl (fun Vr2 => ?_)
          rw [← hre]
          refine Tr.q (QS.assign rfl) rfl ?_
          refine Tr.nil ?_
          refine Tr.thenN ?_
          refine Tr.seq ?_
          refine Tr.seq ?_
          refine Tr.region ?_
          refine Tr.q (QS.move rfl) rfl ?_
          refine Tr.q (QS.nilCheck rfl) rfl ?_
          refine Tr.q (QS.fieldAddr (off := 0) (ft := 73) rfl Try.underlying76 rfl rfl Try.sizeOf73 (by decide)) rfl ?_
          refine Tr.q (QS.loadCF rfl hcw Try.isAgg73 (by rfl)) rfl ?_
          refine Tr.q (QS.move rfl) rfl ?_
          refine Tr.q (QS.lookIOk rfl rfl (by repeat (first | exact List.Mem.head _ | apply List.Mem.tail)) Try.underlying73 Try.underlying39 Try.zeroValue41 (by rfl)) rfl ?_
          refine Tr.q (QS.move rfl) rfl ?_
          refine Tr.q (QS.extract rfl rfl) rfl ?_
          refine Tr.q (QS.extract rfl rfl) rfl ?_
          refine Tr.alloc Try.zeroValue41 rfl rfl (fun b11 => ?_)
          refine Tr.storeW rfl rfl Try.sizeOf41 (by repeat (first | exact Put.here _ | apply Put.there)) (by rfl) (by rfl) (by first | exact List.all_eq_true.1 rfl | exact Enc.one _ _ | exact Enc.one encIns _) rfl ?_
          refine Tr.q (QS.assign rfl) rfl ?_
          refine Tr.nil ?_
          refine Tr.thenN ?_
          refine Tr.seq ?_
          refine Tr.region ?_
          refine Tr.q (QS.move rfl) rfl ?_
          refine Tr.q (QS.move rfl) rfl ?_
          apply Tr.orP
          · exact (rfl : _ = (7, 86, 93))
          · exact rfl
          · intro hF12; have hF12' := hF12
            try simp only [bs] at hF12'
            refine Tr.gq rfl rfl hF12 (QS.move rfl) rfl ?_
            refine Tr.gq rfl rfl hF12 (QS.nilCheck rfl) rfl ?_
            refine Tr.gq rfl rfl hF12 (QS.fieldAddr (off := 1) (ft := 74) rfl Try.underlying76 rfl rfl Try.sizeOf74 (by decide)) rfl ?_
            refine Tr.gq rfl rfl hF12 (QS.loadCF rfl hcw Try.isAgg74 (by rfl)) rfl ?_
            refine Tr.gq rfl rfl hF12 (QS.move rfl) rfl ?_
            refine Tr.gq rfl rfl hF12 (QS.lookT rfl rfl (by repeat (first | exact List.Mem.head _ | apply List.Mem.tail)) Try.underlying74 Try.underlying39 Try.zeroValue4) rfl ?_
            refine Tr.q (QS.pickF rfl hF12 rfl) rfl ?_
            refine Tr.nil (Tr.thenN ?_)
            exact Tr.endX (Sub.cons rfl (Sub.dropN 7 (by kernel_rfl) rfl))
          · intro hT12
            refine Tr.gskip rfl rfl hT12 rfl ?_
            refine Tr.gskip rfl rfl hT12 rfl ?_
            refine Tr.gskip rfl rfl hT12 rfl ?_
            refine Tr.gskip rfl rfl hT12 rfl ?_
            refine Tr.gskip rfl rfl hT12 rfl ?_
            refine Tr.gskip rfl rfl hT12 rfl ?_
            refine Tr.q (QS.pickT rfl hT12 rfl) rfl ?_
            refine Tr.nil (Tr.thenN ?_)
            exact Tr.endX (Sub.cons rfl (Sub.dropN 7 (by kernel_rfl) rfl))
          refine Tr.nil ?_
          refine Tr.thenN ?_
          refine Tr.cond rfl (fun h13 => ?_) (fun h13 => ?_)
          · try simp only [bs] at h13
            refine Tr.exit ?_
            refine Tr.thenE ?_
            refine Tr.inHit ?_
            refine Tr.thenN ?_
            apply Tr.again (⟨s.ins, s.bad, s.ents, s.unk, r⟩, _)
            · exact rfl
            · exact (.cons (by first | rfl | exact lookI rfl (by omega) | exact lookI rfl (by simp) | exact lookB rfl (by simp)) (.cons (by first | rfl | exact lookI rfl (by omega) | exact lookI rfl (by simp) | exact lookB rfl (by simp)) Front.nil))
            · exact SubX.dropN 32 (by kernel_rfl) rfl
            · exact (by repeat' (first | exact Pick.nil _ | exact Del.here _ | apply Pick.cons | apply Del.there))
            · exact (hinv.skip hr (skip_key (by assumption)))
            · exact (by show (481 - s.ins.length) * 16 + r.length < m; omega)
          · try simp only [bs] at h13
            refine Tr.skip ?_
            refine Tr.thenN ?_
            refine Tr.seq ?_
            refine Tr.region ?_
            refine Tr.q (QS.move rfl) rfl ?_
            refine Tr.q (QS.move rfl) rfl ?_
            refine Tr.q (QS.call rfl Try.call42 (fun w hw => dat_any l V a w (hw.slF hV1) hB (hD1.mono hw.bg))) rfl ?_
            refine Tr.q (QS.move rfl) rfl ?_
            refine Tr.q (QS.extract rfl rfl) rfl ?_
            refine Tr.q (QS.extract rfl rfl) rfl ?_
            refine Tr.alloc Try.zeroValue41 rfl rfl (fun b14 => ?_)
            refine Tr.storeW rfl rfl Try.sizeOf41 (by repeat (first | exact Put.here _ | apply Put.there)) (by rfl) (by rfl) (by first | exact List.all_eq_true.1 rfl | exact Enc.one _ _ | exact Enc.one encIns _) rfl ?_
            refine Tr.q (QS.assign rfl) rfl ?_
            refine Tr.nil ?_
            refine Tr.thenN ?_
            refine Tr.seq ?_
            refine Tr.seq ?_
            refine Tr.region ?_
            refine Tr.q (QS.move rfl) rfl ?_
            refine Tr.q (QS.not rfl) rfl ?_
            refine Tr.nil ?_
            refine Tr.thenN ?_
            refine Tr.cond rfl (fun h15 => ?_) (fun h15 => ?_)
            · try simp only [bs] at h15
              refine Tr.seq ?_
              refine Tr.region ?_
              refine Tr.q (QS.move rfl) rfl ?_
              refine Tr.q (QS.nilCheck rfl) rfl ?_
              refine Tr.q (QS.fieldAddr (off := 1) (ft := 74) rfl Try.underlying76 rfl rfl Try.sizeOf74 (by decide)) rfl ?_
              refine Tr.q (QS.loadCF rfl hcw Try.isAgg74 (by rfl)) rfl ?_
              refine Tr.q (QS.move rfl) rfl ?_
              refine Tr.mapUpdate true rfl rfl rfl (by repeat (first | exact Put.here _ | apply Put.there)) Try.underlying74 Try.underlying39 rfl ?_
              refine Tr.nil ?_
              refine Tr.thenN ?_
              refine Tr.exit ?_
              refine Tr.thenE ?_
              refine Tr.inHit ?_
              refine Tr.thenN ?_
              apply Tr.again (⟨s.ins, mput s.bad a true, s.ents, s.unk, r⟩, _)
              · exact rfl
              · exact (.cons (by first | rfl | exact lookI rfl (by omega) | exact lookI rfl (by simp) | exact lookB rfl (by simp)) (.cons (by first | rfl | exact lookI rfl (by omega) | exact lookI rfl (by simp) | exact lookB rfl (by simp)) Front.nil))
              · exact SubX.dropN 47 (by kernel_rfl) rfl
              · exact (by repeat' (first | exact Pick.nil _ | exact Del.here _ | apply Pick.cons | apply Del.there))
              · exact (hinv.isBad hr (by assumption))
              · exact (by show (481 - s.ins.length) * 16 + r.length < m; omega)
            · try simp only [bs] at h15
              refine Tr.skip ?_
              refine Tr.thenN ?_
              refine Tr.seq ?_
              have hok : (atP l a).2 = true := by assumption
              have hnk : a ∉ s.ins.map (·.1) := skip_no (by assumption)
              have hinv2 := DInv.found hTB hinv hr hok hnk
              have hct : (mput s.ins a (atP l a).1).length ≤ totD l := hinv2.count
              have hml := mput_new (l := s.ins) (k := a) (by cases hq : mget s.ins a with | none => rfl | some x => exact absurd (key_mem hq) hnk) (atP l a).1
              have hml2 : (mput s.ins a (atP l a).1).length = s.ins.length + 1 := by rw [hml, List.length_append]; rfl
              have hld := lead_len hTB at_ (atP l a).1
              refine Tr.regionT 0 6 HLF.mixed (by kernel_rfl) (panicThen (panicIn (panicThen (panicIn (panicThen (panicScope panicBody)))))) ?_
              refine TrQ.pureNil ?_
              refine TrQ.q (QS.move rfl) rfl ?_
              refine TrQ.q (QS.nilCheck rfl) rfl ?_
              refine TrQ.q (QS.fieldAddr (off := 0) (ft := 73) rfl Try.underlying76 rfl rfl Try.sizeOf73 (by decide)) rfl ?_
              refine TrQ.q (QS.loadCF rfl hcw Try.isAgg73 (by rfl)) rfl ?_
              refine TrQ.q (QS.move rfl) rfl ?_
              refine TrQ.q (QS.lW rfl Try.isAgg41 Try.sizeOf41) rfl ?_
              refine TrQ.nil ?_
              refine Tr.mapUpdate (atP l a).1 rfl rfl rfl (by repeat (first | exact Put.here _ | apply Put.there)) Try.underlying73 Try.underlying39 rfl ?_
              refine Tr.nil ?_
              refine Tr.thenN ?_
              refine Tr.seq ?_
              refine Tr.seq ?_
              refine Tr.region ?_
              refine Tr.q (QS.move rfl) rfl ?_
              refine Tr.q (QS.nilCheck rfl) rfl ?_
              refine Tr.q (QS.fieldAddr (off := 0) (ft := 73) rfl Try.underlying76 rfl rfl Try.sizeOf73 (by decide)) rfl ?_
              refine Tr.q (QS.loadCF rfl hcw Try.isAgg73 (by rfl)) rfl ?_
              refine Tr.q (QS.lenMap rfl (by repeat (first | exact List.Mem.head _ | apply List.Mem.tail)) Try.underlying73) rfl ?_
              refine Tr.q (QS.gtr rfl rfl) rfl ?_
              refine Tr.nil ?_
              refine Tr.thenN ?_
              refine Tr.cond rfl (fun h16 => ?_) (fun h16 => ?_)
              · try simp only [bs] at h16
                first | contradiction | (exfalso; omega) | simp_all
              · try simp only [bs] at h16
                refine Tr.skip ?_
                refine Tr.thenN ?_
                refine Tr.region ?_
                refine Tr.q (QS.move rfl) rfl ?_
                refine Tr.q (QS.move rfl) rfl ?_
                refine Tr.q (QS.lW rfl Try.isAgg41 Try.sizeOf41) rfl ?_
                refine Tr.callO (fun V : Value => V) [mapE b6 boolV s.ents, mapE b7 boolV s.unk] (fun V => [rowE V 39 encU32 (leadP ts at_ (atP l a).1), mapE b6 boolV (mputs s.ents (callP ts at_ (atP l a).1)), mapE b7 boolV (if unkP ts at_ (atP l a).1 = true then mput s.unk (atP l a).1.addr true else s.unk)]) (ok := fun _ => True) (dd := fun _ => 0) rfl Try.call43 (by repeat' (first | exact Split.nil _ | exact Del.here _ | apply Split.cons | apply Del.there)) (fun w hw => Nat.le_of_eq hF1.dr) (fun w hw => follow_any b8 b4 b5 b6 b7 (.slice ta ts.length tc) (.slice pa at_.length pc) ts at_ (atP l a).1 s.ents s.unk w (hw.own (by repeat' (first | exact Split.nil _ | exact Del.here _ | apply Split.cons | apply Del.there))) (hcw.mono (show Hp.le F1.blk (Bg.lessB w [b6, b7] 0).blk from hw.lessB (Lo := [mapE b6 boolV s.ents, mapE b7 boolV s.unk]) (by repeat' (first | exact Split.nil _ | exact Del.here _ | apply Split.cons | apply Del.there)))) (hT1.mono (show Hp.le F1.blk (Bg.lessB w [b6, b7] 0).blk from hw.lessB (Lo := [mapE b6 boolV s.ents, mapE b7 boolV s.unk]) (by repeat' (first | exact Split.nil _ | exact Del.here _ | apply Split.cons | apply Del.there)))) (hTI1.mono (show Hp.le F1.blk (Bg.lessB w [b6, b7] 0).blk from hw.lessB (Lo := [mapE b6 boolV s.ents, mapE b7 boolV s.unk]) (by repeat' (first | exact Split.nil _ | exact Del.here _ | apply Split.cons | apply Del.there)))) hTB (hP1.mono (show Hp.le F1.blk (Bg.lessB w [b6, b7] 0).blk from hw.lessB (Lo := [mapE b6 boolV s.ents, mapE b7 boolV s.unk]) (by repeat' (first | exact Split.nil _ | exact Del.here _ | apply Split.cons | apply Del.there)))) hl (at_ok l a)) rfl (fun V25 _ => ?_)
                refine Tr.appendOf rfl rfl (by repeat (first | exact Del.here _ | apply Del.there)) (fun w hw => hw.row (by repeat (first | exact List.Mem.head _ | apply List.Mem.tail))) Try.underlying23 HLF.info39 (by rfl) (by rfl) (by (try simp only [List.length_cons, List.length_nil, List.length_append, List.length_take]); omega) (by unfold maxLen; (try simp only [List.length_cons, List.length_nil, List.length_append, List.length_take]); omega) rfl (fun V17 => ?_)
                refine Tr.q (QS.assign rfl) rfl ?_
                refine Tr.nil ?_
                refine Tr.inN ?_
                refine Tr.thenN ?_
                apply Tr.again (stepD l ts at_ a s r, _)
                · exact rfl
                · exact (.cons (by first | rfl | exact lookI rfl (by omega) | exact lookI rfl (by simp) | exact lookB rfl (by simp)) (.cons (by first | rfl | exact lookI rfl (by omega) | exact lookI rfl (by simp) | exact lookB rfl (by simp)) Front.nil))
                · exact SubX.dropN 60 (by kernel_rfl) rfl
                · exact (by repeat' (first | exact Pick.nil _ | exact Del.here _ | apply Pick.cons | apply Del.there))
                · exact hinv2
                · exact (by show (481 - (mput s.ins a (atP l a).1).length) * 16 + (r ++ leadP ts at_ (atP l a).1).length < m; rw [List.length_append]; omega)
        · try simp only [bs] at h10
          refine Tr.exit ?_
          refine Tr.thenE ?_
          refine Tr.thenE ?_
          refine Tr.inHit ?_
          refine Tr.thenN ?_
          refine Tr.seq ?_
          refine Tr.seq ?_
          have hr0 : s.rest = [] := List.length_eq_zero_iff.1 (by omega)
          have hcode := hinv.code hr0
          have hcnt := hinv.count
          have hl1 := hinv.lRest
          have hl2 := hinv.lEnts
          have hl3 := hinv.lUnk
          refine Tr.region ?_
          refine Tr.q (QS.move rfl) rfl ?_
          refine Tr.nil ?_
          refine Tr.thenN ?_
          refine Tr.cond rfl (fun h18 => ?_) (fun h18 => ?_)
          · try simp only [bs] at h18
            first | contradiction | (exfalso; omega) | simp_all
          · try simp only [bs] at h18
            refine Tr.skip ?_
            refine Tr.thenN ?_
            refine Tr.frozenM (b := b4) (by repeat (first | exact Del.here _ | apply Del.there)) (fun F2 hF2 hmI => ?_)
            refine Tr.frozenM (b := b5) (by repeat (first | exact Del.here _ | apply Del.there)) (fun F3 hF3 hmB => ?_)
            refine Tr.frozenM (b := b6) (by repeat (first | exact Del.here _ | apply Del.there)) (fun F4 hF4 hmE => ?_)
            refine Tr.frozenM (b := b7) (by repeat (first | exact Del.here _ | apply Del.there)) (fun F5 hF5 hmU5 => ?_)
            have hmI5 := hmI.mono (hF3.trans (hF4.trans hF5)).blk
            have hmB5 := hmB.mono (hF4.trans hF5).blk
            have hmE5 := hmE.mono hF5.blk
            have hF15 := hF2.trans (hF3.trans (hF4.trans hF5))
            have hdr5 : F5.dr = 0 := hF15.dr.trans hF1.dr
            have hcw5 := hcw.mono hF15.blk
            refine Tr.seqJ (ι := Value × Value × Nat) (fun ⟨Vu, Vb, bc⟩ => True) (fun _ => F5) (fun ⟨Vu, Vb, bc⟩ => [cellE bc [.slice none 0 0, .slice none 0 0, Vu, Vb] 31, rowE Vu 39 encU32 (srtU (s.unk.map (·.1))), rowE Vb 39 encU32 (srtU (s.bad.map (·.1))), cellE b1 [.slice none 0 0, .slice none 0 0, .slice none 0 0, .slice none 0 0] 31]) (fun ⟨Vu, Vb, bc⟩ => [(21, .pointer (some ⟨bc, 0, none⟩))]) ?_ (fun i hi => ?_)
            · skip
              refine Tr.regionH ([cellE b1 [.slice none 0 0, .slice none 0 0, .slice none 0 0, .slice none 0 0] 31]) 13 rfl HLF.mixed ?_
              refine Tr.hT 0 rfl (by kernel_rfl) (panicThen (panicScope panicBody)) (QS.move rfl) ?_
              refine Tr.hT 5 rfl (by kernel_rfl) (panicThen (panicScope panicBody)) (QS.move rfl) ?_
              refine Tr.hAll [1, 6, 11] (by kernel_rfl) (by simp) (fun iq hq => ?_)
              rcases List.mem_cons.1 hq with rfl | hq
              · skip
                refine Tr.hOp rfl ?_
                refine Tr.q (QS.nilCheck rfl) rfl ?_
                refine Tr.hN ?_
                refine Tr.hT 2 rfl (by kernel_rfl) (panicThen (panicScope panicBody)) (QS.fieldAddr (off := 3) (ft := 74) rfl Try.underlying76 rfl rfl Try.sizeOf74 (by decide)) ?_
                refine Tr.hT 3 rfl (by kernel_rfl) (panicThen (panicScope panicBody)) (QS.loadCF rfl hcw5 Try.isAgg74 (by rfl)) ?_
                refine Tr.hAll [4, 6, 11] (by kernel_rfl) (by simp) (fun iq hq => ?_)
                rcases List.mem_cons.1 hq with rfl | hq
                · skip
                  refine Tr.hOp rfl ?_
                  refine Tr.callEnts0 (fun V : Value => V) (fun V => [rowE V 39 encU32 (srtU (s.unk.map (·.1)))]) (ok := fun _ => True) (hdr5) rfl Try.call44 (fun w hw => dsorted_any s.unk b7 w (hmU5.mono hw.bg) (by omega)) rfl (fun V28 _ => ?_)
                  refine Tr.rowShape (V := V28) (by repeat (first | exact List.Mem.head _ | apply List.Mem.tail)) (fun pu cu hpv => ?_)
                  subst hpv
                  refine Tr.hN ?_
                  refine Tr.hAll [6, 11] (by kernel_rfl) (by simp) (fun iq hq => ?_)
                  rcases List.mem_cons.1 hq with rfl | hq
                  · skip
                    refine Tr.hOp rfl ?_
                    refine Tr.q (QS.nilCheck rfl) rfl ?_
                    refine Tr.hN ?_
                    refine Tr.hT 7 rfl (by kernel_rfl) (panicThen (panicScope panicBody)) (QS.fieldAddr (off := 1) (ft := 74) rfl Try.underlying76 rfl rfl Try.sizeOf74 (by decide)) ?_
                    refine Tr.hT 8 rfl (by kernel_rfl) (panicThen (panicScope panicBody)) (QS.loadCF rfl hcw5 Try.isAgg74 (by rfl)) ?_
                    refine Tr.hAll [9, 11] (by kernel_rfl) (by simp) (fun iq hq => ?_)
                    rcases List.mem_cons.1 hq with rfl | hq
                    · skip
                      refine Tr.hOp rfl ?_
                      refine Tr.callEnts0 (fun V : Value => V) (fun V => [rowE V 39 encU32 (srtU (s.bad.map (·.1)))]) (ok := fun _ => True) (hdr5) rfl Try.call44 (fun w hw => dsorted_any s.bad b5 w (hmB5.mono hw.bg) (by omega)) rfl (fun V29 _ => ?_)
                      refine Tr.rowShape (V := V29) (by repeat (first | exact List.Mem.head _ | apply List.Mem.tail)) (fun pb cb hpv => ?_)
                      subst hpv
                      refine Tr.hN ?_
                      refine Tr.hT 10 rfl (by kernel_rfl) (panicThen (panicScope panicBody)) (QS.build (vs := [(2, _), (3, _)]) (cs := #[.slice none 0 0, .slice none 0 0, .slice pu (srtU (s.unk.map (·.1))).length cu, .slice pb (srtU (s.bad.map (·.1))).length cb]) rfl rfl (by kernel_rfl)) ?_
                      refine Tr.hAll [11] (by kernel_rfl) (by simp) (fun iq hq => ?_)
                      obtain rfl := List.mem_singleton.1 hq
                      refine Tr.hOp rfl ?_
                      refine Tr.alloc Try.zeroValue31 rfl rfl (fun b19 => ?_)
                      refine Tr.hN ?_
                      refine Tr.hAll [12] (by kernel_rfl) (by simp) (fun iq hq => ?_)
                      obtain rfl := List.mem_singleton.1 hq
                      refine Tr.hOp rfl ?_
                      refine Tr.storeW rfl rfl Try.sizeOf31 (by repeat (first | exact Put.here _ | apply Put.there)) (by rfl) (by rfl) (by first | exact List.all_eq_true.1 rfl | exact Enc.one _ _ | (intro u hu; simp [Value.cells] at hu; simp_all [Value.oneCell'])) rfl ?_
                      refine Tr.hN ?_
                      refine Tr.hDone (by kernel_rfl) ?_
                      refine Tr.thenN ?_
                      apply Tr.joined (_, _, _)
                      · exact rfl
                      · exact (.cons (by first | rfl | exact lookI rfl (by omega) | exact lookI rfl (by simp) | exact lookB rfl (by simp)) Front.nil)
                      · exact SubX.dropN 12 (by kernel_rfl) rfl
                      · exact (by repeat' (first | exact Pick.nil _ | exact Del.here _ | apply Pick.cons | apply Del.there))
                      · exact trivial
                    obtain rfl := List.mem_singleton.1 hq
                    refine Tr.hOp rfl ?_
                    refine Tr.alloc Try.zeroValue31 rfl rfl (fun b20 => ?_)
                    refine Tr.hN ?_
                    refine Tr.hAll [9] (by kernel_rfl) (by simp) (fun iq hq => ?_)
                    obtain rfl := List.mem_singleton.1 hq
                    refine Tr.hOp rfl ?_
                    refine Tr.callEnts0 (fun V : Value => V) (fun V => [rowE V 39 encU32 (srtU (s.bad.map (·.1)))]) (ok := fun _ => True) (hdr5) rfl Try.call44 (fun w hw => dsorted_any s.bad b5 w (hmB5.mono hw.bg) (by omega)) rfl (fun V29 _ => ?_)
                    refine Tr.rowShape (V := V29) (by repeat (first | exact List.Mem.head _ | apply List.Mem.tail)) (fun pb cb hpv => ?_)
                    subst hpv
                    refine Tr.hN ?_
                    refine Tr.hT 10 rfl (by kernel_rfl) (panicThen (panicScope panicBody)) (QS.build (vs := [(2, _), (3, _)]) (cs := #[.slice none 0 0, .slice none 0 0, .slice pu (srtU (s.unk.map (·.1))).length cu, .slice pb (srtU (s.bad.map (·.1))).length cb]) rfl rfl (by kernel_rfl)) ?_
                    refine Tr.hAll [12] (by kernel_rfl) (by simp) (fun iq hq => ?_)
                    obtain rfl := List.mem_singleton.1 hq
                    refine Tr.hOp rfl ?_
                    refine Tr.storeW rfl rfl Try.sizeOf31 (by repeat (first | exact Put.here _ | apply Put.there)) (by rfl) (by rfl) (by first | exact List.all_eq_true.1 rfl | exact Enc.one _ _ | (intro u hu; simp [Value.cells] at hu; simp_all [Value.oneCell'])) rfl ?_
                    refine Tr.hN ?_
                    refine Tr.hDone (by kernel_rfl) ?_
                    refine Tr.thenN ?_
                    apply Tr.joined (_, _, _)
                    · exact rfl
                    · exact (.cons (by first | rfl | exact lookI rfl (by omega) | exact lookI rfl (by simp) | exact lookB rfl (by simp)) Front.nil)
                    · exact SubX.dropN 12 (by kernel_rfl) rfl
                    · exact (by repeat' (first | exact Pick.nil _ | exact Del.here _ | apply Pick.cons | apply Del.there))
                    · exact trivial
                  obtain rfl := List.mem_singleton.1 hq
                  refine Tr.hOp rfl ?_
                  refine Tr.alloc Try.zeroValue31 rfl rfl (fun b21 => ?_)
                  refine Tr.hN ?_
                  refine Tr.hAll [6] (by kernel_rfl) (by simp) (fun iq hq => ?_)
                  obtain rfl := List.mem_singleton.1 hq
                  refine Tr.hOp rfl ?_
                  refine Tr.q (QS.nilCheck rfl) rfl ?_
                  refine Tr.hN ?_
                  refine Tr.hT 7 rfl (by kernel_rfl) (panicThen (panicScope panicBody)) (QS.fieldAddr (off := 1) (ft := 74) rfl Try.underlying76 rfl rfl Try.sizeOf74 (by decide)) ?_
                  refine Tr.hT 8 rfl (by kernel_rfl) (panicThen (panicScope panicBody)) (QS.loadCF rfl hcw5 Try.isAgg74 (by rfl)) ?_
                  refine Tr.hAll [9] (by kernel_rfl) (by simp) (fun iq hq => ?_)
                  obtain rfl := List.mem_singleton.1 hq
                  refine Tr.hOp rfl ?_
                  refine Tr.callEnts0 (fun V : Value => V) (fun V => [rowE V 39 encU32 (srtU (s.bad.map (·.1)))]) (ok := fun _ => True) (hdr5) rfl Try.call44 (fun w hw => dsorted_any s.bad b5 w (hmB5.mono hw.bg) (by omega)) rfl (fun V29 _ => ?_)
                  refine Tr.rowShape (V := V29) (by repeat (first | exact List.Mem.head _ | apply List.Mem.tail)) (fun pb cb hpv => ?_)
                  subst hpv
                  refine Tr.hN ?_
                  refine Tr.hT 10 rfl (by kernel_rfl) (panicThen (panicScope panicBody)) (QS.build (vs := [(2, _), (3, _)]) (cs := #[.slice none 0 0, .slice none 0 0, .slice pu (srtU (s.unk.map (·.1))).length cu, .slice pb (srtU (s.bad.map (·.1))).length cb]) rfl rfl (by kernel_rfl)) ?_
                  refine Tr.hAll [12] (by kernel_rfl) (by simp) (fun iq hq => ?_)
                  obtain rfl := List.mem_singleton.1 hq
                  refine Tr.hOp rfl ?_
                  refine Tr.storeW rfl rfl Try.sizeOf31 (by repeat (first | exact Put.here _ | apply Put.there)) (by rfl) (by rfl) (by first | exact List.all_eq_true.1 rfl | exact Enc.one _ _ | (intro u hu; simp [Value.cells] at hu; simp_all [Value.oneCell'])) rfl ?_
                  refine Tr.hN ?_
                  refine Tr.hDone (by kernel_rfl) ?_
                  refine Tr.thenN ?_
                  apply Tr.joined (_, _, _)
                  · exact rfl
                  · exact (.cons (by first | rfl | exact lookI rfl (by omega) | exact lookI rfl (by simp) | exact lookB rfl (by simp)) Front.nil)
                  · exact SubX.dropN 12 (by kernel_rfl) rfl
                  · exact (by repeat' (first | exact Pick.nil _ | exact Del.here _ | apply Pick.cons | apply Del.there))
                  · exact trivial
                rcases List.mem_cons.1 hq with rfl | hq
                · skip
                  refine Tr.hOp rfl ?_
                  refine Tr.q (QS.nilCheck rfl) rfl ?_
                  refine Tr.hN ?_
                  refine Tr.hT 7 rfl (by kernel_rfl) (panicThen (panicScope panicBody)) (QS.fieldAddr (off := 1) (ft := 74) rfl Try.underlying76 rfl rfl Try.sizeOf74 (by decide)) ?_
                  refine Tr.hT 8 rfl (by kernel_rfl) (panicThen (panicScope panicBody)) (QS.loadCF rfl hcw5 Try.isAgg74 (by rfl)) ?_
                  refine Tr.hAll [4, 11] (by kernel_rfl) (by simp) (fun iq hq => ?_)
                  rcases List.mem_cons.1 hq with rfl | hq
                  · skip
                    refine Tr.hOp rfl ?_
                    refine Tr.callEnts0 (fun V : Value => V) (fun V => [rowE V 39 encU32 (srtU (s.unk.map (·.1)))]) (ok := fun _ => True) (hdr5) rfl Try.call44 (fun w hw => dsorted_any s.unk b7 w (hmU5.mono hw.bg) (by omega)) rfl (fun V28 _ => ?_)
                    refine Tr.rowShape (V := V28) (by repeat (first | exact List.Mem.head _ | apply List.Mem.tail)) (fun pu cu hpv => ?_)
                    subst hpv
                    refine Tr.hN ?_
                    refine Tr.hAll [9, 11] (by kernel_rfl) (by simp) (fun iq hq => ?_)
                    rcases List.mem_cons.1 hq with rfl | hq
                    · skip
                      refine Tr.hOp rfl ?_
                      refine Tr.callEnts0 (fun V : Value => V) (fun V => [rowE V 39 encU32 (srtU (s.bad.map (·.1)))]) (ok := fun _ => True) (hdr5) rfl Try.call44 (fun w hw => dsorted_any s.bad b5 w (hmB5.mono hw.bg) (by omega)) rfl (fun V29 _ => ?_)
                      refine Tr.rowShape (V := V29) (by repeat (first | exact List.Mem.head _ | apply List.Mem.tail)) (fun pb cb hpv => ?_)
                      subst hpv
                      refine Tr.hN ?_
                      refine Tr.hT 10 rfl (by kernel_rfl) (panicThen (panicScope panicBody)) (QS.build (vs := [(2, _), (3, _)]) (cs := #[.slice none 0 0, .slice none 0 0, .slice pu (srtU (s.unk.map (·.1))).length cu, .slice pb (srtU (s.bad.map (·.1))).length cb]) rfl rfl (by kernel_rfl)) ?_
                      refine Tr.hAll [11] (by kernel_rfl) (by simp) (fun iq hq => ?_)
                      obtain rfl := List.mem_singleton.1 hq
                      refine Tr.hOp rfl ?_
                      refine Tr.alloc Try.zeroValue31 rfl rfl (fun b22 => ?_)
                      refine Tr.hN ?_
                      refine Tr.hAll [12] (by kernel_rfl) (by simp) (fun iq hq => ?_)
                      obtain rfl := List.mem_singleton.1 hq
                      refine Tr.hOp rfl ?_
                      refine Tr.storeW rfl rfl Try.sizeOf31 (by repeat (first | exact Put.here _ | apply Put.there)) (by rfl) (by rfl) (by first | exact List.all_eq_true.1 rfl | exact Enc.one _ _ | (intro u hu; simp [Value.cells] at hu; simp_all [Value.oneCell'])) rfl ?_
                      refine Tr.hN ?_
                      refine Tr.hDone (by kernel_rfl) ?_
                      refine Tr.thenN ?_
                      apply Tr.joined (_, _, _)
                      · exact rfl
                      · exact (.cons (by first | rfl | exact lookI rfl (by omega) | exact lookI rfl (by simp) | exact lookB rfl (by simp)) Front.nil)
                      · exact SubX.dropN 12 (by kernel_rfl) rfl
                      · exact (by repeat' (first | exact Pick.nil _ | exact Del.here _ | apply Pick.cons | apply Del.there))
                      · exact trivial
                    obtain rfl := List.mem_singleton.1 hq
                    refine Tr.hOp rfl ?_
                    refine Tr.alloc Try.zeroValue31 rfl rfl (fun b23 => ?_)
                    refine Tr.hN ?_
                    refine Tr.hAll [9] (by kernel_rfl) (by simp) (fun iq hq => ?_)
                    obtain rfl := List.mem_singleton.1 hq
                    refine Tr.hOp rfl ?_
                    refine Tr.callEnts0 (fun V : Value => V) (fun V => [rowE V 39 encU32 (srtU (s.bad.map (·.1)))]) (ok := fun _ => True) (hdr5) rfl Try.call44 (fun w hw => dsorted_any s.bad b5 w (hmB5.mono hw.bg) (by omega)) rfl (fun V29 _ => ?_)
                    refine Tr.rowShape (V := V29) (by repeat (first | exact List.Mem.head _ | apply List.Mem.tail)) (fun pb cb hpv => ?_)
                    subst hpv
                    refine Tr.hN ?_
                    refine Tr.hT 10 rfl (by kernel_rfl) (panicThen (panicScope panicBody)) (QS.build (vs := [(2, _), (3, _)]) (cs := #[.slice none 0 0, .slice none 0 0, .slice pu (srtU (s.unk.map (·.1))).length cu, .slice pb (srtU (s.bad.map (·.1))).length cb]) rfl rfl (by kernel_rfl)) ?_
                    refine Tr.hAll [12] (by kernel_rfl) (by simp) (fun iq hq => ?_)
                    obtain rfl := List.mem_singleton.1 hq
                    refine Tr.hOp rfl ?_
                    refine Tr.storeW rfl rfl Try.sizeOf31 (by repeat (first | exact Put.here _ | apply Put.there)) (by rfl) (by rfl) (by first | exact List.all_eq_true.1 rfl | exact Enc.one _ _ | (intro u hu; simp [Value.cells] at hu; simp_all [Value.oneCell'])) rfl ?_
                    refine Tr.hN ?_
                    refine Tr.hDone (by kernel_rfl) ?_
                    refine Tr.thenN ?_
                    apply Tr.joined (_, _, _)
                    · exact rfl
                    · exact (.cons (by first | rfl | exact lookI rfl (by omega) | exact lookI rfl (by simp) | exact lookB rfl (by simp)) Front.nil)
                    · exact SubX.dropN 12 (by kernel_rfl) rfl
                    · exact (by repeat' (first | exact Pick.nil _ | exact Del.here _ | apply Pick.cons | apply Del.there))
                    · exact trivial
                  obtain rfl := List.mem_singleton.1 hq
                  refine Tr.hOp rfl ?_
                  refine Tr.alloc Try.zeroValue31 rfl rfl (fun b24 => ?_)
                  refine Tr.hN ?_
                  refine Tr.hAll [4] (by kernel_rfl) (by simp) (fun iq hq => ?_)
                  obtain rfl := List.mem_singleton.1 hq
                  refine Tr.hOp rfl ?_
                  refine Tr.callEnts0 (fun V : Value => V) (fun V => [rowE V 39 encU32 (srtU (s.unk.map (·.1)))]) (ok := fun _ => True) (hdr5) rfl Try.call44 (fun w hw => dsorted_any s.unk b7 w (hmU5.mono hw.bg) (by omega)) rfl (fun V28 _ => ?_)
                  refine Tr.rowShape (V := V28) (by repeat (first | exact List.Mem.head _ | apply List.Mem.tail)) (fun pu cu hpv => ?_)
                  subst hpv
                  refine Tr.hN ?_
                  refine Tr.hAll [9] (by kernel_rfl) (by simp) (fun iq hq => ?_)
                  obtain rfl := List.mem_singleton.1 hq
                  refine Tr.hOp rfl ?_
                  refine Tr.callEnts0 (fun V : Value => V) (fun V => [rowE V 39 encU32 (srtU (s.bad.map (·.1)))]) (ok := fun _ => True) (hdr5) rfl Try.call44 (fun w hw => dsorted_any s.bad b5 w (hmB5.mono hw.bg) (by omega)) rfl (fun V29 _ => ?_)
                  refine Tr.rowShape (V := V29) (by repeat (first | exact List.Mem.head _ | apply List.Mem.tail)) (fun pb cb hpv => ?_)
                  subst hpv
                  refine Tr.hN ?_
                  refine Tr.hT 10 rfl (by kernel_rfl) (panicThen (panicScope panicBody)) (QS.build (vs := [(2, _), (3, _)]) (cs := #[.slice none 0 0, .slice none 0 0, .slice pu (srtU (s.unk.map (·.1))).length cu, .slice pb (srtU (s.bad.map (·.1))).length cb]) rfl rfl (by kernel_rfl)) ?_
                  refine Tr.hAll [12] (by kernel_rfl) (by simp) (fun iq hq => ?_)
                  obtain rfl := List.mem_singleton.1 hq
                  refine Tr.hOp rfl ?_
                  refine Tr.storeW rfl rfl Try.sizeOf31 (by repeat (first | exact Put.here _ | apply Put.there)) (by rfl) (by rfl) (by first | exact List.all_eq_true.1 rfl | exact Enc.one _ _ | (intro u hu; simp [Value.cells] at hu; simp_all [Value.oneCell'])) rfl ?_
                  refine Tr.hN ?_
                  refine Tr.hDone (by kernel_rfl) ?_
                  refine Tr.thenN ?_
                  apply Tr.joined (_, _, _)
                  · exact rfl
                  · exact (.cons (by first | rfl | exact lookI rfl (by omega) | exact lookI rfl (by simp) | exact lookB rfl (by simp)) Front.nil)
                  · exact SubX.dropN 12 (by kernel_rfl) rfl
                  · exact (by repeat' (first | exact Pick.nil _ | exact Del.here _ | apply Pick.cons | apply Del.there))
                  · exact trivial
                obtain rfl := List.mem_singleton.1 hq
                refine Tr.hOp rfl ?_
                refine Tr.alloc Try.zeroValue31 rfl rfl (fun b25 => ?_)
                refine Tr.hN ?_
                refine Tr.hAll [4, 6] (by kernel_rfl) (by simp) (fun iq hq => ?_)
                rcases List.mem_cons.1 hq with rfl | hq
                · skip
                  refine Tr.hOp rfl ?_
                  refine Tr.callEnts0 (fun V : Value => V) (fun V => [rowE V 39 encU32 (srtU (s.unk.map (·.1)))]) (ok := fun _ => True) (hdr5) rfl Try.call44 (fun w hw => dsorted_any s.unk b7 w (hmU5.mono hw.bg) (by omega)) rfl (fun V28 _ => ?_)
                  refine Tr.rowShape (V := V28) (by repeat (first | exact List.Mem.head _ | apply List.Mem.tail)) (fun pu cu hpv => ?_)
                  subst hpv
                  refine Tr.hN ?_
                  refine Tr.hAll [6] (by kernel_rfl) (by simp) (fun iq hq => ?_)
                  obtain rfl := List.mem_singleton.1 hq
                  refine Tr.hOp rfl ?_
                  refine Tr.q (QS.nilCheck rfl) rfl ?_
                  refine Tr.hN ?_
                  refine Tr.hT 7 rfl (by kernel_rfl) (panicThen (panicScope panicBody)) (QS.fieldAddr (off := 1) (ft := 74) rfl Try.underlying76 rfl rfl Try.sizeOf74 (by decide)) ?_
                  refine Tr.hT 8 rfl (by kernel_rfl) (panicThen (panicScope panicBody)) (QS.loadCF rfl hcw5 Try.isAgg74 (by rfl)) ?_
                  refine Tr.hAll [9] (by kernel_rfl) (by simp) (fun iq hq => ?_)
                  obtain rfl := List.mem_singleton.1 hq
                  refine Tr.hOp rfl ?_
                  refine Tr.callEnts0 (fun V : Value => V) (fun V => [rowE V 39 encU32 (srtU (s.bad.map (·.1)))]) (ok := fun _ => True) (hdr5) rfl Try.call44 (fun w hw => dsorted_any s.bad b5 w (hmB5.mono hw.bg) (by omega)) rfl (fun V29 _ => ?_)
                  refine Tr.rowShape (V := V29) (by repeat (first | exact List.Mem.head _ | apply List.Mem.tail)) (fun pb cb hpv => ?_)
                  subst hpv
                  refine Tr.hN ?_
                  refine Tr.hT 10 rfl (by kernel_rfl) (panicThen (panicScope panicBody)) (QS.build (vs := [(2, _), (3, _)]) (cs := #[.slice none 0 0, .slice none 0 0, .slice pu (srtU (s.unk.map (·.1))).length cu, .slice pb (srtU (s.bad.map (·.1))).length cb]) rfl rfl (by kernel_rfl)) ?_
                  refine Tr.hAll [12] (by kernel_rfl) (by simp) (fun iq hq => ?_)
                  obtain rfl := List.mem_singleton.1 hq
                  refine Tr.hOp rfl ?_
                  refine Tr.storeW rfl rfl Try.sizeOf31 (by repeat (first | exact Put.here _ | apply Put.there)) (by rfl) (by rfl) (by first | exact List.all_eq_true.1 rfl | exact Enc.one _ _ | (intro u hu; simp [Value.cells] at hu; simp_all [Value.oneCell'])) rfl ?_
                  refine Tr.hN ?_
                  refine Tr.hDone (by kernel_rfl) ?_
                  refine Tr.thenN ?_
                  apply Tr.joined (_, _, _)
                  · exact rfl
                  · exact (.cons (by first | rfl | exact lookI rfl (by omega) | exact lookI rfl (by simp) | exact lookB rfl (by simp)) Front.nil)
                  · exact SubX.dropN 12 (by kernel_rfl) rfl
                  · exact (by repeat' (first | exact Pick.nil _ | exact Del.here _ | apply Pick.cons | apply Del.there))
                  · exact trivial
                obtain rfl := List.mem_singleton.1 hq
                refine Tr.hOp rfl ?_
                refine Tr.q (QS.nilCheck rfl) rfl ?_
                refine Tr.hN ?_
                refine Tr.hT 7 rfl (by kernel_rfl) (panicThen (panicScope panicBody)) (QS.fieldAddr (off := 1) (ft := 74) rfl Try.underlying76 rfl rfl Try.sizeOf74 (by decide)) ?_
                refine Tr.hT 8 rfl (by kernel_rfl) (panicThen (panicScope panicBody)) (QS.loadCF rfl hcw5 Try.isAgg74 (by rfl)) ?_
                refine Tr.hAll [4] (by kernel_rfl) (by simp) (fun iq hq => ?_)
                obtain rfl := List.mem_singleton.1 hq
                refine Tr.hOp rfl ?_
                refine Tr.callEnts0 (fun V : Value => V) (fun V => [rowE V 39 encU32 (srtU (s.unk.map (·.1)))]) (ok := fun _ => True) (hdr5) rfl Try.call44 (fun w hw => dsorted_any s.unk b7 w (hmU5.mono hw.bg) (by omega)) rfl (fun V28 _ => ?_)
                refine Tr.rowShape (V := V28) (by repeat (first | exact List.Mem.head _ | apply List.Mem.tail)) (fun pu cu hpv => ?_)
                subst hpv
                refine Tr.hN ?_
                refine Tr.hAll [9] (by kernel_rfl) (by simp) (fun iq hq => ?_)
                obtain rfl := List.mem_singleton.1 hq
                refine Tr.hOp rfl ?_
                refine Tr.callEnts0 (fun V : Value => V) (fun V => [rowE V 39 encU32 (srtU (s.bad.map (·.1)))]) (ok := fun _ => True) (hdr5) rfl Try.call44 (fun w hw => dsorted_any s.bad b5 w (hmB5.mono hw.bg) (by omega)) rfl (fun V29 _ => ?_)
                refine Tr.rowShape (V := V29) (by repeat (first | exact List.Mem.head _ | apply List.Mem.tail)) (fun pb cb hpv => ?_)
                subst hpv
                refine Tr.hN ?_
                refine Tr.hT 10 rfl (by kernel_rfl) (panicThen (panicScope panicBody)) (QS.build (vs := [(2, _), (3, _)]) (cs := #[.slice none 0 0, .slice none 0 0, .slice pu (srtU (s.unk.map (·.1))).length cu, .slice pb (srtU (s.bad.map (·.1))).length cb]) rfl rfl (by kernel_rfl)) ?_
                refine Tr.hAll [12] (by kernel_rfl) (by simp) (fun iq hq => ?_)
                obtain rfl := List.mem_singleton.1 hq
                refine Tr.hOp rfl ?_
                refine Tr.storeW rfl rfl Try.sizeOf31 (by repeat (first | exact Put.here _ | apply Put.there)) (by rfl) (by rfl) (by first | exact List.all_eq_true.1 rfl | exact Enc.one _ _ | (intro u hu; simp [Value.cells] at hu; simp_all [Value.oneCell'])) rfl ?_
                refine Tr.hN ?_
                refine Tr.hDone (by kernel_rfl) ?_
                refine Tr.thenN ?_
                apply Tr.joined (_, _, _)
                · exact rfl
                · exact (.cons (by first | rfl | exact lookI rfl (by omega) | exact lookI rfl (by simp) | exact lookB rfl (by simp)) Front.nil)
                · exact SubX.dropN 12 (by kernel_rfl) rfl
                · exact (by repeat' (first | exact Pick.nil _ | exact Del.here _ | apply Pick.cons | apply Del.there))
                · exact trivial
              rcases List.mem_cons.1 hq with rfl | hq
              · skip
                refine Tr.hOp rfl ?_
                refine Tr.q (QS.nilCheck rfl) rfl ?_
                refine Tr.hN ?_
                refine Tr.hT 7 rfl (by kernel_rfl) (panicThen (panicScope panicBody)) (QS.fieldAddr (off := 1) (ft := 74) rfl Try.underlying76 rfl rfl Try.sizeOf74 (by decide)) ?_
                refine Tr.hT 8 rfl (by kernel_rfl) (panicThen (panicScope panicBody)) (QS.loadCF rfl hcw5 Try.isAgg74 (by rfl)) ?_
                refine Tr.hAll [1, 11] (by kernel_rfl) (by simp) (fun iq hq => ?_)
                rcases List.mem_cons.1 hq with rfl | hq
                · skip
                  refine Tr.hOp rfl ?_
                  refine Tr.q (QS.nilCheck rfl) rfl ?_
                  refine Tr.hN ?_
                  refine Tr.hT 2 rfl (by kernel_rfl) (panicThen (panicScope panicBody)) (QS.fieldAddr (off := 3) (ft := 74) rfl Try.underlying76 rfl rfl Try.sizeOf74 (by decide)) ?_
                  refine Tr.hT 3 rfl (by kernel_rfl) (panicThen (panicScope panicBody)) (QS.loadCF rfl hcw5 Try.isAgg74 (by rfl)) ?_
                  refine Tr.hAll [4, 11] (by kernel_rfl) (by simp) (fun iq hq => ?_)
                  rcases List.mem_cons.1 hq with rfl | hq
                  · skip
                    refine Tr.hOp rfl ?_
                    refine Tr.callEnts0 (fun V : Value => V) (fun V => [rowE V 39 encU32 (srtU (s.unk.map (·.1)))]) (ok := fun _ => True) (hdr5) rfl Try.call44 (fun w hw => dsorted_any s.unk b7 w (hmU5.mono hw.bg) (by omega)) rfl (fun V28 _ => ?_)
                    refine Tr.rowShape (V := V28) (by repeat (first | exact List.Mem.head _ | apply List.Mem.tail)) (fun pu cu hpv => ?_)
                    subst hpv
                    refine Tr.hN ?_
                    refine Tr.hAll [9, 11] (by kernel_rfl) (by simp) (fun iq hq => ?_)
                    rcases List.mem_cons.1 hq with rfl | hq
                    · skip
                      refine Tr.hOp rfl ?_
                      refine Tr.callEnts0 (fun V : Value => V) (fun V => [rowE V 39 encU32 (srtU (s.bad.map (·.1)))]) (ok := fun _ => True) (hdr5) rfl Try.call44 (fun w hw => dsorted_any s.bad b5 w (hmB5.mono hw.bg) (by omega)) rfl (fun V29 _ => ?_)
                      refine Tr.rowShape (V := V29) (by repeat (first | exact List.Mem.head _ | apply List.Mem.tail)) (fun pb cb hpv => ?_)
                      subst hpv
                      refine Tr.hN ?_
                      refine Tr.hT 10 rfl (by kernel_rfl) (panicThen (panicScope panicBody)) (QS.build (vs := [(2, _), (3, _)]) (cs := #[.slice none 0 0, .slice none 0 0, .slice pu (srtU (s.unk.map (·.1))).length cu, .slice pb (srtU (s.bad.map (·.1))).length cb]) rfl rfl (by kernel_rfl)) ?_
                      refine Tr.hAll [11] (by kernel_rfl) (by simp) (fun iq hq => ?_)
                      obtain rfl := List.mem_singleton.1 hq
                      refine Tr.hOp rfl ?_
                      refine Tr.alloc Try.zeroValue31 rfl rfl (fun b26 => ?_)
                      refine Tr.hN ?_
                      refine Tr.hAll [12] (by kernel_rfl) (by simp) (fun iq hq => ?_)
                      obtain rfl := List.mem_singleton.1 hq
                      refine Tr.hOp rfl ?_
                      refine Tr.storeW rfl rfl Try.sizeOf31 (by repeat (first | exact Put.here _ | apply Put.there)) (by rfl) (by rfl) (by first | exact List.all_eq_true.1 rfl | exact Enc.one _ _ | (intro u hu; simp [Value.cells] at hu; simp_all [Value.oneCell'])) rfl ?_
                      refine Tr.hN ?_
                      refine Tr.hDone (by kernel_rfl) ?_
                      refine Tr.thenN ?_
                      apply Tr.joined (_, _, _)
                      · exact rfl
                      · exact (.cons (by first | rfl | exact lookI rfl (by omega) | exact lookI rfl (by simp) | exact lookB rfl (by simp)) Front.nil)
                      · exact SubX.dropN 12 (by kernel_rfl) rfl
                      · exact (by repeat' (first | exact Pick.nil _ | exact Del.here _ | apply Pick.cons | apply Del.there))
                      · exact trivial
                    obtain rfl := List.mem_singleton.1 hq
                    refine Tr.hOp rfl ?_
                    refine Tr.alloc Try.zeroValue31 rfl rfl (fun b27 => ?_)
                    refine Tr.hN ?_
                    refine Tr.hAll [9] (by kernel_rfl) (by simp) (fun iq hq => ?_)
                    obtain rfl := List.mem_singleton.1 hq
                    refine Tr.hOp rfl ?_
                    refine Tr.callEnts0 (fun V : Value => V) (fun V => [rowE V 39 encU32 (srtU (s.bad.map (·.1)))]) (ok := fun _ => True) (hdr5) rfl Try.call44 (fun w hw => dsorted_any s.bad b5 w (hmB5.mono hw.bg) (by omega)) rfl (fun V29 _ => ?_)
                    refine Tr.rowShape (V := V29) (by repeat (first | exact List.Mem.head _ | apply List.Mem.tail)) (fun pb cb hpv => ?_)
                    subst hpv
                    refine Tr.hN ?_
                    refine Tr.hT 10 rfl (by kernel_rfl) (panicThen (panicScope panicBody)) (QS.build (vs := [(2, _), (3, _)]) (cs := #[.slice none 0 0, .slice none 0 0, .slice pu (srtU (s.unk.map (·.1))).length cu, .slice pb (srtU (s.bad.map (·.1))).length cb]) rfl rfl (by kernel_rfl)) ?_
                    refine Tr.hAll [12] (by kernel_rfl) (by simp) (fun iq hq => ?_)
                    obtain rfl := List.mem_singleton.1 hq
                    refine Tr.hOp rfl ?_
                    refine Tr.storeW rfl rfl Try.sizeOf31 (by repeat (first | exact Put.here _ | apply Put.there)) (by rfl) (by rfl) (by first | exact List.all_eq_true.1 rfl | exact Enc.one _ _ | (intro u hu; simp [Value.cells] at hu; simp_all [Value.oneCell'])) rfl ?_
                    refine Tr.hN ?_
                    refine Tr.hDone (by kernel_rfl) ?_
                    refine Tr.thenN ?_
                    apply Tr.joined (_, _, _)
                    · exact rfl
                    · exact (.cons (by first | rfl | exact lookI rfl (by omega) | exact lookI rfl (by simp) | exact lookB rfl (by simp)) Front.nil)
                    · exact SubX.dropN 12 (by kernel_rfl) rfl
                    · exact (by repeat' (first | exact Pick.nil _ | exact Del.here _ | apply Pick.cons | apply Del.there))
                    · exact trivial
                  obtain rfl := List.mem_singleton.1 hq
                  refine Tr.hOp rfl ?_
                  refine Tr.alloc Try.zeroValue31 rfl rfl (fun b28 => ?_)
                  refine Tr.hN ?_
                  refine Tr.hAll [4] (by kernel_rfl) (by simp) (fun iq hq => ?_)
                  obtain rfl := List.mem_singleton.1 hq
                  refine Tr.hOp rfl ?_
                  refine Tr.callEnts0 (fun V : Value => V) (fun V => [rowE V 39 encU32 (srtU (s.unk.map (·.1)))]) (ok := fun _ => True) (hdr5) rfl Try.call44 (fun w hw => dsorted_any s.unk b7 w (hmU5.mono hw.bg) (by omega)) rfl (fun V28 _ => ?_)
                  refine Tr.rowShape (V := V28) (by repeat (first | exact List.Mem.head _ | apply List.Mem.tail)) (fun pu cu hpv => ?_)
                  subst hpv
                  refine Tr.hN ?_
                  refine Tr.hAll [9] (by kernel_rfl) (by simp) (fun iq hq => ?_)
                  obtain rfl := List.mem_singleton.1 hq
                  refine Tr.hOp rfl ?_
                  refine Tr.callEnts0 (fun V : Value => V) (fun V => [rowE V 39 encU32 (srtU (s.bad.map (·.1)))]) (ok := fun _ => True) (hdr5) rfl Try.call44 (fun w hw => dsorted_any s.bad b5 w (hmB5.mono hw.bg) (by omega)) rfl (fun V29 _ => ?_)
                  refine Tr.rowShape (V := V29) (by repeat (first | exact List.Mem.head _ | apply List.Mem.tail)) (fun pb cb hpv => ?_)
                  subst hpv
                  refine Tr.hN ?_
                  refine Tr.hT 10 rfl (by kernel_rfl) (panicThen (panicScope panicBody)) (QS.build (vs := [(2, _), (3, _)]) (cs := #[.slice none 0 0, .slice none 0 0, .slice pu (srtU (s.unk.map (·.1))).length cu, .slice pb (srtU (s.bad.map (·.1))).length cb]) rfl rfl (by kernel_rfl)) ?_
                  refine Tr.hAll [12] (by kernel_rfl) (by simp) (fun iq hq => ?_)
                  obtain rfl := List.mem_singleton.1 hq
                  refine Tr.hOp rfl ?_
                  refine Tr.storeW rfl rfl Try.sizeOf31 (by repeat (first | exact Put.here _ | apply Put.there)) (by rfl) (by rfl) (by first | exact List.all_eq_true.1 rfl | exact Enc.one _ _ | (intro u hu; simp [Value.cells] at hu; simp_all [Value.oneCell'])) rfl ?_
                  refine Tr.hN ?_
                  refine Tr.hDone (by kernel_rfl) ?_
                  refine Tr.thenN ?_
                  apply Tr.joined (_, _, _)
                  · exact rfl
                  · exact (.cons (by first | rfl | exact lookI rfl (by omega) | exact lookI rfl (by simp) | exact lookB rfl (by simp)) Front.nil)
                  · exact SubX.dropN 12 (by kernel_rfl) rfl
                  · exact (by repeat' (first | exact Pick.nil _ | exact Del.here _ | apply Pick.cons | apply Del.there))
                  · exact trivial
                obtain rfl := List.mem_singleton.1 hq
                refine Tr.hOp rfl ?_
                refine Tr.alloc Try.zeroValue31 rfl rfl (fun b29 => ?_)
                refine Tr.hN ?_
                refine Tr.hAll [1] (by kernel_rfl) (by simp) (fun iq hq => ?_)
                obtain rfl := List.mem_singleton.1 hq
                refine Tr.hOp rfl ?_
                refine Tr.q (QS.nilCheck rfl) rfl ?_
                refine Tr.hN ?_
                refine Tr.hT 2 rfl (by kernel_rfl) (panicThen (panicScope panicBody)) (QS.fieldAddr (off := 3) (ft := 74) rfl Try.underlying76 rfl rfl Try.sizeOf74 (by decide)) ?_
                refine Tr.hT 3 rfl (by kernel_rfl) (panicThen (panicScope panicBody)) (QS.loadCF rfl hcw5 Try.isAgg74 (by rfl)) ?_
                refine Tr.hAll [4] (by kernel_rfl) (by simp) (fun iq hq => ?_)
                obtain rfl := List.mem_singleton.1 hq
                refine Tr.hOp rfl ?_
                refine Tr.callEnts0 (fun V : Value => V) (fun V => [rowE V 39 encU32 (srtU (s.unk.map (·.1)))]) (ok := fun _ => True) (hdr5) rfl Try.call44 (fun w hw => dsorted_any s.unk b7 w (hmU5.mono hw.bg) (by omega)) rfl (fun V28 _ => ?_)
                refine Tr.rowShape (V := V28) (by repeat (first | exact List.Mem.head _ | apply List.Mem.tail)) (fun pu cu hpv => ?_)
                subst hpv
                refine Tr.hN ?_
                refine Tr.hAll [9] (by kernel_rfl) (by simp) (fun iq hq => ?_)
                obtain rfl := List.mem_singleton.1 hq
                refine Tr.hOp rfl ?_
                refine Tr.callEnts0 (fun V : Value => V) (fun V => [rowE V 39 encU32 (srtU (s.bad.map (·.1)))]) (ok := fun _ => True) (hdr5) rfl Try.call44 (fun w hw => dsorted_any s.bad b5 w (hmB5.mono hw.bg) (by omega)) rfl (fun V29 _ => ?_)
                refine Tr.rowShape (V := V29) (by repeat (first | exact List.Mem.head _ | apply List.Mem.tail)) (fun pb cb hpv => ?_)
                subst hpv
                refine Tr.hN ?_
                refine Tr.hT 10 rfl (by kernel_rfl) (panicThen (panicScope panicBody)) (QS.build (vs := [(2, _), (3, _)]) (cs := #[.slice none 0 0, .slice none 0 0, .slice pu (srtU (s.unk.map (·.1))).length cu, .slice pb (srtU (s.bad.map (·.1))).length cb]) rfl rfl (by kernel_rfl)) ?_
                refine Tr.hAll [12] (by kernel_rfl) (by simp) (fun iq hq => ?_)
                obtain rfl := List.mem_singleton.1 hq
                refine Tr.hOp rfl ?_
                refine Tr.storeW rfl rfl Try.sizeOf31 (by repeat (first | exact Put.here _ | apply Put.there)) (by rfl) (by rfl) (by first | exact List.all_eq_true.1 rfl | exact Enc.one _ _ | (intro u hu; simp [Value.cells] at hu; simp_all [Value.oneCell'])) rfl ?_
                refine Tr.hN ?_
                refine Tr.hDone (by kernel_rfl) ?_
                refine Tr.thenN ?_
                apply Tr.joined (_, _, _)
                · exact rfl
                · exact (.cons (by first | rfl | exact lookI rfl (by omega) | exact lookI rfl (by simp) | exact lookB rfl (by simp)) Front.nil)
                · exact SubX.dropN 12 (by kernel_rfl) rfl
                · exact (by repeat' (first | exact Pick.nil _ | exact Del.here _ | apply Pick.cons | apply Del.there))
                · exact trivial
              obtain rfl := List.mem_singleton.1 hq
              refine Tr.hOp rfl ?_
              refine Tr.alloc Try.zeroValue31 rfl rfl (fun b30 => ?_)
              refine Tr.hN ?_
              refine Tr.hAll [1, 6] (by kernel_rfl) (by simp) (fun iq hq => ?_)
              rcases List.mem_cons.1 hq with rfl | hq
              · skip
                refine Tr.hOp rfl ?_
                refine Tr.q (QS.nilCheck rfl) rfl ?_
                refine Tr.hN ?_
                refine Tr.hT 2 rfl (by kernel_rfl) (panicThen (panicScope panicBody)) (QS.fieldAddr (off := 3) (ft := 74) rfl Try.underlying76 rfl rfl Try.sizeOf74 (by decide)) ?_
                refine Tr.hT 3 rfl (by kernel_rfl) (panicThen (panicScope panicBody)) (QS.loadCF rfl hcw5 Try.isAgg74 (by rfl)) ?_
                refine Tr.hAll [4, 6] (by kernel_rfl) (by simp) (fun iq hq => ?_)
                rcases List.mem_cons.1 hq with rfl | hq
                · skip
                  refine Tr.hOp rfl ?_
                  refine Tr.callEnts0 (fun V : Value => V) (fun V => [rowE V 39 encU32 (srtU (s.unk.map (·.1)))]) (ok := fun _ => True) (hdr5) rfl Try.call44 (fun w hw => dsorted_any s.unk b7 w (hmU5.mono hw.bg) (by omega)) rfl (fun V28 _ => ?_)
                  refine Tr.rowShape (V := V28) (by repeat (first | exact List.Mem.head _ | apply List.Mem.tail)) (fun pu cu hpv => ?_)
                  subst hpv
                  refine Tr.hN ?_
                  refine Tr.hAll [6] (by kernel_rfl) (by simp) (fun iq hq => ?_)
                  obtain rfl := List.mem_singleton.1 hq
                  refine Tr.hOp rfl ?_
                  refine Tr.q (QS.nilCheck rfl) rfl ?_
                  refine Tr.hN ?_
                  refine Tr.hT 7 rfl (by kernel_rfl) (panicThen (panicScope panicBody)) (QS.fieldAddr (off := 1) (ft := 74) rfl Try.underlying76 rfl rfl Try.sizeOf74 (by decide)) ?_
                  refine Tr.hT 8 rfl (by kernel_rfl) (panicThen (panicScope panicBody)) (QS.loadCF rfl hcw5 Try.isAgg74 (by rfl)) ?_
                  refine Tr.hAll [9] (by kernel_rfl) (by simp) (fun iq hq => ?_)
                  obtain rfl := List.mem_singleton.1 hq
                  refine Tr.hOp rfl ?_
                  refine Tr.callEnts0 (fun V : Value => V) (fun V => [rowE V 39 encU32 (srtU (s.bad.map (·.1)))]) (ok := fun _ => True) (hdr5) rfl Try.call44 (fun w hw => dsorted_any s.bad b5 w (hmB5.mono hw.bg) (by omega)) rfl (fun V29 _ => ?_)
                  refine Tr.rowShape (V := V29) (by repeat (first | exact List.Mem.head _ | apply List.Mem.tail)) (fun pb cb hpv => ?_)
                  subst hpv
                  refine Tr.hN ?_
                  refine Tr.hT 10 rfl (by kernel_rfl) (panicThen (panicScope panicBody)) (QS.build (vs := [(2, _), (3, _)]) (cs := #[.slice none 0 0, .slice none 0 0, .slice pu (srtU (s.unk.map (·.1))).length cu, .slice pb (srtU (s.bad.map (·.1))).length cb]) rfl rfl (by kernel_rfl)) ?_
                  refine Tr.hAll [12] (by kernel_rfl) (by simp) (fun iq hq => ?_)
                  obtain rfl := List.mem_singleton.1 hq
                  refine Tr.hOp rfl ?_
                  refine Tr.storeW rfl rfl Try.sizeOf31 (by repeat (first | exact Put.here _ | apply Put.there)) (by rfl) (by rfl) (by first | exact List.all_eq_true.1 rfl | exact Enc.one _ _ | (intro u hu; simp [Value.cells] at hu; simp_all [Value.oneCell'])) rfl ?_
                  refine Tr.hN ?_
                  refine Tr.hDone (by kernel_rfl) ?_
                  refine Tr.thenN ?_
                  apply Tr.joined (_, _, _)
                  · exact rfl
                  · exact (.cons (by first | rfl | exact lookI rfl (by omega) | exact lookI rfl (by simp) | exact lookB rfl (by simp)) Front.nil)
                  · exact SubX.dropN 12 (by kernel_rfl) rfl
                  · exact (by repeat' (first | exact Pick.nil _ | exact Del.here _ | apply Pick.cons | apply Del.there))
                  · exact trivial
                obtain rfl := List.mem_singleton.1 hq
                refine Tr.hOp rfl ?_
                refine Tr.q (QS.nilCheck rfl) rfl ?_
                refine Tr.hN ?_
                refine Tr.hT 7 rfl (by kernel_rfl) (panicThen (panicScope panicBody)) (QS.fieldAddr (off := 1) (ft := 74) rfl Try.underlying76 rfl rfl Try.sizeOf74 (by decide)) ?_
                refine Tr.hT 8 rfl (by kernel_rfl) (panicThen (panicScope panicBody)) (QS.loadCF rfl hcw5 Try.isAgg74 (by rfl)) ?_
                refine Tr.hAll [4] (by kernel_rfl) (by simp) (fun iq hq => ?_)
                obtain rfl := List.mem_singleton.1 hq
                refine Tr.hOp rfl ?_
                refine Tr.callEnts0 (fun V : Value => V) (fun V => [rowE V 39 encU32 (srtU (s.unk.map (·.1)))]) (ok := fun _ => True) (hdr5) rfl Try.call44 (fun w hw => dsorted_any s.unk b7 w (hmU5.mono hw.bg) (by omega)) rfl (fun V28 _ => ?_)
                refine Tr.rowShape (V := V28) (by repeat (first | exact List.Mem.head _ | apply List.Mem.tail)) (fun pu cu hpv => ?_)
                subst hpv
                refine Tr.hN ?_
                refine Tr.hAll [9] (by kernel_rfl) (by simp) (fun iq hq => ?_)
                obtain rfl := List.mem_singleton.1 hq
                refine Tr.hOp rfl ?_
                refine Tr.callEnts0 (fun V : Value => V) (fun V => [rowE V 39 encU32 (srtU (s.bad.map (·.1)))]) (ok := fun _ => True) (hdr5) rfl Try.call44 (fun w hw => dsorted_any s.bad b5 w (hmB5.mono hw.bg) (by omega)) rfl (fun V29 _ => ?_)
                refine Tr.rowShape (V := V29) (by repeat (first | exact List.Mem.head _ | apply List.Mem.tail)) (fun pb cb hpv => ?_)
                subst hpv
                refine Tr.hN ?_
                refine Tr.hT 10 rfl (by kernel_rfl) (panicThen (panicScope panicBody)) (QS.build (vs := [(2, _), (3, _)]) (cs := #[.slice none 0 0, .slice none 0 0, .slice pu (srtU (s.unk.map (·.1))).length cu, .slice pb (srtU (s.bad.map (·.1))).length cb]) rfl rfl (by kernel_rfl)) ?_
                refine Tr.hAll [12] (by kernel_rfl) (by simp) (fun iq hq => ?_)
                obtain rfl := List.mem_singleton.1 hq
                refine Tr.hOp rfl ?_
                refine Tr.storeW rfl rfl Try.sizeOf31 (by repeat (first | exact Put.here _ | apply Put.there)) (by rfl) (by rfl) (by first | exact List.all_eq_true.1 rfl | exact Enc.one _ _ | (intro u hu; simp [Value.cells] at hu; simp_all [Value.oneCell'])) rfl ?_
                refine Tr.hN ?_
                refine Tr.hDone (by kernel_rfl) ?_
                refine Tr.thenN ?_
                apply Tr.joined (_, _, _)
                · exact rfl
                · exact (.cons (by first | rfl | exact lookI rfl (by omega) | exact lookI rfl (by simp) | exact lookB rfl (by simp)) Front.nil)
                · exact SubX.dropN 12 (by kernel_rfl) rfl
                · exact (by repeat' (first | exact Pick.nil _ | exact Del.here _ | apply Pick.cons | apply Del.there))
                · exact trivial
              obtain rfl := List.mem_singleton.1 hq
              refine Tr.hOp rfl ?_
              refine Tr.q (QS.nilCheck rfl) rfl ?_
              refine Tr.hN ?_
              refine Tr.hT 7 rfl (by kernel_rfl) (panicThen (panicScope panicBody)) (QS.fieldAddr (off := 1) (ft := 74) rfl Try.underlying76 rfl rfl Try.sizeOf74 (by decide)) ?_
              refine Tr.hT 8 rfl (by kernel_rfl) (panicThen (panicScope panicBody)) (QS.loadCF rfl hcw5 Try.isAgg74 (by rfl)) ?_
              refine Tr.hAll [1] (by kernel_rfl) (by simp) (fun iq hq => ?_)
              obtain rfl := List.mem_singleton.1 hq
              refine Tr.hOp rfl ?_
              refine Tr.q (QS.nilCheck rfl) rfl ?_
              refine Tr.hN ?_
              refine Tr.hT 2 rfl (by kernel_rfl) (panicThen (panicScope panicBody)) (QS.fieldAddr (off := 3) (ft := 74) rfl Try.underlying76 rfl rfl Try.sizeOf74 (by decide)) ?_
              refine Tr.hT 3 rfl (by kernel_rfl) (panicThen (panicScope panicBody)) (QS.loadCF rfl hcw5 Try.isAgg74 (by rfl)) ?_
              refine Tr.hAll [4] (by kernel_rfl) (by simp) (fun iq hq => ?_)
              obtain rfl := List.mem_singleton.1 hq
              refine Tr.hOp rfl ?_
              refine Tr.callEnts0 (fun V : Value => V) (fun V => [rowE V 39 encU32 (srtU (s.unk.map (·.1)))]) (ok := fun _ => True) (hdr5) rfl Try.call44 (fun w hw => dsorted_any s.unk b7 w (hmU5.mono hw.bg) (by omega)) rfl (fun V28 _ => ?_)
              refine Tr.rowShape (V := V28) (by repeat (first | exact List.Mem.head _ | apply List.Mem.tail)) (fun pu cu hpv => ?_)
              subst hpv
              refine Tr.hN ?_
              refine Tr.hAll [9] (by kernel_rfl) (by simp) (fun iq hq => ?_)
              obtain rfl := List.mem_singleton.1 hq
              refine Tr.hOp rfl ?_
              refine Tr.callEnts0 (fun V : Value => V) (fun V => [rowE V 39 encU32 (srtU (s.bad.map (·.1)))]) (ok := fun _ => True) (hdr5) rfl Try.call44 (fun w hw => dsorted_any s.bad b5 w (hmB5.mono hw.bg) (by omega)) rfl (fun V29 _ => ?_)
              refine Tr.rowShape (V := V29) (by repeat (first | exact List.Mem.head _ | apply List.Mem.tail)) (fun pb cb hpv => ?_)
              subst hpv
              refine Tr.hN ?_
              refine Tr.hT 10 rfl (by kernel_rfl) (panicThen (panicScope panicBody)) (QS.build (vs := [(2, _), (3, _)]) (cs := #[.slice none 0 0, .slice none 0 0, .slice pu (srtU (s.unk.map (·.1))).length cu, .slice pb (srtU (s.bad.map (·.1))).length cb]) rfl rfl (by kernel_rfl)) ?_
              refine Tr.hAll [12] (by kernel_rfl) (by simp) (fun iq hq => ?_)
              obtain rfl := List.mem_singleton.1 hq
              refine Tr.hOp rfl ?_
              refine Tr.storeW rfl rfl Try.sizeOf31 (by repeat (first | exact Put.here _ | apply Put.there)) (by rfl) (by rfl) (by first | exact List.all_eq_true.1 rfl | exact Enc.one _ _ | (intro u hu; simp [Value.cells] at hu; simp_all [Value.oneCell'])) rfl ?_
              refine Tr.hN ?_
              refine Tr.hDone (by kernel_rfl) ?_
              refine Tr.thenN ?_
              apply Tr.joined (_, _, _)
              · exact rfl
              · exact (.cons (by first | rfl | exact lookI rfl (by omega) | exact lookI rfl (by simp) | exact lookB rfl (by simp)) Front.nil)
              · exact SubX.dropN 12 (by kernel_rfl) rfl
              · exact (by repeat' (first | exact Pick.nil _ | exact Del.here _ | apply Pick.cons | apply Del.there))
              · exact trivial
            · obtain ⟨Vu, Vb, bc⟩ := i
              replace hi : True := hi
              change Tr _ _ [cellE bc [.slice none 0 0, .slice none 0 0, Vu, Vb] 31, rowE Vu 39 encU32 (srtU (s.unk.map (·.1))), rowE Vb 39 encU32 (srtU (s.bad.map (·.1))), cellE b1 [.slice none 0 0, .slice none 0 0, .slice none 0 0, .slice none 0 0] 31] ([(21, .pointer (some ⟨bc, 0, none⟩))] ++ _) _
              refine Tr.seq ?_
              refine Tr.seq ?_
              refine Tr.region ?_
              refine Tr.q (QS.move rfl) rfl ?_
              refine Tr.q (QS.nilCheck rfl) rfl ?_
              refine Tr.q (QS.fieldAddr (off := 0) (ft := 73) rfl Try.underlying76 rfl rfl Try.sizeOf73 (by decide)) rfl ?_
              refine Tr.q (QS.loadCF rfl hcw5 Try.isAgg73 (by rfl)) rfl ?_
              refine Tr.callBg (fun i : Nat => .func (.func 80) #[] #[.pointer (some ⟨i, 0, none⟩)]) (R := fun h i => CellsIn h i [.map (some b4)]) (fun h h' i hh r => r.mono hh) rfl Try.call46 (fun w hw => keys_ins b4 w) rfl (fun i9 F9 hF9 hR9 => ?_)
              have hmI9 := hmI5.mono hF9.blk
              have hmB9 := hmB5.mono hF9.blk
              have hcw9 := hcw5.mono hF9.blk
              refine Tr.callEnts0 (fun V : Value => V) (fun V => [rowE V 39 encU32 (srtU (s.ins.map (·.1)))]) (ok := fun _ => True) (hF9.dr.trans hdr5) rfl Try.call45 (fun w hw => sorted_any _ _ (s.ins.map (·.1)) s.ins.length (by omega) Try.call80 (by rw [List.length_map]; omega) w (keys_stops_ins b4 i9 w (hmI9.mono hw.bg) (hR9.mono hw.bg))) rfl (fun V30 _ => ?_)
              obtain ⟨ks, hks⟩ : ∃ ks, ks = srtU (s.ins.map (·.1)) := ⟨_, rfl⟩
              rw [← hks]
              refine Tr.q (QS.lenRow rfl (by repeat (first | exact List.Mem.head _ | apply List.Mem.tail)) Try.underlying23) rfl ?_
              refine Tr.q (QS.move rfl) rfl ?_
              refine Tr.nil ?_
              refine Tr.thenN ?_
              refine Tr.block ?_
              refine Tr.ownNil 41 encIns ?_
              refine Tr.loop (ι := Nat × Value) (fun ⟨k, Vi⟩ => k ≤ ks.length) (fun _ => _) (fun ⟨k, Vi⟩ => [rowE V30 39 encU32 ks, cellE bc [Vi, .slice none 0 0, Vu, Vb] 31, rowE Vi 41 encIns ((ks.take k).map fun a => (atP l a).1), rowE Vu 39 encU32 (srtU (s.unk.map (·.1))), rowE Vb 39 encU32 (srtU (s.bad.map (·.1))), cellE b1 [.slice none 0 0, .slice none 0 0, .slice none 0 0, .slice none 0 0] 31]) (fun ⟨k, Vi⟩ => [(144, .int .i64 (k : Nat))]) (fun ⟨k, Vi⟩ => ks.length - k) (0, _) (Nat.zero_le _) (.cons (by first | rfl | exact lookI rfl (by omega) | exact lookI rfl (by simp) | exact lookB rfl (by simp)) Front.nil) (by repeat' (first | exact Pick.nil _ | exact Del.here _ | apply Pick.cons | apply Del.there)) rfl (fun i hi m hm => ?_)
              obtain ⟨k, Vi⟩ := i
              replace hi : k ≤ ks.length := hi
              replace hm : m = ks.length - k := hm
              change Tr _ _ [rowE V30 39 encU32 ks, cellE bc [Vi, .slice none 0 0, Vu, Vb] 31, rowE Vi 41 encIns ((ks.take k).map fun a => (atP l a).1), rowE Vu 39 encU32 (srtU (s.unk.map (·.1))), rowE Vb 39 encU32 (srtU (s.bad.map (·.1))), cellE b1 [.slice none 0 0, .slice none 0 0, .slice none 0 0, .slice none 0 0] 31] ([(144, .int .i64 (k : Nat))] ++ _) _
              have hksl : ks.length ≤ 480 := by rw [hks, srtU_len, List.length_map]; omega
              have hkml : ((ks.take k).map fun a => (atP l a).1).length ≤ 480 := by rw [List.length_map, List.length_take]; omega
              refine Tr.seq ?_
              refine Tr.region ?_
              refine Tr.q (QS.lss rfl rfl) rfl ?_
              refine Tr.nil ?_
              refine Tr.thenN ?_
              refine Tr.seq ?_
              refine Tr.cond rfl (fun h31 => ?_) (fun h31 => ?_)
              · try simp only [bs] at h31
                refine Tr.skip ?_
                refine Tr.thenN ?_
                refine Tr.seq ?_
                refine Tr.block ?_
                refine Tr.seq ?_
                refine Tr.region ?_
                refine Tr.q (QS.idxRowN rfl rfl (by repeat (first | exact List.Mem.head _ | apply List.Mem.tail)) Try.underlying23 Try.sizeOf39 (by rfl) (by omega)) rfl ?_
                refine Tr.q (QS.elR1 rfl (by repeat (first | exact List.Mem.head _ | apply List.Mem.tail)) Try.isAgg39 (by omega) (by rfl)) rfl ?_
                refine Tr.q (QS.assign rfl) rfl ?_
                refine Tr.nil ?_
                refine Tr.thenN ?_
                have hga : (mget s.ins (ks.getD k default)).getD zeroIns = (atP l (ks.getD k default)).1 := ins_at hinv (by rw [← mem_srtU, ← hks]; exact mem_getD (by omega))
                refine Tr.regionH ([cellE b1 [.slice none 0 0, .slice none 0 0, .slice none 0 0, .slice none 0 0] 31]) 12 rfl HLF.mixed ?_
                refine Tr.hT 0 rfl (by kernel_rfl) (panicIn (panicThen (panicThen (panicIn (panicThen (panicScope panicBody)))))) (QS.fieldAddr (off := 0) (ft := 29) rfl Try.underlying31 rfl rfl Try.sizeOf29 (by decide)) ?_
                refine Tr.hT 2 rfl (by kernel_rfl) (panicIn (panicThen (panicThen (panicIn (panicThen (panicScope panicBody)))))) (QS.move rfl) ?_
                refine Tr.hT 6 rfl (by kernel_rfl) (panicIn (panicThen (panicThen (panicIn (panicThen (panicScope panicBody)))))) (QS.move rfl) ?_
                refine Tr.hAll [1, 3] (by kernel_rfl) (by simp) (fun iq hq => ?_)
                rcases List.mem_cons.1 hq with rfl | hq
                · skip
                  refine Tr.hOp rfl ?_
                  refine Tr.q (QS.lV rfl Try.isAgg29) rfl ?_
                  refine Tr.hN ?_
                  refine Tr.hAll [3] (by kernel_rfl) (by simp) (fun iq hq => ?_)
                  obtain rfl := List.mem_singleton.1 hq
                  refine Tr.hOp rfl ?_
                  refine Tr.q (QS.nilCheck rfl) rfl ?_
                  refine Tr.hN ?_
                  refine Tr.hT 4 rfl (by kernel_rfl) (panicIn (panicThen (panicThen (panicIn (panicThen (panicScope panicBody)))))) (QS.fieldAddr (off := 0) (ft := 73) rfl Try.underlying76 rfl rfl Try.sizeOf73 (by decide)) ?_
                  refine Tr.hT 5 rfl (by kernel_rfl) (panicIn (panicThen (panicThen (panicIn (panicThen (panicScope panicBody)))))) (QS.loadCF rfl hcw9 Try.isAgg73 (by rfl)) ?_
                  refine Tr.hAll [7] (by kernel_rfl) (by simp) (fun iq hq => ?_)
                  obtain rfl := List.mem_singleton.1 hq
                  refine Tr.hOp rfl ?_
                  refine Tr.q (QS.lookIB rfl rfl (by assumption) Try.underlying73 Try.underlying39 Try.zeroValue41 (by rfl)) rfl ?_
                  rw [hga]
                  refine Tr.hN ?_
                  refine Tr.hAll [8] (by kernel_rfl) (by simp) (fun iq hq => ?_)
                  obtain rfl := List.mem_singleton.1 hq
                  refine Tr.hOp rfl ?_
                  refine Tr.lit1 (E := encIns) (atP l (ks.getD k default)).1 rfl rfl Try.underlying29 Try.sizeOf41 Try.zeroValue41 (by rfl) (by rfl) rfl (fun V32 => ?_)
                  refine Tr.hN ?_
                  refine Tr.hAll [9] (by kernel_rfl) (by simp) (fun iq hq => ?_)
                  obtain rfl := List.mem_singleton.1 hq
                  refine Tr.hOp rfl ?_
                  refine Tr.append1 rfl rfl (by repeat (first | exact Del.here _ | apply Del.there)) (by repeat (first | exact Del.here _ | apply Del.there)) Try.underlying29 HLF.info41 (by rfl) (by rfl) (by (try simp only [List.length_cons, List.length_nil, List.length_append, List.length_take]); omega) (by unfold maxLen; (try simp only [List.length_cons, List.length_nil, List.length_append, List.length_take]); omega) rfl (fun V33 => ?_)
                  refine Tr.rowShape (.head _) (fun pi ci hpv => ?_)
                  subst hpv
                  refine Tr.hN ?_
                  refine Tr.hT 10 rfl (by kernel_rfl) (panicIn (panicThen (panicThen (panicIn (panicThen (panicScope panicBody)))))) (QS.fieldAddr (off := 0) (ft := 29) rfl Try.underlying31 rfl rfl Try.sizeOf29 (by decide)) ?_
                  refine Tr.hAll [11] (by kernel_rfl) (by simp) (fun iq hq => ?_)
                  obtain rfl := List.mem_singleton.1 hq
                  refine Tr.hOp rfl ?_
                  refine Tr.storeV (cs' := [_, _, _, _]) rfl rfl Try.sizeOf29 (by repeat (first | exact Put.here _ | apply Put.there)) rfl (by rfl) (by first | exact Nat.le_of_ble_eq_true rfl | simp) (by first | exact List.all_eq_true.1 rfl | (intro u hu; simp [Value.cells] at hu; simp_all [Value.oneCell'])) rfl ?_
                  refine Tr.hN ?_
                  refine Tr.hDone (by kernel_rfl) ?_
                  refine Tr.inN ?_
                  refine Tr.thenN ?_
                  refine Tr.region ?_
                  refine Tr.q (QS.addI rfl rfl (by omega)) rfl ?_
                  refine Tr.q (QS.move rfl) rfl ?_
                  refine Tr.nil ?_
                  refine Tr.thenN ?_
                  rw [map_take_snoc (fun a => (atP l a).1) (by omega)]
                  apply Tr.again (k + 1, _)
                  · exact rfl
                  · exact (.cons (by first | rfl | exact lookI rfl (by omega) | exact lookI rfl (by simp) | exact lookB rfl (by simp)) Front.nil)
                  · exact SubX.dropN 18 (by kernel_rfl) rfl
                  · exact (by repeat' (first | exact Pick.nil _ | exact Del.here _ | apply Pick.cons | apply Del.there))
                  · exact (by show k + 1 ≤ _; omega)
                  · exact (by (try dsimp only); omega)
                obtain rfl := List.mem_singleton.1 hq
                refine Tr.hOp rfl ?_
                refine Tr.q (QS.nilCheck rfl) rfl ?_
                refine Tr.hN ?_
                refine Tr.hT 4 rfl (by kernel_rfl) (panicIn (panicThen (panicThen (panicIn (panicThen (panicScope panicBody)))))) (QS.fieldAddr (off := 0) (ft := 73) rfl Try.underlying76 rfl rfl Try.sizeOf73 (by decide)) ?_
                refine Tr.hT 5 rfl (by kernel_rfl) (panicIn (panicThen (panicThen (panicIn (panicThen (panicScope panicBody)))))) (QS.loadCF rfl hcw9 Try.isAgg73 (by rfl)) ?_
                refine Tr.hAll [1, 7] (by kernel_rfl) (by simp) (fun iq hq => ?_)
                rcases List.mem_cons.1 hq with rfl | hq
                · skip
                  refine Tr.hOp rfl ?_
                  refine Tr.q (QS.lV rfl Try.isAgg29) rfl ?_
                  refine Tr.hN ?_
                  refine Tr.hAll [7] (by kernel_rfl) (by simp) (fun iq hq => ?_)
                  obtain rfl := List.mem_singleton.1 hq
                  refine Tr.hOp rfl ?_
                  refine Tr.q (QS.lookIB rfl rfl (by assumption) Try.underlying73 Try.underlying39 Try.zeroValue41 (by rfl)) rfl ?_
                  rw [hga]
                  refine Tr.hN ?_
                  refine Tr.hAll [8] (by kernel_rfl) (by simp) (fun iq hq => ?_)
                  obtain rfl := List.mem_singleton.1 hq
                  refine Tr.hOp rfl ?_
                  refine Tr.lit1 (E := encIns) (atP l (ks.getD k default)).1 rfl rfl Try.underlying29 Try.sizeOf41 Try.zeroValue41 (by rfl) (by rfl) rfl (fun V34 => ?_)
                  refine Tr.hN ?_
                  refine Tr.hAll [9] (by kernel_rfl) (by simp) (fun iq hq => ?_)
                  obtain rfl := List.mem_singleton.1 hq
                  refine Tr.hOp rfl ?_
                  refine Tr.append1 rfl rfl (by repeat (first | exact Del.here _ | apply Del.there)) (by repeat (first | exact Del.here _ | apply Del.there)) Try.underlying29 HLF.info41 (by rfl) (by rfl) (by (try simp only [List.length_cons, List.length_nil, List.length_append, List.length_take]); omega) (by unfold maxLen; (try simp only [List.length_cons, List.length_nil, List.length_append, List.length_take]); omega) rfl (fun V35 => ?_)
                  refine Tr.rowShape (.head _) (fun pi ci hpv => ?_)
                  subst hpv
                  refine Tr.hN ?_
                  refine Tr.hT 10 rfl (by kernel_rfl) (panicIn (panicThen (panicThen (panicIn (panicThen (panicScope panicBody)))))) (QS.fieldAddr (off := 0) (ft := 29) rfl Try.underlying31 rfl rfl Try.sizeOf29 (by decide)) ?_
                  refine Tr.hAll [11] (by kernel_rfl) (by simp) (fun iq hq => ?_)
                  obtain rfl := List.mem_singleton.1 hq
                  refine Tr.hOp rfl ?_
                  refine Tr.storeV (cs' := [_, _, _, _]) rfl rfl Try.sizeOf29 (by repeat (first | exact Put.here _ | apply Put.there)) rfl (by rfl) (by first | exact Nat.le_of_ble_eq_true rfl | simp) (by first | exact List.all_eq_true.1 rfl | (intro u hu; simp [Value.cells] at hu; simp_all [Value.oneCell'])) rfl ?_
                  refine Tr.hN ?_
                  refine Tr.hDone (by kernel_rfl) ?_
                  refine Tr.inN ?_
                  refine Tr.thenN ?_
                  refine Tr.region ?_
                  refine Tr.q (QS.addI rfl rfl (by omega)) rfl ?_
                  refine Tr.q (QS.move rfl) rfl ?_
                  refine Tr.nil ?_
                  refine Tr.thenN ?_
                  rw [map_take_snoc (fun a => (atP l a).1) (by omega)]
                  apply Tr.again (k + 1, _)
                  · exact rfl
                  · exact (.cons (by first | rfl | exact lookI rfl (by omega) | exact lookI rfl (by simp) | exact lookB rfl (by simp)) Front.nil)
                  · exact SubX.dropN 18 (by kernel_rfl) rfl
                  · exact (by repeat' (first | exact Pick.nil _ | exact Del.here _ | apply Pick.cons | apply Del.there))
                  · exact (by show k + 1 ≤ _; omega)
                  · exact (by (try dsimp only); omega)
                obtain rfl := List.mem_singleton.1 hq
                refine Tr.hOp rfl ?_
                refine Tr.q (QS.lookIB rfl rfl (by assumption) Try.underlying73 Try.underlying39 Try.zeroValue41 (by rfl)) rfl ?_
                rw [hga]
                refine Tr.hN ?_
                refine Tr.hAll [1, 8] (by kernel_rfl) (by simp) (fun iq hq => ?_)
                rcases List.mem_cons.1 hq with rfl | hq
                · skip
                  refine Tr.hOp rfl ?_
                  refine Tr.q (QS.lV rfl Try.isAgg29) rfl ?_
                  refine Tr.hN ?_
                  refine Tr.hAll [8] (by kernel_rfl) (by simp) (fun iq hq => ?_)
                  obtain rfl := List.mem_singleton.1 hq
                  refine Tr.hOp rfl ?_
                  refine Tr.lit1 (E := encIns) (atP l (ks.getD k default)).1 rfl rfl Try.underlying29 Try.sizeOf41 Try.zeroValue41 (by rfl) (by rfl) rfl (fun V36 => ?_)
                  refine Tr.hN ?_
                  refine Tr.hAll [9] (by kernel_rfl) (by simp) (fun iq hq => ?_)
                  obtain rfl := List.mem_singleton.1 hq
                  refine Tr.hOp rfl ?_
                  refine Tr.append1 rfl rfl (by repeat (first | exact Del.here _ | apply Del.there)) (by repeat (first | exact Del.here _ | apply Del.there)) Try.underlying29 HLF.info41 (by rfl) (by rfl) (by (try simp only [List.length_cons, List.length_nil, List.length_append, List.length_take]); omega) (by unfold maxLen; (try simp only [List.length_cons, List.length_nil, List.length_append, List.length_take]); omega) rfl (fun V37 => ?_)
                  refine Tr.rowShape (.head _) (fun pi ci hpv => ?_)
                  subst hpv
                  refine Tr.hN ?_
                  refine Tr.hT 10 rfl (by kernel_rfl) (panicIn (panicThen (panicThen (panicIn (panicThen (panicScope panicBody)))))) (QS.fieldAddr (off := 0) (ft := 29) rfl Try.underlying31 rfl rfl Try.sizeOf29 (by decide)) ?_
                  refine Tr.hAll [11] (by kernel_rfl) (by simp) (fun iq hq => ?_)
                  obtain rfl := List.mem_singleton.1 hq
                  refine Tr.hOp rfl ?_
                  refine Tr.storeV (cs' := [_, _, _, _]) rfl rfl Try.sizeOf29 (by repeat (first | exact Put.here _ | apply Put.there)) rfl (by rfl) (by first | exact Nat.le_of_ble_eq_true rfl | simp) (by first | exact List.all_eq_true.1 rfl | (intro u hu; simp [Value.cells] at hu; simp_all [Value.oneCell'])) rfl ?_
                  refine Tr.hN ?_
                  refine Tr.hDone (by kernel_rfl) ?_
                  refine Tr.inN ?_
                  refine Tr.thenN ?_
                  refine Tr.region ?_
                  refine Tr.q (QS.addI rfl rfl (by omega)) rfl ?_
                  refine Tr.q (QS.move rfl) rfl ?_
                  refine Tr.nil ?_
                  refine Tr.thenN ?_
                  rw [map_take_snoc (fun a => (atP l a).1) (by omega)]
                  apply Tr.again (k + 1, _)
                  · exact rfl
                  · exact (.cons (by first | rfl | exact lookI rfl (by omega) | exact lookI rfl (by simp) | exact lookB rfl (by simp)) Front.nil)
                  · exact SubX.dropN 18 (by kernel_rfl) rfl
                  · exact (by repeat' (first | exact Pick.nil _ | exact Del.here _ | apply Pick.cons | apply Del.there))
                  · exact (by show k + 1 ≤ _; omega)
                  · exact (by (try dsimp only); omega)
                obtain rfl := List.mem_singleton.1 hq
                refine Tr.hOp rfl ?_
                refine Tr.lit1 (E := encIns) (atP l (ks.getD k default)).1 rfl rfl Try.underlying29 Try.sizeOf41 Try.zeroValue41 (by rfl) (by rfl) rfl (fun V38 => ?_)
                refine Tr.hN ?_
                refine Tr.hAll [1] (by kernel_rfl) (by simp) (fun iq hq => ?_)
                obtain rfl := List.mem_singleton.1 hq
                refine Tr.hOp rfl ?_
                refine Tr.q (QS.lV rfl Try.isAgg29) rfl ?_
                refine Tr.hN ?_
                refine Tr.hAll [9] (by kernel_rfl) (by simp) (fun iq hq => ?_)
                obtain rfl := List.mem_singleton.1 hq
                refine Tr.hOp rfl ?_
                refine Tr.append1 rfl rfl (by repeat (first | exact Del.here _ | apply Del.there)) (by repeat (first | exact Del.here _ | apply Del.there)) Try.underlying29 HLF.info41 (by rfl) (by rfl) (by (try simp only [List.length_cons, List.length_nil, List.length_append, List.length_take]); omega) (by unfold maxLen; (try simp only [List.length_cons, List.length_nil, List.length_append, List.length_take]); omega) rfl (fun V39 => ?_)
                refine Tr.rowShape (.head _) (fun pi ci hpv => ?_)
                subst hpv
                refine Tr.hN ?_
                refine Tr.hT 10 rfl (by kernel_rfl) (panicIn (panicThen (panicThen (panicIn (panicThen (panicScope panicBody)))))) (QS.fieldAddr (off := 0) (ft := 29) rfl Try.underlying31 rfl rfl Try.sizeOf29 (by decide)) ?_
                refine Tr.hAll [11] (by kernel_rfl) (by simp) (fun iq hq => ?_)
                obtain rfl := List.mem_singleton.1 hq
                refine Tr.hOp rfl ?_
                refine Tr.storeV (cs' := [_, _, _, _]) rfl rfl Try.sizeOf29 (by repeat (first | exact Put.here _ | apply Put.there)) rfl (by rfl) (by first | exact Nat.le_of_ble_eq_true rfl | simp) (by first | exact List.all_eq_true.1 rfl | (intro u hu; simp [Value.cells] at hu; simp_all [Value.oneCell'])) rfl ?_
                refine Tr.hN ?_
                refine Tr.hDone (by kernel_rfl) ?_
                refine Tr.inN ?_
                refine Tr.thenN ?_
                refine Tr.region ?_
                refine Tr.q (QS.addI rfl rfl (by omega)) rfl ?_
                refine Tr.q (QS.move rfl) rfl ?_
                refine Tr.nil ?_
                refine Tr.thenN ?_
                rw [map_take_snoc (fun a => (atP l a).1) (by omega)]
                apply Tr.again (k + 1, _)
                · exact rfl
                · exact (.cons (by first | rfl | exact lookI rfl (by omega) | exact lookI rfl (by simp) | exact lookB rfl (by simp)) Front.nil)
                · exact SubX.dropN 18 (by kernel_rfl) rfl
                · exact (by repeat' (first | exact Pick.nil _ | exact Del.here _ | apply Pick.cons | apply Del.there))
                · exact (by show k + 1 ≤ _; omega)
                · exact (by (try dsimp only); omega)
              · try simp only [bs] at h31
                refine Tr.exit ?_
                refine Tr.thenE ?_
                refine Tr.thenE ?_
                refine Tr.inHit ?_
                refine Tr.thenN ?_
                refine Tr.seq ?_
                refine Tr.seq ?_
                obtain rfl : k = ks.length := by omega
                rw [List.take_length]
                refine Tr.region ?_
                refine Tr.q (QS.move rfl) rfl ?_
                refine Tr.q (QS.nilCheck rfl) rfl ?_
                refine Tr.q (QS.fieldAddr (off := 2) (ft := 74) rfl Try.underlying76 rfl rfl Try.sizeOf74 (by decide)) rfl ?_
                refine Tr.q (QS.loadCF rfl hcw9 Try.isAgg74 (by rfl)) rfl ?_
                refine Tr.callEnts0 (fun V : Value => V) (fun V => [rowE V 39 encU32 (srtU (s.ents.map (·.1)))]) (ok := fun _ => True) (hF9.dr.trans hdr5) rfl Try.call44 (fun w hw => dsorted_any s.ents b6 w ((hmE5.mono hF9.blk).mono hw.bg) (by omega)) rfl (fun V31 _ => ?_)
                obtain ⟨se, hse⟩ : ∃ se, se = srtU (s.ents.map (·.1)) := ⟨_, rfl⟩
                rw [← hse]
                refine Tr.q (QS.lenRow rfl (by repeat (first | exact List.Mem.head _ | apply List.Mem.tail)) Try.underlying23) rfl ?_
                refine Tr.q (QS.move rfl) rfl ?_
                refine Tr.nil ?_
                refine Tr.thenN ?_
                refine Tr.block ?_
                refine Tr.ownNil 39 encU32 ?_
                refine Tr.loop (ι := Nat × Value) (fun ⟨j, Ve⟩ => j ≤ se.length) (fun _ => _) (fun ⟨j, Ve⟩ => [rowE V31 39 encU32 se, cellE bc [Vi, Ve, Vu, Vb] 31, rowE Ve 39 encU32 ((se.take j).filter fun a => (mget s.ins a).isSome), rowE Vi 41 encIns ((ks).map fun a => (atP l a).1), rowE Vu 39 encU32 (srtU (s.unk.map (·.1))), rowE Vb 39 encU32 (srtU (s.bad.map (·.1))), cellE b1 [.slice none 0 0, .slice none 0 0, .slice none 0 0, .slice none 0 0] 31]) (fun ⟨j, Ve⟩ => [(166, .int .i64 (j : Nat))]) (fun ⟨j, Ve⟩ => se.length - j) (0, _) (Nat.zero_le _) (.cons (by first | rfl | exact lookI rfl (by omega) | exact lookI rfl (by simp) | exact lookB rfl (by simp)) Front.nil) (by repeat' (first | exact Pick.nil _ | exact Del.here _ | apply Pick.cons | apply Del.there)) rfl (fun i hi m hm => ?_)
                obtain ⟨j, Ve⟩ := i
                replace hi : j ≤ se.length := hi
                replace hm : m = se.length - j := hm
                change Tr _ _ [rowE V31 39 encU32 se, cellE bc [Vi, Ve, Vu, Vb] 31, rowE Ve 39 encU32 ((se.take j).filter fun a => (mget s.ins a).isSome), rowE Vi 41 encIns ((ks).map fun a => (atP l a).1), rowE Vu 39 encU32 (srtU (s.unk.map (·.1))), rowE Vb 39 encU32 (srtU (s.bad.map (·.1))), cellE b1 [.slice none 0 0, .slice none 0 0, .slice none 0 0, .slice none 0 0] 31] ([(166, .int .i64 (j : Nat))] ++ _) _
                have hsel : se.length ≤ 10000 := by rw [hse, srtU_len, List.length_map]; omega
                have hfl : ((se.take j).filter fun a => (mget s.ins a).isSome).length ≤ 10000 := Nat.le_trans (List.length_filter_le _ _) (by rw [List.length_take]; omega)
                refine Tr.seq ?_
                refine Tr.region ?_
                refine Tr.q (QS.lss rfl rfl) rfl ?_
                refine Tr.nil ?_
                refine Tr.thenN ?_
                refine Tr.seq ?_
                refine Tr.cond rfl (fun h40 => ?_) (fun h40 => ?_)
                · try simp only [bs] at h40
                  refine Tr.skip ?_
                  refine Tr.thenN ?_
                  refine Tr.seq ?_
                  refine Tr.block ?_
                  refine Tr.seq ?_
                  refine Tr.region ?_
                  refine Tr.q (QS.idxRowN rfl rfl (by repeat (first | exact List.Mem.head _ | apply List.Mem.tail)) Try.underlying23 Try.sizeOf39 (by rfl) (by omega)) rfl ?_
                  refine Tr.q (QS.elR1 rfl (by repeat (first | exact List.Mem.head _ | apply List.Mem.tail)) Try.isAgg39 (by omega) (by rfl)) rfl ?_
                  refine Tr.q (QS.assign rfl) rfl ?_
                  refine Tr.nil ?_
                  refine Tr.thenN ?_
                  refine Tr.seq ?_
                  refine Tr.region ?_
                  refine Tr.q (QS.move rfl) rfl ?_
                  refine Tr.q (QS.nilCheck rfl) rfl ?_
                  refine Tr.q (QS.fieldAddr (off := 0) (ft := 73) rfl Try.underlying76 rfl rfl Try.sizeOf73 (by decide)) rfl ?_
                  refine Tr.q (QS.loadCF rfl hcw9 Try.isAgg73 (by rfl)) rfl ?_
                  refine Tr.q (QS.move rfl) rfl ?_
                  refine Tr.q (QS.lookIBOk rfl rfl (by assumption) Try.underlying73 Try.underlying39 Try.zeroValue41 (by rfl)) rfl ?_
                  refine Tr.q (QS.move rfl) rfl ?_
                  refine Tr.q (QS.extract rfl rfl) rfl ?_
                  refine Tr.q (QS.extract rfl rfl) rfl ?_
                  refine Tr.alloc Try.zeroValue41 rfl rfl (fun b41 => ?_)
                  refine Tr.storeW rfl rfl Try.sizeOf41 (by repeat (first | exact Put.here _ | apply Put.there)) (by rfl) (by rfl) (by first | exact List.all_eq_true.1 rfl | exact Enc.one _ _ | exact Enc.one encIns _) rfl ?_
                  refine Tr.q (QS.assign rfl) rfl ?_
                  refine Tr.nil ?_
                  refine Tr.thenN ?_
                  refine Tr.seq ?_
                  refine Tr.region ?_
                  refine Tr.q (QS.move rfl) rfl ?_
                  refine Tr.nil ?_
                  refine Tr.thenN ?_
                  refine Tr.cond rfl (fun h42 => ?_) (fun h42 => ?_)
                  · try simp only [bs] at h42
                    refine Tr.region ?_
                    refine Tr.q (QS.fieldAddr (off := 1) (ft := 23) rfl Try.underlying31 rfl rfl Try.sizeOf23 (by decide)) rfl ?_
                    refine Tr.q (QS.lV rfl Try.isAgg23) rfl ?_
                    refine Tr.q (QS.move rfl) rfl ?_
                    refine Tr.lit1 (E := encU32) (se.getD j default) rfl rfl Try.underlying23 Try.sizeOf39 Try.zeroValue39 (by rfl) (by rfl) rfl (fun V43 => ?_)
                    refine Tr.append1 rfl rfl (by repeat (first | exact Del.here _ | apply Del.there)) (by repeat (first | exact Del.here _ | apply Del.there)) Try.underlying23 HLF.info39 (by rfl) (by rfl) (by (try simp only [List.length_cons, List.length_nil, List.length_append, List.length_take]); omega) (by unfold maxLen; (try simp only [List.length_cons, List.length_nil, List.length_append, List.length_take]); omega) rfl (fun V44 => ?_)
                    refine Tr.rowShape (.head _) (fun pe ce hpv => ?_)
                    subst hpv
                    refine Tr.q (QS.fieldAddr (off := 1) (ft := 23) rfl Try.underlying31 rfl rfl Try.sizeOf23 (by decide)) rfl ?_
                    refine Tr.storeV (cs' := [_, _, _, _]) rfl rfl Try.sizeOf23 (by repeat (first | exact Put.here _ | apply Put.there)) rfl (by rfl) (by first | exact Nat.le_of_ble_eq_true rfl | simp) (by first | exact List.all_eq_true.1 rfl | (intro u hu; simp [Value.cells] at hu; simp_all [Value.oneCell'])) rfl ?_
                    refine Tr.nil ?_
                    refine Tr.inN ?_
                    refine Tr.thenN ?_
                    refine Tr.region ?_
                    refine Tr.q (QS.addI rfl rfl (by omega)) rfl ?_
                    refine Tr.q (QS.move rfl) rfl ?_
                    refine Tr.nil ?_
                    refine Tr.thenN ?_
                    rw [filter_take_yes (p := fun a => (mget s.ins a).isSome) (by omega) (by assumption)]
                    apply Tr.again (j + 1, _)
                    · exact rfl
                    · exact (.cons (by first | rfl | exact lookI rfl (by omega) | exact lookI rfl (by simp) | exact lookB rfl (by simp)) Front.nil)
                    · exact SubX.dropN 25 (by kernel_rfl) rfl
                    · exact (by repeat' (first | exact Pick.nil _ | exact Del.here _ | apply Pick.cons | apply Del.there))
                    · exact (by show j + 1 ≤ _; omega)
                    · exact (by (try dsimp only); omega)
                  · try simp only [bs] at h42
                    refine Tr.skip ?_
                    refine Tr.inN ?_
                    refine Tr.thenN ?_
                    refine Tr.region ?_
                    refine Tr.q (QS.addI rfl rfl (by omega)) rfl ?_
                    refine Tr.q (QS.move rfl) rfl ?_
                    refine Tr.nil ?_
                    refine Tr.thenN ?_
                    rw [filter_take_no (p := fun a => (mget s.ins a).isSome) (by omega) (by simp_all)]
                    apply Tr.again (j + 1, _)
                    · exact rfl
                    · exact (.cons (by first | rfl | exact lookI rfl (by omega) | exact lookI rfl (by simp) | exact lookB rfl (by simp)) Front.nil)
                    · exact SubX.dropN 19 (by kernel_rfl) rfl
                    · exact (by repeat' (first | exact Pick.nil _ | exact Del.here _ | apply Pick.cons | apply Del.there))
                    · exact (by show j + 1 ≤ _; omega)
                    · exact (by (try dsimp only); omega)
                · try simp only [bs] at h40
                  refine Tr.exit ?_
                  refine Tr.thenE ?_
                  refine Tr.thenE ?_
                  refine Tr.inHit ?_
                  refine Tr.thenN ?_
                  refine Tr.seq ?_
                  obtain rfl : j = se.length := by omega
                  rw [List.take_length]
                  refine Tr.rowShape (V := Vi) (by repeat (first | exact List.Mem.head _ | apply List.Mem.tail)) (fun pVi cVi hpv => ?_)
                  subst hpv
                  refine Tr.rowShape (V := Ve) (by repeat (first | exact List.Mem.head _ | apply List.Mem.tail)) (fun pVe cVe hpv => ?_)
                  subst hpv
                  refine Tr.rowShape (V := Vu) (by repeat (first | exact List.Mem.head _ | apply List.Mem.tail)) (fun pVu cVu hpv => ?_)
                  subst hpv
                  refine Tr.rowShape (V := Vb) (by repeat (first | exact List.Mem.head _ | apply List.Mem.tail)) (fun pVb cVb hpv => ?_)
                  subst hpv
                  refine Tr.region ?_
                  refine Tr.q (QS.lW rfl Try.isAgg31 Try.sizeOf31) rfl ?_
                  refine Tr.storeW rfl rfl Try.sizeOf31 (by repeat (first | exact Put.here _ | apply Put.there)) (by rfl) (by rfl) (by first | exact List.all_eq_true.1 rfl | exact Enc.one _ _ | (intro u hu; simp [Value.cells] at hu; simp_all [Value.oneCell'])) rfl ?_
                  refine Tr.q (QS.assign rfl) rfl ?_
                  refine Tr.nil ?_
                  refine Tr.thenN ?_
                  refine Tr.ret ?_
                  refine Tr.scopeR ?_
                  refine Tr.retC2 Try.results22 rfl rfl (by repeat (first | exact List.Mem.head _ | apply List.Mem.tail)) Try.isAgg31 Try.sizeOf31 (by rfl) (fun w' hw => ?_)
                  rw [← hks, ← hse] at hcode
                  exact ⟨((_, _, _, _), ⟨_, _, _, _⟩, 0), rfl, hw.below0 (hF1.trans (hF15.trans hF9)), hw.ents0 (hF1.trans (hF15.trans hF9)).lo (by repeat' (first | exact Pick.nil _ | exact Del.here _ | apply Pick.cons | apply Del.there)), .ok hl (by simp_all) rfl hcode⟩
end Go.Proofs.Ytnmaokalpbnmaaa
namespace Go.HL
open Go
def exB : List UInt8 := [96, 1, 1, 128, 2, 0, 0, 0, 2, 0, 1]
def exS (p : Option Addr) (c : Nat) : SecV := ⟨⟨#[99]⟩, 4096, exB, p, c, false, true⟩
def exK : List UInt32 := [4096, 4099, 4104, 4106]
def exI : List Ins := [⟨4096, 4099, 20, 1, 0, 0, 0, 0, 2⟩, ⟨4099, 4106, 23, 0, 0, 0, 0, 0, 5⟩, ⟨4104, 0, 2, 0, 0, 0, 0, 0, 1⟩, ⟨4106, 0, 1, 0, 0, 0, 0, 0, 1⟩]
def exE : List UInt32 := [4096, 4106]
theorem ex_at (p : Option Addr) (c : Nat) : ∀ a ∈ exK, (atP [exS p c] a).2 = true ∧ leadP [] [] (atP [exS p c] a).1 = (if a = 4096 then [4099] else if a = 4099 then [4106, 4104] else []) ∧ callP [] [] (atP [exS p c] a).1 = (if a = 4099 then [4106] else []) ∧ unkP [] [] (atP [exS p c] a).1 = false := by
  intro a ha
  simp only [exK, List.mem_cons, List.not_mem_nil, or_false] at ha
  rcases ha with rfl | rfl | rfl | rfl
  all_goals exact ⟨by kernel_rfl, by kernel_rfl, by kernel_rfl, by kernel_rfl⟩
theorem ex_reach (p : Option Addr) (c : Nat) (a : UInt32) : Reach [exS p c] [] [] [4096] a ↔ a ∈ exK := by
  have up : ∀ b ∈ exK, ∀ a ∈ leadP [] [] (atP [exS p c] b).1, a ∈ exK := by
    intro b hb a ha
    rw [(ex_at p c b hb).2.1] at ha
    simp only [exK, List.mem_cons, List.not_mem_nil, or_false] at hb
    rcases hb with rfl | rfl | rfl | rfl
    · rw [if_pos rfl] at ha; simp at ha; subst ha; decide
    · rw [if_neg (by decide), if_pos rfl] at ha; simp at ha; rcases ha with rfl | rfl <;> decide
    · rw [if_neg (by decide), if_neg (by decide)] at ha; cases ha
    · rw [if_neg (by decide), if_neg (by decide)] at ha; cases ha
  constructor
  · intro h
    induction h with
    | ent a h => simp at h; subst h; decide
    | step b a _ _ ha ih => exact up b ih a ha
  · intro h
    have h0 : Reach [exS p c] [] [] [4096] 4096 := .ent _ (by simp)
    have h1 : Reach [exS p c] [] [] [4096] 4099 := .step 4096 _ h0 (ex_at p c 4096 (by decide)).1 (by rw [(ex_at p c 4096 (by decide)).2.1]; decide)
    have h2 : Reach [exS p c] [] [] [4096] 4104 := .step 4099 _ h1 (ex_at p c 4099 (by decide)).1 (by rw [(ex_at p c 4099 (by decide)).2.1]; decide)
    have h3 : Reach [exS p c] [] [] [4096] 4106 := .step 4099 _ h1 (ex_at p c 4099 (by decide)).1 (by rw [(ex_at p c 4099 (by decide)).2.1]; decide)
    simp only [exK, List.mem_cons, List.not_mem_nil, or_false] at h
    rcases h with rfl | rfl | rfl | rfl <;> assumption
theorem asc_exK : exK.Pairwise (· < ·) := by decide
theorem ex_code (p : Option Addr) (c : Nat) : IsCode [exS p c] [] [] [4096] ⟨exI, exE, [], []⟩ := by
  refine ⟨⟨exK, asc_exK, fun a => ?_, by kernel_rfl⟩, ⟨List.Pairwise.nil, fun a => ?_⟩, ⟨by show exE.Pairwise _; decide, fun a => ?_⟩, ⟨List.Pairwise.nil, fun a => ?_⟩⟩
  · rw [ex_reach]
    exact ⟨fun h => ⟨h, (ex_at p c a h).1⟩, fun h => h.1⟩
  · rw [ex_reach]
    constructor
    · intro h; cases h
    · rintro ⟨h1, h2⟩
      rw [(ex_at p c a h1).1] at h2; cases h2
  · rw [ex_reach]
    constructor
    · intro h
      have h' : a = 4096 ∨ a = 4106 := by simpa [exE] using h
      rcases h' with rfl | rfl
      · exact ⟨⟨by decide, (ex_at p c _ (by decide)).1⟩, .inl (by simp)⟩
      · exact ⟨⟨by decide, (ex_at p c _ (by decide)).1⟩, .inr ⟨4099, ⟨by rw [ex_reach]; decide, (ex_at p c _ (by decide)).1⟩, by rw [(ex_at p c 4099 (by decide)).2.2.1]; decide⟩⟩
    · rintro ⟨⟨h1, _⟩, h2 | ⟨b, ⟨h2, _⟩, h3⟩⟩
      · simp at h2; subst h2; show (4096 : UInt32) ∈ exE; decide
      · rw [ex_reach] at h2
        rw [(ex_at p c b h2).2.2.1] at h3
        split at h3
        · simp at h3; subst h3; show (4106 : UInt32) ∈ exE; decide
        · cases h3
  · rw [ex_reach]
    constructor
    · intro h; cases h
    · rintro ⟨⟨h1, _⟩, h2⟩
      rw [(ex_at p c a h1).2.2.2] at h2; cases h2
theorem ex_walk {p : Option Addr} {n : Nat} {c : CodeP} {e : Int} (h : WalkIs [exS p n] [] [] [4096] c e) : c = ⟨exI, exE, [], []⟩ ∧ e = 0 := by
  cases h with
  | arg h => exact absurd rfl h
  | chk h h1 => exact absurd (show checkS [exS p n] = 0 by kernel_rfl) h1
  | ok h h1 he hc => exact ⟨hc.eq (ex_code p n) (fun a => Iff.rfl) (fun a => Iff.rfl), he⟩
def reachedP (ins : List Ins) (a : UInt32) : Bool := ins.any fun i => decide (i.addr = a)
def foundP12 (ins : List Ins) (bad : List UInt32) (a : UInt32) : Bool := reachedP ins a || hasU bad a
theorem hasU_iff {l : List UInt32} {a : UInt32} : hasU l a = true ↔ a ∈ l := by
  simp [hasU, List.any_eq_true]
section
variable {l : List SecV} {ts : List TabV} {at_ es : List UInt32} {c : CodeP}
theorem IsCode.mem (h : IsCode l ts at_ es c) {i : Ins} (hi : i ∈ c.ins) : Reach l ts at_ es i.addr ∧ (atP l i.addr).2 = true ∧ i = (atP l i.addr).1 := by
  obtain ⟨ks, k1, k2, k3⟩ := h.ins
  rw [k3] at hi
  obtain ⟨a, ha, rfl⟩ := List.mem_map.1 hi
  have h2 := (k2 a).1 ha
  rw [(at_addr h2.2).1]
  exact ⟨h2.1, h2.2, rfl⟩
theorem IsCode.reached (h : IsCode l ts at_ es c) (a : UInt32) : reachedP c.ins a = true ↔ Reach l ts at_ es a ∧ (atP l a).2 = true := by
  rw [reachedP, List.any_eq_true]
  constructor
  · rintro ⟨i, hi, ha⟩
    have ha := of_decide_eq_true ha
    have := h.mem hi
    rw [ha] at this
    exact ⟨this.1, this.2.1⟩
  · rintro ⟨h1, h2⟩
    obtain ⟨ks, k1, k2, k3⟩ := h.ins
    exact ⟨(atP l a).1, by rw [k3]; exact List.mem_map.2 ⟨a, (k2 a).2 ⟨h1, h2⟩, rfl⟩, decide_eq_true (at_addr h2).1⟩
theorem IsCode.found (h : IsCode l ts at_ es c) (a : UInt32) : foundP12 c.ins c.bad a = true ↔ Reach l ts at_ es a := by
  rw [foundP12, Bool.or_eq_true, h.reached, hasU_iff, h.bad.2]
  constructor
  · rintro (h | h) <;> exact h.1
  · intro q
    cases hq : (atP l a).2
    · exact .inr ⟨q, rfl⟩
    · exact .inl ⟨q, rfl⟩
theorem IsCode.all (h : IsCode l ts at_ es c) {xs : List UInt32} (hx : ∀ a ∈ xs, Reach l ts at_ es a) : xs.all (foundP12 c.ins c.bad) = true :=
  List.all_eq_true.2 fun a ha => (h.found a).2 (hx a ha)
end
end Go.HL
namespace Go.Proofs.Ytnmaokalpbnmaaa
open Go Go.HL Go.RowKit
set_option maxRecDepth 100000 in
set_option maxHeartbeats 2000000 in
theorem reach1_any (i : Ins) (a : UInt32) (b : Nat) (w : World) (hc : Cell (hp w) b 0 (.int .u32 a.toNat)) :
    Calls Try.prog 39 #[.agg (encIns.enc i).toArray, .pointer (some ⟨b, 0, none⟩)] w (fun e w' => e = .returned (.bool (decide (i.addr = a))) ∧ Ext w w') := by
  have hc' : Cell (Bg.of w).blk b 0 (.int .u32 a.toNat) := hc
  refine enter Try.func39 rfl Try.ntmps39 rfl ?_
  refine Tr.seq ?_
  refine Tr.region ?_
  refine Tr.box rfl rfl rfl (fun b1 => ?_)
  refine Tr.q (QS.assign rfl) rfl ?_
  refine Tr.nil ?_
  refine Tr.thenN ?_
  refine Tr.seq ?_
  refine Tr.region ?_
  refine Tr.q (QS.fieldAddr (off := 0) (ft := 39) rfl Try.underlying41 rfl rfl Try.sizeOf39 (by decide)) rfl ?_
  refine Tr.q (QS.lV rfl Try.isAgg39) rfl ?_
  refine Tr.q (QS.loadC rfl (by assumption) Try.isAgg39) rfl ?_
  refine Tr.q (QS.eql32 rfl rfl) rfl ?_
  refine Tr.q (QS.assign rfl) rfl ?_
  refine Tr.nil ?_
  refine Tr.thenN ?_
  refine Tr.ret ?_
  refine Tr.ret1 Try.results39 rfl (fun w' hw => ?_)
  exact ⟨rfl, hw.below (Bg.le.refl _)⟩
set_option maxRecDepth 100000 in
set_option maxHeartbeats 2000000 in
theorem dreach_any (li : List Ins) (a : UInt32) (Vi Ve Vu Vb : Value) (w : World) (hI : Sl (hp w) encIns li Vi) :
    Calls Try.prog 21 #[.agg #[Vi, Ve, Vu, Vb], .int .u32 a.toNat] w (fun e w' => e = .returned (.bool (reachedP li a)) ∧ Ext w w') := by
  have hI' : Sl (Bg.of w).blk encIns li Vi := hI
  refine enter Try.func21 rfl Try.ntmps21 rfl ?_
  refine Tr.seq ?_
  refine Tr.region ?_
  refine Tr.box rfl rfl rfl (fun b1 => ?_)
  refine Tr.box rfl rfl rfl (fun b2 => ?_)
  refine Tr.q (QS.assign rfl) rfl ?_
  refine Tr.nil ?_
  refine Tr.thenN ?_
  refine Tr.seq ?_
  refine Tr.region ?_
  refine Tr.q (QS.fieldAddr (off := 0) (ft := 29) rfl Try.underlying31 rfl rfl Try.sizeOf29 (by decide)) rfl ?_
  refine Tr.q (QS.lV rfl Try.isAgg29) rfl ?_
  refine Tr.q (QS.makeFunc rfl rfl) rfl ?_
  refine Tr.q (QS.call rfl Try.call38 (fun w hw => containsFunc_ins li Vi _ _ w (hw.slF hI') Try.call39 (fun i => decide (i.addr = a)) (fun x hx w'' h => reach1_any x a _ w'' (cellE.cell (hw.ent _ (.head _)) h rfl)))) rfl ?_
  refine Tr.q (QS.assign rfl) rfl ?_
  refine Tr.nil ?_
  refine Tr.thenN ?_
  refine Tr.ret ?_
  refine Tr.ret1 Try.results21 rfl (fun w' hw => ?_)
  exact ⟨rfl, hw.below (Bg.le.refl _)⟩
set_option maxRecDepth 100000 in
set_option maxHeartbeats 8000000 in
theorem example12_any (w : World) :
    Calls Try.prog 11 #[] w (fun e w' => e = .returned (.bool true) ∧ Below w.heap.size w w') := by
  refine enter0 Try.func11 rfl Try.ntmps11 rfl ?_
  refine Tr.seq ?_
  refine Tr.region ?_
  refine Tr.q (QS.assign rfl) rfl ?_
  refine Tr.nil ?_
  refine Tr.thenN ?_
  refine Tr.seq ?_
  refine Tr.region ?_
  refine Tr.litN (E := encU8) exB (vs := [(0, _), (1, _), (2, _), (3, _), (4, _), (5, _), (6, _), (7, _), (8, _), (9, _), (10, _)]) rfl rfl Try.underlying61 Try.sizeOf5 Try.zeroValue5 (by rfl) (by rfl) rfl (by first | kernel_rfl | rfl) rfl (fun V1 => ?_)
  refine Tr.rowShape (.head _) (fun pa pc hpv => ?_)
  subst hpv
  refine Tr.frozen (.here _) (fun F1 hF1 hD1 => ?_)
  refine Tr.q (QS.build (vs := [(0, _), (1, _), (2, _), (4, _)]) rfl rfl rfl) rfl ?_
  refine Tr.lit1 (E := encSec) (exS pa pc) rfl rfl Try.underlying22 Try.sizeOf63 Try.zeroValue63 (by rfl) (by rfl) rfl (fun V2 => ?_)
  refine Tr.frozen (.here _) (fun F2 hF2 hS => ?_)
  replace hD1 := hD1.mono hF2.blk
  refine Tr.q (QS.assign rfl) rfl ?_
  refine Tr.nil ?_
  refine Tr.thenN ?_
  refine Tr.seq ?_
  refine Tr.region ?_
  refine Tr.q (QS.move rfl) rfl ?_
  refine Tr.lit1 (E := encU32) (4096 : UInt32) rfl rfl Try.underlying23 Try.sizeOf39 Try.zeroValue39 (by rfl) (by rfl) rfl (fun V3 => ?_)
  refine Tr.frozen (.here _) (fun F3 hF3 hE3 => ?_)
  have hS3 := hS.mono hF3.blk
  have hD3 := hD1.mono hF3.blk
  have hdr3 := (hF1.trans (hF2.trans hF3)).dr
  refine Tr.callEnts0 (fun i : ((Value × Value × Value × Value) × CodeP × Int) => .tuple #[.agg #[i.1.1, i.1.2.1, i.1.2.2.1, i.1.2.2.2], .int .i64 i.2.2]) (fun i : ((Value × Value × Value × Value) × CodeP × Int) => [rowE i.1.1 41 encIns i.2.1.ins, rowE i.1.2.1 39 encU32 i.2.1.ents, rowE i.1.2.2.1 39 encU32 i.2.1.unk, rowE i.1.2.2.2 39 encU32 i.2.1.bad]) (ok := fun i => WalkIs [exS pa pc] [] [] [4096] i.2.1 i.2.2) (hdr3) rfl Try.call22 (fun w hw => walk_any [exS pa pc] [] [] [4096] _ _ (.slice none 0 0) (.slice none 0 0) w (hw.slF hS3) ⟨by simp, by simp [exS, exB]⟩ (fun s hs => by simp only [List.mem_singleton] at hs; subst hs; exact hw.slF hD3) (by simp [exS]; decide) (hw.slF hE3) (Sl.nil _ _) (fun t ht => by cases ht) ⟨by simp, fun t ht => by cases ht⟩ (Sl.nil _ _) (by simp [totD, exS, exB]) (by simp)) rfl (fun i hi => ?_)
  obtain ⟨⟨Vi, Ve, Vu, Vb⟩, c, e0⟩ := i
  obtain ⟨hc, he⟩ := ex_walk hi
  replace hc : c = ⟨exI, exE, [], []⟩ := hc
  replace he : e0 = 0 := he
  subst hc he
  change Tr _ _ ([rowE Vi 41 encIns exI, rowE Ve 39 encU32 exE, rowE Vu 39 encU32 [], rowE Vb 39 encU32 []] ++ _) _ _
  refine Tr.rowShape (V := Vi) (by repeat (first | exact List.Mem.head _ | apply List.Mem.tail)) (fun pVi cVi hpv => ?_)
  subst hpv
  refine Tr.rowShape (V := Ve) (by repeat (first | exact List.Mem.head _ | apply List.Mem.tail)) (fun pVe cVe hpv => ?_)
  subst hpv
  refine Tr.rowShape (V := Vu) (by repeat (first | exact List.Mem.head _ | apply List.Mem.tail)) (fun pVu cVu hpv => ?_)
  subst hpv
  refine Tr.rowShape (V := Vb) (by repeat (first | exact List.Mem.head _ | apply List.Mem.tail)) (fun pVb cVb hpv => ?_)
  subst hpv
  have hxi : exI.length = 4 := rfl
  have hxe : exE.length = 2 := rfl
  refine Tr.q (QS.move rfl) rfl ?_
  refine Tr.q (QS.extract rfl rfl) rfl ?_
  refine Tr.q (QS.extract rfl rfl) rfl ?_
  refine Tr.alloc Try.zeroValue31 rfl rfl (fun b4 => ?_)
  refine Tr.storeW rfl rfl Try.sizeOf31 (by repeat (first | exact Put.here _ | apply Put.there)) (by rfl) (by rfl) (by first | exact List.all_eq_true.1 rfl | exact Enc.one _ _ | (intro u hu; simp [Value.cells] at hu; simp_all [Value.oneCell'])) rfl ?_
  refine Tr.q (QS.assign rfl) rfl ?_
  refine Tr.nil ?_
  refine Tr.thenN ?_
  refine Tr.seq ?_
  refine Tr.region ?_
  refine Tr.q (QS.move rfl) rfl ?_
  refine Tr.q (QS.eql rfl rfl) rfl ?_
  refine Tr.q (QS.move rfl) rfl ?_
  apply Tr.andP
  · exact (rfl : _ = (5, 15, 20))
  · exact rfl
  · intro hT5; have hT5' := hT5
    try simp only [bs] at hT5'
    refine Tr.gq rfl rfl hT5 (QS.fieldAddr (off := 0) (ft := 29) rfl Try.underlying31 rfl rfl Try.sizeOf29 (by decide)) rfl ?_
    refine Tr.gq rfl rfl hT5 (QS.lV rfl Try.isAgg29) rfl ?_
    refine Tr.gq rfl rfl hT5 (QS.lenRow rfl (by repeat (first | exact List.Mem.head _ | apply List.Mem.tail)) Try.underlying29) rfl ?_
    refine Tr.gq rfl rfl hT5 (QS.eql rfl rfl) rfl ?_
    refine Tr.q (QS.pickT rfl hT5 rfl) rfl ?_
    refine Tr.nil (Tr.thenN ?_)
    exact Tr.endX (Sub.cons rfl (Sub.dropN 5 (by kernel_rfl) rfl))
  · intro hF5
    refine Tr.gskip rfl rfl hF5 rfl ?_
    refine Tr.gskip rfl rfl hF5 rfl ?_
    refine Tr.gskip rfl rfl hF5 rfl ?_
    refine Tr.gskip rfl rfl hF5 rfl ?_
    refine Tr.q (QS.pickF rfl hF5 rfl) rfl ?_
    refine Tr.nil (Tr.thenN ?_)
    exact Tr.endX (Sub.cons rfl (Sub.dropN 5 (by kernel_rfl) rfl))
  refine Tr.q (QS.move rfl) rfl ?_
  apply Tr.andP
  · exact (rfl : _ = (7, 21, 28))
  · exact rfl
  · intro hT6; have hT6' := hT6
    try simp only [bs] at hT6'
    refine Tr.gq rfl rfl hT6 (QS.fieldAddr (off := 0) (ft := 29) rfl Try.underlying31 rfl rfl Try.sizeOf29 (by decide)) rfl ?_
    refine Tr.gq rfl rfl hT6 (QS.lV rfl Try.isAgg29) rfl ?_
    refine Tr.gq rfl rfl hT6 (QS.idxRow rfl rfl (by repeat (first | exact List.Mem.head _ | apply List.Mem.tail)) Try.underlying29 Try.sizeOf41 (by rfl) (by omega)) rfl ?_
    refine Tr.gq rfl rfl hT6 (QS.elRA rfl (by repeat (first | exact List.Mem.head _ | apply List.Mem.tail)) Try.isAgg41 Try.sizeOf41 (by rfl) (by omega)) rfl ?_
    refine Tr.gq rfl rfl hT6 (QS.build (vs := [(0, _), (1, _), (2, _), (8, _)]) (cs := (encIns.enc (⟨4099, 4106, 23, 0, 0, 0, 0, 0, 5⟩ : Ins)).toArray) rfl rfl (by kernel_rfl)) rfl ?_
    refine Tr.gq rfl rfl hT6 (QS.eqlE rfl rfl insEqEnc Try.underlying41 (HLF.words41 _ Try.underlying41) rfl HLF.held41 HLF.eqg41) rfl ?_
    refine Tr.q (QS.pickT rfl hT6 rfl) rfl ?_
    refine Tr.nil (Tr.thenN ?_)
    exact Tr.endX (Sub.cons rfl (Sub.dropN 7 (by kernel_rfl) rfl))
  · intro hF6
    refine Tr.gskip rfl rfl hF6 rfl ?_
    refine Tr.gskip rfl rfl hF6 rfl ?_
    refine Tr.gskip rfl rfl hF6 rfl ?_
    refine Tr.gskip rfl rfl hF6 rfl ?_
    refine Tr.gskip rfl rfl hF6 rfl ?_
    refine Tr.gskip rfl rfl hF6 rfl ?_
    refine Tr.q (QS.pickF rfl hF6 rfl) rfl ?_
    refine Tr.nil (Tr.thenN ?_)
    exact Tr.endX (Sub.cons rfl (Sub.dropN 7 (by kernel_rfl) rfl))
  refine Tr.q (QS.move rfl) rfl ?_
  apply Tr.andP
  · exact (rfl : _ = (7, 29, 36))
  · exact rfl
  · intro hT7; have hT7' := hT7
    try simp only [bs] at hT7'
    refine Tr.gq rfl rfl hT7 (QS.fieldAddr (off := 0) (ft := 29) rfl Try.underlying31 rfl rfl Try.sizeOf29 (by decide)) rfl ?_
    refine Tr.gq rfl rfl hT7 (QS.lV rfl Try.isAgg29) rfl ?_
    refine Tr.gq rfl rfl hT7 (QS.idxRow rfl rfl (by repeat (first | exact List.Mem.head _ | apply List.Mem.tail)) Try.underlying29 Try.sizeOf41 (by rfl) (by omega)) rfl ?_
    refine Tr.gq rfl rfl hT7 (QS.fieldAddr (off := 0) (ft := 39) rfl Try.underlying41 rfl rfl Try.sizeOf39 (by decide)) rfl ?_
    refine Tr.gq rfl rfl hT7 (QS.elRF rfl (by repeat (first | exact List.Mem.head _ | apply List.Mem.tail)) Try.isAgg39 (by omega) (by rfl)) rfl ?_
    refine Tr.gq rfl rfl hT7 (QS.eql32 (n := 4106) rfl rfl) rfl ?_
    refine Tr.q (QS.pickT rfl hT7 rfl) rfl ?_
    refine Tr.nil (Tr.thenN ?_)
    exact Tr.endX (Sub.cons rfl (Sub.dropN 7 (by kernel_rfl) rfl))
  · intro hF7
    refine Tr.gskip rfl rfl hF7 rfl ?_
    refine Tr.gskip rfl rfl hF7 rfl ?_
    refine Tr.gskip rfl rfl hF7 rfl ?_
    refine Tr.gskip rfl rfl hF7 rfl ?_
    refine Tr.gskip rfl rfl hF7 rfl ?_
    refine Tr.gskip rfl rfl hF7 rfl ?_
    refine Tr.q (QS.pickF rfl hF7 rfl) rfl ?_
    refine Tr.nil (Tr.thenN ?_)
    exact Tr.endX (Sub.cons rfl (Sub.dropN 7 (by kernel_rfl) rfl))
  refine Tr.q (QS.move rfl) rfl ?_
  apply Tr.andP
  · exact (rfl : _ = (5, 37, 42))
  · exact rfl
  · intro hT8; have hT8' := hT8
    try simp only [bs] at hT8'
    refine Tr.gq rfl rfl hT8 (QS.fieldAddr (off := 1) (ft := 23) rfl Try.underlying31 rfl rfl Try.sizeOf23 (by decide)) rfl ?_
    refine Tr.gq rfl rfl hT8 (QS.lV rfl Try.isAgg23) rfl ?_
    refine Tr.gq rfl rfl hT8 (QS.lenRow rfl (by repeat (first | exact List.Mem.head _ | apply List.Mem.tail)) Try.underlying23) rfl ?_
    refine Tr.gq rfl rfl hT8 (QS.eql rfl rfl) rfl ?_
    refine Tr.q (QS.pickT rfl hT8 rfl) rfl ?_
    refine Tr.nil (Tr.thenN ?_)
    exact Tr.endX (Sub.cons rfl (Sub.dropN 5 (by kernel_rfl) rfl))
  · intro hF8
    refine Tr.gskip rfl rfl hF8 rfl ?_
    refine Tr.gskip rfl rfl hF8 rfl ?_
    refine Tr.gskip rfl rfl hF8 rfl ?_
    refine Tr.gskip rfl rfl hF8 rfl ?_
    refine Tr.q (QS.pickF rfl hF8 rfl) rfl ?_
    refine Tr.nil (Tr.thenN ?_)
    exact Tr.endX (Sub.cons rfl (Sub.dropN 5 (by kernel_rfl) rfl))
  refine Tr.q (QS.move rfl) rfl ?_
  apply Tr.andP
  · exact (rfl : _ = (6, 43, 49))
  · exact rfl
  · intro hT9; have hT9' := hT9
    try simp only [bs] at hT9'
    refine Tr.gq rfl rfl hT9 (QS.fieldAddr (off := 1) (ft := 23) rfl Try.underlying31 rfl rfl Try.sizeOf23 (by decide)) rfl ?_
    refine Tr.gq rfl rfl hT9 (QS.lV rfl Try.isAgg23) rfl ?_
    refine Tr.gq rfl rfl hT9 (QS.idxRow rfl rfl (by repeat (first | exact List.Mem.head _ | apply List.Mem.tail)) Try.underlying23 Try.sizeOf39 (by rfl) (by omega)) rfl ?_
    refine Tr.gq rfl rfl hT9 (QS.elR1 rfl (by repeat (first | exact List.Mem.head _ | apply List.Mem.tail)) Try.isAgg39 (by omega) (by rfl)) rfl ?_
    refine Tr.gq rfl rfl hT9 (QS.eql32 (n := 4096) rfl rfl) rfl ?_
    refine Tr.q (QS.pickT rfl hT9 rfl) rfl ?_
    refine Tr.nil (Tr.thenN ?_)
    exact Tr.endX (Sub.cons rfl (Sub.dropN 6 (by kernel_rfl) rfl))
  · intro hF9
    refine Tr.gskip rfl rfl hF9 rfl ?_
    refine Tr.gskip rfl rfl hF9 rfl ?_
    refine Tr.gskip rfl rfl hF9 rfl ?_
    refine Tr.gskip rfl rfl hF9 rfl ?_
    refine Tr.gskip rfl rfl hF9 rfl ?_
    refine Tr.q (QS.pickF rfl hF9 rfl) rfl ?_
    refine Tr.nil (Tr.thenN ?_)
    exact Tr.endX (Sub.cons rfl (Sub.dropN 6 (by kernel_rfl) rfl))
  refine Tr.q (QS.move rfl) rfl ?_
  apply Tr.andP
  · exact (rfl : _ = (6, 50, 56))
  · exact rfl
  · intro hT10; have hT10' := hT10
    try simp only [bs] at hT10'
    refine Tr.gq rfl rfl hT10 (QS.fieldAddr (off := 1) (ft := 23) rfl Try.underlying31 rfl rfl Try.sizeOf23 (by decide)) rfl ?_
    refine Tr.gq rfl rfl hT10 (QS.lV rfl Try.isAgg23) rfl ?_
    refine Tr.gq rfl rfl hT10 (QS.idxRow rfl rfl (by repeat (first | exact List.Mem.head _ | apply List.Mem.tail)) Try.underlying23 Try.sizeOf39 (by rfl) (by omega)) rfl ?_
    refine Tr.gq rfl rfl hT10 (QS.elR1 rfl (by repeat (first | exact List.Mem.head _ | apply List.Mem.tail)) Try.isAgg39 (by omega) (by rfl)) rfl ?_
    refine Tr.gq rfl rfl hT10 (QS.eql32 (n := 4106) rfl rfl) rfl ?_
    refine Tr.q (QS.pickT rfl hT10 rfl) rfl ?_
    refine Tr.nil (Tr.thenN ?_)
    exact Tr.endX (Sub.cons rfl (Sub.dropN 6 (by kernel_rfl) rfl))
  · intro hF10
    refine Tr.gskip rfl rfl hF10 rfl ?_
    refine Tr.gskip rfl rfl hF10 rfl ?_
    refine Tr.gskip rfl rfl hF10 rfl ?_
    refine Tr.gskip rfl rfl hF10 rfl ?_
    refine Tr.gskip rfl rfl hF10 rfl ?_
    refine Tr.q (QS.pickF rfl hF10 rfl) rfl ?_
    refine Tr.nil (Tr.thenN ?_)
    exact Tr.endX (Sub.cons rfl (Sub.dropN 6 (by kernel_rfl) rfl))
  refine Tr.q (QS.move rfl) rfl ?_
  apply Tr.andP
  · exact (rfl : _ = (9, 57, 66))
  · exact rfl
  · intro hT11; have hT11' := hT11
    try simp only [bs] at hT11'
    refine Tr.gq rfl rfl hT11 (QS.fieldAddr (off := 2) (ft := 23) rfl Try.underlying31 rfl rfl Try.sizeOf23 (by decide)) rfl ?_
    refine Tr.gq rfl rfl hT11 (QS.lV rfl Try.isAgg23) rfl ?_
    refine Tr.gq rfl rfl hT11 (QS.lenRow rfl (by repeat (first | exact List.Mem.head _ | apply List.Mem.tail)) Try.underlying23) rfl ?_
    refine Tr.gq rfl rfl hT11 (QS.fieldAddr (off := 3) (ft := 23) rfl Try.underlying31 rfl rfl Try.sizeOf23 (by decide)) rfl ?_
    refine Tr.gq rfl rfl hT11 (QS.lV rfl Try.isAgg23) rfl ?_
    refine Tr.gq rfl rfl hT11 (QS.lenRow rfl (by repeat (first | exact List.Mem.head _ | apply List.Mem.tail)) Try.underlying23) rfl ?_
    refine Tr.gq rfl rfl hT11 (QS.add rfl rfl) rfl ?_
    refine Tr.gq rfl rfl hT11 (QS.eql rfl rfl) rfl ?_
    refine Tr.q (QS.pickT rfl hT11 rfl) rfl ?_
    refine Tr.nil (Tr.thenN ?_)
    exact Tr.endX (Sub.cons rfl (Sub.dropN 9 (by kernel_rfl) rfl))
  · intro hF11
    refine Tr.gskip rfl rfl hF11 rfl ?_
    refine Tr.gskip rfl rfl hF11 rfl ?_
    refine Tr.gskip rfl rfl hF11 rfl ?_
    refine Tr.gskip rfl rfl hF11 rfl ?_
    refine Tr.gskip rfl rfl hF11 rfl ?_
    refine Tr.gskip rfl rfl hF11 rfl ?_
    refine Tr.gskip rfl rfl hF11 rfl ?_
    refine Tr.gskip rfl rfl hF11 rfl ?_
    refine Tr.q (QS.pickF rfl hF11 rfl) rfl ?_
    refine Tr.nil (Tr.thenN ?_)
    exact Tr.endX (Sub.cons rfl (Sub.dropN 9 (by kernel_rfl) rfl))
  refine Tr.q (QS.move rfl) rfl ?_
  apply Tr.andP
  · exact (rfl : _ = (3, 67, 70))
  · exact rfl
  · intro hT12; have hT12' := hT12
    try simp only [bs] at hT12'
    refine Tr.gq rfl rfl hT12 (QS.lW rfl Try.isAgg31 Try.sizeOf31) rfl ?_
    refine Tr.gq rfl rfl hT12 (QS.call rfl Try.call21 (fun w hw => dreach_any exI 4104 _ _ _ _ w (hw.row (by repeat (first | exact List.Mem.head _ | apply List.Mem.tail))))) rfl ?_
    refine Tr.q (QS.pickT rfl hT12 rfl) rfl ?_
    refine Tr.nil (Tr.thenN ?_)
    exact Tr.endX (Sub.cons rfl (Sub.dropN 3 (by kernel_rfl) rfl))
  · intro hF12
    refine Tr.gskip rfl rfl hF12 rfl ?_
    refine Tr.gskip rfl rfl hF12 rfl ?_
    refine Tr.q (QS.pickF rfl hF12 rfl) rfl ?_
    refine Tr.nil (Tr.thenN ?_)
    exact Tr.endX (Sub.cons rfl (Sub.dropN 3 (by kernel_rfl) rfl))
  refine Tr.q (QS.move rfl) rfl ?_
  apply Tr.andP
  · exact (rfl : _ = (4, 71, 75))
  · exact rfl
  · intro hT13; have hT13' := hT13
    try simp only [bs] at hT13'
    refine Tr.gq rfl rfl hT13 (QS.lW rfl Try.isAgg31 Try.sizeOf31) rfl ?_
    refine Tr.gq rfl rfl hT13 (QS.call rfl Try.call21 (fun w hw => dreach_any exI 4098 _ _ _ _ w (hw.row (by repeat (first | exact List.Mem.head _ | apply List.Mem.tail))))) rfl ?_
    refine Tr.gq rfl rfl hT13 (QS.not rfl) rfl ?_
    refine Tr.q (QS.pickT rfl hT13 rfl) rfl ?_
    refine Tr.nil (Tr.thenN ?_)
    exact Tr.endX (Sub.cons rfl (Sub.dropN 4 (by kernel_rfl) rfl))
  · intro hF13
    refine Tr.gskip rfl rfl hF13 rfl ?_
    refine Tr.gskip rfl rfl hF13 rfl ?_
    refine Tr.gskip rfl rfl hF13 rfl ?_
    refine Tr.q (QS.pickF rfl hF13 rfl) rfl ?_
    refine Tr.nil (Tr.thenN ?_)
    exact Tr.endX (Sub.cons rfl (Sub.dropN 4 (by kernel_rfl) rfl))
  refine Tr.q (QS.assign rfl) rfl ?_
  refine Tr.nil ?_
  refine Tr.thenN ?_
  refine Tr.ret ?_
  refine Tr.ret1 Try.results11 rfl (fun w' hw => ?_)
  exact ⟨by first | rfl | (simp; decide), hw.below0 (hF1.trans (hF2.trans hF3))⟩
end Go.Proofs.Ytnmaokalpbnmaaa
namespace Go.Proofs.Ytnmaokalpbnmaaa
open Go Go.HL Go.RowKit
set_option maxRecDepth 100000 in
set_option maxHeartbeats 2000000 in
theorem succ12_any (i : Ins) (w : World) (hI : InsOK i) :
    Calls Try.prog 25 #[.agg (encIns.enc i).toArray] w (fun e w' => ∃ V', e = .returned V' ∧ Ext w w' ∧ NewRow w w' 39 encU32 (succP i) V') := by
  refine enter Try.func25 rfl Try.ntmps25 rfl ?_
  refine Tr.seq ?_
  refine Tr.region ?_
  refine Tr.box rfl rfl rfl (fun b1 => ?_)
  refine Tr.q (QS.assign rfl) rfl ?_
  refine Tr.nil ?_
  refine Tr.thenN ?_
  refine Tr.seq ?_
  refine Tr.ownNil 39 encU32 ?_
  refine Tr.region ?_
  refine Tr.q (QS.assign rfl) rfl ?_
  refine Tr.nil ?_
  refine Tr.thenN ?_
  refine Tr.seq ?_
  refine Tr.seq ?_
  refine Tr.region ?_
  refine Tr.q (QS.lW rfl Try.isAgg41 Try.sizeOf41) rfl ?_
  refine Tr.q (QS.call rfl Try.call49 (fun w hw => (show Calls Try.prog 49 #[.agg (encIns.enc i).toArray] w (fun e w' => e = .returned (.bool (decide (errP i = 0))) ∧ Ext w w') from by rw [← err_ref]; exact refValid_any i w))) rfl ?_
  refine Tr.q (QS.not rfl) rfl ?_
  refine Tr.nil ?_
  refine Tr.thenN ?_
  refine Tr.cond rfl (fun h2 => ?_) (fun h2 => ?_)
  · try simp only [bs] at h2
    refine Tr.seq ?_
    refine Tr.region ?_
    refine Tr.q (QS.move rfl) rfl ?_
    refine Tr.q (QS.assign rfl) rfl ?_
    refine Tr.nil ?_
    refine Tr.thenN ?_
    refine Tr.ret ?_
    refine Tr.thenR ?_
    refine Tr.ret1 Try.results25 rfl (fun w' hw => ?_)
    exact ⟨_, rfl, hw.below (Bg.le.refl _), by rw [show succP i = [] by unfold succP; rw [if_neg (by simp_all)]]; exact hw.new (.head _)⟩
  · try simp only [bs] at h2
    refine Tr.skip ?_
    refine Tr.thenN ?_
    refine Tr.seq ?_
    refine Tr.region ?_
    refine Tr.q (QS.lW rfl Try.isAgg41 Try.sizeOf41) rfl ?_
    refine Tr.q (QS.call rfl Try.call50 (fun w hw => refTarget_any i w)) rfl ?_
    refine Tr.q (QS.move rfl) rfl ?_
    refine Tr.q (QS.extract rfl rfl) rfl ?_
    refine Tr.q (QS.extract rfl rfl) rfl ?_
    refine Tr.q (QS.assign rfl) rfl ?_
    refine Tr.q (QS.assign rfl) rfl ?_
    refine Tr.nil ?_
    refine Tr.thenN ?_
    refine Tr.seqJ (ι := Value) (fun V1 => True) (fun _ => Bg.of w) (fun V1 => [rowE V1 39 encU32 (if (targetP i).2 = true then [(targetP i).1] else []), cellE b1 (encIns.enc i) 41]) (fun V1 => [(3, V1)]) ?_ (fun V1 hi => ?_)
    · skip
      refine Tr.seq ?_
      refine Tr.region ?_
      refine Tr.q (QS.move rfl) rfl ?_
      refine Tr.nil ?_
      refine Tr.thenN ?_
      refine Tr.cond rfl (fun h3 => ?_) (fun h3 => ?_)
      · try simp only [bs] at h3
        refine Tr.region ?_
        refine Tr.q (QS.move rfl) rfl ?_
        refine Tr.q (QS.move rfl) rfl ?_
        refine Tr.lit1 (E := encU32) (targetP i).1 rfl rfl Try.underlying23 Try.sizeOf39 Try.zeroValue39 (by rfl) (by rfl) rfl (fun V4 => ?_)
        refine Tr.append1 rfl rfl (by repeat (first | exact Del.here _ | apply Del.there)) (by repeat (first | exact Del.here _ | apply Del.there)) Try.underlying23 HLF.info39 (by rfl) (by rfl) (by (try simp only [List.length_cons, List.length_nil, List.length_append, List.length_take]); omega) (by unfold maxLen; (try simp only [List.length_cons, List.length_nil, List.length_append, List.length_take]); omega) rfl (fun V5 => ?_)
        refine Tr.q (QS.assign rfl) rfl ?_
        refine Tr.nil ?_
        refine Tr.thenN ?_
        refine Tr.rowEq (l' := if (targetP i).2 = true then [(targetP i).1] else []) (by rw [if_pos (by assumption)]; rfl) ?_
        apply Tr.joined _
        · exact rfl
        · exact (.cons (by first | rfl | exact lookI rfl (by omega) | exact lookI rfl (by simp) | exact lookB rfl (by simp)) Front.nil)
        · exact SubX.dropN 6 (by kernel_rfl) rfl
        · exact (by repeat' (first | exact Pick.nil _ | exact Del.here _ | apply Pick.cons | apply Del.there))
        · exact trivial
      · try simp only [bs] at h3
        refine Tr.skip ?_
        refine Tr.thenN ?_
        refine Tr.rowEq (l' := if (targetP i).2 = true then [(targetP i).1] else []) (by rw [if_neg (by simp_all)]) ?_
        apply Tr.joined _
        · exact rfl
        · exact (.cons (by first | rfl | exact lookI rfl (by omega) | exact lookI rfl (by simp) | exact lookB rfl (by simp)) Front.nil)
        · exact SubX.dropN 1 (by kernel_rfl) rfl
        · exact (by repeat' (first | exact Pick.nil _ | exact Del.here _ | apply Pick.cons | apply Del.there))
        · exact trivial
    · skip
      replace hi : True := hi
      change Tr _ _ [rowE V1 39 encU32 (if (targetP i).2 = true then [(targetP i).1] else []), cellE b1 (encIns.enc i) 41] ([(3, V1)] ++ _) _
      have htl : (if (targetP i).2 = true then [(targetP i).1] else []).length ≤ 1 := by split <;> simp
      refine Tr.seqJ (ι := Value) (fun V2 => True) (fun _ => Bg.of w) (fun V2 => [rowE V2 39 encU32 ((if (targetP i).2 = true then [(targetP i).1] else []) ++ (if endsP i = true then [] else [nextP i])), cellE b1 (encIns.enc i) 41]) (fun V2 => [(3, V2)]) ?_ (fun V2 hi => ?_)
      · skip
        refine Tr.seq ?_
        refine Tr.region ?_
        refine Tr.q (QS.lW rfl Try.isAgg41 Try.sizeOf41) rfl ?_
        refine Tr.q (QS.call rfl Try.call51 (fun w hw => refEnds_any i w)) rfl ?_
        refine Tr.q (QS.not rfl) rfl ?_
        refine Tr.nil ?_
        refine Tr.thenN ?_
        refine Tr.cond rfl (fun h6 => ?_) (fun h6 => ?_)
        · try simp only [bs] at h6
          refine Tr.region ?_
          refine Tr.q (QS.move rfl) rfl ?_
          refine Tr.q (QS.lW rfl Try.isAgg41 Try.sizeOf41) rfl ?_
          refine Tr.q (QS.call rfl Try.call52 (fun w hw => (show Calls Try.prog 52 #[.agg (encIns.enc i).toArray] w (fun e w' => e = .returned (.int .u32 (nextP i).toNat) ∧ Ext w w') from by rw [show nextP i = i.addr + u32 (refLenP i) by rw [len_ref]; rfl]; exact refNext_any i w hI))) rfl ?_
          refine Tr.lit1 (E := encU32) (nextP i) rfl rfl Try.underlying23 Try.sizeOf39 Try.zeroValue39 (by rfl) (by rfl) rfl (fun V7 => ?_)
          refine Tr.append1 rfl rfl (by repeat (first | exact Del.here _ | apply Del.there)) (by repeat (first | exact Del.here _ | apply Del.there)) Try.underlying23 HLF.info39 (by rfl) (by rfl) (by (try simp only [List.length_cons, List.length_nil, List.length_append, List.length_take]); omega) (by unfold maxLen; (try simp only [List.length_cons, List.length_nil, List.length_append, List.length_take]); omega) rfl (fun V8 => ?_)
          refine Tr.q (QS.assign rfl) rfl ?_
          refine Tr.nil ?_
          refine Tr.thenN ?_
          refine Tr.rowEq (l' := (if (targetP i).2 = true then [(targetP i).1] else []) ++ (if endsP i = true then [] else [nextP i])) (by rw [if_neg (c := endsP i = true) (by simp_all)]) ?_
          apply Tr.joined _
          · exact rfl
          · exact (.cons (by first | rfl | exact lookI rfl (by omega) | exact lookI rfl (by simp) | exact lookB rfl (by simp)) Front.nil)
          · exact SubX.dropN 9 (by kernel_rfl) rfl
          · exact (by repeat' (first | exact Pick.nil _ | exact Del.here _ | apply Pick.cons | apply Del.there))
          · exact trivial
        · try simp only [bs] at h6
          refine Tr.skip ?_
          refine Tr.thenN ?_
          refine Tr.rowEq (l' := (if (targetP i).2 = true then [(targetP i).1] else []) ++ (if endsP i = true then [] else [nextP i])) (by rw [if_pos (c := endsP i = true) (by simp_all), List.append_nil]) ?_
          apply Tr.joined _
          · exact rfl
          · exact (.cons (by first | rfl | exact lookI rfl (by omega) | exact lookI rfl (by simp) | exact lookB rfl (by simp)) Front.nil)
          · exact SubX.dropN 3 (by kernel_rfl) rfl
          · exact (by repeat' (first | exact Pick.nil _ | exact Del.here _ | apply Pick.cons | apply Del.there))
          · exact trivial
      · skip
        replace hi : True := hi
        change Tr _ _ [rowE V2 39 encU32 ((if (targetP i).2 = true then [(targetP i).1] else []) ++ (if endsP i = true then [] else [nextP i])), cellE b1 (encIns.enc i) 41] ([(3, V2)] ++ _) _
        refine Tr.seq ?_
        refine Tr.region ?_
        refine Tr.q (QS.move rfl) rfl ?_
        refine Tr.q (QS.assign rfl) rfl ?_
        refine Tr.nil ?_
        refine Tr.thenN ?_
        refine Tr.ret ?_
        refine Tr.ret1 Try.results25 rfl (fun w' hw => ?_)
        exact ⟨_, rfl, hw.below (Bg.le.refl _), by rw [show succP i = _ by unfold succP; rw [if_pos (by simp_all)]]; exact hw.new (.head _)⟩
set_option maxRecDepth 100000 in
set_option maxHeartbeats 4000000 in
theorem successors12_true (i : Ins) (w : World) (hI : InsOK i) :
    Calls Try.prog 7 #[.agg (encIns.enc i).toArray] w (fun e w' => e = .returned (.bool true) ∧ Below w.heap.size w w') := by
  have hsl := succ_len i
  refine enter0 Try.func7 rfl Try.ntmps7 rfl ?_
  refine Tr.seq ?_
  refine Tr.region ?_
  refine Tr.box rfl rfl rfl (fun b1 => ?_)
  refine Tr.q (QS.assign rfl) rfl ?_
  refine Tr.nil ?_
  refine Tr.thenN ?_
  refine Tr.seqJ (ι := Value × Value) (fun ⟨VA, VB⟩ => True) (fun _ => Bg.of0 w) (fun ⟨VA, VB⟩ => [rowE VB 39 encU32 (succP i), rowE VA 39 encU32 (succP i), cellE b1 (encIns.enc i) 41]) (fun ⟨VA, VB⟩ => [(3, VA), (4, VB)]) ?_ (fun i hi => ?_)
  · skip
    refine Tr.regionH ([cellE b1 (encIns.enc i) 41]) 6 rfl HLF.mixed ?_
    refine Tr.hT 0 rfl (by kernel_rfl) (panicThen panicBody) (QS.lW rfl Try.isAgg41 Try.sizeOf41) ?_
    refine Tr.hT 2 rfl (by kernel_rfl) (panicThen panicBody) (QS.lW rfl Try.isAgg41 Try.sizeOf41) ?_
    refine Tr.hAll [1] (by kernel_rfl) (by simp) (fun iq hq => ?_)
    obtain rfl := List.mem_singleton.1 hq
    refine Tr.hOp rfl ?_
    refine Tr.callRow rfl Try.call17 (fun w hw => succ_any i w hI) rfl (fun V2 => ?_)
    refine Tr.hN ?_
    refine Tr.hAll [3] (by kernel_rfl) (by simp) (fun iq hq => ?_)
    obtain rfl := List.mem_singleton.1 hq
    refine Tr.hOp rfl ?_
    refine Tr.callRow rfl Try.call25 (fun w hw => succ12_any i w hI) rfl (fun V3 => ?_)
    refine Tr.hN ?_
    refine Tr.hT 4 rfl (by kernel_rfl) (panicThen panicBody) (QS.assign rfl) ?_
    refine Tr.hT 5 rfl (by kernel_rfl) (panicThen panicBody) (QS.assign rfl) ?_
    refine Tr.hDone (by kernel_rfl) ?_
    refine Tr.thenN ?_
    apply Tr.joined (_, _)
    · exact rfl
    · exact (.cons (by first | rfl | exact lookI rfl (by omega) | exact lookI rfl (by simp) | exact lookB rfl (by simp)) (.cons (by first | rfl | exact lookI rfl (by omega) | exact lookI rfl (by simp) | exact lookB rfl (by simp)) Front.nil))
    · exact SubX.dropN 6 (by kernel_rfl) rfl
    · exact (by repeat' (first | exact Pick.nil _ | exact Del.here _ | apply Pick.cons | apply Del.there))
    · exact trivial
  · obtain ⟨VA, VB⟩ := i
    replace hi : True := hi
    change Tr _ _ [rowE VB 39 encU32 (succP i), rowE VA 39 encU32 (succP i), cellE b1 (encIns.enc i) 41] ([(3, VA), (4, VB)] ++ _) _
    refine Tr.seq ?_
    refine Tr.seq ?_
    refine Tr.region ?_
    refine Tr.q (QS.move rfl) rfl ?_
    refine Tr.q (QS.lenRow rfl (by repeat (first | exact List.Mem.head _ | apply List.Mem.tail)) Try.underlying23) rfl ?_
    refine Tr.q (QS.move rfl) rfl ?_
    refine Tr.q (QS.lenRow rfl (by repeat (first | exact List.Mem.head _ | apply List.Mem.tail)) Try.underlying23) rfl ?_
    refine Tr.q (QS.neq rfl rfl) rfl ?_
    refine Tr.nil ?_
    refine Tr.thenN ?_
    refine Tr.cond rfl (fun h4 => ?_) (fun h4 => ?_)
    · try simp only [bs] at h4
      first | contradiction | (exfalso; omega) | simp_all
    · try simp only [bs] at h4
      refine Tr.skip ?_
      refine Tr.thenN ?_
      refine Tr.seq ?_
      refine Tr.seq ?_
      refine Tr.region ?_
      refine Tr.q (QS.assign rfl) rfl ?_
      refine Tr.nil ?_
      refine Tr.thenN ?_
      refine Tr.block ?_
      refine Tr.loop (ι := Nat) (fun k => k ≤ (succP i).length) (fun _ => _) (fun k => [rowE VB 39 encU32 (succP i), rowE VA 39 encU32 (succP i), cellE b1 (encIns.enc i) 41]) (fun k => [(5, .int .i64 (k : Nat))]) (fun k => (succP i).length - k) 0 (Nat.zero_le _) (.cons (by first | rfl | exact lookI rfl (by omega) | exact lookI rfl (by simp) | exact lookB rfl (by simp)) Front.nil) (by repeat' (first | exact Pick.nil _ | exact Del.here _ | apply Pick.cons | apply Del.there)) rfl (fun k hi m hm => ?_)
      replace hi : k ≤ (succP i).length := hi
      replace hm : m = (succP i).length - k := hm
      change Tr _ _ [rowE VB 39 encU32 (succP i), rowE VA 39 encU32 (succP i), cellE b1 (encIns.enc i) 41] ([(5, .int .i64 (k : Nat))] ++ _) _
      refine Tr.seq ?_
      refine Tr.seq ?_
      refine Tr.region ?_
      refine Tr.q (QS.move rfl) rfl ?_
      refine Tr.q (QS.move rfl) rfl ?_
      refine Tr.q (QS.lenRow rfl (by repeat (first | exact List.Mem.head _ | apply List.Mem.tail)) Try.underlying23) rfl ?_
      refine Tr.q (QS.lss rfl rfl) rfl ?_
      refine Tr.nil ?_
      refine Tr.thenN ?_
      refine Tr.cond rfl (fun h5 => ?_) (fun h5 => ?_)
      · try simp only [bs] at h5
        refine Tr.skip ?_
        refine Tr.thenN ?_
        refine Tr.seq ?_
        refine Tr.block ?_
        refine Tr.seq ?_
        refine Tr.regionQ HLF.mixed (by kernel_rfl) ?_
        refine TrQ.q (QS.move rfl) rfl ?_
        refine TrQ.q (QS.move rfl) rfl ?_
        refine TrQ.q (QS.idxRowN rfl rfl (by repeat (first | exact List.Mem.head _ | apply List.Mem.tail)) Try.underlying23 Try.sizeOf39 (by rfl) (by omega)) rfl ?_
        refine TrQ.q (QS.elR1 rfl (by repeat (first | exact List.Mem.head _ | apply List.Mem.tail)) Try.isAgg39 (by omega) (by rfl)) rfl ?_
        refine TrQ.q (QS.move rfl) rfl ?_
        refine TrQ.q (QS.move rfl) rfl ?_
        refine TrQ.q (QS.idxRowN rfl rfl (by repeat (first | exact List.Mem.head _ | apply List.Mem.tail)) Try.underlying23 Try.sizeOf39 (by rfl) (by omega)) rfl ?_
        refine TrQ.q (QS.elR1 rfl (by repeat (first | exact List.Mem.head _ | apply List.Mem.tail)) Try.isAgg39 (by omega) (by rfl)) rfl ?_
        refine TrQ.q (QS.neq32 rfl rfl) rfl ?_
        refine TrQ.nil ?_
        refine Tr.thenN ?_
        refine Tr.cond rfl (fun h6 => ?_) (fun h6 => ?_)
        · try simp only [bs] at h6
          first | contradiction | (exfalso; omega) | simp_all
        · try simp only [bs] at h6
          refine Tr.skip ?_
          refine Tr.inN ?_
          refine Tr.thenN ?_
          refine Tr.region ?_
          refine Tr.q (QS.move rfl) rfl ?_
          refine Tr.q (QS.addI rfl rfl (by omega)) rfl ?_
          refine Tr.q (QS.assign rfl) rfl ?_
          refine Tr.nil ?_
          refine Tr.thenN ?_
          apply Tr.again (k + 1)
          · exact rfl
          · exact (.cons (by first | rfl | exact lookI rfl (by omega) | exact lookI rfl (by simp) | exact lookB rfl (by simp)) Front.nil)
          · exact SubX.dropN 17 (by kernel_rfl) rfl
          · exact (by repeat' (first | exact Pick.nil _ | exact Del.here _ | apply Pick.cons | apply Del.there))
          · exact (by show k + 1 ≤ _; omega)
          · exact (by (try dsimp only); omega)
      · try simp only [bs] at h5
        refine Tr.exit ?_
        refine Tr.thenE ?_
        refine Tr.thenE ?_
        refine Tr.inHit ?_
        refine Tr.thenN ?_
        refine Tr.seq ?_
        refine Tr.region ?_
        refine Tr.q (QS.call0 rfl rfl Try.call11 (fun w hw => example12_any w)) rfl ?_
        refine Tr.q (QS.assign rfl) rfl ?_
        refine Tr.nil ?_
        refine Tr.thenN ?_
        refine Tr.ret ?_
        refine Tr.ret1 Try.results7 rfl (fun w' hw => ?_)
        exact ⟨rfl, hw.below0 (Bg.le.refl _)⟩
end Go.Proofs.Ytnmaokalpbnmaaa
namespace Go.HL
open Go Go.Deep Go.ChangeShapes Go.WideShapes
section
variable {H : Type} {enc : TypeId × Value → H} {P : Program} {w : World} {base : Nat} {spare : Nat → Bool} {held : Bool}
theorem u32_of_wf {n : Int} (h : (Lit.int .u32 n).wf = true) : ∃ x : UInt32, n = (x.toNat : Int) := by
  have := bounds_u32 h
  refine ⟨UInt32.ofNat n.toNat, ?_⟩
  rw [UInt32.toNat_ofNat']; omega
end
end Go.HL
namespace Go.HL
open Go Go.Deep Go.ChangeShapes Go.WideShapes
section
variable {H : Type} {enc : TypeId × Value → H} {P : Program} {w : World} {base : Nat} {spare : Nat → Bool} {held : Bool}
theorem flat_ins {e t0 t1 : TypeId} {f0 f1 f2 f3 f4 f5 f6 f7 f8 : Field} (he : P.underlying e = some (.struct #[f0, f1, f2, f3, f4, f5, f6, f7, f8]))
    (ho : [f0.offset, f1.offset, f2.offset, f3.offset, f4.offset, f5.offset, f6.offset, f7.offset, f8.offset] = [0, 1, 2, 3, 4, 5, 6, 7, 8])
    (ht : [f0.type, f1.type, f2.type, f3.type, f4.type, f5.type, f6.type, f7.type, f8.type] = [t0, t0, t1, t1, t1, t1, t1, t1, t1])
    (c0 : P.cellsOf t0 = 1) (c1 : P.cellsOf t1 = 1) (u0 : P.underlying t0 = some (.int .u32)) (u1 : P.underlying t1 = some (.int .i64))
    {n : Nat} {cs : List Value} {y : DataW H × List MemPlace} (hl : cs.length = 9) (h : DataW.trod enc P w base spare held n e cs = some y) : ∃ i, cs = encIns.enc i ∧ InsOK i := by
  simp only [List.cons.injEq, and_true] at ho ht
  obtain ⟨o0, o1, o2, o3, o4, o5, o6, o7, o8⟩ := ho
  obtain ⟨t0', t1', t2', t3', t4', t5', t6', t7', t8'⟩ := ht
  obtain ⟨xs, k, hk, hxy, _, hxl, hf⟩ := DataW.trod_struct he h
  match xs, hxl, cs, hl with
  | [y0, y1, y2, y3, y4, y5, y6, y7, y8], _, [v0, v1, v2, v3, v4, v5, v6, v7, v8], _ =>
    have g0 := hf 0 f0 rfl
    have g1 := hf 1 f1 rfl
    have g2 := hf 2 f2 rfl
    have g3 := hf 3 f3 rfl
    have g4 := hf 4 f4 rfl
    have g5 := hf 5 f5 rfl
    have g6 := hf 6 f6 rfl
    have g7 := hf 7 f7 rfl
    have g8 := hf 8 f8 rfl
    simp [o0, o1, o2, o3, o4, o5, o6, o7, o8, t0', t1', t2', t3', t4', t5', t6', t7', t8', c0, c1] at g0 g1 g2 g3 g4 g5 g6 g7 g8
    obtain ⟨z0, e0, _, w0⟩ := DataW.trod_int u0 g0
    obtain ⟨z1, e1, _, w1⟩ := DataW.trod_int u0 g1
    obtain ⟨z2, e2, _, w2⟩ := DataW.trod_int u1 g2
    obtain ⟨z3, e3, _, w3⟩ := DataW.trod_int u1 g3
    obtain ⟨z4, e4, _, w4⟩ := DataW.trod_int u1 g4
    obtain ⟨z5, e5, _, w5⟩ := DataW.trod_int u1 g5
    obtain ⟨z6, e6, _, w6⟩ := DataW.trod_int u1 g6
    obtain ⟨z7, e7, _, w7⟩ := DataW.trod_int u1 g7
    obtain ⟨z8, e8, _, w8⟩ := DataW.trod_int u1 g8
    obtain ⟨x0, rfl⟩ := u32_of_wf w0
    obtain ⟨x1, rfl⟩ := u32_of_wf w1
    simp only [List.cons.injEq, and_true] at e0 e1 e2 e3 e4 e5 e6 e7 e8
    subst e0; subst e1; subst e2; subst e3; subst e4; subst e5; subst e6; subst e7; subst e8
    have b2 := bounds_i64 w2
    have b3 := bounds_i64 w3
    have b4 := bounds_i64 w4
    have b5 := bounds_i64 w5
    have b6 := bounds_i64 w6
    have b7 := bounds_i64 w7
    have b8 := bounds_i64 w8
    exact ⟨⟨x0, x1, z2, z3, z4, z5, z6, z7, z8⟩, rfl, ⟨b2, b3, b4, b5, b6, b7, b8⟩⟩
theorem agg_of {cs : Array Value} {l : List Value} (h : (Value.agg cs).cells.toList = l) : cs = l.toArray := by
  subst h; simp [Value.cells]
end
end Go.HL
