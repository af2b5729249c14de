/- Reads and Writes of package isa. -/
import Derived.Test.YtohjofdnapbeiaaWm
import Derived.Test.YtohjofdnapbeiaaHj
import Derived.Test.YtohjofdnapbeiaaSh
import Derived.Test.YtohjofdnapbeiaaIh
set_option linter.unusedSimpArgs false
set_option linter.unusedVariables false
namespace Go.Proofs.Ytohjofdnapbeiaa
open Go Go.HL Go.RowKit

set_option maxRecDepth 100000 in
set_option maxHeartbeats 2000000 in
theorem condFlags_any (cc : Int) (w : World) (hc : 0 ≤ cc ∧ cc ≤ 14) :
    Calls Try.prog 44 #[.int .i64 cc] w (fun e w' => ∃ V, e = .returned V ∧ Ext w w' ∧ NewRow w w' 3 encInt (condFlagsP cc) V) := by
  refine enter Try.func44 rfl Try.ntmps44 rfl ?_
  refine Tr.seq ?_
  refine Tr.region ?_
  refine Tr.q (QS.assign rfl) rfl ?_
  refine Tr.nil ?_
  refine Tr.thenN ?_
  refine Tr.seq ?_
  refine Tr.region ?_
  refine Tr.q (QS.assign rfl) rfl ?_
  refine Tr.nil ?_
  refine Tr.thenN ?_
  refine Tr.seq ?_
  refine Tr.region ?_
  refine Tr.q (QS.move rfl) rfl ?_
  refine Tr.q (QS.strIdx rfl rfl Try.underlying9 (by refine ⟨by omega, ?_⟩; show cc < 15; omega)) rfl ?_
  refine Tr.q (QS.sub8 (n := 97) rfl rfl) rfl ?_
  refine Tr.q (QS.cvt8toI rfl Try.underlying5 Try.underlying3) rfl ?_
  refine Tr.q (QS.assign rfl) rfl ?_
  refine Tr.nil ?_
  refine Tr.thenN ?_
  refine Tr.seq ?_
  refine Tr.seq ?_
  refine Tr.region ?_
  refine Tr.q (QS.move rfl) rfl ?_
  refine Tr.nil ?_
  refine Tr.thenN ?_
  refine Tr.block ?_
  have hmk := mask_eq hc
  rw [show (_ : Int) = maskP cc from hmk]
  generalize hm0 : maskP cc = mk at *
  refine Tr.ownNil 3 encInt ?_
  refine Tr.loop (ι := Nat × Value) (fun ⟨k, V'⟩ => k ≤ 4) (fun _ => _) (fun ⟨k, V'⟩ => [rowE V' 3 encInt ((pickN (bitP mk) k).map (8 + ·))]) (fun ⟨k, V'⟩ => [(10, .int .i64 (k : Nat)), (3, V')]) (fun ⟨k, V'⟩ => 4 - k) (0, _) (Nat.zero_le _) (.cons (by first | rfl | exact lookI rfl (by omega) | exact lookI rfl (by simp) | exact lookB rfl (by simp)) (.cons (by first | rfl | exact lookI rfl (by omega) | exact lookI rfl (by simp) | exact lookB rfl (by simp)) Front.nil)) (by repeat' (first | exact Pick.nil _ | exact Del.here _ | apply Pick.cons | apply Del.there)) rfl (fun i hi m hm => ?_)
  obtain ⟨k, V'⟩ := i
  replace hi : k ≤ 4 := hi
  replace hm : m = 4 - k := hm
  change Tr _ _ [rowE V' 3 encInt ((pickN (bitP mk) k).map (8 + ·))] ([(10, .int .i64 (k : Nat)), (3, V')] ++ _) _
  have hpl := pickN_len (bitP mk) k
  refine Tr.seq ?_
  refine Tr.region ?_
  refine Tr.q (QS.lss rfl rfl) rfl ?_
  refine Tr.nil ?_
  refine Tr.thenN ?_
  refine Tr.seq ?_
  refine Tr.cond rfl (fun h1 => ?_) (fun h1 => ?_)
  · try simp only [bs] at h1
    refine Tr.skip ?_
    refine Tr.thenN ?_
    refine Tr.seq ?_
    refine Tr.block ?_
    refine Tr.seq ?_
    refine Tr.region ?_
    refine Tr.q (QS.move rfl) rfl ?_
    refine Tr.q (QS.assign rfl) rfl ?_
    refine Tr.nil ?_
    refine Tr.thenN ?_
    refine Tr.seq ?_
    refine Tr.region ?_
    refine Tr.q (QS.move rfl) rfl ?_
    refine Tr.q (QS.move rfl) rfl ?_
    refine Tr.q (QS.shr rfl rfl (by omega)) rfl ?_
    refine Tr.q (QS.and1 rfl rfl) rfl ?_
    refine Tr.q (QS.eql rfl rfl) rfl ?_
    refine Tr.nil ?_
    refine Tr.thenN ?_
    refine Tr.cond rfl (fun h2 => ?_) (fun h2 => ?_)
    · try simp only [bs] at h2
      refine Tr.region ?_
      refine Tr.q (QS.move rfl) rfl ?_
      refine Tr.q (QS.move rfl) rfl ?_
      first | refine Tr.q (QS.addI rfl rfl (by omega)) rfl ?_ | refine Tr.q (QS.add rfl rfl) rfl ?_
      refine Tr.lit1 (E := encInt) _ rfl rfl Try.underlying36 Try.sizeOf3 Try.zeroValue3 (by rfl) (by rfl) rfl (fun V3 => ?_)
      first | refine Tr.append1 rfl rfl (by repeat (first | exact Del.here _ | apply Del.there)) (by repeat (first | exact Del.here _ | apply Del.there)) Try.underlying36 HLF.info3 (by rfl) (by rfl) (by simp only [List.length_map, List.length_cons, List.length_nil]; omega) (by unfold maxLen; simp only [List.length_map, List.length_cons, List.length_nil]; omega) rfl (fun V4 => ?_) | refine Tr.ownNil _ _ (Tr.append1 rfl rfl (by repeat (first | exact Del.here _ | apply Del.there)) (by repeat (first | exact Del.here _ | apply Del.there)) Try.underlying36 HLF.info3 (by rfl) (by rfl) (by simp only [List.length_map, List.length_cons, List.length_nil]; omega) (by unfold maxLen; simp only [List.length_map, List.length_cons, List.length_nil]; omega) rfl (fun V4 => ?_)) | refine Tr.appendOf rfl rfl (by repeat (first | exact Del.here _ | apply Del.there)) (fun w hw => hw.slF (by assumption)) Try.underlying36 HLF.info3 (by rfl) (by rfl) (by simp only [List.length_map, List.length_cons, List.length_nil]; omega) (by unfold maxLen; simp only [List.length_map, List.length_cons, List.length_nil]; omega) rfl (fun V4 => ?_) | refine Tr.ownNil _ _ (Tr.appendOf rfl rfl (by repeat (first | exact Del.here _ | apply Del.there)) (fun w hw => hw.slF (by assumption)) Try.underlying36 HLF.info3 (by rfl) (by rfl) (by simp only [List.length_map, List.length_cons, List.length_nil]; omega) (by unfold maxLen; simp only [List.length_map, List.length_cons, List.length_nil]; omega) rfl (fun V4 => ?_)) | refine Tr.appendOf rfl rfl (by repeat (first | exact Del.here _ | apply Del.there)) (fun w hw => hw.row (by repeat (first | exact List.Mem.head _ | apply List.Mem.tail))) Try.underlying36 HLF.info3 (by rfl) (by rfl) (by simp only [List.length_map, List.length_cons, List.length_nil]; omega) (by unfold maxLen; simp only [List.length_map, List.length_cons, List.length_nil]; omega) rfl (fun V4 => ?_)
      refine Tr.q (QS.assign rfl) rfl ?_
      refine Tr.nil ?_
      refine Tr.inN ?_
      refine Tr.thenN ?_
      refine Tr.region ?_
      first | refine Tr.q (QS.addI rfl rfl (by omega)) rfl ?_ | refine Tr.q (QS.add rfl rfl) rfl ?_
      refine Tr.q (QS.move rfl) rfl ?_
      refine Tr.nil ?_
      refine Tr.thenN ?_
      have hp := condFlags_yes (m := mk) (k := k) (by unfold bitP; grind)
      rw [← hp]
      apply Tr.again (k + 1, _)
      · exact rfl
      · exact (.cons (by first | rfl | exact lookI rfl (by omega) | exact lookI rfl (by simp) | exact lookB rfl (by simp)) (.cons (by first | rfl | exact lookI rfl (by omega) | exact lookI rfl (by simp) | exact lookB rfl (by simp)) Front.nil))
      · exact SubX.dropN 18 (by kernel_rfl) rfl
      · exact (by repeat' (first | exact Pick.nil _ | exact Del.here _ | apply Pick.cons | apply Del.there))
      · exact (by show k + 1 ≤ _; omega)
      · exact (by (try dsimp only); omega)
    · try simp only [bs] at h2
      refine Tr.skip ?_
      refine Tr.inN ?_
      refine Tr.thenN ?_
      refine Tr.region ?_
      first | refine Tr.q (QS.addI rfl rfl (by omega)) rfl ?_ | refine Tr.q (QS.add rfl rfl) rfl ?_
      refine Tr.q (QS.move rfl) rfl ?_
      refine Tr.nil ?_
      refine Tr.thenN ?_
      have hp := condFlags_no (m := mk) (k := k) (by unfold bitP; grind)
      rw [← hp]
      apply Tr.again (k + 1, _)
      · exact rfl
      · exact (.cons (by first | rfl | exact lookI rfl (by omega) | exact lookI rfl (by simp) | exact lookB rfl (by simp)) (.cons (by first | rfl | exact lookI rfl (by omega) | exact lookI rfl (by simp) | exact lookB rfl (by simp)) Front.nil))
      · exact SubX.dropN 12 (by kernel_rfl) rfl
      · exact (by repeat' (first | exact Pick.nil _ | exact Del.here _ | apply Pick.cons | apply Del.there))
      · exact (by show k + 1 ≤ _; omega)
      · exact (by (try dsimp only); omega)
  · try simp only [bs] at h1
    refine Tr.exit ?_
    refine Tr.thenE ?_
    refine Tr.thenE ?_
    refine Tr.inHit ?_
    refine Tr.thenN ?_
    refine Tr.seq ?_
    refine Tr.region ?_
    refine Tr.q (QS.move rfl) rfl ?_
    refine Tr.q (QS.assign rfl) rfl ?_
    refine Tr.nil ?_
    refine Tr.thenN ?_
    refine Tr.ret ?_
    refine Tr.ret1 Try.results44 rfl (fun w' hw => ?_)
    exact ⟨_, rfl, hw.below (Bg.le.refl _), by obtain rfl : k = 4 := (by omega); unfold condFlagsP; rw [hm0]; exact hw.new (.head _)⟩

set_option maxRecDepth 100000 in
set_option maxHeartbeats 2000000 in
theorem sorted_any (l : List Int) (V : Value) (w : World) (hV : (rowE V 3 encInt l).holds w) (hl : l.length ≤ 1000) :
    Calls Try.prog 43 #[V] w (fun e w' => ∃ V', e = .returned V' ∧ V'.ownBlock = V.ownBlock ∧ Mut w w' V ∧ (rowE V' 3 encInt (sortedP l)).holds w') := by
  refine enterOwn (l := l) (E := encInt) (T := 3) hV Try.func43 rfl Try.ntmps43 rfl ?_
  refine Tr.seq ?_
  refine Tr.region ?_
  refine Tr.q (QS.assign rfl) rfl ?_
  refine Tr.nil ?_
  refine Tr.thenN ?_
  refine Tr.seq ?_
  refine Tr.region ?_
  refine Tr.q (QS.move rfl) rfl ?_
  refine Tr.callMut rfl Try.call62 (by repeat (first | exact Put.here _ | apply Put.there)) (fun w hw => sort1_any (f := Value.int .i64) (fun _ => rfl) (fun zs => zs.mergeSort fun x y => decide (x ≤ y)) (fun _ => List.length_mergeSort _) Try.slices_Sort_int Try.slices_Sort_int_none 3 l V w (hw.ent _ (.head _)) (by omega)) rfl ?_
  refine Tr.nil ?_
  refine Tr.thenN ?_
  refine Tr.seq ?_
  refine Tr.region ?_
  refine Tr.q (QS.move rfl) rfl ?_
  refine Tr.callMutRow rfl Try.call63 (by repeat (first | exact Del.here _ | apply Del.there)) (fun w hw => compact1_any (f := Value.int .i64) 0 (fun _ => rfl) Try.slices_Compact_int Try.slices_Compact_int_empty compact_le 3 (l.mergeSort fun x y => decide (x ≤ y)) V w (hw.ent _ (.head _)) (by rw [List.length_mergeSort]; omega)) rfl (fun V1 hV1 => ?_)
  refine Tr.q (QS.assign rfl) rfl ?_
  refine Tr.nil ?_
  refine Tr.thenN ?_
  refine Tr.ret ?_
  refine Tr.ret1 Try.results43 rfl (fun w' hw => ?_)
  exact ⟨_, rfl, by assumption, HpOK.mutOwn hw (.head _) (by assumption)⟩

set_option maxRecDepth 100000 in
set_option maxHeartbeats 2000000 in
theorem reads_any (i : Ins) (w : World) (hI : InsOK i) :
    Calls Try.prog 17 #[.agg (encIns.enc i).toArray] w (fun e w' => ∃ V, e = .returned V ∧ Ext w w' ∧ NewRow w w' 3 encInt (readsP i) V) := by
  refine enter Try.func17 rfl Try.ntmps17 rfl ?_
  refine Tr.seq ?_
  refine Tr.region ?_
  refine Tr.box rfl rfl rfl (fun b1 => ?_)
  refine Tr.q (QS.assign rfl) rfl ?_
  refine Tr.nil ?_
  refine Tr.thenN ?_
  refine Tr.seq ?_
  refine Tr.seq ?_
  refine Tr.region ?_
  refine Tr.q (QS.lW rfl Try.isAgg27 Try.sizeOf27) rfl ?_
  refine Tr.q (QS.call rfl Try.call23 (fun w hw => valid_isa i w hI)) rfl ?_
  refine Tr.q (QS.not rfl) rfl ?_
  refine Tr.nil ?_
  refine Tr.thenN ?_
  refine Tr.cond rfl (fun h2 => ?_) (fun h2 => ?_)
  · try simp only [bs] at h2
    refine Tr.seq ?_
    refine Tr.region ?_
    refine Tr.q (QS.assign rfl) rfl ?_
    refine Tr.nil ?_
    refine Tr.thenN ?_
    refine Tr.ret ?_
    refine Tr.thenR ?_
    refine Tr.ret1 Try.results17 rfl (fun w' hw => ?_)
    exact ⟨_, rfl, hw.below (Bg.le.refl _), newRow_nil (by unfold readsP; (repeat (first | rw [if_pos (by first | assumption | omega | grind)] | rw [if_neg (by first | assumption | omega | grind)])))⟩
  · try simp only [bs] at h2
    refine Tr.skip ?_
    refine Tr.thenN ?_
    refine Tr.seq ?_
    refine Tr.seq ?_
    have he : errP i = 0 := (by first | assumption | grind)
    obtain ⟨hr0, hr1, hr2, hr3⟩ := errP_regs he
    have hcc := errP_cc he
    refine Tr.region ?_
    refine Tr.q (QS.fieldAddr (off := 2) (ft := 3) rfl Try.underlying27 rfl rfl Try.sizeOf3 (by decide)) rfl ?_
    refine Tr.q (QS.lV rfl Try.isAgg3) rfl ?_
    refine Tr.nil ?_
    refine Tr.thenN ?_
    refine Tr.block ?_
    refine Tr.seq ?_
    refine Tr.seq ?_
    refine Tr.region ?_
    refine Tr.q (QS.eql rfl rfl) rfl ?_
    refine Tr.q (QS.assign rfl) rfl ?_
    refine Tr.nil ?_
    refine Tr.thenN ?_
    apply Tr.condOr
    · exact rfl
    · intro hO3
      try simp only [bs] at hO3
      refine Tr.seq ?_
      refine Tr.region ?_
      refine Tr.q (QS.eql rfl rfl) rfl ?_
      refine Tr.q (QS.assign rfl) rfl ?_
      refine Tr.nil ?_
      refine Tr.thenN ?_
      apply Tr.condOr
      · exact rfl
      · intro hO4
        try simp only [bs] at hO4
        refine Tr.region ?_
        refine Tr.q (QS.eql rfl rfl) rfl ?_
        refine Tr.q (QS.assign rfl) rfl ?_
        refine Tr.nil ?_
        refine Tr.thenN ?_
        exact Tr.endOr rfl (SubX.dropN 2 (by kernel_rfl) rfl)
      refine Tr.thenN ?_
      exact Tr.endOr rfl (SubX.dropN 3 (by kernel_rfl) rfl)
    refine Tr.thenN ?_
    refine Tr.cond rfl (fun h5 => ?_) (fun h5 => ?_)
    · try simp only [bs] at h5
      refine Tr.seq ?_
      refine Tr.region ?_
      refine Tr.lit1 (E := encInt) _ rfl rfl Try.underlying36 Try.sizeOf3 Try.zeroValue3 (by rfl) (by rfl) rfl (fun V6 => ?_)
      refine Tr.q (QS.assign rfl) rfl ?_
      refine Tr.nil ?_
      refine Tr.thenN ?_
      refine Tr.ret ?_
      refine Tr.inR ?_
      refine Tr.thenR ?_
      refine Tr.ret1 Try.results17 rfl (fun w' hw => ?_)
      exact ⟨_, rfl, hw.below (Bg.le.refl _), by unfold readsP; (repeat (first | rw [if_pos (by first | assumption | omega | grind)] | rw [if_neg (by first | assumption | omega | grind)])); exact hw.new (.head _)⟩
    · try simp only [bs] at h5
      refine Tr.seq ?_
      refine Tr.seq ?_
      refine Tr.region ?_
      refine Tr.q (QS.eql rfl rfl) rfl ?_
      refine Tr.q (QS.assign rfl) rfl ?_
      refine Tr.nil ?_
      refine Tr.thenN ?_
      apply Tr.condOr
      · exact rfl
      · intro hO7
        try simp only [bs] at hO7
        refine Tr.region ?_
        refine Tr.q (QS.eql rfl rfl) rfl ?_
        refine Tr.q (QS.assign rfl) rfl ?_
        refine Tr.nil ?_
        refine Tr.thenN ?_
        exact Tr.endOr rfl (SubX.dropN 2 (by kernel_rfl) rfl)
      refine Tr.thenN ?_
      refine Tr.cond rfl (fun h8 => ?_) (fun h8 => ?_)
      · try simp only [bs] at h8
        refine Tr.seq ?_
        refine Tr.region ?_
        refine Tr.q (QS.fieldAddr (off := 6) (ft := 3) rfl Try.underlying27 rfl rfl Try.sizeOf3 (by decide)) rfl ?_
        refine Tr.q (QS.lV rfl Try.isAgg3) rfl ?_
        refine Tr.litN (E := encInt) [i.a, 7] (vs := [(0, _), (1, _)]) rfl rfl Try.underlying36 Try.sizeOf3 Try.zeroValue3 (by rfl) (by rfl) rfl (by first | kernel_rfl | rfl) rfl (fun V9 => ?_)
        refine Tr.callMutRow rfl Try.call43 (by repeat (first | exact Del.here _ | apply Del.there)) (fun w hw => sorted_any ([i.a, 7]) _ w (hw.ent _ (.head _)) (by simp)) rfl (fun V10 hV10 => ?_)
        refine Tr.q (QS.assign rfl) rfl ?_
        refine Tr.nil ?_
        refine Tr.thenN ?_
        refine Tr.ret ?_
        refine Tr.inR ?_
        refine Tr.thenR ?_
        refine Tr.ret1 Try.results17 rfl (fun w' hw => ?_)
        exact ⟨_, rfl, hw.below (Bg.le.refl _), by unfold readsP; (repeat (first | rw [if_pos (by first | assumption | omega | grind)] | rw [if_neg (by first | assumption | omega | grind)])); exact hw.new (.head _)⟩
      · try simp only [bs] at h8
        refine Tr.seq ?_
        refine Tr.seq ?_
        refine Tr.region ?_
        refine Tr.q (QS.eql rfl rfl) rfl ?_
        refine Tr.q (QS.assign rfl) rfl ?_
        refine Tr.nil ?_
        refine Tr.thenN ?_
        apply Tr.condOr
        · exact rfl
        · intro hO11
          try simp only [bs] at hO11
          refine Tr.seq ?_
          refine Tr.region ?_
          refine Tr.q (QS.eql rfl rfl) rfl ?_
          refine Tr.q (QS.assign rfl) rfl ?_
          refine Tr.nil ?_
          refine Tr.thenN ?_
          apply Tr.condOr
          · exact rfl
          · intro hO12
            try simp only [bs] at hO12
            refine Tr.region ?_
            refine Tr.q (QS.eql rfl rfl) rfl ?_
            refine Tr.q (QS.assign rfl) rfl ?_
            refine Tr.nil ?_
            refine Tr.thenN ?_
            exact Tr.endOr rfl (SubX.dropN 2 (by kernel_rfl) rfl)
          refine Tr.thenN ?_
          exact Tr.endOr rfl (SubX.dropN 3 (by kernel_rfl) rfl)
        refine Tr.thenN ?_
        refine Tr.cond rfl (fun h13 => ?_) (fun h13 => ?_)
        · try simp only [bs] at h13
          refine Tr.seq ?_
          refine Tr.region ?_
          refine Tr.q (QS.fieldAddr (off := 7) (ft := 3) rfl Try.underlying27 rfl rfl Try.sizeOf3 (by decide)) rfl ?_
          refine Tr.q (QS.lV rfl Try.isAgg3) rfl ?_
          refine Tr.lit1 (E := encInt) _ rfl rfl Try.underlying36 Try.sizeOf3 Try.zeroValue3 (by rfl) (by rfl) rfl (fun V14 => ?_)
          refine Tr.q (QS.assign rfl) rfl ?_
          refine Tr.nil ?_
          refine Tr.thenN ?_
          refine Tr.ret ?_
          refine Tr.inR ?_
          refine Tr.thenR ?_
          refine Tr.ret1 Try.results17 rfl (fun w' hw => ?_)
          exact ⟨_, rfl, hw.below (Bg.le.refl _), by unfold readsP; (repeat (first | rw [if_pos (by first | assumption | omega | grind)] | rw [if_neg (by first | assumption | omega | grind)])); exact hw.new (.head _)⟩
        · try simp only [bs] at h13
          refine Tr.seq ?_
          refine Tr.region ?_
          refine Tr.q (QS.eql rfl rfl) rfl ?_
          refine Tr.q (QS.assign rfl) rfl ?_
          refine Tr.nil ?_
          refine Tr.thenN ?_
          refine Tr.cond rfl (fun h15 => ?_) (fun h15 => ?_)
          · try simp only [bs] at h15
            refine Tr.seq ?_
            refine Tr.region ?_
            refine Tr.q (QS.fieldAddr (off := 6) (ft := 3) rfl Try.underlying27 rfl rfl Try.sizeOf3 (by decide)) rfl ?_
            refine Tr.q (QS.lV rfl Try.isAgg3) rfl ?_
            refine Tr.q (QS.fieldAddr (off := 7) (ft := 3) rfl Try.underlying27 rfl rfl Try.sizeOf3 (by decide)) rfl ?_
            refine Tr.q (QS.lV rfl Try.isAgg3) rfl ?_
            refine Tr.litN (E := encInt) [i.a, i.b] (vs := [(0, _), (1, _)]) rfl rfl Try.underlying36 Try.sizeOf3 Try.zeroValue3 (by rfl) (by rfl) rfl (by first | kernel_rfl | rfl) rfl (fun V16 => ?_)
            refine Tr.callMutRow rfl Try.call43 (by repeat (first | exact Del.here _ | apply Del.there)) (fun w hw => sorted_any ([i.a, i.b]) _ w (hw.ent _ (.head _)) (by simp)) rfl (fun V17 hV17 => ?_)
            refine Tr.q (QS.assign rfl) rfl ?_
            refine Tr.nil ?_
            refine Tr.thenN ?_
            refine Tr.ret ?_
            refine Tr.inR ?_
            refine Tr.thenR ?_
            refine Tr.ret1 Try.results17 rfl (fun w' hw => ?_)
            exact ⟨_, rfl, hw.below (Bg.le.refl _), by unfold readsP; (repeat (first | rw [if_pos (by first | assumption | omega | grind)] | rw [if_neg (by first | assumption | omega | grind)])); exact hw.new (.head _)⟩
          · try simp only [bs] at h15
            refine Tr.seq ?_
            refine Tr.seq ?_
            refine Tr.region ?_
            refine Tr.q (QS.eql rfl rfl) rfl ?_
            refine Tr.q (QS.assign rfl) rfl ?_
            refine Tr.nil ?_
            refine Tr.thenN ?_
            apply Tr.condOr
            · exact rfl
            · intro hO18
              try simp only [bs] at hO18
              refine Tr.region ?_
              refine Tr.q (QS.eql rfl rfl) rfl ?_
              refine Tr.q (QS.assign rfl) rfl ?_
              refine Tr.nil ?_
              refine Tr.thenN ?_
              exact Tr.endOr rfl (SubX.dropN 2 (by kernel_rfl) rfl)
            refine Tr.thenN ?_
            refine Tr.cond rfl (fun h19 => ?_) (fun h19 => ?_)
            · try simp only [bs] at h19
              refine Tr.seq ?_
              refine Tr.region ?_
              refine Tr.q (QS.fieldAddr (off := 5) (ft := 3) rfl Try.underlying27 rfl rfl Try.sizeOf3 (by decide)) rfl ?_
              refine Tr.q (QS.lV rfl Try.isAgg3) rfl ?_
              refine Tr.callRow rfl Try.call44 (fun w hw => condFlags_any i.cc w (hcc (by first | assumption | omega))) rfl (fun V20 => ?_)
              refine Tr.q (QS.assign rfl) rfl ?_
              refine Tr.nil ?_
              refine Tr.thenN ?_
              refine Tr.ret ?_
              refine Tr.inR ?_
              refine Tr.thenR ?_
              refine Tr.ret1 Try.results17 rfl (fun w' hw => ?_)
              exact ⟨_, rfl, hw.below (Bg.le.refl _), by unfold readsP; (repeat (first | rw [if_pos (by first | assumption | omega | grind)] | rw [if_neg (by first | assumption | omega | grind)])); exact hw.new (.head _)⟩
            · try simp only [bs] at h19
              refine Tr.seq ?_
              refine Tr.seq ?_
              refine Tr.region ?_
              refine Tr.q (QS.eql rfl rfl) rfl ?_
              refine Tr.q (QS.assign rfl) rfl ?_
              refine Tr.nil ?_
              refine Tr.thenN ?_
              apply Tr.condOr
              · exact rfl
              · intro hO21
                try simp only [bs] at hO21
                refine Tr.seq ?_
                refine Tr.region ?_
                refine Tr.q (QS.eql rfl rfl) rfl ?_
                refine Tr.q (QS.assign rfl) rfl ?_
                refine Tr.nil ?_
                refine Tr.thenN ?_
                apply Tr.condOr
                · exact rfl
                · intro hO22
                  try simp only [bs] at hO22
                  refine Tr.region ?_
                  refine Tr.q (QS.eql rfl rfl) rfl ?_
                  refine Tr.q (QS.assign rfl) rfl ?_
                  refine Tr.nil ?_
                  refine Tr.thenN ?_
                  exact Tr.endOr rfl (SubX.dropN 2 (by kernel_rfl) rfl)
                refine Tr.thenN ?_
                exact Tr.endOr rfl (SubX.dropN 3 (by kernel_rfl) rfl)
              refine Tr.thenN ?_
              refine Tr.cond rfl (fun h23 => ?_) (fun h23 => ?_)
              · try simp only [bs] at h23
                refine Tr.seq ?_
                refine Tr.region ?_
                refine Tr.q (QS.fieldAddr (off := 6) (ft := 3) rfl Try.underlying27 rfl rfl Try.sizeOf3 (by decide)) rfl ?_
                refine Tr.q (QS.lV rfl Try.isAgg3) rfl ?_
                refine Tr.lit1 (E := encInt) _ rfl rfl Try.underlying36 Try.sizeOf3 Try.zeroValue3 (by rfl) (by rfl) rfl (fun V24 => ?_)
                refine Tr.q (QS.assign rfl) rfl ?_
                refine Tr.nil ?_
                refine Tr.thenN ?_
                refine Tr.ret ?_
                refine Tr.inR ?_
                refine Tr.thenR ?_
                refine Tr.ret1 Try.results17 rfl (fun w' hw => ?_)
                exact ⟨_, rfl, hw.below (Bg.le.refl _), by unfold readsP; (repeat (first | rw [if_pos (by first | assumption | omega | grind)] | rw [if_neg (by first | assumption | omega | grind)])); exact hw.new (.head _)⟩
              · try simp only [bs] at h23
                refine Tr.skip ?_
                refine Tr.inN ?_
                refine Tr.thenN ?_
                refine Tr.seq ?_
                refine Tr.seq ?_
                refine Tr.region ?_
                refine Tr.q (QS.fieldAddr (off := 2) (ft := 3) rfl Try.underlying27 rfl rfl Try.sizeOf3 (by decide)) rfl ?_
                refine Tr.q (QS.lV rfl Try.isAgg3) rfl ?_
                refine Tr.q (QS.lss rfl rfl) rfl ?_
                refine Tr.q (QS.move rfl) rfl ?_
                apply Tr.orP
                · exact (rfl : _ = (4, 52, 56))
                · exact rfl
                · intro hF25; have hF25' := hF25
                  try simp only [bs] at hF25'
                  refine Tr.gq rfl rfl hF25 (QS.fieldAddr (off := 2) (ft := 3) rfl Try.underlying27 rfl rfl Try.sizeOf3 (by decide)) rfl ?_
                  refine Tr.gq rfl rfl hF25 (QS.lV rfl Try.isAgg3) rfl ?_
                  refine Tr.gq rfl rfl hF25 (QS.gtr rfl rfl) rfl ?_
                  refine Tr.q (QS.pickF rfl hF25 rfl) rfl ?_
                  refine Tr.nil (Tr.thenN ?_)
                  exact Tr.endX (Sub.cons rfl (Sub.dropN 4 (by kernel_rfl) rfl))
                · intro hT25
                  refine Tr.gskip rfl rfl hT25 rfl ?_
                  refine Tr.gskip rfl rfl hT25 rfl ?_
                  refine Tr.gskip rfl rfl hT25 rfl ?_
                  refine Tr.q (QS.pickT rfl hT25 rfl) rfl ?_
                  refine Tr.nil (Tr.thenN ?_)
                  exact Tr.endX (Sub.cons rfl (Sub.dropN 4 (by kernel_rfl) rfl))
                refine Tr.nil ?_
                refine Tr.thenN ?_
                refine Tr.cond rfl (fun h26 => ?_) (fun h26 => ?_)
                · try simp only [bs] at h26
                  refine Tr.seq ?_
                  refine Tr.region ?_
                  refine Tr.q (QS.assign rfl) rfl ?_
                  refine Tr.nil ?_
                  refine Tr.thenN ?_
                  refine Tr.ret ?_
                  refine Tr.thenR ?_
                  refine Tr.ret1 Try.results17 rfl (fun w' hw => ?_)
                  exact ⟨_, rfl, hw.below (Bg.le.refl _), newRow_nil (by unfold readsP; (repeat (first | rw [if_pos (by first | assumption | omega | grind)] | rw [if_neg (by first | assumption | omega | grind)])))⟩
                · try simp only [bs] at h26
                  refine Tr.skip ?_
                  refine Tr.thenN ?_
                  refine Tr.seq ?_
                  refine Tr.ownNil 3 encInt ?_
                  refine Tr.region ?_
                  refine Tr.q (QS.assign rfl) rfl ?_
                  refine Tr.nil ?_
                  refine Tr.thenN ?_
                  refine Tr.seqJ (ι := Value × List Int) (fun ⟨V1, l1⟩ => l1 = (if i.op ≠ 5 then [i.a] else [])) (fun _ => Bg.of w) (fun ⟨V1, l1⟩ => [rowE V1 3 encInt l1, cellE b1 (encIns.enc i) 27]) (fun ⟨V1, l1⟩ => [(3, V1)]) ?_ (fun i hi => ?_)
                  · skip
                    refine Tr.seq ?_
                    refine Tr.region ?_
                    refine Tr.q (QS.fieldAddr (off := 2) (ft := 3) rfl Try.underlying27 rfl rfl Try.sizeOf3 (by decide)) rfl ?_
                    refine Tr.q (QS.lV rfl Try.isAgg3) rfl ?_
                    refine Tr.q (QS.neq rfl rfl) rfl ?_
                    refine Tr.nil ?_
                    refine Tr.thenN ?_
                    refine Tr.cond rfl (fun h27 => ?_) (fun h27 => ?_)
                    · try simp only [bs] at h27
                      refine Tr.region ?_
                      refine Tr.q (QS.move rfl) rfl ?_
                      refine Tr.q (QS.fieldAddr (off := 6) (ft := 3) rfl Try.underlying27 rfl rfl Try.sizeOf3 (by decide)) rfl ?_
                      refine Tr.q (QS.lV rfl Try.isAgg3) rfl ?_
                      refine Tr.lit1 (E := encInt) _ rfl rfl Try.underlying36 Try.sizeOf3 Try.zeroValue3 (by rfl) (by rfl) rfl (fun V28 => ?_)
                      first | refine Tr.append1 rfl rfl (by repeat (first | exact Del.here _ | apply Del.there)) (by repeat (first | exact Del.here _ | apply Del.there)) Try.underlying36 HLF.info3 (by rfl) (by rfl) (by (try simp only [List.length_cons, List.length_nil, List.length_append, List.length_take]); omega) (by unfold maxLen; (try simp only [List.length_cons, List.length_nil, List.length_append, List.length_take]); omega) rfl (fun V29 => ?_) | refine Tr.ownNil _ _ (Tr.append1 rfl rfl (by repeat (first | exact Del.here _ | apply Del.there)) (by repeat (first | exact Del.here _ | apply Del.there)) Try.underlying36 HLF.info3 (by rfl) (by rfl) (by (try simp only [List.length_cons, List.length_nil, List.length_append, List.length_take]); omega) (by unfold maxLen; (try simp only [List.length_cons, List.length_nil, List.length_append, List.length_take]); omega) rfl (fun V29 => ?_)) | refine Tr.appendOf rfl rfl (by repeat (first | exact Del.here _ | apply Del.there)) (fun w hw => hw.slF (by assumption)) Try.underlying36 HLF.info3 (by rfl) (by rfl) (by (try simp only [List.length_cons, List.length_nil, List.length_append, List.length_take]); omega) (by unfold maxLen; (try simp only [List.length_cons, List.length_nil, List.length_append, List.length_take]); omega) rfl (fun V29 => ?_) | refine Tr.ownNil _ _ (Tr.appendOf rfl rfl (by repeat (first | exact Del.here _ | apply Del.there)) (fun w hw => hw.slF (by assumption)) Try.underlying36 HLF.info3 (by rfl) (by rfl) (by (try simp only [List.length_cons, List.length_nil, List.length_append, List.length_take]); omega) (by unfold maxLen; (try simp only [List.length_cons, List.length_nil, List.length_append, List.length_take]); omega) rfl (fun V29 => ?_)) | refine Tr.appendOf rfl rfl (by repeat (first | exact Del.here _ | apply Del.there)) (fun w hw => hw.row (by repeat (first | exact List.Mem.head _ | apply List.Mem.tail))) Try.underlying36 HLF.info3 (by rfl) (by rfl) (by (try simp only [List.length_cons, List.length_nil, List.length_append, List.length_take]); omega) (by unfold maxLen; (try simp only [List.length_cons, List.length_nil, List.length_append, List.length_take]); omega) rfl (fun V29 => ?_)
                      refine Tr.q (QS.assign rfl) rfl ?_
                      refine Tr.nil ?_
                      refine Tr.thenN ?_
                      apply Tr.joined (_, _)
                      · exact rfl
                      · exact (.cons (by first | rfl | exact lookI rfl (by omega) | exact lookI rfl (by simp) | exact lookB rfl (by simp)) Front.nil)
                      · exact SubX.dropN 9 (by kernel_rfl) rfl
                      · exact (by repeat' (first | exact Pick.nil _ | exact Del.here _ | apply Pick.cons | apply Del.there))
                      · exact (by show _ = _; rw [if_pos (by assumption)]; rfl)
                    · try simp only [bs] at h27
                      refine Tr.skip ?_
                      refine Tr.thenN ?_
                      apply Tr.joined (_, _)
                      · exact rfl
                      · exact (.cons (by first | rfl | exact lookI rfl (by omega) | exact lookI rfl (by simp) | exact lookB rfl (by simp)) Front.nil)
                      · exact SubX.dropN 3 (by kernel_rfl) rfl
                      · exact (by repeat' (first | exact Pick.nil _ | exact Del.here _ | apply Pick.cons | apply Del.there))
                      · exact (by show _ = _; rw [if_neg (by first | assumption | grind)])
                  · obtain ⟨V1, l1⟩ := i
                    replace hi : l1 = (if i.op ≠ 5 then [i.a] else []) := hi
                    change Tr _ _ [rowE V1 3 encInt l1, cellE b1 (encIns.enc i) 27] ([(3, V1)] ++ _) _
                    have hl1 : l1.length ≤ 1 := by rw [hi]; split <;> simp
                    refine Tr.seqJ (ι := Value × List Int) (fun ⟨V2, l2⟩ => l2 = (if i.op ≠ 5 then [i.a] else []) ++ (if i.form = 0 then [i.b] else [])) (fun _ => Bg.of w) (fun ⟨V2, l2⟩ => [rowE V2 3 encInt l2, cellE b1 (encIns.enc i) 27]) (fun ⟨V2, l2⟩ => [(3, V2)]) ?_ (fun i hi => ?_)
                    · skip
                      refine Tr.seq ?_
                      refine Tr.region ?_
                      refine Tr.q (QS.fieldAddr (off := 3) (ft := 3) rfl Try.underlying27 rfl rfl Try.sizeOf3 (by decide)) rfl ?_
                      refine Tr.q (QS.lV rfl Try.isAgg3) rfl ?_
                      refine Tr.q (QS.eql rfl rfl) rfl ?_
                      refine Tr.nil ?_
                      refine Tr.thenN ?_
                      refine Tr.cond rfl (fun h30 => ?_) (fun h30 => ?_)
                      · try simp only [bs] at h30
                        refine Tr.region ?_
                        refine Tr.q (QS.move rfl) rfl ?_
                        refine Tr.q (QS.fieldAddr (off := 7) (ft := 3) rfl Try.underlying27 rfl rfl Try.sizeOf3 (by decide)) rfl ?_
                        refine Tr.q (QS.lV rfl Try.isAgg3) rfl ?_
                        refine Tr.lit1 (E := encInt) _ rfl rfl Try.underlying36 Try.sizeOf3 Try.zeroValue3 (by rfl) (by rfl) rfl (fun V31 => ?_)
                        first | refine Tr.append1 rfl rfl (by repeat (first | exact Del.here _ | apply Del.there)) (by repeat (first | exact Del.here _ | apply Del.there)) Try.underlying36 HLF.info3 (by rfl) (by rfl) (by (try simp only [List.length_cons, List.length_nil, List.length_append, List.length_take]); omega) (by unfold maxLen; (try simp only [List.length_cons, List.length_nil, List.length_append, List.length_take]); omega) rfl (fun V32 => ?_) | refine Tr.ownNil _ _ (Tr.append1 rfl rfl (by repeat (first | exact Del.here _ | apply Del.there)) (by repeat (first | exact Del.here _ | apply Del.there)) Try.underlying36 HLF.info3 (by rfl) (by rfl) (by (try simp only [List.length_cons, List.length_nil, List.length_append, List.length_take]); omega) (by unfold maxLen; (try simp only [List.length_cons, List.length_nil, List.length_append, List.length_take]); omega) rfl (fun V32 => ?_)) | refine Tr.appendOf rfl rfl (by repeat (first | exact Del.here _ | apply Del.there)) (fun w hw => hw.slF (by assumption)) Try.underlying36 HLF.info3 (by rfl) (by rfl) (by (try simp only [List.length_cons, List.length_nil, List.length_append, List.length_take]); omega) (by unfold maxLen; (try simp only [List.length_cons, List.length_nil, List.length_append, List.length_take]); omega) rfl (fun V32 => ?_) | refine Tr.ownNil _ _ (Tr.appendOf rfl rfl (by repeat (first | exact Del.here _ | apply Del.there)) (fun w hw => hw.slF (by assumption)) Try.underlying36 HLF.info3 (by rfl) (by rfl) (by (try simp only [List.length_cons, List.length_nil, List.length_append, List.length_take]); omega) (by unfold maxLen; (try simp only [List.length_cons, List.length_nil, List.length_append, List.length_take]); omega) rfl (fun V32 => ?_)) | refine Tr.appendOf rfl rfl (by repeat (first | exact Del.here _ | apply Del.there)) (fun w hw => hw.row (by repeat (first | exact List.Mem.head _ | apply List.Mem.tail))) Try.underlying36 HLF.info3 (by rfl) (by rfl) (by (try simp only [List.length_cons, List.length_nil, List.length_append, List.length_take]); omega) (by unfold maxLen; (try simp only [List.length_cons, List.length_nil, List.length_append, List.length_take]); omega) rfl (fun V32 => ?_)
                        refine Tr.q (QS.assign rfl) rfl ?_
                        refine Tr.nil ?_
                        refine Tr.thenN ?_
                        apply Tr.joined (_, _)
                        · exact rfl
                        · exact (.cons (by first | rfl | exact lookI rfl (by omega) | exact lookI rfl (by simp) | exact lookB rfl (by simp)) Front.nil)
                        · exact SubX.dropN 9 (by kernel_rfl) rfl
                        · exact (by repeat' (first | exact Pick.nil _ | exact Del.here _ | apply Pick.cons | apply Del.there))
                        · exact (by show _ = _; rw [hi, if_pos (show i.form = 0 by assumption)])
                      · try simp only [bs] at h30
                        refine Tr.skip ?_
                        refine Tr.thenN ?_
                        apply Tr.joined (_, _)
                        · exact rfl
                        · exact (.cons (by first | rfl | exact lookI rfl (by omega) | exact lookI rfl (by simp) | exact lookB rfl (by simp)) Front.nil)
                        · exact SubX.dropN 3 (by kernel_rfl) rfl
                        · exact (by repeat' (first | exact Pick.nil _ | exact Del.here _ | apply Pick.cons | apply Del.there))
                        · exact (by show _ = _; rw [hi, if_neg (show ¬ i.form = 0 by assumption), List.append_nil])
                    · obtain ⟨V2, l2⟩ := i
                      replace hi : l2 = (if i.op ≠ 5 then [i.a] else []) ++ (if i.form = 0 then [i.b] else []) := hi
                      change Tr _ _ [rowE V2 3 encInt l2, cellE b1 (encIns.enc i) 27] ([(3, V2)] ++ _) _
                      refine Tr.seq ?_
                      refine Tr.region ?_
                      refine Tr.q (QS.move rfl) rfl ?_
                      refine Tr.callMutRow rfl Try.call43 (by repeat (first | exact Del.here _ | apply Del.there)) (fun w hw => sorted_any l2 _ w (hw.ent _ (.head _)) (by subst hi; split <;> split <;> simp)) rfl (fun V33 hV33 => ?_)
                      refine Tr.q (QS.assign rfl) rfl ?_
                      refine Tr.nil ?_
                      refine Tr.thenN ?_
                      refine Tr.ret ?_
                      refine Tr.ret1 Try.results17 rfl (fun w' hw => ?_)
                      exact ⟨_, rfl, hw.below (Bg.le.refl _), by unfold readsP; (repeat (rw [if_neg (by first | assumption | omega | grind)])); rw [← hi]; exact hw.new (.head _)⟩

set_option maxRecDepth 100000 in
set_option maxHeartbeats 2000000 in
theorem writes_any (i : Ins) (w : World) (hI : InsOK i) :
    Calls Try.prog 19 #[.agg (encIns.enc i).toArray] w (fun e w' => ∃ V, e = .returned V ∧ Ext w w' ∧ NewRow w w' 3 encInt (writesP i) V) := by
  refine enter Try.func19 rfl Try.ntmps19 rfl ?_
  refine Tr.seq ?_
  refine Tr.region ?_
  refine Tr.box rfl rfl rfl (fun b1 => ?_)
  refine Tr.q (QS.assign rfl) rfl ?_
  refine Tr.nil ?_
  refine Tr.thenN ?_
  refine Tr.seq ?_
  refine Tr.seq ?_
  refine Tr.region ?_
  refine Tr.q (QS.lW rfl Try.isAgg27 Try.sizeOf27) rfl ?_
  refine Tr.q (QS.call rfl Try.call23 (fun w hw => valid_isa i w hI)) rfl ?_
  refine Tr.q (QS.not rfl) rfl ?_
  refine Tr.nil ?_
  refine Tr.thenN ?_
  refine Tr.cond rfl (fun h2 => ?_) (fun h2 => ?_)
  · try simp only [bs] at h2
    refine Tr.seq ?_
    refine Tr.region ?_
    refine Tr.q (QS.assign rfl) rfl ?_
    refine Tr.nil ?_
    refine Tr.thenN ?_
    refine Tr.ret ?_
    refine Tr.thenR ?_
    refine Tr.ret1 Try.results19 rfl (fun w' hw => ?_)
    exact ⟨_, rfl, hw.below (Bg.le.refl _), newRow_nil (by unfold writesP; (repeat (first | rw [if_pos (by first | assumption | omega | grind)] | rw [if_neg (by first | assumption | omega | grind)])))⟩
  · try simp only [bs] at h2
    refine Tr.skip ?_
    refine Tr.thenN ?_
    refine Tr.seq ?_
    refine Tr.seq ?_
    have he : errP i = 0 := (by first | assumption | grind)
    obtain ⟨hr0, hr1, hr2, hr3⟩ := errP_regs he
    have hcc := errP_cc he
    refine Tr.region ?_
    refine Tr.q (QS.fieldAddr (off := 2) (ft := 3) rfl Try.underlying27 rfl rfl Try.sizeOf3 (by decide)) rfl ?_
    refine Tr.q (QS.lV rfl Try.isAgg3) rfl ?_
    refine Tr.nil ?_
    refine Tr.thenN ?_
    refine Tr.block ?_
    refine Tr.seq ?_
    refine Tr.seq ?_
    refine Tr.region ?_
    refine Tr.q (QS.eql rfl rfl) rfl ?_
    refine Tr.q (QS.assign rfl) rfl ?_
    refine Tr.nil ?_
    refine Tr.thenN ?_
    apply Tr.condOr
    · exact rfl
    · intro hO3
      try simp only [bs] at hO3
      refine Tr.seq ?_
      refine Tr.region ?_
      refine Tr.q (QS.eql rfl rfl) rfl ?_
      refine Tr.q (QS.assign rfl) rfl ?_
      refine Tr.nil ?_
      refine Tr.thenN ?_
      apply Tr.condOr
      · exact rfl
      · intro hO4
        try simp only [bs] at hO4
        refine Tr.seq ?_
        refine Tr.region ?_
        refine Tr.q (QS.eql rfl rfl) rfl ?_
        refine Tr.q (QS.assign rfl) rfl ?_
        refine Tr.nil ?_
        refine Tr.thenN ?_
        apply Tr.condOr
        · exact rfl
        · intro hO5
          try simp only [bs] at hO5
          refine Tr.region ?_
          refine Tr.q (QS.eql rfl rfl) rfl ?_
          refine Tr.q (QS.assign rfl) rfl ?_
          refine Tr.nil ?_
          refine Tr.thenN ?_
          exact Tr.endOr rfl (SubX.dropN 2 (by kernel_rfl) rfl)
        refine Tr.thenN ?_
        exact Tr.endOr rfl (SubX.dropN 3 (by kernel_rfl) rfl)
      refine Tr.thenN ?_
      exact Tr.endOr rfl (SubX.dropN 3 (by kernel_rfl) rfl)
    refine Tr.thenN ?_
    refine Tr.cond rfl (fun h6 => ?_) (fun h6 => ?_)
    · try simp only [bs] at h6
      refine Tr.seq ?_
      refine Tr.region ?_
      refine Tr.lit1 (E := encInt) _ rfl rfl Try.underlying36 Try.sizeOf3 Try.zeroValue3 (by rfl) (by rfl) rfl (fun V7 => ?_)
      refine Tr.q (QS.assign rfl) rfl ?_
      refine Tr.nil ?_
      refine Tr.thenN ?_
      refine Tr.ret ?_
      refine Tr.inR ?_
      refine Tr.thenR ?_
      refine Tr.ret1 Try.results19 rfl (fun w' hw => ?_)
      exact ⟨_, rfl, hw.below (Bg.le.refl _), by unfold writesP; (repeat (first | rw [if_pos (by first | assumption | omega | grind)] | rw [if_neg (by first | assumption | omega | grind)])); exact hw.new (.head _)⟩
    · try simp only [bs] at h6
      refine Tr.seq ?_
      refine Tr.region ?_
      refine Tr.q (QS.eql rfl rfl) rfl ?_
      refine Tr.q (QS.assign rfl) rfl ?_
      refine Tr.nil ?_
      refine Tr.thenN ?_
      refine Tr.cond rfl (fun h8 => ?_) (fun h8 => ?_)
      · try simp only [bs] at h8
        refine Tr.seq ?_
        refine Tr.region ?_
        refine Tr.q (QS.fieldAddr (off := 6) (ft := 3) rfl Try.underlying27 rfl rfl Try.sizeOf3 (by decide)) rfl ?_
        refine Tr.q (QS.lV rfl Try.isAgg3) rfl ?_
        refine Tr.litN (E := encInt) [i.a, 7] (vs := [(0, _), (1, _)]) rfl rfl Try.underlying36 Try.sizeOf3 Try.zeroValue3 (by rfl) (by rfl) rfl (by first | kernel_rfl | rfl) rfl (fun V9 => ?_)
        refine Tr.callMutRow rfl Try.call43 (by repeat (first | exact Del.here _ | apply Del.there)) (fun w hw => sorted_any ([i.a, 7]) _ w (hw.ent _ (.head _)) (by simp)) rfl (fun V10 hV10 => ?_)
        refine Tr.q (QS.assign rfl) rfl ?_
        refine Tr.nil ?_
        refine Tr.thenN ?_
        refine Tr.ret ?_
        refine Tr.inR ?_
        refine Tr.thenR ?_
        refine Tr.ret1 Try.results19 rfl (fun w' hw => ?_)
        exact ⟨_, rfl, hw.below (Bg.le.refl _), by unfold writesP; (repeat (first | rw [if_pos (by first | assumption | omega | grind)] | rw [if_neg (by first | assumption | omega | grind)])); exact hw.new (.head _)⟩
      · try simp only [bs] at h8
        refine Tr.seq ?_
        refine Tr.seq ?_
        refine Tr.region ?_
        refine Tr.q (QS.eql rfl rfl) rfl ?_
        refine Tr.q (QS.assign rfl) rfl ?_
        refine Tr.nil ?_
        refine Tr.thenN ?_
        apply Tr.condOr
        · exact rfl
        · intro hO11
          try simp only [bs] at hO11
          refine Tr.seq ?_
          refine Tr.region ?_
          refine Tr.q (QS.eql rfl rfl) rfl ?_
          refine Tr.q (QS.assign rfl) rfl ?_
          refine Tr.nil ?_
          refine Tr.thenN ?_
          apply Tr.condOr
          · exact rfl
          · intro hO12
            try simp only [bs] at hO12
            refine Tr.seq ?_
            refine Tr.region ?_
            refine Tr.q (QS.eql rfl rfl) rfl ?_
            refine Tr.q (QS.assign rfl) rfl ?_
            refine Tr.nil ?_
            refine Tr.thenN ?_
            apply Tr.condOr
            · exact rfl
            · intro hO13
              try simp only [bs] at hO13
              refine Tr.seq ?_
              refine Tr.region ?_
              refine Tr.q (QS.eql rfl rfl) rfl ?_
              refine Tr.q (QS.assign rfl) rfl ?_
              refine Tr.nil ?_
              refine Tr.thenN ?_
              apply Tr.condOr
              · exact rfl
              · intro hO14
                try simp only [bs] at hO14
                refine Tr.seq ?_
                refine Tr.region ?_
                refine Tr.q (QS.eql rfl rfl) rfl ?_
                refine Tr.q (QS.assign rfl) rfl ?_
                refine Tr.nil ?_
                refine Tr.thenN ?_
                apply Tr.condOr
                · exact rfl
                · intro hO15
                  try simp only [bs] at hO15
                  refine Tr.region ?_
                  refine Tr.q (QS.eql rfl rfl) rfl ?_
                  refine Tr.q (QS.assign rfl) rfl ?_
                  refine Tr.nil ?_
                  refine Tr.thenN ?_
                  exact Tr.endOr rfl (SubX.dropN 2 (by kernel_rfl) rfl)
                refine Tr.thenN ?_
                exact Tr.endOr rfl (SubX.dropN 3 (by kernel_rfl) rfl)
              refine Tr.thenN ?_
              exact Tr.endOr rfl (SubX.dropN 3 (by kernel_rfl) rfl)
            refine Tr.thenN ?_
            exact Tr.endOr rfl (SubX.dropN 3 (by kernel_rfl) rfl)
          refine Tr.thenN ?_
          exact Tr.endOr rfl (SubX.dropN 3 (by kernel_rfl) rfl)
        refine Tr.thenN ?_
        refine Tr.cond rfl (fun h16 => ?_) (fun h16 => ?_)
        · try simp only [bs] at h16
          refine Tr.seq ?_
          refine Tr.region ?_
          refine Tr.q (QS.fieldAddr (off := 6) (ft := 3) rfl Try.underlying27 rfl rfl Try.sizeOf3 (by decide)) rfl ?_
          refine Tr.q (QS.lV rfl Try.isAgg3) rfl ?_
          refine Tr.lit1 (E := encInt) _ rfl rfl Try.underlying36 Try.sizeOf3 Try.zeroValue3 (by rfl) (by rfl) rfl (fun V17 => ?_)
          refine Tr.q (QS.assign rfl) rfl ?_
          refine Tr.nil ?_
          refine Tr.thenN ?_
          refine Tr.ret ?_
          refine Tr.inR ?_
          refine Tr.thenR ?_
          refine Tr.ret1 Try.results19 rfl (fun w' hw => ?_)
          exact ⟨_, rfl, hw.below (Bg.le.refl _), by unfold writesP; (repeat (first | rw [if_pos (by first | assumption | omega | grind)] | rw [if_neg (by first | assumption | omega | grind)])); exact hw.new (.head _)⟩
        · try simp only [bs] at h16
          refine Tr.seq ?_
          refine Tr.region ?_
          refine Tr.q (QS.eql rfl rfl) rfl ?_
          refine Tr.q (QS.assign rfl) rfl ?_
          refine Tr.nil ?_
          refine Tr.thenN ?_
          refine Tr.cond rfl (fun h18 => ?_) (fun h18 => ?_)
          · try simp only [bs] at h18
            refine Tr.seq ?_
            refine Tr.region ?_
            refine Tr.litN (E := encInt) [8, 9, 10, 11] (vs := [(0, _), (1, _), (2, _), (3, _)]) rfl rfl Try.underlying36 Try.sizeOf3 Try.zeroValue3 (by rfl) (by rfl) rfl (by first | kernel_rfl | rfl) rfl (fun V19 => ?_)
            refine Tr.q (QS.assign rfl) rfl ?_
            refine Tr.nil ?_
            refine Tr.thenN ?_
            refine Tr.ret ?_
            refine Tr.inR ?_
            refine Tr.thenR ?_
            refine Tr.ret1 Try.results19 rfl (fun w' hw => ?_)
            exact ⟨_, rfl, hw.below (Bg.le.refl _), by unfold writesP; (repeat (first | rw [if_pos (by first | assumption | omega | grind)] | rw [if_neg (by first | assumption | omega | grind)])); exact hw.new (.head _)⟩
          · try simp only [bs] at h18
            refine Tr.skip ?_
            refine Tr.inN ?_
            refine Tr.thenN ?_
            refine Tr.seq ?_
            refine Tr.seq ?_
            refine Tr.region ?_
            refine Tr.q (QS.fieldAddr (off := 2) (ft := 3) rfl Try.underlying27 rfl rfl Try.sizeOf3 (by decide)) rfl ?_
            refine Tr.q (QS.lV rfl Try.isAgg3) rfl ?_
            refine Tr.q (QS.geq rfl rfl) rfl ?_
            refine Tr.q (QS.move rfl) rfl ?_
            apply Tr.andP
            · exact (rfl : _ = (4, 36, 40))
            · exact rfl
            · intro hT20; have hT20' := hT20
              try simp only [bs] at hT20'
              refine Tr.gq rfl rfl hT20 (QS.fieldAddr (off := 2) (ft := 3) rfl Try.underlying27 rfl rfl Try.sizeOf3 (by decide)) rfl ?_
              refine Tr.gq rfl rfl hT20 (QS.lV rfl Try.isAgg3) rfl ?_
              refine Tr.gq rfl rfl hT20 (QS.leq rfl rfl) rfl ?_
              refine Tr.q (QS.pickT rfl hT20 rfl) rfl ?_
              refine Tr.nil (Tr.thenN ?_)
              exact Tr.endX (Sub.cons rfl (Sub.dropN 4 (by kernel_rfl) rfl))
            · intro hF20
              refine Tr.gskip rfl rfl hF20 rfl ?_
              refine Tr.gskip rfl rfl hF20 rfl ?_
              refine Tr.gskip rfl rfl hF20 rfl ?_
              refine Tr.q (QS.pickF rfl hF20 rfl) rfl ?_
              refine Tr.nil (Tr.thenN ?_)
              exact Tr.endX (Sub.cons rfl (Sub.dropN 4 (by kernel_rfl) rfl))
            refine Tr.nil ?_
            refine Tr.thenN ?_
            refine Tr.cond rfl (fun h21 => ?_) (fun h21 => ?_)
            · try simp only [bs] at h21
              refine Tr.seq ?_
              refine Tr.region ?_
              refine Tr.q (QS.fieldAddr (off := 6) (ft := 3) rfl Try.underlying27 rfl rfl Try.sizeOf3 (by decide)) rfl ?_
              refine Tr.q (QS.lV rfl Try.isAgg3) rfl ?_
              refine Tr.litN (E := encInt) [i.a, 8, 9, 10, 11] (vs := [(0, _), (1, _), (2, _), (3, _), (4, _)]) rfl rfl Try.underlying36 Try.sizeOf3 Try.zeroValue3 (by rfl) (by rfl) rfl (by first | kernel_rfl | rfl) rfl (fun V22 => ?_)
              refine Tr.q (QS.assign rfl) rfl ?_
              refine Tr.nil ?_
              refine Tr.thenN ?_
              refine Tr.ret ?_
              refine Tr.thenR ?_
              refine Tr.ret1 Try.results19 rfl (fun w' hw => ?_)
              exact ⟨_, rfl, hw.below (Bg.le.refl _), by unfold writesP; (repeat (first | rw [if_pos (by first | assumption | omega | grind)] | rw [if_neg (by first | assumption | omega | grind)])); exact hw.new (.head _)⟩
            · try simp only [bs] at h21
              refine Tr.skip ?_
              refine Tr.thenN ?_
              refine Tr.seq ?_
              refine Tr.region ?_
              refine Tr.q (QS.assign rfl) rfl ?_
              refine Tr.nil ?_
              refine Tr.thenN ?_
              refine Tr.ret ?_
              refine Tr.ret1 Try.results19 rfl (fun w' hw => ?_)
              exact ⟨_, rfl, hw.below (Bg.le.refl _), newRow_nil (by unfold writesP; (repeat (first | rw [if_pos (by first | assumption | omega | grind)] | rw [if_neg (by first | assumption | omega | grind)])))⟩

end Go.Proofs.Ytohjofdnapbeiaa
