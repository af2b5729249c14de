/- The walks of the reference of chapter 02: bounds, choose. -/
import Derived.Test.YtfnedefgepjbpaaWb
import Derived.Test.YtfnedefgepjbpaaMc
set_option linter.unusedSimpArgs false
set_option linter.unusedVariables false
namespace Go.Proofs.Ytfnedefgepjbpaa
open Go Go.HL Go.RowKit

set_option maxRecDepth 100000 in
set_option maxHeartbeats 2000000 in
theorem bounds_any (a b : List Rng) (V W : Value) (w : World) (hV : Sl (hp w) encRng a V) (hW : Sl (hp w) encRng b W) (ha : a.length ≤ 1000000) (hb : b.length ≤ 1000000) :
    Calls Try.prog 95 #[V, W] w (fun e w' => ∃ V', e = .returned V' ∧ Ext w w' ∧ NewRow w w' 23 encU32 (boundsP a b) V') := by
  have hV' : Sl (Bg.of w).blk encRng a V := hV
  have hW' : Sl (Bg.of w).blk encRng b W := hW
  refine enter Try.func95 rfl Try.ntmps95 rfl ?_
  refine Tr.seq ?_
  refine Tr.region ?_
  refine Tr.q (QS.assign rfl) rfl ?_
  refine Tr.nil ?_
  refine Tr.thenN ?_
  refine Tr.seq ?_
  refine Tr.region ?_
  refine Tr.q (QS.assign rfl) rfl ?_
  refine Tr.nil ?_
  refine Tr.thenN ?_
  refine Tr.seq ?_
  refine Tr.seq ?_
  refine Tr.region ?_
  refine Tr.q (QS.assign rfl) rfl ?_
  refine Tr.nil ?_
  refine Tr.thenN ?_
  refine Tr.block ?_
  refine Tr.ownNil 23 encU32 ?_
  refine Tr.loop (ι := Nat × Value) (fun ⟨k, V'⟩ => k ≤ a.length) (fun _ => _) (fun ⟨k, V'⟩ => [rowE V' 23 encU32 (pairsOf (a.take k))]) (fun ⟨k, V'⟩ => [(6, .int .i64 (k : Nat)), (5, V')]) (fun ⟨k, V'⟩ => a.length - k) (0, _) (Nat.zero_le _) (.cons (by first | rfl | exact lookI rfl (by omega) | exact lookI rfl (by simp) | exact lookB rfl (by simp)) (.cons (by first | rfl | exact lookI rfl (by omega) | exact lookI rfl (by simp) | exact lookB rfl (by simp)) Front.nil)) (by repeat' (first | exact Pick.nil _ | exact Del.here _ | apply Pick.cons | apply Del.there)) rfl (fun i hi m hm => ?_)
  obtain ⟨k, V'⟩ := i
  replace hi : k ≤ a.length := hi
  replace hm : m = a.length - k := hm
  change Tr _ _ [rowE V' 23 encU32 (pairsOf (a.take k))] ([(6, .int .i64 (k : Nat)), (5, V')] ++ _) _
  have hpl := pairs_len (a.take k)
  simp only [List.length_take] at hpl
  have hpa := pairs_len a
  refine Tr.seq ?_
  refine Tr.seq ?_
  refine Tr.region ?_
  refine Tr.q (QS.move rfl) rfl ?_
  refine Tr.q (QS.move rfl) rfl ?_
  first | refine Tr.q (QS.len rfl (by assumption) Try.underlying30) rfl ?_ | refine Tr.q (QS.lenRow rfl (by repeat (first | exact List.Mem.head _ | apply List.Mem.tail)) Try.underlying30) rfl ?_ | refine Tr.q (QS.lenNil rfl Try.underlying30) rfl ?_
  refine Tr.q (QS.lss rfl rfl) rfl ?_
  refine Tr.nil ?_
  refine Tr.thenN ?_
  refine Tr.cond rfl (fun h1 => ?_) (fun h1 => ?_)
  · try simp only [Bool.and_eq_true, Bool.or_eq_true, Bool.not_eq_true', Bool.not_eq_false', decide_eq_true_eq, decide_eq_false_iff_not, Bool.and_eq_false_iff, Bool.or_eq_false_iff, ne_eq, Decidable.not_not] at h1
    refine Tr.skip ?_
    refine Tr.thenN ?_
    refine Tr.seq ?_
    refine Tr.block ?_
    refine Tr.seq ?_
    refine Tr.region ?_
    refine Tr.q (QS.move rfl) rfl ?_
    refine Tr.q (QS.move rfl) rfl ?_
    refine Tr.q (QS.move rfl) rfl ?_
    first | refine Tr.q (QS.idxN rfl rfl (by assumption) Try.underlying30 Try.sizeOf73 (by rfl) (by omega)) rfl ?_ | refine Tr.q (QS.idxRowN rfl rfl (by repeat (first | exact List.Mem.head _ | apply List.Mem.tail)) Try.underlying30 Try.sizeOf73 (by rfl) (by omega)) rfl ?_ | refine Tr.q (QS.idx rfl rfl (by assumption) Try.underlying30 Try.sizeOf73 (by rfl) (by omega)) rfl ?_ | refine Tr.q (QS.idxRow rfl rfl (by repeat (first | exact List.Mem.head _ | apply List.Mem.tail)) Try.underlying30 Try.sizeOf73 (by rfl) (by omega)) rfl ?_
    refine Tr.q (QS.fieldAddr (off := 0) (ft := 23) rfl Try.underlying73 rfl rfl Try.sizeOf23 (by decide)) rfl ?_
    first | refine Tr.q (QS.loadV rfl (by repeat (first | exact List.Mem.head _ | apply List.Mem.tail)) Try.isAgg23 (by rfl)) rfl ?_ | refine Tr.q (QS.loadC rfl (by assumption) Try.isAgg23) rfl ?_ | refine Tr.q (QS.loadCF rfl (by assumption) Try.isAgg23 (by rfl)) rfl ?_ | refine Tr.q (QS.el1 rfl (by assumption) Try.isAgg23 (by omega) (by rfl)) rfl ?_ | refine Tr.q (QS.elF rfl (by assumption) Try.isAgg23 (by omega) (by rfl)) rfl ?_ | refine Tr.q (QS.elR1 rfl (by repeat (first | exact List.Mem.head _ | apply List.Mem.tail)) Try.isAgg23 (by omega) (by rfl)) rfl ?_ | refine Tr.q (QS.elRF rfl (by repeat (first | exact List.Mem.head _ | apply List.Mem.tail)) Try.isAgg23 (by omega) (by rfl)) rfl ?_
    refine Tr.lit1 (E := encU32) _ rfl rfl Try.underlying130 Try.sizeOf23 Try.zeroValue23 (by rfl) (by rfl) rfl (fun V2 => ?_)
    first | refine Tr.append1 rfl rfl (by repeat (first | exact Del.here _ | apply Del.there)) (by repeat (first | exact Del.here _ | apply Del.there)) Try.underlying130 HLF.info23 (by rfl) (by rfl) (by (try simp only [List.length_cons, List.length_nil, List.length_append, List.length_take]); omega) (by unfold maxLen; (try simp only [List.length_cons, List.length_nil, List.length_append, List.length_take]); omega) rfl (fun V3 => ?_) | refine Tr.ownNil _ _ (Tr.append1 rfl rfl (by repeat (first | exact Del.here _ | apply Del.there)) (by repeat (first | exact Del.here _ | apply Del.there)) Try.underlying130 HLF.info23 (by rfl) (by rfl) (by (try simp only [List.length_cons, List.length_nil, List.length_append, List.length_take]); omega) (by unfold maxLen; (try simp only [List.length_cons, List.length_nil, List.length_append, List.length_take]); omega) rfl (fun V3 => ?_)) | refine Tr.appendOf rfl rfl (by repeat (first | exact Del.here _ | apply Del.there)) (fun w hw => hw.slF (by assumption)) Try.underlying130 HLF.info23 (by rfl) (by rfl) (by (try simp only [List.length_cons, List.length_nil, List.length_append, List.length_take]); omega) (by unfold maxLen; (try simp only [List.length_cons, List.length_nil, List.length_append, List.length_take]); omega) rfl (fun V3 => ?_) | refine Tr.ownNil _ _ (Tr.appendOf rfl rfl (by repeat (first | exact Del.here _ | apply Del.there)) (fun w hw => hw.slF (by assumption)) Try.underlying130 HLF.info23 (by rfl) (by rfl) (by (try simp only [List.length_cons, List.length_nil, List.length_append, List.length_take]); omega) (by unfold maxLen; (try simp only [List.length_cons, List.length_nil, List.length_append, List.length_take]); omega) rfl (fun V3 => ?_)) | refine Tr.appendOf rfl rfl (by repeat (first | exact Del.here _ | apply Del.there)) (fun w hw => hw.row (by repeat (first | exact List.Mem.head _ | apply List.Mem.tail))) Try.underlying130 HLF.info23 (by rfl) (by rfl) (by (try simp only [List.length_cons, List.length_nil, List.length_append, List.length_take]); omega) (by unfold maxLen; (try simp only [List.length_cons, List.length_nil, List.length_append, List.length_take]); omega) rfl (fun V3 => ?_)
    refine Tr.q (QS.assign rfl) rfl ?_
    refine Tr.nil ?_
    refine Tr.thenN ?_
    refine Tr.region ?_
    refine Tr.q (QS.move rfl) rfl ?_
    refine Tr.q (QS.move rfl) rfl ?_
    refine Tr.q (QS.move rfl) rfl ?_
    first | refine Tr.q (QS.idxN rfl rfl (by assumption) Try.underlying30 Try.sizeOf73 (by rfl) (by omega)) rfl ?_ | refine Tr.q (QS.idxRowN rfl rfl (by repeat (first | exact List.Mem.head _ | apply List.Mem.tail)) Try.underlying30 Try.sizeOf73 (by rfl) (by omega)) rfl ?_ | refine Tr.q (QS.idx rfl rfl (by assumption) Try.underlying30 Try.sizeOf73 (by rfl) (by omega)) rfl ?_ | refine Tr.q (QS.idxRow rfl rfl (by repeat (first | exact List.Mem.head _ | apply List.Mem.tail)) Try.underlying30 Try.sizeOf73 (by rfl) (by omega)) rfl ?_
    refine Tr.q (QS.fieldAddr (off := 1) (ft := 23) rfl Try.underlying73 rfl rfl Try.sizeOf23 (by decide)) rfl ?_
    first | refine Tr.q (QS.loadV rfl (by repeat (first | exact List.Mem.head _ | apply List.Mem.tail)) Try.isAgg23 (by rfl)) rfl ?_ | refine Tr.q (QS.loadC rfl (by assumption) Try.isAgg23) rfl ?_ | refine Tr.q (QS.loadCF rfl (by assumption) Try.isAgg23 (by rfl)) rfl ?_ | refine Tr.q (QS.el1 rfl (by assumption) Try.isAgg23 (by omega) (by rfl)) rfl ?_ | refine Tr.q (QS.elF rfl (by assumption) Try.isAgg23 (by omega) (by rfl)) rfl ?_ | refine Tr.q (QS.elR1 rfl (by repeat (first | exact List.Mem.head _ | apply List.Mem.tail)) Try.isAgg23 (by omega) (by rfl)) rfl ?_ | refine Tr.q (QS.elRF rfl (by repeat (first | exact List.Mem.head _ | apply List.Mem.tail)) Try.isAgg23 (by omega) (by rfl)) rfl ?_
    refine Tr.lit1 (E := encU32) _ rfl rfl Try.underlying130 Try.sizeOf23 Try.zeroValue23 (by rfl) (by rfl) rfl (fun V4 => ?_)
    first | refine Tr.append1 rfl rfl (by repeat (first | exact Del.here _ | apply Del.there)) (by repeat (first | exact Del.here _ | apply Del.there)) Try.underlying130 HLF.info23 (by rfl) (by rfl) (by (try simp only [List.length_cons, List.length_nil, List.length_append, List.length_take]); omega) (by unfold maxLen; (try simp only [List.length_cons, List.length_nil, List.length_append, List.length_take]); omega) rfl (fun V5 => ?_) | refine Tr.ownNil _ _ (Tr.append1 rfl rfl (by repeat (first | exact Del.here _ | apply Del.there)) (by repeat (first | exact Del.here _ | apply Del.there)) Try.underlying130 HLF.info23 (by rfl) (by rfl) (by (try simp only [List.length_cons, List.length_nil, List.length_append, List.length_take]); omega) (by unfold maxLen; (try simp only [List.length_cons, List.length_nil, List.length_append, List.length_take]); omega) rfl (fun V5 => ?_)) | refine Tr.appendOf rfl rfl (by repeat (first | exact Del.here _ | apply Del.there)) (fun w hw => hw.slF (by assumption)) Try.underlying130 HLF.info23 (by rfl) (by rfl) (by (try simp only [List.length_cons, List.length_nil, List.length_append, List.length_take]); omega) (by unfold maxLen; (try simp only [List.length_cons, List.length_nil, List.length_append, List.length_take]); omega) rfl (fun V5 => ?_) | refine Tr.ownNil _ _ (Tr.appendOf rfl rfl (by repeat (first | exact Del.here _ | apply Del.there)) (fun w hw => hw.slF (by assumption)) Try.underlying130 HLF.info23 (by rfl) (by rfl) (by (try simp only [List.length_cons, List.length_nil, List.length_append, List.length_take]); omega) (by unfold maxLen; (try simp only [List.length_cons, List.length_nil, List.length_append, List.length_take]); omega) rfl (fun V5 => ?_)) | refine Tr.appendOf rfl rfl (by repeat (first | exact Del.here _ | apply Del.there)) (fun w hw => hw.row (by repeat (first | exact List.Mem.head _ | apply List.Mem.tail))) Try.underlying130 HLF.info23 (by rfl) (by rfl) (by (try simp only [List.length_cons, List.length_nil, List.length_append, List.length_take]); omega) (by unfold maxLen; (try simp only [List.length_cons, List.length_nil, List.length_append, List.length_take]); omega) rfl (fun V5 => ?_)
    refine Tr.q (QS.assign rfl) rfl ?_
    refine Tr.nil ?_
    refine Tr.inN ?_
    refine Tr.thenN ?_
    refine Tr.region ?_
    refine Tr.q (QS.move rfl) rfl ?_
    first | refine Tr.q (QS.addI rfl rfl (by omega)) rfl ?_ | refine Tr.q (QS.add rfl rfl) rfl ?_
    refine Tr.q (QS.assign rfl) rfl ?_
    refine Tr.nil ?_
    refine Tr.thenN ?_
    have hst := pairs_take_succ (l := a) (k := k) (by omega)
    rw [← hst]
    apply Tr.again (k + 1, _)
    · exact rfl
    · exact (.cons (by first | rfl | exact lookI rfl (by omega) | exact lookI rfl (by simp) | exact lookB rfl (by simp)) (.cons (by first | rfl | exact lookI rfl (by omega) | exact lookI rfl (by simp) | exact lookB rfl (by simp)) Front.nil))
    · exact SubX.dropN 27 (by kernel_rfl) rfl
    · exact (by repeat' (first | exact Pick.nil _ | exact Del.here _ | apply Pick.cons | apply Del.there))
    · exact (by show k + 1 ≤ _; omega)
    · exact (by (try dsimp only); omega)
  · try simp only [Bool.and_eq_true, Bool.or_eq_true, Bool.not_eq_true', Bool.not_eq_false', decide_eq_true_eq, decide_eq_false_iff_not, Bool.and_eq_false_iff, Bool.or_eq_false_iff, ne_eq, Decidable.not_not] at h1
    refine Tr.exit ?_
    refine Tr.thenE ?_
    refine Tr.thenE ?_
    refine Tr.inHit ?_
    refine Tr.thenN ?_
    refine Tr.seq ?_
    refine Tr.seq ?_
    refine Tr.region ?_
    refine Tr.q (QS.assign rfl) rfl ?_
    refine Tr.nil ?_
    refine Tr.thenN ?_
    refine Tr.block ?_
    rw [show a.take k = a from List.take_of_length_le (by omega), ← List.append_nil (pairsOf a)]
    refine Tr.loop (ι := Nat × Value) (fun ⟨k2, V2⟩ => k2 ≤ b.length) (fun _ => _) (fun ⟨k2, V2⟩ => [rowE V2 23 encU32 (pairsOf a ++ pairsOf (b.take k2))]) (fun ⟨k2, V2⟩ => [(7, .int .i64 (k2 : Nat)), (5, V2)]) (fun ⟨k2, V2⟩ => b.length - k2) (0, _) (Nat.zero_le _) (.cons (by first | rfl | exact lookI rfl (by omega) | exact lookI rfl (by simp) | exact lookB rfl (by simp)) (.cons (by first | rfl | exact lookI rfl (by omega) | exact lookI rfl (by simp) | exact lookB rfl (by simp)) Front.nil)) (by repeat' (first | exact Pick.nil _ | exact Del.here _ | apply Pick.cons | apply Del.there)) rfl (fun i hi m hm => ?_)
    obtain ⟨k2, V2⟩ := i
    replace hi : k2 ≤ b.length := hi
    replace hm : m = b.length - k2 := hm
    change Tr _ _ [rowE V2 23 encU32 (pairsOf a ++ pairsOf (b.take k2))] ([(7, .int .i64 (k2 : Nat)), (5, V2)] ++ _) _
    have hpl := pairs_len (b.take k2)
    simp only [List.length_take] at hpl
    have hpa := pairs_len a
    refine Tr.seq ?_
    refine Tr.seq ?_
    refine Tr.region ?_
    refine Tr.q (QS.move rfl) rfl ?_
    refine Tr.q (QS.move rfl) rfl ?_
    first | refine Tr.q (QS.len rfl (by assumption) Try.underlying30) rfl ?_ | refine Tr.q (QS.lenRow rfl (by repeat (first | exact List.Mem.head _ | apply List.Mem.tail)) Try.underlying30) rfl ?_ | refine Tr.q (QS.lenNil rfl Try.underlying30) rfl ?_
    refine Tr.q (QS.lss rfl rfl) rfl ?_
    refine Tr.nil ?_
    refine Tr.thenN ?_
    refine Tr.cond rfl (fun h6 => ?_) (fun h6 => ?_)
    · try simp only [Bool.and_eq_true, Bool.or_eq_true, Bool.not_eq_true', Bool.not_eq_false', decide_eq_true_eq, decide_eq_false_iff_not, Bool.and_eq_false_iff, Bool.or_eq_false_iff, ne_eq, Decidable.not_not] at h6
      refine Tr.skip ?_
      refine Tr.thenN ?_
      refine Tr.seq ?_
      refine Tr.block ?_
      refine Tr.seq ?_
      refine Tr.region ?_
      refine Tr.q (QS.move rfl) rfl ?_
      refine Tr.q (QS.move rfl) rfl ?_
      refine Tr.q (QS.move rfl) rfl ?_
      first | refine Tr.q (QS.idxN rfl rfl (by assumption) Try.underlying30 Try.sizeOf73 (by rfl) (by omega)) rfl ?_ | refine Tr.q (QS.idxRowN rfl rfl (by repeat (first | exact List.Mem.head _ | apply List.Mem.tail)) Try.underlying30 Try.sizeOf73 (by rfl) (by omega)) rfl ?_ | refine Tr.q (QS.idx rfl rfl (by assumption) Try.underlying30 Try.sizeOf73 (by rfl) (by omega)) rfl ?_ | refine Tr.q (QS.idxRow rfl rfl (by repeat (first | exact List.Mem.head _ | apply List.Mem.tail)) Try.underlying30 Try.sizeOf73 (by rfl) (by omega)) rfl ?_
      refine Tr.q (QS.fieldAddr (off := 0) (ft := 23) rfl Try.underlying73 rfl rfl Try.sizeOf23 (by decide)) rfl ?_
      first | refine Tr.q (QS.loadV rfl (by repeat (first | exact List.Mem.head _ | apply List.Mem.tail)) Try.isAgg23 (by rfl)) rfl ?_ | refine Tr.q (QS.loadC rfl (by assumption) Try.isAgg23) rfl ?_ | refine Tr.q (QS.loadCF rfl (by assumption) Try.isAgg23 (by rfl)) rfl ?_ | refine Tr.q (QS.el1 rfl (by assumption) Try.isAgg23 (by omega) (by rfl)) rfl ?_ | refine Tr.q (QS.elF rfl (by assumption) Try.isAgg23 (by omega) (by rfl)) rfl ?_ | refine Tr.q (QS.elR1 rfl (by repeat (first | exact List.Mem.head _ | apply List.Mem.tail)) Try.isAgg23 (by omega) (by rfl)) rfl ?_ | refine Tr.q (QS.elRF rfl (by repeat (first | exact List.Mem.head _ | apply List.Mem.tail)) Try.isAgg23 (by omega) (by rfl)) rfl ?_
      refine Tr.lit1 (E := encU32) _ rfl rfl Try.underlying130 Try.sizeOf23 Try.zeroValue23 (by rfl) (by rfl) rfl (fun V7 => ?_)
      first | refine Tr.append1 rfl rfl (by repeat (first | exact Del.here _ | apply Del.there)) (by repeat (first | exact Del.here _ | apply Del.there)) Try.underlying130 HLF.info23 (by rfl) (by rfl) (by (try simp only [List.length_cons, List.length_nil, List.length_append, List.length_take]); omega) (by unfold maxLen; (try simp only [List.length_cons, List.length_nil, List.length_append, List.length_take]); omega) rfl (fun V8 => ?_) | refine Tr.ownNil _ _ (Tr.append1 rfl rfl (by repeat (first | exact Del.here _ | apply Del.there)) (by repeat (first | exact Del.here _ | apply Del.there)) Try.underlying130 HLF.info23 (by rfl) (by rfl) (by (try simp only [List.length_cons, List.length_nil, List.length_append, List.length_take]); omega) (by unfold maxLen; (try simp only [List.length_cons, List.length_nil, List.length_append, List.length_take]); omega) rfl (fun V8 => ?_)) | refine Tr.appendOf rfl rfl (by repeat (first | exact Del.here _ | apply Del.there)) (fun w hw => hw.slF (by assumption)) Try.underlying130 HLF.info23 (by rfl) (by rfl) (by (try simp only [List.length_cons, List.length_nil, List.length_append, List.length_take]); omega) (by unfold maxLen; (try simp only [List.length_cons, List.length_nil, List.length_append, List.length_take]); omega) rfl (fun V8 => ?_) | refine Tr.ownNil _ _ (Tr.appendOf rfl rfl (by repeat (first | exact Del.here _ | apply Del.there)) (fun w hw => hw.slF (by assumption)) Try.underlying130 HLF.info23 (by rfl) (by rfl) (by (try simp only [List.length_cons, List.length_nil, List.length_append, List.length_take]); omega) (by unfold maxLen; (try simp only [List.length_cons, List.length_nil, List.length_append, List.length_take]); omega) rfl (fun V8 => ?_)) | refine Tr.appendOf rfl rfl (by repeat (first | exact Del.here _ | apply Del.there)) (fun w hw => hw.row (by repeat (first | exact List.Mem.head _ | apply List.Mem.tail))) Try.underlying130 HLF.info23 (by rfl) (by rfl) (by (try simp only [List.length_cons, List.length_nil, List.length_append, List.length_take]); omega) (by unfold maxLen; (try simp only [List.length_cons, List.length_nil, List.length_append, List.length_take]); omega) rfl (fun V8 => ?_)
      refine Tr.q (QS.assign rfl) rfl ?_
      refine Tr.nil ?_
      refine Tr.thenN ?_
      refine Tr.region ?_
      refine Tr.q (QS.move rfl) rfl ?_
      refine Tr.q (QS.move rfl) rfl ?_
      refine Tr.q (QS.move rfl) rfl ?_
      first | refine Tr.q (QS.idxN rfl rfl (by assumption) Try.underlying30 Try.sizeOf73 (by rfl) (by omega)) rfl ?_ | refine Tr.q (QS.idxRowN rfl rfl (by repeat (first | exact List.Mem.head _ | apply List.Mem.tail)) Try.underlying30 Try.sizeOf73 (by rfl) (by omega)) rfl ?_ | refine Tr.q (QS.idx rfl rfl (by assumption) Try.underlying30 Try.sizeOf73 (by rfl) (by omega)) rfl ?_ | refine Tr.q (QS.idxRow rfl rfl (by repeat (first | exact List.Mem.head _ | apply List.Mem.tail)) Try.underlying30 Try.sizeOf73 (by rfl) (by omega)) rfl ?_
      refine Tr.q (QS.fieldAddr (off := 1) (ft := 23) rfl Try.underlying73 rfl rfl Try.sizeOf23 (by decide)) rfl ?_
      first | refine Tr.q (QS.loadV rfl (by repeat (first | exact List.Mem.head _ | apply List.Mem.tail)) Try.isAgg23 (by rfl)) rfl ?_ | refine Tr.q (QS.loadC rfl (by assumption) Try.isAgg23) rfl ?_ | refine Tr.q (QS.loadCF rfl (by assumption) Try.isAgg23 (by rfl)) rfl ?_ | refine Tr.q (QS.el1 rfl (by assumption) Try.isAgg23 (by omega) (by rfl)) rfl ?_ | refine Tr.q (QS.elF rfl (by assumption) Try.isAgg23 (by omega) (by rfl)) rfl ?_ | refine Tr.q (QS.elR1 rfl (by repeat (first | exact List.Mem.head _ | apply List.Mem.tail)) Try.isAgg23 (by omega) (by rfl)) rfl ?_ | refine Tr.q (QS.elRF rfl (by repeat (first | exact List.Mem.head _ | apply List.Mem.tail)) Try.isAgg23 (by omega) (by rfl)) rfl ?_
      refine Tr.lit1 (E := encU32) _ rfl rfl Try.underlying130 Try.sizeOf23 Try.zeroValue23 (by rfl) (by rfl) rfl (fun V9 => ?_)
      first | refine Tr.append1 rfl rfl (by repeat (first | exact Del.here _ | apply Del.there)) (by repeat (first | exact Del.here _ | apply Del.there)) Try.underlying130 HLF.info23 (by rfl) (by rfl) (by (try simp only [List.length_cons, List.length_nil, List.length_append, List.length_take]); omega) (by unfold maxLen; (try simp only [List.length_cons, List.length_nil, List.length_append, List.length_take]); omega) rfl (fun V10 => ?_) | refine Tr.ownNil _ _ (Tr.append1 rfl rfl (by repeat (first | exact Del.here _ | apply Del.there)) (by repeat (first | exact Del.here _ | apply Del.there)) Try.underlying130 HLF.info23 (by rfl) (by rfl) (by (try simp only [List.length_cons, List.length_nil, List.length_append, List.length_take]); omega) (by unfold maxLen; (try simp only [List.length_cons, List.length_nil, List.length_append, List.length_take]); omega) rfl (fun V10 => ?_)) | refine Tr.appendOf rfl rfl (by repeat (first | exact Del.here _ | apply Del.there)) (fun w hw => hw.slF (by assumption)) Try.underlying130 HLF.info23 (by rfl) (by rfl) (by (try simp only [List.length_cons, List.length_nil, List.length_append, List.length_take]); omega) (by unfold maxLen; (try simp only [List.length_cons, List.length_nil, List.length_append, List.length_take]); omega) rfl (fun V10 => ?_) | refine Tr.ownNil _ _ (Tr.appendOf rfl rfl (by repeat (first | exact Del.here _ | apply Del.there)) (fun w hw => hw.slF (by assumption)) Try.underlying130 HLF.info23 (by rfl) (by rfl) (by (try simp only [List.length_cons, List.length_nil, List.length_append, List.length_take]); omega) (by unfold maxLen; (try simp only [List.length_cons, List.length_nil, List.length_append, List.length_take]); omega) rfl (fun V10 => ?_)) | refine Tr.appendOf rfl rfl (by repeat (first | exact Del.here _ | apply Del.there)) (fun w hw => hw.row (by repeat (first | exact List.Mem.head _ | apply List.Mem.tail))) Try.underlying130 HLF.info23 (by rfl) (by rfl) (by (try simp only [List.length_cons, List.length_nil, List.length_append, List.length_take]); omega) (by unfold maxLen; (try simp only [List.length_cons, List.length_nil, List.length_append, List.length_take]); omega) rfl (fun V10 => ?_)
      refine Tr.q (QS.assign rfl) rfl ?_
      refine Tr.nil ?_
      refine Tr.inN ?_
      refine Tr.thenN ?_
      refine Tr.region ?_
      refine Tr.q (QS.move rfl) rfl ?_
      first | refine Tr.q (QS.addI rfl rfl (by omega)) rfl ?_ | refine Tr.q (QS.add rfl rfl) rfl ?_
      refine Tr.q (QS.assign rfl) rfl ?_
      refine Tr.nil ?_
      refine Tr.thenN ?_
      have hst := pairs_take_succ (l := b) (k := k2) (by omega)
      rw [List.append_assoc, List.append_assoc, ← List.append_assoc (pairsOf (b.take k2)), ← hst]
      apply Tr.again (k2 + 1, _)
      · exact rfl
      · exact (.cons (by first | rfl | exact lookI rfl (by omega) | exact lookI rfl (by simp) | exact lookB rfl (by simp)) (.cons (by first | rfl | exact lookI rfl (by omega) | exact lookI rfl (by simp) | exact lookB rfl (by simp)) Front.nil))
      · exact SubX.dropN 27 (by kernel_rfl) rfl
      · exact (by repeat' (first | exact Pick.nil _ | exact Del.here _ | apply Pick.cons | apply Del.there))
      · exact (by show k2 + 1 ≤ _; omega)
      · exact (by (try dsimp only); omega)
    · try simp only [Bool.and_eq_true, Bool.or_eq_true, Bool.not_eq_true', Bool.not_eq_false', decide_eq_true_eq, decide_eq_false_iff_not, Bool.and_eq_false_iff, Bool.or_eq_false_iff, ne_eq, Decidable.not_not] at h6
      refine Tr.exit ?_
      refine Tr.thenE ?_
      refine Tr.thenE ?_
      refine Tr.inHit ?_
      refine Tr.thenN ?_
      refine Tr.seq ?_
      refine Tr.region ?_
      refine Tr.q (QS.assign rfl) rfl ?_
      refine Tr.nil ?_
      refine Tr.thenN ?_
      refine Tr.seq ?_
      refine Tr.block ?_
      rw [show b.take k2 = b from List.take_of_length_le (by omega)]
      refine Tr.ownNil 23 encU32 ?_
      refine Tr.loop (ι := Value × List UInt32) (fun ⟨V3, out⟩ => out.length ≤ (pairsOf a ++ pairsOf b).length ∧ boundsF (pairsOf a ++ pairsOf b) ((pairsOf a ++ pairsOf b).length - out.length) out = boundsP a b) (fun _ => _) (fun ⟨V3, out⟩ => [rowE V3 23 encU32 out, rowE V2 23 encU32 (pairsOf a ++ pairsOf b)]) (fun ⟨V3, out⟩ => [(8, V3)]) (fun ⟨V3, out⟩ => (pairsOf a ++ pairsOf b).length - out.length) (_, []) ⟨Nat.zero_le _, rfl⟩ (.cons (by first | rfl | exact lookI rfl (by omega) | exact lookI rfl (by simp) | exact lookB rfl (by simp)) Front.nil) (by repeat' (first | exact Pick.nil _ | exact Del.here _ | apply Pick.cons | apply Del.there)) rfl (fun i hi m hm => ?_)
      obtain ⟨V3, out⟩ := i
      replace hi : out.length ≤ (pairsOf a ++ pairsOf b).length ∧ boundsF (pairsOf a ++ pairsOf b) ((pairsOf a ++ pairsOf b).length - out.length) out = boundsP a b := hi
      replace hm : m = (pairsOf a ++ pairsOf b).length - out.length := hm
      change Tr _ _ [rowE V3 23 encU32 out, rowE V2 23 encU32 (pairsOf a ++ pairsOf b)] ([(8, V3)] ++ _) _
      obtain ⟨ho, hi2⟩ := hi
      have hpa := pairs_len a
      have hpb := pairs_len b
      have hal : (pairsOf a ++ pairsOf b).length = 2 * a.length + 2 * b.length := by simp only [List.length_append]; omega
      revert hal ho hi2 hm
      generalize (pairsOf a ++ pairsOf b) = all
      intro hm ho hi2 hal
      refine Tr.seq ?_
      refine Tr.seq ?_
      refine Tr.region ?_
      refine Tr.q (QS.move rfl) rfl ?_
      first | refine Tr.q (QS.len rfl (by assumption) Try.underlying130) rfl ?_ | refine Tr.q (QS.lenRow rfl (by repeat (first | exact List.Mem.head _ | apply List.Mem.tail)) Try.underlying130) rfl ?_ | refine Tr.q (QS.lenNil rfl Try.underlying130) rfl ?_
      refine Tr.q (QS.move rfl) rfl ?_
      first | refine Tr.q (QS.len rfl (by assumption) Try.underlying130) rfl ?_ | refine Tr.q (QS.lenRow rfl (by repeat (first | exact List.Mem.head _ | apply List.Mem.tail)) Try.underlying130) rfl ?_ | refine Tr.q (QS.lenNil rfl Try.underlying130) rfl ?_
      refine Tr.q (QS.lss rfl rfl) rfl ?_
      refine Tr.nil ?_
      refine Tr.thenN ?_
      refine Tr.cond rfl (fun h11 => ?_) (fun h11 => ?_)
      · try simp only [Bool.and_eq_true, Bool.or_eq_true, Bool.not_eq_true', Bool.not_eq_false', decide_eq_true_eq, decide_eq_false_iff_not, Bool.and_eq_false_iff, Bool.or_eq_false_iff, ne_eq, Decidable.not_not] at h11
        refine Tr.skip ?_
        refine Tr.thenN ?_
        refine Tr.block ?_
        refine Tr.seq ?_
        refine Tr.region ?_
        refine Tr.q (QS.assign rfl) rfl ?_
        refine Tr.nil ?_
        refine Tr.thenN ?_
        refine Tr.seq ?_
        refine Tr.region ?_
        refine Tr.q (QS.assign rfl) rfl ?_
        refine Tr.nil ?_
        refine Tr.thenN ?_
        refine Tr.seq ?_
        refine Tr.seq ?_
        refine Tr.region ?_
        refine Tr.q (QS.assign rfl) rfl ?_
        refine Tr.nil ?_
        refine Tr.thenN ?_
        refine Tr.block ?_
        refine Tr.loop (ι := Nat × (UInt32 × Bool)) (fun ⟨j, s⟩ => j ≤ all.length ∧ (all.take j).foldl (scanStep out) (0, false) = s) (fun _ => _) (fun ⟨j, s⟩ => [rowE V3 23 encU32 out, rowE V2 23 encU32 all]) (fun ⟨j, s⟩ => [(11, .int .i64 (j : Nat)), (9, .int .u32 s.1.toNat), (10, .bool s.2)]) (fun ⟨j, s⟩ => all.length - j) (0, (0, false)) ⟨Nat.zero_le _, rfl⟩ (.cons (by first | rfl | exact lookI rfl (by omega) | exact lookI rfl (by simp) | exact lookB rfl (by simp)) (.cons (by first | rfl | exact lookI rfl (by omega) | exact lookI rfl (by simp) | exact lookB rfl (by simp)) (.cons (by first | rfl | exact lookI rfl (by omega) | exact lookI rfl (by simp) | exact lookB rfl (by simp)) Front.nil))) (by repeat' (first | exact Pick.nil _ | exact Del.here _ | apply Pick.cons | apply Del.there)) rfl (fun i hi m hm => ?_)
        obtain ⟨j, s⟩ := i
        replace hi : j ≤ all.length ∧ (all.take j).foldl (scanStep out) (0, false) = s := hi
        replace hm : m = all.length - j := hm
        change Tr _ _ [rowE V3 23 encU32 out, rowE V2 23 encU32 all] ([(11, .int .i64 (j : Nat)), (9, .int .u32 s.1.toNat), (10, .bool s.2)] ++ _) _
        obtain ⟨hj, hs⟩ := hi
        refine Tr.seq ?_
        refine Tr.seq ?_
        refine Tr.region ?_
        refine Tr.q (QS.move rfl) rfl ?_
        refine Tr.q (QS.move rfl) rfl ?_
        first | refine Tr.q (QS.len rfl (by assumption) Try.underlying130) rfl ?_ | refine Tr.q (QS.lenRow rfl (by repeat (first | exact List.Mem.head _ | apply List.Mem.tail)) Try.underlying130) rfl ?_ | refine Tr.q (QS.lenNil rfl Try.underlying130) rfl ?_
        refine Tr.q (QS.lss rfl rfl) rfl ?_
        refine Tr.nil ?_
        refine Tr.thenN ?_
        refine Tr.cond rfl (fun h12 => ?_) (fun h12 => ?_)
        · try simp only [Bool.and_eq_true, Bool.or_eq_true, Bool.not_eq_true', Bool.not_eq_false', decide_eq_true_eq, decide_eq_false_iff_not, Bool.and_eq_false_iff, Bool.or_eq_false_iff, ne_eq, Decidable.not_not] at h12
          refine Tr.skip ?_
          refine Tr.thenN ?_
          refine Tr.seq ?_
          refine Tr.block ?_
          refine Tr.seq ?_
          refine Tr.regionQ HLF.mixed (by kernel_rfl) ?_
          refine TrQ.q (QS.move rfl) rfl ?_
          first | refine TrQ.q (QS.len rfl (by assumption) Try.underlying130) rfl ?_ | refine TrQ.q (QS.lenRow rfl (by repeat (first | exact List.Mem.head _ | apply List.Mem.tail)) Try.underlying130) rfl ?_ | refine TrQ.q (QS.lenNil rfl Try.underlying130) rfl ?_
          refine TrQ.q (QS.eql rfl rfl) rfl ?_
          refine TrQ.q (QS.move rfl) rfl ?_
          apply TrQ.or (t := 70) (d := 82) 12
          · exact rfl
          · intro hF13; have hF13' := hF13
            try simp only [Bool.and_eq_true, Bool.or_eq_true, Bool.not_eq_true', Bool.not_eq_false', decide_eq_true_eq, decide_eq_false_iff_not, Bool.and_eq_false_iff, Bool.or_eq_false_iff, ne_eq, Decidable.not_not] at hF13'
            refine TrQ.gq rfl rfl hF13 (QS.move rfl) rfl ?_
            refine TrQ.gq rfl rfl hF13 (QS.move rfl) rfl ?_
            first | refine TrQ.gq rfl rfl hF13 (QS.idxN rfl rfl (by assumption) Try.underlying130 Try.sizeOf23 (by rfl) (by omega)) rfl ?_ | refine TrQ.gq rfl rfl hF13 (QS.idxRowN rfl rfl (by repeat (first | exact List.Mem.head _ | apply List.Mem.tail)) Try.underlying130 Try.sizeOf23 (by rfl) (by omega)) rfl ?_ | refine TrQ.gq rfl rfl hF13 (QS.idx rfl rfl (by assumption) Try.underlying130 Try.sizeOf23 (by rfl) (by omega)) rfl ?_ | refine TrQ.gq rfl rfl hF13 (QS.idxRow rfl rfl (by repeat (first | exact List.Mem.head _ | apply List.Mem.tail)) Try.underlying130 Try.sizeOf23 (by rfl) (by omega)) rfl ?_
            first | refine TrQ.gq rfl rfl hF13 (QS.loadV rfl (by repeat (first | exact List.Mem.head _ | apply List.Mem.tail)) Try.isAgg23 (by rfl)) rfl ?_ | refine TrQ.gq rfl rfl hF13 (QS.loadC rfl (by assumption) Try.isAgg23) rfl ?_ | refine TrQ.gq rfl rfl hF13 (QS.loadCF rfl (by assumption) Try.isAgg23 (by rfl)) rfl ?_ | refine TrQ.gq rfl rfl hF13 (QS.el1 rfl (by assumption) Try.isAgg23 (by omega) (by rfl)) rfl ?_ | refine TrQ.gq rfl rfl hF13 (QS.elF rfl (by assumption) Try.isAgg23 (by omega) (by rfl)) rfl ?_ | refine TrQ.gq rfl rfl hF13 (QS.elR1 rfl (by repeat (first | exact List.Mem.head _ | apply List.Mem.tail)) Try.isAgg23 (by omega) (by rfl)) rfl ?_ | refine TrQ.gq rfl rfl hF13 (QS.elRF rfl (by repeat (first | exact List.Mem.head _ | apply List.Mem.tail)) Try.isAgg23 (by omega) (by rfl)) rfl ?_
            refine TrQ.gq rfl rfl hF13 (QS.move rfl) rfl ?_
            refine TrQ.gq rfl rfl hF13 (QS.move rfl) rfl ?_
            first | refine TrQ.gq rfl rfl hF13 (QS.len rfl (by assumption) Try.underlying130) rfl ?_ | refine TrQ.gq rfl rfl hF13 (QS.lenRow rfl (by repeat (first | exact List.Mem.head _ | apply List.Mem.tail)) Try.underlying130) rfl ?_ | refine TrQ.gq rfl rfl hF13 (QS.lenNil rfl Try.underlying130) rfl ?_
            first | refine TrQ.gq rfl rfl hF13 (QS.subI rfl rfl (by omega)) rfl ?_ | refine TrQ.gq rfl rfl hF13 (QS.sub rfl rfl) rfl ?_
            first | refine TrQ.gq rfl rfl hF13 (QS.idxN rfl rfl (by assumption) Try.underlying130 Try.sizeOf23 (by rfl) (by omega)) rfl ?_ | refine TrQ.gq rfl rfl hF13 (QS.idxRowN rfl rfl (by repeat (first | exact List.Mem.head _ | apply List.Mem.tail)) Try.underlying130 Try.sizeOf23 (by rfl) (by omega)) rfl ?_ | refine TrQ.gq rfl rfl hF13 (QS.idx rfl rfl (by assumption) Try.underlying130 Try.sizeOf23 (by rfl) (by omega)) rfl ?_ | refine TrQ.gq rfl rfl hF13 (QS.idxRow rfl rfl (by repeat (first | exact List.Mem.head _ | apply List.Mem.tail)) Try.underlying130 Try.sizeOf23 (by rfl) (by omega)) rfl ?_
            first | refine TrQ.gq rfl rfl hF13 (QS.loadV rfl (by repeat (first | exact List.Mem.head _ | apply List.Mem.tail)) Try.isAgg23 (by rfl)) rfl ?_ | refine TrQ.gq rfl rfl hF13 (QS.loadC rfl (by assumption) Try.isAgg23) rfl ?_ | refine TrQ.gq rfl rfl hF13 (QS.loadCF rfl (by assumption) Try.isAgg23 (by rfl)) rfl ?_ | refine TrQ.gq rfl rfl hF13 (QS.el1 rfl (by assumption) Try.isAgg23 (by omega) (by rfl)) rfl ?_ | refine TrQ.gq rfl rfl hF13 (QS.elF rfl (by assumption) Try.isAgg23 (by omega) (by rfl)) rfl ?_ | refine TrQ.gq rfl rfl hF13 (QS.elR1 rfl (by repeat (first | exact List.Mem.head _ | apply List.Mem.tail)) Try.isAgg23 (by omega) (by rfl)) rfl ?_ | refine TrQ.gq rfl rfl hF13 (QS.elRF rfl (by repeat (first | exact List.Mem.head _ | apply List.Mem.tail)) Try.isAgg23 (by omega) (by rfl)) rfl ?_
            refine TrQ.gq rfl rfl hF13 (QS.gtr32 rfl rfl) rfl ?_
            refine TrQ.q (QS.pickF rfl hF13 rfl) rfl ?_
            exact TrQ.end (Sub.cons rfl (Sub.dropN 12 (by kernel_rfl) rfl))
          · intro hT13
            refine TrQ.gskip rfl rfl hT13 rfl ?_
            refine TrQ.gskip rfl rfl hT13 rfl ?_
            refine TrQ.gskip rfl rfl hT13 rfl ?_
            refine TrQ.gskip rfl rfl hT13 rfl ?_
            refine TrQ.gskip rfl rfl hT13 rfl ?_
            refine TrQ.gskip rfl rfl hT13 rfl ?_
            refine TrQ.gskip rfl rfl hT13 rfl ?_
            refine TrQ.gskip rfl rfl hT13 rfl ?_
            refine TrQ.gskip rfl rfl hT13 rfl ?_
            refine TrQ.gskip rfl rfl hT13 rfl ?_
            refine TrQ.gskip rfl rfl hT13 rfl ?_
            refine TrQ.q (QS.pickT rfl hT13 rfl) rfl ?_
            exact TrQ.end (Sub.cons rfl (Sub.dropN 12 (by kernel_rfl) rfl))
          refine TrQ.q (QS.move rfl) rfl ?_
          apply TrQ.and (t := 83) (d := 94) 11
          · exact rfl
          · intro hT14; have hT14' := hT14
            try simp only [Bool.and_eq_true, Bool.or_eq_true, Bool.not_eq_true', Bool.not_eq_false', decide_eq_true_eq, decide_eq_false_iff_not, Bool.and_eq_false_iff, Bool.or_eq_false_iff, ne_eq, Decidable.not_not] at hT14'
            refine TrQ.gq rfl rfl hT14 (QS.move rfl) rfl ?_
            refine TrQ.gq rfl rfl hT14 (QS.not rfl) rfl ?_
            refine TrQ.gq rfl rfl hT14 (QS.move rfl) rfl ?_
            apply TrQ.or (t := 86) (d := 93) 7
            · exact rfl
            · intro hF15; have hF15' := hF15
              try simp only [Bool.and_eq_true, Bool.or_eq_true, Bool.not_eq_true', Bool.not_eq_false', decide_eq_true_eq, decide_eq_false_iff_not, Bool.and_eq_false_iff, Bool.or_eq_false_iff, ne_eq, Decidable.not_not] at hF15'
              refine TrQ.gq rfl rfl hF15 (QS.move rfl) rfl ?_
              refine TrQ.gq rfl rfl hF15 (QS.move rfl) rfl ?_
              first | refine TrQ.gq rfl rfl hF15 (QS.idxN rfl rfl (by assumption) Try.underlying130 Try.sizeOf23 (by rfl) (by omega)) rfl ?_ | refine TrQ.gq rfl rfl hF15 (QS.idxRowN rfl rfl (by repeat (first | exact List.Mem.head _ | apply List.Mem.tail)) Try.underlying130 Try.sizeOf23 (by rfl) (by omega)) rfl ?_ | refine TrQ.gq rfl rfl hF15 (QS.idx rfl rfl (by assumption) Try.underlying130 Try.sizeOf23 (by rfl) (by omega)) rfl ?_ | refine TrQ.gq rfl rfl hF15 (QS.idxRow rfl rfl (by repeat (first | exact List.Mem.head _ | apply List.Mem.tail)) Try.underlying130 Try.sizeOf23 (by rfl) (by omega)) rfl ?_
              first | refine TrQ.gq rfl rfl hF15 (QS.loadV rfl (by repeat (first | exact List.Mem.head _ | apply List.Mem.tail)) Try.isAgg23 (by rfl)) rfl ?_ | refine TrQ.gq rfl rfl hF15 (QS.loadC rfl (by assumption) Try.isAgg23) rfl ?_ | refine TrQ.gq rfl rfl hF15 (QS.loadCF rfl (by assumption) Try.isAgg23 (by rfl)) rfl ?_ | refine TrQ.gq rfl rfl hF15 (QS.el1 rfl (by assumption) Try.isAgg23 (by omega) (by rfl)) rfl ?_ | refine TrQ.gq rfl rfl hF15 (QS.elF rfl (by assumption) Try.isAgg23 (by omega) (by rfl)) rfl ?_ | refine TrQ.gq rfl rfl hF15 (QS.elR1 rfl (by repeat (first | exact List.Mem.head _ | apply List.Mem.tail)) Try.isAgg23 (by omega) (by rfl)) rfl ?_ | refine TrQ.gq rfl rfl hF15 (QS.elRF rfl (by repeat (first | exact List.Mem.head _ | apply List.Mem.tail)) Try.isAgg23 (by omega) (by rfl)) rfl ?_
              refine TrQ.gq rfl rfl hF15 (QS.move rfl) rfl ?_
              refine TrQ.gq rfl rfl hF15 (QS.lss32 rfl rfl) rfl ?_
              refine TrQ.gq rfl rfl hT14 (QS.pickF rfl hF15 rfl) rfl ?_
              exact TrQ.end (Sub.cons rfl (Sub.dropN 7 (by kernel_rfl) rfl))
            · intro hT15
              refine TrQ.gskip rfl rfl hT15 rfl ?_
              refine TrQ.gskip rfl rfl hT15 rfl ?_
              refine TrQ.gskip rfl rfl hT15 rfl ?_
              refine TrQ.gskip rfl rfl hT15 rfl ?_
              refine TrQ.gskip rfl rfl hT15 rfl ?_
              refine TrQ.gskip rfl rfl hT15 rfl ?_
              refine TrQ.gq rfl rfl hT14 (QS.pickT rfl hT15 rfl) rfl ?_
              exact TrQ.end (Sub.cons rfl (Sub.dropN 7 (by kernel_rfl) rfl))
            refine TrQ.q (QS.pickT rfl hT14 rfl) rfl ?_
            exact TrQ.end (Sub.cons rfl (Sub.dropN 5 (by kernel_rfl) rfl))
          · intro hF14
            refine TrQ.gskip rfl rfl hF14 rfl ?_
            refine TrQ.gskip rfl rfl hF14 rfl ?_
            refine TrQ.gskip rfl rfl hF14 rfl ?_
            refine TrQ.gskipU rfl rfl rfl ?_
            refine TrQ.gskipU rfl rfl rfl ?_
            refine TrQ.gskipU rfl rfl rfl ?_
            refine TrQ.gskipU rfl rfl rfl ?_
            refine TrQ.gskipU rfl rfl rfl ?_
            refine TrQ.gskipU rfl rfl rfl ?_
            refine TrQ.gskip rfl rfl hF14 rfl ?_
            refine TrQ.q (QS.pickF rfl hF14 rfl) rfl ?_
            exact TrQ.end (Sub.cons rfl (Sub.dropN 11 (by kernel_rfl) rfl))
          refine TrQ.nil ?_
          refine Tr.thenN ?_
          refine Tr.cond rfl (fun h16 => ?_) (fun h16 => ?_)
          · try simp only [Bool.and_eq_true, Bool.or_eq_true, Bool.not_eq_true', Bool.not_eq_false', decide_eq_true_eq, decide_eq_false_iff_not, Bool.and_eq_false_iff, Bool.or_eq_false_iff, ne_eq, Decidable.not_not] at h16
            refine Tr.seq ?_
            refine Tr.region ?_
            refine Tr.q (QS.move rfl) rfl ?_
            refine Tr.q (QS.move rfl) rfl ?_
            first | refine Tr.q (QS.idxN rfl rfl (by assumption) Try.underlying130 Try.sizeOf23 (by rfl) (by omega)) rfl ?_ | refine Tr.q (QS.idxRowN rfl rfl (by repeat (first | exact List.Mem.head _ | apply List.Mem.tail)) Try.underlying130 Try.sizeOf23 (by rfl) (by omega)) rfl ?_ | refine Tr.q (QS.idx rfl rfl (by assumption) Try.underlying130 Try.sizeOf23 (by rfl) (by omega)) rfl ?_ | refine Tr.q (QS.idxRow rfl rfl (by repeat (first | exact List.Mem.head _ | apply List.Mem.tail)) Try.underlying130 Try.sizeOf23 (by rfl) (by omega)) rfl ?_
            first | refine Tr.q (QS.loadV rfl (by repeat (first | exact List.Mem.head _ | apply List.Mem.tail)) Try.isAgg23 (by rfl)) rfl ?_ | refine Tr.q (QS.loadC rfl (by assumption) Try.isAgg23) rfl ?_ | refine Tr.q (QS.loadCF rfl (by assumption) Try.isAgg23 (by rfl)) rfl ?_ | refine Tr.q (QS.el1 rfl (by assumption) Try.isAgg23 (by omega) (by rfl)) rfl ?_ | refine Tr.q (QS.elF rfl (by assumption) Try.isAgg23 (by omega) (by rfl)) rfl ?_ | refine Tr.q (QS.elR1 rfl (by repeat (first | exact List.Mem.head _ | apply List.Mem.tail)) Try.isAgg23 (by omega) (by rfl)) rfl ?_ | refine Tr.q (QS.elRF rfl (by repeat (first | exact List.Mem.head _ | apply List.Mem.tail)) Try.isAgg23 (by omega) (by rfl)) rfl ?_
            refine Tr.q (QS.assign rfl) rfl ?_
            refine Tr.nil ?_
            refine Tr.thenN ?_
            refine Tr.region ?_
            refine Tr.q (QS.assign rfl) rfl ?_
            refine Tr.nil ?_
            refine Tr.inN ?_
            refine Tr.thenN ?_
            refine Tr.region ?_
            refine Tr.q (QS.move rfl) rfl ?_
            first | refine Tr.q (QS.addI rfl rfl (by omega)) rfl ?_ | refine Tr.q (QS.add rfl rfl) rfl ?_
            refine Tr.q (QS.assign rfl) rfl ?_
            refine Tr.nil ?_
            refine Tr.thenN ?_
            apply Tr.again (j + 1, (all.getD j default, true))
            · exact rfl
            · exact (.cons (by first | rfl | exact lookI rfl (by omega) | exact lookI rfl (by simp) | exact lookB rfl (by simp)) (.cons (by first | rfl | exact lookI rfl (by omega) | exact lookI rfl (by simp) | exact lookB rfl (by simp)) (.cons (by first | rfl | exact lookI rfl (by omega) | exact lookI rfl (by simp) | exact lookB rfl (by simp)) Front.nil)))
            · exact SubX.dropN 23 (by kernel_rfl) rfl
            · exact (by repeat' (first | exact Pick.nil _ | exact Del.here _ | apply Pick.cons | apply Del.there))
            · exact ⟨by omega, by rw [foldl_take_succ (by omega), hs, scanStep, if_pos (by assumption)]⟩
            · exact (by (try dsimp only); omega)
          · try simp only [Bool.and_eq_true, Bool.or_eq_true, Bool.not_eq_true', Bool.not_eq_false', decide_eq_true_eq, decide_eq_false_iff_not, Bool.and_eq_false_iff, Bool.or_eq_false_iff, ne_eq, Decidable.not_not] at h16
            refine Tr.skip ?_
            refine Tr.inN ?_
            refine Tr.thenN ?_
            refine Tr.region ?_
            refine Tr.q (QS.move rfl) rfl ?_
            first | refine Tr.q (QS.addI rfl rfl (by omega)) rfl ?_ | refine Tr.q (QS.add rfl rfl) rfl ?_
            refine Tr.q (QS.assign rfl) rfl ?_
            refine Tr.nil ?_
            refine Tr.thenN ?_
            apply Tr.again (j + 1, s)
            · exact rfl
            · exact (.cons (by first | rfl | exact lookI rfl (by omega) | exact lookI rfl (by simp) | exact lookB rfl (by simp)) (.cons (by first | rfl | exact lookI rfl (by omega) | exact lookI rfl (by simp) | exact lookB rfl (by simp)) (.cons (by first | rfl | exact lookI rfl (by omega) | exact lookI rfl (by simp) | exact lookB rfl (by simp)) Front.nil)))
            · exact SubX.dropN 17 (by kernel_rfl) rfl
            · exact (by repeat' (first | exact Pick.nil _ | exact Del.here _ | apply Pick.cons | apply Del.there))
            · exact ⟨by omega, by rw [foldl_take_succ (by omega), hs, scanStep_neg (by assumption)]⟩
            · exact (by (try dsimp only); omega)
        · try simp only [Bool.and_eq_true, Bool.or_eq_true, Bool.not_eq_true', Bool.not_eq_false', decide_eq_true_eq, decide_eq_false_iff_not, Bool.and_eq_false_iff, Bool.or_eq_false_iff, ne_eq, Decidable.not_not] at h12
          refine Tr.exit ?_
          refine Tr.thenE ?_
          refine Tr.thenE ?_
          refine Tr.inHit ?_
          refine Tr.thenN ?_
          refine Tr.seq ?_
          refine Tr.seq ?_
          have hsc : scan all out = s := by rw [← hs, List.take_of_length_le (by omega)]; rfl
          refine Tr.region ?_
          refine Tr.q (QS.move rfl) rfl ?_
          refine Tr.q (QS.not rfl) rfl ?_
          refine Tr.nil ?_
          refine Tr.thenN ?_
          refine Tr.cond rfl (fun h17 => ?_) (fun h17 => ?_)
          · try simp only [Bool.and_eq_true, Bool.or_eq_true, Bool.not_eq_true', Bool.not_eq_false', decide_eq_true_eq, decide_eq_false_iff_not, Bool.and_eq_false_iff, Bool.or_eq_false_iff, ne_eq, Decidable.not_not] at h17
            refine Tr.seq ?_
            refine Tr.region ?_
            refine Tr.q (QS.move rfl) rfl ?_
            refine Tr.q (QS.assign rfl) rfl ?_
            refine Tr.nil ?_
            refine Tr.thenN ?_
            refine Tr.ret ?_
            refine Tr.thenR ?_
            refine Tr.inR ?_
            refine Tr.thenR ?_
            refine Tr.inR ?_
            refine Tr.thenR ?_
            refine Tr.ret1 Try.results95 rfl (fun w' hw => ?_)
            have e : boundsP a b = out := by rw [← hi2, show all.length - out.length = (all.length - out.length - 1) + 1 by omega, boundsF, if_pos (by rw [hsc]; assumption)]
            exact ⟨_, rfl, hw.below (Bg.le.refl _), by rw [e]; exact hw.new (.head _)⟩
          · try simp only [Bool.and_eq_true, Bool.or_eq_true, Bool.not_eq_true', Bool.not_eq_false', decide_eq_true_eq, decide_eq_false_iff_not, Bool.and_eq_false_iff, Bool.or_eq_false_iff, ne_eq, Decidable.not_not] at h17
            refine Tr.skip ?_
            refine Tr.thenN ?_
            refine Tr.region ?_
            refine Tr.q (QS.move rfl) rfl ?_
            refine Tr.q (QS.move rfl) rfl ?_
            refine Tr.lit1 (E := encU32) _ rfl rfl Try.underlying130 Try.sizeOf23 Try.zeroValue23 (by rfl) (by rfl) rfl (fun V18 => ?_)
            first | refine Tr.append1 rfl rfl (by repeat (first | exact Del.here _ | apply Del.there)) (by repeat (first | exact Del.here _ | apply Del.there)) Try.underlying130 HLF.info23 (by rfl) (by rfl) (by (try simp only [List.length_cons, List.length_nil, List.length_append, List.length_take]); omega) (by unfold maxLen; (try simp only [List.length_cons, List.length_nil, List.length_append, List.length_take]); omega) rfl (fun V19 => ?_) | refine Tr.ownNil _ _ (Tr.append1 rfl rfl (by repeat (first | exact Del.here _ | apply Del.there)) (by repeat (first | exact Del.here _ | apply Del.there)) Try.underlying130 HLF.info23 (by rfl) (by rfl) (by (try simp only [List.length_cons, List.length_nil, List.length_append, List.length_take]); omega) (by unfold maxLen; (try simp only [List.length_cons, List.length_nil, List.length_append, List.length_take]); omega) rfl (fun V19 => ?_)) | refine Tr.appendOf rfl rfl (by repeat (first | exact Del.here _ | apply Del.there)) (fun w hw => hw.slF (by assumption)) Try.underlying130 HLF.info23 (by rfl) (by rfl) (by (try simp only [List.length_cons, List.length_nil, List.length_append, List.length_take]); omega) (by unfold maxLen; (try simp only [List.length_cons, List.length_nil, List.length_append, List.length_take]); omega) rfl (fun V19 => ?_) | refine Tr.ownNil _ _ (Tr.appendOf rfl rfl (by repeat (first | exact Del.here _ | apply Del.there)) (fun w hw => hw.slF (by assumption)) Try.underlying130 HLF.info23 (by rfl) (by rfl) (by (try simp only [List.length_cons, List.length_nil, List.length_append, List.length_take]); omega) (by unfold maxLen; (try simp only [List.length_cons, List.length_nil, List.length_append, List.length_take]); omega) rfl (fun V19 => ?_)) | refine Tr.appendOf rfl rfl (by repeat (first | exact Del.here _ | apply Del.there)) (fun w hw => hw.row (by repeat (first | exact List.Mem.head _ | apply List.Mem.tail))) Try.underlying130 HLF.info23 (by rfl) (by rfl) (by (try simp only [List.length_cons, List.length_nil, List.length_append, List.length_take]); omega) (by unfold maxLen; (try simp only [List.length_cons, List.length_nil, List.length_append, List.length_take]); omega) rfl (fun V19 => ?_)
            refine Tr.q (QS.assign rfl) rfl ?_
            refine Tr.nil ?_
            refine Tr.inN ?_
            refine Tr.thenN ?_
            apply Tr.again (_, out ++ [s.1])
            · exact rfl
            · exact (.cons (by first | rfl | exact lookI rfl (by omega) | exact lookI rfl (by simp) | exact lookB rfl (by simp)) Front.nil)
            · exact SubX.dropN 23 (by kernel_rfl) rfl
            · exact (by repeat' (first | exact Pick.nil _ | exact Del.here _ | apply Pick.cons | apply Del.there))
            · exact ⟨by simp; omega, by rw [← hi2, show all.length - out.length = (all.length - (out ++ [s.1]).length) + 1 by simp; omega, boundsF, if_neg (by rw [hsc]; simp_all), hsc]⟩
            · exact (by simp; omega)
      · try simp only [Bool.and_eq_true, Bool.or_eq_true, Bool.not_eq_true', Bool.not_eq_false', decide_eq_true_eq, decide_eq_false_iff_not, Bool.and_eq_false_iff, Bool.or_eq_false_iff, ne_eq, Decidable.not_not] at h11
        refine Tr.exit ?_
        refine Tr.thenE ?_
        refine Tr.thenE ?_
        refine Tr.inHit ?_
        refine Tr.thenN ?_
        refine Tr.seq ?_
        refine Tr.region ?_
        refine Tr.q (QS.move rfl) rfl ?_
        refine Tr.q (QS.assign rfl) rfl ?_
        refine Tr.nil ?_
        refine Tr.thenN ?_
        refine Tr.ret ?_
        refine Tr.ret1 Try.results95 rfl (fun w' hw => ?_)
        have e : boundsP a b = out := by rw [← hi2, show all.length - out.length = 0 by omega]; rfl
        exact ⟨_, rfl, hw.below (Bg.le.refl _), by rw [e]; exact hw.new (.head _)⟩

set_option maxRecDepth 100000 in
set_option maxHeartbeats 2000000 in
theorem choose_any (a b : List Rng) (V W : Value) (both without : Bool) (w : World) (hV : Sl (hp w) encRng a V) (hW : Sl (hp w) encRng b W) (ha : a.length ≤ 1000000) (hb : b.length ≤ 1000000) :
    Calls Try.prog 73 #[V, W, .bool both, .bool without] w (fun e w' => ∃ V', e = .returned V' ∧ Ext w w' ∧ NewRow w w' 73 encRng (chooseP a b both without) V') := by
  have hV' : Sl (Bg.of w).blk encRng a V := hV
  have hW' : Sl (Bg.of w).blk encRng b W := hW
  have hbl := boundsP_len a b
  obtain ⟨cuts, hcu⟩ : ∃ cuts, cuts = boundsP a b := ⟨_, rfl⟩
  rw [← hcu] at hbl
  refine enter Try.func73 rfl Try.ntmps73 rfl ?_
  refine Tr.seq ?_
  refine Tr.region ?_
  refine Tr.q (QS.assign rfl) rfl ?_
  refine Tr.nil ?_
  refine Tr.thenN ?_
  refine Tr.seq ?_
  refine Tr.region ?_
  refine Tr.q (QS.move rfl) rfl ?_
  refine Tr.q (QS.move rfl) rfl ?_
  refine Tr.callRow rfl Try.call95 (fun w hw => bounds_any a b V W w (hw.slF hV) (hw.slF hW) ha hb) rfl (fun V1 => ?_)
  refine Tr.q (QS.assign rfl) rfl ?_
  refine Tr.nil ?_
  refine Tr.thenN ?_
  refine Tr.seq ?_
  rw [← hcu]
  refine Tr.region ?_
  refine Tr.q (QS.assign rfl) rfl ?_
  refine Tr.nil ?_
  refine Tr.thenN ?_
  refine Tr.seq ?_
  refine Tr.seq ?_
  refine Tr.region ?_
  refine Tr.q (QS.assign rfl) rfl ?_
  refine Tr.nil ?_
  refine Tr.thenN ?_
  refine Tr.block ?_
  refine Tr.ownNil 73 encRng ?_
  refine Tr.loop (ι := Nat × Value × List Rng) (fun ⟨k, V', out⟩ => (k = 0 ∨ k + 1 ≤ cuts.length) ∧ out = chF a b both without cuts k) (fun _ => _) (fun ⟨k, V', out⟩ => [rowE V' 73 encRng out, rowE V1 23 encU32 cuts]) (fun ⟨k, V', out⟩ => [(11, .int .i64 (k : Nat)), (10, V')]) (fun ⟨k, V', out⟩ => cuts.length - k) (0, _, []) ⟨.inl rfl, rfl⟩ (.cons (by first | rfl | exact lookI rfl (by omega) | exact lookI rfl (by simp) | exact lookB rfl (by simp)) (.cons (by first | rfl | exact lookI rfl (by omega) | exact lookI rfl (by simp) | exact lookB rfl (by simp)) Front.nil)) (by repeat' (first | exact Pick.nil _ | exact Del.here _ | apply Pick.cons | apply Del.there)) rfl (fun i hi m hm => ?_)
  obtain ⟨k, V', out⟩ := i
  replace hi : (k = 0 ∨ k + 1 ≤ cuts.length) ∧ out = chF a b both without cuts k := hi
  replace hm : m = cuts.length - k := hm
  change Tr _ _ [rowE V' 73 encRng out, rowE V1 23 encU32 cuts] ([(11, .int .i64 (k : Nat)), (10, V')] ++ _) _
  obtain ⟨hk, ho⟩ := hi
  have hcl := chF_len a b both without cuts k
  rw [← ho] at hcl
  refine Tr.seq ?_
  refine Tr.seq ?_
  refine Tr.region ?_
  refine Tr.q (QS.move rfl) rfl ?_
  first | refine Tr.q (QS.addI rfl rfl (by omega)) rfl ?_ | refine Tr.q (QS.add rfl rfl) rfl ?_
  refine Tr.q (QS.move rfl) rfl ?_
  first | refine Tr.q (QS.len rfl (by assumption) Try.underlying130) rfl ?_ | refine Tr.q (QS.lenRow rfl (by repeat (first | exact List.Mem.head _ | apply List.Mem.tail)) Try.underlying130) rfl ?_ | refine Tr.q (QS.lenNil rfl Try.underlying130) rfl ?_
  refine Tr.q (QS.lss rfl rfl) rfl ?_
  refine Tr.nil ?_
  refine Tr.thenN ?_
  refine Tr.cond rfl (fun h2 => ?_) (fun h2 => ?_)
  · try simp only [Bool.and_eq_true, Bool.or_eq_true, Bool.not_eq_true', Bool.not_eq_false', decide_eq_true_eq, decide_eq_false_iff_not, Bool.and_eq_false_iff, Bool.or_eq_false_iff, ne_eq, Decidable.not_not] at h2
    refine Tr.skip ?_
    refine Tr.thenN ?_
    refine Tr.seq ?_
    refine Tr.block ?_
    refine Tr.seq ?_
    refine Tr.region ?_
    refine Tr.q (QS.move rfl) rfl ?_
    refine Tr.q (QS.move rfl) rfl ?_
    refine Tr.q (QS.move rfl) rfl ?_
    first | refine Tr.q (QS.idxN rfl rfl (by assumption) Try.underlying130 Try.sizeOf23 (by rfl) (by omega)) rfl ?_ | refine Tr.q (QS.idxRowN rfl rfl (by repeat (first | exact List.Mem.head _ | apply List.Mem.tail)) Try.underlying130 Try.sizeOf23 (by rfl) (by omega)) rfl ?_ | refine Tr.q (QS.idx rfl rfl (by assumption) Try.underlying130 Try.sizeOf23 (by rfl) (by omega)) rfl ?_ | refine Tr.q (QS.idxRow rfl rfl (by repeat (first | exact List.Mem.head _ | apply List.Mem.tail)) Try.underlying130 Try.sizeOf23 (by rfl) (by omega)) rfl ?_
    first | refine Tr.q (QS.loadV rfl (by repeat (first | exact List.Mem.head _ | apply List.Mem.tail)) Try.isAgg23 (by rfl)) rfl ?_ | refine Tr.q (QS.loadC rfl (by assumption) Try.isAgg23) rfl ?_ | refine Tr.q (QS.loadCF rfl (by assumption) Try.isAgg23 (by rfl)) rfl ?_ | refine Tr.q (QS.el1 rfl (by assumption) Try.isAgg23 (by omega) (by rfl)) rfl ?_ | refine Tr.q (QS.elF rfl (by assumption) Try.isAgg23 (by omega) (by rfl)) rfl ?_ | refine Tr.q (QS.elR1 rfl (by repeat (first | exact List.Mem.head _ | apply List.Mem.tail)) Try.isAgg23 (by omega) (by rfl)) rfl ?_ | refine Tr.q (QS.elRF rfl (by repeat (first | exact List.Mem.head _ | apply List.Mem.tail)) Try.isAgg23 (by omega) (by rfl)) rfl ?_
    refine Tr.q (QS.call rfl Try.call96 (fun w hw => refContains_any a V _ w (hw.slF hV))) rfl ?_
    refine Tr.q (QS.move rfl) rfl ?_
    apply Tr.or (t := 30) (d := 40) 10
    · exact rfl
    · intro hF3; have hF3' := hF3
      try simp only [Bool.and_eq_true, Bool.or_eq_true, Bool.not_eq_true', Bool.not_eq_false', decide_eq_true_eq, decide_eq_false_iff_not, Bool.and_eq_false_iff, Bool.or_eq_false_iff, ne_eq, Decidable.not_not] at hF3'
      refine Tr.gq rfl rfl hF3 (QS.move rfl) rfl ?_
      refine Tr.gq rfl rfl hF3 (QS.move rfl) rfl ?_
      apply Tr.and (t := 32) (d := 39) 7
      · exact rfl
      · intro hT4; have hT4' := hT4
        try simp only [Bool.and_eq_true, Bool.or_eq_true, Bool.not_eq_true', Bool.not_eq_false', decide_eq_true_eq, decide_eq_false_iff_not, Bool.and_eq_false_iff, Bool.or_eq_false_iff, ne_eq, Decidable.not_not] at hT4'
        refine Tr.gq rfl rfl hT4 (QS.move rfl) rfl ?_
        refine Tr.gq rfl rfl hT4 (QS.move rfl) rfl ?_
        refine Tr.gq rfl rfl hT4 (QS.move rfl) rfl ?_
        first | refine Tr.gq rfl rfl hT4 (QS.idxN rfl rfl (by assumption) Try.underlying130 Try.sizeOf23 (by rfl) (by omega)) rfl ?_ | refine Tr.gq rfl rfl hT4 (QS.idxRowN rfl rfl (by repeat (first | exact List.Mem.head _ | apply List.Mem.tail)) Try.underlying130 Try.sizeOf23 (by rfl) (by omega)) rfl ?_ | refine Tr.gq rfl rfl hT4 (QS.idx rfl rfl (by assumption) Try.underlying130 Try.sizeOf23 (by rfl) (by omega)) rfl ?_ | refine Tr.gq rfl rfl hT4 (QS.idxRow rfl rfl (by repeat (first | exact List.Mem.head _ | apply List.Mem.tail)) Try.underlying130 Try.sizeOf23 (by rfl) (by omega)) rfl ?_
        first | refine Tr.gq rfl rfl hT4 (QS.loadV rfl (by repeat (first | exact List.Mem.head _ | apply List.Mem.tail)) Try.isAgg23 (by rfl)) rfl ?_ | refine Tr.gq rfl rfl hT4 (QS.loadC rfl (by assumption) Try.isAgg23) rfl ?_ | refine Tr.gq rfl rfl hT4 (QS.loadCF rfl (by assumption) Try.isAgg23 (by rfl)) rfl ?_ | refine Tr.gq rfl rfl hT4 (QS.el1 rfl (by assumption) Try.isAgg23 (by omega) (by rfl)) rfl ?_ | refine Tr.gq rfl rfl hT4 (QS.elF rfl (by assumption) Try.isAgg23 (by omega) (by rfl)) rfl ?_ | refine Tr.gq rfl rfl hT4 (QS.elR1 rfl (by repeat (first | exact List.Mem.head _ | apply List.Mem.tail)) Try.isAgg23 (by omega) (by rfl)) rfl ?_ | refine Tr.gq rfl rfl hT4 (QS.elRF rfl (by repeat (first | exact List.Mem.head _ | apply List.Mem.tail)) Try.isAgg23 (by omega) (by rfl)) rfl ?_
        refine Tr.gq rfl rfl hT4 (QS.call rfl Try.call96 (fun w hw => refContains_any b W _ w (hw.slF hW))) rfl ?_
        refine Tr.gq rfl rfl hF3 (QS.pickT rfl hT4 rfl) rfl ?_
        refine Tr.nil (Tr.thenN ?_)
        first | exact Tr.end (Sub.cons rfl (Sub.dropN 7 (by kernel_rfl) rfl)) rfl rfl | exact Tr.endP (Sub.cons rfl (Sub.dropN 7 (by kernel_rfl) rfl)) rfl (by repeat' (first | exact Pick.nil _ | exact Del.here _ | apply Pick.cons | apply Del.there))
      · intro hF4
        refine Tr.gskip rfl rfl hF4 rfl ?_
        refine Tr.gskip rfl rfl hF4 rfl ?_
        refine Tr.gskip rfl rfl hF4 rfl ?_
        refine Tr.gskip rfl rfl hF4 rfl ?_
        refine Tr.gskip rfl rfl hF4 rfl ?_
        refine Tr.gskip rfl rfl hF4 rfl ?_
        refine Tr.gq rfl rfl hF3 (QS.pickF rfl hF4 rfl) rfl ?_
        refine Tr.nil (Tr.thenN ?_)
        first | exact Tr.end (Sub.cons rfl (Sub.dropN 7 (by kernel_rfl) rfl)) rfl rfl | exact Tr.endP (Sub.cons rfl (Sub.dropN 7 (by kernel_rfl) rfl)) rfl (by repeat' (first | exact Pick.nil _ | exact Del.here _ | apply Pick.cons | apply Del.there))
      refine Tr.q (QS.pickF rfl hF3 rfl) rfl ?_
      refine Tr.nil (Tr.thenN ?_)
      first | exact Tr.end (Sub.cons rfl (Sub.dropN 4 (by kernel_rfl) rfl)) rfl rfl | exact Tr.endP (Sub.cons rfl (Sub.dropN 4 (by kernel_rfl) rfl)) rfl (by repeat' (first | exact Pick.nil _ | exact Del.here _ | apply Pick.cons | apply Del.there))
    · intro hT3
      refine Tr.gskip rfl rfl hT3 rfl ?_
      refine Tr.gskip rfl rfl hT3 rfl ?_
      refine Tr.gskipU rfl rfl rfl ?_
      refine Tr.gskipU rfl rfl rfl ?_
      refine Tr.gskipU rfl rfl rfl ?_
      refine Tr.gskipU rfl rfl rfl ?_
      refine Tr.gskipU rfl rfl rfl ?_
      refine Tr.gskipU rfl rfl rfl ?_
      refine Tr.gskip rfl rfl hT3 rfl ?_
      refine Tr.q (QS.pickT rfl hT3 rfl) rfl ?_
      refine Tr.nil (Tr.thenN ?_)
      first | exact Tr.end (Sub.cons rfl (Sub.dropN 10 (by kernel_rfl) rfl)) rfl rfl | exact Tr.endP (Sub.cons rfl (Sub.dropN 10 (by kernel_rfl) rfl)) rfl (by repeat' (first | exact Pick.nil _ | exact Del.here _ | apply Pick.cons | apply Del.there))
    refine Tr.q (QS.assign rfl) rfl ?_
    refine Tr.nil ?_
    refine Tr.thenN ?_
    refine Tr.seq ?_
    refine Tr.seq ?_
    refine Tr.region ?_
    refine Tr.q (QS.move rfl) rfl ?_
    refine Tr.q (QS.move rfl) rfl ?_
    apply Tr.and (t := 42) (d := 49) 7
    · exact rfl
    · intro hT5; have hT5' := hT5
      try simp only [Bool.and_eq_true, Bool.or_eq_true, Bool.not_eq_true', Bool.not_eq_false', decide_eq_true_eq, decide_eq_false_iff_not, Bool.and_eq_false_iff, Bool.or_eq_false_iff, ne_eq, Decidable.not_not] at hT5'
      refine Tr.gq rfl rfl hT5 (QS.move rfl) rfl ?_
      refine Tr.gq rfl rfl hT5 (QS.move rfl) rfl ?_
      refine Tr.gq rfl rfl hT5 (QS.move rfl) rfl ?_
      first | refine Tr.gq rfl rfl hT5 (QS.idxN rfl rfl (by assumption) Try.underlying130 Try.sizeOf23 (by rfl) (by omega)) rfl ?_ | refine Tr.gq rfl rfl hT5 (QS.idxRowN rfl rfl (by repeat (first | exact List.Mem.head _ | apply List.Mem.tail)) Try.underlying130 Try.sizeOf23 (by rfl) (by omega)) rfl ?_ | refine Tr.gq rfl rfl hT5 (QS.idx rfl rfl (by assumption) Try.underlying130 Try.sizeOf23 (by rfl) (by omega)) rfl ?_ | refine Tr.gq rfl rfl hT5 (QS.idxRow rfl rfl (by repeat (first | exact List.Mem.head _ | apply List.Mem.tail)) Try.underlying130 Try.sizeOf23 (by rfl) (by omega)) rfl ?_
      first | refine Tr.gq rfl rfl hT5 (QS.loadV rfl (by repeat (first | exact List.Mem.head _ | apply List.Mem.tail)) Try.isAgg23 (by rfl)) rfl ?_ | refine Tr.gq rfl rfl hT5 (QS.loadC rfl (by assumption) Try.isAgg23) rfl ?_ | refine Tr.gq rfl rfl hT5 (QS.loadCF rfl (by assumption) Try.isAgg23 (by rfl)) rfl ?_ | refine Tr.gq rfl rfl hT5 (QS.el1 rfl (by assumption) Try.isAgg23 (by omega) (by rfl)) rfl ?_ | refine Tr.gq rfl rfl hT5 (QS.elF rfl (by assumption) Try.isAgg23 (by omega) (by rfl)) rfl ?_ | refine Tr.gq rfl rfl hT5 (QS.elR1 rfl (by repeat (first | exact List.Mem.head _ | apply List.Mem.tail)) Try.isAgg23 (by omega) (by rfl)) rfl ?_ | refine Tr.gq rfl rfl hT5 (QS.elRF rfl (by repeat (first | exact List.Mem.head _ | apply List.Mem.tail)) Try.isAgg23 (by omega) (by rfl)) rfl ?_
      refine Tr.gq rfl rfl hT5 (QS.call rfl Try.call96 (fun w hw => refContains_any b W _ w (hw.slF hW))) rfl ?_
      refine Tr.q (QS.pickT rfl hT5 rfl) rfl ?_
      refine Tr.nil (Tr.thenN ?_)
      first | exact Tr.end (Sub.cons rfl (Sub.dropN 7 (by kernel_rfl) rfl)) rfl rfl | exact Tr.endP (Sub.cons rfl (Sub.dropN 7 (by kernel_rfl) rfl)) rfl (by repeat' (first | exact Pick.nil _ | exact Del.here _ | apply Pick.cons | apply Del.there))
    · intro hF5
      refine Tr.gskip rfl rfl hF5 rfl ?_
      refine Tr.gskip rfl rfl hF5 rfl ?_
      refine Tr.gskip rfl rfl hF5 rfl ?_
      refine Tr.gskip rfl rfl hF5 rfl ?_
      refine Tr.gskip rfl rfl hF5 rfl ?_
      refine Tr.gskip rfl rfl hF5 rfl ?_
      refine Tr.q (QS.pickF rfl hF5 rfl) rfl ?_
      refine Tr.nil (Tr.thenN ?_)
      first | exact Tr.end (Sub.cons rfl (Sub.dropN 7 (by kernel_rfl) rfl)) rfl rfl | exact Tr.endP (Sub.cons rfl (Sub.dropN 7 (by kernel_rfl) rfl)) rfl (by repeat' (first | exact Pick.nil _ | exact Del.here _ | apply Pick.cons | apply Del.there))
    refine Tr.nil ?_
    refine Tr.thenN ?_
    refine Tr.cond rfl (fun h6 => ?_) (fun h6 => ?_)
    · try simp only [Bool.and_eq_true, Bool.or_eq_true, Bool.not_eq_true', Bool.not_eq_false', decide_eq_true_eq, decide_eq_false_iff_not, Bool.and_eq_false_iff, Bool.or_eq_false_iff, ne_eq, Decidable.not_not] at h6
      refine Tr.region ?_
      refine Tr.q (QS.assign rfl) rfl ?_
      refine Tr.nil ?_
      refine Tr.thenN ?_
      refine Tr.seq ?_
      refine Tr.seq ?_
      refine Tr.region ?_
      refine Tr.q (QS.move rfl) rfl ?_
      refine Tr.q (QS.not rfl) rfl ?_
      refine Tr.nil ?_
      refine Tr.thenN ?_
      refine Tr.cond rfl (fun h7 => ?_) (fun h7 => ?_)
      · try simp only [Bool.and_eq_true, Bool.or_eq_true, Bool.not_eq_true', Bool.not_eq_false', decide_eq_true_eq, decide_eq_false_iff_not, Bool.and_eq_false_iff, Bool.or_eq_false_iff, ne_eq, Decidable.not_not] at h7
        refine Tr.exit ?_
        refine Tr.thenE ?_
        refine Tr.inHit ?_
        refine Tr.thenN ?_
        refine Tr.region ?_
        refine Tr.q (QS.move rfl) rfl ?_
        first | refine Tr.q (QS.addI rfl rfl (by omega)) rfl ?_ | refine Tr.q (QS.add rfl rfl) rfl ?_
        refine Tr.q (QS.assign rfl) rfl ?_
        refine Tr.nil ?_
        refine Tr.thenN ?_
        apply Tr.again (k + 1, _, _)
        · exact rfl
        · exact (.cons (by first | rfl | exact lookI rfl (by omega) | exact lookI rfl (by simp) | exact lookB rfl (by simp)) (.cons (by first | rfl | exact lookI rfl (by omega) | exact lookI rfl (by simp) | exact lookB rfl (by simp)) Front.nil))
        · exact SubX.dropN 25 (by kernel_rfl) rfl
        · exact (by repeat' (first | exact Pick.nil _ | exact Del.here _ | apply Pick.cons | apply Del.there))
        · exact ⟨.inr (by omega), by rw [chF_succ, ← ho]; exact (chStep_no (inC_cut h6)).symm⟩
        · exact (by dsimp only; omega)
      · try simp only [Bool.and_eq_true, Bool.or_eq_true, Bool.not_eq_true', Bool.not_eq_false', decide_eq_true_eq, decide_eq_false_iff_not, Bool.and_eq_false_iff, Bool.or_eq_false_iff, ne_eq, Decidable.not_not] at h7
        refine Tr.skip ?_
        refine Tr.thenN ?_
        refine Tr.seq ?_
        refine Tr.region ?_
        refine Tr.q (QS.move rfl) rfl ?_
        first | refine Tr.q (QS.len rfl (by assumption) Try.underlying30) rfl ?_ | refine Tr.q (QS.lenRow rfl (by repeat (first | exact List.Mem.head _ | apply List.Mem.tail)) Try.underlying30) rfl ?_ | refine Tr.q (QS.lenNil rfl Try.underlying30) rfl ?_
        refine Tr.q (QS.assign rfl) rfl ?_
        refine Tr.nil ?_
        refine Tr.thenN ?_
        refine Tr.seq ?_
        refine Tr.regionQ HLF.mixed (by kernel_rfl) ?_
        refine TrQ.q (QS.move rfl) rfl ?_
        refine TrQ.q (QS.gtr rfl rfl) rfl ?_
        refine TrQ.q (QS.move rfl) rfl ?_
        apply TrQ.and (t := 56) (d := 68) 12
        · exact rfl
        · intro hT8; have hT8' := hT8
          try simp only [Bool.and_eq_true, Bool.or_eq_true, Bool.not_eq_true', Bool.not_eq_false', decide_eq_true_eq, decide_eq_false_iff_not, Bool.and_eq_false_iff, Bool.or_eq_false_iff, ne_eq, Decidable.not_not] at hT8'
          refine TrQ.gq rfl rfl hT8 (QS.move rfl) rfl ?_
          refine TrQ.gq rfl rfl hT8 (QS.move rfl) rfl ?_
          first | refine TrQ.gq rfl rfl hT8 (QS.subI rfl rfl (by omega)) rfl ?_ | refine TrQ.gq rfl rfl hT8 (QS.sub rfl rfl) rfl ?_
          first | refine TrQ.gq rfl rfl hT8 (QS.idxN rfl rfl (by assumption) Try.underlying30 Try.sizeOf73 (by rfl) (by omega)) rfl ?_ | refine TrQ.gq rfl rfl hT8 (QS.idxRowN rfl rfl (by repeat (first | exact List.Mem.head _ | apply List.Mem.tail)) Try.underlying30 Try.sizeOf73 (by rfl) (by omega)) rfl ?_ | refine TrQ.gq rfl rfl hT8 (QS.idx rfl rfl (by assumption) Try.underlying30 Try.sizeOf73 (by rfl) (by omega)) rfl ?_ | refine TrQ.gq rfl rfl hT8 (QS.idxRow rfl rfl (by repeat (first | exact List.Mem.head _ | apply List.Mem.tail)) Try.underlying30 Try.sizeOf73 (by rfl) (by omega)) rfl ?_
          refine TrQ.gq rfl rfl hT8 (QS.fieldAddr (off := 1) (ft := 23) rfl Try.underlying73 rfl rfl Try.sizeOf23 (by decide)) rfl ?_
          first | refine TrQ.gq rfl rfl hT8 (QS.loadV rfl (by repeat (first | exact List.Mem.head _ | apply List.Mem.tail)) Try.isAgg23 (by rfl)) rfl ?_ | refine TrQ.gq rfl rfl hT8 (QS.loadC rfl (by assumption) Try.isAgg23) rfl ?_ | refine TrQ.gq rfl rfl hT8 (QS.loadCF rfl (by assumption) Try.isAgg23 (by rfl)) rfl ?_ | refine TrQ.gq rfl rfl hT8 (QS.el1 rfl (by assumption) Try.isAgg23 (by omega) (by rfl)) rfl ?_ | refine TrQ.gq rfl rfl hT8 (QS.elF rfl (by assumption) Try.isAgg23 (by omega) (by rfl)) rfl ?_ | refine TrQ.gq rfl rfl hT8 (QS.elR1 rfl (by repeat (first | exact List.Mem.head _ | apply List.Mem.tail)) Try.isAgg23 (by omega) (by rfl)) rfl ?_ | refine TrQ.gq rfl rfl hT8 (QS.elRF rfl (by repeat (first | exact List.Mem.head _ | apply List.Mem.tail)) Try.isAgg23 (by omega) (by rfl)) rfl ?_
          refine TrQ.gq rfl rfl hT8 (QS.move rfl) rfl ?_
          refine TrQ.gq rfl rfl hT8 (QS.move rfl) rfl ?_
          first | refine TrQ.gq rfl rfl hT8 (QS.idxN rfl rfl (by assumption) Try.underlying130 Try.sizeOf23 (by rfl) (by omega)) rfl ?_ | refine TrQ.gq rfl rfl hT8 (QS.idxRowN rfl rfl (by repeat (first | exact List.Mem.head _ | apply List.Mem.tail)) Try.underlying130 Try.sizeOf23 (by rfl) (by omega)) rfl ?_ | refine TrQ.gq rfl rfl hT8 (QS.idx rfl rfl (by assumption) Try.underlying130 Try.sizeOf23 (by rfl) (by omega)) rfl ?_ | refine TrQ.gq rfl rfl hT8 (QS.idxRow rfl rfl (by repeat (first | exact List.Mem.head _ | apply List.Mem.tail)) Try.underlying130 Try.sizeOf23 (by rfl) (by omega)) rfl ?_
          first | refine TrQ.gq rfl rfl hT8 (QS.loadV rfl (by repeat (first | exact List.Mem.head _ | apply List.Mem.tail)) Try.isAgg23 (by rfl)) rfl ?_ | refine TrQ.gq rfl rfl hT8 (QS.loadC rfl (by assumption) Try.isAgg23) rfl ?_ | refine TrQ.gq rfl rfl hT8 (QS.loadCF rfl (by assumption) Try.isAgg23 (by rfl)) rfl ?_ | refine TrQ.gq rfl rfl hT8 (QS.el1 rfl (by assumption) Try.isAgg23 (by omega) (by rfl)) rfl ?_ | refine TrQ.gq rfl rfl hT8 (QS.elF rfl (by assumption) Try.isAgg23 (by omega) (by rfl)) rfl ?_ | refine TrQ.gq rfl rfl hT8 (QS.elR1 rfl (by repeat (first | exact List.Mem.head _ | apply List.Mem.tail)) Try.isAgg23 (by omega) (by rfl)) rfl ?_ | refine TrQ.gq rfl rfl hT8 (QS.elRF rfl (by repeat (first | exact List.Mem.head _ | apply List.Mem.tail)) Try.isAgg23 (by omega) (by rfl)) rfl ?_
          refine TrQ.gq rfl rfl hT8 (QS.eql32 rfl rfl) rfl ?_
          refine TrQ.q (QS.pickT rfl hT8 rfl) rfl ?_
          exact TrQ.end (Sub.cons rfl (Sub.dropN 12 (by kernel_rfl) rfl))
        · intro hF8
          refine TrQ.gskip rfl rfl hF8 rfl ?_
          refine TrQ.gskip rfl rfl hF8 rfl ?_
          refine TrQ.gskip rfl rfl hF8 rfl ?_
          refine TrQ.gskip rfl rfl hF8 rfl ?_
          refine TrQ.gskip rfl rfl hF8 rfl ?_
          refine TrQ.gskip rfl rfl hF8 rfl ?_
          refine TrQ.gskip rfl rfl hF8 rfl ?_
          refine TrQ.gskip rfl rfl hF8 rfl ?_
          refine TrQ.gskip rfl rfl hF8 rfl ?_
          refine TrQ.gskip rfl rfl hF8 rfl ?_
          refine TrQ.gskip rfl rfl hF8 rfl ?_
          refine TrQ.q (QS.pickF rfl hF8 rfl) rfl ?_
          exact TrQ.end (Sub.cons rfl (Sub.dropN 12 (by kernel_rfl) rfl))
        refine TrQ.nil ?_
        refine Tr.thenN ?_
        refine Tr.cond rfl (fun h9 => ?_) (fun h9 => ?_)
        · try simp only [Bool.and_eq_true, Bool.or_eq_true, Bool.not_eq_true', Bool.not_eq_false', decide_eq_true_eq, decide_eq_false_iff_not, Bool.and_eq_false_iff, Bool.or_eq_false_iff, ne_eq, Decidable.not_not] at h9
          refine Tr.region ?_
          refine Tr.q (QS.move rfl) rfl ?_
          refine Tr.q (QS.move rfl) rfl ?_
          first | refine Tr.q (QS.subI rfl rfl (by omega)) rfl ?_ | refine Tr.q (QS.sub rfl rfl) rfl ?_
          refine Tr.q (QS.move rfl) rfl ?_
          refine Tr.q (QS.move rfl) rfl ?_
          first | refine Tr.q (QS.addI rfl rfl (by omega)) rfl ?_ | refine Tr.q (QS.add rfl rfl) rfl ?_
          first | refine Tr.q (QS.idxN rfl rfl (by assumption) Try.underlying130 Try.sizeOf23 (by rfl) (by omega)) rfl ?_ | refine Tr.q (QS.idxRowN rfl rfl (by repeat (first | exact List.Mem.head _ | apply List.Mem.tail)) Try.underlying130 Try.sizeOf23 (by rfl) (by omega)) rfl ?_ | refine Tr.q (QS.idx rfl rfl (by assumption) Try.underlying130 Try.sizeOf23 (by rfl) (by omega)) rfl ?_ | refine Tr.q (QS.idxRow rfl rfl (by repeat (first | exact List.Mem.head _ | apply List.Mem.tail)) Try.underlying130 Try.sizeOf23 (by rfl) (by omega)) rfl ?_
          first | refine Tr.q (QS.loadV rfl (by repeat (first | exact List.Mem.head _ | apply List.Mem.tail)) Try.isAgg23 (by rfl)) rfl ?_ | refine Tr.q (QS.loadC rfl (by assumption) Try.isAgg23) rfl ?_ | refine Tr.q (QS.loadCF rfl (by assumption) Try.isAgg23 (by rfl)) rfl ?_ | refine Tr.q (QS.el1 rfl (by assumption) Try.isAgg23 (by omega) (by rfl)) rfl ?_ | refine Tr.q (QS.elF rfl (by assumption) Try.isAgg23 (by omega) (by rfl)) rfl ?_ | refine Tr.q (QS.elR1 rfl (by repeat (first | exact List.Mem.head _ | apply List.Mem.tail)) Try.isAgg23 (by omega) (by rfl)) rfl ?_ | refine Tr.q (QS.elRF rfl (by repeat (first | exact List.Mem.head _ | apply List.Mem.tail)) Try.isAgg23 (by omega) (by rfl)) rfl ?_
          first | refine Tr.q (QS.idxN rfl rfl (by assumption) Try.underlying30 Try.sizeOf73 (by rfl) (by omega)) rfl ?_ | refine Tr.q (QS.idxRowN rfl rfl (by repeat (first | exact List.Mem.head _ | apply List.Mem.tail)) Try.underlying30 Try.sizeOf73 (by rfl) (by omega)) rfl ?_ | refine Tr.q (QS.idx rfl rfl (by assumption) Try.underlying30 Try.sizeOf73 (by rfl) (by omega)) rfl ?_ | refine Tr.q (QS.idxRow rfl rfl (by repeat (first | exact List.Mem.head _ | apply List.Mem.tail)) Try.underlying30 Try.sizeOf73 (by rfl) (by omega)) rfl ?_
          refine Tr.q (QS.fieldAddr (off := 1) (ft := 23) rfl Try.underlying73 rfl rfl Try.sizeOf23 (by decide)) rfl ?_
          refine Tr.storeRow (⟨(lastR out).lo, cuts.getD (k + 1) default⟩) rfl rfl Try.sizeOf23 (by repeat (first | exact Put.here _ | apply Put.there)) (by omega) (by decide) (by rfl) rfl rfl rfl ?_
          refine Tr.nil ?_
          refine Tr.inN ?_
          refine Tr.thenN ?_
          refine Tr.region ?_
          refine Tr.q (QS.move rfl) rfl ?_
          first | refine Tr.q (QS.addI rfl rfl (by omega)) rfl ?_ | refine Tr.q (QS.add rfl rfl) rfl ?_
          refine Tr.q (QS.assign rfl) rfl ?_
          refine Tr.nil ?_
          refine Tr.thenN ?_
          apply Tr.again (k + 1, _, _)
          · exact rfl
          · exact (.cons (by first | rfl | exact lookI rfl (by omega) | exact lookI rfl (by simp) | exact lookB rfl (by simp)) (.cons (by first | rfl | exact lookI rfl (by omega) | exact lookI rfl (by simp) | exact lookB rfl (by simp)) Front.nil))
          · exact SubX.dropN 42 (by kernel_rfl) rfl
          · exact (by repeat' (first | exact Pick.nil _ | exact Del.here _ | apply Pick.cons | apply Del.there))
          · exact ⟨.inr (by omega), by rw [chF_succ, ← ho]; simp at h7⟩
          · exact (by dsimp only; omega)
        · try simp only [Bool.and_eq_true, Bool.or_eq_true, Bool.not_eq_true', Bool.not_eq_false', decide_eq_true_eq, decide_eq_false_iff_not, Bool.and_eq_false_iff, Bool.or_eq_false_iff, ne_eq, Decidable.not_not] at h9
          refine Tr.regionT 1 11 HLF.mixed (by kernel_rfl) (panicIn (panicThen (panicThen (panicIn (panicThen panicBody))))) ?_
          refine TrQ.pureMove rfl rfl ?_
          refine TrQ.pureNil ?_
          refine TrQ.q (QS.move rfl) rfl ?_
          refine TrQ.q (QS.move rfl) rfl ?_
          first | refine TrQ.q (QS.idxN rfl rfl (by assumption) Try.underlying130 Try.sizeOf23 (by rfl) (by omega)) rfl ?_ | refine TrQ.q (QS.idxRowN rfl rfl (by repeat (first | exact List.Mem.head _ | apply List.Mem.tail)) Try.underlying130 Try.sizeOf23 (by rfl) (by omega)) rfl ?_ | refine TrQ.q (QS.idx rfl rfl (by assumption) Try.underlying130 Try.sizeOf23 (by rfl) (by omega)) rfl ?_ | refine TrQ.q (QS.idxRow rfl rfl (by repeat (first | exact List.Mem.head _ | apply List.Mem.tail)) Try.underlying130 Try.sizeOf23 (by rfl) (by omega)) rfl ?_
          first | refine TrQ.q (QS.loadV rfl (by repeat (first | exact List.Mem.head _ | apply List.Mem.tail)) Try.isAgg23 (by rfl)) rfl ?_ | refine TrQ.q (QS.loadC rfl (by assumption) Try.isAgg23) rfl ?_ | refine TrQ.q (QS.loadCF rfl (by assumption) Try.isAgg23 (by rfl)) rfl ?_ | refine TrQ.q (QS.el1 rfl (by assumption) Try.isAgg23 (by omega) (by rfl)) rfl ?_ | refine TrQ.q (QS.elF rfl (by assumption) Try.isAgg23 (by omega) (by rfl)) rfl ?_ | refine TrQ.q (QS.elR1 rfl (by repeat (first | exact List.Mem.head _ | apply List.Mem.tail)) Try.isAgg23 (by omega) (by rfl)) rfl ?_ | refine TrQ.q (QS.elRF rfl (by repeat (first | exact List.Mem.head _ | apply List.Mem.tail)) Try.isAgg23 (by omega) (by rfl)) rfl ?_
          refine TrQ.q (QS.move rfl) rfl ?_
          refine TrQ.q (QS.move rfl) rfl ?_
          first | refine TrQ.q (QS.addI rfl rfl (by omega)) rfl ?_ | refine TrQ.q (QS.add rfl rfl) rfl ?_
          first | refine TrQ.q (QS.idxN rfl rfl (by assumption) Try.underlying130 Try.sizeOf23 (by rfl) (by omega)) rfl ?_ | refine TrQ.q (QS.idxRowN rfl rfl (by repeat (first | exact List.Mem.head _ | apply List.Mem.tail)) Try.underlying130 Try.sizeOf23 (by rfl) (by omega)) rfl ?_ | refine TrQ.q (QS.idx rfl rfl (by assumption) Try.underlying130 Try.sizeOf23 (by rfl) (by omega)) rfl ?_ | refine TrQ.q (QS.idxRow rfl rfl (by repeat (first | exact List.Mem.head _ | apply List.Mem.tail)) Try.underlying130 Try.sizeOf23 (by rfl) (by omega)) rfl ?_
          first | refine TrQ.q (QS.loadV rfl (by repeat (first | exact List.Mem.head _ | apply List.Mem.tail)) Try.isAgg23 (by rfl)) rfl ?_ | refine TrQ.q (QS.loadC rfl (by assumption) Try.isAgg23) rfl ?_ | refine TrQ.q (QS.loadCF rfl (by assumption) Try.isAgg23 (by rfl)) rfl ?_ | refine TrQ.q (QS.el1 rfl (by assumption) Try.isAgg23 (by omega) (by rfl)) rfl ?_ | refine TrQ.q (QS.elF rfl (by assumption) Try.isAgg23 (by omega) (by rfl)) rfl ?_ | refine TrQ.q (QS.elR1 rfl (by repeat (first | exact List.Mem.head _ | apply List.Mem.tail)) Try.isAgg23 (by omega) (by rfl)) rfl ?_ | refine TrQ.q (QS.elRF rfl (by repeat (first | exact List.Mem.head _ | apply List.Mem.tail)) Try.isAgg23 (by omega) (by rfl)) rfl ?_
          refine TrQ.q (QS.build (vs := [(0, _), (1, _)]) rfl rfl rfl) rfl ?_
          refine TrQ.nil ?_
          first | refine Tr.lit1 (E := encRng) _ rfl rfl Try.underlying30 Try.sizeOf73 Try.zeroValue73 (by rfl) (by rfl) rfl (fun V10 => ?_) | refine Tr.lit1 (E := encRng) ⟨_, _⟩ rfl rfl Try.underlying30 Try.sizeOf73 Try.zeroValue73 (by rfl) (by rfl) rfl (fun V10 => ?_)
          first | refine Tr.append1 rfl rfl (by repeat (first | exact Del.here _ | apply Del.there)) (by repeat (first | exact Del.here _ | apply Del.there)) Try.underlying30 HLF.info73 (by rfl) (by rfl) (by (try simp only [List.length_cons, List.length_nil, List.length_append, List.length_take]); omega) (by unfold maxLen; (try simp only [List.length_cons, List.length_nil, List.length_append, List.length_take]); omega) rfl (fun V11 => ?_) | refine Tr.ownNil _ _ (Tr.append1 rfl rfl (by repeat (first | exact Del.here _ | apply Del.there)) (by repeat (first | exact Del.here _ | apply Del.there)) Try.underlying30 HLF.info73 (by rfl) (by rfl) (by (try simp only [List.length_cons, List.length_nil, List.length_append, List.length_take]); omega) (by unfold maxLen; (try simp only [List.length_cons, List.length_nil, List.length_append, List.length_take]); omega) rfl (fun V11 => ?_)) | refine Tr.appendOf rfl rfl (by repeat (first | exact Del.here _ | apply Del.there)) (fun w hw => hw.slF (by assumption)) Try.underlying30 HLF.info73 (by rfl) (by rfl) (by (try simp only [List.length_cons, List.length_nil, List.length_append, List.length_take]); omega) (by unfold maxLen; (try simp only [List.length_cons, List.length_nil, List.length_append, List.length_take]); omega) rfl (fun V11 => ?_) | refine Tr.ownNil _ _ (Tr.appendOf rfl rfl (by repeat (first | exact Del.here _ | apply Del.there)) (fun w hw => hw.slF (by assumption)) Try.underlying30 HLF.info73 (by rfl) (by rfl) (by (try simp only [List.length_cons, List.length_nil, List.length_append, List.length_take]); omega) (by unfold maxLen; (try simp only [List.length_cons, List.length_nil, List.length_append, List.length_take]); omega) rfl (fun V11 => ?_)) | refine Tr.appendOf rfl rfl (by repeat (first | exact Del.here _ | apply Del.there)) (fun w hw => hw.row (by repeat (first | exact List.Mem.head _ | apply List.Mem.tail))) Try.underlying30 HLF.info73 (by rfl) (by rfl) (by (try simp only [List.length_cons, List.length_nil, List.length_append, List.length_take]); omega) (by unfold maxLen; (try simp only [List.length_cons, List.length_nil, List.length_append, List.length_take]); omega) rfl (fun V11 => ?_)
          refine Tr.q (QS.assign rfl) rfl ?_
          refine Tr.nil ?_
          refine Tr.inN ?_
          refine Tr.thenN ?_
          refine Tr.region ?_
          refine Tr.q (QS.move rfl) rfl ?_
          first | refine Tr.q (QS.addI rfl rfl (by omega)) rfl ?_ | refine Tr.q (QS.add rfl rfl) rfl ?_
          refine Tr.q (QS.assign rfl) rfl ?_
          refine Tr.nil ?_
          refine Tr.thenN ?_
          apply Tr.again (k + 1, _, _)
          · exact rfl
          · exact (.cons (by first | rfl | exact lookI rfl (by omega) | exact lookI rfl (by simp) | exact lookB rfl (by simp)) (.cons (by first | rfl | exact lookI rfl (by omega) | exact lookI rfl (by simp) | exact lookB rfl (by simp)) Front.nil))
          · exact SubX.dropN 46 (by kernel_rfl) rfl
          · exact (by repeat' (first | exact Pick.nil _ | exact Del.here _ | apply Pick.cons | apply Del.there))
          · exact ⟨.inr (by omega), by rw [chF_succ, ← ho]; simp at h7⟩
          · exact (by dsimp only; omega)
    · try simp only [Bool.and_eq_true, Bool.or_eq_true, Bool.not_eq_true', Bool.not_eq_false', decide_eq_true_eq, decide_eq_false_iff_not, Bool.and_eq_false_iff, Bool.or_eq_false_iff, ne_eq, Decidable.not_not] at h6
      refine Tr.skip ?_
      refine Tr.thenN ?_
      refine Tr.seq ?_
      refine Tr.seq ?_
      refine Tr.region ?_
      refine Tr.q (QS.move rfl) rfl ?_
      refine Tr.q (QS.not rfl) rfl ?_
      refine Tr.nil ?_
      refine Tr.thenN ?_
      refine Tr.cond rfl (fun h12 => ?_) (fun h12 => ?_)
      · try simp only [Bool.and_eq_true, Bool.or_eq_true, Bool.not_eq_true', Bool.not_eq_false', decide_eq_true_eq, decide_eq_false_iff_not, Bool.and_eq_false_iff, Bool.or_eq_false_iff, ne_eq, Decidable.not_not] at h12
        refine Tr.exit ?_
        refine Tr.thenE ?_
        refine Tr.inHit ?_
        refine Tr.thenN ?_
        refine Tr.region ?_
        refine Tr.q (QS.move rfl) rfl ?_
        first | refine Tr.q (QS.addI rfl rfl (by omega)) rfl ?_ | refine Tr.q (QS.add rfl rfl) rfl ?_
        refine Tr.q (QS.assign rfl) rfl ?_
        refine Tr.nil ?_
        refine Tr.thenN ?_
        apply Tr.again (k + 1, _, _)
        · exact rfl
        · exact (.cons (by first | rfl | exact lookI rfl (by omega) | exact lookI rfl (by simp) | exact lookB rfl (by simp)) (.cons (by first | rfl | exact lookI rfl (by omega) | exact lookI rfl (by simp) | exact lookB rfl (by simp)) Front.nil))
        · exact SubX.dropN 24 (by kernel_rfl) rfl
        · exact (by repeat' (first | exact Pick.nil _ | exact Del.here _ | apply Pick.cons | apply Del.there))
        · exact ⟨.inr (by omega), by rw [chF_succ, ← ho]; exact (chStep_no (inC_no h6 h12)).symm⟩
        · exact (by dsimp only; omega)
      · try simp only [Bool.and_eq_true, Bool.or_eq_true, Bool.not_eq_true', Bool.not_eq_false', decide_eq_true_eq, decide_eq_false_iff_not, Bool.and_eq_false_iff, Bool.or_eq_false_iff, ne_eq, Decidable.not_not] at h12
        refine Tr.skip ?_
        refine Tr.thenN ?_
        refine Tr.seq ?_
        refine Tr.region ?_
        refine Tr.q (QS.move rfl) rfl ?_
        first | refine Tr.q (QS.len rfl (by assumption) Try.underlying30) rfl ?_ | refine Tr.q (QS.lenRow rfl (by repeat (first | exact List.Mem.head _ | apply List.Mem.tail)) Try.underlying30) rfl ?_ | refine Tr.q (QS.lenNil rfl Try.underlying30) rfl ?_
        refine Tr.q (QS.assign rfl) rfl ?_
        refine Tr.nil ?_
        refine Tr.thenN ?_
        refine Tr.seq ?_
        refine Tr.regionQ HLF.mixed (by kernel_rfl) ?_
        refine TrQ.q (QS.move rfl) rfl ?_
        refine TrQ.q (QS.gtr rfl rfl) rfl ?_
        refine TrQ.q (QS.move rfl) rfl ?_
        apply TrQ.and (t := 56) (d := 68) 12
        · exact rfl
        · intro hT13; have hT13' := hT13
          try simp only [Bool.and_eq_true, Bool.or_eq_true, Bool.not_eq_true', Bool.not_eq_false', decide_eq_true_eq, decide_eq_false_iff_not, Bool.and_eq_false_iff, Bool.or_eq_false_iff, ne_eq, Decidable.not_not] at hT13'
          refine TrQ.gq rfl rfl hT13 (QS.move rfl) rfl ?_
          refine TrQ.gq rfl rfl hT13 (QS.move rfl) rfl ?_
          first | refine TrQ.gq rfl rfl hT13 (QS.subI rfl rfl (by omega)) rfl ?_ | refine TrQ.gq rfl rfl hT13 (QS.sub rfl rfl) rfl ?_
          first | refine TrQ.gq rfl rfl hT13 (QS.idxN rfl rfl (by assumption) Try.underlying30 Try.sizeOf73 (by rfl) (by omega)) rfl ?_ | refine TrQ.gq rfl rfl hT13 (QS.idxRowN rfl rfl (by repeat (first | exact List.Mem.head _ | apply List.Mem.tail)) Try.underlying30 Try.sizeOf73 (by rfl) (by omega)) rfl ?_ | refine TrQ.gq rfl rfl hT13 (QS.idx rfl rfl (by assumption) Try.underlying30 Try.sizeOf73 (by rfl) (by omega)) rfl ?_ | refine TrQ.gq rfl rfl hT13 (QS.idxRow rfl rfl (by repeat (first | exact List.Mem.head _ | apply List.Mem.tail)) Try.underlying30 Try.sizeOf73 (by rfl) (by omega)) rfl ?_
          refine TrQ.gq rfl rfl hT13 (QS.fieldAddr (off := 1) (ft := 23) rfl Try.underlying73 rfl rfl Try.sizeOf23 (by decide)) rfl ?_
          first | refine TrQ.gq rfl rfl hT13 (QS.loadV rfl (by repeat (first | exact List.Mem.head _ | apply List.Mem.tail)) Try.isAgg23 (by rfl)) rfl ?_ | refine TrQ.gq rfl rfl hT13 (QS.loadC rfl (by assumption) Try.isAgg23) rfl ?_ | refine TrQ.gq rfl rfl hT13 (QS.loadCF rfl (by assumption) Try.isAgg23 (by rfl)) rfl ?_ | refine TrQ.gq rfl rfl hT13 (QS.el1 rfl (by assumption) Try.isAgg23 (by omega) (by rfl)) rfl ?_ | refine TrQ.gq rfl rfl hT13 (QS.elF rfl (by assumption) Try.isAgg23 (by omega) (by rfl)) rfl ?_ | refine TrQ.gq rfl rfl hT13 (QS.elR1 rfl (by repeat (first | exact List.Mem.head _ | apply List.Mem.tail)) Try.isAgg23 (by omega) (by rfl)) rfl ?_ | refine TrQ.gq rfl rfl hT13 (QS.elRF rfl (by repeat (first | exact List.Mem.head _ | apply List.Mem.tail)) Try.isAgg23 (by omega) (by rfl)) rfl ?_
          refine TrQ.gq rfl rfl hT13 (QS.move rfl) rfl ?_
          refine TrQ.gq rfl rfl hT13 (QS.move rfl) rfl ?_
          first | refine TrQ.gq rfl rfl hT13 (QS.idxN rfl rfl (by assumption) Try.underlying130 Try.sizeOf23 (by rfl) (by omega)) rfl ?_ | refine TrQ.gq rfl rfl hT13 (QS.idxRowN rfl rfl (by repeat (first | exact List.Mem.head _ | apply List.Mem.tail)) Try.underlying130 Try.sizeOf23 (by rfl) (by omega)) rfl ?_ | refine TrQ.gq rfl rfl hT13 (QS.idx rfl rfl (by assumption) Try.underlying130 Try.sizeOf23 (by rfl) (by omega)) rfl ?_ | refine TrQ.gq rfl rfl hT13 (QS.idxRow rfl rfl (by repeat (first | exact List.Mem.head _ | apply List.Mem.tail)) Try.underlying130 Try.sizeOf23 (by rfl) (by omega)) rfl ?_
          first | refine TrQ.gq rfl rfl hT13 (QS.loadV rfl (by repeat (first | exact List.Mem.head _ | apply List.Mem.tail)) Try.isAgg23 (by rfl)) rfl ?_ | refine TrQ.gq rfl rfl hT13 (QS.loadC rfl (by assumption) Try.isAgg23) rfl ?_ | refine TrQ.gq rfl rfl hT13 (QS.loadCF rfl (by assumption) Try.isAgg23 (by rfl)) rfl ?_ | refine TrQ.gq rfl rfl hT13 (QS.el1 rfl (by assumption) Try.isAgg23 (by omega) (by rfl)) rfl ?_ | refine TrQ.gq rfl rfl hT13 (QS.elF rfl (by assumption) Try.isAgg23 (by omega) (by rfl)) rfl ?_ | refine TrQ.gq rfl rfl hT13 (QS.elR1 rfl (by repeat (first | exact List.Mem.head _ | apply List.Mem.tail)) Try.isAgg23 (by omega) (by rfl)) rfl ?_ | refine TrQ.gq rfl rfl hT13 (QS.elRF rfl (by repeat (first | exact List.Mem.head _ | apply List.Mem.tail)) Try.isAgg23 (by omega) (by rfl)) rfl ?_
          refine TrQ.gq rfl rfl hT13 (QS.eql32 rfl rfl) rfl ?_
          refine TrQ.q (QS.pickT rfl hT13 rfl) rfl ?_
          exact TrQ.end (Sub.cons rfl (Sub.dropN 12 (by kernel_rfl) rfl))
        · intro hF13
          refine TrQ.gskip rfl rfl hF13 rfl ?_
          refine TrQ.gskip rfl rfl hF13 rfl ?_
          refine TrQ.gskip rfl rfl hF13 rfl ?_
          refine TrQ.gskip rfl rfl hF13 rfl ?_
          refine TrQ.gskip rfl rfl hF13 rfl ?_
          refine TrQ.gskip rfl rfl hF13 rfl ?_
          refine TrQ.gskip rfl rfl hF13 rfl ?_
          refine TrQ.gskip rfl rfl hF13 rfl ?_
          refine TrQ.gskip rfl rfl hF13 rfl ?_
          refine TrQ.gskip rfl rfl hF13 rfl ?_
          refine TrQ.gskip rfl rfl hF13 rfl ?_
          refine TrQ.q (QS.pickF rfl hF13 rfl) rfl ?_
          exact TrQ.end (Sub.cons rfl (Sub.dropN 12 (by kernel_rfl) rfl))
        refine TrQ.nil ?_
        refine Tr.thenN ?_
        refine Tr.cond rfl (fun h14 => ?_) (fun h14 => ?_)
        · try simp only [Bool.and_eq_true, Bool.or_eq_true, Bool.not_eq_true', Bool.not_eq_false', decide_eq_true_eq, decide_eq_false_iff_not, Bool.and_eq_false_iff, Bool.or_eq_false_iff, ne_eq, Decidable.not_not] at h14
          refine Tr.region ?_
          refine Tr.q (QS.move rfl) rfl ?_
          refine Tr.q (QS.move rfl) rfl ?_
          first | refine Tr.q (QS.subI rfl rfl (by omega)) rfl ?_ | refine Tr.q (QS.sub rfl rfl) rfl ?_
          refine Tr.q (QS.move rfl) rfl ?_
          refine Tr.q (QS.move rfl) rfl ?_
          first | refine Tr.q (QS.addI rfl rfl (by omega)) rfl ?_ | refine Tr.q (QS.add rfl rfl) rfl ?_
          first | refine Tr.q (QS.idxN rfl rfl (by assumption) Try.underlying130 Try.sizeOf23 (by rfl) (by omega)) rfl ?_ | refine Tr.q (QS.idxRowN rfl rfl (by repeat (first | exact List.Mem.head _ | apply List.Mem.tail)) Try.underlying130 Try.sizeOf23 (by rfl) (by omega)) rfl ?_ | refine Tr.q (QS.idx rfl rfl (by assumption) Try.underlying130 Try.sizeOf23 (by rfl) (by omega)) rfl ?_ | refine Tr.q (QS.idxRow rfl rfl (by repeat (first | exact List.Mem.head _ | apply List.Mem.tail)) Try.underlying130 Try.sizeOf23 (by rfl) (by omega)) rfl ?_
          first | refine Tr.q (QS.loadV rfl (by repeat (first | exact List.Mem.head _ | apply List.Mem.tail)) Try.isAgg23 (by rfl)) rfl ?_ | refine Tr.q (QS.loadC rfl (by assumption) Try.isAgg23) rfl ?_ | refine Tr.q (QS.loadCF rfl (by assumption) Try.isAgg23 (by rfl)) rfl ?_ | refine Tr.q (QS.el1 rfl (by assumption) Try.isAgg23 (by omega) (by rfl)) rfl ?_ | refine Tr.q (QS.elF rfl (by assumption) Try.isAgg23 (by omega) (by rfl)) rfl ?_ | refine Tr.q (QS.elR1 rfl (by repeat (first | exact List.Mem.head _ | apply List.Mem.tail)) Try.isAgg23 (by omega) (by rfl)) rfl ?_ | refine Tr.q (QS.elRF rfl (by repeat (first | exact List.Mem.head _ | apply List.Mem.tail)) Try.isAgg23 (by omega) (by rfl)) rfl ?_
          first | refine Tr.q (QS.idxN rfl rfl (by assumption) Try.underlying30 Try.sizeOf73 (by rfl) (by omega)) rfl ?_ | refine Tr.q (QS.idxRowN rfl rfl (by repeat (first | exact List.Mem.head _ | apply List.Mem.tail)) Try.underlying30 Try.sizeOf73 (by rfl) (by omega)) rfl ?_ | refine Tr.q (QS.idx rfl rfl (by assumption) Try.underlying30 Try.sizeOf73 (by rfl) (by omega)) rfl ?_ | refine Tr.q (QS.idxRow rfl rfl (by repeat (first | exact List.Mem.head _ | apply List.Mem.tail)) Try.underlying30 Try.sizeOf73 (by rfl) (by omega)) rfl ?_
          refine Tr.q (QS.fieldAddr (off := 1) (ft := 23) rfl Try.underlying73 rfl rfl Try.sizeOf23 (by decide)) rfl ?_
          refine Tr.storeRow (⟨(lastR out).lo, cuts.getD (k + 1) default⟩) rfl rfl Try.sizeOf23 (by repeat (first | exact Put.here _ | apply Put.there)) (by omega) (by decide) (by rfl) rfl rfl rfl ?_
          refine Tr.nil ?_
          refine Tr.inN ?_
          refine Tr.thenN ?_
          refine Tr.region ?_
          refine Tr.q (QS.move rfl) rfl ?_
          first | refine Tr.q (QS.addI rfl rfl (by omega)) rfl ?_ | refine Tr.q (QS.add rfl rfl) rfl ?_
          refine Tr.q (QS.assign rfl) rfl ?_
          refine Tr.nil ?_
          refine Tr.thenN ?_
          apply Tr.again (k + 1, _, _)
          · exact rfl
          · exact (.cons (by first | rfl | exact lookI rfl (by omega) | exact lookI rfl (by simp) | exact lookB rfl (by simp)) (.cons (by first | rfl | exact lookI rfl (by omega) | exact lookI rfl (by simp) | exact lookB rfl (by simp)) Front.nil))
          · exact SubX.dropN 41 (by kernel_rfl) rfl
          · exact (by repeat' (first | exact Pick.nil _ | exact Del.here _ | apply Pick.cons | apply Del.there))
          · exact ⟨.inr (by omega), by rw [chF_succ, ← ho]; exact (chStep_set (inC_yes h6 h12) h14).symm⟩
          · exact (by dsimp only; omega)
        · try simp only [Bool.and_eq_true, Bool.or_eq_true, Bool.not_eq_true', Bool.not_eq_false', decide_eq_true_eq, decide_eq_false_iff_not, Bool.and_eq_false_iff, Bool.or_eq_false_iff, ne_eq, Decidable.not_not] at h14
          refine Tr.regionT 1 11 HLF.mixed (by kernel_rfl) (panicIn (panicThen (panicThen (panicIn (panicThen panicBody))))) ?_
          refine TrQ.pureMove rfl rfl ?_
          refine TrQ.pureNil ?_
          refine TrQ.q (QS.move rfl) rfl ?_
          refine TrQ.q (QS.move rfl) rfl ?_
          first | refine TrQ.q (QS.idxN rfl rfl (by assumption) Try.underlying130 Try.sizeOf23 (by rfl) (by omega)) rfl ?_ | refine TrQ.q (QS.idxRowN rfl rfl (by repeat (first | exact List.Mem.head _ | apply List.Mem.tail)) Try.underlying130 Try.sizeOf23 (by rfl) (by omega)) rfl ?_ | refine TrQ.q (QS.idx rfl rfl (by assumption) Try.underlying130 Try.sizeOf23 (by rfl) (by omega)) rfl ?_ | refine TrQ.q (QS.idxRow rfl rfl (by repeat (first | exact List.Mem.head _ | apply List.Mem.tail)) Try.underlying130 Try.sizeOf23 (by rfl) (by omega)) rfl ?_
          first | refine TrQ.q (QS.loadV rfl (by repeat (first | exact List.Mem.head _ | apply List.Mem.tail)) Try.isAgg23 (by rfl)) rfl ?_ | refine TrQ.q (QS.loadC rfl (by assumption) Try.isAgg23) rfl ?_ | refine TrQ.q (QS.loadCF rfl (by assumption) Try.isAgg23 (by rfl)) rfl ?_ | refine TrQ.q (QS.el1 rfl (by assumption) Try.isAgg23 (by omega) (by rfl)) rfl ?_ | refine TrQ.q (QS.elF rfl (by assumption) Try.isAgg23 (by omega) (by rfl)) rfl ?_ | refine TrQ.q (QS.elR1 rfl (by repeat (first | exact List.Mem.head _ | apply List.Mem.tail)) Try.isAgg23 (by omega) (by rfl)) rfl ?_ | refine TrQ.q (QS.elRF rfl (by repeat (first | exact List.Mem.head _ | apply List.Mem.tail)) Try.isAgg23 (by omega) (by rfl)) rfl ?_
          refine TrQ.q (QS.move rfl) rfl ?_
          refine TrQ.q (QS.move rfl) rfl ?_
          first | refine TrQ.q (QS.addI rfl rfl (by omega)) rfl ?_ | refine TrQ.q (QS.add rfl rfl) rfl ?_
          first | refine TrQ.q (QS.idxN rfl rfl (by assumption) Try.underlying130 Try.sizeOf23 (by rfl) (by omega)) rfl ?_ | refine TrQ.q (QS.idxRowN rfl rfl (by repeat (first | exact List.Mem.head _ | apply List.Mem.tail)) Try.underlying130 Try.sizeOf23 (by rfl) (by omega)) rfl ?_ | refine TrQ.q (QS.idx rfl rfl (by assumption) Try.underlying130 Try.sizeOf23 (by rfl) (by omega)) rfl ?_ | refine TrQ.q (QS.idxRow rfl rfl (by repeat (first | exact List.Mem.head _ | apply List.Mem.tail)) Try.underlying130 Try.sizeOf23 (by rfl) (by omega)) rfl ?_
          first | refine TrQ.q (QS.loadV rfl (by repeat (first | exact List.Mem.head _ | apply List.Mem.tail)) Try.isAgg23 (by rfl)) rfl ?_ | refine TrQ.q (QS.loadC rfl (by assumption) Try.isAgg23) rfl ?_ | refine TrQ.q (QS.loadCF rfl (by assumption) Try.isAgg23 (by rfl)) rfl ?_ | refine TrQ.q (QS.el1 rfl (by assumption) Try.isAgg23 (by omega) (by rfl)) rfl ?_ | refine TrQ.q (QS.elF rfl (by assumption) Try.isAgg23 (by omega) (by rfl)) rfl ?_ | refine TrQ.q (QS.elR1 rfl (by repeat (first | exact List.Mem.head _ | apply List.Mem.tail)) Try.isAgg23 (by omega) (by rfl)) rfl ?_ | refine TrQ.q (QS.elRF rfl (by repeat (first | exact List.Mem.head _ | apply List.Mem.tail)) Try.isAgg23 (by omega) (by rfl)) rfl ?_
          refine TrQ.q (QS.build (vs := [(0, _), (1, _)]) rfl rfl rfl) rfl ?_
          refine TrQ.nil ?_
          first | refine Tr.lit1 (E := encRng) _ rfl rfl Try.underlying30 Try.sizeOf73 Try.zeroValue73 (by rfl) (by rfl) rfl (fun V15 => ?_) | refine Tr.lit1 (E := encRng) ⟨_, _⟩ rfl rfl Try.underlying30 Try.sizeOf73 Try.zeroValue73 (by rfl) (by rfl) rfl (fun V15 => ?_)
          first | refine Tr.append1 rfl rfl (by repeat (first | exact Del.here _ | apply Del.there)) (by repeat (first | exact Del.here _ | apply Del.there)) Try.underlying30 HLF.info73 (by rfl) (by rfl) (by (try simp only [List.length_cons, List.length_nil, List.length_append, List.length_take]); omega) (by unfold maxLen; (try simp only [List.length_cons, List.length_nil, List.length_append, List.length_take]); omega) rfl (fun V16 => ?_) | refine Tr.ownNil _ _ (Tr.append1 rfl rfl (by repeat (first | exact Del.here _ | apply Del.there)) (by repeat (first | exact Del.here _ | apply Del.there)) Try.underlying30 HLF.info73 (by rfl) (by rfl) (by (try simp only [List.length_cons, List.length_nil, List.length_append, List.length_take]); omega) (by unfold maxLen; (try simp only [List.length_cons, List.length_nil, List.length_append, List.length_take]); omega) rfl (fun V16 => ?_)) | refine Tr.appendOf rfl rfl (by repeat (first | exact Del.here _ | apply Del.there)) (fun w hw => hw.slF (by assumption)) Try.underlying30 HLF.info73 (by rfl) (by rfl) (by (try simp only [List.length_cons, List.length_nil, List.length_append, List.length_take]); omega) (by unfold maxLen; (try simp only [List.length_cons, List.length_nil, List.length_append, List.length_take]); omega) rfl (fun V16 => ?_) | refine Tr.ownNil _ _ (Tr.appendOf rfl rfl (by repeat (first | exact Del.here _ | apply Del.there)) (fun w hw => hw.slF (by assumption)) Try.underlying30 HLF.info73 (by rfl) (by rfl) (by (try simp only [List.length_cons, List.length_nil, List.length_append, List.length_take]); omega) (by unfold maxLen; (try simp only [List.length_cons, List.length_nil, List.length_append, List.length_take]); omega) rfl (fun V16 => ?_)) | refine Tr.appendOf rfl rfl (by repeat (first | exact Del.here _ | apply Del.there)) (fun w hw => hw.row (by repeat (first | exact List.Mem.head _ | apply List.Mem.tail))) Try.underlying30 HLF.info73 (by rfl) (by rfl) (by (try simp only [List.length_cons, List.length_nil, List.length_append, List.length_take]); omega) (by unfold maxLen; (try simp only [List.length_cons, List.length_nil, List.length_append, List.length_take]); omega) rfl (fun V16 => ?_)
          refine Tr.q (QS.assign rfl) rfl ?_
          refine Tr.nil ?_
          refine Tr.inN ?_
          refine Tr.thenN ?_
          refine Tr.region ?_
          refine Tr.q (QS.move rfl) rfl ?_
          first | refine Tr.q (QS.addI rfl rfl (by omega)) rfl ?_ | refine Tr.q (QS.add rfl rfl) rfl ?_
          refine Tr.q (QS.assign rfl) rfl ?_
          refine Tr.nil ?_
          refine Tr.thenN ?_
          apply Tr.again (k + 1, _, _)
          · exact rfl
          · exact (.cons (by first | rfl | exact lookI rfl (by omega) | exact lookI rfl (by simp) | exact lookB rfl (by simp)) (.cons (by first | rfl | exact lookI rfl (by omega) | exact lookI rfl (by simp) | exact lookB rfl (by simp)) Front.nil))
          · exact SubX.dropN 45 (by kernel_rfl) rfl
          · exact (by repeat' (first | exact Pick.nil _ | exact Del.here _ | apply Pick.cons | apply Del.there))
          · exact ⟨.inr (by omega), by rw [chF_succ, ← ho]; exact (chStep_app (inC_yes h6 h12) h14).symm⟩
          · exact (by dsimp only; omega)
  · try simp only [Bool.and_eq_true, Bool.or_eq_true, Bool.not_eq_true', Bool.not_eq_false', decide_eq_true_eq, decide_eq_false_iff_not, Bool.and_eq_false_iff, Bool.or_eq_false_iff, ne_eq, Decidable.not_not] at h2
    refine Tr.exit ?_
    refine Tr.thenE ?_
    refine Tr.thenE ?_
    refine Tr.inHit ?_
    refine Tr.thenN ?_
    refine Tr.seq ?_
    refine Tr.region ?_
    refine Tr.q (QS.move rfl) rfl ?_
    refine Tr.q (QS.assign rfl) rfl ?_
    refine Tr.nil ?_
    refine Tr.thenN ?_
    refine Tr.ret ?_
    refine Tr.ret1 Try.results73 rfl (fun w' hw => ?_)
    have ek : k = cuts.length - 1 := by omega
    have e : chooseP a b both without = out := by rw [chooseP, ← hcu, ← ek, ← ho]
    exact ⟨_, rfl, hw.below (Bg.le.refl _), by rw [e]; exact hw.new (.head _)⟩

set_option maxRecDepth 100000 in
set_option maxHeartbeats 2000000 in
theorem refNormal_any (l : List Rng) (V : Value) (w : World) (hV : Sl (hp w) encRng l V) (hb : l.length ≤ 1000000) :
    Calls Try.prog 38 #[V] w (fun e w' => ∃ V', e = .returned V' ∧ Ext w w' ∧ NewRow w w' 73 encRng (chooseP l [] false false) V') := by
  refine enter Try.func38 rfl Try.ntmps38 rfl ?_
  refine Tr.seq ?_
  refine Tr.region ?_
  refine Tr.q (QS.assign rfl) rfl ?_
  refine Tr.nil ?_
  refine Tr.thenN ?_
  refine Tr.seq ?_
  refine Tr.region ?_
  refine Tr.q (QS.move rfl) rfl ?_
  refine Tr.callRow rfl Try.call73 (fun w hw => choose_any l [] V _ false false w (hw.slF hV) sl_nil hb (by simp)) rfl (fun V1 => ?_)
  refine Tr.q (QS.assign rfl) rfl ?_
  refine Tr.nil ?_
  refine Tr.thenN ?_
  refine Tr.ret ?_
  refine Tr.ret1 Try.results38 rfl (fun w' hw => ?_)
  exact ⟨_, rfl, hw.below (Bg.le.refl _), hw.new (.head _)⟩

end Go.Proofs.Ytfnedefgepjbpaa
