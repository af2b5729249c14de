/- The walks of image.Union and image.Subtract. -/
import Derived.Test.YtfmhhakhbopfdaaWb
set_option linter.unusedSimpArgs false
set_option linter.unusedVariables false
namespace Go.Proofs.Ytfmhhakhbopfdaa
open Go Go.HL Go.RowKit

set_option maxRecDepth 100000 in
set_option maxHeartbeats 2000000 in
theorem clone_rng (l : List Rng) (V : Value) (w : World) (hV : Sl (hp w) encRng l V) (hb : l.length ≤ 1000000) :
    Calls Try.prog 65 #[V] w (fun e w' => ∃ V', e = .returned V' ∧ Ext w w' ∧ NewRow w w' 51 encRng l V') := by
  have hV' : Sl (Bg.of w).blk encRng l V := hV
  refine enter Try.func65 rfl Try.ntmps65 rfl ?_
  refine Tr.seq ?_
  refine Tr.region ?_
  refine Tr.q (QS.assign rfl) rfl ?_
  refine Tr.nil ?_
  refine Tr.thenN ?_
  refine Tr.seq ?_
  refine Tr.seq ?_
  refine Tr.region ?_
  refine Tr.q (QS.move rfl) rfl ?_
  refine Tr.q (QS.eqlNilS rfl (by assumption) Try.underlying31) rfl ?_
  refine Tr.nil ?_
  refine Tr.thenN ?_
  refine Tr.cond rfl (fun h1 => ?_) (fun h1 => ?_)
  · try simp only [Bool.and_eq_true, Bool.or_eq_true, Bool.not_eq_true', Bool.not_eq_false', decide_eq_true_eq, decide_eq_false_iff_not, Bool.and_eq_false_iff, Bool.or_eq_false_iff, ne_eq, Decidable.not_not] at h1
    refine Tr.seq ?_
    refine Tr.region ?_
    refine Tr.q (QS.assign rfl) rfl ?_
    refine Tr.nil ?_
    refine Tr.thenN ?_
    refine Tr.ret ?_
    refine Tr.thenR ?_
    refine Tr.ret1 Try.results65 rfl (fun w' hw => ?_)
    exact ⟨_, rfl, hw.below (Bg.le.refl _), newRow_nil (hV.isNil h1)⟩
  · try simp only [Bool.and_eq_true, Bool.or_eq_true, Bool.not_eq_true', Bool.not_eq_false', decide_eq_true_eq, decide_eq_false_iff_not, Bool.and_eq_false_iff, Bool.or_eq_false_iff, ne_eq, Decidable.not_not] at h1
    refine Tr.skip ?_
    refine Tr.thenN ?_
    refine Tr.seq ?_
    refine Tr.region ?_
    refine Tr.lit0 encRng Try.underlying31 Try.sizeOf51 rfl (fun V2 => ?_)
    refine Tr.q (QS.move rfl) rfl ?_
    first | refine Tr.append1 rfl rfl (by repeat (first | exact Del.here _ | apply Del.there)) (by repeat (first | exact Del.here _ | apply Del.there)) Try.underlying31 HLF.info51 (by rfl) (by rfl) (by (try simp only [List.length_cons, List.length_nil, List.length_append, List.length_take]); omega) (by unfold maxLen; (try simp only [List.length_cons, List.length_nil, List.length_append, List.length_take]); omega) rfl (fun V3 => ?_) | refine Tr.ownNil _ _ (Tr.append1 rfl rfl (by repeat (first | exact Del.here _ | apply Del.there)) (by repeat (first | exact Del.here _ | apply Del.there)) Try.underlying31 HLF.info51 (by rfl) (by rfl) (by (try simp only [List.length_cons, List.length_nil, List.length_append, List.length_take]); omega) (by unfold maxLen; (try simp only [List.length_cons, List.length_nil, List.length_append, List.length_take]); omega) rfl (fun V3 => ?_)) | refine Tr.appendOf rfl rfl (by repeat (first | exact Del.here _ | apply Del.there)) (fun w hw => hw.slF (by assumption)) Try.underlying31 HLF.info51 (by rfl) (by rfl) (by (try simp only [List.length_cons, List.length_nil, List.length_append, List.length_take]); omega) (by unfold maxLen; (try simp only [List.length_cons, List.length_nil, List.length_append, List.length_take]); omega) rfl (fun V3 => ?_) | refine Tr.ownNil _ _ (Tr.appendOf rfl rfl (by repeat (first | exact Del.here _ | apply Del.there)) (fun w hw => hw.slF (by assumption)) Try.underlying31 HLF.info51 (by rfl) (by rfl) (by (try simp only [List.length_cons, List.length_nil, List.length_append, List.length_take]); omega) (by unfold maxLen; (try simp only [List.length_cons, List.length_nil, List.length_append, List.length_take]); omega) rfl (fun V3 => ?_)) | refine Tr.appendOf rfl rfl (by repeat (first | exact Del.here _ | apply Del.there)) (fun w hw => hw.row (by repeat (first | exact List.Mem.head _ | apply List.Mem.tail))) Try.underlying31 HLF.info51 (by rfl) (by rfl) (by (try simp only [List.length_cons, List.length_nil, List.length_append, List.length_take]); omega) (by unfold maxLen; (try simp only [List.length_cons, List.length_nil, List.length_append, List.length_take]); omega) rfl (fun V3 => ?_)
    refine Tr.q (QS.assign rfl) rfl ?_
    refine Tr.nil ?_
    refine Tr.thenN ?_
    refine Tr.ret ?_
    refine Tr.ret1 Try.results65 rfl (fun w' hw => ?_)
    exact ⟨_, rfl, hw.below (Bg.le.refl _), hw.new (.head _)⟩

set_option maxRecDepth 100000 in
set_option maxHeartbeats 2000000 in
theorem union_any (a b : List Rng) (V W : Value) (w : World) (hV : Sl (hp w) encRng a V) (hW : Sl (hp w) encRng b W) (ha : a.length ≤ 100000) (hb : b.length ≤ 100000) :
    Calls Try.prog 34 #[V, W] w (fun e w' => ∃ V', e = .returned V' ∧ Ext w w' ∧ NewRow w w' 51 encRng (normalP (a ++ b)) V') := by
  have hV' : Sl (Bg.of w).blk encRng a V := hV
  have hW' : Sl (Bg.of w).blk encRng b W := hW
  refine enter Try.func34 rfl Try.ntmps34 rfl ?_
  refine Tr.seq ?_
  refine Tr.region ?_
  refine Tr.q (QS.assign rfl) rfl ?_
  refine Tr.nil ?_
  refine Tr.thenN ?_
  refine Tr.seq ?_
  refine Tr.region ?_
  refine Tr.q (QS.move rfl) rfl ?_
  refine Tr.callRow rfl Try.call65 (fun w hw => clone_rng a V w (hw.slF hV) (by omega)) rfl (fun V1 => ?_)
  refine Tr.q (QS.move rfl) rfl ?_
  first | refine Tr.append1 rfl rfl (by repeat (first | exact Del.here _ | apply Del.there)) (by repeat (first | exact Del.here _ | apply Del.there)) Try.underlying31 HLF.info51 (by rfl) (by rfl) (by (try simp only [List.length_cons, List.length_nil, List.length_append, List.length_take]); omega) (by unfold maxLen; (try simp only [List.length_cons, List.length_nil, List.length_append, List.length_take]); omega) rfl (fun V2 => ?_) | refine Tr.ownNil _ _ (Tr.append1 rfl rfl (by repeat (first | exact Del.here _ | apply Del.there)) (by repeat (first | exact Del.here _ | apply Del.there)) Try.underlying31 HLF.info51 (by rfl) (by rfl) (by (try simp only [List.length_cons, List.length_nil, List.length_append, List.length_take]); omega) (by unfold maxLen; (try simp only [List.length_cons, List.length_nil, List.length_append, List.length_take]); omega) rfl (fun V2 => ?_)) | refine Tr.appendOf rfl rfl (by repeat (first | exact Del.here _ | apply Del.there)) (fun w hw => hw.slF (by assumption)) Try.underlying31 HLF.info51 (by rfl) (by rfl) (by (try simp only [List.length_cons, List.length_nil, List.length_append, List.length_take]); omega) (by unfold maxLen; (try simp only [List.length_cons, List.length_nil, List.length_append, List.length_take]); omega) rfl (fun V2 => ?_) | refine Tr.ownNil _ _ (Tr.appendOf rfl rfl (by repeat (first | exact Del.here _ | apply Del.there)) (fun w hw => hw.slF (by assumption)) Try.underlying31 HLF.info51 (by rfl) (by rfl) (by (try simp only [List.length_cons, List.length_nil, List.length_append, List.length_take]); omega) (by unfold maxLen; (try simp only [List.length_cons, List.length_nil, List.length_append, List.length_take]); omega) rfl (fun V2 => ?_)) | refine Tr.appendOf rfl rfl (by repeat (first | exact Del.here _ | apply Del.there)) (fun w hw => hw.row (by repeat (first | exact List.Mem.head _ | apply List.Mem.tail))) Try.underlying31 HLF.info51 (by rfl) (by rfl) (by (try simp only [List.length_cons, List.length_nil, List.length_append, List.length_take]); omega) (by unfold maxLen; (try simp only [List.length_cons, List.length_nil, List.length_append, List.length_take]); omega) rfl (fun V2 => ?_)
  refine Tr.callRow rfl Try.call24 (fun w hw => normal_any (a ++ b) _ w (hw.row (.head _)) (by simp; omega)) rfl (fun V3 => ?_)
  refine Tr.q (QS.assign rfl) rfl ?_
  refine Tr.nil ?_
  refine Tr.thenN ?_
  refine Tr.ret ?_
  refine Tr.ret1 Try.results34 rfl (fun w' hw => ?_)
  exact ⟨_, rfl, hw.below (Bg.le.refl _), hw.new (.head _)⟩

set_option maxRecDepth 100000 in
set_option maxHeartbeats 2000000 in
theorem subtract_any (a b : List Rng) (V W : Value) (w : World) (hV : Sl (hp w) encRng a V) (hW : Sl (hp w) encRng b W) (ha : a.length ≤ 1000) (hb : b.length ≤ 1000) :
    Calls Try.prog 36 #[V, W] w (fun e w' => ∃ V', e = .returned V' ∧ Ext w w' ∧ NewRow w w' 51 encRng (subtractP a b) V') := by
  have hV' : Sl (Bg.of w).blk encRng a V := hV
  have hW' : Sl (Bg.of w).blk encRng b W := hW
  obtain ⟨na, hna⟩ : ∃ na, na = normalP a := ⟨_, rfl⟩
  obtain ⟨nb, hnb⟩ : ∃ nb, nb = normalP b := ⟨_, rfl⟩
  have hla : na.length ≤ 1000 := by have := normalP_len a; rw [hna]; omega
  have hlb : nb.length ≤ 1000 := by have := normalP_len b; rw [hnb]; omega
  refine enter Try.func36 rfl Try.ntmps36 rfl ?_
  refine Tr.seq ?_
  refine Tr.region ?_
  refine Tr.q (QS.assign rfl) rfl ?_
  refine Tr.nil ?_
  refine Tr.thenN ?_
  refine Tr.seq ?_
  refine Tr.region ?_
  refine Tr.q (QS.move rfl) rfl ?_
  refine Tr.callRow rfl Try.call24 (fun w hw => normal_any b W w (hw.slF hW) (by omega)) rfl (fun V1 => ?_)
  refine Tr.q (QS.assign rfl) rfl ?_
  refine Tr.nil ?_
  refine Tr.thenN ?_
  refine Tr.seq ?_
  rw [← hnb]
  refine Tr.region ?_
  refine Tr.q (QS.assign rfl) rfl ?_
  refine Tr.nil ?_
  refine Tr.thenN ?_
  refine Tr.seq ?_
  refine Tr.seq ?_
  refine Tr.region ?_
  refine Tr.q (QS.move rfl) rfl ?_
  refine Tr.callRow rfl Try.call24 (fun w hw => normal_any a V w (hw.slF hV) (by omega)) rfl (fun V2 => ?_)
  first | refine Tr.q (QS.len rfl (by assumption) Try.underlying31) rfl ?_ | refine Tr.q (QS.lenRow rfl (by repeat (first | exact List.Mem.head _ | apply List.Mem.tail)) Try.underlying31) rfl ?_ | refine Tr.q (QS.lenNil rfl Try.underlying31) rfl ?_
  refine Tr.q (QS.move rfl) rfl ?_
  refine Tr.nil ?_
  refine Tr.thenN ?_
  refine Tr.block ?_
  rw [← hna]
  refine Tr.ownNil 51 encRng ?_
  refine Tr.loop (ι := Nat × Value × List Rng) (fun ⟨k, V', out⟩ => k ≤ na.length ∧ out = (na.take k).foldl (subOne nb) []) (fun _ => _) (fun ⟨k, V', out⟩ => [rowE V' 51 encRng out, rowE V2 51 encRng na, rowE V1 51 encRng nb]) (fun ⟨k, V', out⟩ => [(16, .int .i64 (k : Nat)), (6, V')]) (fun ⟨k, V', out⟩ => na.length - k) (0, _, []) ⟨Nat.zero_le _, rfl⟩ (.cons (by first | rfl | exact lookI rfl (by omega) | exact lookI rfl (by simp) | exact lookB rfl (by simp)) (.cons (by first | rfl | exact lookI rfl (by omega) | exact lookI rfl (by simp) | exact lookB rfl (by simp)) Front.nil)) (by repeat' (first | exact Pick.nil _ | exact Del.here _ | apply Pick.cons | apply Del.there)) rfl (fun i hi m hm => ?_)
  obtain ⟨k, V', out⟩ := i
  replace hi : k ≤ na.length ∧ out = (na.take k).foldl (subOne nb) [] := hi
  replace hm : m = na.length - k := hm
  change Tr _ _ [rowE V' 51 encRng out, rowE V2 51 encRng na, rowE V1 51 encRng nb] ([(16, .int .i64 (k : Nat)), (6, V')] ++ _) _
  obtain ⟨hk, ho⟩ := hi
  have hol := subOnes_len nb (na.take k) []
  rw [← ho] at hol
  simp only [List.length_take, List.length_nil] at hol
  have hol2 : out.length ≤ 1001000 := by
    have : min k na.length * (nb.length + 1) ≤ 1000 * 1001 := Nat.mul_le_mul (by omega) (by omega)
    omega
  refine Tr.seq ?_
  refine Tr.region ?_
  refine Tr.q (QS.lss rfl rfl) rfl ?_
  refine Tr.nil ?_
  refine Tr.thenN ?_
  refine Tr.seq ?_
  refine Tr.cond rfl (fun h3 => ?_) (fun h3 => ?_)
  · try simp only [Bool.and_eq_true, Bool.or_eq_true, Bool.not_eq_true', Bool.not_eq_false', decide_eq_true_eq, decide_eq_false_iff_not, Bool.and_eq_false_iff, Bool.or_eq_false_iff, ne_eq, Decidable.not_not] at h3
    refine Tr.skip ?_
    refine Tr.thenN ?_
    refine Tr.seq ?_
    refine Tr.block ?_
    refine Tr.seq ?_
    refine Tr.region ?_
    first | refine Tr.q (QS.idxN rfl rfl (by assumption) Try.underlying31 Try.sizeOf51 (by rfl) (by omega)) rfl ?_ | refine Tr.q (QS.idxRowN rfl rfl (by repeat (first | exact List.Mem.head _ | apply List.Mem.tail)) Try.underlying31 Try.sizeOf51 (by rfl) (by omega)) rfl ?_ | refine Tr.q (QS.idx rfl rfl (by assumption) Try.underlying31 Try.sizeOf51 (by rfl) (by omega)) rfl ?_ | refine Tr.q (QS.idxRow rfl rfl (by repeat (first | exact List.Mem.head _ | apply List.Mem.tail)) Try.underlying31 Try.sizeOf51 (by rfl) (by omega)) rfl ?_
    first | refine Tr.q (QS.loadVW rfl (by repeat (first | exact List.Mem.head _ | apply List.Mem.tail)) Try.isAgg51 Try.sizeOf51 (by rfl)) rfl ?_ | refine Tr.q (QS.elA rfl (by assumption) Try.isAgg51 Try.sizeOf51 (by rfl) (by omega)) rfl ?_ | refine Tr.q (QS.elRA rfl (by repeat (first | exact List.Mem.head _ | apply List.Mem.tail)) Try.isAgg51 Try.sizeOf51 (by rfl) (by omega)) rfl ?_
    refine Tr.alloc Try.zeroValue51 rfl rfl (fun b4 => ?_)
    first | refine Tr.storeW rfl rfl Try.sizeOf51 (by repeat (first | exact Put.here _ | apply Put.there)) (by rfl) (by rfl) (by first | exact Enc.one _ _ | exact Enc.one encRng _ | (intro u hu; simp [Value.cells] at hu; simp_all [Value.oneCell'])) rfl ?_ | refine Tr.storeV rfl rfl Try.sizeOf51 (by repeat (first | exact Put.here _ | apply Put.there)) rfl (by rfl) (by simp) (by intro u hu; simp [Value.cells] at hu; simp_all [Value.oneCell']) rfl ?_
    refine Tr.nil ?_
    refine Tr.thenN ?_
    refine Tr.seq ?_
    refine Tr.seq ?_
    refine Tr.region ?_
    refine Tr.q (QS.move rfl) rfl ?_
    first | refine Tr.q (QS.len rfl (by assumption) Try.underlying31) rfl ?_ | refine Tr.q (QS.lenRow rfl (by repeat (first | exact List.Mem.head _ | apply List.Mem.tail)) Try.underlying31) rfl ?_ | refine Tr.q (QS.lenNil rfl Try.underlying31) rfl ?_
    refine Tr.q (QS.move rfl) rfl ?_
    refine Tr.nil ?_
    refine Tr.thenN ?_
    refine Tr.block ?_
    refine Tr.loop (ι := Nat × Value × (List Rng × Rng)) (fun ⟨j, V4, s⟩ => j ≤ nb.length ∧ (nb.take j).foldl subStep (out, na.getD k default) = s) (fun _ => _) (fun ⟨j, V4, s⟩ => [rowE V4 51 encRng s.1, cellE b4 [.int .u32 s.2.lo.toNat, .int .u32 s.2.hi.toNat] 51, rowE V2 51 encRng na, rowE V1 51 encRng nb]) (fun ⟨j, V4, s⟩ => [(22, .int .i64 (j : Nat)), (6, V4)]) (fun ⟨j, V4, s⟩ => nb.length - j) (0, _, (out, na.getD k default)) ⟨Nat.zero_le _, rfl⟩ (.cons (by first | rfl | exact lookI rfl (by omega) | exact lookI rfl (by simp) | exact lookB rfl (by simp)) (.cons (by first | rfl | exact lookI rfl (by omega) | exact lookI rfl (by simp) | exact lookB rfl (by simp)) Front.nil)) (by repeat' (first | exact Pick.nil _ | exact Del.here _ | apply Pick.cons | apply Del.there)) rfl (fun i hi m hm => ?_)
    obtain ⟨j, V4, s⟩ := i
    replace hi : j ≤ nb.length ∧ (nb.take j).foldl subStep (out, na.getD k default) = s := hi
    replace hm : m = nb.length - j := hm
    change Tr _ _ [rowE V4 51 encRng s.1, cellE b4 [.int .u32 s.2.lo.toNat, .int .u32 s.2.hi.toNat] 51, rowE V2 51 encRng na, rowE V1 51 encRng nb] ([(22, .int .i64 (j : Nat)), (6, V4)] ++ _) _
    obtain ⟨hj, hs0⟩ := hi
    have hmm := subFold_len (nb.take j) (out, na.getD k default)
    rw [hs0] at hmm
    simp only [List.length_take] at hmm
    refine Tr.seq ?_
    refine Tr.region ?_
    refine Tr.q (QS.lss rfl rfl) rfl ?_
    refine Tr.nil ?_
    refine Tr.thenN ?_
    refine Tr.seq ?_
    refine Tr.cond rfl (fun h5 => ?_) (fun h5 => ?_)
    · try simp only [Bool.and_eq_true, Bool.or_eq_true, Bool.not_eq_true', Bool.not_eq_false', decide_eq_true_eq, decide_eq_false_iff_not, Bool.and_eq_false_iff, Bool.or_eq_false_iff, ne_eq, Decidable.not_not] at h5
      refine Tr.skip ?_
      refine Tr.thenN ?_
      refine Tr.seq ?_
      refine Tr.block ?_
      refine Tr.seq ?_
      refine Tr.region ?_
      first | refine Tr.q (QS.idxN rfl rfl (by assumption) Try.underlying31 Try.sizeOf51 (by rfl) (by omega)) rfl ?_ | refine Tr.q (QS.idxRowN rfl rfl (by repeat (first | exact List.Mem.head _ | apply List.Mem.tail)) Try.underlying31 Try.sizeOf51 (by rfl) (by omega)) rfl ?_ | refine Tr.q (QS.idx rfl rfl (by assumption) Try.underlying31 Try.sizeOf51 (by rfl) (by omega)) rfl ?_ | refine Tr.q (QS.idxRow rfl rfl (by repeat (first | exact List.Mem.head _ | apply List.Mem.tail)) Try.underlying31 Try.sizeOf51 (by rfl) (by omega)) rfl ?_
      first | refine Tr.q (QS.loadVW rfl (by repeat (first | exact List.Mem.head _ | apply List.Mem.tail)) Try.isAgg51 Try.sizeOf51 (by rfl)) rfl ?_ | refine Tr.q (QS.elA rfl (by assumption) Try.isAgg51 Try.sizeOf51 (by rfl) (by omega)) rfl ?_ | refine Tr.q (QS.elRA rfl (by repeat (first | exact List.Mem.head _ | apply List.Mem.tail)) Try.isAgg51 Try.sizeOf51 (by rfl) (by omega)) rfl ?_
      refine Tr.alloc Try.zeroValue51 rfl rfl (fun b6 => ?_)
      first | refine Tr.storeW rfl rfl Try.sizeOf51 (by repeat (first | exact Put.here _ | apply Put.there)) (by rfl) (by rfl) (by first | exact Enc.one _ _ | exact Enc.one encRng _ | (intro u hu; simp [Value.cells] at hu; simp_all [Value.oneCell'])) rfl ?_ | refine Tr.storeV rfl rfl Try.sizeOf51 (by repeat (first | exact Put.here _ | apply Put.there)) rfl (by rfl) (by simp) (by intro u hu; simp [Value.cells] at hu; simp_all [Value.oneCell']) rfl ?_
      refine Tr.nil ?_
      refine Tr.thenN ?_
      refine Tr.seq ?_
      refine Tr.seq ?_
      refine Tr.region ?_
      refine Tr.q (QS.fieldAddr (off := 1) (ft := 23) rfl Try.underlying51 rfl rfl Try.sizeOf23 (by decide)) rfl ?_
      first | refine Tr.q (QS.loadV rfl (by repeat (first | exact List.Mem.head _ | apply List.Mem.tail)) Try.isAgg23 (by rfl)) rfl ?_ | refine Tr.q (QS.loadC rfl (by assumption) Try.isAgg23) rfl ?_ | refine Tr.q (QS.el1 rfl (by assumption) Try.isAgg23 (by omega) (by rfl)) rfl ?_ | refine Tr.q (QS.elF rfl (by assumption) Try.isAgg23 (by omega) (by rfl)) rfl ?_ | refine Tr.q (QS.elR1 rfl (by repeat (first | exact List.Mem.head _ | apply List.Mem.tail)) Try.isAgg23 (by omega) (by rfl)) rfl ?_ | refine Tr.q (QS.elRF rfl (by repeat (first | exact List.Mem.head _ | apply List.Mem.tail)) Try.isAgg23 (by omega) (by rfl)) rfl ?_
      refine Tr.q (QS.fieldAddr (off := 0) (ft := 23) rfl Try.underlying51 rfl rfl Try.sizeOf23 (by decide)) rfl ?_
      first | refine Tr.q (QS.loadV rfl (by repeat (first | exact List.Mem.head _ | apply List.Mem.tail)) Try.isAgg23 (by rfl)) rfl ?_ | refine Tr.q (QS.loadC rfl (by assumption) Try.isAgg23) rfl ?_ | refine Tr.q (QS.el1 rfl (by assumption) Try.isAgg23 (by omega) (by rfl)) rfl ?_ | refine Tr.q (QS.elF rfl (by assumption) Try.isAgg23 (by omega) (by rfl)) rfl ?_ | refine Tr.q (QS.elR1 rfl (by repeat (first | exact List.Mem.head _ | apply List.Mem.tail)) Try.isAgg23 (by omega) (by rfl)) rfl ?_ | refine Tr.q (QS.elRF rfl (by repeat (first | exact List.Mem.head _ | apply List.Mem.tail)) Try.isAgg23 (by omega) (by rfl)) rfl ?_
      refine Tr.q (QS.leq32 rfl rfl) rfl ?_
      refine Tr.q (QS.move rfl) rfl ?_
      apply Tr.or (t := 31) (d := 37) 6
      · exact rfl
      · intro hF7; have hF7' := hF7
        try simp only [Bool.and_eq_true, Bool.or_eq_true, Bool.not_eq_true', Bool.not_eq_false', decide_eq_true_eq, decide_eq_false_iff_not, Bool.and_eq_false_iff, Bool.or_eq_false_iff, ne_eq, Decidable.not_not] at hF7'
        refine Tr.gq rfl rfl hF7 (QS.fieldAddr (off := 0) (ft := 23) rfl Try.underlying51 rfl rfl Try.sizeOf23 (by decide)) rfl ?_
        first | refine Tr.gq rfl rfl hF7 (QS.loadV rfl (by repeat (first | exact List.Mem.head _ | apply List.Mem.tail)) Try.isAgg23 (by rfl)) rfl ?_ | refine Tr.gq rfl rfl hF7 (QS.loadC rfl (by assumption) Try.isAgg23) rfl ?_ | refine Tr.gq rfl rfl hF7 (QS.el1 rfl (by assumption) Try.isAgg23 (by omega) (by rfl)) rfl ?_ | refine Tr.gq rfl rfl hF7 (QS.elF rfl (by assumption) Try.isAgg23 (by omega) (by rfl)) rfl ?_ | refine Tr.gq rfl rfl hF7 (QS.elR1 rfl (by repeat (first | exact List.Mem.head _ | apply List.Mem.tail)) Try.isAgg23 (by omega) (by rfl)) rfl ?_ | refine Tr.gq rfl rfl hF7 (QS.elRF rfl (by repeat (first | exact List.Mem.head _ | apply List.Mem.tail)) Try.isAgg23 (by omega) (by rfl)) rfl ?_
        refine Tr.gq rfl rfl hF7 (QS.fieldAddr (off := 1) (ft := 23) rfl Try.underlying51 rfl rfl Try.sizeOf23 (by decide)) rfl ?_
        first | refine Tr.gq rfl rfl hF7 (QS.loadV rfl (by repeat (first | exact List.Mem.head _ | apply List.Mem.tail)) Try.isAgg23 (by rfl)) rfl ?_ | refine Tr.gq rfl rfl hF7 (QS.loadC rfl (by assumption) Try.isAgg23) rfl ?_ | refine Tr.gq rfl rfl hF7 (QS.el1 rfl (by assumption) Try.isAgg23 (by omega) (by rfl)) rfl ?_ | refine Tr.gq rfl rfl hF7 (QS.elF rfl (by assumption) Try.isAgg23 (by omega) (by rfl)) rfl ?_ | refine Tr.gq rfl rfl hF7 (QS.elR1 rfl (by repeat (first | exact List.Mem.head _ | apply List.Mem.tail)) Try.isAgg23 (by omega) (by rfl)) rfl ?_ | refine Tr.gq rfl rfl hF7 (QS.elRF rfl (by repeat (first | exact List.Mem.head _ | apply List.Mem.tail)) Try.isAgg23 (by omega) (by rfl)) rfl ?_
        refine Tr.gq rfl rfl hF7 (QS.geq32 rfl rfl) rfl ?_
        refine Tr.q (QS.pickF rfl hF7 rfl) rfl ?_
        refine Tr.nil (Tr.thenN ?_)
        first | exact Tr.end (Sub.cons rfl (Sub.dropN 6 (by kernel_rfl) rfl)) rfl rfl | exact Tr.endP (Sub.cons rfl (Sub.dropN 6 (by kernel_rfl) rfl)) rfl (by repeat' (first | exact Pick.nil _ | exact Del.here _ | apply Pick.cons | apply Del.there))
      · intro hT7
        refine Tr.gskip rfl rfl hT7 rfl ?_
        refine Tr.gskip rfl rfl hT7 rfl ?_
        refine Tr.gskip rfl rfl hT7 rfl ?_
        refine Tr.gskip rfl rfl hT7 rfl ?_
        refine Tr.gskip rfl rfl hT7 rfl ?_
        refine Tr.q (QS.pickT rfl hT7 rfl) rfl ?_
        refine Tr.nil (Tr.thenN ?_)
        first | exact Tr.end (Sub.cons rfl (Sub.dropN 6 (by kernel_rfl) rfl)) rfl rfl | exact Tr.endP (Sub.cons rfl (Sub.dropN 6 (by kernel_rfl) rfl)) rfl (by repeat' (first | exact Pick.nil _ | exact Del.here _ | apply Pick.cons | apply Del.there))
      refine Tr.nil ?_
      refine Tr.thenN ?_
      refine Tr.cond rfl (fun h8 => ?_) (fun h8 => ?_)
      · try simp only [Bool.and_eq_true, Bool.or_eq_true, Bool.not_eq_true', Bool.not_eq_false', decide_eq_true_eq, decide_eq_false_iff_not, Bool.and_eq_false_iff, Bool.or_eq_false_iff, ne_eq, Decidable.not_not] at h8
        refine Tr.exit ?_
        refine Tr.thenE ?_
        refine Tr.inHit ?_
        refine Tr.thenN ?_
        refine Tr.region ?_
        first | refine Tr.q (QS.addI rfl rfl (by omega)) rfl ?_ | refine Tr.q (QS.add rfl rfl) rfl ?_
        refine Tr.q (QS.move rfl) rfl ?_
        refine Tr.nil ?_
        refine Tr.thenN ?_
        apply Tr.again (j + 1, _, s)
        · exact rfl
        · exact (.cons (by first | rfl | exact lookI rfl (by omega) | exact lookI rfl (by simp) | exact lookB rfl (by simp)) (.cons (by first | rfl | exact lookI rfl (by omega) | exact lookI rfl (by simp) | exact lookB rfl (by simp)) Front.nil))
        · exact SubX.dropN 15 (by kernel_rfl) rfl
        · exact (by repeat' (first | exact Pick.nil _ | exact Del.here _ | apply Pick.cons | apply Del.there))
        · exact ⟨by omega, by rw [foldl_take_succ (by omega), hs0]; exact subStep_skip (by assumption)⟩
        · exact (by (try dsimp only); omega)
      · try simp only [Bool.and_eq_true, Bool.or_eq_true, Bool.not_eq_true', Bool.not_eq_false', decide_eq_true_eq, decide_eq_false_iff_not, Bool.and_eq_false_iff, Bool.or_eq_false_iff, ne_eq, Decidable.not_not] at h8
        refine Tr.skip ?_
        refine Tr.thenN ?_
        refine Tr.seq ?_
        refine Tr.seq ?_
        refine Tr.region ?_
        refine Tr.q (QS.fieldAddr (off := 0) (ft := 23) rfl Try.underlying51 rfl rfl Try.sizeOf23 (by decide)) rfl ?_
        first | refine Tr.q (QS.loadV rfl (by repeat (first | exact List.Mem.head _ | apply List.Mem.tail)) Try.isAgg23 (by rfl)) rfl ?_ | refine Tr.q (QS.loadC rfl (by assumption) Try.isAgg23) rfl ?_ | refine Tr.q (QS.el1 rfl (by assumption) Try.isAgg23 (by omega) (by rfl)) rfl ?_ | refine Tr.q (QS.elF rfl (by assumption) Try.isAgg23 (by omega) (by rfl)) rfl ?_ | refine Tr.q (QS.elR1 rfl (by repeat (first | exact List.Mem.head _ | apply List.Mem.tail)) Try.isAgg23 (by omega) (by rfl)) rfl ?_ | refine Tr.q (QS.elRF rfl (by repeat (first | exact List.Mem.head _ | apply List.Mem.tail)) Try.isAgg23 (by omega) (by rfl)) rfl ?_
        refine Tr.q (QS.fieldAddr (off := 0) (ft := 23) rfl Try.underlying51 rfl rfl Try.sizeOf23 (by decide)) rfl ?_
        first | refine Tr.q (QS.loadV rfl (by repeat (first | exact List.Mem.head _ | apply List.Mem.tail)) Try.isAgg23 (by rfl)) rfl ?_ | refine Tr.q (QS.loadC rfl (by assumption) Try.isAgg23) rfl ?_ | refine Tr.q (QS.el1 rfl (by assumption) Try.isAgg23 (by omega) (by rfl)) rfl ?_ | refine Tr.q (QS.elF rfl (by assumption) Try.isAgg23 (by omega) (by rfl)) rfl ?_ | refine Tr.q (QS.elR1 rfl (by repeat (first | exact List.Mem.head _ | apply List.Mem.tail)) Try.isAgg23 (by omega) (by rfl)) rfl ?_ | refine Tr.q (QS.elRF rfl (by repeat (first | exact List.Mem.head _ | apply List.Mem.tail)) Try.isAgg23 (by omega) (by rfl)) rfl ?_
        refine Tr.q (QS.gtr32 rfl rfl) rfl ?_
        refine Tr.nil ?_
        refine Tr.thenN ?_
        refine Tr.cond rfl (fun h9 => ?_) (fun h9 => ?_)
        · try simp only [Bool.and_eq_true, Bool.or_eq_true, Bool.not_eq_true', Bool.not_eq_false', decide_eq_true_eq, decide_eq_false_iff_not, Bool.and_eq_false_iff, Bool.or_eq_false_iff, ne_eq, Decidable.not_not] at h9
          refine Tr.region ?_
          refine Tr.q (QS.move rfl) rfl ?_
          refine Tr.q (QS.fieldAddr (off := 0) (ft := 23) rfl Try.underlying51 rfl rfl Try.sizeOf23 (by decide)) rfl ?_
          first | refine Tr.q (QS.loadV rfl (by repeat (first | exact List.Mem.head _ | apply List.Mem.tail)) Try.isAgg23 (by rfl)) rfl ?_ | refine Tr.q (QS.loadC rfl (by assumption) Try.isAgg23) rfl ?_ | refine Tr.q (QS.el1 rfl (by assumption) Try.isAgg23 (by omega) (by rfl)) rfl ?_ | refine Tr.q (QS.elF rfl (by assumption) Try.isAgg23 (by omega) (by rfl)) rfl ?_ | refine Tr.q (QS.elR1 rfl (by repeat (first | exact List.Mem.head _ | apply List.Mem.tail)) Try.isAgg23 (by omega) (by rfl)) rfl ?_ | refine Tr.q (QS.elRF rfl (by repeat (first | exact List.Mem.head _ | apply List.Mem.tail)) Try.isAgg23 (by omega) (by rfl)) rfl ?_
          refine Tr.q (QS.fieldAddr (off := 0) (ft := 23) rfl Try.underlying51 rfl rfl Try.sizeOf23 (by decide)) rfl ?_
          first | refine Tr.q (QS.loadV rfl (by repeat (first | exact List.Mem.head _ | apply List.Mem.tail)) Try.isAgg23 (by rfl)) rfl ?_ | refine Tr.q (QS.loadC rfl (by assumption) Try.isAgg23) rfl ?_ | refine Tr.q (QS.el1 rfl (by assumption) Try.isAgg23 (by omega) (by rfl)) rfl ?_ | refine Tr.q (QS.elF rfl (by assumption) Try.isAgg23 (by omega) (by rfl)) rfl ?_ | refine Tr.q (QS.elR1 rfl (by repeat (first | exact List.Mem.head _ | apply List.Mem.tail)) Try.isAgg23 (by omega) (by rfl)) rfl ?_ | refine Tr.q (QS.elRF rfl (by repeat (first | exact List.Mem.head _ | apply List.Mem.tail)) Try.isAgg23 (by omega) (by rfl)) rfl ?_
          refine Tr.q (QS.build (vs := [(0, _), (1, _)]) rfl rfl rfl) rfl ?_
          refine Tr.lit1 (E := encRng) ⟨s.2.lo, (nb.getD j default).lo⟩ rfl rfl Try.underlying31 Try.sizeOf51 Try.zeroValue51 (by rfl) (by rfl) rfl (fun V10 => ?_)
          first | refine Tr.append1 rfl rfl (by repeat (first | exact Del.here _ | apply Del.there)) (by repeat (first | exact Del.here _ | apply Del.there)) Try.underlying31 HLF.info51 (by rfl) (by rfl) (by (try simp only [List.length_cons, List.length_nil, List.length_append, List.length_take]); omega) (by unfold maxLen; (try simp only [List.length_cons, List.length_nil, List.length_append, List.length_take]); omega) rfl (fun V11 => ?_) | refine Tr.ownNil _ _ (Tr.append1 rfl rfl (by repeat (first | exact Del.here _ | apply Del.there)) (by repeat (first | exact Del.here _ | apply Del.there)) Try.underlying31 HLF.info51 (by rfl) (by rfl) (by (try simp only [List.length_cons, List.length_nil, List.length_append, List.length_take]); omega) (by unfold maxLen; (try simp only [List.length_cons, List.length_nil, List.length_append, List.length_take]); omega) rfl (fun V11 => ?_)) | refine Tr.appendOf rfl rfl (by repeat (first | exact Del.here _ | apply Del.there)) (fun w hw => hw.slF (by assumption)) Try.underlying31 HLF.info51 (by rfl) (by rfl) (by (try simp only [List.length_cons, List.length_nil, List.length_append, List.length_take]); omega) (by unfold maxLen; (try simp only [List.length_cons, List.length_nil, List.length_append, List.length_take]); omega) rfl (fun V11 => ?_) | refine Tr.ownNil _ _ (Tr.appendOf rfl rfl (by repeat (first | exact Del.here _ | apply Del.there)) (fun w hw => hw.slF (by assumption)) Try.underlying31 HLF.info51 (by rfl) (by rfl) (by (try simp only [List.length_cons, List.length_nil, List.length_append, List.length_take]); omega) (by unfold maxLen; (try simp only [List.length_cons, List.length_nil, List.length_append, List.length_take]); omega) rfl (fun V11 => ?_)) | refine Tr.appendOf rfl rfl (by repeat (first | exact Del.here _ | apply Del.there)) (fun w hw => hw.row (by repeat (first | exact List.Mem.head _ | apply List.Mem.tail))) Try.underlying31 HLF.info51 (by rfl) (by rfl) (by (try simp only [List.length_cons, List.length_nil, List.length_append, List.length_take]); omega) (by unfold maxLen; (try simp only [List.length_cons, List.length_nil, List.length_append, List.length_take]); omega) rfl (fun V11 => ?_)
          refine Tr.q (QS.assign rfl) rfl ?_
          refine Tr.nil ?_
          refine Tr.thenN ?_
          refine Tr.region ?_
          refine Tr.q (QS.fieldAddr (off := 1) (ft := 23) rfl Try.underlying51 rfl rfl Try.sizeOf23 (by decide)) rfl ?_
          first | refine Tr.q (QS.loadV rfl (by repeat (first | exact List.Mem.head _ | apply List.Mem.tail)) Try.isAgg23 (by rfl)) rfl ?_ | refine Tr.q (QS.loadC rfl (by assumption) Try.isAgg23) rfl ?_ | refine Tr.q (QS.el1 rfl (by assumption) Try.isAgg23 (by omega) (by rfl)) rfl ?_ | refine Tr.q (QS.elF rfl (by assumption) Try.isAgg23 (by omega) (by rfl)) rfl ?_ | refine Tr.q (QS.elR1 rfl (by repeat (first | exact List.Mem.head _ | apply List.Mem.tail)) Try.isAgg23 (by omega) (by rfl)) rfl ?_ | refine Tr.q (QS.elRF rfl (by repeat (first | exact List.Mem.head _ | apply List.Mem.tail)) Try.isAgg23 (by omega) (by rfl)) rfl ?_
          refine Tr.q (QS.fieldAddr (off := 1) (ft := 23) rfl Try.underlying51 rfl rfl Try.sizeOf23 (by decide)) rfl ?_
          first | refine Tr.q (QS.loadV rfl (by repeat (first | exact List.Mem.head _ | apply List.Mem.tail)) Try.isAgg23 (by rfl)) rfl ?_ | refine Tr.q (QS.loadC rfl (by assumption) Try.isAgg23) rfl ?_ | refine Tr.q (QS.el1 rfl (by assumption) Try.isAgg23 (by omega) (by rfl)) rfl ?_ | refine Tr.q (QS.elF rfl (by assumption) Try.isAgg23 (by omega) (by rfl)) rfl ?_ | refine Tr.q (QS.elR1 rfl (by repeat (first | exact List.Mem.head _ | apply List.Mem.tail)) Try.isAgg23 (by omega) (by rfl)) rfl ?_ | refine Tr.q (QS.elRF rfl (by repeat (first | exact List.Mem.head _ | apply List.Mem.tail)) Try.isAgg23 (by omega) (by rfl)) rfl ?_
          refine Tr.q (QS.min32 rfl rfl) rfl ?_
          refine Tr.q (QS.fieldAddr (off := 0) (ft := 23) rfl Try.underlying51 rfl rfl Try.sizeOf23 (by decide)) rfl ?_
          first | refine Tr.storeW rfl rfl Try.sizeOf23 (by repeat (first | exact Put.here _ | apply Put.there)) (by rfl) (by rfl) (by first | exact Enc.one _ _ | exact Enc.one encU32 _ | (intro u hu; simp [Value.cells] at hu; simp_all [Value.oneCell'])) rfl ?_ | refine Tr.storeV rfl rfl Try.sizeOf23 (by repeat (first | exact Put.here _ | apply Put.there)) rfl (by rfl) (by simp) (by intro u hu; simp [Value.cells] at hu; simp_all [Value.oneCell']) rfl ?_
          refine Tr.nil ?_
          refine Tr.inN ?_
          refine Tr.thenN ?_
          refine Tr.region ?_
          first | refine Tr.q (QS.addI rfl rfl (by omega)) rfl ?_ | refine Tr.q (QS.add rfl rfl) rfl ?_
          refine Tr.q (QS.move rfl) rfl ?_
          refine Tr.nil ?_
          refine Tr.thenN ?_
          apply Tr.again (j + 1, _, (s.1 ++ [⟨s.2.lo, (nb.getD j default).lo⟩], ⟨if s.2.hi < (nb.getD j default).hi then s.2.hi else (nb.getD j default).hi, s.2.hi⟩))
          · exact rfl
          · exact (.cons (by first | rfl | exact lookI rfl (by omega) | exact lookI rfl (by simp) | exact lookB rfl (by simp)) (.cons (by first | rfl | exact lookI rfl (by omega) | exact lookI rfl (by simp) | exact lookB rfl (by simp)) Front.nil))
          · exact SubX.dropN 35 (by kernel_rfl) rfl
          · exact (by repeat' (first | exact Pick.nil _ | exact Del.here _ | apply Pick.cons | apply Del.there))
          · exact ⟨by omega, by rw [foldl_take_succ (by omega), hs0]; exact subStep_app (by assumption) (by assumption)⟩
          · exact (by (try dsimp only); omega)
        · try simp only [Bool.and_eq_true, Bool.or_eq_true, Bool.not_eq_true', Bool.not_eq_false', decide_eq_true_eq, decide_eq_false_iff_not, Bool.and_eq_false_iff, Bool.or_eq_false_iff, ne_eq, Decidable.not_not] at h9
          refine Tr.skip ?_
          refine Tr.thenN ?_
          refine Tr.region ?_
          refine Tr.q (QS.fieldAddr (off := 1) (ft := 23) rfl Try.underlying51 rfl rfl Try.sizeOf23 (by decide)) rfl ?_
          first | refine Tr.q (QS.loadV rfl (by repeat (first | exact List.Mem.head _ | apply List.Mem.tail)) Try.isAgg23 (by rfl)) rfl ?_ | refine Tr.q (QS.loadC rfl (by assumption) Try.isAgg23) rfl ?_ | refine Tr.q (QS.el1 rfl (by assumption) Try.isAgg23 (by omega) (by rfl)) rfl ?_ | refine Tr.q (QS.elF rfl (by assumption) Try.isAgg23 (by omega) (by rfl)) rfl ?_ | refine Tr.q (QS.elR1 rfl (by repeat (first | exact List.Mem.head _ | apply List.Mem.tail)) Try.isAgg23 (by omega) (by rfl)) rfl ?_ | refine Tr.q (QS.elRF rfl (by repeat (first | exact List.Mem.head _ | apply List.Mem.tail)) Try.isAgg23 (by omega) (by rfl)) rfl ?_
          refine Tr.q (QS.fieldAddr (off := 1) (ft := 23) rfl Try.underlying51 rfl rfl Try.sizeOf23 (by decide)) rfl ?_
          first | refine Tr.q (QS.loadV rfl (by repeat (first | exact List.Mem.head _ | apply List.Mem.tail)) Try.isAgg23 (by rfl)) rfl ?_ | refine Tr.q (QS.loadC rfl (by assumption) Try.isAgg23) rfl ?_ | refine Tr.q (QS.el1 rfl (by assumption) Try.isAgg23 (by omega) (by rfl)) rfl ?_ | refine Tr.q (QS.elF rfl (by assumption) Try.isAgg23 (by omega) (by rfl)) rfl ?_ | refine Tr.q (QS.elR1 rfl (by repeat (first | exact List.Mem.head _ | apply List.Mem.tail)) Try.isAgg23 (by omega) (by rfl)) rfl ?_ | refine Tr.q (QS.elRF rfl (by repeat (first | exact List.Mem.head _ | apply List.Mem.tail)) Try.isAgg23 (by omega) (by rfl)) rfl ?_
          refine Tr.q (QS.min32 rfl rfl) rfl ?_
          refine Tr.q (QS.fieldAddr (off := 0) (ft := 23) rfl Try.underlying51 rfl rfl Try.sizeOf23 (by decide)) rfl ?_
          first | refine Tr.storeW rfl rfl Try.sizeOf23 (by repeat (first | exact Put.here _ | apply Put.there)) (by rfl) (by rfl) (by first | exact Enc.one _ _ | exact Enc.one encU32 _ | (intro u hu; simp [Value.cells] at hu; simp_all [Value.oneCell'])) rfl ?_ | refine Tr.storeV rfl rfl Try.sizeOf23 (by repeat (first | exact Put.here _ | apply Put.there)) rfl (by rfl) (by simp) (by intro u hu; simp [Value.cells] at hu; simp_all [Value.oneCell']) rfl ?_
          refine Tr.nil ?_
          refine Tr.inN ?_
          refine Tr.thenN ?_
          refine Tr.region ?_
          first | refine Tr.q (QS.addI rfl rfl (by omega)) rfl ?_ | refine Tr.q (QS.add rfl rfl) rfl ?_
          refine Tr.q (QS.move rfl) rfl ?_
          refine Tr.nil ?_
          refine Tr.thenN ?_
          apply Tr.again (j + 1, _, (s.1, ⟨if s.2.hi < (nb.getD j default).hi then s.2.hi else (nb.getD j default).hi, s.2.hi⟩))
          · exact rfl
          · exact (.cons (by first | rfl | exact lookI rfl (by omega) | exact lookI rfl (by simp) | exact lookB rfl (by simp)) (.cons (by first | rfl | exact lookI rfl (by omega) | exact lookI rfl (by simp) | exact lookB rfl (by simp)) Front.nil))
          · exact SubX.dropN 26 (by kernel_rfl) rfl
          · exact (by repeat' (first | exact Pick.nil _ | exact Del.here _ | apply Pick.cons | apply Del.there))
          · exact ⟨by omega, by rw [foldl_take_succ (by omega), hs0]; exact subStep_no (by assumption) (by assumption)⟩
          · exact (by (try dsimp only); omega)
    · try simp only [Bool.and_eq_true, Bool.or_eq_true, Bool.not_eq_true', Bool.not_eq_false', decide_eq_true_eq, decide_eq_false_iff_not, Bool.and_eq_false_iff, Bool.or_eq_false_iff, ne_eq, Decidable.not_not] at h5
      refine Tr.exit ?_
      refine Tr.thenE ?_
      refine Tr.thenE ?_
      refine Tr.inHit ?_
      refine Tr.thenN ?_
      refine Tr.seq ?_
      have hs : nb.foldl subStep (out, na.getD k default) = s := by rw [← hs0, List.take_of_length_le (by omega)]
      refine Tr.region ?_
      refine Tr.q (QS.fieldAddr (off := 0) (ft := 23) rfl Try.underlying51 rfl rfl Try.sizeOf23 (by decide)) rfl ?_
      first | refine Tr.q (QS.loadV rfl (by repeat (first | exact List.Mem.head _ | apply List.Mem.tail)) Try.isAgg23 (by rfl)) rfl ?_ | refine Tr.q (QS.loadC rfl (by assumption) Try.isAgg23) rfl ?_ | refine Tr.q (QS.el1 rfl (by assumption) Try.isAgg23 (by omega) (by rfl)) rfl ?_ | refine Tr.q (QS.elF rfl (by assumption) Try.isAgg23 (by omega) (by rfl)) rfl ?_ | refine Tr.q (QS.elR1 rfl (by repeat (first | exact List.Mem.head _ | apply List.Mem.tail)) Try.isAgg23 (by omega) (by rfl)) rfl ?_ | refine Tr.q (QS.elRF rfl (by repeat (first | exact List.Mem.head _ | apply List.Mem.tail)) Try.isAgg23 (by omega) (by rfl)) rfl ?_
      refine Tr.q (QS.fieldAddr (off := 1) (ft := 23) rfl Try.underlying51 rfl rfl Try.sizeOf23 (by decide)) rfl ?_
      first | refine Tr.q (QS.loadV rfl (by repeat (first | exact List.Mem.head _ | apply List.Mem.tail)) Try.isAgg23 (by rfl)) rfl ?_ | refine Tr.q (QS.loadC rfl (by assumption) Try.isAgg23) rfl ?_ | refine Tr.q (QS.el1 rfl (by assumption) Try.isAgg23 (by omega) (by rfl)) rfl ?_ | refine Tr.q (QS.elF rfl (by assumption) Try.isAgg23 (by omega) (by rfl)) rfl ?_ | refine Tr.q (QS.elR1 rfl (by repeat (first | exact List.Mem.head _ | apply List.Mem.tail)) Try.isAgg23 (by omega) (by rfl)) rfl ?_ | refine Tr.q (QS.elRF rfl (by repeat (first | exact List.Mem.head _ | apply List.Mem.tail)) Try.isAgg23 (by omega) (by rfl)) rfl ?_
      refine Tr.q (QS.lss32 rfl rfl) rfl ?_
      refine Tr.nil ?_
      refine Tr.thenN ?_
      refine Tr.cond rfl (fun h12 => ?_) (fun h12 => ?_)
      · try simp only [Bool.and_eq_true, Bool.or_eq_true, Bool.not_eq_true', Bool.not_eq_false', decide_eq_true_eq, decide_eq_false_iff_not, Bool.and_eq_false_iff, Bool.or_eq_false_iff, ne_eq, Decidable.not_not] at h12
        refine Tr.region ?_
        refine Tr.q (QS.move rfl) rfl ?_
        first | refine Tr.q (QS.loadVW rfl (by repeat (first | exact List.Mem.head _ | apply List.Mem.tail)) Try.isAgg51 Try.sizeOf51 (by rfl)) rfl ?_ | refine Tr.q (QS.elA rfl (by assumption) Try.isAgg51 Try.sizeOf51 (by rfl) (by omega)) rfl ?_ | refine Tr.q (QS.elRA rfl (by repeat (first | exact List.Mem.head _ | apply List.Mem.tail)) Try.isAgg51 Try.sizeOf51 (by rfl) (by omega)) rfl ?_
        first | refine Tr.lit1 (E := encRng) _ rfl rfl Try.underlying31 Try.sizeOf51 Try.zeroValue51 (by rfl) (by rfl) rfl (fun V13 => ?_) | refine Tr.lit1 (E := encRng) ⟨_, _⟩ rfl rfl Try.underlying31 Try.sizeOf51 Try.zeroValue51 (by rfl) (by rfl) rfl (fun V13 => ?_)
        first | refine Tr.append1 rfl rfl (by repeat (first | exact Del.here _ | apply Del.there)) (by repeat (first | exact Del.here _ | apply Del.there)) Try.underlying31 HLF.info51 (by rfl) (by rfl) (by (try simp only [List.length_cons, List.length_nil, List.length_append, List.length_take]); omega) (by unfold maxLen; (try simp only [List.length_cons, List.length_nil, List.length_append, List.length_take]); omega) rfl (fun V14 => ?_) | refine Tr.ownNil _ _ (Tr.append1 rfl rfl (by repeat (first | exact Del.here _ | apply Del.there)) (by repeat (first | exact Del.here _ | apply Del.there)) Try.underlying31 HLF.info51 (by rfl) (by rfl) (by (try simp only [List.length_cons, List.length_nil, List.length_append, List.length_take]); omega) (by unfold maxLen; (try simp only [List.length_cons, List.length_nil, List.length_append, List.length_take]); omega) rfl (fun V14 => ?_)) | refine Tr.appendOf rfl rfl (by repeat (first | exact Del.here _ | apply Del.there)) (fun w hw => hw.slF (by assumption)) Try.underlying31 HLF.info51 (by rfl) (by rfl) (by (try simp only [List.length_cons, List.length_nil, List.length_append, List.length_take]); omega) (by unfold maxLen; (try simp only [List.length_cons, List.length_nil, List.length_append, List.length_take]); omega) rfl (fun V14 => ?_) | refine Tr.ownNil _ _ (Tr.appendOf rfl rfl (by repeat (first | exact Del.here _ | apply Del.there)) (fun w hw => hw.slF (by assumption)) Try.underlying31 HLF.info51 (by rfl) (by rfl) (by (try simp only [List.length_cons, List.length_nil, List.length_append, List.length_take]); omega) (by unfold maxLen; (try simp only [List.length_cons, List.length_nil, List.length_append, List.length_take]); omega) rfl (fun V14 => ?_)) | refine Tr.appendOf rfl rfl (by repeat (first | exact Del.here _ | apply Del.there)) (fun w hw => hw.row (by repeat (first | exact List.Mem.head _ | apply List.Mem.tail))) Try.underlying31 HLF.info51 (by rfl) (by rfl) (by (try simp only [List.length_cons, List.length_nil, List.length_append, List.length_take]); omega) (by unfold maxLen; (try simp only [List.length_cons, List.length_nil, List.length_append, List.length_take]); omega) rfl (fun V14 => ?_)
        refine Tr.q (QS.assign rfl) rfl ?_
        refine Tr.nil ?_
        refine Tr.inN ?_
        refine Tr.thenN ?_
        refine Tr.region ?_
        first | refine Tr.q (QS.addI rfl rfl (by omega)) rfl ?_ | refine Tr.q (QS.add rfl rfl) rfl ?_
        refine Tr.q (QS.move rfl) rfl ?_
        refine Tr.nil ?_
        refine Tr.thenN ?_
        apply Tr.again (k + 1, _, _)
        · exact rfl
        · exact (.cons (by first | rfl | exact lookI rfl (by omega) | exact lookI rfl (by simp) | exact lookB rfl (by simp)) (.cons (by first | rfl | exact lookI rfl (by omega) | exact lookI rfl (by simp) | exact lookB rfl (by simp)) Front.nil))
        · exact SubX.dropN 24 (by kernel_rfl) rfl
        · exact (by repeat' (first | exact Pick.nil _ | exact Del.here _ | apply Pick.cons | apply Del.there))
        · exact ⟨by omega, by rw [foldl_take_succ (by omega), ← ho, subOne, hs, subEnd, if_pos (by assumption)]⟩
        · exact (by (try dsimp only); omega)
      · try simp only [Bool.and_eq_true, Bool.or_eq_true, Bool.not_eq_true', Bool.not_eq_false', decide_eq_true_eq, decide_eq_false_iff_not, Bool.and_eq_false_iff, Bool.or_eq_false_iff, ne_eq, Decidable.not_not] at h12
        refine Tr.skip ?_
        refine Tr.inN ?_
        refine Tr.thenN ?_
        refine Tr.region ?_
        first | refine Tr.q (QS.addI rfl rfl (by omega)) rfl ?_ | refine Tr.q (QS.add rfl rfl) rfl ?_
        refine Tr.q (QS.move rfl) rfl ?_
        refine Tr.nil ?_
        refine Tr.thenN ?_
        apply Tr.again (k + 1, _, _)
        · exact rfl
        · exact (.cons (by first | rfl | exact lookI rfl (by omega) | exact lookI rfl (by simp) | exact lookB rfl (by simp)) (.cons (by first | rfl | exact lookI rfl (by omega) | exact lookI rfl (by simp) | exact lookB rfl (by simp)) Front.nil))
        · exact SubX.dropN 19 (by kernel_rfl) rfl
        · exact (by repeat' (first | exact Pick.nil _ | exact Del.here _ | apply Pick.cons | apply Del.there))
        · exact ⟨by omega, by rw [foldl_take_succ (by omega), ← ho, subOne, hs, subEnd, if_neg (by assumption)]⟩
        · exact (by (try dsimp only); omega)
  · try simp only [Bool.and_eq_true, Bool.or_eq_true, Bool.not_eq_true', Bool.not_eq_false', decide_eq_true_eq, decide_eq_false_iff_not, Bool.and_eq_false_iff, Bool.or_eq_false_iff, ne_eq, Decidable.not_not] at h3
    refine Tr.exit ?_
    refine Tr.thenE ?_
    refine Tr.thenE ?_
    refine Tr.inHit ?_
    refine Tr.thenN ?_
    refine Tr.seq ?_
    refine Tr.region ?_
    refine Tr.q (QS.move rfl) rfl ?_
    refine Tr.q (QS.assign rfl) rfl ?_
    refine Tr.nil ?_
    refine Tr.thenN ?_
    refine Tr.ret ?_
    refine Tr.ret1 Try.results36 rfl (fun w' hw => ?_)
    exact ⟨_, rfl, hw.below (Bg.le.refl _), by rw [show subtractP a b = out by rw [subtractP, ← hna, ← hnb, ho, List.take_of_length_le (by omega)]]; exact hw.new (.head _)⟩

end Go.Proofs.Ytfmhhakhbopfdaa
