/- The walks of chapter 11's reference. -/
import Derived.Test.YtfnedefgepjbpaaWr
import Derived.Test.YtfnedefgepjbpaaWl
import Derived.Test.YtfnedefgepjbpaaTb
set_option linter.unusedSimpArgs false
set_option linter.unusedVariables false
namespace Go.Proofs.Ytfnedefgepjbpaa
open Go Go.HL Go.RowKit

set_option maxRecDepth 100000 in
set_option maxHeartbeats 2000000 in
theorem nextR_any (l : List SecV) (V : Value) (a : Int) (w : World) (hV : Sl (hp w) encSec l V) (hB : SecB l) (ha : 0 ≤ a ∧ a ≤ 4294967300) :
    Calls Try.prog 33 #[V, .int .i64 a] w (fun e w' => e = .returned (.int .i64 (nextR l a)) ∧ Ext w w') := by
  have hV' : Sl (Bg.of w).blk encSec l V := hV
  have hlen := hB.1
  refine enter Try.func33 rfl Try.ntmps33 rfl ?_
  refine Tr.seq ?_
  refine Tr.region ?_
  refine Tr.q (QS.assign rfl) rfl ?_
  refine Tr.nil ?_
  refine Tr.thenN ?_
  refine Tr.seq ?_
  refine Tr.region ?_
  refine Tr.q (QS.assign rfl) rfl ?_
  refine Tr.nil ?_
  refine Tr.thenN ?_
  refine Tr.seq ?_
  refine Tr.seq ?_
  refine Tr.region ?_
  refine Tr.q (QS.assign rfl) rfl ?_
  refine Tr.nil ?_
  refine Tr.thenN ?_
  refine Tr.block ?_
  refine Tr.loop (ι := Nat × Int) (fun ⟨k, best⟩ => k ≤ l.length ∧ best = (l.take k).foldl (stepR a) (-1) ∧ -1 ≤ best ∧ best ≤ 4294967300) (fun _ => _) (fun ⟨k, best⟩ => []) (fun ⟨k, best⟩ => [(6, .int .i64 (k : Nat)), (5, .int .i64 best)]) (fun ⟨k, best⟩ => l.length - k) (0, -1) ⟨Nat.zero_le _, rfl, by omega, by omega⟩ (.cons (by first | rfl | exact lookI rfl (by omega) | exact lookI rfl (by simp) | exact lookB rfl (by simp)) (.cons (by first | rfl | exact lookI rfl (by omega) | exact lookI rfl (by simp) | exact lookB rfl (by simp)) Front.nil)) (by repeat' (first | exact Pick.nil _ | exact Del.here _ | apply Pick.cons | apply Del.there)) rfl (fun i hi m hm => ?_)
  obtain ⟨k, best⟩ := i
  replace hi : k ≤ l.length ∧ best = (l.take k).foldl (stepR a) (-1) ∧ -1 ≤ best ∧ best ≤ 4294967300 := hi
  replace hm : m = l.length - k := hm
  change Tr _ _ [] ([(6, .int .i64 (k : Nat)), (5, .int .i64 best)] ++ _) _
  obtain ⟨hk1, hk2, hk3, hk4⟩ := hi
  have hadr := (l.getD k default).addr.toNat_lt
  have hdl : k < l.length → (l.getD k default).data.length ≤ 200000 := fun q => hB.at q
  have hlr := lowR_rng ha (l.getD k default)
  have hsr := stepR_rng ha ⟨hk3, hk4⟩ (l.getD k default)
  refine Tr.seq ?_
  refine Tr.seq ?_
  refine Tr.region ?_
  refine Tr.q (QS.move rfl) rfl ?_
  refine Tr.q (QS.move rfl) rfl ?_
  first | refine Tr.q (QS.len rfl (by assumption) Try.underlying22) rfl ?_ | refine Tr.q (QS.lenRow rfl (by repeat (first | exact List.Mem.head _ | apply List.Mem.tail)) Try.underlying22) rfl ?_ | refine Tr.q (QS.lenNil rfl Try.underlying22) rfl ?_
  refine Tr.q (QS.lss rfl rfl) rfl ?_
  refine Tr.nil ?_
  refine Tr.thenN ?_
  refine Tr.cond rfl (fun h1 => ?_) (fun h1 => ?_)
  · try simp only [bs] at h1
    refine Tr.skip ?_
    refine Tr.thenN ?_
    refine Tr.seq ?_
    refine Tr.block ?_
    refine Tr.seq ?_
    refine Tr.region ?_
    refine Tr.q (QS.move rfl) rfl ?_
    refine Tr.q (QS.move rfl) rfl ?_
    first | refine Tr.q (QS.idxN rfl rfl (by assumption) Try.underlying22 Try.sizeOf59 (by rfl) (by omega)) rfl ?_ | refine Tr.q (QS.idxRowN rfl rfl (by repeat (first | exact List.Mem.head _ | apply List.Mem.tail)) Try.underlying22 Try.sizeOf59 (by rfl) (by omega)) rfl ?_ | refine Tr.q (QS.idx rfl rfl (by assumption) Try.underlying22 Try.sizeOf59 (by rfl) (by omega)) rfl ?_ | refine Tr.q (QS.idxRow rfl rfl (by repeat (first | exact List.Mem.head _ | apply List.Mem.tail)) Try.underlying22 Try.sizeOf59 (by rfl) (by omega)) rfl ?_
    refine Tr.q (QS.fieldAddr (off := 1) (ft := 23) rfl Try.underlying59 rfl rfl Try.sizeOf23 (by decide)) rfl ?_
    first | refine Tr.q (QS.elF rfl (by assumption) Try.isAgg23 (by omega) (by rfl)) rfl ?_ | refine Tr.q (QS.elRF rfl (by repeat (first | exact List.Mem.head _ | apply List.Mem.tail)) Try.isAgg23 (by omega) (by rfl)) rfl ?_
    refine Tr.q (QS.cvt32toI rfl Try.underlying23 Try.underlying3) rfl ?_
    refine Tr.q (QS.assign rfl) rfl ?_
    refine Tr.nil ?_
    refine Tr.thenN ?_
    refine Tr.seq ?_
    refine Tr.region ?_
    refine Tr.q (QS.move rfl) rfl ?_
    refine Tr.q (QS.move rfl) rfl ?_
    refine Tr.q (QS.move rfl) rfl ?_
    first | refine Tr.q (QS.idxN rfl rfl (by assumption) Try.underlying22 Try.sizeOf59 (by rfl) (by omega)) rfl ?_ | refine Tr.q (QS.idxRowN rfl rfl (by repeat (first | exact List.Mem.head _ | apply List.Mem.tail)) Try.underlying22 Try.sizeOf59 (by rfl) (by omega)) rfl ?_ | refine Tr.q (QS.idx rfl rfl (by assumption) Try.underlying22 Try.sizeOf59 (by rfl) (by omega)) rfl ?_ | refine Tr.q (QS.idxRow rfl rfl (by repeat (first | exact List.Mem.head _ | apply List.Mem.tail)) Try.underlying22 Try.sizeOf59 (by rfl) (by omega)) rfl ?_
    refine Tr.q (QS.fieldAddr (off := 2) (ft := 54) rfl Try.underlying59 rfl rfl Try.sizeOf54 (by decide)) rfl ?_
    first | refine Tr.q (QS.elF rfl (by assumption) Try.isAgg54 (by omega) (by rfl)) rfl ?_ | refine Tr.q (QS.elRF rfl (by repeat (first | exact List.Mem.head _ | apply List.Mem.tail)) Try.isAgg54 (by omega) (by rfl)) rfl ?_
    first | refine Tr.q (QS.len rfl (by assumption) Try.underlying54) rfl ?_ | refine Tr.q (QS.lenRow rfl (by repeat (first | exact List.Mem.head _ | apply List.Mem.tail)) Try.underlying54) rfl ?_ | refine Tr.q (QS.lenNil rfl Try.underlying54) rfl ?_
    first | refine Tr.q (QS.addI rfl rfl (by omega)) rfl ?_ | refine Tr.q (QS.add rfl rfl) rfl ?_
    refine Tr.q (QS.assign rfl) rfl ?_
    refine Tr.nil ?_
    refine Tr.thenN ?_
    refine Tr.seqJ (ι := Int) (fun e2 => e2 = endP (l.getD k default)) (fun _ => Bg.of w) (fun e2 => []) (fun e2 => [(8, .int .i64 e2)]) ?_ (fun e2 hi => ?_)
    · skip
      refine Tr.seq ?_
      refine Tr.region ?_
      refine Tr.q (QS.move rfl) rfl ?_
      refine Tr.q (QS.gtr rfl rfl) rfl ?_
      refine Tr.nil ?_
      refine Tr.thenN ?_
      refine Tr.cond rfl (fun h2 => ?_) (fun h2 => ?_)
      · try simp only [bs] at h2
        refine Tr.region ?_
        refine Tr.q (QS.assign rfl) rfl ?_
        refine Tr.nil ?_
        refine Tr.thenN ?_
        apply Tr.joined 4294967295
        · exact rfl
        · exact (.cons (by first | rfl | exact lookI rfl (by omega) | exact lookI rfl (by simp) | exact lookB rfl (by simp)) Front.nil)
        · exact SubX.dropN 3 (by kernel_rfl) rfl
        · exact (by repeat' (first | exact Pick.nil _ | exact Del.here _ | apply Pick.cons | apply Del.there))
        · exact (by unfold endP; omega)
      · try simp only [bs] at h2
        refine Tr.skip ?_
        refine Tr.thenN ?_
        apply Tr.joined _
        · exact rfl
        · exact (.cons (by first | rfl | exact lookI rfl (by omega) | exact lookI rfl (by simp) | exact lookB rfl (by simp)) Front.nil)
        · exact SubX.dropN 2 (by kernel_rfl) rfl
        · exact (by repeat' (first | exact Pick.nil _ | exact Del.here _ | apply Pick.cons | apply Del.there))
        · exact (by unfold endP; omega)
    · skip
      replace hi : e2 = endP (l.getD k default) := hi
      change Tr _ _ [] ([(8, .int .i64 e2)] ++ _) _
      have he2 : e2 = endP (l.getD k default) := hi
      have hen := endP_rng (l.getD k default)
      refine Tr.seqJ (ι := Int) (fun x2 => x2 = lowR a (l.getD k default)) (fun _ => Bg.of w) (fun x2 => []) (fun x2 => [(7, .int .i64 x2)]) ?_ (fun x2 hi => ?_)
      · skip
        refine Tr.seq ?_
        refine Tr.region ?_
        refine Tr.q (QS.move rfl) rfl ?_
        refine Tr.q (QS.move rfl) rfl ?_
        refine Tr.q (QS.lss rfl rfl) rfl ?_
        refine Tr.nil ?_
        refine Tr.thenN ?_
        refine Tr.cond rfl (fun h3 => ?_) (fun h3 => ?_)
        · try simp only [bs] at h3
          refine Tr.region ?_
          refine Tr.q (QS.move rfl) rfl ?_
          refine Tr.q (QS.assign rfl) rfl ?_
          refine Tr.nil ?_
          refine Tr.thenN ?_
          apply Tr.joined a
          · exact rfl
          · exact (.cons (by first | rfl | exact lookI rfl (by omega) | exact lookI rfl (by simp) | exact lookB rfl (by simp)) Front.nil)
          · exact SubX.dropN 5 (by kernel_rfl) rfl
          · exact (by repeat' (first | exact Pick.nil _ | exact Del.here _ | apply Pick.cons | apply Del.there))
          · exact (by unfold lowR; rw [if_pos (by assumption)])
        · try simp only [bs] at h3
          refine Tr.skip ?_
          refine Tr.thenN ?_
          apply Tr.joined _
          · exact rfl
          · exact (.cons (by first | rfl | exact lookI rfl (by omega) | exact lookI rfl (by simp) | exact lookB rfl (by simp)) Front.nil)
          · exact SubX.dropN 3 (by kernel_rfl) rfl
          · exact (by repeat' (first | exact Pick.nil _ | exact Del.here _ | apply Pick.cons | apply Del.there))
          · exact (by unfold lowR; rw [if_neg (by assumption)])
      · skip
        replace hi : x2 = lowR a (l.getD k default) := hi
        change Tr _ _ [] ([(7, .int .i64 x2)] ++ _) _
        have hx2 : x2 = lowR a (l.getD k default) := hi
        refine Tr.seq ?_
        refine Tr.region ?_
        refine Tr.q (QS.move rfl) rfl ?_
        refine Tr.q (QS.move rfl) rfl ?_
        refine Tr.q (QS.lss rfl rfl) rfl ?_
        refine Tr.q (QS.move rfl) rfl ?_
        apply Tr.andP
        · exact (rfl : _ = (8, 38, 46))
        · exact rfl
        · intro hT4; have hT4' := hT4
          try simp only [bs] at hT4'
          refine Tr.gq rfl rfl hT4 (QS.move rfl) rfl ?_
          refine Tr.gq rfl rfl hT4 (QS.lss rfl rfl) rfl ?_
          refine Tr.gq rfl rfl hT4 (QS.move rfl) rfl ?_
          apply Tr.orP
          · exact (rfl : _ = (4, 41, 45))
          · exact rfl
          · intro hF5; have hF5' := hF5
            try simp only [bs] at hF5'
            refine Tr.gq rfl rfl hF5 (QS.move rfl) rfl ?_
            refine Tr.gq rfl rfl hF5 (QS.move rfl) rfl ?_
            refine Tr.gq rfl rfl hF5 (QS.lss rfl rfl) rfl ?_
            refine Tr.gq rfl rfl hT4 (QS.pickF rfl hF5 rfl) rfl ?_
            refine Tr.nil (Tr.thenN ?_)
            exact Tr.endX (Sub.cons rfl (Sub.dropN 4 (by kernel_rfl) rfl))
          · intro hT5
            refine Tr.gskip rfl rfl hT5 rfl ?_
            refine Tr.gskip rfl rfl hT5 rfl ?_
            refine Tr.gskip rfl rfl hT5 rfl ?_
            refine Tr.gq rfl rfl hT4 (QS.pickT rfl hT5 rfl) rfl ?_
            refine Tr.nil (Tr.thenN ?_)
            exact Tr.endX (Sub.cons rfl (Sub.dropN 4 (by kernel_rfl) rfl))
          refine Tr.q (QS.pickT rfl hT4 rfl) rfl ?_
          refine Tr.nil (Tr.thenN ?_)
          exact Tr.endX (Sub.cons rfl (Sub.dropN 5 (by kernel_rfl) rfl))
        · intro hF4
          refine Tr.gskip rfl rfl hF4 rfl ?_
          refine Tr.gskip rfl rfl hF4 rfl ?_
          refine Tr.gskip rfl rfl hF4 rfl ?_
          refine Tr.gskipU rfl rfl rfl ?_
          refine Tr.gskipU rfl rfl rfl ?_
          refine Tr.gskipU rfl rfl rfl ?_
          refine Tr.gskip rfl rfl hF4 rfl ?_
          refine Tr.q (QS.pickF rfl hF4 rfl) rfl ?_
          refine Tr.nil (Tr.thenN ?_)
          exact Tr.endX (Sub.cons rfl (Sub.dropN 8 (by kernel_rfl) rfl))
        refine Tr.nil ?_
        refine Tr.thenN ?_
        refine Tr.cond rfl (fun h6 => ?_) (fun h6 => ?_)
        · try simp only [bs] at h6
          refine Tr.region ?_
          refine Tr.q (QS.move rfl) rfl ?_
          refine Tr.q (QS.assign rfl) rfl ?_
          refine Tr.nil ?_
          refine Tr.inN ?_
          refine Tr.thenN ?_
          refine Tr.region ?_
          refine Tr.q (QS.move rfl) rfl ?_
          first | refine Tr.q (QS.addI rfl rfl (by omega)) rfl ?_ | refine Tr.q (QS.add rfl rfl) rfl ?_
          refine Tr.q (QS.assign rfl) rfl ?_
          refine Tr.nil ?_
          refine Tr.thenN ?_
          have hst : stepR a best (l.getD k default) = x2 := by rw [hx2] at h6 ⊢; rw [he2] at h6; unfold stepR; rw [if_pos h6]
          have hfo := foldl_take_succ11 (f := stepR a) (b := (-1 : Int)) (l := l) (k := k) (by omega)
          rw [← hk2, hst] at hfo
          apply Tr.again (k + 1, x2)
          · exact rfl
          · exact (.cons (by first | rfl | exact lookI rfl (by omega) | exact lookI rfl (by simp) | exact lookB rfl (by simp)) (.cons (by first | rfl | exact lookI rfl (by omega) | exact lookI rfl (by simp) | exact lookB rfl (by simp)) Front.nil))
          · exact SubX.dropN 34 (by kernel_rfl) rfl
          · exact (by repeat' (first | exact Pick.nil _ | exact Del.here _ | apply Pick.cons | apply Del.there))
          · exact ⟨by omega, hfo.symm, by omega, by omega⟩
          · exact (by (try dsimp only); omega)
        · try simp only [bs] at h6
          refine Tr.skip ?_
          refine Tr.inN ?_
          refine Tr.thenN ?_
          refine Tr.region ?_
          refine Tr.q (QS.move rfl) rfl ?_
          first | refine Tr.q (QS.addI rfl rfl (by omega)) rfl ?_ | refine Tr.q (QS.add rfl rfl) rfl ?_
          refine Tr.q (QS.assign rfl) rfl ?_
          refine Tr.nil ?_
          refine Tr.thenN ?_
          have hst : stepR a best (l.getD k default) = best := by rw [hx2, he2] at h6; unfold stepR; rw [if_neg (fun q => by rcases h6 with h6 | h6 <;> omega)]
          have hfo := foldl_take_succ11 (f := stepR a) (b := (-1 : Int)) (l := l) (k := k) (by omega)
          rw [← hk2, hst] at hfo
          apply Tr.again (k + 1, best)
          · exact rfl
          · exact (.cons (by first | rfl | exact lookI rfl (by omega) | exact lookI rfl (by simp) | exact lookB rfl (by simp)) (.cons (by first | rfl | exact lookI rfl (by omega) | exact lookI rfl (by simp) | exact lookB rfl (by simp)) Front.nil))
          · exact SubX.dropN 32 (by kernel_rfl) rfl
          · exact (by repeat' (first | exact Pick.nil _ | exact Del.here _ | apply Pick.cons | apply Del.there))
          · exact ⟨by omega, hfo.symm, hk3, hk4⟩
          · exact (by (try dsimp only); omega)
  · try simp only [bs] at h1
    refine Tr.exit ?_
    refine Tr.thenE ?_
    refine Tr.thenE ?_
    refine Tr.inHit ?_
    refine Tr.thenN ?_
    refine Tr.seq ?_
    refine Tr.region ?_
    refine Tr.q (QS.move rfl) rfl ?_
    refine Tr.q (QS.assign rfl) rfl ?_
    refine Tr.nil ?_
    refine Tr.thenN ?_
    refine Tr.ret ?_
    refine Tr.ret1 Try.results33 rfl (fun w' hw => ?_)
    exact ⟨by rw [hk2, List.take_of_length_le (by omega)]; rfl, hw.below (Bg.le.refl _)⟩

set_option maxRecDepth 100000 in
set_option maxHeartbeats 2000000 in
theorem bytesR_any (l : List SecV) (V : Value) (a to_ : UInt32) (w : World) (hV : Sl (hp w) encSec l V) (hB : SecB l) (hD : DataIn (hp w) l) (hf : 0 ≤ findP l a) (hat : a < to_) :
    Calls Try.prog 35 #[V, .int .i64 (a.toNat : Int), .int .i64 (to_.toNat : Int)] w (fun e w' => ∃ V', e = .returned V' ∧ Ext w w' ∧ NewRow w w' 5 encU8 (winP l a to_) V') := by
  have hV' : Sl (Bg.of w).blk encSec l V := hV
  have hlen := hB.1
  have hfl := findP_lt (l := l) (a := a)
  have ha := a.toNat_lt
  have ht := to_.toNat_lt
  have hat' := UInt32.lt_iff_toNat_lt.1 hat
  have hin := inS_iff.1 (findP_in (l := l) (a := a) (by omega))
  obtain ⟨s, hs⟩ : ∃ s, s = l.getD (findP l a).toNat default := ⟨_, rfl⟩
  have hdl := hB.at (k := (findP l a).toNat) (by omega)
  have hDk : Sl (Bg.of w).blk encU8 (l.getD (findP l a).toNat default).data (.slice (l.getD (findP l a).toNat default).dp (l.getD (findP l a).toNat default).data.length (l.getD (findP l a).toNat default).dc) := hD _ (mem_getD (by omega))
  rw [← hs] at hin hdl hDk
  have hen : endP s ≤ (s.addr.toNat : Int) + s.data.length := by unfold endP; omega
  have hsub : (a - s.addr).toNat = a.toNat - s.addr.toNat := UInt32.toNat_sub_of_le _ _ (UInt32.le_iff_toNat_le.2 hin.1)
  have htsub : (to_ - a).toNat = to_.toNat - a.toNat := UInt32.toNat_sub_of_le _ _ (UInt32.le_iff_toNat_le.2 (by omega))
  have hdr : (s.data.drop (a - s.addr).toNat).length = s.data.length - (a - s.addr).toNat := List.length_drop
  refine enter Try.func35 rfl Try.ntmps35 rfl ?_
  refine Tr.seq ?_
  refine Tr.region ?_
  refine Tr.q (QS.assign rfl) rfl ?_
  refine Tr.nil ?_
  refine Tr.thenN ?_
  refine Tr.seq ?_
  refine Tr.region ?_
  refine Tr.q (QS.move rfl) rfl ?_
  refine Tr.q (QS.move rfl) rfl ?_
  refine Tr.q (QS.move rfl) rfl ?_
  refine Tr.q (QS.cvtTo32 rfl Try.underlying3 Try.underlying23) rfl ?_
  refine Tr.q (QS.call rfl Try.call72 (fun w hw => (by rw [u32_self]; exact refFind_any l V a w (hw.slF hV) hB))) rfl ?_
  first | refine Tr.q (QS.idxN rfl rfl (by assumption) Try.underlying22 Try.sizeOf59 (by rfl) (by omega)) rfl ?_ | refine Tr.q (QS.idxRowN rfl rfl (by repeat (first | exact List.Mem.head _ | apply List.Mem.tail)) Try.underlying22 Try.sizeOf59 (by rfl) (by omega)) rfl ?_ | refine Tr.q (QS.idx rfl rfl (by assumption) Try.underlying22 Try.sizeOf59 (by rfl) (by omega)) rfl ?_ | refine Tr.q (QS.idxRow rfl rfl (by repeat (first | exact List.Mem.head _ | apply List.Mem.tail)) Try.underlying22 Try.sizeOf59 (by rfl) (by omega)) rfl ?_
  first | refine Tr.q (QS.elA rfl (by assumption) Try.isAgg59 Try.sizeOf59 (by rfl) (by omega)) rfl ?_ | refine Tr.q (QS.elRA rfl (by repeat (first | exact List.Mem.head _ | apply List.Mem.tail)) Try.isAgg59 Try.sizeOf59 (by rfl) (by omega)) rfl ?_
  rw [← hs]
  refine Tr.alloc Try.zeroValue59 rfl rfl (fun b1 => ?_)
  refine Tr.storeW rfl rfl Try.sizeOf59 (by repeat (first | exact Put.here _ | apply Put.there)) (by rfl) (by rfl) (by first | exact List.all_eq_true.1 rfl | exact Enc.one _ _ | exact Enc.one encSec _) rfl ?_
  refine Tr.nil ?_
  refine Tr.thenN ?_
  refine Tr.seq ?_
  refine Tr.region ?_
  refine Tr.q (QS.assign rfl) rfl ?_
  refine Tr.nil ?_
  refine Tr.thenN ?_
  refine Tr.seq ?_
  refine Tr.seq ?_
  refine Tr.region ?_
  refine Tr.q (QS.assign rfl) rfl ?_
  refine Tr.nil ?_
  refine Tr.thenN ?_
  refine Tr.block ?_
  refine Tr.ownNil 5 encU8 ?_
  refine Tr.loop (ι := Nat × Value) (fun ⟨i, V'⟩ => (i : Int) ≤ winN s a to_) (fun _ => _) (fun ⟨i, V'⟩ => [rowE V' 5 encU8 ((s.data.drop (a - s.addr).toNat).take i), cellE b1 (encSec.enc s) 59]) (fun ⟨i, V'⟩ => [(9, .int .i64 (i : Nat)), (8, V')]) (fun ⟨i, V'⟩ => 6 - i) (0, _) (by show ((0 : Nat) : Int) ≤ winN s a to_; unfold winN; omega) (.cons (by first | rfl | exact lookI rfl (by omega) | exact lookI rfl (by simp) | exact lookB rfl (by simp)) (.cons (by first | rfl | exact lookI rfl (by omega) | exact lookI rfl (by simp) | exact lookB rfl (by simp)) Front.nil)) (by repeat' (first | exact Pick.nil _ | exact Del.here _ | apply Pick.cons | apply Del.there)) rfl (fun i hi m hm => ?_)
  obtain ⟨i, V'⟩ := i
  replace hi : (i : Int) ≤ winN s a to_ := hi
  replace hm : m = 6 - i := hm
  change Tr _ _ [rowE V' 5 encU8 ((s.data.drop (a - s.addr).toNat).take i), cellE b1 (encSec.enc s) 59] ([(9, .int .i64 (i : Nat)), (8, V')] ++ _) _
  have hi6 : (i : Int) ≤ 6 := by unfold winN at hi; omega
  have htl : ((s.data.drop (a - s.addr).toNat).take i).length ≤ 6 := by rw [List.length_take]; omega
  refine Tr.seq ?_
  refine Tr.seq ?_
  refine Tr.region ?_
  refine Tr.q (QS.move rfl) rfl ?_
  refine Tr.q (QS.lss rfl rfl) rfl ?_
  refine Tr.q (QS.move rfl) rfl ?_
  apply Tr.andP
  · exact (rfl : _ = (6, 19, 25))
  · exact rfl
  · intro hT2; have hT2' := hT2
    try simp only [bs] at hT2'
    refine Tr.gq rfl rfl hT2 (QS.move rfl) rfl ?_
    refine Tr.gq rfl rfl hT2 (QS.move rfl) rfl ?_
    first | refine Tr.gq rfl rfl hT2 (QS.addI rfl rfl (by omega)) rfl ?_ | refine Tr.gq rfl rfl hT2 (QS.add rfl rfl) rfl ?_
    refine Tr.gq rfl rfl hT2 (QS.move rfl) rfl ?_
    refine Tr.gq rfl rfl hT2 (QS.lss rfl rfl) rfl ?_
    refine Tr.q (QS.pickT rfl hT2 rfl) rfl ?_
    refine Tr.nil (Tr.thenN ?_)
    exact Tr.endX (Sub.cons rfl (Sub.dropN 6 (by kernel_rfl) rfl))
  · intro hF2
    refine Tr.gskip rfl rfl hF2 rfl ?_
    refine Tr.gskip rfl rfl hF2 rfl ?_
    refine Tr.gskip rfl rfl hF2 rfl ?_
    refine Tr.gskip rfl rfl hF2 rfl ?_
    refine Tr.gskip rfl rfl hF2 rfl ?_
    refine Tr.q (QS.pickF rfl hF2 rfl) rfl ?_
    refine Tr.nil (Tr.thenN ?_)
    exact Tr.endX (Sub.cons rfl (Sub.dropN 6 (by kernel_rfl) rfl))
  refine Tr.q (QS.move rfl) rfl ?_
  apply Tr.andP
  · exact (rfl : _ = (12, 26, 38))
  · exact rfl
  · intro hT3; have hT3' := hT3
    try simp only [bs] at hT3'
    refine Tr.gq rfl rfl hT3 (QS.move rfl) rfl ?_
    refine Tr.gq rfl rfl hT3 (QS.move rfl) rfl ?_
    first | refine Tr.gq rfl rfl hT3 (QS.addI rfl rfl (by omega)) rfl ?_ | refine Tr.gq rfl rfl hT3 (QS.add rfl rfl) rfl ?_
    refine Tr.gq rfl rfl hT3 (QS.fieldAddr (off := 1) (ft := 23) rfl Try.underlying59 rfl rfl Try.sizeOf23 (by decide)) rfl ?_
    refine Tr.gq rfl rfl hT3 (QS.lV rfl Try.isAgg23) rfl ?_
    refine Tr.gq rfl rfl hT3 (QS.cvt32toI rfl Try.underlying23 Try.underlying3) rfl ?_
    first | refine Tr.gq rfl rfl hT3 (QS.subI rfl rfl (by omega)) rfl ?_ | refine Tr.gq rfl rfl hT3 (QS.sub rfl rfl) rfl ?_
    refine Tr.gq rfl rfl hT3 (QS.fieldAddr (off := 2) (ft := 54) rfl Try.underlying59 rfl rfl Try.sizeOf54 (by decide)) rfl ?_
    refine Tr.gq rfl rfl hT3 (QS.lV rfl Try.isAgg54) rfl ?_
    first | refine Tr.gq rfl rfl hT3 (QS.len rfl (by assumption) Try.underlying54) rfl ?_ | refine Tr.gq rfl rfl hT3 (QS.lenRow rfl (by repeat (first | exact List.Mem.head _ | apply List.Mem.tail)) Try.underlying54) rfl ?_ | refine Tr.gq rfl rfl hT3 (QS.lenNil rfl Try.underlying54) rfl ?_
    refine Tr.gq rfl rfl hT3 (QS.lss rfl rfl) rfl ?_
    refine Tr.q (QS.pickT rfl hT3 rfl) rfl ?_
    refine Tr.nil (Tr.thenN ?_)
    exact Tr.endX (Sub.cons rfl (Sub.dropN 12 (by kernel_rfl) rfl))
  · intro hF3
    refine Tr.gskip rfl rfl hF3 rfl ?_
    refine Tr.gskip rfl rfl hF3 rfl ?_
    refine Tr.gskip rfl rfl hF3 rfl ?_
    refine Tr.gskip rfl rfl hF3 rfl ?_
    refine Tr.gskip rfl rfl hF3 rfl ?_
    refine Tr.gskip rfl rfl hF3 rfl ?_
    refine Tr.gskip rfl rfl hF3 rfl ?_
    refine Tr.gskip rfl rfl hF3 rfl ?_
    refine Tr.gskip rfl rfl hF3 rfl ?_
    refine Tr.gskip rfl rfl hF3 rfl ?_
    refine Tr.gskip rfl rfl hF3 rfl ?_
    refine Tr.q (QS.pickF rfl hF3 rfl) rfl ?_
    refine Tr.nil (Tr.thenN ?_)
    exact Tr.endX (Sub.cons rfl (Sub.dropN 12 (by kernel_rfl) rfl))
  refine Tr.q (QS.move rfl) rfl ?_
  apply Tr.andP
  · exact (rfl : _ = (5, 39, 44))
  · exact rfl
  · intro hT4; have hT4' := hT4
    try simp only [bs] at hT4'
    refine Tr.gq rfl rfl hT4 (QS.move rfl) rfl ?_
    refine Tr.gq rfl rfl hT4 (QS.move rfl) rfl ?_
    first | refine Tr.gq rfl rfl hT4 (QS.addI rfl rfl (by omega)) rfl ?_ | refine Tr.gq rfl rfl hT4 (QS.add rfl rfl) rfl ?_
    refine Tr.gq rfl rfl hT4 (QS.lss rfl rfl) rfl ?_
    refine Tr.q (QS.pickT rfl hT4 rfl) rfl ?_
    refine Tr.nil (Tr.thenN ?_)
    exact Tr.endX (Sub.cons rfl (Sub.dropN 5 (by kernel_rfl) rfl))
  · intro hF4
    refine Tr.gskip rfl rfl hF4 rfl ?_
    refine Tr.gskip rfl rfl hF4 rfl ?_
    refine Tr.gskip rfl rfl hF4 rfl ?_
    refine Tr.gskip rfl rfl hF4 rfl ?_
    refine Tr.q (QS.pickF rfl hF4 rfl) rfl ?_
    refine Tr.nil (Tr.thenN ?_)
    exact Tr.endX (Sub.cons rfl (Sub.dropN 5 (by kernel_rfl) rfl))
  refine Tr.nil ?_
  refine Tr.thenN ?_
  refine Tr.cond rfl (fun h5 => ?_) (fun h5 => ?_)
  · try simp only [bs] at h5
    refine Tr.skip ?_
    refine Tr.thenN ?_
    refine Tr.seq ?_
    refine Tr.block ?_
    refine Tr.region ?_
    refine Tr.q (QS.move rfl) rfl ?_
    refine Tr.q (QS.fieldAddr (off := 2) (ft := 54) rfl Try.underlying59 rfl rfl Try.sizeOf54 (by decide)) rfl ?_
    refine Tr.q (QS.lV rfl Try.isAgg54) rfl ?_
    refine Tr.q (QS.move rfl) rfl ?_
    refine Tr.q (QS.move rfl) rfl ?_
    first | refine Tr.q (QS.addI rfl rfl (by omega)) rfl ?_ | refine Tr.q (QS.add rfl rfl) rfl ?_
    refine Tr.q (QS.fieldAddr (off := 1) (ft := 23) rfl Try.underlying59 rfl rfl Try.sizeOf23 (by decide)) rfl ?_
    refine Tr.q (QS.lV rfl Try.isAgg23) rfl ?_
    refine Tr.q (QS.cvt32toI rfl Try.underlying23 Try.underlying3) rfl ?_
    first | refine Tr.q (QS.subI rfl rfl (by omega)) rfl ?_ | refine Tr.q (QS.sub rfl rfl) rfl ?_
    first | refine Tr.q (QS.idxN rfl rfl (by assumption) Try.underlying54 Try.sizeOf5 (by rfl) (by omega)) rfl ?_ | refine Tr.q (QS.idxRowN rfl rfl (by repeat (first | exact List.Mem.head _ | apply List.Mem.tail)) Try.underlying54 Try.sizeOf5 (by rfl) (by omega)) rfl ?_ | refine Tr.q (QS.idx rfl rfl (by assumption) Try.underlying54 Try.sizeOf5 (by rfl) (by omega)) rfl ?_ | refine Tr.q (QS.idxRow rfl rfl (by repeat (first | exact List.Mem.head _ | apply List.Mem.tail)) Try.underlying54 Try.sizeOf5 (by rfl) (by omega)) rfl ?_
    first | refine Tr.q (QS.el1 rfl (by assumption) Try.isAgg5 (by omega) (by rfl)) rfl ?_ | refine Tr.q (QS.elR1 rfl (by repeat (first | exact List.Mem.head _ | apply List.Mem.tail)) Try.isAgg5 (by omega) (by rfl)) rfl ?_
    refine Tr.lit1 (E := encU8) _ rfl rfl Try.underlying54 Try.sizeOf5 Try.zeroValue5 (by rfl) (by rfl) rfl (fun V6 => ?_)
    first | refine Tr.append1 rfl rfl (by repeat (first | exact Del.here _ | apply Del.there)) (by repeat (first | exact Del.here _ | apply Del.there)) Try.underlying54 HLF.info5 (by rfl) (by rfl) (by (try simp only [List.length_cons, List.length_nil, List.length_append, List.length_take]); omega) (by unfold maxLen; (try simp only [List.length_cons, List.length_nil, List.length_append, List.length_take]); omega) rfl (fun V7 => ?_) | refine Tr.ownNil _ _ (Tr.append1 rfl rfl (by repeat (first | exact Del.here _ | apply Del.there)) (by repeat (first | exact Del.here _ | apply Del.there)) Try.underlying54 HLF.info5 (by rfl) (by rfl) (by (try simp only [List.length_cons, List.length_nil, List.length_append, List.length_take]); omega) (by unfold maxLen; (try simp only [List.length_cons, List.length_nil, List.length_append, List.length_take]); omega) rfl (fun V7 => ?_)) | refine Tr.appendOf rfl rfl (by repeat (first | exact Del.here _ | apply Del.there)) (fun w hw => hw.slF (by assumption)) Try.underlying54 HLF.info5 (by rfl) (by rfl) (by (try simp only [List.length_cons, List.length_nil, List.length_append, List.length_take]); omega) (by unfold maxLen; (try simp only [List.length_cons, List.length_nil, List.length_append, List.length_take]); omega) rfl (fun V7 => ?_) | refine Tr.ownNil _ _ (Tr.appendOf rfl rfl (by repeat (first | exact Del.here _ | apply Del.there)) (fun w hw => hw.slF (by assumption)) Try.underlying54 HLF.info5 (by rfl) (by rfl) (by (try simp only [List.length_cons, List.length_nil, List.length_append, List.length_take]); omega) (by unfold maxLen; (try simp only [List.length_cons, List.length_nil, List.length_append, List.length_take]); omega) rfl (fun V7 => ?_)) | refine Tr.appendOf rfl rfl (by repeat (first | exact Del.here _ | apply Del.there)) (fun w hw => hw.row (by repeat (first | exact List.Mem.head _ | apply List.Mem.tail))) Try.underlying54 HLF.info5 (by rfl) (by rfl) (by (try simp only [List.length_cons, List.length_nil, List.length_append, List.length_take]); omega) (by unfold maxLen; (try simp only [List.length_cons, List.length_nil, List.length_append, List.length_take]); omega) rfl (fun V7 => ?_)
    refine Tr.q (QS.assign rfl) rfl ?_
    refine Tr.nil ?_
    refine Tr.inN ?_
    refine Tr.thenN ?_
    refine Tr.region ?_
    refine Tr.q (QS.move rfl) rfl ?_
    first | refine Tr.q (QS.addI rfl rfl (by omega)) rfl ?_ | refine Tr.q (QS.add rfl rfl) rfl ?_
    refine Tr.q (QS.assign rfl) rfl ?_
    refine Tr.nil ?_
    refine Tr.thenN ?_
    have hst := take_succ (l := s.data.drop (a - s.addr).toNat) (k := i) (by omega)
    have hgd : (s.data.drop (a - s.addr).toNat).getD i default = s.data.getD ((a.toNat : Int) + i - s.addr.toNat).toNat default := by rw [show ((a.toNat : Int) + i - s.addr.toNat).toNat = (a - s.addr).toNat + i by omega]; simp [List.getD_eq_getElem?_getD]
    rw [hgd] at hst
    rw [← hst]
    apply Tr.again (i + 1, _)
    · exact rfl
    · exact (.cons (by first | rfl | exact lookI rfl (by omega) | exact lookI rfl (by simp) | exact lookB rfl (by simp)) (.cons (by first | rfl | exact lookI rfl (by omega) | exact lookI rfl (by simp) | exact lookB rfl (by simp)) Front.nil))
    · exact SubX.dropN 28 (by kernel_rfl) rfl
    · exact (by repeat' (first | exact Pick.nil _ | exact Del.here _ | apply Pick.cons | apply Del.there))
    · exact (by show ((i + 1 : Nat) : Int) ≤ winN s a to_; unfold winN; omega)
    · exact (by (try dsimp only); omega)
  · try simp only [bs] at h5
    refine Tr.exit ?_
    refine Tr.thenE ?_
    refine Tr.thenE ?_
    refine Tr.inHit ?_
    refine Tr.thenN ?_
    refine Tr.seq ?_
    refine Tr.region ?_
    refine Tr.q (QS.move rfl) rfl ?_
    refine Tr.q (QS.assign rfl) rfl ?_
    refine Tr.nil ?_
    refine Tr.thenN ?_
    refine Tr.ret ?_
    refine Tr.ret1 Try.results35 rfl (fun w' hw => ?_)
    have hwi : (i : Int) = winN s a to_ := by unfold winN at hi ⊢; omega
    have hwp : winP l a to_ = (s.data.drop (a - s.addr).toNat).take i := by unfold winP; rw [if_neg (by omega), ← hs, ← hwi]; rfl
    exact ⟨_, rfl, hw.below (Bg.le.refl _), by rw [hwp]; exact hw.new (.head _)⟩

end Go.Proofs.Ytfnedefgepjbpaa
