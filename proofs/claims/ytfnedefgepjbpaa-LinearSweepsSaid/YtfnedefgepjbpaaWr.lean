/- The walks of chapter 05's reference. -/
import Derived.Test.YtfnedefgepjbpaaWs
import Derived.Test.YtfnedefgepjbpaaWc
import Derived.Test.YtfnedefgepjbpaaSb
set_option linter.unusedSimpArgs false
set_option linter.unusedVariables false
namespace Go.Proofs.Ytfnedefgepjbpaa
open Go Go.HL Go.RowKit

set_option maxRecDepth 100000 in
set_option maxHeartbeats 2000000 in
theorem refEnd_any (s : SecV) (w : World) (hs : s.data.length ≤ 200000) :
    Calls Try.prog 82 #[.agg (encSec.enc s).toArray] w (fun e w' => e = .returned (.int .i64 (endP s)) ∧ Ext w w') := by
  have hadr := s.addr.toNat_lt
  refine enter Try.func82 rfl Try.ntmps82 rfl ?_
  refine Tr.seq ?_
  refine Tr.region ?_
  refine Tr.box rfl rfl rfl (fun b1 => ?_)
  refine Tr.q (QS.assign rfl) rfl ?_
  refine Tr.nil ?_
  refine Tr.thenN ?_
  refine Tr.seq ?_
  refine Tr.region ?_
  refine Tr.q (QS.fieldAddr (off := 1) (ft := 23) rfl Try.underlying59 rfl rfl Try.sizeOf23 (by decide)) rfl ?_
  refine Tr.q (QS.lV rfl Try.isAgg23) rfl ?_
  refine Tr.q (QS.cvt32toI rfl Try.underlying23 Try.underlying3) rfl ?_
  refine Tr.q (QS.fieldAddr (off := 2) (ft := 54) rfl Try.underlying59 rfl rfl Try.sizeOf54 (by decide)) rfl ?_
  refine Tr.q (QS.lV rfl Try.isAgg54) rfl ?_
  first | refine Tr.q (QS.len rfl (by assumption) Try.underlying54) rfl ?_ | refine Tr.q (QS.lenRow rfl (by repeat (first | exact List.Mem.head _ | apply List.Mem.tail)) Try.underlying54) rfl ?_ | refine Tr.q (QS.lenNil rfl Try.underlying54) rfl ?_
  first | refine Tr.q (QS.addI rfl rfl (by omega)) rfl ?_ | refine Tr.q (QS.add rfl rfl) rfl ?_
  refine Tr.q (QS.assign rfl) rfl ?_
  refine Tr.nil ?_
  refine Tr.thenN ?_
  refine Tr.seq ?_
  refine Tr.seq ?_
  refine Tr.region ?_
  refine Tr.q (QS.move rfl) rfl ?_
  refine Tr.q (QS.gtr rfl rfl) rfl ?_
  refine Tr.nil ?_
  refine Tr.thenN ?_
  refine Tr.cond rfl (fun h2 => ?_) (fun h2 => ?_)
  · try simp only [bs] at h2
    refine Tr.seq ?_
    refine Tr.region ?_
    refine Tr.q (QS.assign rfl) rfl ?_
    refine Tr.nil ?_
    refine Tr.thenN ?_
    refine Tr.ret ?_
    refine Tr.thenR ?_
    refine Tr.ret1 Try.results82 rfl (fun w' hw => ?_)
    exact ⟨by unfold endP; rw [Int.min_eq_right (by omega)], hw.below (Bg.le.refl _)⟩
  · try simp only [bs] at h2
    refine Tr.skip ?_
    refine Tr.thenN ?_
    refine Tr.seq ?_
    refine Tr.region ?_
    refine Tr.q (QS.move rfl) rfl ?_
    refine Tr.q (QS.assign rfl) rfl ?_
    refine Tr.nil ?_
    refine Tr.thenN ?_
    refine Tr.ret ?_
    refine Tr.ret1 Try.results82 rfl (fun w' hw => ?_)
    exact ⟨by unfold endP; rw [Int.min_eq_left (by omega)], hw.below (Bg.le.refl _)⟩

set_option maxRecDepth 100000 in
set_option maxHeartbeats 2000000 in
theorem refName_any (s : ByteArray) (w : World) (hs : s.size ≤ 9223372036854775807) :
    Calls Try.prog 101 #[.string s] w (fun e w' => e = .returned (.bool (nameP s)) ∧ Ext w w') := by
  have hbl := bts_len s
  refine enter Try.func101 rfl Try.ntmps101 rfl ?_
  refine Tr.seq ?_
  refine Tr.region ?_
  refine Tr.q (QS.assign rfl) rfl ?_
  refine Tr.nil ?_
  refine Tr.thenN ?_
  refine Tr.seq ?_
  refine Tr.seq ?_
  refine Tr.region ?_
  refine Tr.q (QS.assign rfl) rfl ?_
  refine Tr.nil ?_
  refine Tr.thenN ?_
  refine Tr.block ?_
  refine Tr.loop (ι := Nat) (fun k => k ≤ s.size ∧ ((bts s).take k).any badB = false) (fun _ => _) (fun k => []) (fun k => [(3, .int .i64 (k : Nat))]) (fun k => s.size - k) 0 ⟨Nat.zero_le _, rfl⟩ (.cons (by first | rfl | exact lookI rfl (by omega) | exact lookI rfl (by simp) | exact lookB rfl (by simp)) Front.nil) (by repeat' (first | exact Pick.nil _ | exact Del.here _ | apply Pick.cons | apply Del.there)) rfl (fun k hi m hm => ?_)
  replace hi : k ≤ s.size ∧ ((bts s).take k).any badB = false := hi
  replace hm : m = s.size - k := hm
  change Tr _ _ [] ([(3, .int .i64 (k : Nat))] ++ _) _
  obtain ⟨hk1, hk2⟩ := hi
  refine Tr.seq ?_
  refine Tr.seq ?_
  refine Tr.region ?_
  refine Tr.q (QS.move rfl) rfl ?_
  refine Tr.q (QS.move rfl) rfl ?_
  refine Tr.q (QS.lenStr rfl Try.underlying9) rfl ?_
  refine Tr.q (QS.lss rfl rfl) rfl ?_
  refine Tr.nil ?_
  refine Tr.thenN ?_
  refine Tr.cond rfl (fun h1 => ?_) (fun h1 => ?_)
  · try simp only [bs] at h1
    refine Tr.skip ?_
    refine Tr.thenN ?_
    refine Tr.seq ?_
    refine Tr.block ?_
    refine Tr.seq ?_
    refine Tr.region ?_
    refine Tr.q (QS.move rfl) rfl ?_
    refine Tr.q (QS.move rfl) rfl ?_
    refine Tr.q (QS.strIdx rfl rfl Try.underlying9 (by omega)) rfl ?_
    refine Tr.q (QS.assign rfl) rfl ?_
    refine Tr.nil ?_
    refine Tr.thenN ?_
    refine Tr.seq ?_
    refine Tr.region ?_
    refine Tr.q (QS.move rfl) rfl ?_
    refine Tr.q (QS.geq8 (n := 97) rfl rfl) rfl ?_
    refine Tr.q (QS.move rfl) rfl ?_
    apply Tr.andP
    · exact (rfl : _ = (3, 17, 20))
    · exact rfl
    · intro hT2; have hT2' := hT2
      try simp only [bs] at hT2'
      refine Tr.gq rfl rfl hT2 (QS.move rfl) rfl ?_
      refine Tr.gq rfl rfl hT2 (QS.leq8 (n := 122) rfl rfl) rfl ?_
      refine Tr.q (QS.pickT rfl hT2 rfl) rfl ?_
      refine Tr.nil (Tr.thenN ?_)
      exact Tr.endX (Sub.cons rfl (Sub.dropN 3 (by kernel_rfl) rfl))
    · intro hF2
      refine Tr.gskip rfl rfl hF2 rfl ?_
      refine Tr.gskip rfl rfl hF2 rfl ?_
      refine Tr.q (QS.pickF rfl hF2 rfl) rfl ?_
      refine Tr.nil (Tr.thenN ?_)
      exact Tr.endX (Sub.cons rfl (Sub.dropN 3 (by kernel_rfl) rfl))
    refine Tr.q (QS.move rfl) rfl ?_
    apply Tr.orP
    · exact (rfl : _ = (7, 21, 28))
    · exact rfl
    · intro hF3; have hF3' := hF3
      try simp only [bs] at hF3'
      refine Tr.gq rfl rfl hF3 (QS.move rfl) rfl ?_
      refine Tr.gq rfl rfl hF3 (QS.geq8 (n := 65) rfl rfl) rfl ?_
      refine Tr.gq rfl rfl hF3 (QS.move rfl) rfl ?_
      apply Tr.andP
      · exact (rfl : _ = (3, 24, 27))
      · exact rfl
      · intro hT4; have hT4' := hT4
        try simp only [bs] at hT4'
        refine Tr.gq rfl rfl hT4 (QS.move rfl) rfl ?_
        refine Tr.gq rfl rfl hT4 (QS.leq8 (n := 90) rfl rfl) rfl ?_
        refine Tr.gq rfl rfl hF3 (QS.pickT rfl hT4 rfl) rfl ?_
        refine Tr.nil (Tr.thenN ?_)
        exact Tr.endX (Sub.cons rfl (Sub.dropN 3 (by kernel_rfl) rfl))
      · intro hF4
        refine Tr.gskip rfl rfl hF4 rfl ?_
        refine Tr.gskip rfl rfl hF4 rfl ?_
        refine Tr.gq rfl rfl hF3 (QS.pickF rfl hF4 rfl) rfl ?_
        refine Tr.nil (Tr.thenN ?_)
        exact Tr.endX (Sub.cons rfl (Sub.dropN 3 (by kernel_rfl) rfl))
      refine Tr.q (QS.pickF rfl hF3 rfl) rfl ?_
      refine Tr.nil (Tr.thenN ?_)
      exact Tr.endX (Sub.cons rfl (Sub.dropN 5 (by kernel_rfl) rfl))
    · intro hT3
      refine Tr.gskip rfl rfl hT3 rfl ?_
      refine Tr.gskip rfl rfl hT3 rfl ?_
      refine Tr.gskip rfl rfl hT3 rfl ?_
      refine Tr.gskipU rfl rfl rfl ?_
      refine Tr.gskipU rfl rfl rfl ?_
      refine Tr.gskip rfl rfl hT3 rfl ?_
      refine Tr.q (QS.pickT rfl hT3 rfl) rfl ?_
      refine Tr.nil (Tr.thenN ?_)
      exact Tr.endX (Sub.cons rfl (Sub.dropN 7 (by kernel_rfl) rfl))
    refine Tr.q (QS.assign rfl) rfl ?_
    refine Tr.nil ?_
    refine Tr.thenN ?_
    refine Tr.seq ?_
    refine Tr.region ?_
    refine Tr.q (QS.move rfl) rfl ?_
    refine Tr.q (QS.not rfl) rfl ?_
    refine Tr.q (QS.move rfl) rfl ?_
    apply Tr.andP
    · exact (rfl : _ = (7, 31, 38))
    · exact rfl
    · intro hT5; have hT5' := hT5
      try simp only [bs] at hT5'
      refine Tr.gq rfl rfl hT5 (QS.move rfl) rfl ?_
      refine Tr.gq rfl rfl hT5 (QS.lss8 (n := 48) rfl rfl) rfl ?_
      refine Tr.gq rfl rfl hT5 (QS.move rfl) rfl ?_
      apply Tr.orP
      · exact (rfl : _ = (3, 34, 37))
      · exact rfl
      · intro hF6; have hF6' := hF6
        try simp only [bs] at hF6'
        refine Tr.gq rfl rfl hF6 (QS.move rfl) rfl ?_
        refine Tr.gq rfl rfl hF6 (QS.gtr8 (n := 57) rfl rfl) rfl ?_
        refine Tr.gq rfl rfl hT5 (QS.pickF rfl hF6 rfl) rfl ?_
        refine Tr.nil (Tr.thenN ?_)
        exact Tr.endX (Sub.cons rfl (Sub.dropN 3 (by kernel_rfl) rfl))
      · intro hT6
        refine Tr.gskip rfl rfl hT6 rfl ?_
        refine Tr.gskip rfl rfl hT6 rfl ?_
        refine Tr.gq rfl rfl hT5 (QS.pickT rfl hT6 rfl) rfl ?_
        refine Tr.nil (Tr.thenN ?_)
        exact Tr.endX (Sub.cons rfl (Sub.dropN 3 (by kernel_rfl) rfl))
      refine Tr.q (QS.pickT rfl hT5 rfl) rfl ?_
      refine Tr.nil (Tr.thenN ?_)
      exact Tr.endX (Sub.cons rfl (Sub.dropN 5 (by kernel_rfl) rfl))
    · intro hF5
      refine Tr.gskip rfl rfl hF5 rfl ?_
      refine Tr.gskip rfl rfl hF5 rfl ?_
      refine Tr.gskip rfl rfl hF5 rfl ?_
      refine Tr.gskipU rfl rfl rfl ?_
      refine Tr.gskipU rfl rfl rfl ?_
      refine Tr.gskip rfl rfl hF5 rfl ?_
      refine Tr.q (QS.pickF rfl hF5 rfl) rfl ?_
      refine Tr.nil (Tr.thenN ?_)
      exact Tr.endX (Sub.cons rfl (Sub.dropN 7 (by kernel_rfl) rfl))
    refine Tr.q (QS.move rfl) rfl ?_
    apply Tr.andP
    · exact (rfl : _ = (3, 39, 42))
    · exact rfl
    · intro hT7; have hT7' := hT7
      try simp only [bs] at hT7'
      refine Tr.gq rfl rfl hT7 (QS.move rfl) rfl ?_
      refine Tr.gq rfl rfl hT7 (QS.neq8 (n := 95) rfl rfl) rfl ?_
      refine Tr.q (QS.pickT rfl hT7 rfl) rfl ?_
      refine Tr.nil (Tr.thenN ?_)
      exact Tr.endX (Sub.cons rfl (Sub.dropN 3 (by kernel_rfl) rfl))
    · intro hF7
      refine Tr.gskip rfl rfl hF7 rfl ?_
      refine Tr.gskip rfl rfl hF7 rfl ?_
      refine Tr.q (QS.pickF rfl hF7 rfl) rfl ?_
      refine Tr.nil (Tr.thenN ?_)
      exact Tr.endX (Sub.cons rfl (Sub.dropN 3 (by kernel_rfl) rfl))
    refine Tr.q (QS.move rfl) rfl ?_
    apply Tr.andP
    · exact (rfl : _ = (3, 43, 46))
    · exact rfl
    · intro hT8; have hT8' := hT8
      try simp only [bs] at hT8'
      refine Tr.gq rfl rfl hT8 (QS.move rfl) rfl ?_
      refine Tr.gq rfl rfl hT8 (QS.neq8 (n := 46) rfl rfl) rfl ?_
      refine Tr.q (QS.pickT rfl hT8 rfl) rfl ?_
      refine Tr.nil (Tr.thenN ?_)
      exact Tr.endX (Sub.cons rfl (Sub.dropN 3 (by kernel_rfl) rfl))
    · intro hF8
      refine Tr.gskip rfl rfl hF8 rfl ?_
      refine Tr.gskip rfl rfl hF8 rfl ?_
      refine Tr.q (QS.pickF rfl hF8 rfl) rfl ?_
      refine Tr.nil (Tr.thenN ?_)
      exact Tr.endX (Sub.cons rfl (Sub.dropN 3 (by kernel_rfl) rfl))
    refine Tr.nil ?_
    refine Tr.thenN ?_
    refine Tr.cond rfl (fun h9 => ?_) (fun h9 => ?_)
    · try simp only [bs] at h9
      refine Tr.seq ?_
      refine Tr.region ?_
      refine Tr.q (QS.assign rfl) rfl ?_
      refine Tr.nil ?_
      refine Tr.thenN ?_
      refine Tr.ret ?_
      refine Tr.inR ?_
      refine Tr.thenR ?_
      refine Tr.thenR ?_
      refine Tr.inR ?_
      refine Tr.thenR ?_
      refine Tr.ret1 Try.results101 rfl (fun w' hw => ?_)
      have hbad : badB ((bts s).getD k default) = true := by rw [refBad]; simp only [bs]; assumption
      exact ⟨by rw [nameP_bad (by omega) hbad], hw.below (Bg.le.refl _)⟩
    · try simp only [bs] at h9
      refine Tr.skip ?_
      refine Tr.inN ?_
      refine Tr.thenN ?_
      refine Tr.region ?_
      refine Tr.q (QS.move rfl) rfl ?_
      first | refine Tr.q (QS.addI rfl rfl (by omega)) rfl ?_ | refine Tr.q (QS.add rfl rfl) rfl ?_
      refine Tr.q (QS.assign rfl) rfl ?_
      refine Tr.nil ?_
      refine Tr.thenN ?_
      have hbad : badB ((bts s).getD k default) = false := by rw [refBad]; simp only [bs]; assumption
      apply Tr.again (k + 1)
      · exact rfl
      · exact (.cons (by first | rfl | exact lookI rfl (by omega) | exact lookI rfl (by simp) | exact lookB rfl (by simp)) Front.nil)
      · exact SubX.dropN 27 (by kernel_rfl) rfl
      · exact (by repeat' (first | exact Pick.nil _ | exact Del.here _ | apply Pick.cons | apply Del.there))
      · exact ⟨by omega, by rw [any_take_succ (by omega), hk2, hbad]; rfl⟩
      · exact (by (try dsimp only); omega)
  · try simp only [bs] at h1
    refine Tr.exit ?_
    refine Tr.thenE ?_
    refine Tr.thenE ?_
    refine Tr.inHit ?_
    refine Tr.thenN ?_
    refine Tr.seq ?_
    refine Tr.region ?_
    refine Tr.q (QS.move rfl) rfl ?_
    refine Tr.q (QS.lenStr rfl Try.underlying9) rfl ?_
    refine Tr.q (QS.gtr rfl rfl) rfl ?_
    refine Tr.q (QS.move rfl) rfl ?_
    apply Tr.andP
    · exact (rfl : _ = (4, 50, 54))
    · exact rfl
    · intro hT10; have hT10' := hT10
      try simp only [bs] at hT10'
      refine Tr.gq rfl rfl hT10 (QS.move rfl) rfl ?_
      refine Tr.gq rfl rfl hT10 (QS.lenStr rfl Try.underlying9) rfl ?_
      refine Tr.gq rfl rfl hT10 (QS.leq rfl rfl) rfl ?_
      refine Tr.q (QS.pickT rfl hT10 rfl) rfl ?_
      refine Tr.nil (Tr.thenN ?_)
      exact Tr.endX (Sub.cons rfl (Sub.dropN 4 (by kernel_rfl) rfl))
    · intro hF10
      refine Tr.gskip rfl rfl hF10 rfl ?_
      refine Tr.gskip rfl rfl hF10 rfl ?_
      refine Tr.gskip rfl rfl hF10 rfl ?_
      refine Tr.q (QS.pickF rfl hF10 rfl) rfl ?_
      refine Tr.nil (Tr.thenN ?_)
      exact Tr.endX (Sub.cons rfl (Sub.dropN 4 (by kernel_rfl) rfl))
    refine Tr.q (QS.assign rfl) rfl ?_
    refine Tr.nil ?_
    refine Tr.thenN ?_
    refine Tr.ret ?_
    refine Tr.ret1 Try.results101 rfl (fun w' hw => ?_)
    exact ⟨by rw [nameP_end (by omega) hk2]; congr 2, hw.below (Bg.le.refl _)⟩

set_option maxRecDepth 100000 in
set_option maxHeartbeats 2000000 in
theorem refFind_any (l : List SecV) (V : Value) (a : UInt32) (w : World) (hV : Sl (hp w) encSec l V) (hB : SecB l) :
    Calls Try.prog 72 #[V, .int .u32 a.toNat] w (fun e w' => e = .returned (.int .i64 (findP l a)) ∧ Ext w w') := by
  have hV' : Sl (Bg.of w).blk encSec l V := hV
  have hlen := hB.1
  refine enter Try.func72 rfl Try.ntmps72 rfl ?_
  refine Tr.seq ?_
  refine Tr.region ?_
  refine Tr.q (QS.assign rfl) rfl ?_
  refine Tr.nil ?_
  refine Tr.thenN ?_
  refine Tr.seq ?_
  refine Tr.seq ?_
  refine Tr.region ?_
  refine Tr.q (QS.assign rfl) rfl ?_
  refine Tr.nil ?_
  refine Tr.thenN ?_
  refine Tr.block ?_
  refine Tr.loop (ι := Nat) (fun k => k ≤ l.length ∧ idxP (inS a) k (l.drop k) = idxP (inS a) 0 l) (fun _ => _) (fun k => []) (fun k => [(5, .int .i64 (k : Nat))]) (fun k => l.length - k) 0 ⟨Nat.zero_le _, rfl⟩ (.cons (by first | rfl | exact lookI rfl (by omega) | exact lookI rfl (by simp) | exact lookB rfl (by simp)) Front.nil) (by repeat' (first | exact Pick.nil _ | exact Del.here _ | apply Pick.cons | apply Del.there)) rfl (fun k hi m hm => ?_)
  replace hi : k ≤ l.length ∧ idxP (inS a) k (l.drop k) = idxP (inS a) 0 l := hi
  replace hm : m = l.length - k := hm
  change Tr _ _ [] ([(5, .int .i64 (k : Nat))] ++ _) _
  obtain ⟨hk1, hk2⟩ := hi
  refine Tr.seq ?_
  refine Tr.seq ?_
  refine Tr.region ?_
  refine Tr.q (QS.move rfl) rfl ?_
  refine Tr.q (QS.move rfl) rfl ?_
  first | refine Tr.q (QS.len rfl (by assumption) Try.underlying22) rfl ?_ | refine Tr.q (QS.lenRow rfl (by repeat (first | exact List.Mem.head _ | apply List.Mem.tail)) Try.underlying22) rfl ?_ | refine Tr.q (QS.lenNil rfl Try.underlying22) rfl ?_
  refine Tr.q (QS.lss rfl rfl) rfl ?_
  refine Tr.nil ?_
  refine Tr.thenN ?_
  refine Tr.cond rfl (fun h1 => ?_) (fun h1 => ?_)
  · try simp only [bs] at h1
    refine Tr.skip ?_
    refine Tr.thenN ?_
    refine Tr.seq ?_
    refine Tr.block ?_
    refine Tr.seq ?_
    refine Tr.region ?_
    refine Tr.q (QS.move rfl) rfl ?_
    refine Tr.q (QS.move rfl) rfl ?_
    first | refine Tr.q (QS.idxN rfl rfl (by assumption) Try.underlying22 Try.sizeOf59 (by rfl) (by omega)) rfl ?_ | refine Tr.q (QS.idxRowN rfl rfl (by repeat (first | exact List.Mem.head _ | apply List.Mem.tail)) Try.underlying22 Try.sizeOf59 (by rfl) (by omega)) rfl ?_ | refine Tr.q (QS.idx rfl rfl (by assumption) Try.underlying22 Try.sizeOf59 (by rfl) (by omega)) rfl ?_ | refine Tr.q (QS.idxRow rfl rfl (by repeat (first | exact List.Mem.head _ | apply List.Mem.tail)) Try.underlying22 Try.sizeOf59 (by rfl) (by omega)) rfl ?_
    refine Tr.q (QS.fieldAddr (off := 1) (ft := 23) rfl Try.underlying59 rfl rfl Try.sizeOf23 (by decide)) rfl ?_
    first | refine Tr.q (QS.elF rfl (by assumption) Try.isAgg23 (by omega) (by rfl)) rfl ?_ | refine Tr.q (QS.elRF rfl (by repeat (first | exact List.Mem.head _ | apply List.Mem.tail)) Try.isAgg23 (by omega) (by rfl)) rfl ?_
    refine Tr.q (QS.move rfl) rfl ?_
    refine Tr.q (QS.leq32 rfl rfl) rfl ?_
    refine Tr.q (QS.move rfl) rfl ?_
    apply Tr.andP
    · exact (rfl : _ = (9, 19, 28))
    · exact rfl
    · intro hT2; have hT2' := hT2
      try simp only [bs] at hT2'
      refine Tr.gq rfl rfl hT2 (QS.move rfl) rfl ?_
      refine Tr.gq rfl rfl hT2 (QS.cvt32toI rfl Try.underlying23 Try.underlying3) rfl ?_
      refine Tr.gq rfl rfl hT2 (QS.move rfl) rfl ?_
      refine Tr.gq rfl rfl hT2 (QS.move rfl) rfl ?_
      first | refine Tr.gq rfl rfl hT2 (QS.idxN rfl rfl (by assumption) Try.underlying22 Try.sizeOf59 (by rfl) (by omega)) rfl ?_ | refine Tr.gq rfl rfl hT2 (QS.idxRowN rfl rfl (by repeat (first | exact List.Mem.head _ | apply List.Mem.tail)) Try.underlying22 Try.sizeOf59 (by rfl) (by omega)) rfl ?_ | refine Tr.gq rfl rfl hT2 (QS.idx rfl rfl (by assumption) Try.underlying22 Try.sizeOf59 (by rfl) (by omega)) rfl ?_ | refine Tr.gq rfl rfl hT2 (QS.idxRow rfl rfl (by repeat (first | exact List.Mem.head _ | apply List.Mem.tail)) Try.underlying22 Try.sizeOf59 (by rfl) (by omega)) rfl ?_
      first | refine Tr.gq rfl rfl hT2 (QS.elA rfl (by assumption) Try.isAgg59 Try.sizeOf59 (by rfl) (by omega)) rfl ?_ | refine Tr.gq rfl rfl hT2 (QS.elRA rfl (by repeat (first | exact List.Mem.head _ | apply List.Mem.tail)) Try.isAgg59 Try.sizeOf59 (by rfl) (by omega)) rfl ?_
      refine Tr.gq rfl rfl hT2 (QS.call rfl Try.call82 (fun w hw => refEnd_any (l.getD k default) w (hB.at (by omega)))) rfl ?_
      refine Tr.gq rfl rfl hT2 (QS.lss rfl rfl) rfl ?_
      refine Tr.q (QS.pickT rfl hT2 rfl) rfl ?_
      refine Tr.nil (Tr.thenN ?_)
      exact Tr.endX (Sub.cons rfl (Sub.dropN 9 (by kernel_rfl) rfl))
    · intro hF2
      refine Tr.gskip rfl rfl hF2 rfl ?_
      refine Tr.gskip rfl rfl hF2 rfl ?_
      refine Tr.gskip rfl rfl hF2 rfl ?_
      refine Tr.gskip rfl rfl hF2 rfl ?_
      refine Tr.gskip rfl rfl hF2 rfl ?_
      refine Tr.gskip rfl rfl hF2 rfl ?_
      refine Tr.gskip rfl rfl hF2 rfl ?_
      refine Tr.gskip rfl rfl hF2 rfl ?_
      refine Tr.q (QS.pickF rfl hF2 rfl) rfl ?_
      refine Tr.nil (Tr.thenN ?_)
      exact Tr.endX (Sub.cons rfl (Sub.dropN 9 (by kernel_rfl) rfl))
    refine Tr.nil ?_
    refine Tr.thenN ?_
    refine Tr.cond rfl (fun h3 => ?_) (fun h3 => ?_)
    · try simp only [bs] at h3
      refine Tr.seq ?_
      refine Tr.region ?_
      refine Tr.q (QS.move rfl) rfl ?_
      refine Tr.q (QS.assign rfl) rfl ?_
      refine Tr.nil ?_
      refine Tr.thenN ?_
      refine Tr.ret ?_
      refine Tr.inR ?_
      refine Tr.thenR ?_
      refine Tr.thenR ?_
      refine Tr.inR ?_
      refine Tr.thenR ?_
      refine Tr.ret1 Try.results72 rfl (fun w' hw => ?_)
      exact ⟨by unfold findP; rw [← hk2, drop_cons (k := k) (by omega), idxP, if_pos (by rw [inS_iff]; simp only [UInt32.le_iff_toNat_le] at *; omega)], hw.below (Bg.le.refl _)⟩
    · try simp only [bs] at h3
      refine Tr.skip ?_
      refine Tr.inN ?_
      refine Tr.thenN ?_
      refine Tr.region ?_
      refine Tr.q (QS.move rfl) rfl ?_
      first | refine Tr.q (QS.addI rfl rfl (by omega)) rfl ?_ | refine Tr.q (QS.add rfl rfl) rfl ?_
      refine Tr.q (QS.assign rfl) rfl ?_
      refine Tr.nil ?_
      refine Tr.thenN ?_
      apply Tr.again (k + 1)
      · exact rfl
      · exact (.cons (by first | rfl | exact lookI rfl (by omega) | exact lookI rfl (by simp) | exact lookB rfl (by simp)) Front.nil)
      · exact SubX.dropN 17 (by kernel_rfl) rfl
      · exact (by repeat' (first | exact Pick.nil _ | exact Del.here _ | apply Pick.cons | apply Del.there))
      · exact ⟨by omega, by rw [← hk2, drop_cons (k := k) (by omega), idxP, if_neg (by rw [inS_iff]; simp only [UInt32.le_iff_toNat_le] at *; omega)]⟩
      · exact (by (try dsimp only); omega)
  · try simp only [bs] at h1
    refine Tr.exit ?_
    refine Tr.thenE ?_
    refine Tr.thenE ?_
    refine Tr.inHit ?_
    refine Tr.thenN ?_
    refine Tr.seq ?_
    refine Tr.region ?_
    refine Tr.q (QS.assign rfl) rfl ?_
    refine Tr.nil ?_
    refine Tr.thenN ?_
    refine Tr.ret ?_
    refine Tr.ret1 Try.results72 rfl (fun w' hw => ?_)
    exact ⟨by unfold findP; rw [← hk2, List.drop_of_length_le (by omega)]; rfl, hw.below (Bg.le.refl _)⟩

set_option maxRecDepth 100000 in
set_option maxHeartbeats 2000000 in
theorem refCopy_any (s : SecV) (w : World) (hs : s.data.length ≤ 200000) (hd : Sl (hp w) encU8 s.data (.slice s.dp s.data.length s.dc)) :
    Calls Try.prog 83 #[.agg (encSec.enc s).toArray] w (fun e w' => ∃ i : SecV, e = .returned (.agg (encSec.enc i).toArray) ∧ Ext w w' ∧ NewEnts w w' [dRow 5 i] ∧ i.pl = s.pl) := by
  have hd' : Sl (Bg.of w).blk encU8 s.data (.slice s.dp s.data.length s.dc) := hd
  refine enter Try.func83 rfl Try.ntmps83 rfl ?_
  refine Tr.seq ?_
  refine Tr.region ?_
  refine Tr.box rfl rfl rfl (fun b1 => ?_)
  refine Tr.alloc Try.zeroValue59 rfl rfl (fun b2 => ?_)
  refine Tr.nil ?_
  refine Tr.thenN ?_
  refine Tr.seq ?_
  refine Tr.region ?_
  refine Tr.q (QS.assign rfl) rfl ?_
  refine Tr.nil ?_
  refine Tr.thenN ?_
  refine Tr.seq ?_
  refine Tr.region ?_
  refine Tr.q (QS.move rfl) rfl ?_
  refine Tr.q (QS.fieldAddr (off := 2) (ft := 54) rfl Try.underlying59 rfl rfl Try.sizeOf54 (by decide)) rfl ?_
  refine Tr.q (QS.lV rfl Try.isAgg54) rfl ?_
  refine Tr.ownNil _ _ (Tr.appendOf rfl rfl (by repeat (first | exact Del.here _ | apply Del.there)) (fun w hw => hw.slF (by assumption)) Try.underlying54 HLF.info5 (by rfl) (by rfl) (by (try simp only [List.length_cons, List.length_nil, List.length_append, List.length_take]); omega) (by unfold maxLen; (try simp only [List.length_cons, List.length_nil, List.length_append, List.length_take]); omega) rfl (fun V3 => ?_))
  rw [List.nil_append]
  refine Tr.rowShape (.head _) (fun pa pc hpv => ?_)
  subst hpv
  refine Tr.q (QS.assign rfl) rfl ?_
  refine Tr.nil ?_
  refine Tr.thenN ?_
  refine Tr.seq ?_
  refine Tr.region ?_
  refine Tr.q (QS.move rfl) rfl ?_
  refine Tr.q (QS.fieldAddr (off := 2) (ft := 54) rfl Try.underlying59 rfl rfl Try.sizeOf54 (by decide)) rfl ?_
  refine Tr.storeV (cs' := [_, _, _, _, _]) rfl rfl Try.sizeOf54 (by repeat (first | exact Put.here _ | apply Put.there)) rfl (by rfl) (by first | exact Nat.le_of_ble_eq_true rfl | simp) (by first | exact List.all_eq_true.1 rfl | (intro u hu; simp [Value.cells] at hu; simp_all [Value.oneCell'])) rfl ?_
  refine Tr.nil ?_
  refine Tr.thenN ?_
  refine Tr.seq ?_
  refine Tr.region ?_
  refine Tr.q (QS.lW rfl Try.isAgg59 Try.sizeOf59) rfl ?_
  refine Tr.storeW rfl rfl Try.sizeOf59 (by repeat (first | exact Put.here _ | apply Put.there)) (by rfl) (by rfl) (by first | exact List.all_eq_true.1 rfl | exact Enc.one _ _ | exact Enc.one encSec _) rfl ?_
  refine Tr.nil ?_
  refine Tr.thenN ?_
  refine Tr.ret ?_
  refine Tr.retC1 Try.results83 rfl (by repeat (first | exact List.Mem.head _ | apply List.Mem.tail)) Try.isAgg59 Try.sizeOf59 (by rfl) (fun w' hw => ?_)
  exact ⟨{ s with dp := pa, dc := pc }, rfl, hw.below (Bg.le.refl _), hw.ents (Bg.le.refl _) (by repeat' (first | exact Pick.nil _ | exact Del.here _ | apply Pick.cons | apply Del.there)), rfl⟩

set_option maxRecDepth 100000 in
set_option maxHeartbeats 2000000 in
theorem refOne_any (l : List SecV) (V : Value) (i : Nat) (w : World) (hV : Sl (hp w) encSec l V) (hB : SecB l) (hi : i < l.length) (hN : (l.getD i default).name.size ≤ 9223372036854775807) :
    Calls Try.prog 81 #[V, .int .i64 (i : Nat)] w (fun e w' => e = .returned (.int .i64 (oneP l i)) ∧ Ext w w') := by
  have hV' : Sl (Bg.of w).blk encSec l V := hV
  have hlen := hB.1
  obtain ⟨s, hs⟩ : ∃ s, s = l.getD i default := ⟨_, rfl⟩
  have hsd : s.data.length ≤ 200000 := by rw [hs]; exact hB.at hi
  have hadr := s.addr.toNat_lt
  have hst := stack_iff s
  refine enter Try.func81 rfl Try.ntmps81 rfl ?_
  refine Tr.seq ?_
  refine Tr.region ?_
  refine Tr.q (QS.assign rfl) rfl ?_
  refine Tr.nil ?_
  refine Tr.thenN ?_
  refine Tr.seq ?_
  refine Tr.region ?_
  refine Tr.q (QS.move rfl) rfl ?_
  refine Tr.q (QS.move rfl) rfl ?_
  first | refine Tr.q (QS.idxN rfl rfl (by assumption) Try.underlying22 Try.sizeOf59 (by rfl) (by omega)) rfl ?_ | refine Tr.q (QS.idxRowN rfl rfl (by repeat (first | exact List.Mem.head _ | apply List.Mem.tail)) Try.underlying22 Try.sizeOf59 (by rfl) (by omega)) rfl ?_ | refine Tr.q (QS.idx rfl rfl (by assumption) Try.underlying22 Try.sizeOf59 (by rfl) (by omega)) rfl ?_ | refine Tr.q (QS.idxRow rfl rfl (by repeat (first | exact List.Mem.head _ | apply List.Mem.tail)) Try.underlying22 Try.sizeOf59 (by rfl) (by omega)) rfl ?_
  first | refine Tr.q (QS.elA rfl (by assumption) Try.isAgg59 Try.sizeOf59 (by rfl) (by omega)) rfl ?_ | refine Tr.q (QS.elRA rfl (by repeat (first | exact List.Mem.head _ | apply List.Mem.tail)) Try.isAgg59 Try.sizeOf59 (by rfl) (by omega)) rfl ?_
  refine Tr.alloc Try.zeroValue59 rfl rfl (fun b1 => ?_)
  refine Tr.storeW rfl rfl Try.sizeOf59 (by repeat (first | exact Put.here _ | apply Put.there)) (by rfl) (by rfl) (by first | exact List.all_eq_true.1 rfl | exact Enc.one _ _ | exact Enc.one encSec _) rfl ?_
  refine Tr.nil ?_
  refine Tr.thenN ?_
  refine Tr.seq ?_
  refine Tr.seq ?_
  rw [← hs]
  refine Tr.region ?_
  refine Tr.q (QS.fieldAddr (off := 2) (ft := 54) rfl Try.underlying59 rfl rfl Try.sizeOf54 (by decide)) rfl ?_
  refine Tr.q (QS.lV rfl Try.isAgg54) rfl ?_
  first | refine Tr.q (QS.len rfl (by assumption) Try.underlying54) rfl ?_ | refine Tr.q (QS.lenRow rfl (by repeat (first | exact List.Mem.head _ | apply List.Mem.tail)) Try.underlying54) rfl ?_ | refine Tr.q (QS.lenNil rfl Try.underlying54) rfl ?_
  refine Tr.q (QS.gtr rfl rfl) rfl ?_
  refine Tr.nil ?_
  refine Tr.thenN ?_
  refine Tr.cond rfl (fun h2 => ?_) (fun h2 => ?_)
  · try simp only [bs] at h2
    refine Tr.seq ?_
    refine Tr.region ?_
    refine Tr.q (QS.assign rfl) rfl ?_
    refine Tr.nil ?_
    refine Tr.thenN ?_
    refine Tr.ret ?_
    refine Tr.thenR ?_
    refine Tr.ret1 Try.results81 rfl (fun w' hw => ?_)
    exact ⟨by unfold oneP; dsimp only; rw [← hs, if_pos (by assumption)], hw.below (Bg.le.refl _)⟩
  · try simp only [bs] at h2
    refine Tr.skip ?_
    refine Tr.thenN ?_
    refine Tr.seq ?_
    refine Tr.seq ?_
    refine Tr.region ?_
    refine Tr.q (QS.fieldAddr (off := 0) (ft := 9) rfl Try.underlying59 rfl rfl Try.sizeOf9 (by decide)) rfl ?_
    refine Tr.q (QS.lV rfl Try.isAgg9) rfl ?_
    refine Tr.q (QS.call rfl Try.call101 (fun w hw => refName_any s.name w (by rw [hs]; exact hN))) rfl ?_
    refine Tr.q (QS.not rfl) rfl ?_
    refine Tr.nil ?_
    refine Tr.thenN ?_
    refine Tr.cond rfl (fun h3 => ?_) (fun h3 => ?_)
    · try simp only [bs] at h3
      refine Tr.seq ?_
      refine Tr.region ?_
      refine Tr.q (QS.assign rfl) rfl ?_
      refine Tr.nil ?_
      refine Tr.thenN ?_
      refine Tr.ret ?_
      refine Tr.thenR ?_
      refine Tr.ret1 Try.results81 rfl (fun w' hw => ?_)
      exact ⟨by unfold oneP; dsimp only; rw [← hs, if_neg (by assumption), if_pos (by assumption)], hw.below (Bg.le.refl _)⟩
    · try simp only [bs] at h3
      refine Tr.skip ?_
      refine Tr.thenN ?_
      refine Tr.seq ?_
      refine Tr.seq ?_
      refine Tr.region ?_
      refine Tr.q (QS.assign rfl) rfl ?_
      refine Tr.nil ?_
      refine Tr.thenN ?_
      refine Tr.block ?_
      refine Tr.loop (ι := Nat) (fun k => k ≤ i ∧ (l.take k).any (fun x => decide (x.name = s.name)) = false) (fun _ => _) (fun k => [cellE b1 (encSec.enc s) 59]) (fun k => [(6, .int .i64 (k : Nat))]) (fun k => i - k) 0 ⟨Nat.zero_le _, rfl⟩ (.cons (by first | rfl | exact lookI rfl (by omega) | exact lookI rfl (by simp) | exact lookB rfl (by simp)) Front.nil) (by repeat' (first | exact Pick.nil _ | exact Del.here _ | apply Pick.cons | apply Del.there)) rfl (fun k hi m hm => ?_)
      replace hi : k ≤ i ∧ (l.take k).any (fun x => decide (x.name = s.name)) = false := hi
      replace hm : m = i - k := hm
      change Tr _ _ [cellE b1 (encSec.enc s) 59] ([(6, .int .i64 (k : Nat))] ++ _) _
      obtain ⟨hk1, hk2⟩ := hi
      refine Tr.seq ?_
      refine Tr.seq ?_
      refine Tr.region ?_
      refine Tr.q (QS.move rfl) rfl ?_
      refine Tr.q (QS.move rfl) rfl ?_
      refine Tr.q (QS.lss rfl rfl) rfl ?_
      refine Tr.nil ?_
      refine Tr.thenN ?_
      refine Tr.cond rfl (fun h4 => ?_) (fun h4 => ?_)
      · try simp only [bs] at h4
        refine Tr.skip ?_
        refine Tr.thenN ?_
        refine Tr.seq ?_
        refine Tr.block ?_
        refine Tr.seq ?_
        refine Tr.regionQ HLF.mixed (by kernel_rfl) ?_
        refine TrQ.q (QS.move rfl) rfl ?_
        refine TrQ.q (QS.move rfl) rfl ?_
        first | refine TrQ.q (QS.idxN rfl rfl (by assumption) Try.underlying22 Try.sizeOf59 (by rfl) (by omega)) rfl ?_ | refine TrQ.q (QS.idxRowN rfl rfl (by repeat (first | exact List.Mem.head _ | apply List.Mem.tail)) Try.underlying22 Try.sizeOf59 (by rfl) (by omega)) rfl ?_ | refine TrQ.q (QS.idx rfl rfl (by assumption) Try.underlying22 Try.sizeOf59 (by rfl) (by omega)) rfl ?_ | refine TrQ.q (QS.idxRow rfl rfl (by repeat (first | exact List.Mem.head _ | apply List.Mem.tail)) Try.underlying22 Try.sizeOf59 (by rfl) (by omega)) rfl ?_
        refine TrQ.q (QS.fieldAddr (off := 0) (ft := 9) rfl Try.underlying59 rfl rfl Try.sizeOf9 (by decide)) rfl ?_
        first | refine TrQ.q (QS.elF rfl (by assumption) Try.isAgg9 (by omega) (by rfl)) rfl ?_ | refine TrQ.q (QS.elRF rfl (by repeat (first | exact List.Mem.head _ | apply List.Mem.tail)) Try.isAgg9 (by omega) (by rfl)) rfl ?_
        refine TrQ.q (QS.fieldAddr (off := 0) (ft := 9) rfl Try.underlying59 rfl rfl Try.sizeOf9 (by decide)) rfl ?_
        refine TrQ.q (QS.lV rfl Try.isAgg9) rfl ?_
        refine TrQ.q (QS.str_eql rfl rfl) rfl ?_
        refine TrQ.nil ?_
        refine Tr.thenN ?_
        refine Tr.cond rfl (fun h5 => ?_) (fun h5 => ?_)
        · try simp only [bs] at h5
          refine Tr.seq ?_
          refine Tr.region ?_
          refine Tr.q (QS.assign rfl) rfl ?_
          refine Tr.nil ?_
          refine Tr.thenN ?_
          refine Tr.ret ?_
          refine Tr.inR ?_
          refine Tr.thenR ?_
          refine Tr.thenR ?_
          refine Tr.inR ?_
          refine Tr.thenR ?_
          refine Tr.ret1 Try.results81 rfl (fun w' hw => ?_)
          have hany : (l.take i).any (fun x => decide (x.name = s.name)) = true := List.any_eq_true.2 ⟨l.getD k default, by rw [List.mem_take_iff_getElem]; exact ⟨k, by omega, by simp [List.getD_eq_getElem?_getD, show k < l.length by omega]⟩, decide_eq_true (by assumption)⟩
          exact ⟨by unfold oneP; dsimp only; rw [← hs, if_neg (by assumption), if_neg (by simp_all), if_pos hany], hw.below (Bg.le.refl _)⟩
        · try simp only [bs] at h5
          refine Tr.skip ?_
          refine Tr.inN ?_
          refine Tr.thenN ?_
          refine Tr.region ?_
          refine Tr.q (QS.move rfl) rfl ?_
          first | refine Tr.q (QS.addI rfl rfl (by omega)) rfl ?_ | refine Tr.q (QS.add rfl rfl) rfl ?_
          refine Tr.q (QS.assign rfl) rfl ?_
          refine Tr.nil ?_
          refine Tr.thenN ?_
          apply Tr.again (k + 1)
          · exact rfl
          · exact (.cons (by first | rfl | exact lookI rfl (by omega) | exact lookI rfl (by simp) | exact lookB rfl (by simp)) Front.nil)
          · exact SubX.dropN 15 (by kernel_rfl) rfl
          · exact (by repeat' (first | exact Pick.nil _ | exact Del.here _ | apply Pick.cons | apply Del.there))
          · exact ⟨by omega, by rw [any_take_succ (by omega), hk2, Bool.false_or]; exact decide_eq_false (by assumption)⟩
          · exact (by (try dsimp only); omega)
      · try simp only [bs] at h4
        refine Tr.exit ?_
        refine Tr.thenE ?_
        refine Tr.thenE ?_
        refine Tr.inHit ?_
        refine Tr.thenN ?_
        refine Tr.seq ?_
        refine Tr.seq ?_
        refine Tr.region ?_
        refine Tr.q (QS.fieldAddr (off := 1) (ft := 23) rfl Try.underlying59 rfl rfl Try.sizeOf23 (by decide)) rfl ?_
        refine Tr.q (QS.lV rfl Try.isAgg23) rfl ?_
        refine Tr.q (QS.cvt32toI rfl Try.underlying23 Try.underlying3) rfl ?_
        refine Tr.q (QS.fieldAddr (off := 2) (ft := 54) rfl Try.underlying59 rfl rfl Try.sizeOf54 (by decide)) rfl ?_
        refine Tr.q (QS.lV rfl Try.isAgg54) rfl ?_
        first | refine Tr.q (QS.len rfl (by assumption) Try.underlying54) rfl ?_ | refine Tr.q (QS.lenRow rfl (by repeat (first | exact List.Mem.head _ | apply List.Mem.tail)) Try.underlying54) rfl ?_ | refine Tr.q (QS.lenNil rfl Try.underlying54) rfl ?_
        first | refine Tr.q (QS.addI rfl rfl (by omega)) rfl ?_ | refine Tr.q (QS.add rfl rfl) rfl ?_
        refine Tr.q (QS.gtr rfl rfl) rfl ?_
        refine Tr.nil ?_
        refine Tr.thenN ?_
        refine Tr.cond rfl (fun h6 => ?_) (fun h6 => ?_)
        · try simp only [bs] at h6
          refine Tr.seq ?_
          refine Tr.region ?_
          refine Tr.q (QS.assign rfl) rfl ?_
          refine Tr.nil ?_
          refine Tr.thenN ?_
          refine Tr.ret ?_
          refine Tr.thenR ?_
          refine Tr.ret1 Try.results81 rfl (fun w' hw => ?_)
          have hany : ¬ (l.take i).any (fun x => decide (x.name = s.name)) = true := by obtain rfl : k = i := (by omega); rw [hk2]; decide
          exact ⟨by unfold oneP; dsimp only; rw [← hs, if_neg (by assumption), if_neg (by simp_all), if_neg hany, if_pos (.inl (by assumption))], hw.below (Bg.le.refl _)⟩
        · try simp only [bs] at h6
          refine Tr.skip ?_
          refine Tr.thenN ?_
          refine Tr.seq ?_
          refine Tr.seq ?_
          refine Tr.region ?_
          refine Tr.q (QS.fieldAddr (off := 2) (ft := 54) rfl Try.underlying59 rfl rfl Try.sizeOf54 (by decide)) rfl ?_
          refine Tr.q (QS.lV rfl Try.isAgg54) rfl ?_
          first | refine Tr.q (QS.len rfl (by assumption) Try.underlying54) rfl ?_ | refine Tr.q (QS.lenRow rfl (by repeat (first | exact List.Mem.head _ | apply List.Mem.tail)) Try.underlying54) rfl ?_ | refine Tr.q (QS.lenNil rfl Try.underlying54) rfl ?_
          refine Tr.q (QS.gtr rfl rfl) rfl ?_
          refine Tr.q (QS.move rfl) rfl ?_
          apply Tr.andP
          · exact (rfl : _ = (5, 44, 49))
          · exact rfl
          · intro hT7; have hT7' := hT7
            try simp only [bs] at hT7'
            refine Tr.gq rfl rfl hT7 (QS.fieldAddr (off := 1) (ft := 23) rfl Try.underlying59 rfl rfl Try.sizeOf23 (by decide)) rfl ?_
            refine Tr.gq rfl rfl hT7 (QS.lV rfl Try.isAgg23) rfl ?_
            refine Tr.gq rfl rfl hT7 (QS.cvt32toI rfl Try.underlying23 Try.underlying3) rfl ?_
            refine Tr.gq rfl rfl hT7 (QS.lss rfl rfl) rfl ?_
            refine Tr.q (QS.pickT rfl hT7 rfl) rfl ?_
            refine Tr.nil (Tr.thenN ?_)
            exact Tr.endX (Sub.cons rfl (Sub.dropN 5 (by kernel_rfl) rfl))
          · intro hF7
            refine Tr.gskip rfl rfl hF7 rfl ?_
            refine Tr.gskip rfl rfl hF7 rfl ?_
            refine Tr.gskip rfl rfl hF7 rfl ?_
            refine Tr.gskip rfl rfl hF7 rfl ?_
            refine Tr.q (QS.pickF rfl hF7 rfl) rfl ?_
            refine Tr.nil (Tr.thenN ?_)
            exact Tr.endX (Sub.cons rfl (Sub.dropN 5 (by kernel_rfl) rfl))
          refine Tr.q (QS.move rfl) rfl ?_
          apply Tr.andP
          · exact (rfl : _ = (4, 50, 54))
          · exact rfl
          · intro hT8; have hT8' := hT8
            try simp only [bs] at hT8'
            refine Tr.gq rfl rfl hT8 (QS.lW rfl Try.isAgg59 Try.sizeOf59) rfl ?_
            refine Tr.gq rfl rfl hT8 (QS.call rfl Try.call82 (fun w hw => refEnd_any s w hsd)) rfl ?_
            refine Tr.gq rfl rfl hT8 (QS.gtr rfl rfl) rfl ?_
            refine Tr.q (QS.pickT rfl hT8 rfl) rfl ?_
            refine Tr.nil (Tr.thenN ?_)
            exact Tr.endX (Sub.cons rfl (Sub.dropN 4 (by kernel_rfl) rfl))
          · intro hF8
            refine Tr.gskip rfl rfl hF8 rfl ?_
            refine Tr.gskip rfl rfl hF8 rfl ?_
            refine Tr.gskip rfl rfl hF8 rfl ?_
            refine Tr.q (QS.pickF rfl hF8 rfl) rfl ?_
            refine Tr.nil (Tr.thenN ?_)
            exact Tr.endX (Sub.cons rfl (Sub.dropN 4 (by kernel_rfl) rfl))
          refine Tr.nil ?_
          refine Tr.thenN ?_
          refine Tr.cond rfl (fun h9 => ?_) (fun h9 => ?_)
          · try simp only [bs] at h9
            refine Tr.seq ?_
            refine Tr.region ?_
            refine Tr.q (QS.assign rfl) rfl ?_
            refine Tr.nil ?_
            refine Tr.thenN ?_
            refine Tr.ret ?_
            refine Tr.thenR ?_
            refine Tr.ret1 Try.results81 rfl (fun w' hw => ?_)
            have hany : ¬ (l.take i).any (fun x => decide (x.name = s.name)) = true := by obtain rfl : k = i := (by omega); rw [hk2]; decide
            exact ⟨by unfold oneP; dsimp only; rw [← hs, if_neg (by assumption), if_neg (by simp_all), if_neg hany, if_pos (.inr (hst.2 (by omega)))], hw.below (Bg.le.refl _)⟩
          · try simp only [bs] at h9
            refine Tr.skip ?_
            refine Tr.thenN ?_
            refine Tr.seq ?_
            refine Tr.region ?_
            refine Tr.q (QS.assign rfl) rfl ?_
            refine Tr.nil ?_
            refine Tr.thenN ?_
            refine Tr.ret ?_
            refine Tr.ret1 Try.results81 rfl (fun w' hw => ?_)
            have hany : ¬ (l.take i).any (fun x => decide (x.name = s.name)) = true := by obtain rfl : k = i := (by omega); rw [hk2]; decide
            exact ⟨by unfold oneP; dsimp only; rw [← hs, if_neg (by assumption), if_neg (by simp_all), if_neg hany, if_neg (fun q => q.elim (by assumption) (fun q => by have := hst.1 q; omega))], hw.below (Bg.le.refl _)⟩

set_option maxRecDepth 100000 in
set_option maxHeartbeats 2000000 in
theorem refCheck_any (l : List SecV) (V : Value) (w : World) (hV : Sl (hp w) encSec l V) (hB : SecB l) (hN : ∀ s ∈ l, s.name.size ≤ 9223372036854775807) :
    Calls Try.prog 52 #[V] w (fun e w' => e = .returned (.int .i64 (checkS l)) ∧ Ext w w') := by
  have hV' : Sl (Bg.of w).blk encSec l V := hV
  have hlen := hB.1
  refine enter Try.func52 rfl Try.ntmps52 rfl ?_
  refine Tr.seq ?_
  refine Tr.region ?_
  refine Tr.q (QS.assign rfl) rfl ?_
  refine Tr.nil ?_
  refine Tr.thenN ?_
  refine Tr.seq ?_
  refine Tr.seq ?_
  refine Tr.region ?_
  refine Tr.q (QS.move rfl) rfl ?_
  first | refine Tr.q (QS.len rfl (by assumption) Try.underlying22) rfl ?_ | refine Tr.q (QS.lenRow rfl (by repeat (first | exact List.Mem.head _ | apply List.Mem.tail)) Try.underlying22) rfl ?_ | refine Tr.q (QS.lenNil rfl Try.underlying22) rfl ?_
  refine Tr.q (QS.gtr rfl rfl) rfl ?_
  refine Tr.nil ?_
  refine Tr.thenN ?_
  refine Tr.cond rfl (fun h1 => ?_) (fun h1 => ?_)
  · try simp only [bs] at h1
    refine Tr.seq ?_
    refine Tr.region ?_
    refine Tr.q (QS.assign rfl) rfl ?_
    refine Tr.nil ?_
    refine Tr.thenN ?_
    refine Tr.ret ?_
    refine Tr.thenR ?_
    refine Tr.ret1 Try.results52 rfl (fun w' hw => ?_)
    exact ⟨by rw [check_0 (by assumption)], hw.below (Bg.le.refl _)⟩
  · try simp only [bs] at h1
    refine Tr.skip ?_
    refine Tr.thenN ?_
    refine Tr.seq ?_
    refine Tr.seq ?_
    refine Tr.region ?_
    refine Tr.q (QS.assign rfl) rfl ?_
    refine Tr.nil ?_
    refine Tr.thenN ?_
    refine Tr.block ?_
    refine Tr.loop (ι := Nat) (fun k => k ≤ l.length ∧ firstP (oneP l) k (l.length - k) = firstP (oneP l) 0 l.length) (fun _ => _) (fun k => []) (fun k => [(3, .int .i64 (k : Nat))]) (fun k => l.length - k) 0 ⟨Nat.zero_le _, rfl⟩ (.cons (by first | rfl | exact lookI rfl (by omega) | exact lookI rfl (by simp) | exact lookB rfl (by simp)) Front.nil) (by repeat' (first | exact Pick.nil _ | exact Del.here _ | apply Pick.cons | apply Del.there)) rfl (fun k hi m hm => ?_)
    replace hi : k ≤ l.length ∧ firstP (oneP l) k (l.length - k) = firstP (oneP l) 0 l.length := hi
    replace hm : m = l.length - k := hm
    change Tr _ _ [] ([(3, .int .i64 (k : Nat))] ++ _) _
    obtain ⟨hk1, hk2⟩ := hi
    refine Tr.seq ?_
    refine Tr.seq ?_
    refine Tr.region ?_
    refine Tr.q (QS.move rfl) rfl ?_
    refine Tr.q (QS.move rfl) rfl ?_
    first | refine Tr.q (QS.len rfl (by assumption) Try.underlying22) rfl ?_ | refine Tr.q (QS.lenRow rfl (by repeat (first | exact List.Mem.head _ | apply List.Mem.tail)) Try.underlying22) rfl ?_ | refine Tr.q (QS.lenNil rfl Try.underlying22) rfl ?_
    refine Tr.q (QS.lss rfl rfl) rfl ?_
    refine Tr.nil ?_
    refine Tr.thenN ?_
    refine Tr.cond rfl (fun h2 => ?_) (fun h2 => ?_)
    · try simp only [bs] at h2
      refine Tr.skip ?_
      refine Tr.thenN ?_
      refine Tr.seq ?_
      refine Tr.block ?_
      refine Tr.seq ?_
      refine Tr.region ?_
      refine Tr.q (QS.move rfl) rfl ?_
      refine Tr.q (QS.move rfl) rfl ?_
      refine Tr.q (QS.call rfl Try.call81 (fun w hw => refOne_any l V k w (hw.slF hV) hB (by omega) (hN _ (mem_getD (by omega))))) rfl ?_
      refine Tr.q (QS.assign rfl) rfl ?_
      refine Tr.nil ?_
      refine Tr.thenN ?_
      refine Tr.seq ?_
      refine Tr.region ?_
      refine Tr.q (QS.move rfl) rfl ?_
      refine Tr.q (QS.neq rfl rfl) rfl ?_
      refine Tr.nil ?_
      refine Tr.thenN ?_
      refine Tr.cond rfl (fun h3 => ?_) (fun h3 => ?_)
      · try simp only [bs] at h3
        refine Tr.seq ?_
        refine Tr.region ?_
        refine Tr.q (QS.move rfl) rfl ?_
        refine Tr.q (QS.assign rfl) rfl ?_
        refine Tr.nil ?_
        refine Tr.thenN ?_
        refine Tr.ret ?_
        refine Tr.inR ?_
        refine Tr.thenR ?_
        refine Tr.thenR ?_
        refine Tr.inR ?_
        refine Tr.thenR ?_
        refine Tr.ret1 Try.results52 rfl (fun w' hw => ?_)
        exact ⟨by rw [check_1 (v := oneP l k) (by assumption) (by omega) hk2 rfl (by assumption)], hw.below (Bg.le.refl _)⟩
      · try simp only [bs] at h3
        refine Tr.skip ?_
        refine Tr.inN ?_
        refine Tr.thenN ?_
        refine Tr.region ?_
        refine Tr.q (QS.move rfl) rfl ?_
        first | refine Tr.q (QS.addI rfl rfl (by omega)) rfl ?_ | refine Tr.q (QS.add rfl rfl) rfl ?_
        refine Tr.q (QS.assign rfl) rfl ?_
        refine Tr.nil ?_
        refine Tr.thenN ?_
        apply Tr.again (k + 1)
        · exact rfl
        · exact (.cons (by first | rfl | exact lookI rfl (by omega) | exact lookI rfl (by simp) | exact lookB rfl (by simp)) Front.nil)
        · exact SubX.dropN 14 (by kernel_rfl) rfl
        · exact (by repeat' (first | exact Pick.nil _ | exact Del.here _ | apply Pick.cons | apply Del.there))
        · exact ⟨by omega, by rw [firstP_next (by omega) (by omega), hk2]⟩
        · exact (by (try dsimp only); omega)
    · try simp only [bs] at h2
      refine Tr.exit ?_
      refine Tr.thenE ?_
      refine Tr.thenE ?_
      refine Tr.inHit ?_
      refine Tr.thenN ?_
      refine Tr.seq ?_
      refine Tr.seq ?_
      refine Tr.region ?_
      refine Tr.q (QS.assign rfl) rfl ?_
      refine Tr.nil ?_
      refine Tr.thenN ?_
      refine Tr.block ?_
      have hz1 : firstP (oneP l) 0 l.length = 0 := by rw [← hk2]; exact firstP_zero (by omega)
      clear hk2 hk1 hm
      refine Tr.loop (ι := Nat) (fun k => k ≤ l.length ∧ firstP (fun i => if overP l i = true then 10 else 0) k (l.length - k) = firstP (fun i => if overP l i = true then 10 else 0) 0 l.length) (fun _ => _) (fun k => []) (fun k => [(5, .int .i64 (k : Nat))]) (fun k => l.length - k) 0 ⟨Nat.zero_le _, rfl⟩ (.cons (by first | rfl | exact lookI rfl (by omega) | exact lookI rfl (by simp) | exact lookB rfl (by simp)) Front.nil) (by repeat' (first | exact Pick.nil _ | exact Del.here _ | apply Pick.cons | apply Del.there)) rfl (fun k hi m hm => ?_)
      replace hi : k ≤ l.length ∧ firstP (fun i => if overP l i = true then 10 else 0) k (l.length - k) = firstP (fun i => if overP l i = true then 10 else 0) 0 l.length := hi
      replace hm : m = l.length - k := hm
      change Tr _ _ [] ([(5, .int .i64 (k : Nat))] ++ _) _
      obtain ⟨hk1, hk2⟩ := hi
      refine Tr.seq ?_
      refine Tr.seq ?_
      refine Tr.region ?_
      refine Tr.q (QS.move rfl) rfl ?_
      refine Tr.q (QS.move rfl) rfl ?_
      first | refine Tr.q (QS.len rfl (by assumption) Try.underlying22) rfl ?_ | refine Tr.q (QS.lenRow rfl (by repeat (first | exact List.Mem.head _ | apply List.Mem.tail)) Try.underlying22) rfl ?_ | refine Tr.q (QS.lenNil rfl Try.underlying22) rfl ?_
      refine Tr.q (QS.lss rfl rfl) rfl ?_
      refine Tr.nil ?_
      refine Tr.thenN ?_
      refine Tr.cond rfl (fun h4 => ?_) (fun h4 => ?_)
      · try simp only [bs] at h4
        refine Tr.skip ?_
        refine Tr.thenN ?_
        refine Tr.seq ?_
        refine Tr.block ?_
        refine Tr.seq ?_
        refine Tr.region ?_
        refine Tr.q (QS.assign rfl) rfl ?_
        refine Tr.nil ?_
        refine Tr.thenN ?_
        refine Tr.block ?_
        refine Tr.loop (ι := Nat) (fun j => j ≤ k ∧ (l.take j).any (fun x => meetP (spaceP x) (spaceP (l.getD k default))) = false) (fun _ => _) (fun j => []) (fun j => [(6, .int .i64 (j : Nat))]) (fun j => k - j) 0 ⟨Nat.zero_le _, rfl⟩ (.cons (by first | rfl | exact lookI rfl (by omega) | exact lookI rfl (by simp) | exact lookB rfl (by simp)) Front.nil) (by repeat' (first | exact Pick.nil _ | exact Del.here _ | apply Pick.cons | apply Del.there)) rfl (fun j hi m hm => ?_)
        replace hi : j ≤ k ∧ (l.take j).any (fun x => meetP (spaceP x) (spaceP (l.getD k default))) = false := hi
        replace hm : m = k - j := hm
        change Tr _ _ [] ([(6, .int .i64 (j : Nat))] ++ _) _
        obtain ⟨hj1, hj2⟩ := hi
        have hmi := meet_iff (l.getD j default) (l.getD k default)
        refine Tr.seq ?_
        refine Tr.seq ?_
        refine Tr.region ?_
        refine Tr.q (QS.move rfl) rfl ?_
        refine Tr.q (QS.move rfl) rfl ?_
        refine Tr.q (QS.lss rfl rfl) rfl ?_
        refine Tr.nil ?_
        refine Tr.thenN ?_
        refine Tr.cond rfl (fun h5 => ?_) (fun h5 => ?_)
        · try simp only [bs] at h5
          refine Tr.skip ?_
          refine Tr.thenN ?_
          refine Tr.seq ?_
          refine Tr.block ?_
          refine Tr.seq ?_
          refine Tr.regionQ HLF.mixed (by kernel_rfl) ?_
          refine TrQ.q (QS.move rfl) rfl ?_
          refine TrQ.q (QS.move rfl) rfl ?_
          first | refine TrQ.q (QS.idxN rfl rfl (by assumption) Try.underlying22 Try.sizeOf59 (by rfl) (by omega)) rfl ?_ | refine TrQ.q (QS.idxRowN rfl rfl (by repeat (first | exact List.Mem.head _ | apply List.Mem.tail)) Try.underlying22 Try.sizeOf59 (by rfl) (by omega)) rfl ?_ | refine TrQ.q (QS.idx rfl rfl (by assumption) Try.underlying22 Try.sizeOf59 (by rfl) (by omega)) rfl ?_ | refine TrQ.q (QS.idxRow rfl rfl (by repeat (first | exact List.Mem.head _ | apply List.Mem.tail)) Try.underlying22 Try.sizeOf59 (by rfl) (by omega)) rfl ?_
          refine TrQ.q (QS.fieldAddr (off := 2) (ft := 54) rfl Try.underlying59 rfl rfl Try.sizeOf54 (by decide)) rfl ?_
          first | refine TrQ.q (QS.elF rfl (by assumption) Try.isAgg54 (by omega) (by rfl)) rfl ?_ | refine TrQ.q (QS.elRF rfl (by repeat (first | exact List.Mem.head _ | apply List.Mem.tail)) Try.isAgg54 (by omega) (by rfl)) rfl ?_
          first | refine TrQ.q (QS.len rfl (by assumption) Try.underlying54) rfl ?_ | refine TrQ.q (QS.lenRow rfl (by repeat (first | exact List.Mem.head _ | apply List.Mem.tail)) Try.underlying54) rfl ?_ | refine TrQ.q (QS.lenNil rfl Try.underlying54) rfl ?_
          refine TrQ.q (QS.gtr rfl rfl) rfl ?_
          refine TrQ.q (QS.move rfl) rfl ?_
          apply TrQ.andP
          · exact (rfl : _ = (8, 40, 48))
          · exact rfl
          · intro hT6; have hT6' := hT6
            try simp only [bs] at hT6'
            refine TrQ.gq rfl rfl hT6 (QS.move rfl) rfl ?_
            refine TrQ.gq rfl rfl hT6 (QS.move rfl) rfl ?_
            first | refine TrQ.gq rfl rfl hT6 (QS.idxN rfl rfl (by assumption) Try.underlying22 Try.sizeOf59 (by rfl) (by omega)) rfl ?_ | refine TrQ.gq rfl rfl hT6 (QS.idxRowN rfl rfl (by repeat (first | exact List.Mem.head _ | apply List.Mem.tail)) Try.underlying22 Try.sizeOf59 (by rfl) (by omega)) rfl ?_ | refine TrQ.gq rfl rfl hT6 (QS.idx rfl rfl (by assumption) Try.underlying22 Try.sizeOf59 (by rfl) (by omega)) rfl ?_ | refine TrQ.gq rfl rfl hT6 (QS.idxRow rfl rfl (by repeat (first | exact List.Mem.head _ | apply List.Mem.tail)) Try.underlying22 Try.sizeOf59 (by rfl) (by omega)) rfl ?_
            refine TrQ.gq rfl rfl hT6 (QS.fieldAddr (off := 2) (ft := 54) rfl Try.underlying59 rfl rfl Try.sizeOf54 (by decide)) rfl ?_
            first | refine TrQ.gq rfl rfl hT6 (QS.elF rfl (by assumption) Try.isAgg54 (by omega) (by rfl)) rfl ?_ | refine TrQ.gq rfl rfl hT6 (QS.elRF rfl (by repeat (first | exact List.Mem.head _ | apply List.Mem.tail)) Try.isAgg54 (by omega) (by rfl)) rfl ?_
            first | refine TrQ.gq rfl rfl hT6 (QS.len rfl (by assumption) Try.underlying54) rfl ?_ | refine TrQ.gq rfl rfl hT6 (QS.lenRow rfl (by repeat (first | exact List.Mem.head _ | apply List.Mem.tail)) Try.underlying54) rfl ?_ | refine TrQ.gq rfl rfl hT6 (QS.lenNil rfl Try.underlying54) rfl ?_
            refine TrQ.gq rfl rfl hT6 (QS.gtr rfl rfl) rfl ?_
            refine TrQ.q (QS.pickT rfl hT6 rfl) rfl ?_
            exact TrQ.end (Sub.cons rfl (Sub.dropN 8 (by kernel_rfl) rfl))
          · intro hF6
            refine TrQ.gskip rfl rfl hF6 rfl ?_
            refine TrQ.gskip rfl rfl hF6 rfl ?_
            refine TrQ.gskip rfl rfl hF6 rfl ?_
            refine TrQ.gskip rfl rfl hF6 rfl ?_
            refine TrQ.gskip rfl rfl hF6 rfl ?_
            refine TrQ.gskip rfl rfl hF6 rfl ?_
            refine TrQ.gskip rfl rfl hF6 rfl ?_
            refine TrQ.q (QS.pickF rfl hF6 rfl) rfl ?_
            exact TrQ.end (Sub.cons rfl (Sub.dropN 8 (by kernel_rfl) rfl))
          refine TrQ.q (QS.move rfl) rfl ?_
          apply TrQ.andP
          · exact (rfl : _ = (13, 49, 62))
          · exact rfl
          · intro hT7; have hT7' := hT7
            try simp only [bs] at hT7'
            refine TrQ.gq rfl rfl hT7 (QS.move rfl) rfl ?_
            refine TrQ.gq rfl rfl hT7 (QS.move rfl) rfl ?_
            first | refine TrQ.gq rfl rfl hT7 (QS.idxN rfl rfl (by assumption) Try.underlying22 Try.sizeOf59 (by rfl) (by omega)) rfl ?_ | refine TrQ.gq rfl rfl hT7 (QS.idxRowN rfl rfl (by repeat (first | exact List.Mem.head _ | apply List.Mem.tail)) Try.underlying22 Try.sizeOf59 (by rfl) (by omega)) rfl ?_ | refine TrQ.gq rfl rfl hT7 (QS.idx rfl rfl (by assumption) Try.underlying22 Try.sizeOf59 (by rfl) (by omega)) rfl ?_ | refine TrQ.gq rfl rfl hT7 (QS.idxRow rfl rfl (by repeat (first | exact List.Mem.head _ | apply List.Mem.tail)) Try.underlying22 Try.sizeOf59 (by rfl) (by omega)) rfl ?_
            refine TrQ.gq rfl rfl hT7 (QS.fieldAddr (off := 1) (ft := 23) rfl Try.underlying59 rfl rfl Try.sizeOf23 (by decide)) rfl ?_
            first | refine TrQ.gq rfl rfl hT7 (QS.elF rfl (by assumption) Try.isAgg23 (by omega) (by rfl)) rfl ?_ | refine TrQ.gq rfl rfl hT7 (QS.elRF rfl (by repeat (first | exact List.Mem.head _ | apply List.Mem.tail)) Try.isAgg23 (by omega) (by rfl)) rfl ?_
            refine TrQ.gq rfl rfl hT7 (QS.cvt32toI rfl Try.underlying23 Try.underlying3) rfl ?_
            refine TrQ.gq rfl rfl hT7 (QS.move rfl) rfl ?_
            refine TrQ.gq rfl rfl hT7 (QS.move rfl) rfl ?_
            first | refine TrQ.gq rfl rfl hT7 (QS.idxN rfl rfl (by assumption) Try.underlying22 Try.sizeOf59 (by rfl) (by omega)) rfl ?_ | refine TrQ.gq rfl rfl hT7 (QS.idxRowN rfl rfl (by repeat (first | exact List.Mem.head _ | apply List.Mem.tail)) Try.underlying22 Try.sizeOf59 (by rfl) (by omega)) rfl ?_ | refine TrQ.gq rfl rfl hT7 (QS.idx rfl rfl (by assumption) Try.underlying22 Try.sizeOf59 (by rfl) (by omega)) rfl ?_ | refine TrQ.gq rfl rfl hT7 (QS.idxRow rfl rfl (by repeat (first | exact List.Mem.head _ | apply List.Mem.tail)) Try.underlying22 Try.sizeOf59 (by rfl) (by omega)) rfl ?_
            first | refine TrQ.gq rfl rfl hT7 (QS.elA rfl (by assumption) Try.isAgg59 Try.sizeOf59 (by rfl) (by omega)) rfl ?_ | refine TrQ.gq rfl rfl hT7 (QS.elRA rfl (by repeat (first | exact List.Mem.head _ | apply List.Mem.tail)) Try.isAgg59 Try.sizeOf59 (by rfl) (by omega)) rfl ?_
            refine TrQ.gq rfl rfl hT7 (QS.call rfl Try.call82 (fun w hw => refEnd_any (l.getD j default) w (hB.at (by omega)))) rfl ?_
            refine TrQ.gq rfl rfl hT7 (QS.lss rfl rfl) rfl ?_
            refine TrQ.q (QS.pickT rfl hT7 rfl) rfl ?_
            exact TrQ.end (Sub.cons rfl (Sub.dropN 13 (by kernel_rfl) rfl))
          · intro hF7
            refine TrQ.gskip rfl rfl hF7 rfl ?_
            refine TrQ.gskip rfl rfl hF7 rfl ?_
            refine TrQ.gskip rfl rfl hF7 rfl ?_
            refine TrQ.gskip rfl rfl hF7 rfl ?_
            refine TrQ.gskip rfl rfl hF7 rfl ?_
            refine TrQ.gskip rfl rfl hF7 rfl ?_
            refine TrQ.gskip rfl rfl hF7 rfl ?_
            refine TrQ.gskip rfl rfl hF7 rfl ?_
            refine TrQ.gskip rfl rfl hF7 rfl ?_
            refine TrQ.gskip rfl rfl hF7 rfl ?_
            refine TrQ.gskip rfl rfl hF7 rfl ?_
            refine TrQ.gskip rfl rfl hF7 rfl ?_
            refine TrQ.q (QS.pickF rfl hF7 rfl) rfl ?_
            exact TrQ.end (Sub.cons rfl (Sub.dropN 13 (by kernel_rfl) rfl))
          refine TrQ.q (QS.move rfl) rfl ?_
          apply TrQ.andP
          · exact (rfl : _ = (13, 63, 76))
          · exact rfl
          · intro hT8; have hT8' := hT8
            try simp only [bs] at hT8'
            refine TrQ.gq rfl rfl hT8 (QS.move rfl) rfl ?_
            refine TrQ.gq rfl rfl hT8 (QS.move rfl) rfl ?_
            first | refine TrQ.gq rfl rfl hT8 (QS.idxN rfl rfl (by assumption) Try.underlying22 Try.sizeOf59 (by rfl) (by omega)) rfl ?_ | refine TrQ.gq rfl rfl hT8 (QS.idxRowN rfl rfl (by repeat (first | exact List.Mem.head _ | apply List.Mem.tail)) Try.underlying22 Try.sizeOf59 (by rfl) (by omega)) rfl ?_ | refine TrQ.gq rfl rfl hT8 (QS.idx rfl rfl (by assumption) Try.underlying22 Try.sizeOf59 (by rfl) (by omega)) rfl ?_ | refine TrQ.gq rfl rfl hT8 (QS.idxRow rfl rfl (by repeat (first | exact List.Mem.head _ | apply List.Mem.tail)) Try.underlying22 Try.sizeOf59 (by rfl) (by omega)) rfl ?_
            refine TrQ.gq rfl rfl hT8 (QS.fieldAddr (off := 1) (ft := 23) rfl Try.underlying59 rfl rfl Try.sizeOf23 (by decide)) rfl ?_
            first | refine TrQ.gq rfl rfl hT8 (QS.elF rfl (by assumption) Try.isAgg23 (by omega) (by rfl)) rfl ?_ | refine TrQ.gq rfl rfl hT8 (QS.elRF rfl (by repeat (first | exact List.Mem.head _ | apply List.Mem.tail)) Try.isAgg23 (by omega) (by rfl)) rfl ?_
            refine TrQ.gq rfl rfl hT8 (QS.cvt32toI rfl Try.underlying23 Try.underlying3) rfl ?_
            refine TrQ.gq rfl rfl hT8 (QS.move rfl) rfl ?_
            refine TrQ.gq rfl rfl hT8 (QS.move rfl) rfl ?_
            first | refine TrQ.gq rfl rfl hT8 (QS.idxN rfl rfl (by assumption) Try.underlying22 Try.sizeOf59 (by rfl) (by omega)) rfl ?_ | refine TrQ.gq rfl rfl hT8 (QS.idxRowN rfl rfl (by repeat (first | exact List.Mem.head _ | apply List.Mem.tail)) Try.underlying22 Try.sizeOf59 (by rfl) (by omega)) rfl ?_ | refine TrQ.gq rfl rfl hT8 (QS.idx rfl rfl (by assumption) Try.underlying22 Try.sizeOf59 (by rfl) (by omega)) rfl ?_ | refine TrQ.gq rfl rfl hT8 (QS.idxRow rfl rfl (by repeat (first | exact List.Mem.head _ | apply List.Mem.tail)) Try.underlying22 Try.sizeOf59 (by rfl) (by omega)) rfl ?_
            first | refine TrQ.gq rfl rfl hT8 (QS.elA rfl (by assumption) Try.isAgg59 Try.sizeOf59 (by rfl) (by omega)) rfl ?_ | refine TrQ.gq rfl rfl hT8 (QS.elRA rfl (by repeat (first | exact List.Mem.head _ | apply List.Mem.tail)) Try.isAgg59 Try.sizeOf59 (by rfl) (by omega)) rfl ?_
            refine TrQ.gq rfl rfl hT8 (QS.call rfl Try.call82 (fun w hw => refEnd_any (l.getD k default) w (hB.at (by omega)))) rfl ?_
            refine TrQ.gq rfl rfl hT8 (QS.lss rfl rfl) rfl ?_
            refine TrQ.q (QS.pickT rfl hT8 rfl) rfl ?_
            exact TrQ.end (Sub.cons rfl (Sub.dropN 13 (by kernel_rfl) rfl))
          · intro hF8
            refine TrQ.gskip rfl rfl hF8 rfl ?_
            refine TrQ.gskip rfl rfl hF8 rfl ?_
            refine TrQ.gskip rfl rfl hF8 rfl ?_
            refine TrQ.gskip rfl rfl hF8 rfl ?_
            refine TrQ.gskip rfl rfl hF8 rfl ?_
            refine TrQ.gskip rfl rfl hF8 rfl ?_
            refine TrQ.gskip rfl rfl hF8 rfl ?_
            refine TrQ.gskip rfl rfl hF8 rfl ?_
            refine TrQ.gskip rfl rfl hF8 rfl ?_
            refine TrQ.gskip rfl rfl hF8 rfl ?_
            refine TrQ.gskip rfl rfl hF8 rfl ?_
            refine TrQ.gskip rfl rfl hF8 rfl ?_
            refine TrQ.q (QS.pickF rfl hF8 rfl) rfl ?_
            exact TrQ.end (Sub.cons rfl (Sub.dropN 13 (by kernel_rfl) rfl))
          refine TrQ.nil ?_
          refine Tr.thenN ?_
          refine Tr.cond rfl (fun h9 => ?_) (fun h9 => ?_)
          · try simp only [bs] at h9
            refine Tr.seq ?_
            refine Tr.region ?_
            refine Tr.q (QS.assign rfl) rfl ?_
            refine Tr.nil ?_
            refine Tr.thenN ?_
            refine Tr.ret ?_
            refine Tr.inR ?_
            refine Tr.thenR ?_
            refine Tr.thenR ?_
            refine Tr.inR ?_
            refine Tr.inR ?_
            refine Tr.thenR ?_
            refine Tr.thenR ?_
            refine Tr.inR ?_
            refine Tr.thenR ?_
            refine Tr.ret1 Try.results52 rfl (fun w' hw => ?_)
            have hov : overP l k = true := List.any_eq_true.2 ⟨l.getD j default, by rw [List.mem_take_iff_getElem]; exact ⟨j, by omega, by simp [List.getD_eq_getElem?_getD, show j < l.length by omega]⟩, hmi.2 (by omega)⟩
            exact ⟨by rw [check_2 (k := k) (by assumption) hz1 (by omega) hk2 hov], hw.below (Bg.le.refl _)⟩
          · try simp only [bs] at h9
            refine Tr.skip ?_
            refine Tr.inN ?_
            refine Tr.thenN ?_
            refine Tr.region ?_
            refine Tr.q (QS.move rfl) rfl ?_
            first | refine Tr.q (QS.addI rfl rfl (by omega)) rfl ?_ | refine Tr.q (QS.add rfl rfl) rfl ?_
            refine Tr.q (QS.assign rfl) rfl ?_
            refine Tr.nil ?_
            refine Tr.thenN ?_
            have hmf : meetP (spaceP (l.getD j default)) (spaceP (l.getD k default)) = false := by rw [← Bool.not_eq_true, hmi]; omega
            apply Tr.again (j + 1)
            · exact rfl
            · exact (.cons (by first | rfl | exact lookI rfl (by omega) | exact lookI rfl (by simp) | exact lookB rfl (by simp)) Front.nil)
            · exact SubX.dropN 20 (by kernel_rfl) rfl
            · exact (by repeat' (first | exact Pick.nil _ | exact Del.here _ | apply Pick.cons | apply Del.there))
            · exact ⟨by omega, by rw [any_take_succ (by omega), hj2, hmf]; rfl⟩
            · exact (by (try dsimp only); omega)
        · try simp only [bs] at h5
          refine Tr.exit ?_
          refine Tr.thenE ?_
          refine Tr.thenE ?_
          refine Tr.inHit ?_
          refine Tr.inN ?_
          refine Tr.thenN ?_
          refine Tr.region ?_
          refine Tr.q (QS.move rfl) rfl ?_
          first | refine Tr.q (QS.addI rfl rfl (by omega)) rfl ?_ | refine Tr.q (QS.add rfl rfl) rfl ?_
          refine Tr.q (QS.assign rfl) rfl ?_
          refine Tr.nil ?_
          refine Tr.thenN ?_
          have hz : overP l k = false := by obtain rfl : j = k := (by omega); exact hj2
          apply Tr.again (k + 1)
          · exact rfl
          · exact (.cons (by first | rfl | exact lookI rfl (by omega) | exact lookI rfl (by simp) | exact lookB rfl (by simp)) Front.nil)
          · exact SubX.dropN 13 (by kernel_rfl) rfl
          · exact (by repeat' (first | exact Pick.nil _ | exact Del.here _ | apply Pick.cons | apply Del.there))
          · exact ⟨by omega, by rw [firstP_next (by omega) (by rw [if_neg (by rw [hz]; decide)]), hk2]⟩
          · exact (by (try dsimp only); omega)
      · try simp only [bs] at h4
        refine Tr.exit ?_
        refine Tr.thenE ?_
        refine Tr.thenE ?_
        refine Tr.inHit ?_
        refine Tr.thenN ?_
        refine Tr.seq ?_
        refine Tr.region ?_
        refine Tr.q (QS.assign rfl) rfl ?_
        refine Tr.nil ?_
        refine Tr.thenN ?_
        refine Tr.ret ?_
        refine Tr.ret1 Try.results52 rfl (fun w' hw => ?_)
        exact ⟨by rw [check_3 (by assumption) hz1 (by rw [← hk2]; exact firstP_zero (by omega))], hw.below (Bg.le.refl _)⟩

end Go.Proofs.Ytfnedefgepjbpaa
