/- The walks of chapter 05's reference. -/
import Derived.Test.YtfmhhakhbopfdaaWs
import Derived.Test.YtfmhhakhbopfdaaWc
import Derived.Test.YtfmhhakhbopfdaaSb
set_option linter.unusedSimpArgs false
set_option linter.unusedVariables false
namespace Go.Proofs.Ytfmhhakhbopfdaa
open Go Go.HL Go.RowKit

set_option maxRecDepth 100000 in
set_option maxHeartbeats 2000000 in
theorem refEnd_any (s : SecV) (w : World) (hs : s.data.length ≤ 200000) :
    Calls Try.prog 83 #[.agg (encSec.enc s).toArray] w (fun e w' => e = .returned (.int .i64 (endP s)) ∧ Ext w w') := by
  have hadr := s.addr.toNat_lt
  refine enter Try.func83 rfl Try.ntmps83 rfl ?_
  refine Tr.seq ?_
  refine Tr.region ?_
  refine Tr.box rfl rfl rfl (fun b1 => ?_)
  refine Tr.q (QS.assign rfl) rfl ?_
  refine Tr.nil ?_
  refine Tr.thenN ?_
  refine Tr.seq ?_
  refine Tr.region ?_
  refine Tr.q (QS.fieldAddr (off := 1) (ft := 23) rfl Try.underlying81 rfl rfl Try.sizeOf23 (by decide)) rfl ?_
  refine Tr.q (QS.lV rfl Try.isAgg23) rfl ?_
  refine Tr.q (QS.cvt32toI rfl Try.underlying23 Try.underlying3) rfl ?_
  refine Tr.q (QS.fieldAddr (off := 2) (ft := 22) rfl Try.underlying81 rfl rfl Try.sizeOf22 (by decide)) rfl ?_
  refine Tr.q (QS.lV rfl Try.isAgg22) rfl ?_
  first | refine Tr.q (QS.len rfl (by assumption) Try.underlying22) rfl ?_ | refine Tr.q (QS.lenRow rfl (by repeat (first | exact List.Mem.head _ | apply List.Mem.tail)) Try.underlying22) rfl ?_ | refine Tr.q (QS.lenNil rfl Try.underlying22) rfl ?_
  first | refine Tr.q (QS.addI rfl rfl (by omega)) rfl ?_ | refine Tr.q (QS.add rfl rfl) rfl ?_
  refine Tr.q (QS.assign rfl) rfl ?_
  refine Tr.nil ?_
  refine Tr.thenN ?_
  refine Tr.seq ?_
  refine Tr.seq ?_
  refine Tr.region ?_
  refine Tr.q (QS.move rfl) rfl ?_
  refine Tr.q (QS.gtr rfl rfl) rfl ?_
  refine Tr.nil ?_
  refine Tr.thenN ?_
  refine Tr.cond rfl (fun h2 => ?_) (fun h2 => ?_)
  · try simp only [bs] at h2
    refine Tr.seq ?_
    refine Tr.region ?_
    refine Tr.q (QS.assign rfl) rfl ?_
    refine Tr.nil ?_
    refine Tr.thenN ?_
    refine Tr.ret ?_
    refine Tr.thenR ?_
    refine Tr.ret1 Try.results83 rfl (fun w' hw => ?_)
    exact ⟨by unfold endP; rw [Int.min_eq_right (by omega)], hw.below (Bg.le.refl _)⟩
  · try simp only [bs] at h2
    refine Tr.skip ?_
    refine Tr.thenN ?_
    refine Tr.seq ?_
    refine Tr.region ?_
    refine Tr.q (QS.move rfl) rfl ?_
    refine Tr.q (QS.assign rfl) rfl ?_
    refine Tr.nil ?_
    refine Tr.thenN ?_
    refine Tr.ret ?_
    refine Tr.ret1 Try.results83 rfl (fun w' hw => ?_)
    exact ⟨by unfold endP; rw [Int.min_eq_left (by omega)], hw.below (Bg.le.refl _)⟩

set_option maxRecDepth 100000 in
set_option maxHeartbeats 2000000 in
theorem refName_any (s : ByteArray) (w : World) (hs : s.size ≤ 9223372036854775807) :
    Calls Try.prog 95 #[.string s] w (fun e w' => e = .returned (.bool (nameP s)) ∧ Ext w w') := by
  have hbl := bts_len s
  refine enter Try.func95 rfl Try.ntmps95 rfl ?_
  refine Tr.seq ?_
  refine Tr.region ?_
  refine Tr.q (QS.assign rfl) rfl ?_
  refine Tr.nil ?_
  refine Tr.thenN ?_
  refine Tr.seq ?_
  refine Tr.seq ?_
  refine Tr.region ?_
  refine Tr.q (QS.assign rfl) rfl ?_
  refine Tr.nil ?_
  refine Tr.thenN ?_
  refine Tr.block ?_
  refine Tr.loop (ι := Nat) (fun k => k ≤ s.size ∧ ((bts s).take k).any badB = false) (fun _ => _) (fun k => []) (fun k => [(3, .int .i64 (k : Nat))]) (fun k => s.size - k) 0 ⟨Nat.zero_le _, rfl⟩ (.cons (by first | rfl | exact lookI rfl (by omega) | exact lookI rfl (by simp) | exact lookB rfl (by simp)) Front.nil) (by repeat' (first | exact Pick.nil _ | exact Del.here _ | apply Pick.cons | apply Del.there)) rfl (fun k hi m hm => ?_)
  replace hi : k ≤ s.size ∧ ((bts s).take k).any badB = false := hi
  replace hm : m = s.size - k := hm
  change Tr _ _ [] ([(3, .int .i64 (k : Nat))] ++ _) _
  obtain ⟨hk1, hk2⟩ := hi
  refine Tr.seq ?_
  refine Tr.seq ?_
  refine Tr.region ?_
  refine Tr.q (QS.move rfl) rfl ?_
  refine Tr.q (QS.move rfl) rfl ?_
  refine Tr.q (QS.lenStr rfl Try.underlying9) rfl ?_
  refine Tr.q (QS.lss rfl rfl) rfl ?_
  refine Tr.nil ?_
  refine Tr.thenN ?_
  refine Tr.cond rfl (fun h1 => ?_) (fun h1 => ?_)
  · try simp only [bs] at h1
    refine Tr.skip ?_
    refine Tr.thenN ?_
    refine Tr.seq ?_
    refine Tr.block ?_
    refine Tr.seq ?_
    refine Tr.region ?_
    refine Tr.q (QS.move rfl) rfl ?_
    refine Tr.q (QS.move rfl) rfl ?_
    refine Tr.q (QS.strIdx rfl rfl Try.underlying9 (by omega)) rfl ?_
    refine Tr.q (QS.assign rfl) rfl ?_
    refine Tr.nil ?_
    refine Tr.thenN ?_
    refine Tr.seq ?_
    refine Tr.region ?_
    refine Tr.q (QS.move rfl) rfl ?_
    refine Tr.q (QS.geq8 (n := 97) rfl rfl) rfl ?_
    refine Tr.q (QS.move rfl) rfl ?_
    apply Tr.andP
    · exact (rfl : _ = (3, 17, 20))
    · exact rfl
    · intro hT2; have hT2' := hT2
      try simp only [bs] at hT2'
      refine Tr.gq rfl rfl hT2 (QS.move rfl) rfl ?_
      refine Tr.gq rfl rfl hT2 (QS.leq8 (n := 122) rfl rfl) rfl ?_
      refine Tr.q (QS.pickT rfl hT2 rfl) rfl ?_
      refine Tr.nil (Tr.thenN ?_)
      exact Tr.endX (Sub.cons rfl (Sub.dropN 3 (by kernel_rfl) rfl))
    · intro hF2
      refine Tr.gskip rfl rfl hF2 rfl ?_
      refine Tr.gskip rfl rfl hF2 rfl ?_
      refine Tr.q (QS.pickF rfl hF2 rfl) rfl ?_
      refine Tr.nil (Tr.thenN ?_)
      exact Tr.endX (Sub.cons rfl (Sub.dropN 3 (by kernel_rfl) rfl))
    refine Tr.q (QS.move rfl) rfl ?_
    apply Tr.orP
    · exact (rfl : _ = (7, 21, 28))
    · exact rfl
    · intro hF3; have hF3' := hF3
      try simp only [bs] at hF3'
      refine Tr.gq rfl rfl hF3 (QS.move rfl) rfl ?_
      refine Tr.gq rfl rfl hF3 (QS.geq8 (n := 65) rfl rfl) rfl ?_
      refine Tr.gq rfl rfl hF3 (QS.move rfl) rfl ?_
      apply Tr.andP
      · exact (rfl : _ = (3, 24, 27))
      · exact rfl
      · intro hT4; have hT4' := hT4
        try simp only [bs] at hT4'
        refine Tr.gq rfl rfl hT4 (QS.move rfl) rfl ?_
        refine Tr.gq rfl rfl hT4 (QS.leq8 (n := 90) rfl rfl) rfl ?_
        refine Tr.gq rfl rfl hF3 (QS.pickT rfl hT4 rfl) rfl ?_
        refine Tr.nil (Tr.thenN ?_)
        exact Tr.endX (Sub.cons rfl (Sub.dropN 3 (by kernel_rfl) rfl))
      · intro hF4
        refine Tr.gskip rfl rfl hF4 rfl ?_
        refine Tr.gskip rfl rfl hF4 rfl ?_
        refine Tr.gq rfl rfl hF3 (QS.pickF rfl hF4 rfl) rfl ?_
        refine Tr.nil (Tr.thenN ?_)
        exact Tr.endX (Sub.cons rfl (Sub.dropN 3 (by kernel_rfl) rfl))
      refine Tr.q (QS.pickF rfl hF3 rfl) rfl ?_
      refine Tr.nil (Tr.thenN ?_)
      exact Tr.endX (Sub.cons rfl (Sub.dropN 5 (by kernel_rfl) rfl))
    · intro hT3
      refine Tr.gskip rfl rfl hT3 rfl ?_
      refine Tr.gskip rfl rfl hT3 rfl ?_
      refine Tr.gskip rfl rfl hT3 rfl ?_
      refine Tr.gskipU rfl rfl rfl ?_
      refine Tr.gskipU rfl rfl rfl ?_
      refine Tr.gskip rfl rfl hT3 rfl ?_
      refine Tr.q (QS.pickT rfl hT3 rfl) rfl ?_
      refine Tr.nil (Tr.thenN ?_)
      exact Tr.endX (Sub.cons rfl (Sub.dropN 7 (by kernel_rfl) rfl))
    refine Tr.q (QS.assign rfl) rfl ?_
    refine Tr.nil ?_
    refine Tr.thenN ?_
    refine Tr.seq ?_
    refine Tr.region ?_
    refine Tr.q (QS.move rfl) rfl ?_
    refine Tr.q (QS.not rfl) rfl ?_
    refine Tr.q (QS.move rfl) rfl ?_
    apply Tr.andP
    · exact (rfl : _ = (7, 31, 38))
    · exact rfl
    · intro hT5; have hT5' := hT5
      try simp only [bs] at hT5'
      refine Tr.gq rfl rfl hT5 (QS.move rfl) rfl ?_
      refine Tr.gq rfl rfl hT5 (QS.lss8 (n := 48) rfl rfl) rfl ?_
      refine Tr.gq rfl rfl hT5 (QS.move rfl) rfl ?_
      apply Tr.orP
      · exact (rfl : _ = (3, 34, 37))
      · exact rfl
      · intro hF6; have hF6' := hF6
        try simp only [bs] at hF6'
        refine Tr.gq rfl rfl hF6 (QS.move rfl) rfl ?_
        refine Tr.gq rfl rfl hF6 (QS.gtr8 (n := 57) rfl rfl) rfl ?_
        refine Tr.gq rfl rfl hT5 (QS.pickF rfl hF6 rfl) rfl ?_
        refine Tr.nil (Tr.thenN ?_)
        exact Tr.endX (Sub.cons rfl (Sub.dropN 3 (by kernel_rfl) rfl))
      · intro hT6
        refine Tr.gskip rfl rfl hT6 rfl ?_
        refine Tr.gskip rfl rfl hT6 rfl ?_
        refine Tr.gq rfl rfl hT5 (QS.pickT rfl hT6 rfl) rfl ?_
        refine Tr.nil (Tr.thenN ?_)
        exact Tr.endX (Sub.cons rfl (Sub.dropN 3 (by kernel_rfl) rfl))
      refine Tr.q (QS.pickT rfl hT5 rfl) rfl ?_
      refine Tr.nil (Tr.thenN ?_)
      exact Tr.endX (Sub.cons rfl (Sub.dropN 5 (by kernel_rfl) rfl))
    · intro hF5
      refine Tr.gskip rfl rfl hF5 rfl ?_
      refine Tr.gskip rfl rfl hF5 rfl ?_
      refine Tr.gskip rfl rfl hF5 rfl ?_
      refine Tr.gskipU rfl rfl rfl ?_
      refine Tr.gskipU rfl rfl rfl ?_
      refine Tr.gskip rfl rfl hF5 rfl ?_
      refine Tr.q (QS.pickF rfl hF5 rfl) rfl ?_
      refine Tr.nil (Tr.thenN ?_)
      exact Tr.endX (Sub.cons rfl (Sub.dropN 7 (by kernel_rfl) rfl))
    refine Tr.q (QS.move rfl) rfl ?_
    apply Tr.andP
    · exact (rfl : _ = (3, 39, 42))
    · exact rfl
    · intro hT7; have hT7' := hT7
      try simp only [bs] at hT7'
      refine Tr.gq rfl rfl hT7 (QS.move rfl) rfl ?_
      refine Tr.gq rfl rfl hT7 (QS.neq8 (n := 95) rfl rfl) rfl ?_
      refine Tr.q (QS.pickT rfl hT7 rfl) rfl ?_
      refine Tr.nil (Tr.thenN ?_)
      exact Tr.endX (Sub.cons rfl (Sub.dropN 3 (by kernel_rfl) rfl))
    · intro hF7
      refine Tr.gskip rfl rfl hF7 rfl ?_
      refine Tr.gskip rfl rfl hF7 rfl ?_
      refine Tr.q (QS.pickF rfl hF7 rfl) rfl ?_
      refine Tr.nil (Tr.thenN ?_)
      exact Tr.endX (Sub.cons rfl (Sub.dropN 3 (by kernel_rfl) rfl))
    refine Tr.q (QS.move rfl) rfl ?_
    apply Tr.andP
    · exact (rfl : _ = (3, 43, 46))
    · exact rfl
    · intro hT8; have hT8' := hT8
      try simp only [bs] at hT8'
      refine Tr.gq rfl rfl hT8 (QS.move rfl) rfl ?_
      refine Tr.gq rfl rfl hT8 (QS.neq8 (n := 46) rfl rfl) rfl ?_
      refine Tr.q (QS.pickT rfl hT8 rfl) rfl ?_
      refine Tr.nil (Tr.thenN ?_)
      exact Tr.endX (Sub.cons rfl (Sub.dropN 3 (by kernel_rfl) rfl))
    · intro hF8
      refine Tr.gskip rfl rfl hF8 rfl ?_
      refine Tr.gskip rfl rfl hF8 rfl ?_
      refine Tr.q (QS.pickF rfl hF8 rfl) rfl ?_
      refine Tr.nil (Tr.thenN ?_)
      exact Tr.endX (Sub.cons rfl (Sub.dropN 3 (by kernel_rfl) rfl))
    refine Tr.nil ?_
    refine Tr.thenN ?_
    refine Tr.cond rfl (fun h9 => ?_) (fun h9 => ?_)
    · try simp only [bs] at h9
      refine Tr.seq ?_
      refine Tr.region ?_
      refine Tr.q (QS.assign rfl) rfl ?_
      refine Tr.nil ?_
      refine Tr.thenN ?_
      refine Tr.ret ?_
      refine Tr.inR ?_
      refine Tr.thenR ?_
      refine Tr.thenR ?_
      refine Tr.inR ?_
      refine Tr.thenR ?_
      refine Tr.ret1 Try.results95 rfl (fun w' hw => ?_)
      have hbad : badB ((bts s).getD k default) = true := by rw [refBad]; simp only [bs]; assumption
      exact ⟨by rw [nameP_bad (by omega) hbad], hw.below (Bg.le.refl _)⟩
    · try simp only [bs] at h9
      refine Tr.skip ?_
      refine Tr.inN ?_
      refine Tr.thenN ?_
      refine Tr.region ?_
      refine Tr.q (QS.move rfl) rfl ?_
      first | refine Tr.q (QS.addI rfl rfl (by omega)) rfl ?_ | refine Tr.q (QS.add rfl rfl) rfl ?_
      refine Tr.q (QS.assign rfl) rfl ?_
      refine Tr.nil ?_
      refine Tr.thenN ?_
      have hbad : badB ((bts s).getD k default) = false := by rw [refBad]; simp only [bs]; assumption
      apply Tr.again (k + 1)
      · exact rfl
      · exact (.cons (by first | rfl | exact lookI rfl (by omega) | exact lookI rfl (by simp) | exact lookB rfl (by simp)) Front.nil)
      · exact SubX.dropN 27 (by kernel_rfl) rfl
      · exact (by repeat' (first | exact Pick.nil _ | exact Del.here _ | apply Pick.cons | apply Del.there))
      · exact ⟨by omega, by rw [any_take_succ (by omega), hk2, hbad]; rfl⟩
      · exact (by (try dsimp only); omega)
  · try simp only [bs] at h1
    refine Tr.exit ?_
    refine Tr.thenE ?_
    refine Tr.thenE ?_
    refine Tr.inHit ?_
    refine Tr.thenN ?_
    refine Tr.seq ?_
    refine Tr.region ?_
    refine Tr.q (QS.move rfl) rfl ?_
    refine Tr.q (QS.lenStr rfl Try.underlying9) rfl ?_
    refine Tr.q (QS.gtr rfl rfl) rfl ?_
    refine Tr.q (QS.move rfl) rfl ?_
    apply Tr.andP
    · exact (rfl : _ = (4, 50, 54))
    · exact rfl
    · intro hT10; have hT10' := hT10
      try simp only [bs] at hT10'
      refine Tr.gq rfl rfl hT10 (QS.move rfl) rfl ?_
      refine Tr.gq rfl rfl hT10 (QS.lenStr rfl Try.underlying9) rfl ?_
      refine Tr.gq rfl rfl hT10 (QS.leq rfl rfl) rfl ?_
      refine Tr.q (QS.pickT rfl hT10 rfl) rfl ?_
      refine Tr.nil (Tr.thenN ?_)
      exact Tr.endX (Sub.cons rfl (Sub.dropN 4 (by kernel_rfl) rfl))
    · intro hF10
      refine Tr.gskip rfl rfl hF10 rfl ?_
      refine Tr.gskip rfl rfl hF10 rfl ?_
      refine Tr.gskip rfl rfl hF10 rfl ?_
      refine Tr.q (QS.pickF rfl hF10 rfl) rfl ?_
      refine Tr.nil (Tr.thenN ?_)
      exact Tr.endX (Sub.cons rfl (Sub.dropN 4 (by kernel_rfl) rfl))
    refine Tr.q (QS.assign rfl) rfl ?_
    refine Tr.nil ?_
    refine Tr.thenN ?_
    refine Tr.ret ?_
    refine Tr.ret1 Try.results95 rfl (fun w' hw => ?_)
    exact ⟨by rw [nameP_end (by omega) hk2]; congr 2, hw.below (Bg.le.refl _)⟩

set_option maxRecDepth 100000 in
set_option maxHeartbeats 2000000 in
theorem refFind_any (l : List SecV) (V : Value) (a : UInt32) (w : World) (hV : Sl (hp w) encSec l V) (hB : SecB l) :
    Calls Try.prog 52 #[V, .int .u32 a.toNat] w (fun e w' => e = .returned (.int .i64 (findP l a)) ∧ Ext w w') := by
  have hV' : Sl (Bg.of w).blk encSec l V := hV
  have hlen := hB.1
  refine enter Try.func52 rfl Try.ntmps52 rfl ?_
  refine Tr.seq ?_
  refine Tr.region ?_
  refine Tr.q (QS.assign rfl) rfl ?_
  refine Tr.nil ?_
  refine Tr.thenN ?_
  refine Tr.seq ?_
  refine Tr.seq ?_
  refine Tr.region ?_
  refine Tr.q (QS.assign rfl) rfl ?_
  refine Tr.nil ?_
  refine Tr.thenN ?_
  refine Tr.block ?_
  refine Tr.loop (ι := Nat) (fun k => k ≤ l.length ∧ idxP (inS a) k (l.drop k) = idxP (inS a) 0 l) (fun _ => _) (fun k => []) (fun k => [(5, .int .i64 (k : Nat))]) (fun k => l.length - k) 0 ⟨Nat.zero_le _, rfl⟩ (.cons (by first | rfl | exact lookI rfl (by omega) | exact lookI rfl (by simp) | exact lookB rfl (by simp)) Front.nil) (by repeat' (first | exact Pick.nil _ | exact Del.here _ | apply Pick.cons | apply Del.there)) rfl (fun k hi m hm => ?_)
  replace hi : k ≤ l.length ∧ idxP (inS a) k (l.drop k) = idxP (inS a) 0 l := hi
  replace hm : m = l.length - k := hm
  change Tr _ _ [] ([(5, .int .i64 (k : Nat))] ++ _) _
  obtain ⟨hk1, hk2⟩ := hi
  refine Tr.seq ?_
  refine Tr.seq ?_
  refine Tr.region ?_
  refine Tr.q (QS.move rfl) rfl ?_
  refine Tr.q (QS.move rfl) rfl ?_
  first | refine Tr.q (QS.len rfl (by assumption) Try.underlying53) rfl ?_ | refine Tr.q (QS.lenRow rfl (by repeat (first | exact List.Mem.head _ | apply List.Mem.tail)) Try.underlying53) rfl ?_ | refine Tr.q (QS.lenNil rfl Try.underlying53) rfl ?_
  refine Tr.q (QS.lss rfl rfl) rfl ?_
  refine Tr.nil ?_
  refine Tr.thenN ?_
  refine Tr.cond rfl (fun h1 => ?_) (fun h1 => ?_)
  · try simp only [bs] at h1
    refine Tr.skip ?_
    refine Tr.thenN ?_
    refine Tr.seq ?_
    refine Tr.block ?_
    refine Tr.seq ?_
    refine Tr.region ?_
    refine Tr.q (QS.move rfl) rfl ?_
    refine Tr.q (QS.move rfl) rfl ?_
    first | refine Tr.q (QS.idxN rfl rfl (by assumption) Try.underlying53 Try.sizeOf81 (by rfl) (by omega)) rfl ?_ | refine Tr.q (QS.idxRowN rfl rfl (by repeat (first | exact List.Mem.head _ | apply List.Mem.tail)) Try.underlying53 Try.sizeOf81 (by rfl) (by omega)) rfl ?_ | refine Tr.q (QS.idx rfl rfl (by assumption) Try.underlying53 Try.sizeOf81 (by rfl) (by omega)) rfl ?_ | refine Tr.q (QS.idxRow rfl rfl (by repeat (first | exact List.Mem.head _ | apply List.Mem.tail)) Try.underlying53 Try.sizeOf81 (by rfl) (by omega)) rfl ?_
    refine Tr.q (QS.fieldAddr (off := 1) (ft := 23) rfl Try.underlying81 rfl rfl Try.sizeOf23 (by decide)) rfl ?_
    first | refine Tr.q (QS.elF rfl (by assumption) Try.isAgg23 (by omega) (by rfl)) rfl ?_ | refine Tr.q (QS.elRF rfl (by repeat (first | exact List.Mem.head _ | apply List.Mem.tail)) Try.isAgg23 (by omega) (by rfl)) rfl ?_
    refine Tr.q (QS.move rfl) rfl ?_
    refine Tr.q (QS.leq32 rfl rfl) rfl ?_
    refine Tr.q (QS.move rfl) rfl ?_
    apply Tr.andP
    · exact (rfl : _ = (9, 19, 28))
    · exact rfl
    · intro hT2; have hT2' := hT2
      try simp only [bs] at hT2'
      refine Tr.gq rfl rfl hT2 (QS.move rfl) rfl ?_
      refine Tr.gq rfl rfl hT2 (QS.cvt32toI rfl Try.underlying23 Try.underlying3) rfl ?_
      refine Tr.gq rfl rfl hT2 (QS.move rfl) rfl ?_
      refine Tr.gq rfl rfl hT2 (QS.move rfl) rfl ?_
      first | refine Tr.gq rfl rfl hT2 (QS.idxN rfl rfl (by assumption) Try.underlying53 Try.sizeOf81 (by rfl) (by omega)) rfl ?_ | refine Tr.gq rfl rfl hT2 (QS.idxRowN rfl rfl (by repeat (first | exact List.Mem.head _ | apply List.Mem.tail)) Try.underlying53 Try.sizeOf81 (by rfl) (by omega)) rfl ?_ | refine Tr.gq rfl rfl hT2 (QS.idx rfl rfl (by assumption) Try.underlying53 Try.sizeOf81 (by rfl) (by omega)) rfl ?_ | refine Tr.gq rfl rfl hT2 (QS.idxRow rfl rfl (by repeat (first | exact List.Mem.head _ | apply List.Mem.tail)) Try.underlying53 Try.sizeOf81 (by rfl) (by omega)) rfl ?_
      first | refine Tr.gq rfl rfl hT2 (QS.elA rfl (by assumption) Try.isAgg81 Try.sizeOf81 (by rfl) (by omega)) rfl ?_ | refine Tr.gq rfl rfl hT2 (QS.elRA rfl (by repeat (first | exact List.Mem.head _ | apply List.Mem.tail)) Try.isAgg81 Try.sizeOf81 (by rfl) (by omega)) rfl ?_
      refine Tr.gq rfl rfl hT2 (QS.call rfl Try.call83 (fun w hw => refEnd_any (l.getD k default) w (hB.at (by omega)))) rfl ?_
      refine Tr.gq rfl rfl hT2 (QS.lss rfl rfl) rfl ?_
      refine Tr.q (QS.pickT rfl hT2 rfl) rfl ?_
      refine Tr.nil (Tr.thenN ?_)
      exact Tr.endX (Sub.cons rfl (Sub.dropN 9 (by kernel_rfl) rfl))
    · intro hF2
      refine Tr.gskip rfl rfl hF2 rfl ?_
      refine Tr.gskip rfl rfl hF2 rfl ?_
      refine Tr.gskip rfl rfl hF2 rfl ?_
      refine Tr.gskip rfl rfl hF2 rfl ?_
      refine Tr.gskip rfl rfl hF2 rfl ?_
      refine Tr.gskip rfl rfl hF2 rfl ?_
      refine Tr.gskip rfl rfl hF2 rfl ?_
      refine Tr.gskip rfl rfl hF2 rfl ?_
      refine Tr.q (QS.pickF rfl hF2 rfl) rfl ?_
      refine Tr.nil (Tr.thenN ?_)
      exact Tr.endX (Sub.cons rfl (Sub.dropN 9 (by kernel_rfl) rfl))
    refine Tr.nil ?_
    refine Tr.thenN ?_
    refine Tr.cond rfl (fun h3 => ?_) (fun h3 => ?_)
    · try simp only [bs] at h3
      refine Tr.seq ?_
      refine Tr.region ?_
      refine Tr.q (QS.move rfl) rfl ?_
      refine Tr.q (QS.assign rfl) rfl ?_
      refine Tr.nil ?_
      refine Tr.thenN ?_
      refine Tr.ret ?_
      refine Tr.inR ?_
      refine Tr.thenR ?_
      refine Tr.thenR ?_
      refine Tr.inR ?_
      refine Tr.thenR ?_
      refine Tr.ret1 Try.results52 rfl (fun w' hw => ?_)
      exact ⟨by unfold findP; rw [← hk2, drop_cons (k := k) (by omega), idxP, if_pos (by rw [inS_iff]; simp only [UInt32.le_iff_toNat_le] at *; omega)], hw.below (Bg.le.refl _)⟩
    · try simp only [bs] at h3
      refine Tr.skip ?_
      refine Tr.inN ?_
      refine Tr.thenN ?_
      refine Tr.region ?_
      refine Tr.q (QS.move rfl) rfl ?_
      first | refine Tr.q (QS.addI rfl rfl (by omega)) rfl ?_ | refine Tr.q (QS.add rfl rfl) rfl ?_
      refine Tr.q (QS.assign rfl) rfl ?_
      refine Tr.nil ?_
      refine Tr.thenN ?_
      apply Tr.again (k + 1)
      · exact rfl
      · exact (.cons (by first | rfl | exact lookI rfl (by omega) | exact lookI rfl (by simp) | exact lookB rfl (by simp)) Front.nil)
      · exact SubX.dropN 17 (by kernel_rfl) rfl
      · exact (by repeat' (first | exact Pick.nil _ | exact Del.here _ | apply Pick.cons | apply Del.there))
      · exact ⟨by omega, by rw [← hk2, drop_cons (k := k) (by omega), idxP, if_neg (by rw [inS_iff]; simp only [UInt32.le_iff_toNat_le] at *; omega)]⟩
      · exact (by (try dsimp only); omega)
  · try simp only [bs] at h1
    refine Tr.exit ?_
    refine Tr.thenE ?_
    refine Tr.thenE ?_
    refine Tr.inHit ?_
    refine Tr.thenN ?_
    refine Tr.seq ?_
    refine Tr.region ?_
    refine Tr.q (QS.assign rfl) rfl ?_
    refine Tr.nil ?_
    refine Tr.thenN ?_
    refine Tr.ret ?_
    refine Tr.ret1 Try.results52 rfl (fun w' hw => ?_)
    exact ⟨by unfold findP; rw [← hk2, List.drop_of_length_le (by omega)]; rfl, hw.below (Bg.le.refl _)⟩

set_option maxRecDepth 100000 in
set_option maxHeartbeats 2000000 in
theorem refInside_any (l : List SecV) (V : Value) (a : UInt32) (n : Int) (w : World) (hV : Sl (hp w) encSec l V) (hB : SecB l) :
    Calls Try.prog 74 #[V, .int .u32 a.toNat, .int .i64 n] w (fun e w' => e = .returned (.tuple #[.int .i64 (insideP l a n).1, .bool (insideP l a n).2]) ∧ Ext w w') := by
  have hV' : Sl (Bg.of w).blk encSec l V := hV
  have hlen := hB.1
  have hf := findP_lt (l := l) (a := a)
  have hadr := a.toNat_lt
  refine enter Try.func74 rfl Try.ntmps74 rfl ?_
  refine Tr.seq ?_
  refine Tr.region ?_
  refine Tr.q (QS.assign rfl) rfl ?_
  refine Tr.q (QS.assign rfl) rfl ?_
  refine Tr.nil ?_
  refine Tr.thenN ?_
  refine Tr.seq ?_
  refine Tr.region ?_
  refine Tr.q (QS.move rfl) rfl ?_
  refine Tr.q (QS.move rfl) rfl ?_
  refine Tr.q (QS.call rfl Try.call52 (fun w hw => refFind_any l V a w (hw.slF hV) hB)) rfl ?_
  refine Tr.q (QS.assign rfl) rfl ?_
  refine Tr.nil ?_
  refine Tr.thenN ?_
  refine Tr.seq ?_
  refine Tr.seq ?_
  refine Tr.region ?_
  refine Tr.q (QS.move rfl) rfl ?_
  refine Tr.q (QS.lss rfl rfl) rfl ?_
  refine Tr.nil ?_
  refine Tr.thenN ?_
  refine Tr.cond rfl (fun h1 => ?_) (fun h1 => ?_)
  · try simp only [bs] at h1
    refine Tr.seq ?_
    refine Tr.region ?_
    refine Tr.q (QS.assign rfl) rfl ?_
    refine Tr.q (QS.assign rfl) rfl ?_
    refine Tr.nil ?_
    refine Tr.thenN ?_
    refine Tr.ret ?_
    refine Tr.thenR ?_
    refine Tr.ret2 Try.results74 rfl rfl (fun w' hw => ?_)
    exact ⟨by rw [insideP, if_pos (by assumption)], hw.below (Bg.le.refl _)⟩
  · try simp only [bs] at h1
    refine Tr.skip ?_
    refine Tr.thenN ?_
    refine Tr.seq ?_
    have hen := endP_rng (l.getD (findP l a).toNat default)
    refine Tr.region ?_
    refine Tr.q (QS.move rfl) rfl ?_
    refine Tr.q (QS.move rfl) rfl ?_
    refine Tr.q (QS.move rfl) rfl ?_
    refine Tr.q (QS.move rfl) rfl ?_
    first | refine Tr.q (QS.idxN rfl rfl (by assumption) Try.underlying53 Try.sizeOf81 (by rfl) (by omega)) rfl ?_ | refine Tr.q (QS.idxRowN rfl rfl (by repeat (first | exact List.Mem.head _ | apply List.Mem.tail)) Try.underlying53 Try.sizeOf81 (by rfl) (by omega)) rfl ?_ | refine Tr.q (QS.idx rfl rfl (by assumption) Try.underlying53 Try.sizeOf81 (by rfl) (by omega)) rfl ?_ | refine Tr.q (QS.idxRow rfl rfl (by repeat (first | exact List.Mem.head _ | apply List.Mem.tail)) Try.underlying53 Try.sizeOf81 (by rfl) (by omega)) rfl ?_
    first | refine Tr.q (QS.elA rfl (by assumption) Try.isAgg81 Try.sizeOf81 (by rfl) (by omega)) rfl ?_ | refine Tr.q (QS.elRA rfl (by repeat (first | exact List.Mem.head _ | apply List.Mem.tail)) Try.isAgg81 Try.sizeOf81 (by rfl) (by omega)) rfl ?_
    refine Tr.q (QS.call rfl Try.call83 (fun w hw => refEnd_any (l.getD (findP l a).toNat default) w (hB.at (by omega)))) rfl ?_
    refine Tr.q (QS.move rfl) rfl ?_
    refine Tr.q (QS.cvt32toI rfl Try.underlying23 Try.underlying3) rfl ?_
    first | refine Tr.q (QS.subI rfl rfl (by omega)) rfl ?_ | refine Tr.q (QS.sub rfl rfl) rfl ?_
    refine Tr.q (QS.leq rfl rfl) rfl ?_
    refine Tr.q (QS.assign rfl) rfl ?_
    refine Tr.q (QS.assign rfl) rfl ?_
    refine Tr.nil ?_
    refine Tr.thenN ?_
    refine Tr.ret ?_
    refine Tr.ret2 Try.results74 rfl rfl (fun w' hw => ?_)
    exact ⟨by rw [insideP, if_neg (by assumption)], hw.below (Bg.le.refl _)⟩

set_option maxRecDepth 100000 in
set_option maxHeartbeats 2000000 in
theorem refRead_any (l : List SecV) (V : Value) (a : UInt32) (n : Int) (w : World) (hV : Sl (hp w) encSec l V) (hB : SecB l) (hD : DataIn (hp w) l) (hn : n ≤ 9223372036854775807) :
    Calls Try.prog 45 #[V, .int .u32 a.toNat, .int .i64 n] w (fun e w' => ∃ V', e = .returned (.tuple #[V', .int .i64 (readP l a n).2]) ∧ Ext w w' ∧ NewRow w w' 5 encU8 (readP l a n).1 V') := by
  have hV' : Sl (Bg.of w).blk encSec l V := hV
  have hlen := hB.1
  have hadr := a.toNat_lt
  have hf := findP_lt (l := l) (a := a)
  obtain ⟨ik, iy, hin⟩ : ∃ ik iy, insideP l a n = (ik, iy) := ⟨_, _, rfl⟩
  have hno := inside_no (l := l) (a := a) (n := n)
  have hye := inside_yes (l := l) (a := a) (n := n)
  have hplo := placeP_ok (l := l) (a := a) (n := n)
  rw [hin] at hno hye
  dsimp only at hno hye
  have di : ∀ w', Sl (hp w') encSec l V → Calls Try.prog 74 #[V, .int .u32 a.toNat, .int .i64 n] w' (fun e w'' => e = .returned (.tuple #[.int .i64 ik, .bool iy]) ∧ Ext w' w'') := fun w' h => by have q := refInside_any l V a n w' h hB; rw [hin] at q; exact q
  refine enter Try.func45 rfl Try.ntmps45 rfl ?_
  refine Tr.seq ?_
  refine Tr.region ?_
  refine Tr.q (QS.assign rfl) rfl ?_
  refine Tr.q (QS.assign rfl) rfl ?_
  refine Tr.nil ?_
  refine Tr.thenN ?_
  refine Tr.seq ?_
  refine Tr.seq ?_
  refine Tr.region ?_
  refine Tr.q (QS.move rfl) rfl ?_
  refine Tr.q (QS.lss rfl rfl) rfl ?_
  refine Tr.nil ?_
  refine Tr.thenN ?_
  refine Tr.cond rfl (fun h1 => ?_) (fun h1 => ?_)
  · try simp only [bs] at h1
    refine Tr.seq ?_
    refine Tr.region ?_
    refine Tr.q (QS.assign rfl) rfl ?_
    refine Tr.q (QS.assign rfl) rfl ?_
    refine Tr.nil ?_
    refine Tr.thenN ?_
    refine Tr.ret ?_
    refine Tr.thenR ?_
    refine Tr.ret2 Try.results45 rfl rfl (fun w' hw => ?_)
    exact ⟨_, by rw [readP, if_pos (by assumption)], hw.below (Bg.le.refl _), newRow_nil (by rw [readP, if_pos (by assumption)])⟩
  · try simp only [bs] at h1
    refine Tr.skip ?_
    refine Tr.thenN ?_
    refine Tr.seq ?_
    refine Tr.seq ?_
    refine Tr.region ?_
    refine Tr.q (QS.move rfl) rfl ?_
    refine Tr.q (QS.eql rfl rfl) rfl ?_
    refine Tr.nil ?_
    refine Tr.thenN ?_
    refine Tr.cond rfl (fun h2 => ?_) (fun h2 => ?_)
    · try simp only [bs] at h2
      refine Tr.seq ?_
      refine Tr.region ?_
      refine Tr.q (QS.assign rfl) rfl ?_
      refine Tr.q (QS.assign rfl) rfl ?_
      refine Tr.nil ?_
      refine Tr.thenN ?_
      refine Tr.ret ?_
      refine Tr.thenR ?_
      refine Tr.ret2 Try.results45 rfl rfl (fun w' hw => ?_)
      exact ⟨_, by rw [readP, if_neg (by assumption), if_pos (by assumption)], hw.below (Bg.le.refl _), newRow_nil (by rw [readP, if_neg (by assumption), if_pos (by assumption)])⟩
    · try simp only [bs] at h2
      refine Tr.skip ?_
      refine Tr.thenN ?_
      refine Tr.seq ?_
      refine Tr.region ?_
      refine Tr.q (QS.move rfl) rfl ?_
      refine Tr.q (QS.move rfl) rfl ?_
      refine Tr.q (QS.move rfl) rfl ?_
      refine Tr.q (QS.call rfl Try.call74 (fun w hw => di w (hw.slF hV))) rfl ?_
      refine Tr.q (QS.move rfl) rfl ?_
      refine Tr.q (QS.extract rfl rfl) rfl ?_
      refine Tr.q (QS.extract rfl rfl) rfl ?_
      refine Tr.q (QS.assign rfl) rfl ?_
      refine Tr.q (QS.assign rfl) rfl ?_
      refine Tr.nil ?_
      refine Tr.thenN ?_
      refine Tr.seq ?_
      refine Tr.seq ?_
      refine Tr.region ?_
      refine Tr.q (QS.move rfl) rfl ?_
      refine Tr.q (QS.not rfl) rfl ?_
      refine Tr.nil ?_
      refine Tr.thenN ?_
      refine Tr.cond rfl (fun h3 => ?_) (fun h3 => ?_)
      · try simp only [bs] at h3
        refine Tr.seq ?_
        refine Tr.region ?_
        refine Tr.q (QS.assign rfl) rfl ?_
        refine Tr.q (QS.assign rfl) rfl ?_
        refine Tr.nil ?_
        refine Tr.thenN ?_
        refine Tr.ret ?_
        refine Tr.thenR ?_
        refine Tr.ret2 Try.results45 rfl rfl (fun w' hw => ?_)
        have hno' := hno (by assumption)
        exact ⟨_, by rw [readP, if_neg (by assumption), if_neg (by assumption), hno', if_pos (by decide)], hw.below (Bg.le.refl _), newRow_nil (by rw [readP, if_neg (by assumption), if_neg (by assumption), hno', if_pos (by decide)])⟩
      · try simp only [bs] at h3
        refine Tr.skip ?_
        refine Tr.thenN ?_
        refine Tr.seq ?_
        obtain ⟨y1, y2, y3⟩ := hye (by simp_all)
        subst y2
        rw [y3] at hplo
        obtain ⟨p1, p2, p3, p4, p5⟩ := hplo rfl
        dsimp only at p1 p2 p3 p4 p5
        have hdl := hB.at (k := (findP l a).toNat) (by omega)
        have hDk : Sl (Bg.of w).blk encU8 (l.getD (findP l a).toNat default).data (.slice (l.getD (findP l a).toNat default).dp (l.getD (findP l a).toNat default).data.length (l.getD (findP l a).toNat default).dc) := hD _ (mem_getD (by omega))
        have hadr2 := (l.getD (findP l a).toNat default).addr.toNat_lt
        obtain ⟨off, hoff⟩ : ∃ off : Nat, (off : Int) = (a.toNat : Int) - (l.getD (findP l a).toNat default).addr.toNat := ⟨((a.toNat : Int) - (l.getD (findP l a).toNat default).addr.toNat).toNat, by omega⟩
        refine Tr.region ?_
        refine Tr.q (QS.assign rfl) rfl ?_
        refine Tr.nil ?_
        refine Tr.thenN ?_
        refine Tr.seq ?_
        refine Tr.seq ?_
        refine Tr.region ?_
        refine Tr.q (QS.assign rfl) rfl ?_
        refine Tr.nil ?_
        refine Tr.thenN ?_
        refine Tr.block ?_
        refine Tr.ownNil 5 encU8 ?_
        refine Tr.loop (ι := Nat × Value) (fun ⟨k, V'⟩ => (k : Int) ≤ n) (fun _ => _) (fun ⟨k, V'⟩ => [rowE V' 5 encU8 (((l.getD (findP l a).toNat default).data.drop off).take k)]) (fun ⟨k, V'⟩ => [(11, .int .i64 (k : Nat)), (10, V')]) (fun ⟨k, V'⟩ => n.toNat - k) (0, _) (by show ((0 : Nat) : Int) ≤ n; omega) (.cons (by first | rfl | exact lookI rfl (by omega) | exact lookI rfl (by simp) | exact lookB rfl (by simp)) (.cons (by first | rfl | exact lookI rfl (by omega) | exact lookI rfl (by simp) | exact lookB rfl (by simp)) Front.nil)) (by repeat' (first | exact Pick.nil _ | exact Del.here _ | apply Pick.cons | apply Del.there)) rfl (fun i hi m hm => ?_)
        obtain ⟨k, V'⟩ := i
        replace hi : (k : Int) ≤ n := hi
        replace hm : m = n.toNat - k := hm
        change Tr _ _ [rowE V' 5 encU8 (((l.getD (findP l a).toNat default).data.drop off).take k)] ([(11, .int .i64 (k : Nat)), (10, V')] ++ _) _
        refine Tr.seq ?_
        refine Tr.seq ?_
        refine Tr.region ?_
        refine Tr.q (QS.move rfl) rfl ?_
        refine Tr.q (QS.move rfl) rfl ?_
        refine Tr.q (QS.lss rfl rfl) rfl ?_
        refine Tr.nil ?_
        refine Tr.thenN ?_
        refine Tr.cond rfl (fun h4 => ?_) (fun h4 => ?_)
        · try simp only [bs] at h4
          refine Tr.skip ?_
          refine Tr.thenN ?_
          refine Tr.seq ?_
          refine Tr.block ?_
          refine Tr.regionT 1 19 HLF.mixed (by kernel_rfl) (panicIn (panicThen (panicThen (panicIn (panicThen panicBody))))) ?_
          refine TrQ.pureMove rfl rfl ?_
          refine TrQ.pureNil ?_
          refine TrQ.q (QS.move rfl) rfl ?_
          refine TrQ.q (QS.move rfl) rfl ?_
          first | refine TrQ.q (QS.idxN rfl rfl (by assumption) Try.underlying53 Try.sizeOf81 (by rfl) (by omega)) rfl ?_ | refine TrQ.q (QS.idxRowN rfl rfl (by repeat (first | exact List.Mem.head _ | apply List.Mem.tail)) Try.underlying53 Try.sizeOf81 (by rfl) (by omega)) rfl ?_ | refine TrQ.q (QS.idx rfl rfl (by assumption) Try.underlying53 Try.sizeOf81 (by rfl) (by omega)) rfl ?_ | refine TrQ.q (QS.idxRow rfl rfl (by repeat (first | exact List.Mem.head _ | apply List.Mem.tail)) Try.underlying53 Try.sizeOf81 (by rfl) (by omega)) rfl ?_
          refine TrQ.q (QS.fieldAddr (off := 2) (ft := 22) rfl Try.underlying81 rfl rfl Try.sizeOf22 (by decide)) rfl ?_
          first | refine TrQ.q (QS.elF rfl (by assumption) Try.isAgg22 (by omega) (by rfl)) rfl ?_ | refine TrQ.q (QS.elRF rfl (by repeat (first | exact List.Mem.head _ | apply List.Mem.tail)) Try.isAgg22 (by omega) (by rfl)) rfl ?_
          refine TrQ.q (QS.move rfl) rfl ?_
          refine TrQ.q (QS.cvt32toI rfl Try.underlying23 Try.underlying3) rfl ?_
          refine TrQ.q (QS.move rfl) rfl ?_
          refine TrQ.q (QS.move rfl) rfl ?_
          first | refine TrQ.q (QS.idxN rfl rfl (by assumption) Try.underlying53 Try.sizeOf81 (by rfl) (by omega)) rfl ?_ | refine TrQ.q (QS.idxRowN rfl rfl (by repeat (first | exact List.Mem.head _ | apply List.Mem.tail)) Try.underlying53 Try.sizeOf81 (by rfl) (by omega)) rfl ?_ | refine TrQ.q (QS.idx rfl rfl (by assumption) Try.underlying53 Try.sizeOf81 (by rfl) (by omega)) rfl ?_ | refine TrQ.q (QS.idxRow rfl rfl (by repeat (first | exact List.Mem.head _ | apply List.Mem.tail)) Try.underlying53 Try.sizeOf81 (by rfl) (by omega)) rfl ?_
          refine TrQ.q (QS.fieldAddr (off := 1) (ft := 23) rfl Try.underlying81 rfl rfl Try.sizeOf23 (by decide)) rfl ?_
          first | refine TrQ.q (QS.elF rfl (by assumption) Try.isAgg23 (by omega) (by rfl)) rfl ?_ | refine TrQ.q (QS.elRF rfl (by repeat (first | exact List.Mem.head _ | apply List.Mem.tail)) Try.isAgg23 (by omega) (by rfl)) rfl ?_
          refine TrQ.q (QS.cvt32toI rfl Try.underlying23 Try.underlying3) rfl ?_
          first | refine TrQ.q (QS.subI rfl rfl (by omega)) rfl ?_ | refine TrQ.q (QS.sub rfl rfl) rfl ?_
          refine TrQ.q (QS.move rfl) rfl ?_
          first | refine TrQ.q (QS.addI rfl rfl (by omega)) rfl ?_ | refine TrQ.q (QS.add rfl rfl) rfl ?_
          first | refine TrQ.q (QS.idxN rfl rfl (by assumption) Try.underlying22 Try.sizeOf5 (by rfl) (by omega)) rfl ?_ | refine TrQ.q (QS.idxRowN rfl rfl (by repeat (first | exact List.Mem.head _ | apply List.Mem.tail)) Try.underlying22 Try.sizeOf5 (by rfl) (by omega)) rfl ?_ | refine TrQ.q (QS.idx rfl rfl (by assumption) Try.underlying22 Try.sizeOf5 (by rfl) (by omega)) rfl ?_ | refine TrQ.q (QS.idxRow rfl rfl (by repeat (first | exact List.Mem.head _ | apply List.Mem.tail)) Try.underlying22 Try.sizeOf5 (by rfl) (by omega)) rfl ?_
          first | refine TrQ.q (QS.el1 rfl (by assumption) Try.isAgg5 (by omega) (by rfl)) rfl ?_ | refine TrQ.q (QS.elR1 rfl (by repeat (first | exact List.Mem.head _ | apply List.Mem.tail)) Try.isAgg5 (by omega) (by rfl)) rfl ?_
          refine TrQ.nil ?_
          refine Tr.lit1 (E := encU8) _ rfl rfl Try.underlying22 Try.sizeOf5 Try.zeroValue5 (by rfl) (by rfl) rfl (fun V5 => ?_)
          first | refine Tr.append1 rfl rfl (by repeat (first | exact Del.here _ | apply Del.there)) (by repeat (first | exact Del.here _ | apply Del.there)) Try.underlying22 HLF.info5 (by rfl) (by rfl) (by (try simp only [List.length_cons, List.length_nil, List.length_append, List.length_take]); omega) (by unfold maxLen; (try simp only [List.length_cons, List.length_nil, List.length_append, List.length_take]); omega) rfl (fun V6 => ?_) | refine Tr.ownNil _ _ (Tr.append1 rfl rfl (by repeat (first | exact Del.here _ | apply Del.there)) (by repeat (first | exact Del.here _ | apply Del.there)) Try.underlying22 HLF.info5 (by rfl) (by rfl) (by (try simp only [List.length_cons, List.length_nil, List.length_append, List.length_take]); omega) (by unfold maxLen; (try simp only [List.length_cons, List.length_nil, List.length_append, List.length_take]); omega) rfl (fun V6 => ?_)) | refine Tr.appendOf rfl rfl (by repeat (first | exact Del.here _ | apply Del.there)) (fun w hw => hw.slF (by assumption)) Try.underlying22 HLF.info5 (by rfl) (by rfl) (by (try simp only [List.length_cons, List.length_nil, List.length_append, List.length_take]); omega) (by unfold maxLen; (try simp only [List.length_cons, List.length_nil, List.length_append, List.length_take]); omega) rfl (fun V6 => ?_) | refine Tr.ownNil _ _ (Tr.appendOf rfl rfl (by repeat (first | exact Del.here _ | apply Del.there)) (fun w hw => hw.slF (by assumption)) Try.underlying22 HLF.info5 (by rfl) (by rfl) (by (try simp only [List.length_cons, List.length_nil, List.length_append, List.length_take]); omega) (by unfold maxLen; (try simp only [List.length_cons, List.length_nil, List.length_append, List.length_take]); omega) rfl (fun V6 => ?_)) | refine Tr.appendOf rfl rfl (by repeat (first | exact Del.here _ | apply Del.there)) (fun w hw => hw.row (by repeat (first | exact List.Mem.head _ | apply List.Mem.tail))) Try.underlying22 HLF.info5 (by rfl) (by rfl) (by (try simp only [List.length_cons, List.length_nil, List.length_append, List.length_take]); omega) (by unfold maxLen; (try simp only [List.length_cons, List.length_nil, List.length_append, List.length_take]); omega) rfl (fun V6 => ?_)
          refine Tr.q (QS.assign rfl) rfl ?_
          refine Tr.nil ?_
          refine Tr.inN ?_
          refine Tr.thenN ?_
          refine Tr.region ?_
          refine Tr.q (QS.move rfl) rfl ?_
          first | refine Tr.q (QS.addI rfl rfl (by omega)) rfl ?_ | refine Tr.q (QS.add rfl rfl) rfl ?_
          refine Tr.q (QS.assign rfl) rfl ?_
          refine Tr.nil ?_
          refine Tr.thenN ?_
          have hst := take_succ (l := (l.getD (findP l a).toNat default).data.drop off) (k := k) (by rw [List.length_drop]; omega)
          have hgd : ((l.getD (findP l a).toNat default).data.drop off).getD k default = (l.getD (findP l a).toNat default).data.getD ((a.toNat : Int) - (l.getD (findP l a).toNat default).addr.toNat + k).toNat default := by rw [show ((a.toNat : Int) - (l.getD (findP l a).toNat default).addr.toNat + k).toNat = off + k by omega]; simp [List.getD_eq_getElem?_getD]
          rw [hgd] at hst
          rw [← hst]
          apply Tr.again (k + 1, _)
          · exact rfl
          · exact (.cons (by first | rfl | exact lookI rfl (by omega) | exact lookI rfl (by simp) | exact lookB rfl (by simp)) (.cons (by first | rfl | exact lookI rfl (by omega) | exact lookI rfl (by simp) | exact lookB rfl (by simp)) Front.nil))
          · exact SubX.dropN 30 (by kernel_rfl) rfl
          · exact (by repeat' (first | exact Pick.nil _ | exact Del.here _ | apply Pick.cons | apply Del.there))
          · exact (by show ((k + 1 : Nat) : Int) ≤ n; omega)
          · exact (by (try dsimp only); omega)
        · try simp only [bs] at h4
          refine Tr.exit ?_
          refine Tr.thenE ?_
          refine Tr.thenE ?_
          refine Tr.inHit ?_
          refine Tr.thenN ?_
          refine Tr.seq ?_
          refine Tr.region ?_
          refine Tr.q (QS.move rfl) rfl ?_
          refine Tr.q (QS.assign rfl) rfl ?_
          refine Tr.q (QS.assign rfl) rfl ?_
          refine Tr.nil ?_
          refine Tr.thenN ?_
          refine Tr.ret ?_
          refine Tr.ret2 Try.results45 rfl rfl (fun w' hw => ?_)
          have hrd : readP l a n = (((l.getD (findP l a).toNat default).data.drop off).take k, 0) := by rw [readP, if_neg (by assumption), if_neg (by assumption), y3, if_neg (by simp)]; dsimp only; rw [List.drop_take, show ((a.toNat : Int) - (l.getD (findP l a).toNat default).addr.toNat).toNat = off by omega, show ((a.toNat : Int) - (l.getD (findP l a).toNat default).addr.toNat + n).toNat - off = k by omega]
          exact ⟨_, by rw [hrd], hw.below (Bg.le.refl _), by rw [hrd]; exact hw.new (.head _)⟩

set_option maxRecDepth 100000 in
set_option maxHeartbeats 2000000 in
theorem refCopy_any (s : SecV) (w : World) (hs : s.data.length ≤ 200000) (hd : Sl (hp w) encU8 s.data (.slice s.dp s.data.length s.dc)) :
    Calls Try.prog 89 #[.agg (encSec.enc s).toArray] w (fun e w' => ∃ i : SecV, e = .returned (.agg (encSec.enc i).toArray) ∧ Ext w w' ∧ NewEnts w w' [dRow 5 i] ∧ i.pl = s.pl) := by
  have hd' : Sl (Bg.of w).blk encU8 s.data (.slice s.dp s.data.length s.dc) := hd
  refine enter Try.func89 rfl Try.ntmps89 rfl ?_
  refine Tr.seq ?_
  refine Tr.region ?_
  refine Tr.box rfl rfl rfl (fun b1 => ?_)
  refine Tr.alloc Try.zeroValue81 rfl rfl (fun b2 => ?_)
  refine Tr.nil ?_
  refine Tr.thenN ?_
  refine Tr.seq ?_
  refine Tr.region ?_
  refine Tr.q (QS.assign rfl) rfl ?_
  refine Tr.nil ?_
  refine Tr.thenN ?_
  refine Tr.seq ?_
  refine Tr.region ?_
  refine Tr.q (QS.move rfl) rfl ?_
  refine Tr.q (QS.fieldAddr (off := 2) (ft := 22) rfl Try.underlying81 rfl rfl Try.sizeOf22 (by decide)) rfl ?_
  refine Tr.q (QS.lV rfl Try.isAgg22) rfl ?_
  refine Tr.ownNil _ _ (Tr.appendOf rfl rfl (by repeat (first | exact Del.here _ | apply Del.there)) (fun w hw => hw.slF (by assumption)) Try.underlying22 HLF.info5 (by rfl) (by rfl) (by (try simp only [List.length_cons, List.length_nil, List.length_append, List.length_take]); omega) (by unfold maxLen; (try simp only [List.length_cons, List.length_nil, List.length_append, List.length_take]); omega) rfl (fun V3 => ?_))
  rw [List.nil_append]
  refine Tr.rowShape (.head _) (fun pa pc hpv => ?_)
  subst hpv
  refine Tr.q (QS.assign rfl) rfl ?_
  refine Tr.nil ?_
  refine Tr.thenN ?_
  refine Tr.seq ?_
  refine Tr.region ?_
  refine Tr.q (QS.move rfl) rfl ?_
  refine Tr.q (QS.fieldAddr (off := 2) (ft := 22) rfl Try.underlying81 rfl rfl Try.sizeOf22 (by decide)) rfl ?_
  refine Tr.storeV (cs' := [_, _, _, _, _]) rfl rfl Try.sizeOf22 (by repeat (first | exact Put.here _ | apply Put.there)) rfl (by rfl) (by first | exact Nat.le_of_ble_eq_true rfl | simp) (by first | exact List.all_eq_true.1 rfl | (intro u hu; simp [Value.cells] at hu; simp_all [Value.oneCell'])) rfl ?_
  refine Tr.nil ?_
  refine Tr.thenN ?_
  refine Tr.seq ?_
  refine Tr.region ?_
  refine Tr.q (QS.lW rfl Try.isAgg81 Try.sizeOf81) rfl ?_
  refine Tr.storeW rfl rfl Try.sizeOf81 (by repeat (first | exact Put.here _ | apply Put.there)) (by rfl) (by rfl) (by first | exact List.all_eq_true.1 rfl | exact Enc.one _ _ | exact Enc.one encSec _) rfl ?_
  refine Tr.nil ?_
  refine Tr.thenN ?_
  refine Tr.ret ?_
  refine Tr.retC1 Try.results89 rfl (by repeat (first | exact List.Mem.head _ | apply List.Mem.tail)) Try.isAgg81 Try.sizeOf81 (by rfl) (fun w' hw => ?_)
  exact ⟨{ s with dp := pa, dc := pc }, rfl, hw.below (Bg.le.refl _), hw.ents (Bg.le.refl _) (by repeat' (first | exact Pick.nil _ | exact Del.here _ | apply Pick.cons | apply Del.there)), rfl⟩

set_option maxRecDepth 100000 in
set_option maxHeartbeats 2000000 in
theorem refCopies_any (l : List SecV) (V : Value) (w : World) (hV : Sl (hp w) encSec l V) (hB : SecB l) (hD : DataIn (hp w) l) :
    Calls Try.prog 76 #[V] w (fun e w' => ∃ i : Value × List SecV, e = .returned i.1 ∧ Ext w w' ∧ NewEnts w w' (secEnts 81 5 i.1 i.2) ∧ i.2.map SecV.pl = l.map SecV.pl) := by
  have hV' : Sl (Bg.of w).blk encSec l V := hV
  have hlen := hB.1
  refine enter Try.func76 rfl Try.ntmps76 rfl ?_
  refine Tr.seq ?_
  refine Tr.region ?_
  refine Tr.q (QS.assign rfl) rfl ?_
  refine Tr.nil ?_
  refine Tr.thenN ?_
  refine Tr.seq ?_
  refine Tr.region ?_
  refine Tr.q (QS.assign rfl) rfl ?_
  refine Tr.nil ?_
  refine Tr.thenN ?_
  refine Tr.seq ?_
  refine Tr.seq ?_
  refine Tr.region ?_
  refine Tr.q (QS.assign rfl) rfl ?_
  refine Tr.nil ?_
  refine Tr.thenN ?_
  refine Tr.block ?_
  refine Tr.ownNil 81 encSec ?_
  refine Tr.loop (ι := Nat × Value × List SecV) (fun ⟨k, V', xs⟩ => k ≤ l.length ∧ xs.length = k ∧ xs.map SecV.pl = (l.take k).map SecV.pl) (fun _ => _) (fun ⟨k, V', xs⟩ => (rowE V' 81 encSec xs :: xs.reverse.map (dRow 5))) (fun ⟨k, V', xs⟩ => [(4, .int .i64 (k : Nat)), (3, V')]) (fun ⟨k, V', xs⟩ => l.length - k) (0, _, []) ⟨Nat.zero_le _, rfl, rfl⟩ (.cons (by first | rfl | exact lookI rfl (by omega) | exact lookI rfl (by simp) | exact lookB rfl (by simp)) (.cons (by first | rfl | exact lookI rfl (by omega) | exact lookI rfl (by simp) | exact lookB rfl (by simp)) Front.nil)) (by repeat' (first | exact Pick.nil _ | exact Del.here _ | apply Pick.cons | apply Del.there)) rfl (fun i hi m hm => ?_)
  obtain ⟨k, V', xs⟩ := i
  replace hi : k ≤ l.length ∧ xs.length = k ∧ xs.map SecV.pl = (l.take k).map SecV.pl := hi
  replace hm : m = l.length - k := hm
  change Tr _ _ (rowE V' 81 encSec xs :: xs.reverse.map (dRow 5)) ([(4, .int .i64 (k : Nat)), (3, V')] ++ _) _
  obtain ⟨hk1, hk2, hk3⟩ := hi
  refine Tr.seq ?_
  refine Tr.seq ?_
  refine Tr.region ?_
  refine Tr.q (QS.move rfl) rfl ?_
  refine Tr.q (QS.move rfl) rfl ?_
  first | refine Tr.q (QS.len rfl (by assumption) Try.underlying53) rfl ?_ | refine Tr.q (QS.lenRow rfl (by repeat (first | exact List.Mem.head _ | apply List.Mem.tail)) Try.underlying53) rfl ?_ | refine Tr.q (QS.lenNil rfl Try.underlying53) rfl ?_
  refine Tr.q (QS.lss rfl rfl) rfl ?_
  refine Tr.nil ?_
  refine Tr.thenN ?_
  refine Tr.cond rfl (fun h1 => ?_) (fun h1 => ?_)
  · try simp only [bs] at h1
    refine Tr.skip ?_
    refine Tr.thenN ?_
    refine Tr.seq ?_
    refine Tr.block ?_
    refine Tr.region ?_
    refine Tr.q (QS.move rfl) rfl ?_
    refine Tr.q (QS.move rfl) rfl ?_
    refine Tr.q (QS.move rfl) rfl ?_
    first | refine Tr.q (QS.idxN rfl rfl (by assumption) Try.underlying53 Try.sizeOf81 (by rfl) (by omega)) rfl ?_ | refine Tr.q (QS.idxRowN rfl rfl (by repeat (first | exact List.Mem.head _ | apply List.Mem.tail)) Try.underlying53 Try.sizeOf81 (by rfl) (by omega)) rfl ?_ | refine Tr.q (QS.idx rfl rfl (by assumption) Try.underlying53 Try.sizeOf81 (by rfl) (by omega)) rfl ?_ | refine Tr.q (QS.idxRow rfl rfl (by repeat (first | exact List.Mem.head _ | apply List.Mem.tail)) Try.underlying53 Try.sizeOf81 (by rfl) (by omega)) rfl ?_
    first | refine Tr.q (QS.elA rfl (by assumption) Try.isAgg81 Try.sizeOf81 (by rfl) (by omega)) rfl ?_ | refine Tr.q (QS.elRA rfl (by repeat (first | exact List.Mem.head _ | apply List.Mem.tail)) Try.isAgg81 Try.sizeOf81 (by rfl) (by omega)) rfl ?_
    refine Tr.callEnts (fun s' : SecV => .agg (encSec.enc s').toArray) (fun s' => [dRow 5 s']) (ok := fun s' => s'.pl = (l.getD k default).pl) rfl Try.call89 (fun w hw => refCopy_any (l.getD k default) w (hB.at (by omega)) ((hD.mono hw.bg) _ (mem_getD (by omega)))) rfl (fun s' hs' => ?_)
    rw [List.singleton_append]
    refine Tr.lit1 (E := encSec) s' rfl rfl Try.underlying53 Try.sizeOf81 Try.zeroValue81 (by rfl) (by rfl) rfl (fun V2 => ?_)
    refine Tr.append1 rfl rfl (by repeat (first | exact Del.here _ | apply Del.there)) (by repeat (first | exact Del.here _ | apply Del.there)) Try.underlying53 HLF.info81 (by rfl) (by rfl) (by (try simp only [List.length_cons, List.length_nil, List.length_append, List.length_take]); omega) (by unfold maxLen; (try simp only [List.length_cons, List.length_nil, List.length_append, List.length_take]); omega) rfl (fun V3 => ?_)
    refine Tr.q (QS.assign rfl) rfl ?_
    refine Tr.nil ?_
    refine Tr.inN ?_
    refine Tr.thenN ?_
    refine Tr.region ?_
    refine Tr.q (QS.move rfl) rfl ?_
    first | refine Tr.q (QS.addI rfl rfl (by omega)) rfl ?_ | refine Tr.q (QS.add rfl rfl) rfl ?_
    refine Tr.q (QS.assign rfl) rfl ?_
    refine Tr.nil ?_
    refine Tr.thenN ?_
    apply Tr.again (k + 1, _, xs ++ [s'])
    · exact rfl
    · exact (.cons (by first | rfl | exact lookI rfl (by omega) | exact lookI rfl (by simp) | exact lookB rfl (by simp)) (.cons (by first | rfl | exact lookI rfl (by omega) | exact lookI rfl (by simp) | exact lookB rfl (by simp)) Front.nil))
    · exact SubX.dropN 18 (by kernel_rfl) rfl
    · exact (by show Pick _ (rowE _ _ _ _ :: (xs ++ [s']).reverse.map (dRow 5)); rw [List.reverse_append]; exact Pick.refl _)
    · exact ⟨by omega, by simp [hk2], by rw [List.map_append, hk3, take_succ (by omega), List.map_append, List.map_cons, hs']; rfl⟩
    · exact (by (try dsimp only); omega)
  · try simp only [bs] at h1
    refine Tr.exit ?_
    refine Tr.thenE ?_
    refine Tr.thenE ?_
    refine Tr.inHit ?_
    refine Tr.thenN ?_
    refine Tr.seq ?_
    refine Tr.region ?_
    refine Tr.q (QS.move rfl) rfl ?_
    refine Tr.q (QS.assign rfl) rfl ?_
    refine Tr.nil ?_
    refine Tr.thenN ?_
    refine Tr.ret ?_
    refine Tr.ret1 Try.results76 rfl (fun w' hw => ?_)
    exact ⟨(V', xs), rfl, hw.below (Bg.le.refl _), hw.ents (Bg.le.refl _) (Pick.refl _), by rw [hk3, List.take_of_length_le (by omega)]⟩

set_option maxRecDepth 100000 in
set_option maxHeartbeats 2000000 in
theorem refWrite_any (l : List SecV) (V : Value) (a : UInt32) (b : List UInt8) (W : Value) (w : World) (hV : Sl (hp w) encSec l V) (hB : SecB l) (hD : DataIn (hp w) l) (hW : Sl (hp w) encU8 b W) (hb : b.length ≤ 1000000) :
    Calls Try.prog 47 #[V, .int .u32 a.toNat, W] w (fun e w' => ∃ V', e = .returned (.tuple #[V', .int .i64 (writeP l a b).2]) ∧ Ext w w' ∧ SecsAt (newHp w w') (writeP l a b).1 V') := by
  have hV' : Sl (Bg.of w).blk encSec l V := hV
  have hlen := hB.1
  have hW' : Sl (Bg.of w).blk encU8 b W := hW
  have hadr := a.toNat_lt
  have hf := findP_lt (l := l) (a := a)
  obtain ⟨ik, iy, hin⟩ : ∃ ik iy, insideP l a b.length = (ik, iy) := ⟨_, _, rfl⟩
  have hno := inside_no (l := l) (a := a) (n := b.length)
  have hye := inside_yes (l := l) (a := a) (n := b.length)
  have hplo := placeP_ok (l := l) (a := a) (n := b.length)
  rw [hin] at hno hye
  dsimp only at hno hye
  have di : ∀ w', Sl (hp w') encSec l V → Calls Try.prog 74 #[V, .int .u32 a.toNat, .int .i64 (b.length : Nat)] w' (fun e w'' => e = .returned (.tuple #[.int .i64 ik, .bool iy]) ∧ Ext w' w'') := fun w' h => by have q := refInside_any l V a b.length w' h hB; rw [hin] at q; exact q
  refine enter Try.func47 rfl Try.ntmps47 rfl ?_
  refine Tr.seq ?_
  refine Tr.region ?_
  refine Tr.q (QS.assign rfl) rfl ?_
  refine Tr.q (QS.assign rfl) rfl ?_
  refine Tr.nil ?_
  refine Tr.thenN ?_
  refine Tr.seq ?_
  refine Tr.seq ?_
  refine Tr.region ?_
  refine Tr.q (QS.move rfl) rfl ?_
  first | refine Tr.q (QS.len rfl (by assumption) Try.underlying22) rfl ?_ | refine Tr.q (QS.lenRow rfl (by repeat (first | exact List.Mem.head _ | apply List.Mem.tail)) Try.underlying22) rfl ?_ | refine Tr.q (QS.lenNil rfl Try.underlying22) rfl ?_
  refine Tr.q (QS.eql rfl rfl) rfl ?_
  refine Tr.nil ?_
  refine Tr.thenN ?_
  refine Tr.cond rfl (fun h1 => ?_) (fun h1 => ?_)
  · try simp only [bs] at h1
    refine Tr.seq ?_
    refine Tr.region ?_
    refine Tr.q (QS.move rfl) rfl ?_
    refine Tr.callEnts (fun i : Value × List SecV => i.1) (fun i => secEnts 81 5 i.1 i.2) (ok := fun i => i.2.map SecV.pl = l.map SecV.pl) rfl Try.call76 (fun w hw => refCopies_any l V w (hw.slF hV) hB (hD.mono hw.bg)) rfl (fun i hi => ?_)
    refine Tr.q (QS.assign rfl) rfl ?_
    refine Tr.q (QS.assign rfl) rfl ?_
    refine Tr.nil ?_
    refine Tr.thenN ?_
    refine Tr.ret ?_
    refine Tr.thenR ?_
    refine Tr.ret2 Try.results47 rfl rfl (fun w' hw => ?_)
    obtain ⟨Vo, xs⟩ := i
    replace hi : xs.map SecV.pl = l.map SecV.pl := hi
    exact ⟨_, by rw [writeP, if_pos (by omega)], hw.below (Bg.le.refl _), by rw [writeP, if_pos (by omega), ← hi]; rw [List.append_nil] at hw; exact (hw.ents (Bg.le.refl _) (Pick.refl _)).secs⟩
  · try simp only [bs] at h1
    refine Tr.skip ?_
    refine Tr.thenN ?_
    refine Tr.seq ?_
    refine Tr.region ?_
    refine Tr.q (QS.move rfl) rfl ?_
    refine Tr.q (QS.move rfl) rfl ?_
    refine Tr.q (QS.move rfl) rfl ?_
    first | refine Tr.q (QS.len rfl (by assumption) Try.underlying22) rfl ?_ | refine Tr.q (QS.lenRow rfl (by repeat (first | exact List.Mem.head _ | apply List.Mem.tail)) Try.underlying22) rfl ?_ | refine Tr.q (QS.lenNil rfl Try.underlying22) rfl ?_
    refine Tr.q (QS.call rfl Try.call74 (fun w hw => di w (hw.slF hV))) rfl ?_
    refine Tr.q (QS.move rfl) rfl ?_
    refine Tr.q (QS.extract rfl rfl) rfl ?_
    refine Tr.q (QS.extract rfl rfl) rfl ?_
    refine Tr.q (QS.assign rfl) rfl ?_
    refine Tr.q (QS.assign rfl) rfl ?_
    refine Tr.nil ?_
    refine Tr.thenN ?_
    refine Tr.seq ?_
    refine Tr.seq ?_
    refine Tr.region ?_
    refine Tr.q (QS.move rfl) rfl ?_
    refine Tr.q (QS.not rfl) rfl ?_
    refine Tr.nil ?_
    refine Tr.thenN ?_
    refine Tr.cond rfl (fun h2 => ?_) (fun h2 => ?_)
    · try simp only [bs] at h2
      refine Tr.seq ?_
      refine Tr.region ?_
      refine Tr.q (QS.assign rfl) rfl ?_
      refine Tr.q (QS.assign rfl) rfl ?_
      refine Tr.nil ?_
      refine Tr.thenN ?_
      refine Tr.ret ?_
      refine Tr.thenR ?_
      refine Tr.ret2 Try.results47 rfl rfl (fun w' hw => ?_)
      have hno' := hno (by assumption)
      exact ⟨_, by rw [writeP, if_neg (by omega), hno', if_pos (by decide)], hw.below (Bg.le.refl _), by rw [writeP, if_neg (by omega), hno', if_pos (by decide)]; exact SecsAt.nil⟩
    · try simp only [bs] at h2
      refine Tr.skip ?_
      refine Tr.thenN ?_
      refine Tr.seq ?_
      refine Tr.seq ?_
      obtain ⟨y1, y2, y3⟩ := hye (by simp_all)
      subst y2
      rw [y3] at hplo
      obtain ⟨p1, p2, p3, p4, p5⟩ := hplo rfl
      dsimp only at p1 p2 p3 p4 p5
      have hdl := hB.at (k := (findP l a).toNat) (by omega)
      have hadr2 := (l.getD (findP l a).toNat default).addr.toNat_lt
      obtain ⟨off, hoff⟩ : ∃ off : Nat, (off : Int) = (a.toNat : Int) - (l.getD (findP l a).toNat default).addr.toNat := ⟨((a.toNat : Int) - (l.getD (findP l a).toNat default).addr.toNat).toNat, by omega⟩
      refine Tr.region ?_
      refine Tr.q (QS.move rfl) rfl ?_
      refine Tr.q (QS.move rfl) rfl ?_
      first | refine Tr.q (QS.idxN rfl rfl (by assumption) Try.underlying53 Try.sizeOf81 (by rfl) (by omega)) rfl ?_ | refine Tr.q (QS.idxRowN rfl rfl (by repeat (first | exact List.Mem.head _ | apply List.Mem.tail)) Try.underlying53 Try.sizeOf81 (by rfl) (by omega)) rfl ?_ | refine Tr.q (QS.idx rfl rfl (by assumption) Try.underlying53 Try.sizeOf81 (by rfl) (by omega)) rfl ?_ | refine Tr.q (QS.idxRow rfl rfl (by repeat (first | exact List.Mem.head _ | apply List.Mem.tail)) Try.underlying53 Try.sizeOf81 (by rfl) (by omega)) rfl ?_
      refine Tr.q (QS.fieldAddr (off := 3) (ft := 4) rfl Try.underlying81 rfl rfl Try.sizeOf4 (by decide)) rfl ?_
      first | refine Tr.q (QS.elF rfl (by assumption) Try.isAgg4 (by omega) (by rfl)) rfl ?_ | refine Tr.q (QS.elRF rfl (by repeat (first | exact List.Mem.head _ | apply List.Mem.tail)) Try.isAgg4 (by omega) (by rfl)) rfl ?_
      refine Tr.q (QS.not rfl) rfl ?_
      refine Tr.nil ?_
      refine Tr.thenN ?_
      refine Tr.cond rfl (fun h3 => ?_) (fun h3 => ?_)
      · try simp only [bs] at h3
        refine Tr.seq ?_
        refine Tr.region ?_
        refine Tr.q (QS.assign rfl) rfl ?_
        refine Tr.q (QS.assign rfl) rfl ?_
        refine Tr.nil ?_
        refine Tr.thenN ?_
        refine Tr.ret ?_
        refine Tr.thenR ?_
        refine Tr.ret2 Try.results47 rfl rfl (fun w' hw => ?_)
        exact ⟨_, by rw [writeP, if_neg (by omega), y3, if_neg (by simp), if_pos (by assumption)], hw.below (Bg.le.refl _), by rw [writeP, if_neg (by omega), y3, if_neg (by simp), if_pos (by assumption)]; exact SecsAt.nil⟩
      · try simp only [bs] at h3
        refine Tr.skip ?_
        refine Tr.thenN ?_
        refine Tr.seq ?_
        refine Tr.region ?_
        refine Tr.q (QS.move rfl) rfl ?_
        refine Tr.callEnts (fun i : Value × List SecV => i.1) (fun i => secEnts 81 5 i.1 i.2) (ok := fun i => i.2.map SecV.pl = l.map SecV.pl) rfl Try.call76 (fun w hw => refCopies_any l V w (hw.slF hV) hB (hD.mono hw.bg)) rfl (fun i hi => ?_)
        refine Tr.q (QS.assign rfl) rfl ?_
        refine Tr.nil ?_
        refine Tr.thenN ?_
        refine Tr.seq ?_
        refine Tr.seq ?_
        obtain ⟨Vo, xs⟩ := i
        dsimp only
        replace hi : xs.map SecV.pl = l.map SecV.pl := hi
        have hxl := map_pl_len hi
        have hcop := hi
        obtain ⟨g1, g2, g3, g4, g5⟩ := pl_data (map_pl_get hi (findP l a).toNat)
        have hdl2 : (xs.getD (findP l a).toNat default).data.length = (l.getD (findP l a).toNat default).data.length := by rw [g3]
        refine Tr.perm (secEnts_front (k := (findP l a).toNat) (by omega) _) ?_
        refine Tr.region ?_
        refine Tr.q (QS.assign rfl) rfl ?_
        refine Tr.nil ?_
        refine Tr.thenN ?_
        refine Tr.block ?_
        refine Tr.loop (ι := Nat × List UInt8) (fun ⟨k, d⟩ => k ≤ b.length ∧ d.length = (l.getD (findP l a).toNat default).data.length ∧ d = (l.getD (findP l a).toNat default).data.take off ++ b.take k ++ (l.getD (findP l a).toNat default).data.drop (off + k)) (fun _ => _) (fun ⟨k, d⟩ => (rowE (.slice (xs.getD (findP l a).toNat default).dp (xs.getD (findP l a).toNat default).data.length (xs.getD (findP l a).toNat default).dc) 5 encU8 d :: rowE Vo 81 encSec xs :: ((xs.eraseIdx (findP l a).toNat).map (dRow 5) ++ []))) (fun ⟨k, d⟩ => [(11, .int .i64 (k : Nat))]) (fun ⟨k, d⟩ => b.length - k) (0, (l.getD (findP l a).toNat default).data) ⟨Nat.zero_le _, rfl, by simp⟩ (.cons (by first | rfl | exact lookI rfl (by omega) | exact lookI rfl (by simp) | exact lookB rfl (by simp)) Front.nil) (by rw [← g3]; exact Pick.refl _) rfl (fun i hi m hm => ?_)
        obtain ⟨k, d⟩ := i
        replace hi : k ≤ b.length ∧ d.length = (l.getD (findP l a).toNat default).data.length ∧ d = (l.getD (findP l a).toNat default).data.take off ++ b.take k ++ (l.getD (findP l a).toNat default).data.drop (off + k) := hi
        replace hm : m = b.length - k := hm
        change Tr _ _ (rowE (.slice (xs.getD (findP l a).toNat default).dp (xs.getD (findP l a).toNat default).data.length (xs.getD (findP l a).toNat default).dc) 5 encU8 d :: rowE Vo 81 encSec xs :: ((xs.eraseIdx (findP l a).toNat).map (dRow 5) ++ [])) ([(11, .int .i64 (k : Nat))] ++ _) _
        obtain ⟨hk1, hk2, hk3⟩ := hi
        refine Tr.seq ?_
        refine Tr.seq ?_
        refine Tr.region ?_
        refine Tr.q (QS.move rfl) rfl ?_
        refine Tr.q (QS.move rfl) rfl ?_
        first | refine Tr.q (QS.len rfl (by assumption) Try.underlying22) rfl ?_ | refine Tr.q (QS.lenRow rfl (by repeat (first | exact List.Mem.head _ | apply List.Mem.tail)) Try.underlying22) rfl ?_ | refine Tr.q (QS.lenNil rfl Try.underlying22) rfl ?_
        refine Tr.q (QS.lss rfl rfl) rfl ?_
        refine Tr.nil ?_
        refine Tr.thenN ?_
        refine Tr.cond rfl (fun h4 => ?_) (fun h4 => ?_)
        · try simp only [bs] at h4
          refine Tr.skip ?_
          refine Tr.thenN ?_
          refine Tr.seq ?_
          refine Tr.block ?_
          refine Tr.regionT 0 21 HLF.mixed (by kernel_rfl) (panicIn (panicThen (panicThen (panicIn (panicThen panicBody))))) ?_
          refine TrQ.pureNil ?_
          refine TrQ.q (QS.move rfl) rfl ?_
          refine TrQ.q (QS.move rfl) rfl ?_
          first | refine TrQ.q (QS.idxN rfl rfl (by assumption) Try.underlying53 Try.sizeOf81 (by rfl) (by omega)) rfl ?_ | refine TrQ.q (QS.idxRowN rfl rfl (by repeat (first | exact List.Mem.head _ | apply List.Mem.tail)) Try.underlying53 Try.sizeOf81 (by rfl) (by omega)) rfl ?_ | refine TrQ.q (QS.idx rfl rfl (by assumption) Try.underlying53 Try.sizeOf81 (by rfl) (by omega)) rfl ?_ | refine TrQ.q (QS.idxRow rfl rfl (by repeat (first | exact List.Mem.head _ | apply List.Mem.tail)) Try.underlying53 Try.sizeOf81 (by rfl) (by omega)) rfl ?_
          refine TrQ.q (QS.fieldAddr (off := 2) (ft := 22) rfl Try.underlying81 rfl rfl Try.sizeOf22 (by decide)) rfl ?_
          first | refine TrQ.q (QS.elF rfl (by assumption) Try.isAgg22 (by omega) (by rfl)) rfl ?_ | refine TrQ.q (QS.elRF rfl (by repeat (first | exact List.Mem.head _ | apply List.Mem.tail)) Try.isAgg22 (by omega) (by rfl)) rfl ?_
          refine TrQ.q (QS.move rfl) rfl ?_
          refine TrQ.q (QS.cvt32toI rfl Try.underlying23 Try.underlying3) rfl ?_
          refine TrQ.q (QS.move rfl) rfl ?_
          refine TrQ.q (QS.move rfl) rfl ?_
          first | refine TrQ.q (QS.idxN rfl rfl (by assumption) Try.underlying53 Try.sizeOf81 (by rfl) (by omega)) rfl ?_ | refine TrQ.q (QS.idxRowN rfl rfl (by repeat (first | exact List.Mem.head _ | apply List.Mem.tail)) Try.underlying53 Try.sizeOf81 (by rfl) (by omega)) rfl ?_ | refine TrQ.q (QS.idx rfl rfl (by assumption) Try.underlying53 Try.sizeOf81 (by rfl) (by omega)) rfl ?_ | refine TrQ.q (QS.idxRow rfl rfl (by repeat (first | exact List.Mem.head _ | apply List.Mem.tail)) Try.underlying53 Try.sizeOf81 (by rfl) (by omega)) rfl ?_
          refine TrQ.q (QS.fieldAddr (off := 1) (ft := 23) rfl Try.underlying81 rfl rfl Try.sizeOf23 (by decide)) rfl ?_
          first | refine TrQ.q (QS.elF rfl (by assumption) Try.isAgg23 (by omega) (by rfl)) rfl ?_ | refine TrQ.q (QS.elRF rfl (by repeat (first | exact List.Mem.head _ | apply List.Mem.tail)) Try.isAgg23 (by omega) (by rfl)) rfl ?_
          refine TrQ.q (QS.cvt32toI rfl Try.underlying23 Try.underlying3) rfl ?_
          first | refine TrQ.q (QS.subI rfl rfl (by omega)) rfl ?_ | refine TrQ.q (QS.sub rfl rfl) rfl ?_
          refine TrQ.q (QS.move rfl) rfl ?_
          first | refine TrQ.q (QS.addI rfl rfl (by omega)) rfl ?_ | refine TrQ.q (QS.add rfl rfl) rfl ?_
          refine TrQ.q (QS.move rfl) rfl ?_
          refine TrQ.q (QS.move rfl) rfl ?_
          first | refine TrQ.q (QS.idxN rfl rfl (by assumption) Try.underlying22 Try.sizeOf5 (by rfl) (by omega)) rfl ?_ | refine TrQ.q (QS.idxRowN rfl rfl (by repeat (first | exact List.Mem.head _ | apply List.Mem.tail)) Try.underlying22 Try.sizeOf5 (by rfl) (by omega)) rfl ?_ | refine TrQ.q (QS.idx rfl rfl (by assumption) Try.underlying22 Try.sizeOf5 (by rfl) (by omega)) rfl ?_ | refine TrQ.q (QS.idxRow rfl rfl (by repeat (first | exact List.Mem.head _ | apply List.Mem.tail)) Try.underlying22 Try.sizeOf5 (by rfl) (by omega)) rfl ?_
          first | refine TrQ.q (QS.el1 rfl (by assumption) Try.isAgg5 (by omega) (by rfl)) rfl ?_ | refine TrQ.q (QS.elR1 rfl (by repeat (first | exact List.Mem.head _ | apply List.Mem.tail)) Try.isAgg5 (by omega) (by rfl)) rfl ?_
          refine TrQ.q (QS.idxRow (l := d) (T := 5) (E := encU8) rfl rfl (.head _) Try.underlying22 Try.sizeOf5 (by rfl) (by omega)) rfl ?_
          refine TrQ.nil ?_
          refine Tr.storeRow (l := d) (E := encU8) (i := ((a.toNat : Int) - (l.getD (findP l a).toNat default).addr.toNat + k).toNat) (j := 0) (b.getD k default) rfl rfl Try.sizeOf5 (Put.here _) (by omega) (by decide) (by rfl) rfl rfl rfl ?_
          refine Tr.nil ?_
          refine Tr.inN ?_
          refine Tr.thenN ?_
          refine Tr.region ?_
          refine Tr.q (QS.move rfl) rfl ?_
          first | refine Tr.q (QS.addI rfl rfl (by omega)) rfl ?_ | refine Tr.q (QS.add rfl rfl) rfl ?_
          refine Tr.q (QS.assign rfl) rfl ?_
          refine Tr.nil ?_
          refine Tr.thenN ?_
          apply Tr.again (k + 1, d.set ((a.toNat : Int) - (l.getD (findP l a).toNat default).addr.toNat + k).toNat (b.getD k default))
          · exact rfl
          · exact (.cons (by first | rfl | exact lookI rfl (by omega) | exact lookI rfl (by simp) | exact lookB rfl (by simp)) Front.nil)
          · exact SubX.dropN 29 (by kernel_rfl) rfl
          · exact (Pick.refl _)
          · exact ⟨by omega, by rw [List.length_set]; exact hk2, by rw [show ((a.toNat : Int) - (l.getD (findP l a).toNat default).addr.toNat + k).toNat = off + k by omega, hk3]; exact put_step (by omega) (by omega)⟩
          · exact (by (try dsimp only); omega)
        · try simp only [bs] at h4
          refine Tr.exit ?_
          refine Tr.thenE ?_
          refine Tr.thenE ?_
          refine Tr.inHit ?_
          refine Tr.thenN ?_
          refine Tr.seq ?_
          refine Tr.region ?_
          refine Tr.q (QS.move rfl) rfl ?_
          refine Tr.q (QS.assign rfl) rfl ?_
          refine Tr.q (QS.assign rfl) rfl ?_
          refine Tr.nil ?_
          refine Tr.thenN ?_
          refine Tr.ret ?_
          refine Tr.ret2 Try.results47 rfl rfl (fun w' hw => ?_)
          have hs := secs_put (k := (findP l a).toNat) (by omega) (by rw [hk2, hdl2]) (hw.ents (w := w) (Bg.le.refl _) (Pick.refl _))
          rw [hcop, map_pl_get hcop] at hs
          obtain rfl : k = b.length := by omega
          rw [List.take_of_length_le (Nat.le_refl _)] at hk3
          exact ⟨_, by rw [writeP, if_neg (by omega), y3, if_neg (by simp), if_neg (by simp_all)], hw.below (Bg.le.refl _), by rw [writeP, if_neg (by omega), y3, if_neg (by simp), if_neg (by simp_all)]; dsimp only; rw [show ((a.toNat : Int) - (l.getD (findP l a).toNat default).addr.toNat).toNat = off by omega]; rw [hk3] at hs; exact hs⟩

set_option maxRecDepth 100000 in
set_option maxHeartbeats 2000000 in
theorem refRanges_any (l : List SecV) (V : Value) (w : World) (hV : Sl (hp w) encSec l V) (hB : SecB l) :
    Calls Try.prog 55 #[V] w (fun e w' => ∃ V', e = .returned V' ∧ Ext w w' ∧ NewRow w w' 73 encRng (normalP (l.map spaceP)) V') := by
  have hV' : Sl (Bg.of w).blk encSec l V := hV
  have hlen := hB.1
  refine enter Try.func55 rfl Try.ntmps55 rfl ?_
  refine Tr.seq ?_
  refine Tr.region ?_
  refine Tr.q (QS.assign rfl) rfl ?_
  refine Tr.nil ?_
  refine Tr.thenN ?_
  refine Tr.seq ?_
  refine Tr.region ?_
  refine Tr.q (QS.assign rfl) rfl ?_
  refine Tr.nil ?_
  refine Tr.thenN ?_
  refine Tr.seq ?_
  refine Tr.seq ?_
  refine Tr.region ?_
  refine Tr.q (QS.assign rfl) rfl ?_
  refine Tr.nil ?_
  refine Tr.thenN ?_
  refine Tr.block ?_
  refine Tr.ownNil 73 encRng ?_
  refine Tr.loop (ι := Nat × Value) (fun ⟨k, V'⟩ => k ≤ l.length) (fun _ => _) (fun ⟨k, V'⟩ => [rowE V' 73 encRng ((l.take k).map spaceP)]) (fun ⟨k, V'⟩ => [(4, .int .i64 (k : Nat)), (3, V')]) (fun ⟨k, V'⟩ => l.length - k) (0, _) (Nat.zero_le _) (.cons (by first | rfl | exact lookI rfl (by omega) | exact lookI rfl (by simp) | exact lookB rfl (by simp)) (.cons (by first | rfl | exact lookI rfl (by omega) | exact lookI rfl (by simp) | exact lookB rfl (by simp)) Front.nil)) (by repeat' (first | exact Pick.nil _ | exact Del.here _ | apply Pick.cons | apply Del.there)) rfl (fun i hi m hm => ?_)
  obtain ⟨k, V'⟩ := i
  replace hi : k ≤ l.length := hi
  replace hm : m = l.length - k := hm
  change Tr _ _ [rowE V' 73 encRng ((l.take k).map spaceP)] ([(4, .int .i64 (k : Nat)), (3, V')] ++ _) _
  have hml : ((l.take k).map spaceP).length ≤ l.length := by simp only [List.length_map, List.length_take]; omega
  refine Tr.seq ?_
  refine Tr.seq ?_
  refine Tr.region ?_
  refine Tr.q (QS.move rfl) rfl ?_
  refine Tr.q (QS.move rfl) rfl ?_
  first | refine Tr.q (QS.len rfl (by assumption) Try.underlying53) rfl ?_ | refine Tr.q (QS.lenRow rfl (by repeat (first | exact List.Mem.head _ | apply List.Mem.tail)) Try.underlying53) rfl ?_ | refine Tr.q (QS.lenNil rfl Try.underlying53) rfl ?_
  refine Tr.q (QS.lss rfl rfl) rfl ?_
  refine Tr.nil ?_
  refine Tr.thenN ?_
  refine Tr.cond rfl (fun h1 => ?_) (fun h1 => ?_)
  · try simp only [bs] at h1
    refine Tr.skip ?_
    refine Tr.thenN ?_
    refine Tr.seq ?_
    refine Tr.block ?_
    refine Tr.regionT 1 13 HLF.mixed (by kernel_rfl) (panicIn (panicThen (panicThen (panicIn (panicThen panicBody))))) ?_
    refine TrQ.pureMove rfl rfl ?_
    refine TrQ.pureNil ?_
    refine TrQ.q (QS.move rfl) rfl ?_
    refine TrQ.q (QS.move rfl) rfl ?_
    first | refine TrQ.q (QS.idxN rfl rfl (by assumption) Try.underlying53 Try.sizeOf81 (by rfl) (by omega)) rfl ?_ | refine TrQ.q (QS.idxRowN rfl rfl (by repeat (first | exact List.Mem.head _ | apply List.Mem.tail)) Try.underlying53 Try.sizeOf81 (by rfl) (by omega)) rfl ?_ | refine TrQ.q (QS.idx rfl rfl (by assumption) Try.underlying53 Try.sizeOf81 (by rfl) (by omega)) rfl ?_ | refine TrQ.q (QS.idxRow rfl rfl (by repeat (first | exact List.Mem.head _ | apply List.Mem.tail)) Try.underlying53 Try.sizeOf81 (by rfl) (by omega)) rfl ?_
    refine TrQ.q (QS.fieldAddr (off := 1) (ft := 23) rfl Try.underlying81 rfl rfl Try.sizeOf23 (by decide)) rfl ?_
    first | refine TrQ.q (QS.elF rfl (by assumption) Try.isAgg23 (by omega) (by rfl)) rfl ?_ | refine TrQ.q (QS.elRF rfl (by repeat (first | exact List.Mem.head _ | apply List.Mem.tail)) Try.isAgg23 (by omega) (by rfl)) rfl ?_
    refine TrQ.q (QS.move rfl) rfl ?_
    refine TrQ.q (QS.move rfl) rfl ?_
    first | refine TrQ.q (QS.idxN rfl rfl (by assumption) Try.underlying53 Try.sizeOf81 (by rfl) (by omega)) rfl ?_ | refine TrQ.q (QS.idxRowN rfl rfl (by repeat (first | exact List.Mem.head _ | apply List.Mem.tail)) Try.underlying53 Try.sizeOf81 (by rfl) (by omega)) rfl ?_ | refine TrQ.q (QS.idx rfl rfl (by assumption) Try.underlying53 Try.sizeOf81 (by rfl) (by omega)) rfl ?_ | refine TrQ.q (QS.idxRow rfl rfl (by repeat (first | exact List.Mem.head _ | apply List.Mem.tail)) Try.underlying53 Try.sizeOf81 (by rfl) (by omega)) rfl ?_
    first | refine TrQ.q (QS.elA rfl (by assumption) Try.isAgg81 Try.sizeOf81 (by rfl) (by omega)) rfl ?_ | refine TrQ.q (QS.elRA rfl (by repeat (first | exact List.Mem.head _ | apply List.Mem.tail)) Try.isAgg81 Try.sizeOf81 (by rfl) (by omega)) rfl ?_
    refine TrQ.q (QS.call rfl Try.call83 (fun w hw => refEnd_any (l.getD k default) w (hB.at (by omega)))) rfl ?_
    refine TrQ.q (QS.cvtTo32 rfl Try.underlying3 Try.underlying23) rfl ?_
    refine TrQ.q (QS.build (vs := [(0, _), (1, _)]) rfl rfl (HLF.built73_0_1 _ _)) rfl ?_
    refine TrQ.nil ?_
    refine Tr.lit1 (E := encRng) (spaceP (l.getD k default)) rfl rfl Try.underlying32 Try.sizeOf73 Try.zeroValue73 (by rfl) (by rfl) rfl (fun V2 => ?_)
    first | refine Tr.append1 rfl rfl (by repeat (first | exact Del.here _ | apply Del.there)) (by repeat (first | exact Del.here _ | apply Del.there)) Try.underlying32 HLF.info73 (by rfl) (by rfl) (by (try simp only [List.length_cons, List.length_nil, List.length_append, List.length_take]); omega) (by unfold maxLen; (try simp only [List.length_cons, List.length_nil, List.length_append, List.length_take]); omega) rfl (fun V3 => ?_) | refine Tr.ownNil _ _ (Tr.append1 rfl rfl (by repeat (first | exact Del.here _ | apply Del.there)) (by repeat (first | exact Del.here _ | apply Del.there)) Try.underlying32 HLF.info73 (by rfl) (by rfl) (by (try simp only [List.length_cons, List.length_nil, List.length_append, List.length_take]); omega) (by unfold maxLen; (try simp only [List.length_cons, List.length_nil, List.length_append, List.length_take]); omega) rfl (fun V3 => ?_)) | refine Tr.appendOf rfl rfl (by repeat (first | exact Del.here _ | apply Del.there)) (fun w hw => hw.slF (by assumption)) Try.underlying32 HLF.info73 (by rfl) (by rfl) (by (try simp only [List.length_cons, List.length_nil, List.length_append, List.length_take]); omega) (by unfold maxLen; (try simp only [List.length_cons, List.length_nil, List.length_append, List.length_take]); omega) rfl (fun V3 => ?_) | refine Tr.ownNil _ _ (Tr.appendOf rfl rfl (by repeat (first | exact Del.here _ | apply Del.there)) (fun w hw => hw.slF (by assumption)) Try.underlying32 HLF.info73 (by rfl) (by rfl) (by (try simp only [List.length_cons, List.length_nil, List.length_append, List.length_take]); omega) (by unfold maxLen; (try simp only [List.length_cons, List.length_nil, List.length_append, List.length_take]); omega) rfl (fun V3 => ?_)) | refine Tr.appendOf rfl rfl (by repeat (first | exact Del.here _ | apply Del.there)) (fun w hw => hw.row (by repeat (first | exact List.Mem.head _ | apply List.Mem.tail))) Try.underlying32 HLF.info73 (by rfl) (by rfl) (by (try simp only [List.length_cons, List.length_nil, List.length_append, List.length_take]); omega) (by unfold maxLen; (try simp only [List.length_cons, List.length_nil, List.length_append, List.length_take]); omega) rfl (fun V3 => ?_)
    refine Tr.q (QS.assign rfl) rfl ?_
    refine Tr.nil ?_
    refine Tr.inN ?_
    refine Tr.thenN ?_
    refine Tr.region ?_
    refine Tr.q (QS.move rfl) rfl ?_
    first | refine Tr.q (QS.addI rfl rfl (by omega)) rfl ?_ | refine Tr.q (QS.add rfl rfl) rfl ?_
    refine Tr.q (QS.assign rfl) rfl ?_
    refine Tr.nil ?_
    refine Tr.thenN ?_
    have htk : (l.take (k + 1)).map spaceP = (l.take k).map spaceP ++ [spaceP (l.getD k default)] := by rw [take_succ (by omega), List.map_append]; rfl
    rw [← htk]
    apply Tr.again (k + 1, _)
    · exact rfl
    · exact (.cons (by first | rfl | exact lookI rfl (by omega) | exact lookI rfl (by simp) | exact lookB rfl (by simp)) (.cons (by first | rfl | exact lookI rfl (by omega) | exact lookI rfl (by simp) | exact lookB rfl (by simp)) Front.nil))
    · exact SubX.dropN 25 (by kernel_rfl) rfl
    · exact (by repeat' (first | exact Pick.nil _ | exact Del.here _ | apply Pick.cons | apply Del.there))
    · exact (by show k + 1 ≤ _; omega)
    · exact (by (try dsimp only); omega)
  · try simp only [bs] at h1
    refine Tr.exit ?_
    refine Tr.thenE ?_
    refine Tr.thenE ?_
    refine Tr.inHit ?_
    refine Tr.thenN ?_
    refine Tr.seq ?_
    rw [show l.take k = l from List.take_of_length_le (by omega)]
    refine Tr.region ?_
    refine Tr.q (QS.move rfl) rfl ?_
    refine Tr.callRow rfl Try.call25 (fun w hw => (by rw [← refNormal_eq]; exact refNormal_any (l.map spaceP) _ w (hw.row (.head _)) (by rw [List.length_map]; omega) : Calls Try.prog 25 #[V'] w (fun e w' => ∃ V', e = .returned V' ∧ Ext w w' ∧ NewRow w w' 73 encRng (normalP (l.map spaceP)) V'))) rfl (fun V4 => ?_)
    refine Tr.q (QS.assign rfl) rfl ?_
    refine Tr.nil ?_
    refine Tr.thenN ?_
    refine Tr.ret ?_
    refine Tr.ret1 Try.results55 rfl (fun w' hw => ?_)
    exact ⟨_, rfl, hw.below (Bg.le.refl _), hw.new (.head _)⟩

set_option maxRecDepth 100000 in
set_option maxHeartbeats 2000000 in
theorem obst_any (l : List SecV) (V : Value) (a n : Int) (w : World) (hV : Sl (hp w) encSec l V) (hB : SecB l) (ha : 0 ≤ a ∧ a ≤ 4294967295) (hn : 0 ≤ n ∧ n ≤ 4294967295) :
    Calls Try.prog 68 #[V, .int .i64 a, .int .i64 n] w (fun e w' => e = .returned (.int .i64 (obstF a n l)) ∧ Ext w w') := by
  have hV' : Sl (Bg.of w).blk encSec l V := hV
  have hlen := hB.1
  refine enter Try.func68 rfl Try.ntmps68 rfl ?_
  refine Tr.seq ?_
  refine Tr.region ?_
  refine Tr.q (QS.assign rfl) rfl ?_
  refine Tr.nil ?_
  refine Tr.thenN ?_
  refine Tr.seq ?_
  refine Tr.seq ?_
  refine Tr.region ?_
  refine Tr.q (QS.assign rfl) rfl ?_
  refine Tr.nil ?_
  refine Tr.thenN ?_
  refine Tr.block ?_
  refine Tr.loop (ι := Nat) (fun k => k ≤ l.length ∧ obstF a n (l.drop k) = obstF a n l) (fun _ => _) (fun k => []) (fun k => [(7, .int .i64 (k : Nat))]) (fun k => l.length - k) 0 ⟨Nat.zero_le _, rfl⟩ (.cons (by first | rfl | exact lookI rfl (by omega) | exact lookI rfl (by simp) | exact lookB rfl (by simp)) Front.nil) (by repeat' (first | exact Pick.nil _ | exact Del.here _ | apply Pick.cons | apply Del.there)) rfl (fun k hi m hm => ?_)
  replace hi : k ≤ l.length ∧ obstF a n (l.drop k) = obstF a n l := hi
  replace hm : m = l.length - k := hm
  change Tr _ _ [] ([(7, .int .i64 (k : Nat))] ++ _) _
  obtain ⟨hk1, hk2⟩ := hi
  refine Tr.seq ?_
  refine Tr.seq ?_
  refine Tr.region ?_
  refine Tr.q (QS.move rfl) rfl ?_
  refine Tr.q (QS.move rfl) rfl ?_
  first | refine Tr.q (QS.len rfl (by assumption) Try.underlying53) rfl ?_ | refine Tr.q (QS.lenRow rfl (by repeat (first | exact List.Mem.head _ | apply List.Mem.tail)) Try.underlying53) rfl ?_ | refine Tr.q (QS.lenNil rfl Try.underlying53) rfl ?_
  refine Tr.q (QS.lss rfl rfl) rfl ?_
  refine Tr.nil ?_
  refine Tr.thenN ?_
  refine Tr.cond rfl (fun h1 => ?_) (fun h1 => ?_)
  · try simp only [bs] at h1
    refine Tr.skip ?_
    refine Tr.thenN ?_
    refine Tr.seq ?_
    refine Tr.block ?_
    refine Tr.seq ?_
    refine Tr.regionQ HLF.mixed (by kernel_rfl) ?_
    refine TrQ.q (QS.move rfl) rfl ?_
    refine TrQ.q (QS.move rfl) rfl ?_
    first | refine TrQ.q (QS.idxN rfl rfl (by assumption) Try.underlying53 Try.sizeOf81 (by rfl) (by omega)) rfl ?_ | refine TrQ.q (QS.idxRowN rfl rfl (by repeat (first | exact List.Mem.head _ | apply List.Mem.tail)) Try.underlying53 Try.sizeOf81 (by rfl) (by omega)) rfl ?_ | refine TrQ.q (QS.idx rfl rfl (by assumption) Try.underlying53 Try.sizeOf81 (by rfl) (by omega)) rfl ?_ | refine TrQ.q (QS.idxRow rfl rfl (by repeat (first | exact List.Mem.head _ | apply List.Mem.tail)) Try.underlying53 Try.sizeOf81 (by rfl) (by omega)) rfl ?_
    refine TrQ.q (QS.fieldAddr (off := 2) (ft := 22) rfl Try.underlying81 rfl rfl Try.sizeOf22 (by decide)) rfl ?_
    first | refine TrQ.q (QS.elF rfl (by assumption) Try.isAgg22 (by omega) (by rfl)) rfl ?_ | refine TrQ.q (QS.elRF rfl (by repeat (first | exact List.Mem.head _ | apply List.Mem.tail)) Try.isAgg22 (by omega) (by rfl)) rfl ?_
    first | refine TrQ.q (QS.len rfl (by assumption) Try.underlying22) rfl ?_ | refine TrQ.q (QS.lenRow rfl (by repeat (first | exact List.Mem.head _ | apply List.Mem.tail)) Try.underlying22) rfl ?_ | refine TrQ.q (QS.lenNil rfl Try.underlying22) rfl ?_
    refine TrQ.q (QS.gtr rfl rfl) rfl ?_
    refine TrQ.q (QS.move rfl) rfl ?_
    apply TrQ.andP
    · exact (rfl : _ = (13, 21, 34))
    · exact rfl
    · intro hT2; have hT2' := hT2
      try simp only [bs] at hT2'
      refine TrQ.gq rfl rfl hT2 (QS.move rfl) rfl ?_
      refine TrQ.gq rfl rfl hT2 (QS.move rfl) rfl ?_
      first | refine TrQ.gq rfl rfl hT2 (QS.idxN rfl rfl (by assumption) Try.underlying53 Try.sizeOf81 (by rfl) (by omega)) rfl ?_ | refine TrQ.gq rfl rfl hT2 (QS.idxRowN rfl rfl (by repeat (first | exact List.Mem.head _ | apply List.Mem.tail)) Try.underlying53 Try.sizeOf81 (by rfl) (by omega)) rfl ?_ | refine TrQ.gq rfl rfl hT2 (QS.idx rfl rfl (by assumption) Try.underlying53 Try.sizeOf81 (by rfl) (by omega)) rfl ?_ | refine TrQ.gq rfl rfl hT2 (QS.idxRow rfl rfl (by repeat (first | exact List.Mem.head _ | apply List.Mem.tail)) Try.underlying53 Try.sizeOf81 (by rfl) (by omega)) rfl ?_
      refine TrQ.gq rfl rfl hT2 (QS.fieldAddr (off := 1) (ft := 23) rfl Try.underlying81 rfl rfl Try.sizeOf23 (by decide)) rfl ?_
      first | refine TrQ.gq rfl rfl hT2 (QS.elF rfl (by assumption) Try.isAgg23 (by omega) (by rfl)) rfl ?_ | refine TrQ.gq rfl rfl hT2 (QS.elRF rfl (by repeat (first | exact List.Mem.head _ | apply List.Mem.tail)) Try.isAgg23 (by omega) (by rfl)) rfl ?_
      refine TrQ.gq rfl rfl hT2 (QS.cvt32toI rfl Try.underlying23 Try.underlying3) rfl ?_
      refine TrQ.gq rfl rfl hT2 (QS.move rfl) rfl ?_
      refine TrQ.gq rfl rfl hT2 (QS.move rfl) rfl ?_
      first | refine TrQ.gq rfl rfl hT2 (QS.idxN rfl rfl (by assumption) Try.underlying53 Try.sizeOf81 (by rfl) (by omega)) rfl ?_ | refine TrQ.gq rfl rfl hT2 (QS.idxRowN rfl rfl (by repeat (first | exact List.Mem.head _ | apply List.Mem.tail)) Try.underlying53 Try.sizeOf81 (by rfl) (by omega)) rfl ?_ | refine TrQ.gq rfl rfl hT2 (QS.idx rfl rfl (by assumption) Try.underlying53 Try.sizeOf81 (by rfl) (by omega)) rfl ?_ | refine TrQ.gq rfl rfl hT2 (QS.idxRow rfl rfl (by repeat (first | exact List.Mem.head _ | apply List.Mem.tail)) Try.underlying53 Try.sizeOf81 (by rfl) (by omega)) rfl ?_
      first | refine TrQ.gq rfl rfl hT2 (QS.elA rfl (by assumption) Try.isAgg81 Try.sizeOf81 (by rfl) (by omega)) rfl ?_ | refine TrQ.gq rfl rfl hT2 (QS.elRA rfl (by repeat (first | exact List.Mem.head _ | apply List.Mem.tail)) Try.isAgg81 Try.sizeOf81 (by rfl) (by omega)) rfl ?_
      refine TrQ.gq rfl rfl hT2 (QS.call rfl Try.call83 (fun w hw => refEnd_any (l.getD k default) w (hB.at (by omega)))) rfl ?_
      refine TrQ.gq rfl rfl hT2 (QS.lss rfl rfl) rfl ?_
      refine TrQ.q (QS.pickT rfl hT2 rfl) rfl ?_
      exact TrQ.end (Sub.cons rfl (Sub.dropN 13 (by kernel_rfl) rfl))
    · intro hF2
      refine TrQ.gskip rfl rfl hF2 rfl ?_
      refine TrQ.gskip rfl rfl hF2 rfl ?_
      refine TrQ.gskip rfl rfl hF2 rfl ?_
      refine TrQ.gskip rfl rfl hF2 rfl ?_
      refine TrQ.gskip rfl rfl hF2 rfl ?_
      refine TrQ.gskip rfl rfl hF2 rfl ?_
      refine TrQ.gskip rfl rfl hF2 rfl ?_
      refine TrQ.gskip rfl rfl hF2 rfl ?_
      refine TrQ.gskip rfl rfl hF2 rfl ?_
      refine TrQ.gskip rfl rfl hF2 rfl ?_
      refine TrQ.gskip rfl rfl hF2 rfl ?_
      refine TrQ.gskip rfl rfl hF2 rfl ?_
      refine TrQ.q (QS.pickF rfl hF2 rfl) rfl ?_
      exact TrQ.end (Sub.cons rfl (Sub.dropN 13 (by kernel_rfl) rfl))
    refine TrQ.q (QS.move rfl) rfl ?_
    apply TrQ.andP
    · exact (rfl : _ = (11, 35, 46))
    · exact rfl
    · intro hT3; have hT3' := hT3
      try simp only [bs] at hT3'
      refine TrQ.gq rfl rfl hT3 (QS.move rfl) rfl ?_
      refine TrQ.gq rfl rfl hT3 (QS.move rfl) rfl ?_
      first | refine TrQ.gq rfl rfl hT3 (QS.idxN rfl rfl (by assumption) Try.underlying53 Try.sizeOf81 (by rfl) (by omega)) rfl ?_ | refine TrQ.gq rfl rfl hT3 (QS.idxRowN rfl rfl (by repeat (first | exact List.Mem.head _ | apply List.Mem.tail)) Try.underlying53 Try.sizeOf81 (by rfl) (by omega)) rfl ?_ | refine TrQ.gq rfl rfl hT3 (QS.idx rfl rfl (by assumption) Try.underlying53 Try.sizeOf81 (by rfl) (by omega)) rfl ?_ | refine TrQ.gq rfl rfl hT3 (QS.idxRow rfl rfl (by repeat (first | exact List.Mem.head _ | apply List.Mem.tail)) Try.underlying53 Try.sizeOf81 (by rfl) (by omega)) rfl ?_
      refine TrQ.gq rfl rfl hT3 (QS.fieldAddr (off := 1) (ft := 23) rfl Try.underlying81 rfl rfl Try.sizeOf23 (by decide)) rfl ?_
      first | refine TrQ.gq rfl rfl hT3 (QS.elF rfl (by assumption) Try.isAgg23 (by omega) (by rfl)) rfl ?_ | refine TrQ.gq rfl rfl hT3 (QS.elRF rfl (by repeat (first | exact List.Mem.head _ | apply List.Mem.tail)) Try.isAgg23 (by omega) (by rfl)) rfl ?_
      refine TrQ.gq rfl rfl hT3 (QS.cvt32toI rfl Try.underlying23 Try.underlying3) rfl ?_
      refine TrQ.gq rfl rfl hT3 (QS.move rfl) rfl ?_
      refine TrQ.gq rfl rfl hT3 (QS.move rfl) rfl ?_
      first | refine TrQ.gq rfl rfl hT3 (QS.addI rfl rfl (by omega)) rfl ?_ | refine TrQ.gq rfl rfl hT3 (QS.add rfl rfl) rfl ?_
      refine TrQ.gq rfl rfl hT3 (QS.lss rfl rfl) rfl ?_
      refine TrQ.q (QS.pickT rfl hT3 rfl) rfl ?_
      exact TrQ.end (Sub.cons rfl (Sub.dropN 11 (by kernel_rfl) rfl))
    · intro hF3
      refine TrQ.gskip rfl rfl hF3 rfl ?_
      refine TrQ.gskip rfl rfl hF3 rfl ?_
      refine TrQ.gskip rfl rfl hF3 rfl ?_
      refine TrQ.gskip rfl rfl hF3 rfl ?_
      refine TrQ.gskip rfl rfl hF3 rfl ?_
      refine TrQ.gskip rfl rfl hF3 rfl ?_
      refine TrQ.gskip rfl rfl hF3 rfl ?_
      refine TrQ.gskip rfl rfl hF3 rfl ?_
      refine TrQ.gskip rfl rfl hF3 rfl ?_
      refine TrQ.gskip rfl rfl hF3 rfl ?_
      refine TrQ.q (QS.pickF rfl hF3 rfl) rfl ?_
      exact TrQ.end (Sub.cons rfl (Sub.dropN 11 (by kernel_rfl) rfl))
    refine TrQ.q (QS.move rfl) rfl ?_
    apply TrQ.andP
    · exact (rfl : _ = (8, 47, 55))
    · exact rfl
    · intro hT4; have hT4' := hT4
      try simp only [bs] at hT4'
      refine TrQ.gq rfl rfl hT4 (QS.move rfl) rfl ?_
      refine TrQ.gq rfl rfl hT4 (QS.move rfl) rfl ?_
      refine TrQ.gq rfl rfl hT4 (QS.move rfl) rfl ?_
      first | refine TrQ.gq rfl rfl hT4 (QS.idxN rfl rfl (by assumption) Try.underlying53 Try.sizeOf81 (by rfl) (by omega)) rfl ?_ | refine TrQ.gq rfl rfl hT4 (QS.idxRowN rfl rfl (by repeat (first | exact List.Mem.head _ | apply List.Mem.tail)) Try.underlying53 Try.sizeOf81 (by rfl) (by omega)) rfl ?_ | refine TrQ.gq rfl rfl hT4 (QS.idx rfl rfl (by assumption) Try.underlying53 Try.sizeOf81 (by rfl) (by omega)) rfl ?_ | refine TrQ.gq rfl rfl hT4 (QS.idxRow rfl rfl (by repeat (first | exact List.Mem.head _ | apply List.Mem.tail)) Try.underlying53 Try.sizeOf81 (by rfl) (by omega)) rfl ?_
      first | refine TrQ.gq rfl rfl hT4 (QS.elA rfl (by assumption) Try.isAgg81 Try.sizeOf81 (by rfl) (by omega)) rfl ?_ | refine TrQ.gq rfl rfl hT4 (QS.elRA rfl (by repeat (first | exact List.Mem.head _ | apply List.Mem.tail)) Try.isAgg81 Try.sizeOf81 (by rfl) (by omega)) rfl ?_
      refine TrQ.gq rfl rfl hT4 (QS.call rfl Try.call83 (fun w hw => refEnd_any (l.getD k default) w (hB.at (by omega)))) rfl ?_
      refine TrQ.gq rfl rfl hT4 (QS.lss rfl rfl) rfl ?_
      refine TrQ.q (QS.pickT rfl hT4 rfl) rfl ?_
      exact TrQ.end (Sub.cons rfl (Sub.dropN 8 (by kernel_rfl) rfl))
    · intro hF4
      refine TrQ.gskip rfl rfl hF4 rfl ?_
      refine TrQ.gskip rfl rfl hF4 rfl ?_
      refine TrQ.gskip rfl rfl hF4 rfl ?_
      refine TrQ.gskip rfl rfl hF4 rfl ?_
      refine TrQ.gskip rfl rfl hF4 rfl ?_
      refine TrQ.gskip rfl rfl hF4 rfl ?_
      refine TrQ.gskip rfl rfl hF4 rfl ?_
      refine TrQ.q (QS.pickF rfl hF4 rfl) rfl ?_
      exact TrQ.end (Sub.cons rfl (Sub.dropN 8 (by kernel_rfl) rfl))
    refine TrQ.nil ?_
    refine Tr.thenN ?_
    refine Tr.cond rfl (fun h5 => ?_) (fun h5 => ?_)
    · try simp only [bs] at h5
      refine Tr.seq ?_
      refine Tr.region ?_
      refine Tr.q (QS.move rfl) rfl ?_
      refine Tr.q (QS.move rfl) rfl ?_
      first | refine Tr.q (QS.idxN rfl rfl (by assumption) Try.underlying53 Try.sizeOf81 (by rfl) (by omega)) rfl ?_ | refine Tr.q (QS.idxRowN rfl rfl (by repeat (first | exact List.Mem.head _ | apply List.Mem.tail)) Try.underlying53 Try.sizeOf81 (by rfl) (by omega)) rfl ?_ | refine Tr.q (QS.idx rfl rfl (by assumption) Try.underlying53 Try.sizeOf81 (by rfl) (by omega)) rfl ?_ | refine Tr.q (QS.idxRow rfl rfl (by repeat (first | exact List.Mem.head _ | apply List.Mem.tail)) Try.underlying53 Try.sizeOf81 (by rfl) (by omega)) rfl ?_
      first | refine Tr.q (QS.elA rfl (by assumption) Try.isAgg81 Try.sizeOf81 (by rfl) (by omega)) rfl ?_ | refine Tr.q (QS.elRA rfl (by repeat (first | exact List.Mem.head _ | apply List.Mem.tail)) Try.isAgg81 Try.sizeOf81 (by rfl) (by omega)) rfl ?_
      refine Tr.q (QS.call rfl Try.call83 (fun w hw => refEnd_any (l.getD k default) w (hB.at (by omega)))) rfl ?_
      refine Tr.q (QS.assign rfl) rfl ?_
      refine Tr.nil ?_
      refine Tr.thenN ?_
      refine Tr.ret ?_
      refine Tr.inR ?_
      refine Tr.thenR ?_
      refine Tr.thenR ?_
      refine Tr.inR ?_
      refine Tr.thenR ?_
      refine Tr.ret1 Try.results68 rfl (fun w' hw => ?_)
      have hh : hitS a n (l.getD k default) = true := by simp only [hitS, bs]; assumption
      exact ⟨by rw [← hk2, drop_cons (k := k) (by omega), obstF, if_pos hh], hw.below (Bg.le.refl _)⟩
    · try simp only [bs] at h5
      refine Tr.skip ?_
      refine Tr.inN ?_
      refine Tr.thenN ?_
      refine Tr.region ?_
      refine Tr.q (QS.move rfl) rfl ?_
      first | refine Tr.q (QS.addI rfl rfl (by omega)) rfl ?_ | refine Tr.q (QS.add rfl rfl) rfl ?_
      refine Tr.q (QS.assign rfl) rfl ?_
      refine Tr.nil ?_
      refine Tr.thenN ?_
      have hh : ¬ hitS a n (l.getD k default) = true := by rw [Bool.not_eq_true]; simp only [hitS, bs]; assumption
      apply Tr.again (k + 1)
      · exact rfl
      · exact (.cons (by first | rfl | exact lookI rfl (by omega) | exact lookI rfl (by simp) | exact lookB rfl (by simp)) Front.nil)
      · exact SubX.dropN 21 (by kernel_rfl) rfl
      · exact (by repeat' (first | exact Pick.nil _ | exact Del.here _ | apply Pick.cons | apply Del.there))
      · exact ⟨by omega, by rw [← hk2, drop_cons (k := k) (by omega), obstF, if_neg hh]⟩
      · exact (by (try dsimp only); omega)
  · try simp only [bs] at h1
    refine Tr.exit ?_
    refine Tr.thenE ?_
    refine Tr.thenE ?_
    refine Tr.inHit ?_
    refine Tr.thenN ?_
    refine Tr.seq ?_
    refine Tr.seq ?_
    refine Tr.region ?_
    refine Tr.q (QS.move rfl) rfl ?_
    refine Tr.q (QS.move rfl) rfl ?_
    first | refine Tr.q (QS.addI rfl rfl (by omega)) rfl ?_ | refine Tr.q (QS.add rfl rfl) rfl ?_
    refine Tr.q (QS.lss rfl rfl) rfl ?_
    refine Tr.q (QS.move rfl) rfl ?_
    apply Tr.andP
    · exact (rfl : _ = (3, 65, 68))
    · exact rfl
    · intro hT6; have hT6' := hT6
      try simp only [bs] at hT6'
      refine Tr.gq rfl rfl hT6 (QS.move rfl) rfl ?_
      refine Tr.gq rfl rfl hT6 (QS.lss rfl rfl) rfl ?_
      refine Tr.q (QS.pickT rfl hT6 rfl) rfl ?_
      refine Tr.nil (Tr.thenN ?_)
      exact Tr.endX (Sub.cons rfl (Sub.dropN 3 (by kernel_rfl) rfl))
    · intro hF6
      refine Tr.gskip rfl rfl hF6 rfl ?_
      refine Tr.gskip rfl rfl hF6 rfl ?_
      refine Tr.q (QS.pickF rfl hF6 rfl) rfl ?_
      refine Tr.nil (Tr.thenN ?_)
      exact Tr.endX (Sub.cons rfl (Sub.dropN 3 (by kernel_rfl) rfl))
    refine Tr.nil ?_
    refine Tr.thenN ?_
    refine Tr.cond rfl (fun h7 => ?_) (fun h7 => ?_)
    · try simp only [bs] at h7
      refine Tr.seq ?_
      refine Tr.region ?_
      refine Tr.q (QS.assign rfl) rfl ?_
      refine Tr.nil ?_
      refine Tr.thenN ?_
      refine Tr.ret ?_
      refine Tr.thenR ?_
      refine Tr.ret1 Try.results68 rfl (fun w' hw => ?_)
      exact ⟨by rw [← hk2, List.drop_of_length_le (by omega), obstF, if_pos (by assumption)], hw.below (Bg.le.refl _)⟩
    · try simp only [bs] at h7
      refine Tr.skip ?_
      refine Tr.thenN ?_
      refine Tr.seq ?_
      refine Tr.region ?_
      refine Tr.q (QS.assign rfl) rfl ?_
      refine Tr.nil ?_
      refine Tr.thenN ?_
      refine Tr.ret ?_
      refine Tr.ret1 Try.results68 rfl (fun w' hw => ?_)
      exact ⟨by rw [← hk2, List.drop_of_length_le (by omega), obstF, if_neg (by omega)], hw.below (Bg.le.refl _)⟩

set_option maxRecDepth 100000 in
set_option maxHeartbeats 2000000 in
theorem refFree_any (l : List SecV) (V : Value) (n : Int) (from_ : UInt32) (w : World) (hV : Sl (hp w) encSec l V) (hB : SecB l) :
    Calls Try.prog 41 #[V, .int .i64 n, .int .u32 from_.toNat] w (fun e w' => e = .returned (.tuple #[.int .u32 (freeP l n from_).1.toNat, .int .i64 (freeP l n from_).2]) ∧ Ext w w') := by
  have hV' : Sl (Bg.of w).blk encSec l V := hV
  have hlen := hB.1
  have hfr := from_.toNat_lt
  have hup := upP_u32 from_
  refine enter Try.func41 rfl Try.ntmps41 rfl ?_
  refine Tr.seq ?_
  refine Tr.region ?_
  refine Tr.q (QS.assign rfl) rfl ?_
  refine Tr.q (QS.assign rfl) rfl ?_
  refine Tr.nil ?_
  refine Tr.thenN ?_
  refine Tr.seq ?_
  refine Tr.seq ?_
  refine Tr.region ?_
  refine Tr.q (QS.move rfl) rfl ?_
  refine Tr.q (QS.lss rfl rfl) rfl ?_
  refine Tr.nil ?_
  refine Tr.thenN ?_
  refine Tr.cond rfl (fun h1 => ?_) (fun h1 => ?_)
  · try simp only [bs] at h1
    refine Tr.seq ?_
    refine Tr.region ?_
    refine Tr.q (QS.assign rfl) rfl ?_
    refine Tr.q (QS.assign rfl) rfl ?_
    refine Tr.nil ?_
    refine Tr.thenN ?_
    refine Tr.ret ?_
    refine Tr.thenR ?_
    refine Tr.ret2 Try.results41 rfl rfl (fun w' hw => ?_)
    exact ⟨by rw [freeP_1 (by assumption)]; rfl, hw.below (Bg.le.refl _)⟩
  · try simp only [bs] at h1
    refine Tr.skip ?_
    refine Tr.thenN ?_
    refine Tr.seq ?_
    refine Tr.seq ?_
    refine Tr.region ?_
    refine Tr.q (QS.move rfl) rfl ?_
    refine Tr.q (QS.gtr rfl rfl) rfl ?_
    refine Tr.nil ?_
    refine Tr.thenN ?_
    refine Tr.cond rfl (fun h2 => ?_) (fun h2 => ?_)
    · try simp only [bs] at h2
      refine Tr.seq ?_
      refine Tr.region ?_
      refine Tr.q (QS.assign rfl) rfl ?_
      refine Tr.q (QS.assign rfl) rfl ?_
      refine Tr.nil ?_
      refine Tr.thenN ?_
      refine Tr.ret ?_
      refine Tr.thenR ?_
      refine Tr.ret2 Try.results41 rfl rfl (fun w' hw => ?_)
      exact ⟨by rw [freeP_2 (by assumption) (.inl (by assumption))]; rfl, hw.below (Bg.le.refl _)⟩
    · try simp only [bs] at h2
      refine Tr.skip ?_
      refine Tr.thenN ?_
      refine Tr.seq ?_
      refine Tr.region ?_
      refine Tr.q (QS.move rfl) rfl ?_
      refine Tr.q (QS.cvt32toI rfl Try.underlying23 Try.underlying3) rfl ?_
      first | refine Tr.q (QS.addI rfl rfl (by omega)) rfl ?_ | refine Tr.q (QS.add rfl rfl) rfl ?_
      refine Tr.q (QS.quoI rfl rfl (by omega)) rfl ?_
      first | refine Tr.q (QS.mulI rfl rfl (by omega)) rfl ?_ | refine Tr.q (QS.mul rfl rfl) rfl ?_
      refine Tr.q (QS.assign rfl) rfl ?_
      refine Tr.nil ?_
      refine Tr.thenN ?_
      refine Tr.seq ?_
      refine Tr.block ?_
      refine Tr.loop (ι := Int) (fun a => (upP from_.toNat ≤ a ∧ a ≤ 4294967311) ∧ a % 16 = 0 ∧ (0 < n → ∀ m, m % 16 = 0 → upP from_.toNat ≤ m → m < a → ¬ FreeAt l n m) ∧ (n = 0 → a = upP from_.toNat)) (fun _ => _) (fun a => []) (fun a => [(8, .int .i64 a)]) (fun a => (4294967400 - a).toNat) (upP from_.toNat) ⟨⟨Int.le_refl _, hup.2⟩, upP_mod _, fun _ m _ h1 h2 => by omega, fun _ => rfl⟩ (.cons (by first | rfl | exact lookI rfl (by omega) | exact lookI rfl (by simp) | exact lookB rfl (by simp) | exact lookI rfl (by unfold upP; omega)) Front.nil) (by repeat' (first | exact Pick.nil _ | exact Del.here _ | apply Pick.cons | apply Del.there)) rfl (fun a hi m hm => ?_)
      replace hi : (upP from_.toNat ≤ a ∧ a ≤ 4294967311) ∧ a % 16 = 0 ∧ (0 < n → ∀ m, m % 16 = 0 → upP from_.toNat ≤ m → m < a → ¬ FreeAt l n m) ∧ (n = 0 → a = upP from_.toNat) := hi
      replace hm : m = (4294967400 - a).toNat := hm
      change Tr _ _ [] ([(8, .int .i64 a)] ++ _) _
      obtain ⟨hk1, hk2, hk3, hk4⟩ := hi
      have hob := fun q1 q2 => obst_all (l := l) (a := a) (n := n) q1 q2
      refine Tr.seq ?_
      refine Tr.seq ?_
      refine Tr.region ?_
      refine Tr.q (QS.move rfl) rfl ?_
      refine Tr.q (QS.move rfl) rfl ?_
      first | refine Tr.q (QS.subI rfl rfl (by omega)) rfl ?_ | refine Tr.q (QS.sub rfl rfl) rfl ?_
      refine Tr.q (QS.leq rfl rfl) rfl ?_
      refine Tr.nil ?_
      refine Tr.thenN ?_
      refine Tr.cond rfl (fun h3 => ?_) (fun h3 => ?_)
      · try simp only [bs] at h3
        refine Tr.skip ?_
        refine Tr.thenN ?_
        refine Tr.block ?_
        refine Tr.seq ?_
        refine Tr.seq ?_
        refine Tr.region ?_
        refine Tr.q (QS.move rfl) rfl ?_
        refine Tr.q (QS.eql rfl rfl) rfl ?_
        refine Tr.nil ?_
        refine Tr.thenN ?_
        refine Tr.cond rfl (fun h4 => ?_) (fun h4 => ?_)
        · try simp only [bs] at h4
          refine Tr.seq ?_
          refine Tr.region ?_
          refine Tr.q (QS.move rfl) rfl ?_
          refine Tr.q (QS.cvtTo32 rfl Try.underlying3 Try.underlying23) rfl ?_
          refine Tr.q (QS.assign rfl) rfl ?_
          refine Tr.q (QS.assign rfl) rfl ?_
          refine Tr.nil ?_
          refine Tr.thenN ?_
          refine Tr.ret ?_
          refine Tr.thenR ?_
          refine Tr.inR ?_
          refine Tr.thenR ?_
          refine Tr.inR ?_
          refine Tr.thenR ?_
          refine Tr.ret2 Try.results41 rfl rfl (fun w' hw => ?_)
          have hz : n = 0 := by assumption
          subst hz
          exact ⟨by rw [freeP_3 (by omega) (by rw [freeF_zero]; have := hk4 rfl; omega), freeF_zero, ← hk4 rfl], hw.below (Bg.le.refl _)⟩
        · try simp only [bs] at h4
          refine Tr.skip ?_
          refine Tr.thenN ?_
          refine Tr.seq ?_
          refine Tr.region ?_
          refine Tr.q (QS.move rfl) rfl ?_
          refine Tr.q (QS.move rfl) rfl ?_
          refine Tr.q (QS.move rfl) rfl ?_
          refine Tr.q (QS.call rfl Try.call68 (fun w hw => obst_any l V a n w (hw.slF hV) hB (by omega) (by omega))) rfl ?_
          refine Tr.q (QS.assign rfl) rfl ?_
          refine Tr.nil ?_
          refine Tr.thenN ?_
          refine Tr.seq ?_
          refine Tr.seq ?_
          have hob3 := hob (by omega) (by omega)
          refine Tr.region ?_
          refine Tr.q (QS.move rfl) rfl ?_
          refine Tr.q (QS.lss rfl rfl) rfl ?_
          refine Tr.nil ?_
          refine Tr.thenN ?_
          refine Tr.cond rfl (fun h5 => ?_) (fun h5 => ?_)
          · try simp only [bs] at h5
            refine Tr.seq ?_
            refine Tr.region ?_
            refine Tr.q (QS.move rfl) rfl ?_
            refine Tr.q (QS.cvtTo32 rfl Try.underlying3 Try.underlying23) rfl ?_
            refine Tr.q (QS.assign rfl) rfl ?_
            refine Tr.q (QS.assign rfl) rfl ?_
            refine Tr.nil ?_
            refine Tr.thenN ?_
            refine Tr.ret ?_
            refine Tr.thenR ?_
            refine Tr.inR ?_
            refine Tr.thenR ?_
            refine Tr.inR ?_
            refine Tr.thenR ?_
            refine Tr.ret2 Try.results41 rfl rfl (fun w' hw => ?_)
            have hnp : 0 < n := by omega
            have hfa := (hob3.resolve_right (fun q => by omega)).2
            have hfe := free_is hnp hk1.1 hk2 hfa (hk3 hnp)
            exact ⟨by rw [freeP_3 (by omega) (by rw [hfe]; omega), hfe], hw.below (Bg.le.refl _)⟩
          · try simp only [bs] at h5
            refine Tr.skip ?_
            refine Tr.thenN ?_
            refine Tr.region ?_
            refine Tr.q (QS.move rfl) rfl ?_
            first | refine Tr.q (QS.addI rfl rfl (by omega)) rfl ?_ | refine Tr.q (QS.add rfl rfl) rfl ?_
            refine Tr.q (QS.quoI rfl rfl (by omega)) rfl ?_
            first | refine Tr.q (QS.mulI rfl rfl (by omega)) rfl ?_ | refine Tr.q (QS.mul rfl rfl) rfl ?_
            refine Tr.q (QS.assign rfl) rfl ?_
            refine Tr.nil ?_
            refine Tr.inN ?_
            refine Tr.thenN ?_
            have hnp : 0 < n := by omega
            have hob2 := (hob (by omega) hnp).resolve_left (fun q => by omega)
            have hu := upP_ge (obstF a n l)
            have hnew : ∀ m, m % 16 = 0 → upP from_.toNat ≤ m → m < upP (obstF a n l) → ¬ FreeAt l n m := fun m q1 q2 q3 => (Decidable.em (m < a)).elim (fun c => hk3 hnp m q1 q2 c) (fun c => hob2.2.2 m (by omega) (upP_least q1 q3))
            have hlt : a < upP (obstF a n l) := by omega
            have hz : n = 0 → upP (obstF a n l) = upP from_.toNat := fun q => by omega
            apply Tr.again (upP (obstF a n l))
            · exact rfl
            · exact (.cons (by first | rfl | exact lookI rfl (by omega) | exact lookI rfl (by simp) | exact lookB rfl (by simp) | exact lookI rfl (by unfold upP; omega)) Front.nil)
            · exact SubX.dropN 19 (by kernel_rfl) rfl
            · exact (by repeat' (first | exact Pick.nil _ | exact Del.here _ | apply Pick.cons | apply Del.there))
            · exact ⟨by omega, upP_mod _, fun _ => hnew, hz⟩
            · exact (by (try dsimp only); omega)
      · try simp only [bs] at h3
        refine Tr.exit ?_
        refine Tr.thenE ?_
        refine Tr.thenE ?_
        refine Tr.inHit ?_
        refine Tr.thenN ?_
        refine Tr.seq ?_
        refine Tr.region ?_
        refine Tr.q (QS.assign rfl) rfl ?_
        refine Tr.q (QS.assign rfl) rfl ?_
        refine Tr.nil ?_
        refine Tr.thenN ?_
        refine Tr.ret ?_
        refine Tr.ret2 Try.results41 rfl rfl (fun w' hw => ?_)
        have hbig : 4294967295 < n ∨ 4294967295 < freeF n (takenP l) (upP from_.toNat) + n := by
          rcases (by omega : 0 < n ∨ n ≤ 0) with c | c
          · have := free_above c (hk3 c); omega
          · obtain rfl : n = 0 := by omega
            rw [freeF_zero, ← hk4 rfl]; omega
        exact ⟨by rw [freeP_2 (by omega) hbig]; rfl, hw.below (Bg.le.refl _)⟩

set_option maxRecDepth 100000 in
set_option maxHeartbeats 2000000 in
theorem sameBytes_any (a b : List UInt8) (V W : Value) (w : World) (hV : Sl (hp w) encU8 a V) (hW : Sl (hp w) encU8 b W) :
    Calls Try.prog 48 #[V, W] w (fun e w' => e = .returned (.bool (decide (a = b))) ∧ Ext w w') := by
  have hV' : Sl (Bg.of w).blk encU8 a V := hV
  have hW' : Sl (Bg.of w).blk encU8 b W := hW
  have hl1 := hV.len_le
  have hl2 := hW.len_le
  refine enter Try.func48 rfl Try.ntmps48 rfl ?_
  refine Tr.seq ?_
  refine Tr.region ?_
  refine Tr.q (QS.assign rfl) rfl ?_
  refine Tr.nil ?_
  refine Tr.thenN ?_
  refine Tr.seq ?_
  refine Tr.seq ?_
  refine Tr.region ?_
  refine Tr.q (QS.move rfl) rfl ?_
  first | refine Tr.q (QS.len rfl (by assumption) Try.underlying22) rfl ?_ | refine Tr.q (QS.lenRow rfl (by repeat (first | exact List.Mem.head _ | apply List.Mem.tail)) Try.underlying22) rfl ?_ | refine Tr.q (QS.lenNil rfl Try.underlying22) rfl ?_
  refine Tr.q (QS.move rfl) rfl ?_
  first | refine Tr.q (QS.len rfl (by assumption) Try.underlying22) rfl ?_ | refine Tr.q (QS.lenRow rfl (by repeat (first | exact List.Mem.head _ | apply List.Mem.tail)) Try.underlying22) rfl ?_ | refine Tr.q (QS.lenNil rfl Try.underlying22) rfl ?_
  refine Tr.q (QS.neq rfl rfl) rfl ?_
  refine Tr.nil ?_
  refine Tr.thenN ?_
  refine Tr.cond rfl (fun h1 => ?_) (fun h1 => ?_)
  · try simp only [bs] at h1
    refine Tr.seq ?_
    refine Tr.region ?_
    refine Tr.q (QS.assign rfl) rfl ?_
    refine Tr.nil ?_
    refine Tr.thenN ?_
    refine Tr.ret ?_
    refine Tr.thenR ?_
    refine Tr.ret1 Try.results48 rfl (fun w' hw => ?_)
    exact ⟨by rw [decide_eq_false (fun e => by subst e; omega)], hw.below (Bg.le.refl _)⟩
  · try simp only [bs] at h1
    refine Tr.skip ?_
    refine Tr.thenN ?_
    refine Tr.seq ?_
    refine Tr.seq ?_
    refine Tr.region ?_
    refine Tr.q (QS.assign rfl) rfl ?_
    refine Tr.nil ?_
    refine Tr.thenN ?_
    refine Tr.block ?_
    refine Tr.loop (ι := Nat) (fun k => k ≤ a.length ∧ a.take k = b.take k) (fun _ => _) (fun k => []) (fun k => [(5, .int .i64 (k : Nat))]) (fun k => a.length - k) 0 ⟨by omega, rfl⟩ (.cons (by first | rfl | exact lookI rfl (by omega) | exact lookI rfl (by simp) | exact lookB rfl (by simp)) Front.nil) (by repeat' (first | exact Pick.nil _ | exact Del.here _ | apply Pick.cons | apply Del.there)) rfl (fun k hi m hm => ?_)
    replace hi : k ≤ a.length ∧ a.take k = b.take k := hi
    replace hm : m = a.length - k := hm
    change Tr _ _ [] ([(5, .int .i64 (k : Nat))] ++ _) _
    obtain ⟨hk1, hk3⟩ := hi
    refine Tr.seq ?_
    refine Tr.seq ?_
    refine Tr.region ?_
    refine Tr.q (QS.move rfl) rfl ?_
    refine Tr.q (QS.move rfl) rfl ?_
    first | refine Tr.q (QS.len rfl (by assumption) Try.underlying22) rfl ?_ | refine Tr.q (QS.lenRow rfl (by repeat (first | exact List.Mem.head _ | apply List.Mem.tail)) Try.underlying22) rfl ?_ | refine Tr.q (QS.lenNil rfl Try.underlying22) rfl ?_
    refine Tr.q (QS.lss rfl rfl) rfl ?_
    refine Tr.nil ?_
    refine Tr.thenN ?_
    refine Tr.cond rfl (fun h2 => ?_) (fun h2 => ?_)
    · try simp only [bs] at h2
      refine Tr.skip ?_
      refine Tr.thenN ?_
      refine Tr.seq ?_
      refine Tr.block ?_
      refine Tr.seq ?_
      refine Tr.regionQ HLF.mixed (by kernel_rfl) ?_
      refine TrQ.q (QS.move rfl) rfl ?_
      refine TrQ.q (QS.move rfl) rfl ?_
      first | refine TrQ.q (QS.idxN rfl rfl (by assumption) Try.underlying22 Try.sizeOf5 (by rfl) (by omega)) rfl ?_ | refine TrQ.q (QS.idxRowN rfl rfl (by repeat (first | exact List.Mem.head _ | apply List.Mem.tail)) Try.underlying22 Try.sizeOf5 (by rfl) (by omega)) rfl ?_ | refine TrQ.q (QS.idx rfl rfl (by assumption) Try.underlying22 Try.sizeOf5 (by rfl) (by omega)) rfl ?_ | refine TrQ.q (QS.idxRow rfl rfl (by repeat (first | exact List.Mem.head _ | apply List.Mem.tail)) Try.underlying22 Try.sizeOf5 (by rfl) (by omega)) rfl ?_
      first | refine TrQ.q (QS.el1 rfl (by assumption) Try.isAgg5 (by omega) (by rfl)) rfl ?_ | refine TrQ.q (QS.elR1 rfl (by repeat (first | exact List.Mem.head _ | apply List.Mem.tail)) Try.isAgg5 (by omega) (by rfl)) rfl ?_
      refine TrQ.q (QS.move rfl) rfl ?_
      refine TrQ.q (QS.move rfl) rfl ?_
      first | refine TrQ.q (QS.idxN rfl rfl (by assumption) Try.underlying22 Try.sizeOf5 (by rfl) (by omega)) rfl ?_ | refine TrQ.q (QS.idxRowN rfl rfl (by repeat (first | exact List.Mem.head _ | apply List.Mem.tail)) Try.underlying22 Try.sizeOf5 (by rfl) (by omega)) rfl ?_ | refine TrQ.q (QS.idx rfl rfl (by assumption) Try.underlying22 Try.sizeOf5 (by rfl) (by omega)) rfl ?_ | refine TrQ.q (QS.idxRow rfl rfl (by repeat (first | exact List.Mem.head _ | apply List.Mem.tail)) Try.underlying22 Try.sizeOf5 (by rfl) (by omega)) rfl ?_
      first | refine TrQ.q (QS.el1 rfl (by assumption) Try.isAgg5 (by omega) (by rfl)) rfl ?_ | refine TrQ.q (QS.elR1 rfl (by repeat (first | exact List.Mem.head _ | apply List.Mem.tail)) Try.isAgg5 (by omega) (by rfl)) rfl ?_
      refine TrQ.q (QS.neq8 rfl rfl) rfl ?_
      refine TrQ.nil ?_
      refine Tr.thenN ?_
      refine Tr.cond rfl (fun h3 => ?_) (fun h3 => ?_)
      · try simp only [bs] at h3
        refine Tr.seq ?_
        refine Tr.region ?_
        refine Tr.q (QS.assign rfl) rfl ?_
        refine Tr.nil ?_
        refine Tr.thenN ?_
        refine Tr.ret ?_
        refine Tr.inR ?_
        refine Tr.thenR ?_
        refine Tr.thenR ?_
        refine Tr.inR ?_
        refine Tr.thenR ?_
        refine Tr.ret1 Try.results48 rfl (fun w' hw => ?_)
        exact ⟨by rw [decide_eq_false (fun e => by subst e; simp_all)], hw.below (Bg.le.refl _)⟩
      · try simp only [bs] at h3
        refine Tr.skip ?_
        refine Tr.inN ?_
        refine Tr.thenN ?_
        refine Tr.region ?_
        refine Tr.q (QS.move rfl) rfl ?_
        first | refine Tr.q (QS.addI rfl rfl (by omega)) rfl ?_ | refine Tr.q (QS.add rfl rfl) rfl ?_
        refine Tr.q (QS.assign rfl) rfl ?_
        refine Tr.nil ?_
        refine Tr.thenN ?_
        apply Tr.again (k + 1)
        · exact rfl
        · exact (.cons (by first | rfl | exact lookI rfl (by omega) | exact lookI rfl (by simp) | exact lookB rfl (by simp)) Front.nil)
        · exact SubX.dropN 17 (by kernel_rfl) rfl
        · exact (by repeat' (first | exact Pick.nil _ | exact Del.here _ | apply Pick.cons | apply Del.there))
        · exact ⟨by omega, by rw [take_succ (by omega), take_succ (by omega), hk3]; congr 2⟩
        · exact (by (try dsimp only); omega)
    · try simp only [bs] at h2
      refine Tr.exit ?_
      refine Tr.thenE ?_
      refine Tr.thenE ?_
      refine Tr.inHit ?_
      refine Tr.thenN ?_
      refine Tr.seq ?_
      refine Tr.region ?_
      refine Tr.q (QS.assign rfl) rfl ?_
      refine Tr.nil ?_
      refine Tr.thenN ?_
      refine Tr.ret ?_
      refine Tr.ret1 Try.results48 rfl (fun w' hw => ?_)
      exact ⟨by rw [decide_eq_true (show a = b by rw [← List.take_of_length_le (show a.length ≤ k by omega), hk3, List.take_of_length_le (by omega)])], hw.below (Bg.le.refl _)⟩

set_option maxRecDepth 100000 in
set_option maxHeartbeats 2000000 in
theorem sameSections_any (a b : List SecV) (V W : Value) (w : World) (hV : Sl (hp w) encSec a V) (hW : Sl (hp w) encSec b W) (hA : DataIn (hp w) a) (hC : DataIn (hp w) b) :
    Calls Try.prog 49 #[V, W] w (fun e w' => e = .returned (.bool (decide (a.map SecV.pl = b.map SecV.pl))) ∧ Ext w w') := by
  have hV' : Sl (Bg.of w).blk encSec a V := hV
  have hW' : Sl (Bg.of w).blk encSec b W := hW
  have hl1 := hV.len_le
  have hl2 := hW.len_le
  refine enter Try.func49 rfl Try.ntmps49 rfl ?_
  refine Tr.seq ?_
  refine Tr.region ?_
  refine Tr.q (QS.assign rfl) rfl ?_
  refine Tr.nil ?_
  refine Tr.thenN ?_
  refine Tr.seq ?_
  refine Tr.seq ?_
  refine Tr.region ?_
  refine Tr.q (QS.move rfl) rfl ?_
  first | refine Tr.q (QS.len rfl (by assumption) Try.underlying53) rfl ?_ | refine Tr.q (QS.lenRow rfl (by repeat (first | exact List.Mem.head _ | apply List.Mem.tail)) Try.underlying53) rfl ?_ | refine Tr.q (QS.lenNil rfl Try.underlying53) rfl ?_
  refine Tr.q (QS.move rfl) rfl ?_
  first | refine Tr.q (QS.len rfl (by assumption) Try.underlying53) rfl ?_ | refine Tr.q (QS.lenRow rfl (by repeat (first | exact List.Mem.head _ | apply List.Mem.tail)) Try.underlying53) rfl ?_ | refine Tr.q (QS.lenNil rfl Try.underlying53) rfl ?_
  refine Tr.q (QS.neq rfl rfl) rfl ?_
  refine Tr.nil ?_
  refine Tr.thenN ?_
  refine Tr.cond rfl (fun h1 => ?_) (fun h1 => ?_)
  · try simp only [bs] at h1
    refine Tr.seq ?_
    refine Tr.region ?_
    refine Tr.q (QS.assign rfl) rfl ?_
    refine Tr.nil ?_
    refine Tr.thenN ?_
    refine Tr.ret ?_
    refine Tr.thenR ?_
    refine Tr.ret1 Try.results49 rfl (fun w' hw => ?_)
    exact ⟨by rw [decide_eq_false (fun e => by have := map_pl_len e; omega)], hw.below (Bg.le.refl _)⟩
  · try simp only [bs] at h1
    refine Tr.skip ?_
    refine Tr.thenN ?_
    refine Tr.seq ?_
    refine Tr.seq ?_
    refine Tr.region ?_
    refine Tr.q (QS.assign rfl) rfl ?_
    refine Tr.nil ?_
    refine Tr.thenN ?_
    refine Tr.block ?_
    refine Tr.loop (ι := Nat) (fun k => k ≤ a.length ∧ (a.take k).map SecV.pl = (b.take k).map SecV.pl) (fun _ => _) (fun k => []) (fun k => [(5, .int .i64 (k : Nat))]) (fun k => a.length - k) 0 ⟨by omega, rfl⟩ (.cons (by first | rfl | exact lookI rfl (by omega) | exact lookI rfl (by simp) | exact lookB rfl (by simp)) Front.nil) (by repeat' (first | exact Pick.nil _ | exact Del.here _ | apply Pick.cons | apply Del.there)) rfl (fun k hi m hm => ?_)
    replace hi : k ≤ a.length ∧ (a.take k).map SecV.pl = (b.take k).map SecV.pl := hi
    replace hm : m = a.length - k := hm
    change Tr _ _ [] ([(5, .int .i64 (k : Nat))] ++ _) _
    obtain ⟨hk1, hk3⟩ := hi
    refine Tr.seq ?_
    refine Tr.seq ?_
    refine Tr.region ?_
    refine Tr.q (QS.move rfl) rfl ?_
    refine Tr.q (QS.move rfl) rfl ?_
    first | refine Tr.q (QS.len rfl (by assumption) Try.underlying53) rfl ?_ | refine Tr.q (QS.lenRow rfl (by repeat (first | exact List.Mem.head _ | apply List.Mem.tail)) Try.underlying53) rfl ?_ | refine Tr.q (QS.lenNil rfl Try.underlying53) rfl ?_
    refine Tr.q (QS.lss rfl rfl) rfl ?_
    refine Tr.nil ?_
    refine Tr.thenN ?_
    refine Tr.cond rfl (fun h2 => ?_) (fun h2 => ?_)
    · try simp only [bs] at h2
      refine Tr.skip ?_
      refine Tr.thenN ?_
      refine Tr.seq ?_
      refine Tr.block ?_
      refine Tr.seq ?_
      refine Tr.regionQ HLF.mixed (by kernel_rfl) ?_
      refine TrQ.q (QS.move rfl) rfl ?_
      refine TrQ.q (QS.move rfl) rfl ?_
      first | refine TrQ.q (QS.idxN rfl rfl (by assumption) Try.underlying53 Try.sizeOf81 (by rfl) (by omega)) rfl ?_ | refine TrQ.q (QS.idxRowN rfl rfl (by repeat (first | exact List.Mem.head _ | apply List.Mem.tail)) Try.underlying53 Try.sizeOf81 (by rfl) (by omega)) rfl ?_ | refine TrQ.q (QS.idx rfl rfl (by assumption) Try.underlying53 Try.sizeOf81 (by rfl) (by omega)) rfl ?_ | refine TrQ.q (QS.idxRow rfl rfl (by repeat (first | exact List.Mem.head _ | apply List.Mem.tail)) Try.underlying53 Try.sizeOf81 (by rfl) (by omega)) rfl ?_
      refine TrQ.q (QS.fieldAddr (off := 0) (ft := 9) rfl Try.underlying81 rfl rfl Try.sizeOf9 (by decide)) rfl ?_
      first | refine TrQ.q (QS.elF rfl (by assumption) Try.isAgg9 (by omega) (by rfl)) rfl ?_ | refine TrQ.q (QS.elRF rfl (by repeat (first | exact List.Mem.head _ | apply List.Mem.tail)) Try.isAgg9 (by omega) (by rfl)) rfl ?_
      refine TrQ.q (QS.move rfl) rfl ?_
      refine TrQ.q (QS.move rfl) rfl ?_
      first | refine TrQ.q (QS.idxN rfl rfl (by assumption) Try.underlying53 Try.sizeOf81 (by rfl) (by omega)) rfl ?_ | refine TrQ.q (QS.idxRowN rfl rfl (by repeat (first | exact List.Mem.head _ | apply List.Mem.tail)) Try.underlying53 Try.sizeOf81 (by rfl) (by omega)) rfl ?_ | refine TrQ.q (QS.idx rfl rfl (by assumption) Try.underlying53 Try.sizeOf81 (by rfl) (by omega)) rfl ?_ | refine TrQ.q (QS.idxRow rfl rfl (by repeat (first | exact List.Mem.head _ | apply List.Mem.tail)) Try.underlying53 Try.sizeOf81 (by rfl) (by omega)) rfl ?_
      refine TrQ.q (QS.fieldAddr (off := 0) (ft := 9) rfl Try.underlying81 rfl rfl Try.sizeOf9 (by decide)) rfl ?_
      first | refine TrQ.q (QS.elF rfl (by assumption) Try.isAgg9 (by omega) (by rfl)) rfl ?_ | refine TrQ.q (QS.elRF rfl (by repeat (first | exact List.Mem.head _ | apply List.Mem.tail)) Try.isAgg9 (by omega) (by rfl)) rfl ?_
      refine TrQ.q (QS.str_neq rfl rfl) rfl ?_
      refine TrQ.q (QS.move rfl) rfl ?_
      apply TrQ.orP
      · exact (rfl : _ = (12, 28, 40))
      · exact rfl
      · intro hF3; have hF3' := hF3
        try simp only [bs] at hF3'
        refine TrQ.gq rfl rfl hF3 (QS.move rfl) rfl ?_
        refine TrQ.gq rfl rfl hF3 (QS.move rfl) rfl ?_
        first | refine TrQ.gq rfl rfl hF3 (QS.idxN rfl rfl (by assumption) Try.underlying53 Try.sizeOf81 (by rfl) (by omega)) rfl ?_ | refine TrQ.gq rfl rfl hF3 (QS.idxRowN rfl rfl (by repeat (first | exact List.Mem.head _ | apply List.Mem.tail)) Try.underlying53 Try.sizeOf81 (by rfl) (by omega)) rfl ?_ | refine TrQ.gq rfl rfl hF3 (QS.idx rfl rfl (by assumption) Try.underlying53 Try.sizeOf81 (by rfl) (by omega)) rfl ?_ | refine TrQ.gq rfl rfl hF3 (QS.idxRow rfl rfl (by repeat (first | exact List.Mem.head _ | apply List.Mem.tail)) Try.underlying53 Try.sizeOf81 (by rfl) (by omega)) rfl ?_
        refine TrQ.gq rfl rfl hF3 (QS.fieldAddr (off := 1) (ft := 23) rfl Try.underlying81 rfl rfl Try.sizeOf23 (by decide)) rfl ?_
        first | refine TrQ.gq rfl rfl hF3 (QS.elF rfl (by assumption) Try.isAgg23 (by omega) (by rfl)) rfl ?_ | refine TrQ.gq rfl rfl hF3 (QS.elRF rfl (by repeat (first | exact List.Mem.head _ | apply List.Mem.tail)) Try.isAgg23 (by omega) (by rfl)) rfl ?_
        refine TrQ.gq rfl rfl hF3 (QS.move rfl) rfl ?_
        refine TrQ.gq rfl rfl hF3 (QS.move rfl) rfl ?_
        first | refine TrQ.gq rfl rfl hF3 (QS.idxN rfl rfl (by assumption) Try.underlying53 Try.sizeOf81 (by rfl) (by omega)) rfl ?_ | refine TrQ.gq rfl rfl hF3 (QS.idxRowN rfl rfl (by repeat (first | exact List.Mem.head _ | apply List.Mem.tail)) Try.underlying53 Try.sizeOf81 (by rfl) (by omega)) rfl ?_ | refine TrQ.gq rfl rfl hF3 (QS.idx rfl rfl (by assumption) Try.underlying53 Try.sizeOf81 (by rfl) (by omega)) rfl ?_ | refine TrQ.gq rfl rfl hF3 (QS.idxRow rfl rfl (by repeat (first | exact List.Mem.head _ | apply List.Mem.tail)) Try.underlying53 Try.sizeOf81 (by rfl) (by omega)) rfl ?_
        refine TrQ.gq rfl rfl hF3 (QS.fieldAddr (off := 1) (ft := 23) rfl Try.underlying81 rfl rfl Try.sizeOf23 (by decide)) rfl ?_
        first | refine TrQ.gq rfl rfl hF3 (QS.elF rfl (by assumption) Try.isAgg23 (by omega) (by rfl)) rfl ?_ | refine TrQ.gq rfl rfl hF3 (QS.elRF rfl (by repeat (first | exact List.Mem.head _ | apply List.Mem.tail)) Try.isAgg23 (by omega) (by rfl)) rfl ?_
        refine TrQ.gq rfl rfl hF3 (QS.neq32 rfl rfl) rfl ?_
        refine TrQ.q (QS.pickF rfl hF3 rfl) rfl ?_
        exact TrQ.end (Sub.cons rfl (Sub.dropN 12 (by kernel_rfl) rfl))
      · intro hT3
        refine TrQ.gskip rfl rfl hT3 rfl ?_
        refine TrQ.gskip rfl rfl hT3 rfl ?_
        refine TrQ.gskip rfl rfl hT3 rfl ?_
        refine TrQ.gskip rfl rfl hT3 rfl ?_
        refine TrQ.gskip rfl rfl hT3 rfl ?_
        refine TrQ.gskip rfl rfl hT3 rfl ?_
        refine TrQ.gskip rfl rfl hT3 rfl ?_
        refine TrQ.gskip rfl rfl hT3 rfl ?_
        refine TrQ.gskip rfl rfl hT3 rfl ?_
        refine TrQ.gskip rfl rfl hT3 rfl ?_
        refine TrQ.gskip rfl rfl hT3 rfl ?_
        refine TrQ.q (QS.pickT rfl hT3 rfl) rfl ?_
        exact TrQ.end (Sub.cons rfl (Sub.dropN 12 (by kernel_rfl) rfl))
      refine TrQ.q (QS.move rfl) rfl ?_
      apply TrQ.orP
      · exact (rfl : _ = (12, 41, 53))
      · exact rfl
      · intro hF4; have hF4' := hF4
        try simp only [bs] at hF4'
        refine TrQ.gq rfl rfl hF4 (QS.move rfl) rfl ?_
        refine TrQ.gq rfl rfl hF4 (QS.move rfl) rfl ?_
        first | refine TrQ.gq rfl rfl hF4 (QS.idxN rfl rfl (by assumption) Try.underlying53 Try.sizeOf81 (by rfl) (by omega)) rfl ?_ | refine TrQ.gq rfl rfl hF4 (QS.idxRowN rfl rfl (by repeat (first | exact List.Mem.head _ | apply List.Mem.tail)) Try.underlying53 Try.sizeOf81 (by rfl) (by omega)) rfl ?_ | refine TrQ.gq rfl rfl hF4 (QS.idx rfl rfl (by assumption) Try.underlying53 Try.sizeOf81 (by rfl) (by omega)) rfl ?_ | refine TrQ.gq rfl rfl hF4 (QS.idxRow rfl rfl (by repeat (first | exact List.Mem.head _ | apply List.Mem.tail)) Try.underlying53 Try.sizeOf81 (by rfl) (by omega)) rfl ?_
        refine TrQ.gq rfl rfl hF4 (QS.fieldAddr (off := 3) (ft := 4) rfl Try.underlying81 rfl rfl Try.sizeOf4 (by decide)) rfl ?_
        first | refine TrQ.gq rfl rfl hF4 (QS.elF rfl (by assumption) Try.isAgg4 (by omega) (by rfl)) rfl ?_ | refine TrQ.gq rfl rfl hF4 (QS.elRF rfl (by repeat (first | exact List.Mem.head _ | apply List.Mem.tail)) Try.isAgg4 (by omega) (by rfl)) rfl ?_
        refine TrQ.gq rfl rfl hF4 (QS.move rfl) rfl ?_
        refine TrQ.gq rfl rfl hF4 (QS.move rfl) rfl ?_
        first | refine TrQ.gq rfl rfl hF4 (QS.idxN rfl rfl (by assumption) Try.underlying53 Try.sizeOf81 (by rfl) (by omega)) rfl ?_ | refine TrQ.gq rfl rfl hF4 (QS.idxRowN rfl rfl (by repeat (first | exact List.Mem.head _ | apply List.Mem.tail)) Try.underlying53 Try.sizeOf81 (by rfl) (by omega)) rfl ?_ | refine TrQ.gq rfl rfl hF4 (QS.idx rfl rfl (by assumption) Try.underlying53 Try.sizeOf81 (by rfl) (by omega)) rfl ?_ | refine TrQ.gq rfl rfl hF4 (QS.idxRow rfl rfl (by repeat (first | exact List.Mem.head _ | apply List.Mem.tail)) Try.underlying53 Try.sizeOf81 (by rfl) (by omega)) rfl ?_
        refine TrQ.gq rfl rfl hF4 (QS.fieldAddr (off := 3) (ft := 4) rfl Try.underlying81 rfl rfl Try.sizeOf4 (by decide)) rfl ?_
        first | refine TrQ.gq rfl rfl hF4 (QS.elF rfl (by assumption) Try.isAgg4 (by omega) (by rfl)) rfl ?_ | refine TrQ.gq rfl rfl hF4 (QS.elRF rfl (by repeat (first | exact List.Mem.head _ | apply List.Mem.tail)) Try.isAgg4 (by omega) (by rfl)) rfl ?_
        refine TrQ.gq rfl rfl hF4 (QS.bool_neq rfl rfl Try.underlying4) rfl ?_
        refine TrQ.q (QS.pickF rfl hF4 rfl) rfl ?_
        exact TrQ.end (Sub.cons rfl (Sub.dropN 12 (by kernel_rfl) rfl))
      · intro hT4
        refine TrQ.gskip rfl rfl hT4 rfl ?_
        refine TrQ.gskip rfl rfl hT4 rfl ?_
        refine TrQ.gskip rfl rfl hT4 rfl ?_
        refine TrQ.gskip rfl rfl hT4 rfl ?_
        refine TrQ.gskip rfl rfl hT4 rfl ?_
        refine TrQ.gskip rfl rfl hT4 rfl ?_
        refine TrQ.gskip rfl rfl hT4 rfl ?_
        refine TrQ.gskip rfl rfl hT4 rfl ?_
        refine TrQ.gskip rfl rfl hT4 rfl ?_
        refine TrQ.gskip rfl rfl hT4 rfl ?_
        refine TrQ.gskip rfl rfl hT4 rfl ?_
        refine TrQ.q (QS.pickT rfl hT4 rfl) rfl ?_
        exact TrQ.end (Sub.cons rfl (Sub.dropN 12 (by kernel_rfl) rfl))
      refine TrQ.q (QS.move rfl) rfl ?_
      apply TrQ.orP
      · exact (rfl : _ = (12, 54, 66))
      · exact rfl
      · intro hF5; have hF5' := hF5
        try simp only [bs] at hF5'
        refine TrQ.gq rfl rfl hF5 (QS.move rfl) rfl ?_
        refine TrQ.gq rfl rfl hF5 (QS.move rfl) rfl ?_
        first | refine TrQ.gq rfl rfl hF5 (QS.idxN rfl rfl (by assumption) Try.underlying53 Try.sizeOf81 (by rfl) (by omega)) rfl ?_ | refine TrQ.gq rfl rfl hF5 (QS.idxRowN rfl rfl (by repeat (first | exact List.Mem.head _ | apply List.Mem.tail)) Try.underlying53 Try.sizeOf81 (by rfl) (by omega)) rfl ?_ | refine TrQ.gq rfl rfl hF5 (QS.idx rfl rfl (by assumption) Try.underlying53 Try.sizeOf81 (by rfl) (by omega)) rfl ?_ | refine TrQ.gq rfl rfl hF5 (QS.idxRow rfl rfl (by repeat (first | exact List.Mem.head _ | apply List.Mem.tail)) Try.underlying53 Try.sizeOf81 (by rfl) (by omega)) rfl ?_
        refine TrQ.gq rfl rfl hF5 (QS.fieldAddr (off := 4) (ft := 4) rfl Try.underlying81 rfl rfl Try.sizeOf4 (by decide)) rfl ?_
        first | refine TrQ.gq rfl rfl hF5 (QS.elF rfl (by assumption) Try.isAgg4 (by omega) (by rfl)) rfl ?_ | refine TrQ.gq rfl rfl hF5 (QS.elRF rfl (by repeat (first | exact List.Mem.head _ | apply List.Mem.tail)) Try.isAgg4 (by omega) (by rfl)) rfl ?_
        refine TrQ.gq rfl rfl hF5 (QS.move rfl) rfl ?_
        refine TrQ.gq rfl rfl hF5 (QS.move rfl) rfl ?_
        first | refine TrQ.gq rfl rfl hF5 (QS.idxN rfl rfl (by assumption) Try.underlying53 Try.sizeOf81 (by rfl) (by omega)) rfl ?_ | refine TrQ.gq rfl rfl hF5 (QS.idxRowN rfl rfl (by repeat (first | exact List.Mem.head _ | apply List.Mem.tail)) Try.underlying53 Try.sizeOf81 (by rfl) (by omega)) rfl ?_ | refine TrQ.gq rfl rfl hF5 (QS.idx rfl rfl (by assumption) Try.underlying53 Try.sizeOf81 (by rfl) (by omega)) rfl ?_ | refine TrQ.gq rfl rfl hF5 (QS.idxRow rfl rfl (by repeat (first | exact List.Mem.head _ | apply List.Mem.tail)) Try.underlying53 Try.sizeOf81 (by rfl) (by omega)) rfl ?_
        refine TrQ.gq rfl rfl hF5 (QS.fieldAddr (off := 4) (ft := 4) rfl Try.underlying81 rfl rfl Try.sizeOf4 (by decide)) rfl ?_
        first | refine TrQ.gq rfl rfl hF5 (QS.elF rfl (by assumption) Try.isAgg4 (by omega) (by rfl)) rfl ?_ | refine TrQ.gq rfl rfl hF5 (QS.elRF rfl (by repeat (first | exact List.Mem.head _ | apply List.Mem.tail)) Try.isAgg4 (by omega) (by rfl)) rfl ?_
        refine TrQ.gq rfl rfl hF5 (QS.bool_neq rfl rfl Try.underlying4) rfl ?_
        refine TrQ.q (QS.pickF rfl hF5 rfl) rfl ?_
        exact TrQ.end (Sub.cons rfl (Sub.dropN 12 (by kernel_rfl) rfl))
      · intro hT5
        refine TrQ.gskip rfl rfl hT5 rfl ?_
        refine TrQ.gskip rfl rfl hT5 rfl ?_
        refine TrQ.gskip rfl rfl hT5 rfl ?_
        refine TrQ.gskip rfl rfl hT5 rfl ?_
        refine TrQ.gskip rfl rfl hT5 rfl ?_
        refine TrQ.gskip rfl rfl hT5 rfl ?_
        refine TrQ.gskip rfl rfl hT5 rfl ?_
        refine TrQ.gskip rfl rfl hT5 rfl ?_
        refine TrQ.gskip rfl rfl hT5 rfl ?_
        refine TrQ.gskip rfl rfl hT5 rfl ?_
        refine TrQ.gskip rfl rfl hT5 rfl ?_
        refine TrQ.q (QS.pickT rfl hT5 rfl) rfl ?_
        exact TrQ.end (Sub.cons rfl (Sub.dropN 12 (by kernel_rfl) rfl))
      refine TrQ.q (QS.move rfl) rfl ?_
      apply TrQ.orP
      · exact (rfl : _ = (13, 67, 80))
      · exact rfl
      · intro hF6; have hF6' := hF6
        try simp only [bs] at hF6'
        refine TrQ.gq rfl rfl hF6 (QS.move rfl) rfl ?_
        refine TrQ.gq rfl rfl hF6 (QS.move rfl) rfl ?_
        first | refine TrQ.gq rfl rfl hF6 (QS.idxN rfl rfl (by assumption) Try.underlying53 Try.sizeOf81 (by rfl) (by omega)) rfl ?_ | refine TrQ.gq rfl rfl hF6 (QS.idxRowN rfl rfl (by repeat (first | exact List.Mem.head _ | apply List.Mem.tail)) Try.underlying53 Try.sizeOf81 (by rfl) (by omega)) rfl ?_ | refine TrQ.gq rfl rfl hF6 (QS.idx rfl rfl (by assumption) Try.underlying53 Try.sizeOf81 (by rfl) (by omega)) rfl ?_ | refine TrQ.gq rfl rfl hF6 (QS.idxRow rfl rfl (by repeat (first | exact List.Mem.head _ | apply List.Mem.tail)) Try.underlying53 Try.sizeOf81 (by rfl) (by omega)) rfl ?_
        refine TrQ.gq rfl rfl hF6 (QS.fieldAddr (off := 2) (ft := 22) rfl Try.underlying81 rfl rfl Try.sizeOf22 (by decide)) rfl ?_
        first | refine TrQ.gq rfl rfl hF6 (QS.elF rfl (by assumption) Try.isAgg22 (by omega) (by rfl)) rfl ?_ | refine TrQ.gq rfl rfl hF6 (QS.elRF rfl (by repeat (first | exact List.Mem.head _ | apply List.Mem.tail)) Try.isAgg22 (by omega) (by rfl)) rfl ?_
        refine TrQ.gq rfl rfl hF6 (QS.move rfl) rfl ?_
        refine TrQ.gq rfl rfl hF6 (QS.move rfl) rfl ?_
        first | refine TrQ.gq rfl rfl hF6 (QS.idxN rfl rfl (by assumption) Try.underlying53 Try.sizeOf81 (by rfl) (by omega)) rfl ?_ | refine TrQ.gq rfl rfl hF6 (QS.idxRowN rfl rfl (by repeat (first | exact List.Mem.head _ | apply List.Mem.tail)) Try.underlying53 Try.sizeOf81 (by rfl) (by omega)) rfl ?_ | refine TrQ.gq rfl rfl hF6 (QS.idx rfl rfl (by assumption) Try.underlying53 Try.sizeOf81 (by rfl) (by omega)) rfl ?_ | refine TrQ.gq rfl rfl hF6 (QS.idxRow rfl rfl (by repeat (first | exact List.Mem.head _ | apply List.Mem.tail)) Try.underlying53 Try.sizeOf81 (by rfl) (by omega)) rfl ?_
        refine TrQ.gq rfl rfl hF6 (QS.fieldAddr (off := 2) (ft := 22) rfl Try.underlying81 rfl rfl Try.sizeOf22 (by decide)) rfl ?_
        first | refine TrQ.gq rfl rfl hF6 (QS.elF rfl (by assumption) Try.isAgg22 (by omega) (by rfl)) rfl ?_ | refine TrQ.gq rfl rfl hF6 (QS.elRF rfl (by repeat (first | exact List.Mem.head _ | apply List.Mem.tail)) Try.isAgg22 (by omega) (by rfl)) rfl ?_
        refine TrQ.gq rfl rfl hF6 (QS.call rfl Try.call48 (fun w hw => sameBytes_any (a.getD k default).data (b.getD k default).data _ _ w ((hA.mono hw.bg) _ (mem_getD (by omega))) ((hC.mono hw.bg) _ (mem_getD (by omega))))) rfl ?_
        refine TrQ.gq rfl rfl hF6 (QS.not rfl) rfl ?_
        refine TrQ.q (QS.pickF rfl hF6 rfl) rfl ?_
        exact TrQ.end (Sub.cons rfl (Sub.dropN 13 (by kernel_rfl) rfl))
      · intro hT6
        refine TrQ.gskip rfl rfl hT6 rfl ?_
        refine TrQ.gskip rfl rfl hT6 rfl ?_
        refine TrQ.gskip rfl rfl hT6 rfl ?_
        refine TrQ.gskip rfl rfl hT6 rfl ?_
        refine TrQ.gskip rfl rfl hT6 rfl ?_
        refine TrQ.gskip rfl rfl hT6 rfl ?_
        refine TrQ.gskip rfl rfl hT6 rfl ?_
        refine TrQ.gskip rfl rfl hT6 rfl ?_
        refine TrQ.gskip rfl rfl hT6 rfl ?_
        refine TrQ.gskip rfl rfl hT6 rfl ?_
        refine TrQ.gskip rfl rfl hT6 rfl ?_
        refine TrQ.gskip rfl rfl hT6 rfl ?_
        refine TrQ.q (QS.pickT rfl hT6 rfl) rfl ?_
        exact TrQ.end (Sub.cons rfl (Sub.dropN 13 (by kernel_rfl) rfl))
      refine TrQ.nil ?_
      refine Tr.thenN ?_
      refine Tr.cond rfl (fun h7 => ?_) (fun h7 => ?_)
      · try simp only [bs] at h7
        refine Tr.seq ?_
        refine Tr.region ?_
        refine Tr.q (QS.assign rfl) rfl ?_
        refine Tr.nil ?_
        refine Tr.thenN ?_
        refine Tr.ret ?_
        refine Tr.inR ?_
        refine Tr.thenR ?_
        refine Tr.thenR ?_
        refine Tr.inR ?_
        refine Tr.thenR ?_
        refine Tr.ret1 Try.results49 rfl (fun w' hw => ?_)
        have hpe : ¬ (a.getD k default).pl = (b.getD k default).pl := fun e => by obtain ⟨g1, g2, g3, g4, g5⟩ := pl_data e; simp_all
        exact ⟨by rw [decide_eq_false (fun e => hpe (map_pl_get e k))], hw.below (Bg.le.refl _)⟩
      · try simp only [bs] at h7
        refine Tr.skip ?_
        refine Tr.inN ?_
        refine Tr.thenN ?_
        refine Tr.region ?_
        refine Tr.q (QS.move rfl) rfl ?_
        first | refine Tr.q (QS.addI rfl rfl (by omega)) rfl ?_ | refine Tr.q (QS.add rfl rfl) rfl ?_
        refine Tr.q (QS.assign rfl) rfl ?_
        refine Tr.nil ?_
        refine Tr.thenN ?_
        have hpe : (a.getD k default).pl = (b.getD k default).pl := by simp_all [SecV.pl]
        apply Tr.again (k + 1)
        · exact rfl
        · exact (.cons (by first | rfl | exact lookI rfl (by omega) | exact lookI rfl (by simp) | exact lookB rfl (by simp)) Front.nil)
        · exact SubX.dropN 27 (by kernel_rfl) rfl
        · exact (by repeat' (first | exact Pick.nil _ | exact Del.here _ | apply Pick.cons | apply Del.there))
        · exact ⟨by omega, by rw [take_succ (by omega), take_succ (by omega), List.map_append, List.map_append, hk3, List.map_cons, List.map_cons, hpe]⟩
        · exact (by (try dsimp only); omega)
    · try simp only [bs] at h2
      refine Tr.exit ?_
      refine Tr.thenE ?_
      refine Tr.thenE ?_
      refine Tr.inHit ?_
      refine Tr.thenN ?_
      refine Tr.seq ?_
      refine Tr.region ?_
      refine Tr.q (QS.assign rfl) rfl ?_
      refine Tr.nil ?_
      refine Tr.thenN ?_
      refine Tr.ret ?_
      refine Tr.ret1 Try.results49 rfl (fun w' hw => ?_)
      exact ⟨by rw [decide_eq_true (show a.map SecV.pl = b.map SecV.pl by rw [← List.take_of_length_le (show a.length ≤ k by omega), hk3, List.take_of_length_le (by omega)])], hw.below (Bg.le.refl _)⟩

set_option maxRecDepth 100000 in
set_option maxHeartbeats 2000000 in
theorem refOne_any (l : List SecV) (V : Value) (i : Nat) (w : World) (hV : Sl (hp w) encSec l V) (hB : SecB l) (hi : i < l.length) (hN : (l.getD i default).name.size ≤ 9223372036854775807) :
    Calls Try.prog 82 #[V, .int .i64 (i : Nat)] w (fun e w' => e = .returned (.int .i64 (oneP l i)) ∧ Ext w w') := by
  have hV' : Sl (Bg.of w).blk encSec l V := hV
  have hlen := hB.1
  obtain ⟨s, hs⟩ : ∃ s, s = l.getD i default := ⟨_, rfl⟩
  have hsd : s.data.length ≤ 200000 := by rw [hs]; exact hB.at hi
  have hadr := s.addr.toNat_lt
  have hst := stack_iff s
  refine enter Try.func82 rfl Try.ntmps82 rfl ?_
  refine Tr.seq ?_
  refine Tr.region ?_
  refine Tr.q (QS.assign rfl) rfl ?_
  refine Tr.nil ?_
  refine Tr.thenN ?_
  refine Tr.seq ?_
  refine Tr.region ?_
  refine Tr.q (QS.move rfl) rfl ?_
  refine Tr.q (QS.move rfl) rfl ?_
  first | refine Tr.q (QS.idxN rfl rfl (by assumption) Try.underlying53 Try.sizeOf81 (by rfl) (by omega)) rfl ?_ | refine Tr.q (QS.idxRowN rfl rfl (by repeat (first | exact List.Mem.head _ | apply List.Mem.tail)) Try.underlying53 Try.sizeOf81 (by rfl) (by omega)) rfl ?_ | refine Tr.q (QS.idx rfl rfl (by assumption) Try.underlying53 Try.sizeOf81 (by rfl) (by omega)) rfl ?_ | refine Tr.q (QS.idxRow rfl rfl (by repeat (first | exact List.Mem.head _ | apply List.Mem.tail)) Try.underlying53 Try.sizeOf81 (by rfl) (by omega)) rfl ?_
  first | refine Tr.q (QS.elA rfl (by assumption) Try.isAgg81 Try.sizeOf81 (by rfl) (by omega)) rfl ?_ | refine Tr.q (QS.elRA rfl (by repeat (first | exact List.Mem.head _ | apply List.Mem.tail)) Try.isAgg81 Try.sizeOf81 (by rfl) (by omega)) rfl ?_
  refine Tr.alloc Try.zeroValue81 rfl rfl (fun b1 => ?_)
  refine Tr.storeW rfl rfl Try.sizeOf81 (by repeat (first | exact Put.here _ | apply Put.there)) (by rfl) (by rfl) (by first | exact List.all_eq_true.1 rfl | exact Enc.one _ _ | exact Enc.one encSec _) rfl ?_
  refine Tr.nil ?_
  refine Tr.thenN ?_
  refine Tr.seq ?_
  refine Tr.seq ?_
  rw [← hs]
  refine Tr.region ?_
  refine Tr.q (QS.fieldAddr (off := 2) (ft := 22) rfl Try.underlying81 rfl rfl Try.sizeOf22 (by decide)) rfl ?_
  refine Tr.q (QS.lV rfl Try.isAgg22) rfl ?_
  first | refine Tr.q (QS.len rfl (by assumption) Try.underlying22) rfl ?_ | refine Tr.q (QS.lenRow rfl (by repeat (first | exact List.Mem.head _ | apply List.Mem.tail)) Try.underlying22) rfl ?_ | refine Tr.q (QS.lenNil rfl Try.underlying22) rfl ?_
  refine Tr.q (QS.gtr rfl rfl) rfl ?_
  refine Tr.nil ?_
  refine Tr.thenN ?_
  refine Tr.cond rfl (fun h2 => ?_) (fun h2 => ?_)
  · try simp only [bs] at h2
    refine Tr.seq ?_
    refine Tr.region ?_
    refine Tr.q (QS.assign rfl) rfl ?_
    refine Tr.nil ?_
    refine Tr.thenN ?_
    refine Tr.ret ?_
    refine Tr.thenR ?_
    refine Tr.ret1 Try.results82 rfl (fun w' hw => ?_)
    exact ⟨by unfold oneP; dsimp only; rw [← hs, if_pos (by assumption)], hw.below (Bg.le.refl _)⟩
  · try simp only [bs] at h2
    refine Tr.skip ?_
    refine Tr.thenN ?_
    refine Tr.seq ?_
    refine Tr.seq ?_
    refine Tr.region ?_
    refine Tr.q (QS.fieldAddr (off := 0) (ft := 9) rfl Try.underlying81 rfl rfl Try.sizeOf9 (by decide)) rfl ?_
    refine Tr.q (QS.lV rfl Try.isAgg9) rfl ?_
    refine Tr.q (QS.call rfl Try.call95 (fun w hw => refName_any s.name w (by rw [hs]; exact hN))) rfl ?_
    refine Tr.q (QS.not rfl) rfl ?_
    refine Tr.nil ?_
    refine Tr.thenN ?_
    refine Tr.cond rfl (fun h3 => ?_) (fun h3 => ?_)
    · try simp only [bs] at h3
      refine Tr.seq ?_
      refine Tr.region ?_
      refine Tr.q (QS.assign rfl) rfl ?_
      refine Tr.nil ?_
      refine Tr.thenN ?_
      refine Tr.ret ?_
      refine Tr.thenR ?_
      refine Tr.ret1 Try.results82 rfl (fun w' hw => ?_)
      exact ⟨by unfold oneP; dsimp only; rw [← hs, if_neg (by assumption), if_pos (by assumption)], hw.below (Bg.le.refl _)⟩
    · try simp only [bs] at h3
      refine Tr.skip ?_
      refine Tr.thenN ?_
      refine Tr.seq ?_
      refine Tr.seq ?_
      refine Tr.region ?_
      refine Tr.q (QS.assign rfl) rfl ?_
      refine Tr.nil ?_
      refine Tr.thenN ?_
      refine Tr.block ?_
      refine Tr.loop (ι := Nat) (fun k => k ≤ i ∧ (l.take k).any (fun x => decide (x.name = s.name)) = false) (fun _ => _) (fun k => [cellE b1 (encSec.enc s) 81]) (fun k => [(6, .int .i64 (k : Nat))]) (fun k => i - k) 0 ⟨Nat.zero_le _, rfl⟩ (.cons (by first | rfl | exact lookI rfl (by omega) | exact lookI rfl (by simp) | exact lookB rfl (by simp)) Front.nil) (by repeat' (first | exact Pick.nil _ | exact Del.here _ | apply Pick.cons | apply Del.there)) rfl (fun k hi m hm => ?_)
      replace hi : k ≤ i ∧ (l.take k).any (fun x => decide (x.name = s.name)) = false := hi
      replace hm : m = i - k := hm
      change Tr _ _ [cellE b1 (encSec.enc s) 81] ([(6, .int .i64 (k : Nat))] ++ _) _
      obtain ⟨hk1, hk2⟩ := hi
      refine Tr.seq ?_
      refine Tr.seq ?_
      refine Tr.region ?_
      refine Tr.q (QS.move rfl) rfl ?_
      refine Tr.q (QS.move rfl) rfl ?_
      refine Tr.q (QS.lss rfl rfl) rfl ?_
      refine Tr.nil ?_
      refine Tr.thenN ?_
      refine Tr.cond rfl (fun h4 => ?_) (fun h4 => ?_)
      · try simp only [bs] at h4
        refine Tr.skip ?_
        refine Tr.thenN ?_
        refine Tr.seq ?_
        refine Tr.block ?_
        refine Tr.seq ?_
        refine Tr.regionQ HLF.mixed (by kernel_rfl) ?_
        refine TrQ.q (QS.move rfl) rfl ?_
        refine TrQ.q (QS.move rfl) rfl ?_
        first | refine TrQ.q (QS.idxN rfl rfl (by assumption) Try.underlying53 Try.sizeOf81 (by rfl) (by omega)) rfl ?_ | refine TrQ.q (QS.idxRowN rfl rfl (by repeat (first | exact List.Mem.head _ | apply List.Mem.tail)) Try.underlying53 Try.sizeOf81 (by rfl) (by omega)) rfl ?_ | refine TrQ.q (QS.idx rfl rfl (by assumption) Try.underlying53 Try.sizeOf81 (by rfl) (by omega)) rfl ?_ | refine TrQ.q (QS.idxRow rfl rfl (by repeat (first | exact List.Mem.head _ | apply List.Mem.tail)) Try.underlying53 Try.sizeOf81 (by rfl) (by omega)) rfl ?_
        refine TrQ.q (QS.fieldAddr (off := 0) (ft := 9) rfl Try.underlying81 rfl rfl Try.sizeOf9 (by decide)) rfl ?_
        first | refine TrQ.q (QS.elF rfl (by assumption) Try.isAgg9 (by omega) (by rfl)) rfl ?_ | refine TrQ.q (QS.elRF rfl (by repeat (first | exact List.Mem.head _ | apply List.Mem.tail)) Try.isAgg9 (by omega) (by rfl)) rfl ?_
        refine TrQ.q (QS.fieldAddr (off := 0) (ft := 9) rfl Try.underlying81 rfl rfl Try.sizeOf9 (by decide)) rfl ?_
        refine TrQ.q (QS.lV rfl Try.isAgg9) rfl ?_
        refine TrQ.q (QS.str_eql rfl rfl) rfl ?_
        refine TrQ.nil ?_
        refine Tr.thenN ?_
        refine Tr.cond rfl (fun h5 => ?_) (fun h5 => ?_)
        · try simp only [bs] at h5
          refine Tr.seq ?_
          refine Tr.region ?_
          refine Tr.q (QS.assign rfl) rfl ?_
          refine Tr.nil ?_
          refine Tr.thenN ?_
          refine Tr.ret ?_
          refine Tr.inR ?_
          refine Tr.thenR ?_
          refine Tr.thenR ?_
          refine Tr.inR ?_
          refine Tr.thenR ?_
          refine Tr.ret1 Try.results82 rfl (fun w' hw => ?_)
          have hany : (l.take i).any (fun x => decide (x.name = s.name)) = true := List.any_eq_true.2 ⟨l.getD k default, by rw [List.mem_take_iff_getElem]; exact ⟨k, by omega, by simp [List.getD_eq_getElem?_getD, show k < l.length by omega]⟩, decide_eq_true (by assumption)⟩
          exact ⟨by unfold oneP; dsimp only; rw [← hs, if_neg (by assumption), if_neg (by simp_all), if_pos hany], hw.below (Bg.le.refl _)⟩
        · try simp only [bs] at h5
          refine Tr.skip ?_
          refine Tr.inN ?_
          refine Tr.thenN ?_
          refine Tr.region ?_
          refine Tr.q (QS.move rfl) rfl ?_
          first | refine Tr.q (QS.addI rfl rfl (by omega)) rfl ?_ | refine Tr.q (QS.add rfl rfl) rfl ?_
          refine Tr.q (QS.assign rfl) rfl ?_
          refine Tr.nil ?_
          refine Tr.thenN ?_
          apply Tr.again (k + 1)
          · exact rfl
          · exact (.cons (by first | rfl | exact lookI rfl (by omega) | exact lookI rfl (by simp) | exact lookB rfl (by simp)) Front.nil)
          · exact SubX.dropN 15 (by kernel_rfl) rfl
          · exact (by repeat' (first | exact Pick.nil _ | exact Del.here _ | apply Pick.cons | apply Del.there))
          · exact ⟨by omega, by rw [any_take_succ (by omega), hk2, Bool.false_or]; exact decide_eq_false (by assumption)⟩
          · exact (by (try dsimp only); omega)
      · try simp only [bs] at h4
        refine Tr.exit ?_
        refine Tr.thenE ?_
        refine Tr.thenE ?_
        refine Tr.inHit ?_
        refine Tr.thenN ?_
        refine Tr.seq ?_
        refine Tr.seq ?_
        refine Tr.region ?_
        refine Tr.q (QS.fieldAddr (off := 1) (ft := 23) rfl Try.underlying81 rfl rfl Try.sizeOf23 (by decide)) rfl ?_
        refine Tr.q (QS.lV rfl Try.isAgg23) rfl ?_
        refine Tr.q (QS.cvt32toI rfl Try.underlying23 Try.underlying3) rfl ?_
        refine Tr.q (QS.fieldAddr (off := 2) (ft := 22) rfl Try.underlying81 rfl rfl Try.sizeOf22 (by decide)) rfl ?_
        refine Tr.q (QS.lV rfl Try.isAgg22) rfl ?_
        first | refine Tr.q (QS.len rfl (by assumption) Try.underlying22) rfl ?_ | refine Tr.q (QS.lenRow rfl (by repeat (first | exact List.Mem.head _ | apply List.Mem.tail)) Try.underlying22) rfl ?_ | refine Tr.q (QS.lenNil rfl Try.underlying22) rfl ?_
        first | refine Tr.q (QS.addI rfl rfl (by omega)) rfl ?_ | refine Tr.q (QS.add rfl rfl) rfl ?_
        refine Tr.q (QS.gtr rfl rfl) rfl ?_
        refine Tr.nil ?_
        refine Tr.thenN ?_
        refine Tr.cond rfl (fun h6 => ?_) (fun h6 => ?_)
        · try simp only [bs] at h6
          refine Tr.seq ?_
          refine Tr.region ?_
          refine Tr.q (QS.assign rfl) rfl ?_
          refine Tr.nil ?_
          refine Tr.thenN ?_
          refine Tr.ret ?_
          refine Tr.thenR ?_
          refine Tr.ret1 Try.results82 rfl (fun w' hw => ?_)
          have hany : ¬ (l.take i).any (fun x => decide (x.name = s.name)) = true := by obtain rfl : k = i := (by omega); rw [hk2]; decide
          exact ⟨by unfold oneP; dsimp only; rw [← hs, if_neg (by assumption), if_neg (by simp_all), if_neg hany, if_pos (.inl (by assumption))], hw.below (Bg.le.refl _)⟩
        · try simp only [bs] at h6
          refine Tr.skip ?_
          refine Tr.thenN ?_
          refine Tr.seq ?_
          refine Tr.seq ?_
          refine Tr.region ?_
          refine Tr.q (QS.fieldAddr (off := 2) (ft := 22) rfl Try.underlying81 rfl rfl Try.sizeOf22 (by decide)) rfl ?_
          refine Tr.q (QS.lV rfl Try.isAgg22) rfl ?_
          first | refine Tr.q (QS.len rfl (by assumption) Try.underlying22) rfl ?_ | refine Tr.q (QS.lenRow rfl (by repeat (first | exact List.Mem.head _ | apply List.Mem.tail)) Try.underlying22) rfl ?_ | refine Tr.q (QS.lenNil rfl Try.underlying22) rfl ?_
          refine Tr.q (QS.gtr rfl rfl) rfl ?_
          refine Tr.q (QS.move rfl) rfl ?_
          apply Tr.andP
          · exact (rfl : _ = (5, 44, 49))
          · exact rfl
          · intro hT7; have hT7' := hT7
            try simp only [bs] at hT7'
            refine Tr.gq rfl rfl hT7 (QS.fieldAddr (off := 1) (ft := 23) rfl Try.underlying81 rfl rfl Try.sizeOf23 (by decide)) rfl ?_
            refine Tr.gq rfl rfl hT7 (QS.lV rfl Try.isAgg23) rfl ?_
            refine Tr.gq rfl rfl hT7 (QS.cvt32toI rfl Try.underlying23 Try.underlying3) rfl ?_
            refine Tr.gq rfl rfl hT7 (QS.lss rfl rfl) rfl ?_
            refine Tr.q (QS.pickT rfl hT7 rfl) rfl ?_
            refine Tr.nil (Tr.thenN ?_)
            exact Tr.endX (Sub.cons rfl (Sub.dropN 5 (by kernel_rfl) rfl))
          · intro hF7
            refine Tr.gskip rfl rfl hF7 rfl ?_
            refine Tr.gskip rfl rfl hF7 rfl ?_
            refine Tr.gskip rfl rfl hF7 rfl ?_
            refine Tr.gskip rfl rfl hF7 rfl ?_
            refine Tr.q (QS.pickF rfl hF7 rfl) rfl ?_
            refine Tr.nil (Tr.thenN ?_)
            exact Tr.endX (Sub.cons rfl (Sub.dropN 5 (by kernel_rfl) rfl))
          refine Tr.q (QS.move rfl) rfl ?_
          apply Tr.andP
          · exact (rfl : _ = (4, 50, 54))
          · exact rfl
          · intro hT8; have hT8' := hT8
            try simp only [bs] at hT8'
            refine Tr.gq rfl rfl hT8 (QS.lW rfl Try.isAgg81 Try.sizeOf81) rfl ?_
            refine Tr.gq rfl rfl hT8 (QS.call rfl Try.call83 (fun w hw => refEnd_any s w hsd)) rfl ?_
            refine Tr.gq rfl rfl hT8 (QS.gtr rfl rfl) rfl ?_
            refine Tr.q (QS.pickT rfl hT8 rfl) rfl ?_
            refine Tr.nil (Tr.thenN ?_)
            exact Tr.endX (Sub.cons rfl (Sub.dropN 4 (by kernel_rfl) rfl))
          · intro hF8
            refine Tr.gskip rfl rfl hF8 rfl ?_
            refine Tr.gskip rfl rfl hF8 rfl ?_
            refine Tr.gskip rfl rfl hF8 rfl ?_
            refine Tr.q (QS.pickF rfl hF8 rfl) rfl ?_
            refine Tr.nil (Tr.thenN ?_)
            exact Tr.endX (Sub.cons rfl (Sub.dropN 4 (by kernel_rfl) rfl))
          refine Tr.nil ?_
          refine Tr.thenN ?_
          refine Tr.cond rfl (fun h9 => ?_) (fun h9 => ?_)
          · try simp only [bs] at h9
            refine Tr.seq ?_
            refine Tr.region ?_
            refine Tr.q (QS.assign rfl) rfl ?_
            refine Tr.nil ?_
            refine Tr.thenN ?_
            refine Tr.ret ?_
            refine Tr.thenR ?_
            refine Tr.ret1 Try.results82 rfl (fun w' hw => ?_)
            have hany : ¬ (l.take i).any (fun x => decide (x.name = s.name)) = true := by obtain rfl : k = i := (by omega); rw [hk2]; decide
            exact ⟨by unfold oneP; dsimp only; rw [← hs, if_neg (by assumption), if_neg (by simp_all), if_neg hany, if_pos (.inr (hst.2 (by omega)))], hw.below (Bg.le.refl _)⟩
          · try simp only [bs] at h9
            refine Tr.skip ?_
            refine Tr.thenN ?_
            refine Tr.seq ?_
            refine Tr.region ?_
            refine Tr.q (QS.assign rfl) rfl ?_
            refine Tr.nil ?_
            refine Tr.thenN ?_
            refine Tr.ret ?_
            refine Tr.ret1 Try.results82 rfl (fun w' hw => ?_)
            have hany : ¬ (l.take i).any (fun x => decide (x.name = s.name)) = true := by obtain rfl : k = i := (by omega); rw [hk2]; decide
            exact ⟨by unfold oneP; dsimp only; rw [← hs, if_neg (by assumption), if_neg (by simp_all), if_neg hany, if_neg (fun q => q.elim (by assumption) (fun q => by have := hst.1 q; omega))], hw.below (Bg.le.refl _)⟩

set_option maxRecDepth 100000 in
set_option maxHeartbeats 2000000 in
theorem refCheck_any (l : List SecV) (V : Value) (w : World) (hV : Sl (hp w) encSec l V) (hB : SecB l) (hN : ∀ s ∈ l, s.name.size ≤ 9223372036854775807) :
    Calls Try.prog 51 #[V] w (fun e w' => e = .returned (.int .i64 (checkS l)) ∧ Ext w w') := by
  have hV' : Sl (Bg.of w).blk encSec l V := hV
  have hlen := hB.1
  refine enter Try.func51 rfl Try.ntmps51 rfl ?_
  refine Tr.seq ?_
  refine Tr.region ?_
  refine Tr.q (QS.assign rfl) rfl ?_
  refine Tr.nil ?_
  refine Tr.thenN ?_
  refine Tr.seq ?_
  refine Tr.seq ?_
  refine Tr.region ?_
  refine Tr.q (QS.move rfl) rfl ?_
  first | refine Tr.q (QS.len rfl (by assumption) Try.underlying53) rfl ?_ | refine Tr.q (QS.lenRow rfl (by repeat (first | exact List.Mem.head _ | apply List.Mem.tail)) Try.underlying53) rfl ?_ | refine Tr.q (QS.lenNil rfl Try.underlying53) rfl ?_
  refine Tr.q (QS.gtr rfl rfl) rfl ?_
  refine Tr.nil ?_
  refine Tr.thenN ?_
  refine Tr.cond rfl (fun h1 => ?_) (fun h1 => ?_)
  · try simp only [bs] at h1
    refine Tr.seq ?_
    refine Tr.region ?_
    refine Tr.q (QS.assign rfl) rfl ?_
    refine Tr.nil ?_
    refine Tr.thenN ?_
    refine Tr.ret ?_
    refine Tr.thenR ?_
    refine Tr.ret1 Try.results51 rfl (fun w' hw => ?_)
    exact ⟨by rw [check_0 (by assumption)], hw.below (Bg.le.refl _)⟩
  · try simp only [bs] at h1
    refine Tr.skip ?_
    refine Tr.thenN ?_
    refine Tr.seq ?_
    refine Tr.seq ?_
    refine Tr.region ?_
    refine Tr.q (QS.assign rfl) rfl ?_
    refine Tr.nil ?_
    refine Tr.thenN ?_
    refine Tr.block ?_
    refine Tr.loop (ι := Nat) (fun k => k ≤ l.length ∧ firstP (oneP l) k (l.length - k) = firstP (oneP l) 0 l.length) (fun _ => _) (fun k => []) (fun k => [(3, .int .i64 (k : Nat))]) (fun k => l.length - k) 0 ⟨Nat.zero_le _, rfl⟩ (.cons (by first | rfl | exact lookI rfl (by omega) | exact lookI rfl (by simp) | exact lookB rfl (by simp)) Front.nil) (by repeat' (first | exact Pick.nil _ | exact Del.here _ | apply Pick.cons | apply Del.there)) rfl (fun k hi m hm => ?_)
    replace hi : k ≤ l.length ∧ firstP (oneP l) k (l.length - k) = firstP (oneP l) 0 l.length := hi
    replace hm : m = l.length - k := hm
    change Tr _ _ [] ([(3, .int .i64 (k : Nat))] ++ _) _
    obtain ⟨hk1, hk2⟩ := hi
    refine Tr.seq ?_
    refine Tr.seq ?_
    refine Tr.region ?_
    refine Tr.q (QS.move rfl) rfl ?_
    refine Tr.q (QS.move rfl) rfl ?_
    first | refine Tr.q (QS.len rfl (by assumption) Try.underlying53) rfl ?_ | refine Tr.q (QS.lenRow rfl (by repeat (first | exact List.Mem.head _ | apply List.Mem.tail)) Try.underlying53) rfl ?_ | refine Tr.q (QS.lenNil rfl Try.underlying53) rfl ?_
    refine Tr.q (QS.lss rfl rfl) rfl ?_
    refine Tr.nil ?_
    refine Tr.thenN ?_
    refine Tr.cond rfl (fun h2 => ?_) (fun h2 => ?_)
    · try simp only [bs] at h2
      refine Tr.skip ?_
      refine Tr.thenN ?_
      refine Tr.seq ?_
      refine Tr.block ?_
      refine Tr.seq ?_
      refine Tr.region ?_
      refine Tr.q (QS.move rfl) rfl ?_
      refine Tr.q (QS.move rfl) rfl ?_
      refine Tr.q (QS.call rfl Try.call82 (fun w hw => refOne_any l V k w (hw.slF hV) hB (by omega) (hN _ (mem_getD (by omega))))) rfl ?_
      refine Tr.q (QS.assign rfl) rfl ?_
      refine Tr.nil ?_
      refine Tr.thenN ?_
      refine Tr.seq ?_
      refine Tr.region ?_
      refine Tr.q (QS.move rfl) rfl ?_
      refine Tr.q (QS.neq rfl rfl) rfl ?_
      refine Tr.nil ?_
      refine Tr.thenN ?_
      refine Tr.cond rfl (fun h3 => ?_) (fun h3 => ?_)
      · try simp only [bs] at h3
        refine Tr.seq ?_
        refine Tr.region ?_
        refine Tr.q (QS.move rfl) rfl ?_
        refine Tr.q (QS.assign rfl) rfl ?_
        refine Tr.nil ?_
        refine Tr.thenN ?_
        refine Tr.ret ?_
        refine Tr.inR ?_
        refine Tr.thenR ?_
        refine Tr.thenR ?_
        refine Tr.inR ?_
        refine Tr.thenR ?_
        refine Tr.ret1 Try.results51 rfl (fun w' hw => ?_)
        exact ⟨by rw [check_1 (v := oneP l k) (by assumption) (by omega) hk2 rfl (by assumption)], hw.below (Bg.le.refl _)⟩
      · try simp only [bs] at h3
        refine Tr.skip ?_
        refine Tr.inN ?_
        refine Tr.thenN ?_
        refine Tr.region ?_
        refine Tr.q (QS.move rfl) rfl ?_
        first | refine Tr.q (QS.addI rfl rfl (by omega)) rfl ?_ | refine Tr.q (QS.add rfl rfl) rfl ?_
        refine Tr.q (QS.assign rfl) rfl ?_
        refine Tr.nil ?_
        refine Tr.thenN ?_
        apply Tr.again (k + 1)
        · exact rfl
        · exact (.cons (by first | rfl | exact lookI rfl (by omega) | exact lookI rfl (by simp) | exact lookB rfl (by simp)) Front.nil)
        · exact SubX.dropN 14 (by kernel_rfl) rfl
        · exact (by repeat' (first | exact Pick.nil _ | exact Del.here _ | apply Pick.cons | apply Del.there))
        · exact ⟨by omega, by rw [firstP_next (by omega) (by omega), hk2]⟩
        · exact (by (try dsimp only); omega)
    · try simp only [bs] at h2
      refine Tr.exit ?_
      refine Tr.thenE ?_
      refine Tr.thenE ?_
      refine Tr.inHit ?_
      refine Tr.thenN ?_
      refine Tr.seq ?_
      refine Tr.seq ?_
      refine Tr.region ?_
      refine Tr.q (QS.assign rfl) rfl ?_
      refine Tr.nil ?_
      refine Tr.thenN ?_
      refine Tr.block ?_
      have hz1 : firstP (oneP l) 0 l.length = 0 := by rw [← hk2]; exact firstP_zero (by omega)
      clear hk2 hk1 hm
      refine Tr.loop (ι := Nat) (fun k => k ≤ l.length ∧ firstP (fun i => if overP l i = true then 10 else 0) k (l.length - k) = firstP (fun i => if overP l i = true then 10 else 0) 0 l.length) (fun _ => _) (fun k => []) (fun k => [(5, .int .i64 (k : Nat))]) (fun k => l.length - k) 0 ⟨Nat.zero_le _, rfl⟩ (.cons (by first | rfl | exact lookI rfl (by omega) | exact lookI rfl (by simp) | exact lookB rfl (by simp)) Front.nil) (by repeat' (first | exact Pick.nil _ | exact Del.here _ | apply Pick.cons | apply Del.there)) rfl (fun k hi m hm => ?_)
      replace hi : k ≤ l.length ∧ firstP (fun i => if overP l i = true then 10 else 0) k (l.length - k) = firstP (fun i => if overP l i = true then 10 else 0) 0 l.length := hi
      replace hm : m = l.length - k := hm
      change Tr _ _ [] ([(5, .int .i64 (k : Nat))] ++ _) _
      obtain ⟨hk1, hk2⟩ := hi
      refine Tr.seq ?_
      refine Tr.seq ?_
      refine Tr.region ?_
      refine Tr.q (QS.move rfl) rfl ?_
      refine Tr.q (QS.move rfl) rfl ?_
      first | refine Tr.q (QS.len rfl (by assumption) Try.underlying53) rfl ?_ | refine Tr.q (QS.lenRow rfl (by repeat (first | exact List.Mem.head _ | apply List.Mem.tail)) Try.underlying53) rfl ?_ | refine Tr.q (QS.lenNil rfl Try.underlying53) rfl ?_
      refine Tr.q (QS.lss rfl rfl) rfl ?_
      refine Tr.nil ?_
      refine Tr.thenN ?_
      refine Tr.cond rfl (fun h4 => ?_) (fun h4 => ?_)
      · try simp only [bs] at h4
        refine Tr.skip ?_
        refine Tr.thenN ?_
        refine Tr.seq ?_
        refine Tr.block ?_
        refine Tr.seq ?_
        refine Tr.region ?_
        refine Tr.q (QS.assign rfl) rfl ?_
        refine Tr.nil ?_
        refine Tr.thenN ?_
        refine Tr.block ?_
        refine Tr.loop (ι := Nat) (fun j => j ≤ k ∧ (l.take j).any (fun x => meetP (spaceP x) (spaceP (l.getD k default))) = false) (fun _ => _) (fun j => []) (fun j => [(6, .int .i64 (j : Nat))]) (fun j => k - j) 0 ⟨Nat.zero_le _, rfl⟩ (.cons (by first | rfl | exact lookI rfl (by omega) | exact lookI rfl (by simp) | exact lookB rfl (by simp)) Front.nil) (by repeat' (first | exact Pick.nil _ | exact Del.here _ | apply Pick.cons | apply Del.there)) rfl (fun j hi m hm => ?_)
        replace hi : j ≤ k ∧ (l.take j).any (fun x => meetP (spaceP x) (spaceP (l.getD k default))) = false := hi
        replace hm : m = k - j := hm
        change Tr _ _ [] ([(6, .int .i64 (j : Nat))] ++ _) _
        obtain ⟨hj1, hj2⟩ := hi
        have hmi := meet_iff (l.getD j default) (l.getD k default)
        refine Tr.seq ?_
        refine Tr.seq ?_
        refine Tr.region ?_
        refine Tr.q (QS.move rfl) rfl ?_
        refine Tr.q (QS.move rfl) rfl ?_
        refine Tr.q (QS.lss rfl rfl) rfl ?_
        refine Tr.nil ?_
        refine Tr.thenN ?_
        refine Tr.cond rfl (fun h5 => ?_) (fun h5 => ?_)
        · try simp only [bs] at h5
          refine Tr.skip ?_
          refine Tr.thenN ?_
          refine Tr.seq ?_
          refine Tr.block ?_
          refine Tr.seq ?_
          refine Tr.regionQ HLF.mixed (by kernel_rfl) ?_
          refine TrQ.q (QS.move rfl) rfl ?_
          refine TrQ.q (QS.move rfl) rfl ?_
          first | refine TrQ.q (QS.idxN rfl rfl (by assumption) Try.underlying53 Try.sizeOf81 (by rfl) (by omega)) rfl ?_ | refine TrQ.q (QS.idxRowN rfl rfl (by repeat (first | exact List.Mem.head _ | apply List.Mem.tail)) Try.underlying53 Try.sizeOf81 (by rfl) (by omega)) rfl ?_ | refine TrQ.q (QS.idx rfl rfl (by assumption) Try.underlying53 Try.sizeOf81 (by rfl) (by omega)) rfl ?_ | refine TrQ.q (QS.idxRow rfl rfl (by repeat (first | exact List.Mem.head _ | apply List.Mem.tail)) Try.underlying53 Try.sizeOf81 (by rfl) (by omega)) rfl ?_
          refine TrQ.q (QS.fieldAddr (off := 2) (ft := 22) rfl Try.underlying81 rfl rfl Try.sizeOf22 (by decide)) rfl ?_
          first | refine TrQ.q (QS.elF rfl (by assumption) Try.isAgg22 (by omega) (by rfl)) rfl ?_ | refine TrQ.q (QS.elRF rfl (by repeat (first | exact List.Mem.head _ | apply List.Mem.tail)) Try.isAgg22 (by omega) (by rfl)) rfl ?_
          first | refine TrQ.q (QS.len rfl (by assumption) Try.underlying22) rfl ?_ | refine TrQ.q (QS.lenRow rfl (by repeat (first | exact List.Mem.head _ | apply List.Mem.tail)) Try.underlying22) rfl ?_ | refine TrQ.q (QS.lenNil rfl Try.underlying22) rfl ?_
          refine TrQ.q (QS.gtr rfl rfl) rfl ?_
          refine TrQ.q (QS.move rfl) rfl ?_
          apply TrQ.andP
          · exact (rfl : _ = (8, 40, 48))
          · exact rfl
          · intro hT6; have hT6' := hT6
            try simp only [bs] at hT6'
            refine TrQ.gq rfl rfl hT6 (QS.move rfl) rfl ?_
            refine TrQ.gq rfl rfl hT6 (QS.move rfl) rfl ?_
            first | refine TrQ.gq rfl rfl hT6 (QS.idxN rfl rfl (by assumption) Try.underlying53 Try.sizeOf81 (by rfl) (by omega)) rfl ?_ | refine TrQ.gq rfl rfl hT6 (QS.idxRowN rfl rfl (by repeat (first | exact List.Mem.head _ | apply List.Mem.tail)) Try.underlying53 Try.sizeOf81 (by rfl) (by omega)) rfl ?_ | refine TrQ.gq rfl rfl hT6 (QS.idx rfl rfl (by assumption) Try.underlying53 Try.sizeOf81 (by rfl) (by omega)) rfl ?_ | refine TrQ.gq rfl rfl hT6 (QS.idxRow rfl rfl (by repeat (first | exact List.Mem.head _ | apply List.Mem.tail)) Try.underlying53 Try.sizeOf81 (by rfl) (by omega)) rfl ?_
            refine TrQ.gq rfl rfl hT6 (QS.fieldAddr (off := 2) (ft := 22) rfl Try.underlying81 rfl rfl Try.sizeOf22 (by decide)) rfl ?_
            first | refine TrQ.gq rfl rfl hT6 (QS.elF rfl (by assumption) Try.isAgg22 (by omega) (by rfl)) rfl ?_ | refine TrQ.gq rfl rfl hT6 (QS.elRF rfl (by repeat (first | exact List.Mem.head _ | apply List.Mem.tail)) Try.isAgg22 (by omega) (by rfl)) rfl ?_
            first | refine TrQ.gq rfl rfl hT6 (QS.len rfl (by assumption) Try.underlying22) rfl ?_ | refine TrQ.gq rfl rfl hT6 (QS.lenRow rfl (by repeat (first | exact List.Mem.head _ | apply List.Mem.tail)) Try.underlying22) rfl ?_ | refine TrQ.gq rfl rfl hT6 (QS.lenNil rfl Try.underlying22) rfl ?_
            refine TrQ.gq rfl rfl hT6 (QS.gtr rfl rfl) rfl ?_
            refine TrQ.q (QS.pickT rfl hT6 rfl) rfl ?_
            exact TrQ.end (Sub.cons rfl (Sub.dropN 8 (by kernel_rfl) rfl))
          · intro hF6
            refine TrQ.gskip rfl rfl hF6 rfl ?_
            refine TrQ.gskip rfl rfl hF6 rfl ?_
            refine TrQ.gskip rfl rfl hF6 rfl ?_
            refine TrQ.gskip rfl rfl hF6 rfl ?_
            refine TrQ.gskip rfl rfl hF6 rfl ?_
            refine TrQ.gskip rfl rfl hF6 rfl ?_
            refine TrQ.gskip rfl rfl hF6 rfl ?_
            refine TrQ.q (QS.pickF rfl hF6 rfl) rfl ?_
            exact TrQ.end (Sub.cons rfl (Sub.dropN 8 (by kernel_rfl) rfl))
          refine TrQ.q (QS.move rfl) rfl ?_
          apply TrQ.andP
          · exact (rfl : _ = (13, 49, 62))
          · exact rfl
          · intro hT7; have hT7' := hT7
            try simp only [bs] at hT7'
            refine TrQ.gq rfl rfl hT7 (QS.move rfl) rfl ?_
            refine TrQ.gq rfl rfl hT7 (QS.move rfl) rfl ?_
            first | refine TrQ.gq rfl rfl hT7 (QS.idxN rfl rfl (by assumption) Try.underlying53 Try.sizeOf81 (by rfl) (by omega)) rfl ?_ | refine TrQ.gq rfl rfl hT7 (QS.idxRowN rfl rfl (by repeat (first | exact List.Mem.head _ | apply List.Mem.tail)) Try.underlying53 Try.sizeOf81 (by rfl) (by omega)) rfl ?_ | refine TrQ.gq rfl rfl hT7 (QS.idx rfl rfl (by assumption) Try.underlying53 Try.sizeOf81 (by rfl) (by omega)) rfl ?_ | refine TrQ.gq rfl rfl hT7 (QS.idxRow rfl rfl (by repeat (first | exact List.Mem.head _ | apply List.Mem.tail)) Try.underlying53 Try.sizeOf81 (by rfl) (by omega)) rfl ?_
            refine TrQ.gq rfl rfl hT7 (QS.fieldAddr (off := 1) (ft := 23) rfl Try.underlying81 rfl rfl Try.sizeOf23 (by decide)) rfl ?_
            first | refine TrQ.gq rfl rfl hT7 (QS.elF rfl (by assumption) Try.isAgg23 (by omega) (by rfl)) rfl ?_ | refine TrQ.gq rfl rfl hT7 (QS.elRF rfl (by repeat (first | exact List.Mem.head _ | apply List.Mem.tail)) Try.isAgg23 (by omega) (by rfl)) rfl ?_
            refine TrQ.gq rfl rfl hT7 (QS.cvt32toI rfl Try.underlying23 Try.underlying3) rfl ?_
            refine TrQ.gq rfl rfl hT7 (QS.move rfl) rfl ?_
            refine TrQ.gq rfl rfl hT7 (QS.move rfl) rfl ?_
            first | refine TrQ.gq rfl rfl hT7 (QS.idxN rfl rfl (by assumption) Try.underlying53 Try.sizeOf81 (by rfl) (by omega)) rfl ?_ | refine TrQ.gq rfl rfl hT7 (QS.idxRowN rfl rfl (by repeat (first | exact List.Mem.head _ | apply List.Mem.tail)) Try.underlying53 Try.sizeOf81 (by rfl) (by omega)) rfl ?_ | refine TrQ.gq rfl rfl hT7 (QS.idx rfl rfl (by assumption) Try.underlying53 Try.sizeOf81 (by rfl) (by omega)) rfl ?_ | refine TrQ.gq rfl rfl hT7 (QS.idxRow rfl rfl (by repeat (first | exact List.Mem.head _ | apply List.Mem.tail)) Try.underlying53 Try.sizeOf81 (by rfl) (by omega)) rfl ?_
            first | refine TrQ.gq rfl rfl hT7 (QS.elA rfl (by assumption) Try.isAgg81 Try.sizeOf81 (by rfl) (by omega)) rfl ?_ | refine TrQ.gq rfl rfl hT7 (QS.elRA rfl (by repeat (first | exact List.Mem.head _ | apply List.Mem.tail)) Try.isAgg81 Try.sizeOf81 (by rfl) (by omega)) rfl ?_
            refine TrQ.gq rfl rfl hT7 (QS.call rfl Try.call83 (fun w hw => refEnd_any (l.getD j default) w (hB.at (by omega)))) rfl ?_
            refine TrQ.gq rfl rfl hT7 (QS.lss rfl rfl) rfl ?_
            refine TrQ.q (QS.pickT rfl hT7 rfl) rfl ?_
            exact TrQ.end (Sub.cons rfl (Sub.dropN 13 (by kernel_rfl) rfl))
          · intro hF7
            refine TrQ.gskip rfl rfl hF7 rfl ?_
            refine TrQ.gskip rfl rfl hF7 rfl ?_
            refine TrQ.gskip rfl rfl hF7 rfl ?_
            refine TrQ.gskip rfl rfl hF7 rfl ?_
            refine TrQ.gskip rfl rfl hF7 rfl ?_
            refine TrQ.gskip rfl rfl hF7 rfl ?_
            refine TrQ.gskip rfl rfl hF7 rfl ?_
            refine TrQ.gskip rfl rfl hF7 rfl ?_
            refine TrQ.gskip rfl rfl hF7 rfl ?_
            refine TrQ.gskip rfl rfl hF7 rfl ?_
            refine TrQ.gskip rfl rfl hF7 rfl ?_
            refine TrQ.gskip rfl rfl hF7 rfl ?_
            refine TrQ.q (QS.pickF rfl hF7 rfl) rfl ?_
            exact TrQ.end (Sub.cons rfl (Sub.dropN 13 (by kernel_rfl) rfl))
          refine TrQ.q (QS.move rfl) rfl ?_
          apply TrQ.andP
          · exact (rfl : _ = (13, 63, 76))
          · exact rfl
          · intro hT8; have hT8' := hT8
            try simp only [bs] at hT8'
            refine TrQ.gq rfl rfl hT8 (QS.move rfl) rfl ?_
            refine TrQ.gq rfl rfl hT8 (QS.move rfl) rfl ?_
            first | refine TrQ.gq rfl rfl hT8 (QS.idxN rfl rfl (by assumption) Try.underlying53 Try.sizeOf81 (by rfl) (by omega)) rfl ?_ | refine TrQ.gq rfl rfl hT8 (QS.idxRowN rfl rfl (by repeat (first | exact List.Mem.head _ | apply List.Mem.tail)) Try.underlying53 Try.sizeOf81 (by rfl) (by omega)) rfl ?_ | refine TrQ.gq rfl rfl hT8 (QS.idx rfl rfl (by assumption) Try.underlying53 Try.sizeOf81 (by rfl) (by omega)) rfl ?_ | refine TrQ.gq rfl rfl hT8 (QS.idxRow rfl rfl (by repeat (first | exact List.Mem.head _ | apply List.Mem.tail)) Try.underlying53 Try.sizeOf81 (by rfl) (by omega)) rfl ?_
            refine TrQ.gq rfl rfl hT8 (QS.fieldAddr (off := 1) (ft := 23) rfl Try.underlying81 rfl rfl Try.sizeOf23 (by decide)) rfl ?_
            first | refine TrQ.gq rfl rfl hT8 (QS.elF rfl (by assumption) Try.isAgg23 (by omega) (by rfl)) rfl ?_ | refine TrQ.gq rfl rfl hT8 (QS.elRF rfl (by repeat (first | exact List.Mem.head _ | apply List.Mem.tail)) Try.isAgg23 (by omega) (by rfl)) rfl ?_
            refine TrQ.gq rfl rfl hT8 (QS.cvt32toI rfl Try.underlying23 Try.underlying3) rfl ?_
            refine TrQ.gq rfl rfl hT8 (QS.move rfl) rfl ?_
            refine TrQ.gq rfl rfl hT8 (QS.move rfl) rfl ?_
            first | refine TrQ.gq rfl rfl hT8 (QS.idxN rfl rfl (by assumption) Try.underlying53 Try.sizeOf81 (by rfl) (by omega)) rfl ?_ | refine TrQ.gq rfl rfl hT8 (QS.idxRowN rfl rfl (by repeat (first | exact List.Mem.head _ | apply List.Mem.tail)) Try.underlying53 Try.sizeOf81 (by rfl) (by omega)) rfl ?_ | refine TrQ.gq rfl rfl hT8 (QS.idx rfl rfl (by assumption) Try.underlying53 Try.sizeOf81 (by rfl) (by omega)) rfl ?_ | refine TrQ.gq rfl rfl hT8 (QS.idxRow rfl rfl (by repeat (first | exact List.Mem.head _ | apply List.Mem.tail)) Try.underlying53 Try.sizeOf81 (by rfl) (by omega)) rfl ?_
            first | refine TrQ.gq rfl rfl hT8 (QS.elA rfl (by assumption) Try.isAgg81 Try.sizeOf81 (by rfl) (by omega)) rfl ?_ | refine TrQ.gq rfl rfl hT8 (QS.elRA rfl (by repeat (first | exact List.Mem.head _ | apply List.Mem.tail)) Try.isAgg81 Try.sizeOf81 (by rfl) (by omega)) rfl ?_
            refine TrQ.gq rfl rfl hT8 (QS.call rfl Try.call83 (fun w hw => refEnd_any (l.getD k default) w (hB.at (by omega)))) rfl ?_
            refine TrQ.gq rfl rfl hT8 (QS.lss rfl rfl) rfl ?_
            refine TrQ.q (QS.pickT rfl hT8 rfl) rfl ?_
            exact TrQ.end (Sub.cons rfl (Sub.dropN 13 (by kernel_rfl) rfl))
          · intro hF8
            refine TrQ.gskip rfl rfl hF8 rfl ?_
            refine TrQ.gskip rfl rfl hF8 rfl ?_
            refine TrQ.gskip rfl rfl hF8 rfl ?_
            refine TrQ.gskip rfl rfl hF8 rfl ?_
            refine TrQ.gskip rfl rfl hF8 rfl ?_
            refine TrQ.gskip rfl rfl hF8 rfl ?_
            refine TrQ.gskip rfl rfl hF8 rfl ?_
            refine TrQ.gskip rfl rfl hF8 rfl ?_
            refine TrQ.gskip rfl rfl hF8 rfl ?_
            refine TrQ.gskip rfl rfl hF8 rfl ?_
            refine TrQ.gskip rfl rfl hF8 rfl ?_
            refine TrQ.gskip rfl rfl hF8 rfl ?_
            refine TrQ.q (QS.pickF rfl hF8 rfl) rfl ?_
            exact TrQ.end (Sub.cons rfl (Sub.dropN 13 (by kernel_rfl) rfl))
          refine TrQ.nil ?_
          refine Tr.thenN ?_
          refine Tr.cond rfl (fun h9 => ?_) (fun h9 => ?_)
          · try simp only [bs] at h9
            refine Tr.seq ?_
            refine Tr.region ?_
            refine Tr.q (QS.assign rfl) rfl ?_
            refine Tr.nil ?_
            refine Tr.thenN ?_
            refine Tr.ret ?_
            refine Tr.inR ?_
            refine Tr.thenR ?_
            refine Tr.thenR ?_
            refine Tr.inR ?_
            refine Tr.inR ?_
            refine Tr.thenR ?_
            refine Tr.thenR ?_
            refine Tr.inR ?_
            refine Tr.thenR ?_
            refine Tr.ret1 Try.results51 rfl (fun w' hw => ?_)
            have hov : overP l k = true := List.any_eq_true.2 ⟨l.getD j default, by rw [List.mem_take_iff_getElem]; exact ⟨j, by omega, by simp [List.getD_eq_getElem?_getD, show j < l.length by omega]⟩, hmi.2 (by omega)⟩
            exact ⟨by rw [check_2 (k := k) (by assumption) hz1 (by omega) hk2 hov], hw.below (Bg.le.refl _)⟩
          · try simp only [bs] at h9
            refine Tr.skip ?_
            refine Tr.inN ?_
            refine Tr.thenN ?_
            refine Tr.region ?_
            refine Tr.q (QS.move rfl) rfl ?_
            first | refine Tr.q (QS.addI rfl rfl (by omega)) rfl ?_ | refine Tr.q (QS.add rfl rfl) rfl ?_
            refine Tr.q (QS.assign rfl) rfl ?_
            refine Tr.nil ?_
            refine Tr.thenN ?_
            have hmf : meetP (spaceP (l.getD j default)) (spaceP (l.getD k default)) = false := by rw [← Bool.not_eq_true, hmi]; omega
            apply Tr.again (j + 1)
            · exact rfl
            · exact (.cons (by first | rfl | exact lookI rfl (by omega) | exact lookI rfl (by simp) | exact lookB rfl (by simp)) Front.nil)
            · exact SubX.dropN 20 (by kernel_rfl) rfl
            · exact (by repeat' (first | exact Pick.nil _ | exact Del.here _ | apply Pick.cons | apply Del.there))
            · exact ⟨by omega, by rw [any_take_succ (by omega), hj2, hmf]; rfl⟩
            · exact (by (try dsimp only); omega)
        · try simp only [bs] at h5
          refine Tr.exit ?_
          refine Tr.thenE ?_
          refine Tr.thenE ?_
          refine Tr.inHit ?_
          refine Tr.inN ?_
          refine Tr.thenN ?_
          refine Tr.region ?_
          refine Tr.q (QS.move rfl) rfl ?_
          first | refine Tr.q (QS.addI rfl rfl (by omega)) rfl ?_ | refine Tr.q (QS.add rfl rfl) rfl ?_
          refine Tr.q (QS.assign rfl) rfl ?_
          refine Tr.nil ?_
          refine Tr.thenN ?_
          have hz : overP l k = false := by obtain rfl : j = k := (by omega); exact hj2
          apply Tr.again (k + 1)
          · exact rfl
          · exact (.cons (by first | rfl | exact lookI rfl (by omega) | exact lookI rfl (by simp) | exact lookB rfl (by simp)) Front.nil)
          · exact SubX.dropN 13 (by kernel_rfl) rfl
          · exact (by repeat' (first | exact Pick.nil _ | exact Del.here _ | apply Pick.cons | apply Del.there))
          · exact ⟨by omega, by rw [firstP_next (by omega) (by rw [if_neg (by rw [hz]; decide)]), hk2]⟩
          · exact (by (try dsimp only); omega)
      · try simp only [bs] at h4
        refine Tr.exit ?_
        refine Tr.thenE ?_
        refine Tr.thenE ?_
        refine Tr.inHit ?_
        refine Tr.thenN ?_
        refine Tr.seq ?_
        refine Tr.region ?_
        refine Tr.q (QS.assign rfl) rfl ?_
        refine Tr.nil ?_
        refine Tr.thenN ?_
        refine Tr.ret ?_
        refine Tr.ret1 Try.results51 rfl (fun w' hw => ?_)
        exact ⟨by rw [check_3 (by assumption) hz1 (by rw [← hk2]; exact firstP_zero (by omega))], hw.below (Bg.le.refl _)⟩

end Go.Proofs.Ytfmhhakhbopfdaa
