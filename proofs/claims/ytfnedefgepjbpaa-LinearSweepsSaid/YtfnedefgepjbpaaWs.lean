/- The walks of package section: what each function returns. -/
import Derived.Test.YtfnedefgepjbpaaF2
import Derived.Test.YtfnedefgepjbpaaWd
import Derived.Test.YtfnedefgepjbpaaHv
import Derived.Test.YtfnedefgepjbpaaSa
set_option linter.unusedSimpArgs false
set_option linter.unusedVariables false
namespace Go.Proofs.Ytfnedefgepjbpaa
open Go Go.HL Go.RowKit

set_option maxRecDepth 100000 in
set_option maxHeartbeats 2000000 in
theorem name_any (s : ByteArray) (w : World) (hs : s.size ≤ 9223372036854775807) :
    Calls Try.prog 41 #[.string s] w (fun e w' => e = .returned (.bool (nameP s)) ∧ Ext w w') := by
  have hbl := bts_len s
  refine enter Try.func41 rfl Try.ntmps41 rfl ?_
  refine Tr.seq ?_
  refine Tr.region ?_
  refine Tr.q (QS.assign rfl) rfl ?_
  refine Tr.nil ?_
  refine Tr.thenN ?_
  refine Tr.seq ?_
  refine Tr.seq ?_
  refine Tr.region ?_
  refine Tr.q (QS.move rfl) rfl ?_
  refine Tr.strBytes rfl Try.underlying9 Try.underlying54 Try.underlying5 (by unfold maxLen; omega) rfl (fun V1 F1 hF1 hV1 => ?_)
  first | refine Tr.q (QS.len rfl (by assumption) Try.underlying54) rfl ?_ | refine Tr.q (QS.lenRow rfl (by repeat (first | exact List.Mem.head _ | apply List.Mem.tail)) Try.underlying54) rfl ?_ | refine Tr.q (QS.lenNil rfl Try.underlying54) rfl ?_
  refine Tr.q (QS.move rfl) rfl ?_
  refine Tr.nil ?_
  refine Tr.thenN ?_
  refine Tr.block ?_
  refine Tr.loop (ι := Nat) (fun k => k ≤ s.size ∧ ((bts s).take k).any badB = false) (fun _ => _) (fun k => []) (fun k => [(8, .int .i64 (k : Nat))]) (fun k => s.size - k) 0 ⟨Nat.zero_le _, rfl⟩ (.cons (by first | rfl | exact lookI rfl (by omega) | exact lookI rfl (by simp) | exact lookB rfl (by simp)) Front.nil) (by repeat' (first | exact Pick.nil _ | exact Del.here _ | apply Pick.cons | apply Del.there)) rfl (fun k hi m hm => ?_)
  replace hi : k ≤ s.size ∧ ((bts s).take k).any badB = false := hi
  replace hm : m = s.size - k := hm
  change Tr _ _ [] ([(8, .int .i64 (k : Nat))] ++ _) _
  obtain ⟨hk1, hk2⟩ := hi
  refine Tr.seq ?_
  refine Tr.region ?_
  refine Tr.q (QS.lss rfl rfl) rfl ?_
  refine Tr.nil ?_
  refine Tr.thenN ?_
  refine Tr.seq ?_
  refine Tr.cond rfl (fun h2 => ?_) (fun h2 => ?_)
  · try simp only [bs] at h2
    refine Tr.skip ?_
    refine Tr.thenN ?_
    refine Tr.seq ?_
    refine Tr.block ?_
    refine Tr.seq ?_
    refine Tr.region ?_
    first | refine Tr.q (QS.idxN rfl rfl (by assumption) Try.underlying54 Try.sizeOf5 (by rfl) (by omega)) rfl ?_ | refine Tr.q (QS.idxRowN rfl rfl (by repeat (first | exact List.Mem.head _ | apply List.Mem.tail)) Try.underlying54 Try.sizeOf5 (by rfl) (by omega)) rfl ?_ | refine Tr.q (QS.idx rfl rfl (by assumption) Try.underlying54 Try.sizeOf5 (by rfl) (by omega)) rfl ?_ | refine Tr.q (QS.idxRow rfl rfl (by repeat (first | exact List.Mem.head _ | apply List.Mem.tail)) Try.underlying54 Try.sizeOf5 (by rfl) (by omega)) rfl ?_
    first | refine Tr.q (QS.el1 rfl (by assumption) Try.isAgg5 (by omega) (by rfl)) rfl ?_ | refine Tr.q (QS.elR1 rfl (by repeat (first | exact List.Mem.head _ | apply List.Mem.tail)) Try.isAgg5 (by omega) (by rfl)) rfl ?_
    refine Tr.q (QS.assign rfl) rfl ?_
    refine Tr.nil ?_
    refine Tr.thenN ?_
    refine Tr.seq ?_
    refine Tr.region ?_
    refine Tr.q (QS.move rfl) rfl ?_
    refine Tr.q (QS.lss8 (n := 97) rfl rfl) rfl ?_
    refine Tr.q (QS.move rfl) rfl ?_
    apply Tr.orP
    · exact (rfl : _ = (3, 14, 17))
    · exact rfl
    · intro hF3; have hF3' := hF3
      try simp only [bs] at hF3'
      refine Tr.gq rfl rfl hF3 (QS.move rfl) rfl ?_
      refine Tr.gq rfl rfl hF3 (QS.gtr8 (n := 122) rfl rfl) rfl ?_
      refine Tr.q (QS.pickF rfl hF3 rfl) rfl ?_
      refine Tr.nil (Tr.thenN ?_)
      exact Tr.endX (Sub.cons rfl (Sub.dropN 3 (by kernel_rfl) rfl))
    · intro hT3
      refine Tr.gskip rfl rfl hT3 rfl ?_
      refine Tr.gskip rfl rfl hT3 rfl ?_
      refine Tr.q (QS.pickT rfl hT3 rfl) rfl ?_
      refine Tr.nil (Tr.thenN ?_)
      exact Tr.endX (Sub.cons rfl (Sub.dropN 3 (by kernel_rfl) rfl))
    refine Tr.q (QS.move rfl) rfl ?_
    apply Tr.andP
    · exact (rfl : _ = (7, 18, 25))
    · exact rfl
    · intro hT4; have hT4' := hT4
      try simp only [bs] at hT4'
      refine Tr.gq rfl rfl hT4 (QS.move rfl) rfl ?_
      refine Tr.gq rfl rfl hT4 (QS.lss8 (n := 65) rfl rfl) rfl ?_
      refine Tr.gq rfl rfl hT4 (QS.move rfl) rfl ?_
      apply Tr.orP
      · exact (rfl : _ = (3, 21, 24))
      · exact rfl
      · intro hF5; have hF5' := hF5
        try simp only [bs] at hF5'
        refine Tr.gq rfl rfl hF5 (QS.move rfl) rfl ?_
        refine Tr.gq rfl rfl hF5 (QS.gtr8 (n := 90) rfl rfl) rfl ?_
        refine Tr.gq rfl rfl hT4 (QS.pickF rfl hF5 rfl) rfl ?_
        refine Tr.nil (Tr.thenN ?_)
        exact Tr.endX (Sub.cons rfl (Sub.dropN 3 (by kernel_rfl) rfl))
      · intro hT5
        refine Tr.gskip rfl rfl hT5 rfl ?_
        refine Tr.gskip rfl rfl hT5 rfl ?_
        refine Tr.gq rfl rfl hT4 (QS.pickT rfl hT5 rfl) rfl ?_
        refine Tr.nil (Tr.thenN ?_)
        exact Tr.endX (Sub.cons rfl (Sub.dropN 3 (by kernel_rfl) rfl))
      refine Tr.q (QS.pickT rfl hT4 rfl) rfl ?_
      refine Tr.nil (Tr.thenN ?_)
      exact Tr.endX (Sub.cons rfl (Sub.dropN 5 (by kernel_rfl) rfl))
    · intro hF4
      refine Tr.gskip rfl rfl hF4 rfl ?_
      refine Tr.gskip rfl rfl hF4 rfl ?_
      refine Tr.gskip rfl rfl hF4 rfl ?_
      refine Tr.gskipU rfl rfl rfl ?_
      refine Tr.gskipU rfl rfl rfl ?_
      refine Tr.gskip rfl rfl hF4 rfl ?_
      refine Tr.q (QS.pickF rfl hF4 rfl) rfl ?_
      refine Tr.nil (Tr.thenN ?_)
      exact Tr.endX (Sub.cons rfl (Sub.dropN 7 (by kernel_rfl) rfl))
    refine Tr.q (QS.move rfl) rfl ?_
    apply Tr.andP
    · exact (rfl : _ = (7, 26, 33))
    · exact rfl
    · intro hT6; have hT6' := hT6
      try simp only [bs] at hT6'
      refine Tr.gq rfl rfl hT6 (QS.move rfl) rfl ?_
      refine Tr.gq rfl rfl hT6 (QS.lss8 (n := 48) rfl rfl) rfl ?_
      refine Tr.gq rfl rfl hT6 (QS.move rfl) rfl ?_
      apply Tr.orP
      · exact (rfl : _ = (3, 29, 32))
      · exact rfl
      · intro hF7; have hF7' := hF7
        try simp only [bs] at hF7'
        refine Tr.gq rfl rfl hF7 (QS.move rfl) rfl ?_
        refine Tr.gq rfl rfl hF7 (QS.gtr8 (n := 57) rfl rfl) rfl ?_
        refine Tr.gq rfl rfl hT6 (QS.pickF rfl hF7 rfl) rfl ?_
        refine Tr.nil (Tr.thenN ?_)
        exact Tr.endX (Sub.cons rfl (Sub.dropN 3 (by kernel_rfl) rfl))
      · intro hT7
        refine Tr.gskip rfl rfl hT7 rfl ?_
        refine Tr.gskip rfl rfl hT7 rfl ?_
        refine Tr.gq rfl rfl hT6 (QS.pickT rfl hT7 rfl) rfl ?_
        refine Tr.nil (Tr.thenN ?_)
        exact Tr.endX (Sub.cons rfl (Sub.dropN 3 (by kernel_rfl) rfl))
      refine Tr.q (QS.pickT rfl hT6 rfl) rfl ?_
      refine Tr.nil (Tr.thenN ?_)
      exact Tr.endX (Sub.cons rfl (Sub.dropN 5 (by kernel_rfl) rfl))
    · intro hF6
      refine Tr.gskip rfl rfl hF6 rfl ?_
      refine Tr.gskip rfl rfl hF6 rfl ?_
      refine Tr.gskip rfl rfl hF6 rfl ?_
      refine Tr.gskipU rfl rfl rfl ?_
      refine Tr.gskipU rfl rfl rfl ?_
      refine Tr.gskip rfl rfl hF6 rfl ?_
      refine Tr.q (QS.pickF rfl hF6 rfl) rfl ?_
      refine Tr.nil (Tr.thenN ?_)
      exact Tr.endX (Sub.cons rfl (Sub.dropN 7 (by kernel_rfl) rfl))
    refine Tr.q (QS.move rfl) rfl ?_
    apply Tr.andP
    · exact (rfl : _ = (3, 34, 37))
    · exact rfl
    · intro hT8; have hT8' := hT8
      try simp only [bs] at hT8'
      refine Tr.gq rfl rfl hT8 (QS.move rfl) rfl ?_
      refine Tr.gq rfl rfl hT8 (QS.neq8 (n := 95) rfl rfl) rfl ?_
      refine Tr.q (QS.pickT rfl hT8 rfl) rfl ?_
      refine Tr.nil (Tr.thenN ?_)
      exact Tr.endX (Sub.cons rfl (Sub.dropN 3 (by kernel_rfl) rfl))
    · intro hF8
      refine Tr.gskip rfl rfl hF8 rfl ?_
      refine Tr.gskip rfl rfl hF8 rfl ?_
      refine Tr.q (QS.pickF rfl hF8 rfl) rfl ?_
      refine Tr.nil (Tr.thenN ?_)
      exact Tr.endX (Sub.cons rfl (Sub.dropN 3 (by kernel_rfl) rfl))
    refine Tr.q (QS.move rfl) rfl ?_
    apply Tr.andP
    · exact (rfl : _ = (3, 38, 41))
    · exact rfl
    · intro hT9; have hT9' := hT9
      try simp only [bs] at hT9'
      refine Tr.gq rfl rfl hT9 (QS.move rfl) rfl ?_
      refine Tr.gq rfl rfl hT9 (QS.neq8 (n := 46) rfl rfl) rfl ?_
      refine Tr.q (QS.pickT rfl hT9 rfl) rfl ?_
      refine Tr.nil (Tr.thenN ?_)
      exact Tr.endX (Sub.cons rfl (Sub.dropN 3 (by kernel_rfl) rfl))
    · intro hF9
      refine Tr.gskip rfl rfl hF9 rfl ?_
      refine Tr.gskip rfl rfl hF9 rfl ?_
      refine Tr.q (QS.pickF rfl hF9 rfl) rfl ?_
      refine Tr.nil (Tr.thenN ?_)
      exact Tr.endX (Sub.cons rfl (Sub.dropN 3 (by kernel_rfl) rfl))
    refine Tr.nil ?_
    refine Tr.thenN ?_
    refine Tr.cond rfl (fun h10 => ?_) (fun h10 => ?_)
    · try simp only [bs] at h10
      refine Tr.seq ?_
      refine Tr.region ?_
      refine Tr.q (QS.assign rfl) rfl ?_
      refine Tr.nil ?_
      refine Tr.thenN ?_
      refine Tr.ret ?_
      refine Tr.inR ?_
      refine Tr.thenR ?_
      refine Tr.thenR ?_
      refine Tr.inR ?_
      refine Tr.thenR ?_
      refine Tr.ret1 Try.results41 rfl (fun w' hw => ?_)
      have hbad : badB ((bts s).getD k default) = true := by simp only [badB, lowB, uppB, digB, bs]; assumption
      exact ⟨by rw [nameP_bad (by omega) hbad], hw.below hF1⟩
    · try simp only [bs] at h10
      refine Tr.skip ?_
      refine Tr.inN ?_
      refine Tr.thenN ?_
      refine Tr.region ?_
      first | refine Tr.q (QS.addI rfl rfl (by omega)) rfl ?_ | refine Tr.q (QS.add rfl rfl) rfl ?_
      refine Tr.q (QS.move rfl) rfl ?_
      refine Tr.nil ?_
      refine Tr.thenN ?_
      have hbad : badB ((bts s).getD k default) = false := by simp only [badB, lowB, uppB, digB, bs]; assumption
      apply Tr.again (k + 1)
      · exact rfl
      · exact (.cons (by first | rfl | exact lookI rfl (by omega) | exact lookI rfl (by simp) | exact lookB rfl (by simp)) Front.nil)
      · exact SubX.dropN 19 (by kernel_rfl) rfl
      · exact (by repeat' (first | exact Pick.nil _ | exact Del.here _ | apply Pick.cons | apply Del.there))
      · exact ⟨by omega, by rw [any_take_succ (by omega), hk2, hbad]; rfl⟩
      · exact (by (try dsimp only); omega)
  · try simp only [bs] at h2
    refine Tr.exit ?_
    refine Tr.thenE ?_
    refine Tr.thenE ?_
    refine Tr.inHit ?_
    refine Tr.thenN ?_
    refine Tr.seq ?_
    refine Tr.region ?_
    refine Tr.q (QS.move rfl) rfl ?_
    refine Tr.q (QS.lenStr rfl Try.underlying9) rfl ?_
    refine Tr.q (QS.geq rfl rfl) rfl ?_
    refine Tr.q (QS.move rfl) rfl ?_
    apply Tr.andP
    · exact (rfl : _ = (4, 46, 50))
    · exact rfl
    · intro hT11; have hT11' := hT11
      try simp only [bs] at hT11'
      refine Tr.gq rfl rfl hT11 (QS.move rfl) rfl ?_
      refine Tr.gq rfl rfl hT11 (QS.lenStr rfl Try.underlying9) rfl ?_
      refine Tr.gq rfl rfl hT11 (QS.leq rfl rfl) rfl ?_
      refine Tr.q (QS.pickT rfl hT11 rfl) rfl ?_
      refine Tr.nil (Tr.thenN ?_)
      exact Tr.endX (Sub.cons rfl (Sub.dropN 4 (by kernel_rfl) rfl))
    · intro hF11
      refine Tr.gskip rfl rfl hF11 rfl ?_
      refine Tr.gskip rfl rfl hF11 rfl ?_
      refine Tr.gskip rfl rfl hF11 rfl ?_
      refine Tr.q (QS.pickF rfl hF11 rfl) rfl ?_
      refine Tr.nil (Tr.thenN ?_)
      exact Tr.endX (Sub.cons rfl (Sub.dropN 4 (by kernel_rfl) rfl))
    refine Tr.q (QS.assign rfl) rfl ?_
    refine Tr.nil ?_
    refine Tr.thenN ?_
    refine Tr.ret ?_
    refine Tr.ret1 Try.results41 rfl (fun w' hw => ?_)
    exact ⟨by rw [nameP_end (by omega) hk2], hw.below hF1⟩

set_option maxRecDepth 100000 in
set_option maxHeartbeats 2000000 in
theorem space_any (s : SecV) (w : World) (hs : s.data.length ≤ 200000) :
    Calls Try.prog 43 #[.agg (encSec.enc s).toArray] w (fun e w' => e = .returned (.agg (encRng.enc (spaceP s)).toArray) ∧ Ext w w') := by
  have hadr := s.addr.toNat_lt
  refine enter Try.func43 rfl Try.ntmps43 rfl ?_
  refine Tr.seq ?_
  refine Tr.region ?_
  refine Tr.box rfl rfl rfl (fun b1 => ?_)
  refine Tr.alloc Try.zeroValue61 rfl rfl (fun b2 => ?_)
  refine Tr.nil ?_
  refine Tr.thenN ?_
  refine Tr.seq ?_
  refine Tr.region ?_
  refine Tr.q (QS.fieldAddr (off := 1) (ft := 23) rfl Try.underlying59 rfl rfl Try.sizeOf23 (by decide)) rfl ?_
  refine Tr.q (QS.lV rfl Try.isAgg23) rfl ?_
  refine Tr.q (QS.cvt32toU rfl Try.underlying23 Try.underlying76) rfl ?_
  refine Tr.q (QS.fieldAddr (off := 2) (ft := 54) rfl Try.underlying59 rfl rfl Try.sizeOf54 (by decide)) rfl ?_
  refine Tr.q (QS.lV rfl Try.isAgg54) rfl ?_
  first | refine Tr.q (QS.len rfl (by assumption) Try.underlying54) rfl ?_ | refine Tr.q (QS.lenRow rfl (by repeat (first | exact List.Mem.head _ | apply List.Mem.tail)) Try.underlying54) rfl ?_ | refine Tr.q (QS.lenNil rfl Try.underlying54) rfl ?_
  first | refine Tr.q (QS.cvtIn rfl Try.underlying3 Try.underlying76 (IntWalk.u64_in _ (by omega))) rfl ?_ | refine Tr.q (QS.cvt rfl Try.underlying3 Try.underlying76) rfl ?_
  first | refine Tr.q (QS.addU rfl rfl (by omega)) rfl ?_ | refine Tr.q (QS.add rfl rfl) rfl ?_
  refine Tr.q (QS.assign rfl) rfl ?_
  refine Tr.nil ?_
  refine Tr.thenN ?_
  refine Tr.seq ?_
  refine Tr.region ?_
  refine Tr.q (QS.fieldAddr (off := 1) (ft := 23) rfl Try.underlying59 rfl rfl Try.sizeOf23 (by decide)) rfl ?_
  refine Tr.q (QS.lV rfl Try.isAgg23) rfl ?_
  refine Tr.q (QS.move rfl) rfl ?_
  refine Tr.q (QS.min2 rfl rfl) rfl ?_
  refine Tr.q (QS.cvtTo32 rfl Try.underlying76 Try.underlying23) rfl ?_
  refine Tr.q (QS.build (vs := [(0, _), (1, _)]) rfl rfl (HLF.built61_0_1 _ _)) rfl ?_
  refine Tr.storeW rfl rfl Try.sizeOf61 (by repeat (first | exact Put.here _ | apply Put.there)) (by rfl) (by rfl) (by first | exact List.all_eq_true.1 rfl | exact Enc.one _ _ | exact Enc.one encRng _) rfl ?_
  refine Tr.nil ?_
  refine Tr.thenN ?_
  refine Tr.ret ?_
  refine Tr.retC1 Try.results43 rfl (by repeat (first | exact List.Mem.head _ | apply List.Mem.tail)) Try.isAgg61 Try.sizeOf61 (by rfl) (fun w' hw => ?_)
  exact ⟨rfl, hw.below (Bg.le.refl _)⟩

set_option maxRecDepth 100000 in
set_option maxHeartbeats 2000000 in
theorem stack_any (w : World) :
    Calls Try.prog 44 #[] w (fun e w' => e = .returned (.agg (encRng.enc stackP).toArray) ∧ Ext w w') := by
  refine enter Try.func44 rfl Try.ntmps44 rfl ?_
  refine Tr.seq ?_
  refine Tr.region ?_
  refine Tr.alloc Try.zeroValue61 rfl rfl (fun b1 => ?_)
  refine Tr.nil ?_
  refine Tr.thenN ?_
  refine Tr.seq ?_
  refine Tr.region ?_
  refine Tr.q (QS.build (vs := [(0, _), (1, _)]) rfl rfl (HLF.built61_0_1 _ _)) rfl ?_
  refine Tr.storeW rfl rfl Try.sizeOf61 (by repeat (first | exact Put.here _ | apply Put.there)) (by rfl) (by rfl) (by first | exact List.all_eq_true.1 rfl | exact Enc.one _ _ | exact Enc.one encRng _) rfl ?_
  refine Tr.nil ?_
  refine Tr.thenN ?_
  refine Tr.ret ?_
  refine Tr.retC1 Try.results44 rfl (by repeat (first | exact List.Mem.head _ | apply List.Mem.tail)) Try.isAgg61 Try.sizeOf61 (by rfl) (fun w' hw => ?_)
  exact ⟨rfl, hw.below (Bg.le.refl _)⟩

set_option maxRecDepth 100000 in
set_option maxHeartbeats 2000000 in
theorem meet_any (a b : Rng) (w : World) :
    Calls Try.prog 42 #[.agg (encRng.enc a).toArray, .agg (encRng.enc b).toArray] w (fun e w' => e = .returned (.bool (meetP a b)) ∧ Ext w w') := by
  refine enter Try.func42 rfl Try.ntmps42 rfl ?_
  refine Tr.seq ?_
  refine Tr.region ?_
  refine Tr.box rfl rfl rfl (fun b1 => ?_)
  refine Tr.box rfl rfl rfl (fun b2 => ?_)
  refine Tr.q (QS.assign rfl) rfl ?_
  refine Tr.nil ?_
  refine Tr.thenN ?_
  refine Tr.seq ?_
  refine Tr.region ?_
  refine Tr.q (QS.fieldAddr (off := 0) (ft := 23) rfl Try.underlying61 rfl rfl Try.sizeOf23 (by decide)) rfl ?_
  refine Tr.q (QS.lV rfl Try.isAgg23) rfl ?_
  refine Tr.q (QS.fieldAddr (off := 0) (ft := 23) rfl Try.underlying61 rfl rfl Try.sizeOf23 (by decide)) rfl ?_
  refine Tr.q (QS.lV rfl Try.isAgg23) rfl ?_
  refine Tr.q (QS.max32 rfl rfl) rfl ?_
  refine Tr.q (QS.fieldAddr (off := 1) (ft := 23) rfl Try.underlying61 rfl rfl Try.sizeOf23 (by decide)) rfl ?_
  refine Tr.q (QS.lV rfl Try.isAgg23) rfl ?_
  refine Tr.q (QS.fieldAddr (off := 1) (ft := 23) rfl Try.underlying61 rfl rfl Try.sizeOf23 (by decide)) rfl ?_
  refine Tr.q (QS.lV rfl Try.isAgg23) rfl ?_
  refine Tr.q (QS.min32 rfl rfl) rfl ?_
  refine Tr.q (QS.lss32 rfl rfl) rfl ?_
  refine Tr.q (QS.assign rfl) rfl ?_
  refine Tr.nil ?_
  refine Tr.thenN ?_
  refine Tr.ret ?_
  refine Tr.ret1 Try.results42 rfl (fun w' hw => ?_)
  exact ⟨rfl, hw.below (Bg.le.refl _)⟩

set_option maxRecDepth 100000 in
set_option maxHeartbeats 2000000 in
theorem find1_any (s : SecV) (a : UInt32) (b : Nat) (w : World) (hc : Cell (hp w) b 0 (.int .u32 a.toNat)) (hs : s.data.length ≤ 200000) :
    Calls Try.prog 48 #[.agg (encSec.enc s).toArray, .pointer (some ⟨b, 0, none⟩)] w (fun e w' => e = .returned (.bool (inS a s)) ∧ Ext w w') := by
  have hc' : Cell (Bg.of w).blk b 0 (.int .u32 a.toNat) := hc
  refine enter Try.func48 rfl Try.ntmps48 rfl ?_
  refine Tr.seq ?_
  refine Tr.region ?_
  refine Tr.box rfl rfl rfl (fun b1 => ?_)
  refine Tr.q (QS.assign rfl) rfl ?_
  refine Tr.nil ?_
  refine Tr.thenN ?_
  refine Tr.seq ?_
  refine Tr.region ?_
  refine Tr.q (QS.lW rfl Try.isAgg59 Try.sizeOf59) rfl ?_
  refine Tr.q (QS.call rfl Try.call43 (fun w hw => space_any s w hs)) rfl ?_
  refine Tr.alloc Try.zeroValue61 rfl rfl (fun b2 => ?_)
  refine Tr.storeW rfl rfl Try.sizeOf61 (by repeat (first | exact Put.here _ | apply Put.there)) (by rfl) (by rfl) (by first | exact List.all_eq_true.1 rfl | exact Enc.one _ _ | exact Enc.one encRng _) rfl ?_
  refine Tr.nil ?_
  refine Tr.thenN ?_
  refine Tr.seq ?_
  refine Tr.region ?_
  refine Tr.q (QS.fieldAddr (off := 0) (ft := 23) rfl Try.underlying61 rfl rfl Try.sizeOf23 (by decide)) rfl ?_
  refine Tr.q (QS.lV rfl Try.isAgg23) rfl ?_
  first | refine Tr.q (QS.loadV rfl (by repeat (first | exact List.Mem.head _ | apply List.Mem.tail)) Try.isAgg23 (by rfl)) rfl ?_ | refine Tr.q (QS.loadC rfl (by assumption) Try.isAgg23) rfl ?_ | refine Tr.q (QS.loadCF rfl (by assumption) Try.isAgg23 (by rfl)) rfl ?_ | refine Tr.q (QS.el1 rfl (by assumption) Try.isAgg23 (by omega) (by rfl)) rfl ?_ | refine Tr.q (QS.elF rfl (by assumption) Try.isAgg23 (by omega) (by rfl)) rfl ?_ | refine Tr.q (QS.elR1 rfl (by repeat (first | exact List.Mem.head _ | apply List.Mem.tail)) Try.isAgg23 (by omega) (by rfl)) rfl ?_ | refine Tr.q (QS.elRF rfl (by repeat (first | exact List.Mem.head _ | apply List.Mem.tail)) Try.isAgg23 (by omega) (by rfl)) rfl ?_
  refine Tr.q (QS.leq32 rfl rfl) rfl ?_
  refine Tr.q (QS.move rfl) rfl ?_
  apply Tr.andP
  · exact (rfl : _ = (5, 11, 16))
  · exact rfl
  · intro hT3; have hT3' := hT3
    try simp only [bs] at hT3'
    first | refine Tr.gq rfl rfl hT3 (QS.loadV rfl (by repeat (first | exact List.Mem.head _ | apply List.Mem.tail)) Try.isAgg23 (by rfl)) rfl ?_ | refine Tr.gq rfl rfl hT3 (QS.loadC rfl (by assumption) Try.isAgg23) rfl ?_ | refine Tr.gq rfl rfl hT3 (QS.loadCF rfl (by assumption) Try.isAgg23 (by rfl)) rfl ?_ | refine Tr.gq rfl rfl hT3 (QS.el1 rfl (by assumption) Try.isAgg23 (by omega) (by rfl)) rfl ?_ | refine Tr.gq rfl rfl hT3 (QS.elF rfl (by assumption) Try.isAgg23 (by omega) (by rfl)) rfl ?_ | refine Tr.gq rfl rfl hT3 (QS.elR1 rfl (by repeat (first | exact List.Mem.head _ | apply List.Mem.tail)) Try.isAgg23 (by omega) (by rfl)) rfl ?_ | refine Tr.gq rfl rfl hT3 (QS.elRF rfl (by repeat (first | exact List.Mem.head _ | apply List.Mem.tail)) Try.isAgg23 (by omega) (by rfl)) rfl ?_
    refine Tr.gq rfl rfl hT3 (QS.fieldAddr (off := 1) (ft := 23) rfl Try.underlying61 rfl rfl Try.sizeOf23 (by decide)) rfl ?_
    refine Tr.gq rfl rfl hT3 (QS.lV rfl Try.isAgg23) rfl ?_
    refine Tr.gq rfl rfl hT3 (QS.lss32 rfl rfl) rfl ?_
    refine Tr.q (QS.pickT rfl hT3 rfl) rfl ?_
    refine Tr.nil (Tr.thenN ?_)
    exact Tr.endX (Sub.cons rfl (Sub.dropN 5 (by kernel_rfl) rfl))
  · intro hF3
    refine Tr.gskip rfl rfl hF3 rfl ?_
    refine Tr.gskip rfl rfl hF3 rfl ?_
    refine Tr.gskip rfl rfl hF3 rfl ?_
    refine Tr.gskip rfl rfl hF3 rfl ?_
    refine Tr.q (QS.pickF rfl hF3 rfl) rfl ?_
    refine Tr.nil (Tr.thenN ?_)
    exact Tr.endX (Sub.cons rfl (Sub.dropN 5 (by kernel_rfl) rfl))
  refine Tr.q (QS.assign rfl) rfl ?_
  refine Tr.nil ?_
  refine Tr.thenN ?_
  refine Tr.ret ?_
  refine Tr.ret1 Try.results48 rfl (fun w' hw => ?_)
  exact ⟨rfl, hw.below (Bg.le.refl _)⟩

set_option maxRecDepth 100000 in
set_option maxHeartbeats 2000000 in
theorem check1_any (x s : SecV) (b : Nat) (w : World) (hc : CellsIn (hp w) b (encSec.enc s)) :
    Calls Try.prog 40 #[.agg (encSec.enc x).toArray, .pointer (some ⟨b, 0, none⟩)] w (fun e w' => e = .returned (.bool (decide (x.name = s.name))) ∧ Ext w w') := by
  have hc' : CellsIn (Bg.of w).blk b (encSec.enc s) := hc
  refine enter Try.func40 rfl Try.ntmps40 rfl ?_
  refine Tr.seq ?_
  refine Tr.region ?_
  refine Tr.box rfl rfl rfl (fun b1 => ?_)
  refine Tr.q (QS.assign rfl) rfl ?_
  refine Tr.nil ?_
  refine Tr.thenN ?_
  refine Tr.seq ?_
  refine Tr.region ?_
  refine Tr.q (QS.fieldAddr (off := 0) (ft := 9) rfl Try.underlying59 rfl rfl Try.sizeOf9 (by decide)) rfl ?_
  refine Tr.q (QS.lV rfl Try.isAgg9) rfl ?_
  refine Tr.q (QS.fieldAddr (off := 0) (ft := 9) rfl Try.underlying59 rfl rfl Try.sizeOf9 (by decide)) rfl ?_
  first | refine Tr.q (QS.loadV rfl (by repeat (first | exact List.Mem.head _ | apply List.Mem.tail)) Try.isAgg9 (by rfl)) rfl ?_ | refine Tr.q (QS.loadC rfl (by assumption) Try.isAgg9) rfl ?_ | refine Tr.q (QS.loadCF rfl (by assumption) Try.isAgg9 (by rfl)) rfl ?_ | refine Tr.q (QS.el1 rfl (by assumption) Try.isAgg9 (by omega) (by rfl)) rfl ?_ | refine Tr.q (QS.elF rfl (by assumption) Try.isAgg9 (by omega) (by rfl)) rfl ?_ | refine Tr.q (QS.elR1 rfl (by repeat (first | exact List.Mem.head _ | apply List.Mem.tail)) Try.isAgg9 (by omega) (by rfl)) rfl ?_ | refine Tr.q (QS.elRF rfl (by repeat (first | exact List.Mem.head _ | apply List.Mem.tail)) Try.isAgg9 (by omega) (by rfl)) rfl ?_
  refine Tr.q (QS.str_eql rfl rfl) rfl ?_
  refine Tr.q (QS.assign rfl) rfl ?_
  refine Tr.nil ?_
  refine Tr.thenN ?_
  refine Tr.ret ?_
  refine Tr.ret1 Try.results40 rfl (fun w' hw => ?_)
  exact ⟨rfl, hw.below (Bg.le.refl _)⟩

set_option maxRecDepth 100000 in
set_option maxHeartbeats 2000000 in
theorem check2_any (x s : SecV) (b : Nat) (w : World) (hc : CellsIn (hp w) b (encSec.enc s)) (hx : x.data.length ≤ 200000) (hs : s.data.length ≤ 200000) :
    Calls Try.prog 45 #[.agg (encSec.enc x).toArray, .pointer (some ⟨b, 0, none⟩)] w (fun e w' => e = .returned (.bool (meetP (spaceP x) (spaceP s))) ∧ Ext w w') := by
  have hc' : CellsIn (Bg.of w).blk b (encSec.enc s) := hc
  refine enter Try.func45 rfl Try.ntmps45 rfl ?_
  refine Tr.seq ?_
  refine Tr.region ?_
  refine Tr.box rfl rfl rfl (fun b1 => ?_)
  refine Tr.q (QS.assign rfl) rfl ?_
  refine Tr.nil ?_
  refine Tr.thenN ?_
  refine Tr.seq ?_
  refine Tr.regionQ HLF.mixed (by kernel_rfl) ?_
  refine TrQ.q (QS.lW rfl Try.isAgg59 Try.sizeOf59) rfl ?_
  refine TrQ.q (QS.call rfl Try.call43 (fun w hw => space_any x w hx)) rfl ?_
  first | refine TrQ.q (QS.loadCA rfl (by assumption) Try.isAgg59 Try.sizeOf59 (by rfl)) rfl ?_ | refine TrQ.q (QS.loadVW rfl (by repeat (first | exact List.Mem.head _ | apply List.Mem.tail)) Try.isAgg59 Try.sizeOf59 (by rfl)) rfl ?_ | refine TrQ.q (QS.elA rfl (by assumption) Try.isAgg59 Try.sizeOf59 (by rfl) (by omega)) rfl ?_ | refine TrQ.q (QS.elRA rfl (by repeat (first | exact List.Mem.head _ | apply List.Mem.tail)) Try.isAgg59 Try.sizeOf59 (by rfl) (by omega)) rfl ?_
  refine TrQ.q (QS.call rfl Try.call43 (fun w hw => space_any s w hs)) rfl ?_
  refine TrQ.q (QS.call rfl Try.call42 (fun w hw => meet_any (spaceP x) (spaceP s) w)) rfl ?_
  refine TrQ.q (QS.assign rfl) rfl ?_
  refine TrQ.nil ?_
  refine Tr.thenN ?_
  refine Tr.ret ?_
  refine Tr.ret1 Try.results45 rfl (fun w' hw => ?_)
  exact ⟨rfl, hw.below (Bg.le.refl _)⟩

set_option maxRecDepth 100000 in
set_option maxHeartbeats 2000000 in
theorem indexFunc_sec (l : List SecV) (V : Value) (g : FuncId) (cb : List Value) (w : World) (hV : Sl (hp w) encSec l V) (eg : ∀ args w, (callFunc g args).run Try.prog w = .ok (.enter g args) w) (p : SecV → Bool) (hp : ∀ x, x ∈ l → ∀ w', Ext w w' → Calls Try.prog g ([Value.agg (encSec.enc x).toArray] ++ cb).toArray w' fun e w'' => e = .returned (.bool (p x)) ∧ Ext w' w'') :
    Calls Try.prog 47 #[V, .func (.func g) #[] cb.toArray] w (fun e w' => e = .returned (.int .i64 (idxP p 0 l)) ∧ Ext w w') := by
  have hV' : Sl (Bg.of w).blk encSec l V := hV
  have hlen := hV.len_le
  refine enter Try.func47 rfl Try.ntmps47 rfl ?_
  refine Tr.seq ?_
  refine Tr.region ?_
  refine Tr.q (QS.assign rfl) rfl ?_
  refine Tr.nil ?_
  refine Tr.thenN ?_
  refine Tr.seq ?_
  refine Tr.seq ?_
  refine Tr.region ?_
  refine Tr.q (QS.move rfl) rfl ?_
  first | refine Tr.q (QS.len rfl (by assumption) Try.underlying22) rfl ?_ | refine Tr.q (QS.lenRow rfl (by repeat (first | exact List.Mem.head _ | apply List.Mem.tail)) Try.underlying22) rfl ?_ | refine Tr.q (QS.lenNil rfl Try.underlying22) rfl ?_
  refine Tr.q (QS.move rfl) rfl ?_
  refine Tr.nil ?_
  refine Tr.thenN ?_
  refine Tr.block ?_
  refine Tr.loop (ι := Nat) (fun k => k ≤ l.length ∧ idxP p k (l.drop k) = idxP p 0 l) (fun _ => _) (fun k => []) (fun k => [(8, .int .i64 (k : Nat))]) (fun k => l.length - k) 0 ⟨Nat.zero_le _, rfl⟩ (.cons (by first | rfl | exact lookI rfl (by omega) | exact lookI rfl (by simp) | exact lookB rfl (by simp)) Front.nil) (by repeat' (first | exact Pick.nil _ | exact Del.here _ | apply Pick.cons | apply Del.there)) rfl (fun k hi m hm => ?_)
  replace hi : k ≤ l.length ∧ idxP p k (l.drop k) = idxP p 0 l := hi
  replace hm : m = l.length - k := hm
  change Tr _ _ [] ([(8, .int .i64 (k : Nat))] ++ _) _
  obtain ⟨hk1, hk2⟩ := hi
  refine Tr.seq ?_
  refine Tr.region ?_
  refine Tr.q (QS.lss rfl rfl) rfl ?_
  refine Tr.nil ?_
  refine Tr.thenN ?_
  refine Tr.seq ?_
  refine Tr.cond rfl (fun h1 => ?_) (fun h1 => ?_)
  · try simp only [bs] at h1
    refine Tr.skip ?_
    refine Tr.thenN ?_
    refine Tr.seq ?_
    refine Tr.block ?_
    refine Tr.seq ?_
    refine Tr.region ?_
    refine Tr.q (QS.move rfl) rfl ?_
    refine Tr.q (QS.assign rfl) rfl ?_
    refine Tr.nil ?_
    refine Tr.thenN ?_
    refine Tr.seq ?_
    refine Tr.region ?_
    refine Tr.q (QS.move rfl) rfl ?_
    refine Tr.q (QS.move rfl) rfl ?_
    refine Tr.q (QS.move rfl) rfl ?_
    first | refine Tr.q (QS.idxN rfl rfl (by assumption) Try.underlying22 Try.sizeOf59 (by rfl) (by omega)) rfl ?_ | refine Tr.q (QS.idxRowN rfl rfl (by repeat (first | exact List.Mem.head _ | apply List.Mem.tail)) Try.underlying22 Try.sizeOf59 (by rfl) (by omega)) rfl ?_ | refine Tr.q (QS.idx rfl rfl (by assumption) Try.underlying22 Try.sizeOf59 (by rfl) (by omega)) rfl ?_ | refine Tr.q (QS.idxRow rfl rfl (by repeat (first | exact List.Mem.head _ | apply List.Mem.tail)) Try.underlying22 Try.sizeOf59 (by rfl) (by omega)) rfl ?_
    first | refine Tr.q (QS.elA rfl (by assumption) Try.isAgg59 Try.sizeOf59 (by rfl) (by omega)) rfl ?_ | refine Tr.q (QS.elRA rfl (by repeat (first | exact List.Mem.head _ | apply List.Mem.tail)) Try.isAgg59 Try.sizeOf59 (by rfl) (by omega)) rfl ?_
    refine Tr.q (QS.callV rfl rfl eg (fun w hw => hp _ (mem_getD (by omega)) w (hw.below (Bg.le.refl _)))) rfl ?_
    refine Tr.nil ?_
    refine Tr.thenN ?_
    refine Tr.cond rfl (fun h2 => ?_) (fun h2 => ?_)
    · try simp only [bs] at h2
      refine Tr.seq ?_
      refine Tr.region ?_
      refine Tr.q (QS.move rfl) rfl ?_
      refine Tr.q (QS.assign rfl) rfl ?_
      refine Tr.nil ?_
      refine Tr.thenN ?_
      refine Tr.ret ?_
      refine Tr.inR ?_
      refine Tr.thenR ?_
      refine Tr.thenR ?_
      refine Tr.inR ?_
      refine Tr.thenR ?_
      refine Tr.ret1 Try.results47 rfl (fun w' hw => ?_)
      exact ⟨by rw [← hk2, drop_cons (k := k) (by omega), idxP, if_pos (by assumption)], hw.below (Bg.le.refl _)⟩
    · try simp only [bs] at h2
      refine Tr.skip ?_
      refine Tr.inN ?_
      refine Tr.thenN ?_
      refine Tr.region ?_
      first | refine Tr.q (QS.addI rfl rfl (by omega)) rfl ?_ | refine Tr.q (QS.add rfl rfl) rfl ?_
      refine Tr.q (QS.move rfl) rfl ?_
      refine Tr.nil ?_
      refine Tr.thenN ?_
      apply Tr.again (k + 1)
      · exact rfl
      · exact (.cons (by first | rfl | exact lookI rfl (by omega) | exact lookI rfl (by simp) | exact lookB rfl (by simp)) Front.nil)
      · exact SubX.dropN 12 (by kernel_rfl) rfl
      · exact (by repeat' (first | exact Pick.nil _ | exact Del.here _ | apply Pick.cons | apply Del.there))
      · exact ⟨by omega, by rw [← hk2, drop_cons (k := k) (by omega), idxP, if_neg (by simp_all)]⟩
      · exact (by (try dsimp only); omega)
  · try simp only [bs] at h1
    refine Tr.exit ?_
    refine Tr.thenE ?_
    refine Tr.thenE ?_
    refine Tr.inHit ?_
    refine Tr.thenN ?_
    refine Tr.seq ?_
    refine Tr.region ?_
    refine Tr.q (QS.assign rfl) rfl ?_
    refine Tr.nil ?_
    refine Tr.thenN ?_
    refine Tr.ret ?_
    refine Tr.ret1 Try.results47 rfl (fun w' hw => ?_)
    exact ⟨by rw [← hk2, List.drop_of_length_le (by omega)]; rfl, hw.below (Bg.le.refl _)⟩

set_option maxRecDepth 100000 in
set_option maxHeartbeats 2000000 in
theorem containsFunc_sec (l : List SecV) (V : Value) (g : FuncId) (cb : List Value) (w : World) (hV : Sl (hp w) encSec l V) (eg : ∀ args w, (callFunc g args).run Try.prog w = .ok (.enter g args) w) (p : SecV → Bool) (hp : ∀ x, x ∈ l → ∀ w', Ext w w' → Calls Try.prog g ([Value.agg (encSec.enc x).toArray] ++ cb).toArray w' fun e w'' => e = .returned (.bool (p x)) ∧ Ext w' w'') :
    Calls Try.prog 39 #[V, .func (.func g) #[] cb.toArray] w (fun e w' => e = .returned (.bool (l.any p)) ∧ Ext w w') := by
  refine enter Try.func39 rfl Try.ntmps39 rfl ?_
  refine Tr.seq ?_
  refine Tr.region ?_
  refine Tr.q (QS.assign rfl) rfl ?_
  refine Tr.nil ?_
  refine Tr.thenN ?_
  refine Tr.seq ?_
  refine Tr.region ?_
  refine Tr.q (QS.move rfl) rfl ?_
  refine Tr.q (QS.move rfl) rfl ?_
  refine Tr.q (QS.call rfl Try.call47 (fun w hw => indexFunc_sec l V g cb w (hw.slF hV) eg p (fun x hx w'' h => hp x hx w'' ((hw.below (Bg.le.refl _)).trans h)))) rfl ?_
  refine Tr.q (QS.geq rfl rfl) rfl ?_
  refine Tr.q (QS.assign rfl) rfl ?_
  refine Tr.nil ?_
  refine Tr.thenN ?_
  refine Tr.ret ?_
  refine Tr.ret1 Try.results39 rfl (fun w' hw => ?_)
  exact ⟨by rw [idxP_any], hw.below (Bg.le.refl _)⟩

set_option maxRecDepth 100000 in
set_option maxHeartbeats 2000000 in
theorem find_any (l : List SecV) (V : Value) (a : UInt32) (w : World) (hV : Sl (hp w) encSec l V) (hB : SecB l) :
    Calls Try.prog 20 #[V, .int .u32 a.toNat] w (fun e w' => e = .returned (.int .i64 (findP l a)) ∧ Ext w w') := by
  have hV' : Sl (Bg.of w).blk encSec l V := hV
  have hlen := hB.1
  refine enter Try.func20 rfl Try.ntmps20 rfl ?_
  refine Tr.seq ?_
  refine Tr.region ?_
  refine Tr.box rfl rfl rfl (fun b1 => ?_)
  refine Tr.q (QS.assign rfl) rfl ?_
  refine Tr.nil ?_
  refine Tr.thenN ?_
  refine Tr.seq ?_
  refine Tr.region ?_
  refine Tr.q (QS.move rfl) rfl ?_
  refine Tr.q (QS.makeFunc rfl rfl) rfl ?_
  refine Tr.q (QS.call rfl Try.call47 (fun w hw => indexFunc_sec l V _ _ w (hw.slF hV) Try.call48 (inS a) (fun x hx w'' h => find1_any x a _ w'' (cellE.cell (hw.ent _ (.head _)) h rfl) (hB.2 x hx)))) rfl ?_
  refine Tr.q (QS.assign rfl) rfl ?_
  refine Tr.nil ?_
  refine Tr.thenN ?_
  refine Tr.ret ?_
  refine Tr.ret1 Try.results20 rfl (fun w' hw => ?_)
  exact ⟨rfl, hw.below (Bg.le.refl _)⟩

set_option maxRecDepth 100000 in
set_option maxHeartbeats 2000000 in
theorem place_any (l : List SecV) (V : Value) (a : UInt32) (n : Int) (w : World) (hV : Sl (hp w) encSec l V) (hB : SecB l) (hn : 0 ≤ n ∧ n ≤ 9223372036854775807) :
    Calls Try.prog 57 #[V, .int .u32 a.toNat, .int .i64 n] w (fun e w' => e = .returned (.tuple #[.int .i64 (placeP l a n).1, .int .i64 (placeP l a n).2.1, .int .i64 (placeP l a n).2.2]) ∧ Ext w w') := by
  have hV' : Sl (Bg.of w).blk encSec l V := hV
  have hlen := hB.1
  have hf := findP_lt (l := l) (a := a)
  refine enter Try.func57 rfl Try.ntmps57 rfl ?_
  refine Tr.seq ?_
  refine Tr.region ?_
  refine Tr.q (QS.assign rfl) rfl ?_
  refine Tr.q (QS.assign rfl) rfl ?_
  refine Tr.q (QS.assign rfl) rfl ?_
  refine Tr.nil ?_
  refine Tr.thenN ?_
  refine Tr.seq ?_
  refine Tr.region ?_
  refine Tr.q (QS.move rfl) rfl ?_
  refine Tr.q (QS.move rfl) rfl ?_
  refine Tr.q (QS.call rfl Try.call20 (fun w hw => find_any l V a w (hw.slF hV) hB)) rfl ?_
  refine Tr.q (QS.assign rfl) rfl ?_
  refine Tr.nil ?_
  refine Tr.thenN ?_
  refine Tr.seq ?_
  refine Tr.seq ?_
  refine Tr.region ?_
  refine Tr.q (QS.move rfl) rfl ?_
  refine Tr.q (QS.lss rfl rfl) rfl ?_
  refine Tr.nil ?_
  refine Tr.thenN ?_
  refine Tr.cond rfl (fun h1 => ?_) (fun h1 => ?_)
  · try simp only [bs] at h1
    refine Tr.seq ?_
    refine Tr.region ?_
    refine Tr.q (QS.assign rfl) rfl ?_
    refine Tr.q (QS.assign rfl) rfl ?_
    refine Tr.q (QS.assign rfl) rfl ?_
    refine Tr.nil ?_
    refine Tr.thenN ?_
    refine Tr.ret ?_
    refine Tr.thenR ?_
    refine Tr.ret3 Try.results57 rfl rfl rfl (fun w' hw => ?_)
    exact ⟨by rw [placeP_1 (by assumption)], hw.below (Bg.le.refl _)⟩
  · try simp only [bs] at h1
    refine Tr.skip ?_
    refine Tr.thenN ?_
    refine Tr.seq ?_
    refine Tr.region ?_
    refine Tr.q (QS.move rfl) rfl ?_
    refine Tr.q (QS.move rfl) rfl ?_
    first | refine Tr.q (QS.idxN rfl rfl (by assumption) Try.underlying22 Try.sizeOf59 (by rfl) (by omega)) rfl ?_ | refine Tr.q (QS.idxRowN rfl rfl (by repeat (first | exact List.Mem.head _ | apply List.Mem.tail)) Try.underlying22 Try.sizeOf59 (by rfl) (by omega)) rfl ?_ | refine Tr.q (QS.idx rfl rfl (by assumption) Try.underlying22 Try.sizeOf59 (by rfl) (by omega)) rfl ?_ | refine Tr.q (QS.idxRow rfl rfl (by repeat (first | exact List.Mem.head _ | apply List.Mem.tail)) Try.underlying22 Try.sizeOf59 (by rfl) (by omega)) rfl ?_
    first | refine Tr.q (QS.elA rfl (by assumption) Try.isAgg59 Try.sizeOf59 (by rfl) (by omega)) rfl ?_ | refine Tr.q (QS.elRA rfl (by repeat (first | exact List.Mem.head _ | apply List.Mem.tail)) Try.isAgg59 Try.sizeOf59 (by rfl) (by omega)) rfl ?_
    refine Tr.q (QS.call rfl Try.call43 (fun w hw => space_any (l.getD (findP l a).toNat default) w (hB.at (by omega)))) rfl ?_
    refine Tr.alloc Try.zeroValue61 rfl rfl (fun b2 => ?_)
    refine Tr.storeW rfl rfl Try.sizeOf61 (by repeat (first | exact Put.here _ | apply Put.there)) (by rfl) (by rfl) (by first | exact List.all_eq_true.1 rfl | exact Enc.one _ _ | exact Enc.one encRng _) rfl ?_
    refine Tr.nil ?_
    refine Tr.thenN ?_
    refine Tr.seq ?_
    refine Tr.seq ?_
    refine Tr.region ?_
    refine Tr.q (QS.move rfl) rfl ?_
    first | refine Tr.q (QS.cvtIn rfl Try.underlying3 Try.underlying76 (IntWalk.u64_in _ (by omega))) rfl ?_ | refine Tr.q (QS.cvt rfl Try.underlying3 Try.underlying76) rfl ?_
    refine Tr.q (QS.fieldAddr (off := 1) (ft := 23) rfl Try.underlying61 rfl rfl Try.sizeOf23 (by decide)) rfl ?_
    refine Tr.q (QS.lV rfl Try.isAgg23) rfl ?_
    refine Tr.q (QS.move rfl) rfl ?_
    refine Tr.q (QS.sub32 rfl rfl) rfl ?_
    refine Tr.q (QS.cvt32toU rfl Try.underlying23 Try.underlying76) rfl ?_
    refine Tr.q (QS.gtr rfl rfl) rfl ?_
    refine Tr.nil ?_
    refine Tr.thenN ?_
    refine Tr.cond rfl (fun h3 => ?_) (fun h3 => ?_)
    · try simp only [bs] at h3
      refine Tr.seq ?_
      refine Tr.region ?_
      refine Tr.q (QS.assign rfl) rfl ?_
      refine Tr.q (QS.assign rfl) rfl ?_
      refine Tr.q (QS.assign rfl) rfl ?_
      refine Tr.nil ?_
      refine Tr.thenN ?_
      refine Tr.ret ?_
      refine Tr.thenR ?_
      refine Tr.ret3 Try.results57 rfl rfl rfl (fun w' hw => ?_)
      have hpl := place_left (l := l) (a := a) (by assumption)
      exact ⟨by rw [placeP_2 (by assumption) (by rw [← hpl]; assumption)], hw.below (Bg.le.refl _)⟩
    · try simp only [bs] at h3
      refine Tr.skip ?_
      refine Tr.thenN ?_
      refine Tr.seq ?_
      refine Tr.regionQ HLF.mixed (by kernel_rfl) ?_
      refine TrQ.q (QS.move rfl) rfl ?_
      refine TrQ.q (QS.move rfl) rfl ?_
      refine TrQ.q (QS.fieldAddr (off := 0) (ft := 23) rfl Try.underlying61 rfl rfl Try.sizeOf23 (by decide)) rfl ?_
      refine TrQ.q (QS.lV rfl Try.isAgg23) rfl ?_
      refine TrQ.q (QS.sub32 rfl rfl) rfl ?_
      refine TrQ.q (QS.cvt32toI rfl Try.underlying23 Try.underlying3) rfl ?_
      refine TrQ.q (QS.assign rfl) rfl ?_
      refine TrQ.q (QS.assign rfl) rfl ?_
      refine TrQ.q (QS.assign rfl) rfl ?_
      refine TrQ.nil ?_
      refine Tr.thenN ?_
      refine Tr.ret ?_
      refine Tr.ret3 Try.results57 rfl rfl rfl (fun w' hw => ?_)
      have hpl := place_left (l := l) (a := a) (by assumption)
      have hpa := place_at (l := l) (a := a) (by assumption)
      exact ⟨by rw [placeP_3 (by assumption) (by rw [← hpl]; assumption), ← hpa]; rfl, hw.below (Bg.le.refl _)⟩

set_option maxRecDepth 100000 in
set_option maxHeartbeats 2000000 in
theorem read_any (l : List SecV) (V : Value) (a : UInt32) (n : Int) (w : World) (hV : Sl (hp w) encSec l V) (hB : SecB l) (hD : DataIn (hp w) l) (hn : n ≤ 9223372036854775807) :
    Calls Try.prog 26 #[V, .int .u32 a.toNat, .int .i64 n] w (fun e w' => ∃ V', e = .returned (.tuple #[V', .int .i64 (readP l a n).2]) ∧ Ext w w' ∧ NewRow w w' 5 encU8 (readP l a n).1 V') := by
  have hV' : Sl (Bg.of w).blk encSec l V := hV
  have hlen := hB.1
  refine enter Try.func26 rfl Try.ntmps26 rfl ?_
  refine Tr.seq ?_
  refine Tr.region ?_
  refine Tr.q (QS.assign rfl) rfl ?_
  refine Tr.q (QS.assign rfl) rfl ?_
  refine Tr.nil ?_
  refine Tr.thenN ?_
  refine Tr.seq ?_
  refine Tr.seq ?_
  refine Tr.region ?_
  refine Tr.q (QS.move rfl) rfl ?_
  refine Tr.q (QS.lss rfl rfl) rfl ?_
  refine Tr.nil ?_
  refine Tr.thenN ?_
  refine Tr.cond rfl (fun h1 => ?_) (fun h1 => ?_)
  · try simp only [bs] at h1
    refine Tr.seq ?_
    refine Tr.region ?_
    refine Tr.q (QS.assign rfl) rfl ?_
    refine Tr.q (QS.assign rfl) rfl ?_
    refine Tr.nil ?_
    refine Tr.thenN ?_
    refine Tr.ret ?_
    refine Tr.thenR ?_
    refine Tr.ret2 Try.results26 rfl rfl (fun w' hw => ?_)
    exact ⟨_, by rw [readP, if_pos (by assumption)], hw.below (Bg.le.refl _), newRow_nil (by rw [readP, if_pos (by assumption)])⟩
  · try simp only [bs] at h1
    refine Tr.skip ?_
    refine Tr.thenN ?_
    refine Tr.seq ?_
    refine Tr.seq ?_
    refine Tr.region ?_
    refine Tr.q (QS.move rfl) rfl ?_
    refine Tr.q (QS.eql rfl rfl) rfl ?_
    refine Tr.nil ?_
    refine Tr.thenN ?_
    refine Tr.cond rfl (fun h2 => ?_) (fun h2 => ?_)
    · try simp only [bs] at h2
      refine Tr.seq ?_
      refine Tr.region ?_
      refine Tr.q (QS.assign rfl) rfl ?_
      refine Tr.q (QS.assign rfl) rfl ?_
      refine Tr.nil ?_
      refine Tr.thenN ?_
      refine Tr.ret ?_
      refine Tr.thenR ?_
      refine Tr.ret2 Try.results26 rfl rfl (fun w' hw => ?_)
      exact ⟨_, by rw [readP, if_neg (by assumption), if_pos (by assumption)], hw.below (Bg.le.refl _), newRow_nil (by rw [readP, if_neg (by assumption), if_pos (by assumption)])⟩
    · try simp only [bs] at h2
      refine Tr.skip ?_
      refine Tr.thenN ?_
      refine Tr.seq ?_
      refine Tr.region ?_
      refine Tr.q (QS.move rfl) rfl ?_
      refine Tr.q (QS.move rfl) rfl ?_
      refine Tr.q (QS.move rfl) rfl ?_
      refine Tr.q (QS.call rfl Try.call57 (fun w hw => place_any l V a n w (hw.slF hV) hB (by omega))) rfl ?_
      refine Tr.q (QS.move rfl) rfl ?_
      refine Tr.q (QS.extract rfl rfl) rfl ?_
      refine Tr.q (QS.extract rfl rfl) rfl ?_
      refine Tr.q (QS.extract rfl rfl) rfl ?_
      refine Tr.q (QS.assign rfl) rfl ?_
      refine Tr.q (QS.assign rfl) rfl ?_
      refine Tr.q (QS.assign rfl) rfl ?_
      refine Tr.nil ?_
      refine Tr.thenN ?_
      refine Tr.seq ?_
      refine Tr.seq ?_
      refine Tr.region ?_
      refine Tr.q (QS.move rfl) rfl ?_
      refine Tr.q (QS.neq rfl rfl) rfl ?_
      refine Tr.nil ?_
      refine Tr.thenN ?_
      refine Tr.cond rfl (fun h3 => ?_) (fun h3 => ?_)
      · try simp only [bs] at h3
        refine Tr.seq ?_
        refine Tr.region ?_
        refine Tr.q (QS.move rfl) rfl ?_
        refine Tr.q (QS.assign rfl) rfl ?_
        refine Tr.q (QS.assign rfl) rfl ?_
        refine Tr.nil ?_
        refine Tr.thenN ?_
        refine Tr.ret ?_
        refine Tr.thenR ?_
        refine Tr.ret2 Try.results26 rfl rfl (fun w' hw => ?_)
        exact ⟨_, by rw [readP, if_neg (by assumption), if_neg (by assumption), if_pos (by assumption)]; rfl, hw.below (Bg.le.refl _), newRow_nil (by rw [readP, if_neg (by assumption), if_neg (by assumption), if_pos (by assumption)])⟩
      · try simp only [bs] at h3
        refine Tr.skip ?_
        refine Tr.thenN ?_
        refine Tr.seq ?_
        obtain ⟨p1, p2, p3, p4, p5⟩ := placeP_ok (l := l) (a := a) (n := n) (by simp_all)
        have p6 : (placeP l a n).2.1 ≤ (placeP l a n).2.1 + n := by omega
        have hdl := hB.at (k := (placeP l a n).1.toNat) (by omega)
        have hDk : Sl (Bg.of w).blk encU8 (l.getD (placeP l a n).1.toNat default).data (.slice (l.getD (placeP l a n).1.toNat default).dp (l.getD (placeP l a n).1.toNat default).data.length (l.getD (placeP l a n).1.toNat default).dc) := hD _ (mem_getD (by omega))
        refine Tr.region ?_
        refine Tr.q (QS.move rfl) rfl ?_
        refine Tr.q (QS.move rfl) rfl ?_
        first | refine Tr.q (QS.idxN rfl rfl (by assumption) Try.underlying22 Try.sizeOf59 (by rfl) (by omega)) rfl ?_ | refine Tr.q (QS.idxRowN rfl rfl (by repeat (first | exact List.Mem.head _ | apply List.Mem.tail)) Try.underlying22 Try.sizeOf59 (by rfl) (by omega)) rfl ?_ | refine Tr.q (QS.idx rfl rfl (by assumption) Try.underlying22 Try.sizeOf59 (by rfl) (by omega)) rfl ?_ | refine Tr.q (QS.idxRow rfl rfl (by repeat (first | exact List.Mem.head _ | apply List.Mem.tail)) Try.underlying22 Try.sizeOf59 (by rfl) (by omega)) rfl ?_
        refine Tr.q (QS.fieldAddr (off := 2) (ft := 54) rfl Try.underlying59 rfl rfl Try.sizeOf54 (by decide)) rfl ?_
        first | refine Tr.q (QS.elF rfl (by assumption) Try.isAgg54 (by omega) (by rfl)) rfl ?_ | refine Tr.q (QS.elRF rfl (by repeat (first | exact List.Mem.head _ | apply List.Mem.tail)) Try.isAgg54 (by omega) (by rfl)) rfl ?_
        refine Tr.q (QS.move rfl) rfl ?_
        refine Tr.q (QS.move rfl) rfl ?_
        refine Tr.q (QS.move rfl) rfl ?_
        first | refine Tr.q (QS.addI rfl rfl (by omega)) rfl ?_ | refine Tr.q (QS.add rfl rfl) rfl ?_
        first | refine Tr.q (QS.slice (lv := some (_, _)) (hv := some (_, _)) rfl (by assumption) rfl rfl Try.underlying54 Try.sizeOf5 (by rfl) (by simp only [loOf, hiOf] <;> first | omega | assumption | (simp only [NatCast.natCast, Int.ofNat_eq_natCast]; omega)) (by simp only [loOf, hiOf] <;> first | omega | assumption | (simp only [NatCast.natCast, Int.ofNat_eq_natCast]; omega)) (by simp only [loOf, hiOf] <;> first | omega | assumption | (simp only [NatCast.natCast, Int.ofNat_eq_natCast]; omega))) rfl ?_ | refine Tr.q (QS.sliceRow (lv := some (_, _)) (hv := some (_, _)) rfl (by repeat (first | exact List.Mem.head _ | apply List.Mem.tail)) rfl rfl Try.underlying54 Try.sizeOf5 (by rfl) (by simp only [loOf, hiOf] <;> first | omega | assumption | (simp only [NatCast.natCast, Int.ofNat_eq_natCast]; omega)) (by simp only [loOf, hiOf] <;> first | omega | assumption | (simp only [NatCast.natCast, Int.ofNat_eq_natCast]; omega)) (by simp only [loOf, hiOf] <;> first | omega | assumption | (simp only [NatCast.natCast, Int.ofNat_eq_natCast]; omega))) rfl ?_
        refine Tr.callRow rfl Try.call58 (fun w hw => clone_u8 (((l.getD (placeP l a n).1.toNat default).data.take ((placeP l a n).2.1 + n).toNat).drop (placeP l a n).2.1.toNat) _ w (Sl.resl (l := (placeP l a n).2.1.toNat) (h := ((placeP l a n).2.1 + n).toNat) (hw.slF hDk) (by omega) (by omega)) (by simp only [List.length_drop, List.length_take]; omega)) rfl (fun V4 => ?_)
        refine Tr.q (QS.assign rfl) rfl ?_
        refine Tr.nil ?_
        refine Tr.thenN ?_
        refine Tr.seq ?_
        refine Tr.region ?_
        refine Tr.q (QS.move rfl) rfl ?_
        refine Tr.q (QS.move rfl) rfl ?_
        refine Tr.q (QS.move rfl) rfl ?_
        refine Tr.sliceFullN rfl (by repeat (first | exact Del.here _ | apply Del.there)) rfl rfl (by simp only [List.length_drop, List.length_take]; omega) Try.underlying54 Try.sizeOf5 rfl (fun V90 => ?_)
        refine Tr.q (QS.assign rfl) rfl ?_
        refine Tr.q (QS.assign rfl) rfl ?_
        refine Tr.nil ?_
        refine Tr.thenN ?_
        refine Tr.ret ?_
        refine Tr.ret2 Try.results26 rfl rfl (fun w' hw => ?_)
        exact ⟨_, by rw [readP, if_neg (by assumption), if_neg (by assumption), if_neg (by simp_all)], hw.below (Bg.le.refl _), by rw [readP, if_neg (by assumption), if_neg (by assumption), if_neg (by simp_all)]; exact hw.new (.head _)⟩

set_option maxRecDepth 100000 in
set_option maxHeartbeats 2000000 in
theorem ranges_any (l : List SecV) (V : Value) (w : World) (hV : Sl (hp w) encSec l V) (hB : SecB l) :
    Calls Try.prog 65 #[V] w (fun e w' => ∃ V', e = .returned V' ∧ Ext w w' ∧ NewRow w w' 61 encRng (normalP (l.map spaceP)) V') := by
  have hV' : Sl (Bg.of w).blk encSec l V := hV
  have hlen := hB.1
  refine enter Try.func65 rfl Try.ntmps65 rfl ?_
  refine Tr.seq ?_
  refine Tr.region ?_
  refine Tr.q (QS.assign rfl) rfl ?_
  refine Tr.nil ?_
  refine Tr.thenN ?_
  refine Tr.seq ?_
  refine Tr.region ?_
  refine Tr.q (QS.assign rfl) rfl ?_
  refine Tr.nil ?_
  refine Tr.thenN ?_
  refine Tr.seq ?_
  refine Tr.seq ?_
  refine Tr.region ?_
  refine Tr.q (QS.move rfl) rfl ?_
  first | refine Tr.q (QS.len rfl (by assumption) Try.underlying22) rfl ?_ | refine Tr.q (QS.lenRow rfl (by repeat (first | exact List.Mem.head _ | apply List.Mem.tail)) Try.underlying22) rfl ?_ | refine Tr.q (QS.lenNil rfl Try.underlying22) rfl ?_
  refine Tr.q (QS.move rfl) rfl ?_
  refine Tr.nil ?_
  refine Tr.thenN ?_
  refine Tr.block ?_
  refine Tr.ownNil 61 encRng ?_
  refine Tr.loop (ι := Nat × Value) (fun ⟨k, V'⟩ => k ≤ l.length) (fun _ => _) (fun ⟨k, V'⟩ => [rowE V' 61 encRng ((l.take k).map spaceP)]) (fun ⟨k, V'⟩ => [(8, .int .i64 (k : Nat)), (3, V')]) (fun ⟨k, V'⟩ => l.length - k) (0, _) (Nat.zero_le _) (.cons (by first | rfl | exact lookI rfl (by omega) | exact lookI rfl (by simp) | exact lookB rfl (by simp)) (.cons (by first | rfl | exact lookI rfl (by omega) | exact lookI rfl (by simp) | exact lookB rfl (by simp)) Front.nil)) (by repeat' (first | exact Pick.nil _ | exact Del.here _ | apply Pick.cons | apply Del.there)) rfl (fun i hi m hm => ?_)
  obtain ⟨k, V'⟩ := i
  replace hi : k ≤ l.length := hi
  replace hm : m = l.length - k := hm
  change Tr _ _ [rowE V' 61 encRng ((l.take k).map spaceP)] ([(8, .int .i64 (k : Nat)), (3, V')] ++ _) _
  have hml : ((l.take k).map spaceP).length ≤ l.length := by simp only [List.length_map, List.length_take]; omega
  refine Tr.seq ?_
  refine Tr.region ?_
  refine Tr.q (QS.lss rfl rfl) rfl ?_
  refine Tr.nil ?_
  refine Tr.thenN ?_
  refine Tr.seq ?_
  refine Tr.cond rfl (fun h1 => ?_) (fun h1 => ?_)
  · try simp only [bs] at h1
    refine Tr.skip ?_
    refine Tr.thenN ?_
    refine Tr.seq ?_
    refine Tr.block ?_
    refine Tr.seq ?_
    refine Tr.region ?_
    first | refine Tr.q (QS.idxN rfl rfl (by assumption) Try.underlying22 Try.sizeOf59 (by rfl) (by omega)) rfl ?_ | refine Tr.q (QS.idxRowN rfl rfl (by repeat (first | exact List.Mem.head _ | apply List.Mem.tail)) Try.underlying22 Try.sizeOf59 (by rfl) (by omega)) rfl ?_ | refine Tr.q (QS.idx rfl rfl (by assumption) Try.underlying22 Try.sizeOf59 (by rfl) (by omega)) rfl ?_ | refine Tr.q (QS.idxRow rfl rfl (by repeat (first | exact List.Mem.head _ | apply List.Mem.tail)) Try.underlying22 Try.sizeOf59 (by rfl) (by omega)) rfl ?_
    first | refine Tr.q (QS.elA rfl (by assumption) Try.isAgg59 Try.sizeOf59 (by rfl) (by omega)) rfl ?_ | refine Tr.q (QS.elRA rfl (by repeat (first | exact List.Mem.head _ | apply List.Mem.tail)) Try.isAgg59 Try.sizeOf59 (by rfl) (by omega)) rfl ?_
    refine Tr.alloc Try.zeroValue59 rfl rfl (fun b2 => ?_)
    refine Tr.storeW rfl rfl Try.sizeOf59 (by repeat (first | exact Put.here _ | apply Put.there)) (by rfl) (by rfl) (by first | exact List.all_eq_true.1 rfl | exact Enc.one _ _ | exact Enc.one encSec _) rfl ?_
    refine Tr.nil ?_
    refine Tr.thenN ?_
    refine Tr.region ?_
    refine Tr.q (QS.move rfl) rfl ?_
    refine Tr.q (QS.lW rfl Try.isAgg59 Try.sizeOf59) rfl ?_
    refine Tr.q (QS.call rfl Try.call43 (fun w hw => space_any (l.getD k default) w (hB.at (by omega)))) rfl ?_
    first | refine Tr.lit1 (E := encRng) _ rfl rfl Try.underlying27 Try.sizeOf61 Try.zeroValue61 (by rfl) (by rfl) rfl (fun V3 => ?_) | refine Tr.lit1 (E := encRng) ⟨_, _⟩ rfl rfl Try.underlying27 Try.sizeOf61 Try.zeroValue61 (by rfl) (by rfl) rfl (fun V3 => ?_)
    first | refine Tr.append1 rfl rfl (by repeat (first | exact Del.here _ | apply Del.there)) (by repeat (first | exact Del.here _ | apply Del.there)) Try.underlying27 HLF.info61 (by rfl) (by rfl) (by (try simp only [List.length_cons, List.length_nil, List.length_append, List.length_take]); omega) (by unfold maxLen; (try simp only [List.length_cons, List.length_nil, List.length_append, List.length_take]); omega) rfl (fun V4 => ?_) | refine Tr.ownNil _ _ (Tr.append1 rfl rfl (by repeat (first | exact Del.here _ | apply Del.there)) (by repeat (first | exact Del.here _ | apply Del.there)) Try.underlying27 HLF.info61 (by rfl) (by rfl) (by (try simp only [List.length_cons, List.length_nil, List.length_append, List.length_take]); omega) (by unfold maxLen; (try simp only [List.length_cons, List.length_nil, List.length_append, List.length_take]); omega) rfl (fun V4 => ?_)) | refine Tr.appendOf rfl rfl (by repeat (first | exact Del.here _ | apply Del.there)) (fun w hw => hw.slF (by assumption)) Try.underlying27 HLF.info61 (by rfl) (by rfl) (by (try simp only [List.length_cons, List.length_nil, List.length_append, List.length_take]); omega) (by unfold maxLen; (try simp only [List.length_cons, List.length_nil, List.length_append, List.length_take]); omega) rfl (fun V4 => ?_) | refine Tr.ownNil _ _ (Tr.appendOf rfl rfl (by repeat (first | exact Del.here _ | apply Del.there)) (fun w hw => hw.slF (by assumption)) Try.underlying27 HLF.info61 (by rfl) (by rfl) (by (try simp only [List.length_cons, List.length_nil, List.length_append, List.length_take]); omega) (by unfold maxLen; (try simp only [List.length_cons, List.length_nil, List.length_append, List.length_take]); omega) rfl (fun V4 => ?_)) | refine Tr.appendOf rfl rfl (by repeat (first | exact Del.here _ | apply Del.there)) (fun w hw => hw.row (by repeat (first | exact List.Mem.head _ | apply List.Mem.tail))) Try.underlying27 HLF.info61 (by rfl) (by rfl) (by (try simp only [List.length_cons, List.length_nil, List.length_append, List.length_take]); omega) (by unfold maxLen; (try simp only [List.length_cons, List.length_nil, List.length_append, List.length_take]); omega) rfl (fun V4 => ?_)
    refine Tr.q (QS.assign rfl) rfl ?_
    refine Tr.nil ?_
    refine Tr.inN ?_
    refine Tr.thenN ?_
    refine Tr.region ?_
    first | refine Tr.q (QS.addI rfl rfl (by omega)) rfl ?_ | refine Tr.q (QS.add rfl rfl) rfl ?_
    refine Tr.q (QS.move rfl) rfl ?_
    refine Tr.nil ?_
    refine Tr.thenN ?_
    have htk : (l.take (k + 1)).map spaceP = (l.take k).map spaceP ++ [spaceP (l.getD k default)] := by rw [take_succ (by omega), List.map_append]; rfl
    rw [← htk]
    apply Tr.again (k + 1, _)
    · exact rfl
    · exact (.cons (by first | rfl | exact lookI rfl (by omega) | exact lookI rfl (by simp) | exact lookB rfl (by simp)) (.cons (by first | rfl | exact lookI rfl (by omega) | exact lookI rfl (by simp) | exact lookB rfl (by simp)) Front.nil))
    · exact SubX.dropN 14 (by kernel_rfl) rfl
    · exact (by repeat' (first | exact Pick.nil _ | exact Del.here _ | apply Pick.cons | apply Del.there))
    · exact (by show k + 1 ≤ _; omega)
    · exact (by (try dsimp only); omega)
  · try simp only [bs] at h1
    refine Tr.exit ?_
    refine Tr.thenE ?_
    refine Tr.thenE ?_
    refine Tr.inHit ?_
    refine Tr.thenN ?_
    refine Tr.seq ?_
    rw [show l.take k = l from List.take_of_length_le (by omega)]
    refine Tr.region ?_
    refine Tr.q (QS.move rfl) rfl ?_
    refine Tr.callRow rfl Try.call32 (fun w hw => normal_any (l.map spaceP) _ w (hw.row (.head _)) (by rw [List.length_map]; omega)) rfl (fun V5 => ?_)
    refine Tr.q (QS.assign rfl) rfl ?_
    refine Tr.nil ?_
    refine Tr.thenN ?_
    refine Tr.ret ?_
    refine Tr.ret1 Try.results65 rfl (fun w' hw => ?_)
    exact ⟨_, rfl, hw.below (Bg.le.refl _), hw.new (.head _)⟩

set_option maxRecDepth 100000 in
set_option maxHeartbeats 2000000 in
theorem check_sec (l : List SecV) (V : Value) (w : World) (hV : Sl (hp w) encSec l V) (hB : SecB l) (hN : ∀ s ∈ l, s.name.size ≤ 9223372036854775807) :
    Calls Try.prog 18 #[V] w (fun e w' => e = .returned (.int .i64 (checkS l)) ∧ Ext w w') := by
  have hV' : Sl (Bg.of w).blk encSec l V := hV
  have hlen := hB.1
  refine enter Try.func18 rfl Try.ntmps18 rfl ?_
  refine Tr.seq ?_
  refine Tr.region ?_
  refine Tr.q (QS.assign rfl) rfl ?_
  refine Tr.nil ?_
  refine Tr.thenN ?_
  refine Tr.seq ?_
  refine Tr.seq ?_
  refine Tr.region ?_
  refine Tr.q (QS.move rfl) rfl ?_
  first | refine Tr.q (QS.len rfl (by assumption) Try.underlying22) rfl ?_ | refine Tr.q (QS.lenRow rfl (by repeat (first | exact List.Mem.head _ | apply List.Mem.tail)) Try.underlying22) rfl ?_ | refine Tr.q (QS.lenNil rfl Try.underlying22) rfl ?_
  refine Tr.q (QS.gtr rfl rfl) rfl ?_
  refine Tr.nil ?_
  refine Tr.thenN ?_
  refine Tr.cond rfl (fun h1 => ?_) (fun h1 => ?_)
  · try simp only [bs] at h1
    refine Tr.seq ?_
    refine Tr.region ?_
    refine Tr.q (QS.assign rfl) rfl ?_
    refine Tr.nil ?_
    refine Tr.thenN ?_
    refine Tr.ret ?_
    refine Tr.thenR ?_
    refine Tr.ret1 Try.results18 rfl (fun w' hw => ?_)
    exact ⟨by rw [check_0 (by assumption)], hw.below (Bg.le.refl _)⟩
  · try simp only [bs] at h1
    refine Tr.skip ?_
    refine Tr.thenN ?_
    refine Tr.seq ?_
    refine Tr.seq ?_
    refine Tr.region ?_
    refine Tr.q (QS.move rfl) rfl ?_
    first | refine Tr.q (QS.len rfl (by assumption) Try.underlying22) rfl ?_ | refine Tr.q (QS.lenRow rfl (by repeat (first | exact List.Mem.head _ | apply List.Mem.tail)) Try.underlying22) rfl ?_ | refine Tr.q (QS.lenNil rfl Try.underlying22) rfl ?_
    refine Tr.q (QS.move rfl) rfl ?_
    refine Tr.nil ?_
    refine Tr.thenN ?_
    refine Tr.block ?_
    refine Tr.loop (ι := Nat) (fun k => k ≤ l.length ∧ firstP (oneP l) k (l.length - k) = firstP (oneP l) 0 l.length) (fun _ => _) (fun k => []) (fun k => [(13, .int .i64 (k : Nat))]) (fun k => l.length - k) 0 ⟨Nat.zero_le _, rfl⟩ (.cons (by first | rfl | exact lookI rfl (by omega) | exact lookI rfl (by simp) | exact lookB rfl (by simp)) Front.nil) (by repeat' (first | exact Pick.nil _ | exact Del.here _ | apply Pick.cons | apply Del.there)) rfl (fun k hi m hm => ?_)
    replace hi : k ≤ l.length ∧ firstP (oneP l) k (l.length - k) = firstP (oneP l) 0 l.length := hi
    replace hm : m = l.length - k := hm
    change Tr _ _ [] ([(13, .int .i64 (k : Nat))] ++ _) _
    obtain ⟨hk1, hk2⟩ := hi
    have hadr := (l.getD k default).addr.toNat_lt
    have hdk : k < l.length → (l.getD k default).data.length ≤ 200000 := fun q => hB.at q
    refine Tr.seq ?_
    refine Tr.region ?_
    refine Tr.q (QS.lss rfl rfl) rfl ?_
    refine Tr.nil ?_
    refine Tr.thenN ?_
    refine Tr.seq ?_
    refine Tr.cond rfl (fun h2 => ?_) (fun h2 => ?_)
    · try simp only [bs] at h2
      refine Tr.skip ?_
      refine Tr.thenN ?_
      refine Tr.seq ?_
      refine Tr.block ?_
      refine Tr.seq ?_
      refine Tr.region ?_
      refine Tr.q (QS.move rfl) rfl ?_
      first | refine Tr.q (QS.idxN rfl rfl (by assumption) Try.underlying22 Try.sizeOf59 (by rfl) (by omega)) rfl ?_ | refine Tr.q (QS.idxRowN rfl rfl (by repeat (first | exact List.Mem.head _ | apply List.Mem.tail)) Try.underlying22 Try.sizeOf59 (by rfl) (by omega)) rfl ?_ | refine Tr.q (QS.idx rfl rfl (by assumption) Try.underlying22 Try.sizeOf59 (by rfl) (by omega)) rfl ?_ | refine Tr.q (QS.idxRow rfl rfl (by repeat (first | exact List.Mem.head _ | apply List.Mem.tail)) Try.underlying22 Try.sizeOf59 (by rfl) (by omega)) rfl ?_
      first | refine Tr.q (QS.elA rfl (by assumption) Try.isAgg59 Try.sizeOf59 (by rfl) (by omega)) rfl ?_ | refine Tr.q (QS.elRA rfl (by repeat (first | exact List.Mem.head _ | apply List.Mem.tail)) Try.isAgg59 Try.sizeOf59 (by rfl) (by omega)) rfl ?_
      refine Tr.alloc Try.zeroValue59 rfl rfl (fun b3 => ?_)
      refine Tr.q (QS.assign rfl) rfl ?_
      refine Tr.storeW rfl rfl Try.sizeOf59 (by repeat (first | exact Put.here _ | apply Put.there)) (by rfl) (by rfl) (by first | exact List.all_eq_true.1 rfl | exact Enc.one _ _ | exact Enc.one encSec _) rfl ?_
      refine Tr.nil ?_
      refine Tr.thenN ?_
      refine Tr.seq ?_
      refine Tr.region ?_
      refine Tr.q (QS.move rfl) rfl ?_
      refine Tr.q (QS.move rfl) rfl ?_
      first | refine Tr.q (QS.slice (lv := none) (hv := some (_, _)) rfl (by assumption) rfl rfl Try.underlying22 Try.sizeOf59 (by rfl) (by simp only [loOf, hiOf] <;> first | omega | assumption | (simp only [NatCast.natCast, Int.ofNat_eq_natCast]; omega)) (by simp only [loOf, hiOf] <;> first | omega | assumption | (simp only [NatCast.natCast, Int.ofNat_eq_natCast]; omega)) (by simp only [loOf, hiOf] <;> first | omega | assumption | (simp only [NatCast.natCast, Int.ofNat_eq_natCast]; omega))) rfl ?_ | refine Tr.q (QS.sliceRow (lv := none) (hv := some (_, _)) rfl (by repeat (first | exact List.Mem.head _ | apply List.Mem.tail)) rfl rfl Try.underlying22 Try.sizeOf59 (by rfl) (by simp only [loOf, hiOf] <;> first | omega | assumption | (simp only [NatCast.natCast, Int.ofNat_eq_natCast]; omega)) (by simp only [loOf, hiOf] <;> first | omega | assumption | (simp only [NatCast.natCast, Int.ofNat_eq_natCast]; omega)) (by simp only [loOf, hiOf] <;> first | omega | assumption | (simp only [NatCast.natCast, Int.ofNat_eq_natCast]; omega))) rfl ?_
      refine Tr.q (QS.makeFunc rfl rfl) rfl ?_
      refine Tr.q (QS.call rfl Try.call39 (fun w hw => containsFunc_sec (l.take k) _ _ _ w (Sl.resl (l := 0) (h := k) (hw.slF hV) (by omega) (by omega)) Try.call40 (fun x => decide (x.name = (l.getD k default).name)) (fun x hx w'' h => check1_any x (l.getD k default) _ w'' (cellE.cellsIn (hw.ent _ (.head _)) h)))) rfl ?_
      refine Tr.q (QS.assign rfl) rfl ?_
      refine Tr.nil ?_
      refine Tr.thenN ?_
      refine Tr.block ?_
      refine Tr.seq ?_
      refine Tr.region ?_
      refine Tr.q (QS.fieldAddr (off := 2) (ft := 54) rfl Try.underlying59 rfl rfl Try.sizeOf54 (by decide)) rfl ?_
      refine Tr.q (QS.lV rfl Try.isAgg54) rfl ?_
      first | refine Tr.q (QS.len rfl (by assumption) Try.underlying54) rfl ?_ | refine Tr.q (QS.lenRow rfl (by repeat (first | exact List.Mem.head _ | apply List.Mem.tail)) Try.underlying54) rfl ?_ | refine Tr.q (QS.lenNil rfl Try.underlying54) rfl ?_
      refine Tr.q (QS.gtr rfl rfl) rfl ?_
      refine Tr.q (QS.assign rfl) rfl ?_
      refine Tr.nil ?_
      refine Tr.thenN ?_
      refine Tr.cond rfl (fun h4 => ?_) (fun h4 => ?_)
      · try simp only [bs] at h4
        refine Tr.seq ?_
        refine Tr.region ?_
        refine Tr.q (QS.assign rfl) rfl ?_
        refine Tr.nil ?_
        refine Tr.thenN ?_
        refine Tr.ret ?_
        refine Tr.inR ?_
        refine Tr.inR ?_
        refine Tr.thenR ?_
        refine Tr.thenR ?_
        refine Tr.inR ?_
        refine Tr.thenR ?_
        refine Tr.ret1 Try.results18 rfl (fun w' hw => ?_)
        exact ⟨by rw [check_1 (v := 6) (by assumption) (by omega) hk2 (by unfold oneP; dsimp only; rw [if_pos (by assumption)]) (by decide)], hw.below (Bg.le.refl _)⟩
      · try simp only [bs] at h4
        refine Tr.seq ?_
        refine Tr.region ?_
        refine Tr.q (QS.fieldAddr (off := 0) (ft := 9) rfl Try.underlying59 rfl rfl Try.sizeOf9 (by decide)) rfl ?_
        refine Tr.q (QS.lV rfl Try.isAgg9) rfl ?_
        refine Tr.q (QS.call rfl Try.call41 (fun w hw => name_any (l.getD k default).name w (hN _ (mem_getD (by omega))))) rfl ?_
        refine Tr.q (QS.not rfl) rfl ?_
        refine Tr.q (QS.assign rfl) rfl ?_
        refine Tr.nil ?_
        refine Tr.thenN ?_
        refine Tr.cond rfl (fun h5 => ?_) (fun h5 => ?_)
        · try simp only [bs] at h5
          refine Tr.seq ?_
          refine Tr.region ?_
          refine Tr.q (QS.assign rfl) rfl ?_
          refine Tr.nil ?_
          refine Tr.thenN ?_
          refine Tr.ret ?_
          refine Tr.inR ?_
          refine Tr.inR ?_
          refine Tr.thenR ?_
          refine Tr.thenR ?_
          refine Tr.inR ?_
          refine Tr.thenR ?_
          refine Tr.ret1 Try.results18 rfl (fun w' hw => ?_)
          exact ⟨by rw [check_1 (v := 3) (by assumption) (by omega) hk2 (by unfold oneP; dsimp only; rw [if_neg (by assumption), if_pos (by assumption)]) (by decide)], hw.below (Bg.le.refl _)⟩
        · try simp only [bs] at h5
          refine Tr.seq ?_
          refine Tr.region ?_
          refine Tr.q (QS.move rfl) rfl ?_
          refine Tr.q (QS.assign rfl) rfl ?_
          refine Tr.nil ?_
          refine Tr.thenN ?_
          refine Tr.cond rfl (fun h6 => ?_) (fun h6 => ?_)
          · try simp only [bs] at h6
            refine Tr.seq ?_
            refine Tr.region ?_
            refine Tr.q (QS.assign rfl) rfl ?_
            refine Tr.nil ?_
            refine Tr.thenN ?_
            refine Tr.ret ?_
            refine Tr.inR ?_
            refine Tr.inR ?_
            refine Tr.thenR ?_
            refine Tr.thenR ?_
            refine Tr.inR ?_
            refine Tr.thenR ?_
            refine Tr.ret1 Try.results18 rfl (fun w' hw => ?_)
            exact ⟨by rw [check_1 (v := 8) (by assumption) (by omega) hk2 (by unfold oneP; dsimp only; rw [if_neg (by assumption), if_neg (by simp_all), if_pos (by assumption)]) (by decide)], hw.below (Bg.le.refl _)⟩
          · try simp only [bs] at h6
            refine Tr.seq ?_
            refine Tr.region ?_
            refine Tr.q (QS.fieldAddr (off := 1) (ft := 23) rfl Try.underlying59 rfl rfl Try.sizeOf23 (by decide)) rfl ?_
            refine Tr.q (QS.lV rfl Try.isAgg23) rfl ?_
            refine Tr.q (QS.cvt32toU rfl Try.underlying23 Try.underlying76) rfl ?_
            refine Tr.q (QS.fieldAddr (off := 2) (ft := 54) rfl Try.underlying59 rfl rfl Try.sizeOf54 (by decide)) rfl ?_
            refine Tr.q (QS.lV rfl Try.isAgg54) rfl ?_
            first | refine Tr.q (QS.len rfl (by assumption) Try.underlying54) rfl ?_ | refine Tr.q (QS.lenRow rfl (by repeat (first | exact List.Mem.head _ | apply List.Mem.tail)) Try.underlying54) rfl ?_ | refine Tr.q (QS.lenNil rfl Try.underlying54) rfl ?_
            first | refine Tr.q (QS.cvtIn rfl Try.underlying3 Try.underlying76 (IntWalk.u64_in _ (by omega))) rfl ?_ | refine Tr.q (QS.cvt rfl Try.underlying3 Try.underlying76) rfl ?_
            first | refine Tr.q (QS.addU rfl rfl (by omega)) rfl ?_ | refine Tr.q (QS.add rfl rfl) rfl ?_
            refine Tr.q (QS.gtr rfl rfl) rfl ?_
            refine Tr.q (QS.move rfl) rfl ?_
            apply Tr.orP
            · exact (rfl : _ = (5, 45, 50))
            · exact rfl
            · intro hF7; have hF7' := hF7
              try simp only [bs] at hF7'
              refine Tr.gq rfl rfl hF7 (QS.lW rfl Try.isAgg59 Try.sizeOf59) rfl ?_
              refine Tr.gq rfl rfl hF7 (QS.call rfl Try.call43 (fun w hw => space_any (l.getD k default) w (hB.at (by omega)))) rfl ?_
              refine Tr.gq rfl rfl hF7 (QS.call rfl Try.call44 (fun w hw => stack_any w)) rfl ?_
              refine Tr.gq rfl rfl hF7 (QS.call rfl Try.call42 (fun w hw => meet_any (spaceP (l.getD k default)) stackP w)) rfl ?_
              refine Tr.q (QS.pickF rfl hF7 rfl) rfl ?_
              refine Tr.nil (Tr.thenN ?_)
              exact Tr.endX (Sub.cons rfl (Sub.dropN 5 (by kernel_rfl) rfl))
            · intro hT7
              refine Tr.gskip rfl rfl hT7 rfl ?_
              refine Tr.gskip rfl rfl hT7 rfl ?_
              refine Tr.gskip rfl rfl hT7 rfl ?_
              refine Tr.gskip rfl rfl hT7 rfl ?_
              refine Tr.q (QS.pickT rfl hT7 rfl) rfl ?_
              refine Tr.nil (Tr.thenN ?_)
              exact Tr.endX (Sub.cons rfl (Sub.dropN 5 (by kernel_rfl) rfl))
            refine Tr.q (QS.assign rfl) rfl ?_
            refine Tr.nil ?_
            refine Tr.thenN ?_
            refine Tr.cond rfl (fun h8 => ?_) (fun h8 => ?_)
            · try simp only [bs] at h8
              refine Tr.seq ?_
              refine Tr.region ?_
              refine Tr.q (QS.assign rfl) rfl ?_
              refine Tr.nil ?_
              refine Tr.thenN ?_
              refine Tr.ret ?_
              refine Tr.inR ?_
              refine Tr.inR ?_
              refine Tr.thenR ?_
              refine Tr.thenR ?_
              refine Tr.inR ?_
              refine Tr.thenR ?_
              refine Tr.ret1 Try.results18 rfl (fun w' hw => ?_)
              exact ⟨by rw [check_1 (v := 7) (by assumption) (by omega) hk2 (by unfold oneP; dsimp only; rw [if_neg (by assumption), if_neg (by simp_all), if_neg (by simp_all), if_pos (by assumption)]) (by decide)], hw.below (Bg.le.refl _)⟩
            · try simp only [bs] at h8
              refine Tr.skip ?_
              refine Tr.inN ?_
              refine Tr.inN ?_
              refine Tr.thenN ?_
              refine Tr.region ?_
              first | refine Tr.q (QS.addI rfl rfl (by omega)) rfl ?_ | refine Tr.q (QS.add rfl rfl) rfl ?_
              refine Tr.q (QS.move rfl) rfl ?_
              refine Tr.nil ?_
              refine Tr.thenN ?_
              have hz : oneP l k = 0 := by unfold oneP; dsimp only; rw [if_neg (by assumption), if_neg (by simp_all), if_neg (by simp_all), if_neg (by simp_all)]
              apply Tr.again (k + 1)
              · exact rfl
              · exact (.cons (by first | rfl | exact lookI rfl (by omega) | exact lookI rfl (by simp) | exact lookB rfl (by simp)) Front.nil)
              · exact SubX.dropN 39 (by kernel_rfl) rfl
              · exact (by repeat' (first | exact Pick.nil _ | exact Del.here _ | apply Pick.cons | apply Del.there))
              · exact ⟨by omega, by rw [firstP_next (by omega) hz, hk2]⟩
              · exact (by (try dsimp only); omega)
    · try simp only [bs] at h2
      refine Tr.exit ?_
      refine Tr.thenE ?_
      refine Tr.thenE ?_
      refine Tr.inHit ?_
      refine Tr.thenN ?_
      refine Tr.seq ?_
      refine Tr.seq ?_
      refine Tr.region ?_
      refine Tr.q (QS.move rfl) rfl ?_
      first | refine Tr.q (QS.len rfl (by assumption) Try.underlying22) rfl ?_ | refine Tr.q (QS.lenRow rfl (by repeat (first | exact List.Mem.head _ | apply List.Mem.tail)) Try.underlying22) rfl ?_ | refine Tr.q (QS.lenNil rfl Try.underlying22) rfl ?_
      refine Tr.q (QS.move rfl) rfl ?_
      refine Tr.nil ?_
      refine Tr.thenN ?_
      refine Tr.block ?_
      have hz1 : firstP (oneP l) 0 l.length = 0 := by rw [← hk2]; exact firstP_zero (by omega)
      clear hk2 hk1 hm hadr hdk
      refine Tr.loop (ι := Nat) (fun k => k ≤ l.length ∧ firstP (fun i => if overP l i = true then 10 else 0) k (l.length - k) = firstP (fun i => if overP l i = true then 10 else 0) 0 l.length) (fun _ => _) (fun k => []) (fun k => [(54, .int .i64 (k : Nat))]) (fun k => l.length - k) 0 ⟨Nat.zero_le _, rfl⟩ (.cons (by first | rfl | exact lookI rfl (by omega) | exact lookI rfl (by simp) | exact lookB rfl (by simp)) Front.nil) (by repeat' (first | exact Pick.nil _ | exact Del.here _ | apply Pick.cons | apply Del.there)) rfl (fun k hi m hm => ?_)
      replace hi : k ≤ l.length ∧ firstP (fun i => if overP l i = true then 10 else 0) k (l.length - k) = firstP (fun i => if overP l i = true then 10 else 0) 0 l.length := hi
      replace hm : m = l.length - k := hm
      change Tr _ _ [] ([(54, .int .i64 (k : Nat))] ++ _) _
      obtain ⟨hk1, hk2⟩ := hi
      refine Tr.seq ?_
      refine Tr.region ?_
      refine Tr.q (QS.lss rfl rfl) rfl ?_
      refine Tr.nil ?_
      refine Tr.thenN ?_
      refine Tr.seq ?_
      refine Tr.cond rfl (fun h9 => ?_) (fun h9 => ?_)
      · try simp only [bs] at h9
        refine Tr.skip ?_
        refine Tr.thenN ?_
        refine Tr.seq ?_
        refine Tr.block ?_
        refine Tr.seq ?_
        refine Tr.region ?_
        refine Tr.q (QS.move rfl) rfl ?_
        first | refine Tr.q (QS.idxN rfl rfl (by assumption) Try.underlying22 Try.sizeOf59 (by rfl) (by omega)) rfl ?_ | refine Tr.q (QS.idxRowN rfl rfl (by repeat (first | exact List.Mem.head _ | apply List.Mem.tail)) Try.underlying22 Try.sizeOf59 (by rfl) (by omega)) rfl ?_ | refine Tr.q (QS.idx rfl rfl (by assumption) Try.underlying22 Try.sizeOf59 (by rfl) (by omega)) rfl ?_ | refine Tr.q (QS.idxRow rfl rfl (by repeat (first | exact List.Mem.head _ | apply List.Mem.tail)) Try.underlying22 Try.sizeOf59 (by rfl) (by omega)) rfl ?_
        first | refine Tr.q (QS.elA rfl (by assumption) Try.isAgg59 Try.sizeOf59 (by rfl) (by omega)) rfl ?_ | refine Tr.q (QS.elRA rfl (by repeat (first | exact List.Mem.head _ | apply List.Mem.tail)) Try.isAgg59 Try.sizeOf59 (by rfl) (by omega)) rfl ?_
        refine Tr.alloc Try.zeroValue59 rfl rfl (fun b10 => ?_)
        refine Tr.q (QS.assign rfl) rfl ?_
        refine Tr.storeW rfl rfl Try.sizeOf59 (by repeat (first | exact Put.here _ | apply Put.there)) (by rfl) (by rfl) (by first | exact List.all_eq_true.1 rfl | exact Enc.one _ _ | exact Enc.one encSec _) rfl ?_
        refine Tr.nil ?_
        refine Tr.thenN ?_
        refine Tr.seq ?_
        refine Tr.region ?_
        refine Tr.q (QS.move rfl) rfl ?_
        refine Tr.q (QS.move rfl) rfl ?_
        first | refine Tr.q (QS.slice (lv := none) (hv := some (_, _)) rfl (by assumption) rfl rfl Try.underlying22 Try.sizeOf59 (by rfl) (by simp only [loOf, hiOf] <;> first | omega | assumption | (simp only [NatCast.natCast, Int.ofNat_eq_natCast]; omega)) (by simp only [loOf, hiOf] <;> first | omega | assumption | (simp only [NatCast.natCast, Int.ofNat_eq_natCast]; omega)) (by simp only [loOf, hiOf] <;> first | omega | assumption | (simp only [NatCast.natCast, Int.ofNat_eq_natCast]; omega))) rfl ?_ | refine Tr.q (QS.sliceRow (lv := none) (hv := some (_, _)) rfl (by repeat (first | exact List.Mem.head _ | apply List.Mem.tail)) rfl rfl Try.underlying22 Try.sizeOf59 (by rfl) (by simp only [loOf, hiOf] <;> first | omega | assumption | (simp only [NatCast.natCast, Int.ofNat_eq_natCast]; omega)) (by simp only [loOf, hiOf] <;> first | omega | assumption | (simp only [NatCast.natCast, Int.ofNat_eq_natCast]; omega)) (by simp only [loOf, hiOf] <;> first | omega | assumption | (simp only [NatCast.natCast, Int.ofNat_eq_natCast]; omega))) rfl ?_
        refine Tr.q (QS.makeFunc rfl rfl) rfl ?_
        refine Tr.q (QS.call rfl Try.call39 (fun w hw => containsFunc_sec (l.take k) _ _ _ w (Sl.resl (l := 0) (h := k) (hw.slF hV) (by omega) (by omega)) Try.call45 (fun x => meetP (spaceP x) (spaceP (l.getD k default))) (fun x hx w'' h => check2_any x (l.getD k default) _ w'' (cellE.cellsIn (hw.ent _ (.head _)) h) (hB.2 x (List.mem_of_mem_take hx)) (hB.at (by omega))))) rfl ?_
        refine Tr.nil ?_
        refine Tr.thenN ?_
        refine Tr.cond rfl (fun h11 => ?_) (fun h11 => ?_)
        · try simp only [bs] at h11
          refine Tr.seq ?_
          refine Tr.region ?_
          refine Tr.q (QS.assign rfl) rfl ?_
          refine Tr.nil ?_
          refine Tr.thenN ?_
          refine Tr.ret ?_
          refine Tr.inR ?_
          refine Tr.thenR ?_
          refine Tr.thenR ?_
          refine Tr.inR ?_
          refine Tr.thenR ?_
          refine Tr.ret1 Try.results18 rfl (fun w' hw => ?_)
          exact ⟨by rw [check_2 (k := k) (by assumption) hz1 (by omega) hk2 (by assumption)], hw.below (Bg.le.refl _)⟩
        · try simp only [bs] at h11
          refine Tr.skip ?_
          refine Tr.inN ?_
          refine Tr.thenN ?_
          refine Tr.region ?_
          first | refine Tr.q (QS.addI rfl rfl (by omega)) rfl ?_ | refine Tr.q (QS.add rfl rfl) rfl ?_
          refine Tr.q (QS.move rfl) rfl ?_
          refine Tr.nil ?_
          refine Tr.thenN ?_
          have hz : overP l k = false := by assumption
          apply Tr.again (k + 1)
          · exact rfl
          · exact (.cons (by first | rfl | exact lookI rfl (by omega) | exact lookI rfl (by simp) | exact lookB rfl (by simp)) Front.nil)
          · exact SubX.dropN 14 (by kernel_rfl) rfl
          · exact (by repeat' (first | exact Pick.nil _ | exact Del.here _ | apply Pick.cons | apply Del.there))
          · exact ⟨by omega, by rw [firstP_next (by omega) (by rw [if_neg (by rw [hz]; decide)]), hk2]⟩
          · exact (by (try dsimp only); omega)
      · try simp only [bs] at h9
        refine Tr.exit ?_
        refine Tr.thenE ?_
        refine Tr.thenE ?_
        refine Tr.inHit ?_
        refine Tr.thenN ?_
        refine Tr.seq ?_
        refine Tr.region ?_
        refine Tr.q (QS.assign rfl) rfl ?_
        refine Tr.nil ?_
        refine Tr.thenN ?_
        refine Tr.ret ?_
        refine Tr.ret1 Try.results18 rfl (fun w' hw => ?_)
        exact ⟨by rw [check_3 (by assumption) hz1 (by rw [← hk2]; exact firstP_zero (by omega))], hw.below (Bg.le.refl _)⟩

set_option maxRecDepth 100000 in
set_option maxHeartbeats 2000000 in
theorem clone_sec (l : List SecV) (V : Value) (w : World) (hV : Sl (hp w) encSec l V) (hB : SecB l) :
    Calls Try.prog 97 #[V] w (fun e w' => ∃ V', e = .returned V' ∧ Ext w w' ∧ NewRow w w' 59 encSec l V') := by
  have hV' : Sl (Bg.of w).blk encSec l V := hV
  have hlen := hB.1
  refine enter Try.func97 rfl Try.ntmps97 rfl ?_
  refine Tr.seq ?_
  refine Tr.region ?_
  refine Tr.q (QS.assign rfl) rfl ?_
  refine Tr.nil ?_
  refine Tr.thenN ?_
  refine Tr.seq ?_
  refine Tr.seq ?_
  refine Tr.region ?_
  refine Tr.q (QS.move rfl) rfl ?_
  refine Tr.q (QS.eqlNilS rfl (by assumption) Try.underlying22) rfl ?_
  refine Tr.nil ?_
  refine Tr.thenN ?_
  refine Tr.cond rfl (fun h1 => ?_) (fun h1 => ?_)
  · try simp only [bs] at h1
    refine Tr.seq ?_
    refine Tr.region ?_
    refine Tr.q (QS.assign rfl) rfl ?_
    refine Tr.nil ?_
    refine Tr.thenN ?_
    refine Tr.ret ?_
    refine Tr.thenR ?_
    refine Tr.ret1 Try.results97 rfl (fun w' hw => ?_)
    exact ⟨_, rfl, hw.below (Bg.le.refl _), newRow_nil (hV.isNil h1)⟩
  · try simp only [bs] at h1
    refine Tr.skip ?_
    refine Tr.thenN ?_
    refine Tr.seq ?_
    refine Tr.region ?_
    refine Tr.lit0 encSec Try.underlying22 Try.sizeOf59 rfl (fun V2 => ?_)
    refine Tr.q (QS.move rfl) rfl ?_
    first | refine Tr.append1 rfl rfl (by repeat (first | exact Del.here _ | apply Del.there)) (by repeat (first | exact Del.here _ | apply Del.there)) Try.underlying22 HLF.info59 (by rfl) (by rfl) (by (try simp only [List.length_cons, List.length_nil, List.length_append, List.length_take]); omega) (by unfold maxLen; (try simp only [List.length_cons, List.length_nil, List.length_append, List.length_take]); omega) rfl (fun V3 => ?_) | refine Tr.ownNil _ _ (Tr.append1 rfl rfl (by repeat (first | exact Del.here _ | apply Del.there)) (by repeat (first | exact Del.here _ | apply Del.there)) Try.underlying22 HLF.info59 (by rfl) (by rfl) (by (try simp only [List.length_cons, List.length_nil, List.length_append, List.length_take]); omega) (by unfold maxLen; (try simp only [List.length_cons, List.length_nil, List.length_append, List.length_take]); omega) rfl (fun V3 => ?_)) | refine Tr.appendOf rfl rfl (by repeat (first | exact Del.here _ | apply Del.there)) (fun w hw => hw.slF (by assumption)) Try.underlying22 HLF.info59 (by rfl) (by rfl) (by (try simp only [List.length_cons, List.length_nil, List.length_append, List.length_take]); omega) (by unfold maxLen; (try simp only [List.length_cons, List.length_nil, List.length_append, List.length_take]); omega) rfl (fun V3 => ?_) | refine Tr.ownNil _ _ (Tr.appendOf rfl rfl (by repeat (first | exact Del.here _ | apply Del.there)) (fun w hw => hw.slF (by assumption)) Try.underlying22 HLF.info59 (by rfl) (by rfl) (by (try simp only [List.length_cons, List.length_nil, List.length_append, List.length_take]); omega) (by unfold maxLen; (try simp only [List.length_cons, List.length_nil, List.length_append, List.length_take]); omega) rfl (fun V3 => ?_)) | refine Tr.appendOf rfl rfl (by repeat (first | exact Del.here _ | apply Del.there)) (fun w hw => hw.row (by repeat (first | exact List.Mem.head _ | apply List.Mem.tail))) Try.underlying22 HLF.info59 (by rfl) (by rfl) (by (try simp only [List.length_cons, List.length_nil, List.length_append, List.length_take]); omega) (by unfold maxLen; (try simp only [List.length_cons, List.length_nil, List.length_append, List.length_take]); omega) rfl (fun V3 => ?_)
    refine Tr.q (QS.assign rfl) rfl ?_
    refine Tr.nil ?_
    refine Tr.thenN ?_
    refine Tr.ret ?_
    refine Tr.ret1 Try.results97 rfl (fun w' hw => ?_)
    exact ⟨_, rfl, hw.below (Bg.le.refl _), hw.new (.head _)⟩

set_option maxRecDepth 100000 in
set_option maxHeartbeats 2000000 in
theorem own_sec (l : List SecV) (V : Value) (w : World) (hV : Sl (hp w) encSec l V) (hB : SecB l) (hD : DataIn (hp w) l) :
    Calls Try.prog 75 #[V] w (fun e w' => ∃ i : Value × List SecV, e = .returned i.1 ∧ Ext w w' ∧ NewEnts w w' (secEnts 59 5 i.1 i.2) ∧ i.2.map SecV.pl = l.map SecV.pl) := by
  have hV' : Sl (Bg.of w).blk encSec l V := hV
  have hlen := hB.1
  refine enter Try.func75 rfl Try.ntmps75 rfl ?_
  refine Tr.seq ?_
  refine Tr.region ?_
  refine Tr.q (QS.assign rfl) rfl ?_
  refine Tr.nil ?_
  refine Tr.thenN ?_
  refine Tr.seq ?_
  refine Tr.region ?_
  refine Tr.q (QS.move rfl) rfl ?_
  refine Tr.callRow rfl Try.call97 (fun w hw => clone_sec l V w (hw.slF hV) hB) rfl (fun V1 => ?_)
  refine Tr.q (QS.assign rfl) rfl ?_
  refine Tr.nil ?_
  refine Tr.thenN ?_
  refine Tr.seq ?_
  refine Tr.seq ?_
  refine Tr.region ?_
  refine Tr.q (QS.move rfl) rfl ?_
  first | refine Tr.q (QS.len rfl (by assumption) Try.underlying22) rfl ?_ | refine Tr.q (QS.lenRow rfl (by repeat (first | exact List.Mem.head _ | apply List.Mem.tail)) Try.underlying22) rfl ?_ | refine Tr.q (QS.lenNil rfl Try.underlying22) rfl ?_
  refine Tr.q (QS.move rfl) rfl ?_
  refine Tr.nil ?_
  refine Tr.thenN ?_
  refine Tr.block ?_
  refine Tr.loop (ι := Nat × List SecV) (fun ⟨k, xs⟩ => k ≤ l.length ∧ xs.length = l.length ∧ xs.map SecV.pl = l.map SecV.pl ∧ ∀ j, k ≤ j → xs.getD j default = l.getD j default) (fun _ => _) (fun ⟨k, xs⟩ => (rowE V1 59 encSec xs :: (xs.take k).reverse.map (dRow 5))) (fun ⟨k, xs⟩ => [(9, .int .i64 (k : Nat))]) (fun ⟨k, xs⟩ => l.length - k) (0, l) ⟨Nat.zero_le _, rfl, rfl, fun _ _ => rfl⟩ (.cons (by first | rfl | exact lookI rfl (by omega) | exact lookI rfl (by simp) | exact lookB rfl (by simp)) Front.nil) (by repeat' (first | exact Pick.nil _ | exact Del.here _ | apply Pick.cons | apply Del.there)) rfl (fun i hi m hm => ?_)
  obtain ⟨k, xs⟩ := i
  replace hi : k ≤ l.length ∧ xs.length = l.length ∧ xs.map SecV.pl = l.map SecV.pl ∧ ∀ j, k ≤ j → xs.getD j default = l.getD j default := hi
  replace hm : m = l.length - k := hm
  change Tr _ _ (rowE V1 59 encSec xs :: (xs.take k).reverse.map (dRow 5)) ([(9, .int .i64 (k : Nat))] ++ _) _
  obtain ⟨hk1, hk2, hk3, hk4⟩ := hi
  have hxk := hk4 k (Nat.le_refl _)
  have hDk : k < l.length → Sl (Bg.of w).blk encU8 (xs.getD k default).data (.slice (xs.getD k default).dp (xs.getD k default).data.length (xs.getD k default).dc) := fun q => by rw [hxk]; exact hD _ (mem_getD q)
  have hdb : k < l.length → (xs.getD k default).data.length ≤ 140737488355328 := fun q => by rw [hxk]; have := hB.at q; omega
  refine Tr.seq ?_
  refine Tr.region ?_
  refine Tr.q (QS.lss rfl rfl) rfl ?_
  refine Tr.nil ?_
  refine Tr.thenN ?_
  refine Tr.seq ?_
  refine Tr.cond rfl (fun h2 => ?_) (fun h2 => ?_)
  · try simp only [bs] at h2
    refine Tr.skip ?_
    refine Tr.thenN ?_
    refine Tr.seq ?_
    refine Tr.block ?_
    refine Tr.seq ?_
    refine Tr.region ?_
    refine Tr.q (QS.move rfl) rfl ?_
    refine Tr.q (QS.assign rfl) rfl ?_
    refine Tr.nil ?_
    refine Tr.thenN ?_
    refine Tr.region ?_
    refine Tr.q (QS.move rfl) rfl ?_
    refine Tr.q (QS.move rfl) rfl ?_
    refine Tr.q (QS.move rfl) rfl ?_
    refine Tr.q (QS.move rfl) rfl ?_
    first | refine Tr.q (QS.idxN rfl rfl (by assumption) Try.underlying22 Try.sizeOf59 (by rfl) (by omega)) rfl ?_ | refine Tr.q (QS.idxRowN rfl rfl (by repeat (first | exact List.Mem.head _ | apply List.Mem.tail)) Try.underlying22 Try.sizeOf59 (by rfl) (by omega)) rfl ?_ | refine Tr.q (QS.idx rfl rfl (by assumption) Try.underlying22 Try.sizeOf59 (by rfl) (by omega)) rfl ?_ | refine Tr.q (QS.idxRow rfl rfl (by repeat (first | exact List.Mem.head _ | apply List.Mem.tail)) Try.underlying22 Try.sizeOf59 (by rfl) (by omega)) rfl ?_
    refine Tr.q (QS.fieldAddr (off := 2) (ft := 54) rfl Try.underlying59 rfl rfl Try.sizeOf54 (by decide)) rfl ?_
    first | refine Tr.q (QS.elF rfl (by assumption) Try.isAgg54 (by omega) (by rfl)) rfl ?_ | refine Tr.q (QS.elRF rfl (by repeat (first | exact List.Mem.head _ | apply List.Mem.tail)) Try.isAgg54 (by omega) (by rfl)) rfl ?_
    refine Tr.callRow rfl Try.call58 (fun w hw => clone_u8 (xs.getD k default).data _ w (hw.slF (hDk (by omega))) (hdb (by omega))) rfl (fun V3 => ?_)
    refine Tr.rowShape (.head _) (fun pa pc hpv => ?_)
    subst hpv
    first | refine Tr.q (QS.idxN rfl rfl (by assumption) Try.underlying22 Try.sizeOf59 (by rfl) (by omega)) rfl ?_ | refine Tr.q (QS.idxRowN rfl rfl (by repeat (first | exact List.Mem.head _ | apply List.Mem.tail)) Try.underlying22 Try.sizeOf59 (by rfl) (by omega)) rfl ?_ | refine Tr.q (QS.idx rfl rfl (by assumption) Try.underlying22 Try.sizeOf59 (by rfl) (by omega)) rfl ?_ | refine Tr.q (QS.idxRow rfl rfl (by repeat (first | exact List.Mem.head _ | apply List.Mem.tail)) Try.underlying22 Try.sizeOf59 (by rfl) (by omega)) rfl ?_
    refine Tr.q (QS.fieldAddr (off := 2) (ft := 54) rfl Try.underlying59 rfl rfl Try.sizeOf54 (by decide)) rfl ?_
    refine Tr.storeRow ({ xs.getD k default with dp := pa, dc := pc }) rfl rfl Try.sizeOf54 (by repeat (first | exact Put.here _ | apply Put.there)) (by omega) (by decide) (by rfl) rfl rfl rfl ?_
    refine Tr.nil ?_
    refine Tr.inN ?_
    refine Tr.thenN ?_
    refine Tr.region ?_
    first | refine Tr.q (QS.addI rfl rfl (by omega)) rfl ?_ | refine Tr.q (QS.add rfl rfl) rfl ?_
    refine Tr.q (QS.move rfl) rfl ?_
    refine Tr.nil ?_
    refine Tr.thenN ?_
    apply Tr.again (k + 1, xs.set k { xs.getD k default with dp := pa, dc := pc })
    · exact rfl
    · exact (.cons (by first | rfl | exact lookI rfl (by omega) | exact lookI rfl (by simp) | exact lookB rfl (by simp)) Front.nil)
    · exact SubX.dropN 16 (by kernel_rfl) rfl
    · exact (by show Pick _ (rowE V1 _ _ _ :: ((xs.set k { xs.getD k default with dp := pa, dc := pc }).take (k + 1)).reverse.map (dRow 5)); rw [drow_step (by omega)]; exact .cons (.there _ (.here _)) (.cons (.here _) (Pick.refl _)))
    · exact ⟨by omega, by simp [hk2], by have q := map_set_pl (k := k) (x := { xs.getD k default with dp := pa, dc := pc }) (show k < xs.length by omega) rfl; rw [q]; exact hk3, fun j hj => by rw [getD_set_ne' (by omega)]; exact hk4 j (by omega)⟩
    · exact (by (try dsimp only); omega)
  · try simp only [bs] at h2
    refine Tr.exit ?_
    refine Tr.thenE ?_
    refine Tr.thenE ?_
    refine Tr.inHit ?_
    refine Tr.thenN ?_
    refine Tr.seq ?_
    refine Tr.region ?_
    refine Tr.q (QS.move rfl) rfl ?_
    refine Tr.q (QS.assign rfl) rfl ?_
    refine Tr.nil ?_
    refine Tr.thenN ?_
    refine Tr.ret ?_
    refine Tr.ret1 Try.results75 rfl (fun w' hw => ?_)
    have e : xs.take k = xs := List.take_of_length_le (by omega)
    rw [e] at hw
    exact ⟨(V1, xs), rfl, hw.below (Bg.le.refl _), hw.ents (Bg.le.refl _) (Pick.refl _), hk3⟩

end Go.Proofs.Ytfnedefgepjbpaa
