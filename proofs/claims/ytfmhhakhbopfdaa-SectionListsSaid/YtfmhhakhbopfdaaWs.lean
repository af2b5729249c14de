/- The walks of package section: what each function returns. -/
import Derived.Test.YtfmhhakhbopfdaaF2
import Derived.Test.YtfmhhakhbopfdaaWd
import Derived.Test.YtfmhhakhbopfdaaHv
import Derived.Test.YtfmhhakhbopfdaaSa
set_option linter.unusedSimpArgs false
set_option linter.unusedVariables false
namespace Go.Proofs.Ytfmhhakhbopfdaa
open Go Go.HL Go.RowKit

set_option maxRecDepth 100000 in
set_option maxHeartbeats 2000000 in
theorem name_any (s : ByteArray) (w : World) (hs : s.size ≤ 9223372036854775807) :
    Calls Try.prog 79 #[.string s] w (fun e w' => e = .returned (.bool (nameP s)) ∧ Ext w w') := by
  have hbl := bts_len s
  refine enter Try.func79 rfl Try.ntmps79 rfl ?_
  refine Tr.seq ?_
  refine Tr.region ?_
  refine Tr.q (QS.assign rfl) rfl ?_
  refine Tr.nil ?_
  refine Tr.thenN ?_
  refine Tr.seq ?_
  refine Tr.seq ?_
  refine Tr.region ?_
  refine Tr.q (QS.move rfl) rfl ?_
  refine Tr.strBytes rfl Try.underlying9 Try.underlying22 Try.underlying5 (by unfold maxLen; omega) rfl (fun V1 F1 hF1 hV1 => ?_)
  first | refine Tr.q (QS.len rfl (by assumption) Try.underlying22) rfl ?_ | refine Tr.q (QS.lenRow rfl (by repeat (first | exact List.Mem.head _ | apply List.Mem.tail)) Try.underlying22) rfl ?_ | refine Tr.q (QS.lenNil rfl Try.underlying22) rfl ?_
  refine Tr.q (QS.move rfl) rfl ?_
  refine Tr.nil ?_
  refine Tr.thenN ?_
  refine Tr.block ?_
  refine Tr.loop (ι := Nat) (fun k => k ≤ s.size ∧ ((bts s).take k).any badB = false) (fun _ => _) (fun k => []) (fun k => [(8, .int .i64 (k : Nat))]) (fun k => s.size - k) 0 ⟨Nat.zero_le _, rfl⟩ (.cons (by first | rfl | exact lookI rfl (by omega) | exact lookI rfl (by simp) | exact lookB rfl (by simp)) Front.nil) (by repeat' (first | exact Pick.nil _ | exact Del.here _ | apply Pick.cons | apply Del.there)) rfl (fun k hi m hm => ?_)
  replace hi : k ≤ s.size ∧ ((bts s).take k).any badB = false := hi
  replace hm : m = s.size - k := hm
  change Tr _ _ [] ([(8, .int .i64 (k : Nat))] ++ _) _
  obtain ⟨hk1, hk2⟩ := hi
  refine Tr.seq ?_
  refine Tr.region ?_
  refine Tr.q (QS.lss rfl rfl) rfl ?_
  refine Tr.nil ?_
  refine Tr.thenN ?_
  refine Tr.seq ?_
  refine Tr.cond rfl (fun h2 => ?_) (fun h2 => ?_)
  · try simp only [bs] at h2
    refine Tr.skip ?_
    refine Tr.thenN ?_
    refine Tr.seq ?_
    refine Tr.block ?_
    refine Tr.seq ?_
    refine Tr.region ?_
    first | refine Tr.q (QS.idxN rfl rfl (by assumption) Try.underlying22 Try.sizeOf5 (by rfl) (by omega)) rfl ?_ | refine Tr.q (QS.idxRowN rfl rfl (by repeat (first | exact List.Mem.head _ | apply List.Mem.tail)) Try.underlying22 Try.sizeOf5 (by rfl) (by omega)) rfl ?_ | refine Tr.q (QS.idx rfl rfl (by assumption) Try.underlying22 Try.sizeOf5 (by rfl) (by omega)) rfl ?_ | refine Tr.q (QS.idxRow rfl rfl (by repeat (first | exact List.Mem.head _ | apply List.Mem.tail)) Try.underlying22 Try.sizeOf5 (by rfl) (by omega)) rfl ?_
    first | refine Tr.q (QS.el1 rfl (by assumption) Try.isAgg5 (by omega) (by rfl)) rfl ?_ | refine Tr.q (QS.elR1 rfl (by repeat (first | exact List.Mem.head _ | apply List.Mem.tail)) Try.isAgg5 (by omega) (by rfl)) rfl ?_
    refine Tr.q (QS.assign rfl) rfl ?_
    refine Tr.nil ?_
    refine Tr.thenN ?_
    refine Tr.seq ?_
    refine Tr.region ?_
    refine Tr.q (QS.move rfl) rfl ?_
    refine Tr.q (QS.lss8 (n := 97) rfl rfl) rfl ?_
    refine Tr.q (QS.move rfl) rfl ?_
    apply Tr.orP
    · exact (rfl : _ = (3, 14, 17))
    · exact rfl
    · intro hF3; have hF3' := hF3
      try simp only [bs] at hF3'
      refine Tr.gq rfl rfl hF3 (QS.move rfl) rfl ?_
      refine Tr.gq rfl rfl hF3 (QS.gtr8 (n := 122) rfl rfl) rfl ?_
      refine Tr.q (QS.pickF rfl hF3 rfl) rfl ?_
      refine Tr.nil (Tr.thenN ?_)
      exact Tr.endX (Sub.cons rfl (Sub.dropN 3 (by kernel_rfl) rfl))
    · intro hT3
      refine Tr.gskip rfl rfl hT3 rfl ?_
      refine Tr.gskip rfl rfl hT3 rfl ?_
      refine Tr.q (QS.pickT rfl hT3 rfl) rfl ?_
      refine Tr.nil (Tr.thenN ?_)
      exact Tr.endX (Sub.cons rfl (Sub.dropN 3 (by kernel_rfl) rfl))
    refine Tr.q (QS.move rfl) rfl ?_
    apply Tr.andP
    · exact (rfl : _ = (7, 18, 25))
    · exact rfl
    · intro hT4; have hT4' := hT4
      try simp only [bs] at hT4'
      refine Tr.gq rfl rfl hT4 (QS.move rfl) rfl ?_
      refine Tr.gq rfl rfl hT4 (QS.lss8 (n := 65) rfl rfl) rfl ?_
      refine Tr.gq rfl rfl hT4 (QS.move rfl) rfl ?_
      apply Tr.orP
      · exact (rfl : _ = (3, 21, 24))
      · exact rfl
      · intro hF5; have hF5' := hF5
        try simp only [bs] at hF5'
        refine Tr.gq rfl rfl hF5 (QS.move rfl) rfl ?_
        refine Tr.gq rfl rfl hF5 (QS.gtr8 (n := 90) rfl rfl) rfl ?_
        refine Tr.gq rfl rfl hT4 (QS.pickF rfl hF5 rfl) rfl ?_
        refine Tr.nil (Tr.thenN ?_)
        exact Tr.endX (Sub.cons rfl (Sub.dropN 3 (by kernel_rfl) rfl))
      · intro hT5
        refine Tr.gskip rfl rfl hT5 rfl ?_
        refine Tr.gskip rfl rfl hT5 rfl ?_
        refine Tr.gq rfl rfl hT4 (QS.pickT rfl hT5 rfl) rfl ?_
        refine Tr.nil (Tr.thenN ?_)
        exact Tr.endX (Sub.cons rfl (Sub.dropN 3 (by kernel_rfl) rfl))
      refine Tr.q (QS.pickT rfl hT4 rfl) rfl ?_
      refine Tr.nil (Tr.thenN ?_)
      exact Tr.endX (Sub.cons rfl (Sub.dropN 5 (by kernel_rfl) rfl))
    · intro hF4
      refine Tr.gskip rfl rfl hF4 rfl ?_
      refine Tr.gskip rfl rfl hF4 rfl ?_
      refine Tr.gskip rfl rfl hF4 rfl ?_
      refine Tr.gskipU rfl rfl rfl ?_
      refine Tr.gskipU rfl rfl rfl ?_
      refine Tr.gskip rfl rfl hF4 rfl ?_
      refine Tr.q (QS.pickF rfl hF4 rfl) rfl ?_
      refine Tr.nil (Tr.thenN ?_)
      exact Tr.endX (Sub.cons rfl (Sub.dropN 7 (by kernel_rfl) rfl))
    refine Tr.q (QS.move rfl) rfl ?_
    apply Tr.andP
    · exact (rfl : _ = (7, 26, 33))
    · exact rfl
    · intro hT6; have hT6' := hT6
      try simp only [bs] at hT6'
      refine Tr.gq rfl rfl hT6 (QS.move rfl) rfl ?_
      refine Tr.gq rfl rfl hT6 (QS.lss8 (n := 48) rfl rfl) rfl ?_
      refine Tr.gq rfl rfl hT6 (QS.move rfl) rfl ?_
      apply Tr.orP
      · exact (rfl : _ = (3, 29, 32))
      · exact rfl
      · intro hF7; have hF7' := hF7
        try simp only [bs] at hF7'
        refine Tr.gq rfl rfl hF7 (QS.move rfl) rfl ?_
        refine Tr.gq rfl rfl hF7 (QS.gtr8 (n := 57) rfl rfl) rfl ?_
        refine Tr.gq rfl rfl hT6 (QS.pickF rfl hF7 rfl) rfl ?_
        refine Tr.nil (Tr.thenN ?_)
        exact Tr.endX (Sub.cons rfl (Sub.dropN 3 (by kernel_rfl) rfl))
      · intro hT7
        refine Tr.gskip rfl rfl hT7 rfl ?_
        refine Tr.gskip rfl rfl hT7 rfl ?_
        refine Tr.gq rfl rfl hT6 (QS.pickT rfl hT7 rfl) rfl ?_
        refine Tr.nil (Tr.thenN ?_)
        exact Tr.endX (Sub.cons rfl (Sub.dropN 3 (by kernel_rfl) rfl))
      refine Tr.q (QS.pickT rfl hT6 rfl) rfl ?_
      refine Tr.nil (Tr.thenN ?_)
      exact Tr.endX (Sub.cons rfl (Sub.dropN 5 (by kernel_rfl) rfl))
    · intro hF6
      refine Tr.gskip rfl rfl hF6 rfl ?_
      refine Tr.gskip rfl rfl hF6 rfl ?_
      refine Tr.gskip rfl rfl hF6 rfl ?_
      refine Tr.gskipU rfl rfl rfl ?_
      refine Tr.gskipU rfl rfl rfl ?_
      refine Tr.gskip rfl rfl hF6 rfl ?_
      refine Tr.q (QS.pickF rfl hF6 rfl) rfl ?_
      refine Tr.nil (Tr.thenN ?_)
      exact Tr.endX (Sub.cons rfl (Sub.dropN 7 (by kernel_rfl) rfl))
    refine Tr.q (QS.move rfl) rfl ?_
    apply Tr.andP
    · exact (rfl : _ = (3, 34, 37))
    · exact rfl
    · intro hT8; have hT8' := hT8
      try simp only [bs] at hT8'
      refine Tr.gq rfl rfl hT8 (QS.move rfl) rfl ?_
      refine Tr.gq rfl rfl hT8 (QS.neq8 (n := 95) rfl rfl) rfl ?_
      refine Tr.q (QS.pickT rfl hT8 rfl) rfl ?_
      refine Tr.nil (Tr.thenN ?_)
      exact Tr.endX (Sub.cons rfl (Sub.dropN 3 (by kernel_rfl) rfl))
    · intro hF8
      refine Tr.gskip rfl rfl hF8 rfl ?_
      refine Tr.gskip rfl rfl hF8 rfl ?_
      refine Tr.q (QS.pickF rfl hF8 rfl) rfl ?_
      refine Tr.nil (Tr.thenN ?_)
      exact Tr.endX (Sub.cons rfl (Sub.dropN 3 (by kernel_rfl) rfl))
    refine Tr.q (QS.move rfl) rfl ?_
    apply Tr.andP
    · exact (rfl : _ = (3, 38, 41))
    · exact rfl
    · intro hT9; have hT9' := hT9
      try simp only [bs] at hT9'
      refine Tr.gq rfl rfl hT9 (QS.move rfl) rfl ?_
      refine Tr.gq rfl rfl hT9 (QS.neq8 (n := 46) rfl rfl) rfl ?_
      refine Tr.q (QS.pickT rfl hT9 rfl) rfl ?_
      refine Tr.nil (Tr.thenN ?_)
      exact Tr.endX (Sub.cons rfl (Sub.dropN 3 (by kernel_rfl) rfl))
    · intro hF9
      refine Tr.gskip rfl rfl hF9 rfl ?_
      refine Tr.gskip rfl rfl hF9 rfl ?_
      refine Tr.q (QS.pickF rfl hF9 rfl) rfl ?_
      refine Tr.nil (Tr.thenN ?_)
      exact Tr.endX (Sub.cons rfl (Sub.dropN 3 (by kernel_rfl) rfl))
    refine Tr.nil ?_
    refine Tr.thenN ?_
    refine Tr.cond rfl (fun h10 => ?_) (fun h10 => ?_)
    · try simp only [bs] at h10
      refine Tr.seq ?_
      refine Tr.region ?_
      refine Tr.q (QS.assign rfl) rfl ?_
      refine Tr.nil ?_
      refine Tr.thenN ?_
      refine Tr.ret ?_
      refine Tr.inR ?_
      refine Tr.thenR ?_
      refine Tr.thenR ?_
      refine Tr.inR ?_
      refine Tr.thenR ?_
      refine Tr.ret1 Try.results79 rfl (fun w' hw => ?_)
      have hbad : badB ((bts s).getD k default) = true := by simp only [badB, lowB, uppB, digB, bs]; assumption
      exact ⟨by rw [nameP_bad (by omega) hbad], hw.below hF1⟩
    · try simp only [bs] at h10
      refine Tr.skip ?_
      refine Tr.inN ?_
      refine Tr.thenN ?_
      refine Tr.region ?_
      first | refine Tr.q (QS.addI rfl rfl (by omega)) rfl ?_ | refine Tr.q (QS.add rfl rfl) rfl ?_
      refine Tr.q (QS.move rfl) rfl ?_
      refine Tr.nil ?_
      refine Tr.thenN ?_
      have hbad : badB ((bts s).getD k default) = false := by simp only [badB, lowB, uppB, digB, bs]; assumption
      apply Tr.again (k + 1)
      · exact rfl
      · exact (.cons (by first | rfl | exact lookI rfl (by omega) | exact lookI rfl (by simp) | exact lookB rfl (by simp)) Front.nil)
      · exact SubX.dropN 19 (by kernel_rfl) rfl
      · exact (by repeat' (first | exact Pick.nil _ | exact Del.here _ | apply Pick.cons | apply Del.there))
      · exact ⟨by omega, by rw [any_take_succ (by omega), hk2, hbad]; rfl⟩
      · exact (by (try dsimp only); omega)
  · try simp only [bs] at h2
    refine Tr.exit ?_
    refine Tr.thenE ?_
    refine Tr.thenE ?_
    refine Tr.inHit ?_
    refine Tr.thenN ?_
    refine Tr.seq ?_
    refine Tr.region ?_
    refine Tr.q (QS.move rfl) rfl ?_
    refine Tr.q (QS.lenStr rfl Try.underlying9) rfl ?_
    refine Tr.q (QS.geq rfl rfl) rfl ?_
    refine Tr.q (QS.move rfl) rfl ?_
    apply Tr.andP
    · exact (rfl : _ = (4, 46, 50))
    · exact rfl
    · intro hT11; have hT11' := hT11
      try simp only [bs] at hT11'
      refine Tr.gq rfl rfl hT11 (QS.move rfl) rfl ?_
      refine Tr.gq rfl rfl hT11 (QS.lenStr rfl Try.underlying9) rfl ?_
      refine Tr.gq rfl rfl hT11 (QS.leq rfl rfl) rfl ?_
      refine Tr.q (QS.pickT rfl hT11 rfl) rfl ?_
      refine Tr.nil (Tr.thenN ?_)
      exact Tr.endX (Sub.cons rfl (Sub.dropN 4 (by kernel_rfl) rfl))
    · intro hF11
      refine Tr.gskip rfl rfl hF11 rfl ?_
      refine Tr.gskip rfl rfl hF11 rfl ?_
      refine Tr.gskip rfl rfl hF11 rfl ?_
      refine Tr.q (QS.pickF rfl hF11 rfl) rfl ?_
      refine Tr.nil (Tr.thenN ?_)
      exact Tr.endX (Sub.cons rfl (Sub.dropN 4 (by kernel_rfl) rfl))
    refine Tr.q (QS.assign rfl) rfl ?_
    refine Tr.nil ?_
    refine Tr.thenN ?_
    refine Tr.ret ?_
    refine Tr.ret1 Try.results79 rfl (fun w' hw => ?_)
    exact ⟨by rw [nameP_end (by omega) hk2], hw.below hF1⟩

set_option maxRecDepth 100000 in
set_option maxHeartbeats 2000000 in
theorem space_any (s : SecV) (w : World) (hs : s.data.length ≤ 200000) :
    Calls Try.prog 69 #[.agg (encSec.enc s).toArray] w (fun e w' => e = .returned (.agg (encRng.enc (spaceP s)).toArray) ∧ Ext w w') := by
  have hadr := s.addr.toNat_lt
  refine enter Try.func69 rfl Try.ntmps69 rfl ?_
  refine Tr.seq ?_
  refine Tr.region ?_
  refine Tr.box rfl rfl rfl (fun b1 => ?_)
  refine Tr.alloc Try.zeroValue51 rfl rfl (fun b2 => ?_)
  refine Tr.nil ?_
  refine Tr.thenN ?_
  refine Tr.seq ?_
  refine Tr.region ?_
  refine Tr.q (QS.fieldAddr (off := 1) (ft := 23) rfl Try.underlying81 rfl rfl Try.sizeOf23 (by decide)) rfl ?_
  refine Tr.q (QS.lV rfl Try.isAgg23) rfl ?_
  refine Tr.q (QS.cvt32toU rfl Try.underlying23 Try.underlying82) rfl ?_
  refine Tr.q (QS.fieldAddr (off := 2) (ft := 22) rfl Try.underlying81 rfl rfl Try.sizeOf22 (by decide)) rfl ?_
  refine Tr.q (QS.lV rfl Try.isAgg22) rfl ?_
  first | refine Tr.q (QS.len rfl (by assumption) Try.underlying22) rfl ?_ | refine Tr.q (QS.lenRow rfl (by repeat (first | exact List.Mem.head _ | apply List.Mem.tail)) Try.underlying22) rfl ?_ | refine Tr.q (QS.lenNil rfl Try.underlying22) rfl ?_
  first | refine Tr.q (QS.cvtIn rfl Try.underlying3 Try.underlying82 (IntWalk.u64_in _ (by omega))) rfl ?_ | refine Tr.q (QS.cvt rfl Try.underlying3 Try.underlying82) rfl ?_
  first | refine Tr.q (QS.addU rfl rfl (by omega)) rfl ?_ | refine Tr.q (QS.add rfl rfl) rfl ?_
  refine Tr.q (QS.assign rfl) rfl ?_
  refine Tr.nil ?_
  refine Tr.thenN ?_
  refine Tr.seq ?_
  refine Tr.region ?_
  refine Tr.q (QS.fieldAddr (off := 1) (ft := 23) rfl Try.underlying81 rfl rfl Try.sizeOf23 (by decide)) rfl ?_
  refine Tr.q (QS.lV rfl Try.isAgg23) rfl ?_
  refine Tr.q (QS.move rfl) rfl ?_
  refine Tr.q (QS.min2 rfl rfl) rfl ?_
  refine Tr.q (QS.cvtTo32 rfl Try.underlying82 Try.underlying23) rfl ?_
  refine Tr.q (QS.build (vs := [(0, _), (1, _)]) rfl rfl (HLF.built51_0_1 _ _)) rfl ?_
  refine Tr.storeW rfl rfl Try.sizeOf51 (by repeat (first | exact Put.here _ | apply Put.there)) (by rfl) (by rfl) (by first | exact List.all_eq_true.1 rfl | exact Enc.one _ _ | exact Enc.one encRng _) rfl ?_
  refine Tr.nil ?_
  refine Tr.thenN ?_
  refine Tr.ret ?_
  refine Tr.retC1 Try.results69 rfl (by repeat (first | exact List.Mem.head _ | apply List.Mem.tail)) Try.isAgg51 Try.sizeOf51 (by rfl) (fun w' hw => ?_)
  exact ⟨rfl, hw.below (Bg.le.refl _)⟩

set_option maxRecDepth 100000 in
set_option maxHeartbeats 2000000 in
theorem stack_any (w : World) :
    Calls Try.prog 67 #[] w (fun e w' => e = .returned (.agg (encRng.enc stackP).toArray) ∧ Ext w w') := by
  refine enter Try.func67 rfl Try.ntmps67 rfl ?_
  refine Tr.seq ?_
  refine Tr.region ?_
  refine Tr.alloc Try.zeroValue51 rfl rfl (fun b1 => ?_)
  refine Tr.nil ?_
  refine Tr.thenN ?_
  refine Tr.seq ?_
  refine Tr.region ?_
  refine Tr.q (QS.build (vs := [(0, _), (1, _)]) rfl rfl (HLF.built51_0_1 _ _)) rfl ?_
  refine Tr.storeW rfl rfl Try.sizeOf51 (by repeat (first | exact Put.here _ | apply Put.there)) (by rfl) (by rfl) (by first | exact List.all_eq_true.1 rfl | exact Enc.one _ _ | exact Enc.one encRng _) rfl ?_
  refine Tr.nil ?_
  refine Tr.thenN ?_
  refine Tr.ret ?_
  refine Tr.retC1 Try.results67 rfl (by repeat (first | exact List.Mem.head _ | apply List.Mem.tail)) Try.isAgg51 Try.sizeOf51 (by rfl) (fun w' hw => ?_)
  exact ⟨rfl, hw.below (Bg.le.refl _)⟩

set_option maxRecDepth 100000 in
set_option maxHeartbeats 2000000 in
theorem meet_any (a b : Rng) (w : World) :
    Calls Try.prog 80 #[.agg (encRng.enc a).toArray, .agg (encRng.enc b).toArray] w (fun e w' => e = .returned (.bool (meetP a b)) ∧ Ext w w') := by
  refine enter Try.func80 rfl Try.ntmps80 rfl ?_
  refine Tr.seq ?_
  refine Tr.region ?_
  refine Tr.box rfl rfl rfl (fun b1 => ?_)
  refine Tr.box rfl rfl rfl (fun b2 => ?_)
  refine Tr.q (QS.assign rfl) rfl ?_
  refine Tr.nil ?_
  refine Tr.thenN ?_
  refine Tr.seq ?_
  refine Tr.region ?_
  refine Tr.q (QS.fieldAddr (off := 0) (ft := 23) rfl Try.underlying51 rfl rfl Try.sizeOf23 (by decide)) rfl ?_
  refine Tr.q (QS.lV rfl Try.isAgg23) rfl ?_
  refine Tr.q (QS.fieldAddr (off := 0) (ft := 23) rfl Try.underlying51 rfl rfl Try.sizeOf23 (by decide)) rfl ?_
  refine Tr.q (QS.lV rfl Try.isAgg23) rfl ?_
  refine Tr.q (QS.max32 rfl rfl) rfl ?_
  refine Tr.q (QS.fieldAddr (off := 1) (ft := 23) rfl Try.underlying51 rfl rfl Try.sizeOf23 (by decide)) rfl ?_
  refine Tr.q (QS.lV rfl Try.isAgg23) rfl ?_
  refine Tr.q (QS.fieldAddr (off := 1) (ft := 23) rfl Try.underlying51 rfl rfl Try.sizeOf23 (by decide)) rfl ?_
  refine Tr.q (QS.lV rfl Try.isAgg23) rfl ?_
  refine Tr.q (QS.min32 rfl rfl) rfl ?_
  refine Tr.q (QS.lss32 rfl rfl) rfl ?_
  refine Tr.q (QS.assign rfl) rfl ?_
  refine Tr.nil ?_
  refine Tr.thenN ?_
  refine Tr.ret ?_
  refine Tr.ret1 Try.results80 rfl (fun w' hw => ?_)
  exact ⟨rfl, hw.below (Bg.le.refl _)⟩

set_option maxRecDepth 100000 in
set_option maxHeartbeats 2000000 in
theorem find1_any (s : SecV) (a : UInt32) (b : Nat) (w : World) (hc : Cell (hp w) b 0 (.int .u32 a.toNat)) (hs : s.data.length ≤ 200000) :
    Calls Try.prog 71 #[.agg (encSec.enc s).toArray, .pointer (some ⟨b, 0, none⟩)] w (fun e w' => e = .returned (.bool (inS a s)) ∧ Ext w w') := by
  have hc' : Cell (Bg.of w).blk b 0 (.int .u32 a.toNat) := hc
  refine enter Try.func71 rfl Try.ntmps71 rfl ?_
  refine Tr.seq ?_
  refine Tr.region ?_
  refine Tr.box rfl rfl rfl (fun b1 => ?_)
  refine Tr.q (QS.assign rfl) rfl ?_
  refine Tr.nil ?_
  refine Tr.thenN ?_
  refine Tr.seq ?_
  refine Tr.region ?_
  refine Tr.q (QS.lW rfl Try.isAgg81 Try.sizeOf81) rfl ?_
  refine Tr.q (QS.call rfl Try.call69 (fun w hw => space_any s w hs)) rfl ?_
  refine Tr.alloc Try.zeroValue51 rfl rfl (fun b2 => ?_)
  refine Tr.storeW rfl rfl Try.sizeOf51 (by repeat (first | exact Put.here _ | apply Put.there)) (by rfl) (by rfl) (by first | exact List.all_eq_true.1 rfl | exact Enc.one _ _ | exact Enc.one encRng _) rfl ?_
  refine Tr.nil ?_
  refine Tr.thenN ?_
  refine Tr.seq ?_
  refine Tr.region ?_
  refine Tr.q (QS.fieldAddr (off := 0) (ft := 23) rfl Try.underlying51 rfl rfl Try.sizeOf23 (by decide)) rfl ?_
  refine Tr.q (QS.lV rfl Try.isAgg23) rfl ?_
  first | refine Tr.q (QS.loadV rfl (by repeat (first | exact List.Mem.head _ | apply List.Mem.tail)) Try.isAgg23 (by rfl)) rfl ?_ | refine Tr.q (QS.loadC rfl (by assumption) Try.isAgg23) rfl ?_ | refine Tr.q (QS.loadCF rfl (by assumption) Try.isAgg23 (by rfl)) rfl ?_ | refine Tr.q (QS.el1 rfl (by assumption) Try.isAgg23 (by omega) (by rfl)) rfl ?_ | refine Tr.q (QS.elF rfl (by assumption) Try.isAgg23 (by omega) (by rfl)) rfl ?_ | refine Tr.q (QS.elR1 rfl (by repeat (first | exact List.Mem.head _ | apply List.Mem.tail)) Try.isAgg23 (by omega) (by rfl)) rfl ?_ | refine Tr.q (QS.elRF rfl (by repeat (first | exact List.Mem.head _ | apply List.Mem.tail)) Try.isAgg23 (by omega) (by rfl)) rfl ?_
  refine Tr.q (QS.leq32 rfl rfl) rfl ?_
  refine Tr.q (QS.move rfl) rfl ?_
  apply Tr.andP
  · exact (rfl : _ = (5, 11, 16))
  · exact rfl
  · intro hT3; have hT3' := hT3
    try simp only [bs] at hT3'
    first | refine Tr.gq rfl rfl hT3 (QS.loadV rfl (by repeat (first | exact List.Mem.head _ | apply List.Mem.tail)) Try.isAgg23 (by rfl)) rfl ?_ | refine Tr.gq rfl rfl hT3 (QS.loadC rfl (by assumption) Try.isAgg23) rfl ?_ | refine Tr.gq rfl rfl hT3 (QS.loadCF rfl (by assumption) Try.isAgg23 (by rfl)) rfl ?_ | refine Tr.gq rfl rfl hT3 (QS.el1 rfl (by assumption) Try.isAgg23 (by omega) (by rfl)) rfl ?_ | refine Tr.gq rfl rfl hT3 (QS.elF rfl (by assumption) Try.isAgg23 (by omega) (by rfl)) rfl ?_ | refine Tr.gq rfl rfl hT3 (QS.elR1 rfl (by repeat (first | exact List.Mem.head _ | apply List.Mem.tail)) Try.isAgg23 (by omega) (by rfl)) rfl ?_ | refine Tr.gq rfl rfl hT3 (QS.elRF rfl (by repeat (first | exact List.Mem.head _ | apply List.Mem.tail)) Try.isAgg23 (by omega) (by rfl)) rfl ?_
    refine Tr.gq rfl rfl hT3 (QS.fieldAddr (off := 1) (ft := 23) rfl Try.underlying51 rfl rfl Try.sizeOf23 (by decide)) rfl ?_
    refine Tr.gq rfl rfl hT3 (QS.lV rfl Try.isAgg23) rfl ?_
    refine Tr.gq rfl rfl hT3 (QS.lss32 rfl rfl) rfl ?_
    refine Tr.q (QS.pickT rfl hT3 rfl) rfl ?_
    refine Tr.nil (Tr.thenN ?_)
    exact Tr.endX (Sub.cons rfl (Sub.dropN 5 (by kernel_rfl) rfl))
  · intro hF3
    refine Tr.gskip rfl rfl hF3 rfl ?_
    refine Tr.gskip rfl rfl hF3 rfl ?_
    refine Tr.gskip rfl rfl hF3 rfl ?_
    refine Tr.gskip rfl rfl hF3 rfl ?_
    refine Tr.q (QS.pickF rfl hF3 rfl) rfl ?_
    refine Tr.nil (Tr.thenN ?_)
    exact Tr.endX (Sub.cons rfl (Sub.dropN 5 (by kernel_rfl) rfl))
  refine Tr.q (QS.assign rfl) rfl ?_
  refine Tr.nil ?_
  refine Tr.thenN ?_
  refine Tr.ret ?_
  refine Tr.ret1 Try.results71 rfl (fun w' hw => ?_)
  exact ⟨rfl, hw.below (Bg.le.refl _)⟩

set_option maxRecDepth 100000 in
set_option maxHeartbeats 2000000 in
theorem check1_any (x s : SecV) (b : Nat) (w : World) (hc : CellsIn (hp w) b (encSec.enc s)) :
    Calls Try.prog 78 #[.agg (encSec.enc x).toArray, .pointer (some ⟨b, 0, none⟩)] w (fun e w' => e = .returned (.bool (decide (x.name = s.name))) ∧ Ext w w') := by
  have hc' : CellsIn (Bg.of w).blk b (encSec.enc s) := hc
  refine enter Try.func78 rfl Try.ntmps78 rfl ?_
  refine Tr.seq ?_
  refine Tr.region ?_
  refine Tr.box rfl rfl rfl (fun b1 => ?_)
  refine Tr.q (QS.assign rfl) rfl ?_
  refine Tr.nil ?_
  refine Tr.thenN ?_
  refine Tr.seq ?_
  refine Tr.region ?_
  refine Tr.q (QS.fieldAddr (off := 0) (ft := 9) rfl Try.underlying81 rfl rfl Try.sizeOf9 (by decide)) rfl ?_
  refine Tr.q (QS.lV rfl Try.isAgg9) rfl ?_
  refine Tr.q (QS.fieldAddr (off := 0) (ft := 9) rfl Try.underlying81 rfl rfl Try.sizeOf9 (by decide)) rfl ?_
  first | refine Tr.q (QS.loadV rfl (by repeat (first | exact List.Mem.head _ | apply List.Mem.tail)) Try.isAgg9 (by rfl)) rfl ?_ | refine Tr.q (QS.loadC rfl (by assumption) Try.isAgg9) rfl ?_ | refine Tr.q (QS.loadCF rfl (by assumption) Try.isAgg9 (by rfl)) rfl ?_ | refine Tr.q (QS.el1 rfl (by assumption) Try.isAgg9 (by omega) (by rfl)) rfl ?_ | refine Tr.q (QS.elF rfl (by assumption) Try.isAgg9 (by omega) (by rfl)) rfl ?_ | refine Tr.q (QS.elR1 rfl (by repeat (first | exact List.Mem.head _ | apply List.Mem.tail)) Try.isAgg9 (by omega) (by rfl)) rfl ?_ | refine Tr.q (QS.elRF rfl (by repeat (first | exact List.Mem.head _ | apply List.Mem.tail)) Try.isAgg9 (by omega) (by rfl)) rfl ?_
  refine Tr.q (QS.str_eql rfl rfl) rfl ?_
  refine Tr.q (QS.assign rfl) rfl ?_
  refine Tr.nil ?_
  refine Tr.thenN ?_
  refine Tr.ret ?_
  refine Tr.ret1 Try.results78 rfl (fun w' hw => ?_)
  exact ⟨rfl, hw.below (Bg.le.refl _)⟩

set_option maxRecDepth 100000 in
set_option maxHeartbeats 2000000 in
theorem check2_any (x s : SecV) (b : Nat) (w : World) (hc : CellsIn (hp w) b (encSec.enc s)) (hx : x.data.length ≤ 200000) (hs : s.data.length ≤ 200000) :
    Calls Try.prog 81 #[.agg (encSec.enc x).toArray, .pointer (some ⟨b, 0, none⟩)] w (fun e w' => e = .returned (.bool (meetP (spaceP x) (spaceP s))) ∧ Ext w w') := by
  have hc' : CellsIn (Bg.of w).blk b (encSec.enc s) := hc
  refine enter Try.func81 rfl Try.ntmps81 rfl ?_
  refine Tr.seq ?_
  refine Tr.region ?_
  refine Tr.box rfl rfl rfl (fun b1 => ?_)
  refine Tr.q (QS.assign rfl) rfl ?_
  refine Tr.nil ?_
  refine Tr.thenN ?_
  refine Tr.seq ?_
  refine Tr.regionQ HLF.mixed (by kernel_rfl) ?_
  refine TrQ.q (QS.lW rfl Try.isAgg81 Try.sizeOf81) rfl ?_
  refine TrQ.q (QS.call rfl Try.call69 (fun w hw => space_any x w hx)) rfl ?_
  first | refine TrQ.q (QS.loadCA rfl (by assumption) Try.isAgg81 Try.sizeOf81 (by rfl)) rfl ?_ | refine TrQ.q (QS.loadVW rfl (by repeat (first | exact List.Mem.head _ | apply List.Mem.tail)) Try.isAgg81 Try.sizeOf81 (by rfl)) rfl ?_ | refine TrQ.q (QS.elA rfl (by assumption) Try.isAgg81 Try.sizeOf81 (by rfl) (by omega)) rfl ?_ | refine TrQ.q (QS.elRA rfl (by repeat (first | exact List.Mem.head _ | apply List.Mem.tail)) Try.isAgg81 Try.sizeOf81 (by rfl) (by omega)) rfl ?_
  refine TrQ.q (QS.call rfl Try.call69 (fun w hw => space_any s w hs)) rfl ?_
  refine TrQ.q (QS.call rfl Try.call80 (fun w hw => meet_any (spaceP x) (spaceP s) w)) rfl ?_
  refine TrQ.q (QS.assign rfl) rfl ?_
  refine TrQ.nil ?_
  refine Tr.thenN ?_
  refine Tr.ret ?_
  refine Tr.ret1 Try.results81 rfl (fun w' hw => ?_)
  exact ⟨rfl, hw.below (Bg.le.refl _)⟩

set_option maxRecDepth 100000 in
set_option maxHeartbeats 2000000 in
theorem indexFunc_sec (l : List SecV) (V : Value) (g : FuncId) (cb : List Value) (w : World) (hV : Sl (hp w) encSec l V) (eg : ∀ args w, (callFunc g args).run Try.prog w = .ok (.enter g args) w) (p : SecV → Bool) (hp : ∀ x, x ∈ l → ∀ w', Ext w w' → Calls Try.prog g ([Value.agg (encSec.enc x).toArray] ++ cb).toArray w' fun e w'' => e = .returned (.bool (p x)) ∧ Ext w' w'') :
    Calls Try.prog 70 #[V, .func (.func g) #[] cb.toArray] w (fun e w' => e = .returned (.int .i64 (idxP p 0 l)) ∧ Ext w w') := by
  have hV' : Sl (Bg.of w).blk encSec l V := hV
  have hlen := hV.len_le
  refine enter Try.func70 rfl Try.ntmps70 rfl ?_
  refine Tr.seq ?_
  refine Tr.region ?_
  refine Tr.q (QS.assign rfl) rfl ?_
  refine Tr.nil ?_
  refine Tr.thenN ?_
  refine Tr.seq ?_
  refine Tr.seq ?_
  refine Tr.region ?_
  refine Tr.q (QS.move rfl) rfl ?_
  first | refine Tr.q (QS.len rfl (by assumption) Try.underlying53) rfl ?_ | refine Tr.q (QS.lenRow rfl (by repeat (first | exact List.Mem.head _ | apply List.Mem.tail)) Try.underlying53) rfl ?_ | refine Tr.q (QS.lenNil rfl Try.underlying53) rfl ?_
  refine Tr.q (QS.move rfl) rfl ?_
  refine Tr.nil ?_
  refine Tr.thenN ?_
  refine Tr.block ?_
  refine Tr.loop (ι := Nat) (fun k => k ≤ l.length ∧ idxP p k (l.drop k) = idxP p 0 l) (fun _ => _) (fun k => []) (fun k => [(8, .int .i64 (k : Nat))]) (fun k => l.length - k) 0 ⟨Nat.zero_le _, rfl⟩ (.cons (by first | rfl | exact lookI rfl (by omega) | exact lookI rfl (by simp) | exact lookB rfl (by simp)) Front.nil) (by repeat' (first | exact Pick.nil _ | exact Del.here _ | apply Pick.cons | apply Del.there)) rfl (fun k hi m hm => ?_)
  replace hi : k ≤ l.length ∧ idxP p k (l.drop k) = idxP p 0 l := hi
  replace hm : m = l.length - k := hm
  change Tr _ _ [] ([(8, .int .i64 (k : Nat))] ++ _) _
  obtain ⟨hk1, hk2⟩ := hi
  refine Tr.seq ?_
  refine Tr.region ?_
  refine Tr.q (QS.lss rfl rfl) rfl ?_
  refine Tr.nil ?_
  refine Tr.thenN ?_
  refine Tr.seq ?_
  refine Tr.cond rfl (fun h1 => ?_) (fun h1 => ?_)
  · try simp only [bs] at h1
    refine Tr.skip ?_
    refine Tr.thenN ?_
    refine Tr.seq ?_
    refine Tr.block ?_
    refine Tr.seq ?_
    refine Tr.region ?_
    refine Tr.q (QS.move rfl) rfl ?_
    refine Tr.q (QS.assign rfl) rfl ?_
    refine Tr.nil ?_
    refine Tr.thenN ?_
    refine Tr.seq ?_
    refine Tr.region ?_
    refine Tr.q (QS.move rfl) rfl ?_
    refine Tr.q (QS.move rfl) rfl ?_
    refine Tr.q (QS.move rfl) rfl ?_
    first | refine Tr.q (QS.idxN rfl rfl (by assumption) Try.underlying53 Try.sizeOf81 (by rfl) (by omega)) rfl ?_ | refine Tr.q (QS.idxRowN rfl rfl (by repeat (first | exact List.Mem.head _ | apply List.Mem.tail)) Try.underlying53 Try.sizeOf81 (by rfl) (by omega)) rfl ?_ | refine Tr.q (QS.idx rfl rfl (by assumption) Try.underlying53 Try.sizeOf81 (by rfl) (by omega)) rfl ?_ | refine Tr.q (QS.idxRow rfl rfl (by repeat (first | exact List.Mem.head _ | apply List.Mem.tail)) Try.underlying53 Try.sizeOf81 (by rfl) (by omega)) rfl ?_
    first | refine Tr.q (QS.elA rfl (by assumption) Try.isAgg81 Try.sizeOf81 (by rfl) (by omega)) rfl ?_ | refine Tr.q (QS.elRA rfl (by repeat (first | exact List.Mem.head _ | apply List.Mem.tail)) Try.isAgg81 Try.sizeOf81 (by rfl) (by omega)) rfl ?_
    refine Tr.q (QS.callV rfl rfl eg (fun w hw => hp _ (mem_getD (by omega)) w (hw.below (Bg.le.refl _)))) rfl ?_
    refine Tr.nil ?_
    refine Tr.thenN ?_
    refine Tr.cond rfl (fun h2 => ?_) (fun h2 => ?_)
    · try simp only [bs] at h2
      refine Tr.seq ?_
      refine Tr.region ?_
      refine Tr.q (QS.move rfl) rfl ?_
      refine Tr.q (QS.assign rfl) rfl ?_
      refine Tr.nil ?_
      refine Tr.thenN ?_
      refine Tr.ret ?_
      refine Tr.inR ?_
      refine Tr.thenR ?_
      refine Tr.thenR ?_
      refine Tr.inR ?_
      refine Tr.thenR ?_
      refine Tr.ret1 Try.results70 rfl (fun w' hw => ?_)
      exact ⟨by rw [← hk2, drop_cons (k := k) (by omega), idxP, if_pos (by assumption)], hw.below (Bg.le.refl _)⟩
    · try simp only [bs] at h2
      refine Tr.skip ?_
      refine Tr.inN ?_
      refine Tr.thenN ?_
      refine Tr.region ?_
      first | refine Tr.q (QS.addI rfl rfl (by omega)) rfl ?_ | refine Tr.q (QS.add rfl rfl) rfl ?_
      refine Tr.q (QS.move rfl) rfl ?_
      refine Tr.nil ?_
      refine Tr.thenN ?_
      apply Tr.again (k + 1)
      · exact rfl
      · exact (.cons (by first | rfl | exact lookI rfl (by omega) | exact lookI rfl (by simp) | exact lookB rfl (by simp)) Front.nil)
      · exact SubX.dropN 12 (by kernel_rfl) rfl
      · exact (by repeat' (first | exact Pick.nil _ | exact Del.here _ | apply Pick.cons | apply Del.there))
      · exact ⟨by omega, by rw [← hk2, drop_cons (k := k) (by omega), idxP, if_neg (by simp_all)]⟩
      · exact (by (try dsimp only); omega)
  · try simp only [bs] at h1
    refine Tr.exit ?_
    refine Tr.thenE ?_
    refine Tr.thenE ?_
    refine Tr.inHit ?_
    refine Tr.thenN ?_
    refine Tr.seq ?_
    refine Tr.region ?_
    refine Tr.q (QS.assign rfl) rfl ?_
    refine Tr.nil ?_
    refine Tr.thenN ?_
    refine Tr.ret ?_
    refine Tr.ret1 Try.results70 rfl (fun w' hw => ?_)
    exact ⟨by rw [← hk2, List.drop_of_length_le (by omega)]; rfl, hw.below (Bg.le.refl _)⟩

set_option maxRecDepth 100000 in
set_option maxHeartbeats 2000000 in
theorem containsFunc_sec (l : List SecV) (V : Value) (g : FuncId) (cb : List Value) (w : World) (hV : Sl (hp w) encSec l V) (eg : ∀ args w, (callFunc g args).run Try.prog w = .ok (.enter g args) w) (p : SecV → Bool) (hp : ∀ x, x ∈ l → ∀ w', Ext w w' → Calls Try.prog g ([Value.agg (encSec.enc x).toArray] ++ cb).toArray w' fun e w'' => e = .returned (.bool (p x)) ∧ Ext w' w'') :
    Calls Try.prog 77 #[V, .func (.func g) #[] cb.toArray] w (fun e w' => e = .returned (.bool (l.any p)) ∧ Ext w w') := by
  refine enter Try.func77 rfl Try.ntmps77 rfl ?_
  refine Tr.seq ?_
  refine Tr.region ?_
  refine Tr.q (QS.assign rfl) rfl ?_
  refine Tr.nil ?_
  refine Tr.thenN ?_
  refine Tr.seq ?_
  refine Tr.region ?_
  refine Tr.q (QS.move rfl) rfl ?_
  refine Tr.q (QS.move rfl) rfl ?_
  refine Tr.q (QS.call rfl Try.call70 (fun w hw => indexFunc_sec l V g cb w (hw.slF hV) eg p (fun x hx w'' h => hp x hx w'' ((hw.below (Bg.le.refl _)).trans h)))) rfl ?_
  refine Tr.q (QS.geq rfl rfl) rfl ?_
  refine Tr.q (QS.assign rfl) rfl ?_
  refine Tr.nil ?_
  refine Tr.thenN ?_
  refine Tr.ret ?_
  refine Tr.ret1 Try.results77 rfl (fun w' hw => ?_)
  exact ⟨by rw [idxP_any], hw.below (Bg.le.refl _)⟩

set_option maxRecDepth 100000 in
set_option maxHeartbeats 2000000 in
theorem find_any (l : List SecV) (V : Value) (a : UInt32) (w : World) (hV : Sl (hp w) encSec l V) (hB : SecB l) :
    Calls Try.prog 43 #[V, .int .u32 a.toNat] w (fun e w' => e = .returned (.int .i64 (findP l a)) ∧ Ext w w') := by
  have hV' : Sl (Bg.of w).blk encSec l V := hV
  have hlen := hB.1
  refine enter Try.func43 rfl Try.ntmps43 rfl ?_
  refine Tr.seq ?_
  refine Tr.region ?_
  refine Tr.box rfl rfl rfl (fun b1 => ?_)
  refine Tr.q (QS.assign rfl) rfl ?_
  refine Tr.nil ?_
  refine Tr.thenN ?_
  refine Tr.seq ?_
  refine Tr.region ?_
  refine Tr.q (QS.move rfl) rfl ?_
  refine Tr.q (QS.makeFunc rfl rfl) rfl ?_
  refine Tr.q (QS.call rfl Try.call70 (fun w hw => indexFunc_sec l V _ _ w (hw.slF hV) Try.call71 (inS a) (fun x hx w'' h => find1_any x a _ w'' (cellE.cell (hw.ent _ (.head _)) h rfl) (hB.2 x hx)))) rfl ?_
  refine Tr.q (QS.assign rfl) rfl ?_
  refine Tr.nil ?_
  refine Tr.thenN ?_
  refine Tr.ret ?_
  refine Tr.ret1 Try.results43 rfl (fun w' hw => ?_)
  exact ⟨rfl, hw.below (Bg.le.refl _)⟩

set_option maxRecDepth 100000 in
set_option maxHeartbeats 2000000 in
theorem place_any (l : List SecV) (V : Value) (a : UInt32) (n : Int) (w : World) (hV : Sl (hp w) encSec l V) (hB : SecB l) (hn : 0 ≤ n ∧ n ≤ 9223372036854775807) :
    Calls Try.prog 72 #[V, .int .u32 a.toNat, .int .i64 n] w (fun e w' => e = .returned (.tuple #[.int .i64 (placeP l a n).1, .int .i64 (placeP l a n).2.1, .int .i64 (placeP l a n).2.2]) ∧ Ext w w') := by
  have hV' : Sl (Bg.of w).blk encSec l V := hV
  have hlen := hB.1
  have hf := findP_lt (l := l) (a := a)
  refine enter Try.func72 rfl Try.ntmps72 rfl ?_
  refine Tr.seq ?_
  refine Tr.region ?_
  refine Tr.q (QS.assign rfl) rfl ?_
  refine Tr.q (QS.assign rfl) rfl ?_
  refine Tr.q (QS.assign rfl) rfl ?_
  refine Tr.nil ?_
  refine Tr.thenN ?_
  refine Tr.seq ?_
  refine Tr.region ?_
  refine Tr.q (QS.move rfl) rfl ?_
  refine Tr.q (QS.move rfl) rfl ?_
  refine Tr.q (QS.call rfl Try.call43 (fun w hw => find_any l V a w (hw.slF hV) hB)) rfl ?_
  refine Tr.q (QS.assign rfl) rfl ?_
  refine Tr.nil ?_
  refine Tr.thenN ?_
  refine Tr.seq ?_
  refine Tr.seq ?_
  refine Tr.region ?_
  refine Tr.q (QS.move rfl) rfl ?_
  refine Tr.q (QS.lss rfl rfl) rfl ?_
  refine Tr.nil ?_
  refine Tr.thenN ?_
  refine Tr.cond rfl (fun h1 => ?_) (fun h1 => ?_)
  · try simp only [bs] at h1
    refine Tr.seq ?_
    refine Tr.region ?_
    refine Tr.q (QS.assign rfl) rfl ?_
    refine Tr.q (QS.assign rfl) rfl ?_
    refine Tr.q (QS.assign rfl) rfl ?_
    refine Tr.nil ?_
    refine Tr.thenN ?_
    refine Tr.ret ?_
    refine Tr.thenR ?_
    refine Tr.ret3 Try.results72 rfl rfl rfl (fun w' hw => ?_)
    exact ⟨by rw [placeP_1 (by assumption)], hw.below (Bg.le.refl _)⟩
  · try simp only [bs] at h1
    refine Tr.skip ?_
    refine Tr.thenN ?_
    refine Tr.seq ?_
    refine Tr.region ?_
    refine Tr.q (QS.move rfl) rfl ?_
    refine Tr.q (QS.move rfl) rfl ?_
    first | refine Tr.q (QS.idxN rfl rfl (by assumption) Try.underlying53 Try.sizeOf81 (by rfl) (by omega)) rfl ?_ | refine Tr.q (QS.idxRowN rfl rfl (by repeat (first | exact List.Mem.head _ | apply List.Mem.tail)) Try.underlying53 Try.sizeOf81 (by rfl) (by omega)) rfl ?_ | refine Tr.q (QS.idx rfl rfl (by assumption) Try.underlying53 Try.sizeOf81 (by rfl) (by omega)) rfl ?_ | refine Tr.q (QS.idxRow rfl rfl (by repeat (first | exact List.Mem.head _ | apply List.Mem.tail)) Try.underlying53 Try.sizeOf81 (by rfl) (by omega)) rfl ?_
    first | refine Tr.q (QS.elA rfl (by assumption) Try.isAgg81 Try.sizeOf81 (by rfl) (by omega)) rfl ?_ | refine Tr.q (QS.elRA rfl (by repeat (first | exact List.Mem.head _ | apply List.Mem.tail)) Try.isAgg81 Try.sizeOf81 (by rfl) (by omega)) rfl ?_
    refine Tr.q (QS.call rfl Try.call69 (fun w hw => space_any (l.getD (findP l a).toNat default) w (hB.at (by omega)))) rfl ?_
    refine Tr.alloc Try.zeroValue51 rfl rfl (fun b2 => ?_)
    refine Tr.storeW rfl rfl Try.sizeOf51 (by repeat (first | exact Put.here _ | apply Put.there)) (by rfl) (by rfl) (by first | exact List.all_eq_true.1 rfl | exact Enc.one _ _ | exact Enc.one encRng _) rfl ?_
    refine Tr.nil ?_
    refine Tr.thenN ?_
    refine Tr.seq ?_
    refine Tr.seq ?_
    refine Tr.region ?_
    refine Tr.q (QS.move rfl) rfl ?_
    first | refine Tr.q (QS.cvtIn rfl Try.underlying3 Try.underlying82 (IntWalk.u64_in _ (by omega))) rfl ?_ | refine Tr.q (QS.cvt rfl Try.underlying3 Try.underlying82) rfl ?_
    refine Tr.q (QS.fieldAddr (off := 1) (ft := 23) rfl Try.underlying51 rfl rfl Try.sizeOf23 (by decide)) rfl ?_
    refine Tr.q (QS.lV rfl Try.isAgg23) rfl ?_
    refine Tr.q (QS.move rfl) rfl ?_
    refine Tr.q (QS.sub32 rfl rfl) rfl ?_
    refine Tr.q (QS.cvt32toU rfl Try.underlying23 Try.underlying82) rfl ?_
    refine Tr.q (QS.gtr rfl rfl) rfl ?_
    refine Tr.nil ?_
    refine Tr.thenN ?_
    refine Tr.cond rfl (fun h3 => ?_) (fun h3 => ?_)
    · try simp only [bs] at h3
      refine Tr.seq ?_
      refine Tr.region ?_
      refine Tr.q (QS.assign rfl) rfl ?_
      refine Tr.q (QS.assign rfl) rfl ?_
      refine Tr.q (QS.assign rfl) rfl ?_
      refine Tr.nil ?_
      refine Tr.thenN ?_
      refine Tr.ret ?_
      refine Tr.thenR ?_
      refine Tr.ret3 Try.results72 rfl rfl rfl (fun w' hw => ?_)
      have hpl := place_left (l := l) (a := a) (by assumption)
      exact ⟨by rw [placeP_2 (by assumption) (by rw [← hpl]; assumption)], hw.below (Bg.le.refl _)⟩
    · try simp only [bs] at h3
      refine Tr.skip ?_
      refine Tr.thenN ?_
      refine Tr.seq ?_
      refine Tr.regionQ HLF.mixed (by kernel_rfl) ?_
      refine TrQ.q (QS.move rfl) rfl ?_
      refine TrQ.q (QS.move rfl) rfl ?_
      refine TrQ.q (QS.fieldAddr (off := 0) (ft := 23) rfl Try.underlying51 rfl rfl Try.sizeOf23 (by decide)) rfl ?_
      refine TrQ.q (QS.lV rfl Try.isAgg23) rfl ?_
      refine TrQ.q (QS.sub32 rfl rfl) rfl ?_
      refine TrQ.q (QS.cvt32toI rfl Try.underlying23 Try.underlying3) rfl ?_
      refine TrQ.q (QS.assign rfl) rfl ?_
      refine TrQ.q (QS.assign rfl) rfl ?_
      refine TrQ.q (QS.assign rfl) rfl ?_
      refine TrQ.nil ?_
      refine Tr.thenN ?_
      refine Tr.ret ?_
      refine Tr.ret3 Try.results72 rfl rfl rfl (fun w' hw => ?_)
      have hpl := place_left (l := l) (a := a) (by assumption)
      have hpa := place_at (l := l) (a := a) (by assumption)
      exact ⟨by rw [placeP_3 (by assumption) (by rw [← hpl]; assumption), ← hpa]; rfl, hw.below (Bg.le.refl _)⟩

set_option maxRecDepth 100000 in
set_option maxHeartbeats 2000000 in
theorem read_any (l : List SecV) (V : Value) (a : UInt32) (n : Int) (w : World) (hV : Sl (hp w) encSec l V) (hB : SecB l) (hD : DataIn (hp w) l) (hn : n ≤ 9223372036854775807) :
    Calls Try.prog 44 #[V, .int .u32 a.toNat, .int .i64 n] w (fun e w' => ∃ V', e = .returned (.tuple #[V', .int .i64 (readP l a n).2]) ∧ Ext w w' ∧ NewRow w w' 5 encU8 (readP l a n).1 V') := by
  have hV' : Sl (Bg.of w).blk encSec l V := hV
  have hlen := hB.1
  refine enter Try.func44 rfl Try.ntmps44 rfl ?_
  refine Tr.seq ?_
  refine Tr.region ?_
  refine Tr.q (QS.assign rfl) rfl ?_
  refine Tr.q (QS.assign rfl) rfl ?_
  refine Tr.nil ?_
  refine Tr.thenN ?_
  refine Tr.seq ?_
  refine Tr.seq ?_
  refine Tr.region ?_
  refine Tr.q (QS.move rfl) rfl ?_
  refine Tr.q (QS.lss rfl rfl) rfl ?_
  refine Tr.nil ?_
  refine Tr.thenN ?_
  refine Tr.cond rfl (fun h1 => ?_) (fun h1 => ?_)
  · try simp only [bs] at h1
    refine Tr.seq ?_
    refine Tr.region ?_
    refine Tr.q (QS.assign rfl) rfl ?_
    refine Tr.q (QS.assign rfl) rfl ?_
    refine Tr.nil ?_
    refine Tr.thenN ?_
    refine Tr.ret ?_
    refine Tr.thenR ?_
    refine Tr.ret2 Try.results44 rfl rfl (fun w' hw => ?_)
    exact ⟨_, by rw [readP, if_pos (by assumption)], hw.below (Bg.le.refl _), newRow_nil (by rw [readP, if_pos (by assumption)])⟩
  · try simp only [bs] at h1
    refine Tr.skip ?_
    refine Tr.thenN ?_
    refine Tr.seq ?_
    refine Tr.seq ?_
    refine Tr.region ?_
    refine Tr.q (QS.move rfl) rfl ?_
    refine Tr.q (QS.eql rfl rfl) rfl ?_
    refine Tr.nil ?_
    refine Tr.thenN ?_
    refine Tr.cond rfl (fun h2 => ?_) (fun h2 => ?_)
    · try simp only [bs] at h2
      refine Tr.seq ?_
      refine Tr.region ?_
      refine Tr.q (QS.assign rfl) rfl ?_
      refine Tr.q (QS.assign rfl) rfl ?_
      refine Tr.nil ?_
      refine Tr.thenN ?_
      refine Tr.ret ?_
      refine Tr.thenR ?_
      refine Tr.ret2 Try.results44 rfl rfl (fun w' hw => ?_)
      exact ⟨_, by rw [readP, if_neg (by assumption), if_pos (by assumption)], hw.below (Bg.le.refl _), newRow_nil (by rw [readP, if_neg (by assumption), if_pos (by assumption)])⟩
    · try simp only [bs] at h2
      refine Tr.skip ?_
      refine Tr.thenN ?_
      refine Tr.seq ?_
      refine Tr.region ?_
      refine Tr.q (QS.move rfl) rfl ?_
      refine Tr.q (QS.move rfl) rfl ?_
      refine Tr.q (QS.move rfl) rfl ?_
      refine Tr.q (QS.call rfl Try.call72 (fun w hw => place_any l V a n w (hw.slF hV) hB (by omega))) rfl ?_
      refine Tr.q (QS.move rfl) rfl ?_
      refine Tr.q (QS.extract rfl rfl) rfl ?_
      refine Tr.q (QS.extract rfl rfl) rfl ?_
      refine Tr.q (QS.extract rfl rfl) rfl ?_
      refine Tr.q (QS.assign rfl) rfl ?_
      refine Tr.q (QS.assign rfl) rfl ?_
      refine Tr.q (QS.assign rfl) rfl ?_
      refine Tr.nil ?_
      refine Tr.thenN ?_
      refine Tr.seq ?_
      refine Tr.seq ?_
      refine Tr.region ?_
      refine Tr.q (QS.move rfl) rfl ?_
      refine Tr.q (QS.neq rfl rfl) rfl ?_
      refine Tr.nil ?_
      refine Tr.thenN ?_
      refine Tr.cond rfl (fun h3 => ?_) (fun h3 => ?_)
      · try simp only [bs] at h3
        refine Tr.seq ?_
        refine Tr.region ?_
        refine Tr.q (QS.move rfl) rfl ?_
        refine Tr.q (QS.assign rfl) rfl ?_
        refine Tr.q (QS.assign rfl) rfl ?_
        refine Tr.nil ?_
        refine Tr.thenN ?_
        refine Tr.ret ?_
        refine Tr.thenR ?_
        refine Tr.ret2 Try.results44 rfl rfl (fun w' hw => ?_)
        exact ⟨_, by rw [readP, if_neg (by assumption), if_neg (by assumption), if_pos (by assumption)]; rfl, hw.below (Bg.le.refl _), newRow_nil (by rw [readP, if_neg (by assumption), if_neg (by assumption), if_pos (by assumption)])⟩
      · try simp only [bs] at h3
        refine Tr.skip ?_
        refine Tr.thenN ?_
        refine Tr.seq ?_
        obtain ⟨p1, p2, p3, p4, p5⟩ := placeP_ok (l := l) (a := a) (n := n) (by simp_all)
        have p6 : (placeP l a n).2.1 ≤ (placeP l a n).2.1 + n := by omega
        have hdl := hB.at (k := (placeP l a n).1.toNat) (by omega)
        have hDk : Sl (Bg.of w).blk encU8 (l.getD (placeP l a n).1.toNat default).data (.slice (l.getD (placeP l a n).1.toNat default).dp (l.getD (placeP l a n).1.toNat default).data.length (l.getD (placeP l a n).1.toNat default).dc) := hD _ (mem_getD (by omega))
        refine Tr.region ?_
        refine Tr.q (QS.move rfl) rfl ?_
        refine Tr.q (QS.move rfl) rfl ?_
        first | refine Tr.q (QS.idxN rfl rfl (by assumption) Try.underlying53 Try.sizeOf81 (by rfl) (by omega)) rfl ?_ | refine Tr.q (QS.idxRowN rfl rfl (by repeat (first | exact List.Mem.head _ | apply List.Mem.tail)) Try.underlying53 Try.sizeOf81 (by rfl) (by omega)) rfl ?_ | refine Tr.q (QS.idx rfl rfl (by assumption) Try.underlying53 Try.sizeOf81 (by rfl) (by omega)) rfl ?_ | refine Tr.q (QS.idxRow rfl rfl (by repeat (first | exact List.Mem.head _ | apply List.Mem.tail)) Try.underlying53 Try.sizeOf81 (by rfl) (by omega)) rfl ?_
        refine Tr.q (QS.fieldAddr (off := 2) (ft := 22) rfl Try.underlying81 rfl rfl Try.sizeOf22 (by decide)) rfl ?_
        first | refine Tr.q (QS.elF rfl (by assumption) Try.isAgg22 (by omega) (by rfl)) rfl ?_ | refine Tr.q (QS.elRF rfl (by repeat (first | exact List.Mem.head _ | apply List.Mem.tail)) Try.isAgg22 (by omega) (by rfl)) rfl ?_
        refine Tr.q (QS.move rfl) rfl ?_
        refine Tr.q (QS.move rfl) rfl ?_
        refine Tr.q (QS.move rfl) rfl ?_
        first | refine Tr.q (QS.addI rfl rfl (by omega)) rfl ?_ | refine Tr.q (QS.add rfl rfl) rfl ?_
        first | refine Tr.q (QS.slice (lv := some (_, _)) (hv := some (_, _)) rfl (by assumption) rfl rfl Try.underlying22 Try.sizeOf5 (by rfl) (by simp only [loOf, hiOf] <;> first | omega | assumption | (simp only [NatCast.natCast, Int.ofNat_eq_natCast]; omega)) (by simp only [loOf, hiOf] <;> first | omega | assumption | (simp only [NatCast.natCast, Int.ofNat_eq_natCast]; omega)) (by simp only [loOf, hiOf] <;> first | omega | assumption | (simp only [NatCast.natCast, Int.ofNat_eq_natCast]; omega))) rfl ?_ | refine Tr.q (QS.sliceRow (lv := some (_, _)) (hv := some (_, _)) rfl (by repeat (first | exact List.Mem.head _ | apply List.Mem.tail)) rfl rfl Try.underlying22 Try.sizeOf5 (by rfl) (by simp only [loOf, hiOf] <;> first | omega | assumption | (simp only [NatCast.natCast, Int.ofNat_eq_natCast]; omega)) (by simp only [loOf, hiOf] <;> first | omega | assumption | (simp only [NatCast.natCast, Int.ofNat_eq_natCast]; omega)) (by simp only [loOf, hiOf] <;> first | omega | assumption | (simp only [NatCast.natCast, Int.ofNat_eq_natCast]; omega))) rfl ?_
        refine Tr.callRow rfl Try.call73 (fun w hw => clone_u8 (((l.getD (placeP l a n).1.toNat default).data.take ((placeP l a n).2.1 + n).toNat).drop (placeP l a n).2.1.toNat) _ w (Sl.resl (l := (placeP l a n).2.1.toNat) (h := ((placeP l a n).2.1 + n).toNat) (hw.slF hDk) (by omega) (by omega)) (by simp only [List.length_drop, List.length_take]; omega)) rfl (fun V4 => ?_)
        refine Tr.q (QS.assign rfl) rfl ?_
        refine Tr.nil ?_
        refine Tr.thenN ?_
        refine Tr.seq ?_
        refine Tr.region ?_
        refine Tr.q (QS.move rfl) rfl ?_
        refine Tr.q (QS.move rfl) rfl ?_
        refine Tr.q (QS.move rfl) rfl ?_
        refine Tr.sliceFullN rfl (by repeat (first | exact Del.here _ | apply Del.there)) rfl rfl (by simp only [List.length_drop, List.length_take]; omega) Try.underlying22 Try.sizeOf5 rfl (fun V90 => ?_)
        refine Tr.q (QS.assign rfl) rfl ?_
        refine Tr.q (QS.assign rfl) rfl ?_
        refine Tr.nil ?_
        refine Tr.thenN ?_
        refine Tr.ret ?_
        refine Tr.ret2 Try.results44 rfl rfl (fun w' hw => ?_)
        exact ⟨_, by rw [readP, if_neg (by assumption), if_neg (by assumption), if_neg (by simp_all)], hw.below (Bg.le.refl _), by rw [readP, if_neg (by assumption), if_neg (by assumption), if_neg (by simp_all)]; exact hw.new (.head _)⟩

set_option maxRecDepth 100000 in
set_option maxHeartbeats 2000000 in
theorem ranges_any (l : List SecV) (V : Value) (w : World) (hV : Sl (hp w) encSec l V) (hB : SecB l) :
    Calls Try.prog 42 #[V] w (fun e w' => ∃ V', e = .returned V' ∧ Ext w w' ∧ NewRow w w' 51 encRng (normalP (l.map spaceP)) V') := by
  have hV' : Sl (Bg.of w).blk encSec l V := hV
  have hlen := hB.1
  refine enter Try.func42 rfl Try.ntmps42 rfl ?_
  refine Tr.seq ?_
  refine Tr.region ?_
  refine Tr.q (QS.assign rfl) rfl ?_
  refine Tr.nil ?_
  refine Tr.thenN ?_
  refine Tr.seq ?_
  refine Tr.region ?_
  refine Tr.q (QS.assign rfl) rfl ?_
  refine Tr.nil ?_
  refine Tr.thenN ?_
  refine Tr.seq ?_
  refine Tr.seq ?_
  refine Tr.region ?_
  refine Tr.q (QS.move rfl) rfl ?_
  first | refine Tr.q (QS.len rfl (by assumption) Try.underlying53) rfl ?_ | refine Tr.q (QS.lenRow rfl (by repeat (first | exact List.Mem.head _ | apply List.Mem.tail)) Try.underlying53) rfl ?_ | refine Tr.q (QS.lenNil rfl Try.underlying53) rfl ?_
  refine Tr.q (QS.move rfl) rfl ?_
  refine Tr.nil ?_
  refine Tr.thenN ?_
  refine Tr.block ?_
  refine Tr.ownNil 51 encRng ?_
  refine Tr.loop (ι := Nat × Value) (fun ⟨k, V'⟩ => k ≤ l.length) (fun _ => _) (fun ⟨k, V'⟩ => [rowE V' 51 encRng ((l.take k).map spaceP)]) (fun ⟨k, V'⟩ => [(8, .int .i64 (k : Nat)), (3, V')]) (fun ⟨k, V'⟩ => l.length - k) (0, _) (Nat.zero_le _) (.cons (by first | rfl | exact lookI rfl (by omega) | exact lookI rfl (by simp) | exact lookB rfl (by simp)) (.cons (by first | rfl | exact lookI rfl (by omega) | exact lookI rfl (by simp) | exact lookB rfl (by simp)) Front.nil)) (by repeat' (first | exact Pick.nil _ | exact Del.here _ | apply Pick.cons | apply Del.there)) rfl (fun i hi m hm => ?_)
  obtain ⟨k, V'⟩ := i
  replace hi : k ≤ l.length := hi
  replace hm : m = l.length - k := hm
  change Tr _ _ [rowE V' 51 encRng ((l.take k).map spaceP)] ([(8, .int .i64 (k : Nat)), (3, V')] ++ _) _
  have hml : ((l.take k).map spaceP).length ≤ l.length := by simp only [List.length_map, List.length_take]; omega
  refine Tr.seq ?_
  refine Tr.region ?_
  refine Tr.q (QS.lss rfl rfl) rfl ?_
  refine Tr.nil ?_
  refine Tr.thenN ?_
  refine Tr.seq ?_
  refine Tr.cond rfl (fun h1 => ?_) (fun h1 => ?_)
  · try simp only [bs] at h1
    refine Tr.skip ?_
    refine Tr.thenN ?_
    refine Tr.seq ?_
    refine Tr.block ?_
    refine Tr.seq ?_
    refine Tr.region ?_
    first | refine Tr.q (QS.idxN rfl rfl (by assumption) Try.underlying53 Try.sizeOf81 (by rfl) (by omega)) rfl ?_ | refine Tr.q (QS.idxRowN rfl rfl (by repeat (first | exact List.Mem.head _ | apply List.Mem.tail)) Try.underlying53 Try.sizeOf81 (by rfl) (by omega)) rfl ?_ | refine Tr.q (QS.idx rfl rfl (by assumption) Try.underlying53 Try.sizeOf81 (by rfl) (by omega)) rfl ?_ | refine Tr.q (QS.idxRow rfl rfl (by repeat (first | exact List.Mem.head _ | apply List.Mem.tail)) Try.underlying53 Try.sizeOf81 (by rfl) (by omega)) rfl ?_
    first | refine Tr.q (QS.elA rfl (by assumption) Try.isAgg81 Try.sizeOf81 (by rfl) (by omega)) rfl ?_ | refine Tr.q (QS.elRA rfl (by repeat (first | exact List.Mem.head _ | apply List.Mem.tail)) Try.isAgg81 Try.sizeOf81 (by rfl) (by omega)) rfl ?_
    refine Tr.alloc Try.zeroValue81 rfl rfl (fun b2 => ?_)
    refine Tr.storeW rfl rfl Try.sizeOf81 (by repeat (first | exact Put.here _ | apply Put.there)) (by rfl) (by rfl) (by first | exact List.all_eq_true.1 rfl | exact Enc.one _ _ | exact Enc.one encSec _) rfl ?_
    refine Tr.nil ?_
    refine Tr.thenN ?_
    refine Tr.region ?_
    refine Tr.q (QS.move rfl) rfl ?_
    refine Tr.q (QS.lW rfl Try.isAgg81 Try.sizeOf81) rfl ?_
    refine Tr.q (QS.call rfl Try.call69 (fun w hw => space_any (l.getD k default) w (hB.at (by omega)))) rfl ?_
    first | refine Tr.lit1 (E := encRng) _ rfl rfl Try.underlying31 Try.sizeOf51 Try.zeroValue51 (by rfl) (by rfl) rfl (fun V3 => ?_) | refine Tr.lit1 (E := encRng) ⟨_, _⟩ rfl rfl Try.underlying31 Try.sizeOf51 Try.zeroValue51 (by rfl) (by rfl) rfl (fun V3 => ?_)
    first | refine Tr.append1 rfl rfl (by repeat (first | exact Del.here _ | apply Del.there)) (by repeat (first | exact Del.here _ | apply Del.there)) Try.underlying31 HLF.info51 (by rfl) (by rfl) (by (try simp only [List.length_cons, List.length_nil, List.length_append, List.length_take]); omega) (by unfold maxLen; (try simp only [List.length_cons, List.length_nil, List.length_append, List.length_take]); omega) rfl (fun V4 => ?_) | refine Tr.ownNil _ _ (Tr.append1 rfl rfl (by repeat (first | exact Del.here _ | apply Del.there)) (by repeat (first | exact Del.here _ | apply Del.there)) Try.underlying31 HLF.info51 (by rfl) (by rfl) (by (try simp only [List.length_cons, List.length_nil, List.length_append, List.length_take]); omega) (by unfold maxLen; (try simp only [List.length_cons, List.length_nil, List.length_append, List.length_take]); omega) rfl (fun V4 => ?_)) | refine Tr.appendOf rfl rfl (by repeat (first | exact Del.here _ | apply Del.there)) (fun w hw => hw.slF (by assumption)) Try.underlying31 HLF.info51 (by rfl) (by rfl) (by (try simp only [List.length_cons, List.length_nil, List.length_append, List.length_take]); omega) (by unfold maxLen; (try simp only [List.length_cons, List.length_nil, List.length_append, List.length_take]); omega) rfl (fun V4 => ?_) | refine Tr.ownNil _ _ (Tr.appendOf rfl rfl (by repeat (first | exact Del.here _ | apply Del.there)) (fun w hw => hw.slF (by assumption)) Try.underlying31 HLF.info51 (by rfl) (by rfl) (by (try simp only [List.length_cons, List.length_nil, List.length_append, List.length_take]); omega) (by unfold maxLen; (try simp only [List.length_cons, List.length_nil, List.length_append, List.length_take]); omega) rfl (fun V4 => ?_)) | refine Tr.appendOf rfl rfl (by repeat (first | exact Del.here _ | apply Del.there)) (fun w hw => hw.row (by repeat (first | exact List.Mem.head _ | apply List.Mem.tail))) Try.underlying31 HLF.info51 (by rfl) (by rfl) (by (try simp only [List.length_cons, List.length_nil, List.length_append, List.length_take]); omega) (by unfold maxLen; (try simp only [List.length_cons, List.length_nil, List.length_append, List.length_take]); omega) rfl (fun V4 => ?_)
    refine Tr.q (QS.assign rfl) rfl ?_
    refine Tr.nil ?_
    refine Tr.inN ?_
    refine Tr.thenN ?_
    refine Tr.region ?_
    first | refine Tr.q (QS.addI rfl rfl (by omega)) rfl ?_ | refine Tr.q (QS.add rfl rfl) rfl ?_
    refine Tr.q (QS.move rfl) rfl ?_
    refine Tr.nil ?_
    refine Tr.thenN ?_
    have htk : (l.take (k + 1)).map spaceP = (l.take k).map spaceP ++ [spaceP (l.getD k default)] := by rw [take_succ (by omega), List.map_append]; rfl
    rw [← htk]
    apply Tr.again (k + 1, _)
    · exact rfl
    · exact (.cons (by first | rfl | exact lookI rfl (by omega) | exact lookI rfl (by simp) | exact lookB rfl (by simp)) (.cons (by first | rfl | exact lookI rfl (by omega) | exact lookI rfl (by simp) | exact lookB rfl (by simp)) Front.nil))
    · exact SubX.dropN 14 (by kernel_rfl) rfl
    · exact (by repeat' (first | exact Pick.nil _ | exact Del.here _ | apply Pick.cons | apply Del.there))
    · exact (by show k + 1 ≤ _; omega)
    · exact (by (try dsimp only); omega)
  · try simp only [bs] at h1
    refine Tr.exit ?_
    refine Tr.thenE ?_
    refine Tr.thenE ?_
    refine Tr.inHit ?_
    refine Tr.thenN ?_
    refine Tr.seq ?_
    rw [show l.take k = l from List.take_of_length_le (by omega)]
    refine Tr.region ?_
    refine Tr.q (QS.move rfl) rfl ?_
    refine Tr.callRow rfl Try.call24 (fun w hw => normal_any (l.map spaceP) _ w (hw.row (.head _)) (by rw [List.length_map]; omega)) rfl (fun V5 => ?_)
    refine Tr.q (QS.assign rfl) rfl ?_
    refine Tr.nil ?_
    refine Tr.thenN ?_
    refine Tr.ret ?_
    refine Tr.ret1 Try.results42 rfl (fun w' hw => ?_)
    exact ⟨_, rfl, hw.below (Bg.le.refl _), hw.new (.head _)⟩

set_option maxRecDepth 100000 in
set_option maxHeartbeats 2000000 in
theorem check_sec (l : List SecV) (V : Value) (w : World) (hV : Sl (hp w) encSec l V) (hB : SecB l) (hN : ∀ s ∈ l, s.name.size ≤ 9223372036854775807) :
    Calls Try.prog 50 #[V] w (fun e w' => e = .returned (.int .i64 (checkS l)) ∧ Ext w w') := by
  have hV' : Sl (Bg.of w).blk encSec l V := hV
  have hlen := hB.1
  refine enter Try.func50 rfl Try.ntmps50 rfl ?_
  refine Tr.seq ?_
  refine Tr.region ?_
  refine Tr.q (QS.assign rfl) rfl ?_
  refine Tr.nil ?_
  refine Tr.thenN ?_
  refine Tr.seq ?_
  refine Tr.seq ?_
  refine Tr.region ?_
  refine Tr.q (QS.move rfl) rfl ?_
  first | refine Tr.q (QS.len rfl (by assumption) Try.underlying53) rfl ?_ | refine Tr.q (QS.lenRow rfl (by repeat (first | exact List.Mem.head _ | apply List.Mem.tail)) Try.underlying53) rfl ?_ | refine Tr.q (QS.lenNil rfl Try.underlying53) rfl ?_
  refine Tr.q (QS.gtr rfl rfl) rfl ?_
  refine Tr.nil ?_
  refine Tr.thenN ?_
  refine Tr.cond rfl (fun h1 => ?_) (fun h1 => ?_)
  · try simp only [bs] at h1
    refine Tr.seq ?_
    refine Tr.region ?_
    refine Tr.q (QS.assign rfl) rfl ?_
    refine Tr.nil ?_
    refine Tr.thenN ?_
    refine Tr.ret ?_
    refine Tr.thenR ?_
    refine Tr.ret1 Try.results50 rfl (fun w' hw => ?_)
    exact ⟨by rw [check_0 (by assumption)], hw.below (Bg.le.refl _)⟩
  · try simp only [bs] at h1
    refine Tr.skip ?_
    refine Tr.thenN ?_
    refine Tr.seq ?_
    refine Tr.seq ?_
    refine Tr.region ?_
    refine Tr.q (QS.move rfl) rfl ?_
    first | refine Tr.q (QS.len rfl (by assumption) Try.underlying53) rfl ?_ | refine Tr.q (QS.lenRow rfl (by repeat (first | exact List.Mem.head _ | apply List.Mem.tail)) Try.underlying53) rfl ?_ | refine Tr.q (QS.lenNil rfl Try.underlying53) rfl ?_
    refine Tr.q (QS.move rfl) rfl ?_
    refine Tr.nil ?_
    refine Tr.thenN ?_
    refine Tr.block ?_
    refine Tr.loop (ι := Nat) (fun k => k ≤ l.length ∧ firstP (oneP l) k (l.length - k) = firstP (oneP l) 0 l.length) (fun _ => _) (fun k => []) (fun k => [(13, .int .i64 (k : Nat))]) (fun k => l.length - k) 0 ⟨Nat.zero_le _, rfl⟩ (.cons (by first | rfl | exact lookI rfl (by omega) | exact lookI rfl (by simp) | exact lookB rfl (by simp)) Front.nil) (by repeat' (first | exact Pick.nil _ | exact Del.here _ | apply Pick.cons | apply Del.there)) rfl (fun k hi m hm => ?_)
    replace hi : k ≤ l.length ∧ firstP (oneP l) k (l.length - k) = firstP (oneP l) 0 l.length := hi
    replace hm : m = l.length - k := hm
    change Tr _ _ [] ([(13, .int .i64 (k : Nat))] ++ _) _
    obtain ⟨hk1, hk2⟩ := hi
    have hadr := (l.getD k default).addr.toNat_lt
    have hdk : k < l.length → (l.getD k default).data.length ≤ 200000 := fun q => hB.at q
    refine Tr.seq ?_
    refine Tr.region ?_
    refine Tr.q (QS.lss rfl rfl) rfl ?_
    refine Tr.nil ?_
    refine Tr.thenN ?_
    refine Tr.seq ?_
    refine Tr.cond rfl (fun h2 => ?_) (fun h2 => ?_)
    · try simp only [bs] at h2
      refine Tr.skip ?_
      refine Tr.thenN ?_
      refine Tr.seq ?_
      refine Tr.block ?_
      refine Tr.seq ?_
      refine Tr.region ?_
      refine Tr.q (QS.move rfl) rfl ?_
      first | refine Tr.q (QS.idxN rfl rfl (by assumption) Try.underlying53 Try.sizeOf81 (by rfl) (by omega)) rfl ?_ | refine Tr.q (QS.idxRowN rfl rfl (by repeat (first | exact List.Mem.head _ | apply List.Mem.tail)) Try.underlying53 Try.sizeOf81 (by rfl) (by omega)) rfl ?_ | refine Tr.q (QS.idx rfl rfl (by assumption) Try.underlying53 Try.sizeOf81 (by rfl) (by omega)) rfl ?_ | refine Tr.q (QS.idxRow rfl rfl (by repeat (first | exact List.Mem.head _ | apply List.Mem.tail)) Try.underlying53 Try.sizeOf81 (by rfl) (by omega)) rfl ?_
      first | refine Tr.q (QS.elA rfl (by assumption) Try.isAgg81 Try.sizeOf81 (by rfl) (by omega)) rfl ?_ | refine Tr.q (QS.elRA rfl (by repeat (first | exact List.Mem.head _ | apply List.Mem.tail)) Try.isAgg81 Try.sizeOf81 (by rfl) (by omega)) rfl ?_
      refine Tr.alloc Try.zeroValue81 rfl rfl (fun b3 => ?_)
      refine Tr.q (QS.assign rfl) rfl ?_
      refine Tr.storeW rfl rfl Try.sizeOf81 (by repeat (first | exact Put.here _ | apply Put.there)) (by rfl) (by rfl) (by first | exact List.all_eq_true.1 rfl | exact Enc.one _ _ | exact Enc.one encSec _) rfl ?_
      refine Tr.nil ?_
      refine Tr.thenN ?_
      refine Tr.seq ?_
      refine Tr.region ?_
      refine Tr.q (QS.move rfl) rfl ?_
      refine Tr.q (QS.move rfl) rfl ?_
      first | refine Tr.q (QS.slice (lv := none) (hv := some (_, _)) rfl (by assumption) rfl rfl Try.underlying53 Try.sizeOf81 (by rfl) (by simp only [loOf, hiOf] <;> first | omega | assumption | (simp only [NatCast.natCast, Int.ofNat_eq_natCast]; omega)) (by simp only [loOf, hiOf] <;> first | omega | assumption | (simp only [NatCast.natCast, Int.ofNat_eq_natCast]; omega)) (by simp only [loOf, hiOf] <;> first | omega | assumption | (simp only [NatCast.natCast, Int.ofNat_eq_natCast]; omega))) rfl ?_ | refine Tr.q (QS.sliceRow (lv := none) (hv := some (_, _)) rfl (by repeat (first | exact List.Mem.head _ | apply List.Mem.tail)) rfl rfl Try.underlying53 Try.sizeOf81 (by rfl) (by simp only [loOf, hiOf] <;> first | omega | assumption | (simp only [NatCast.natCast, Int.ofNat_eq_natCast]; omega)) (by simp only [loOf, hiOf] <;> first | omega | assumption | (simp only [NatCast.natCast, Int.ofNat_eq_natCast]; omega)) (by simp only [loOf, hiOf] <;> first | omega | assumption | (simp only [NatCast.natCast, Int.ofNat_eq_natCast]; omega))) rfl ?_
      refine Tr.q (QS.makeFunc rfl rfl) rfl ?_
      refine Tr.q (QS.call rfl Try.call77 (fun w hw => containsFunc_sec (l.take k) _ _ _ w (Sl.resl (l := 0) (h := k) (hw.slF hV) (by omega) (by omega)) Try.call78 (fun x => decide (x.name = (l.getD k default).name)) (fun x hx w'' h => check1_any x (l.getD k default) _ w'' (cellE.cellsIn (hw.ent _ (.head _)) h)))) rfl ?_
      refine Tr.q (QS.assign rfl) rfl ?_
      refine Tr.nil ?_
      refine Tr.thenN ?_
      refine Tr.block ?_
      refine Tr.seq ?_
      refine Tr.region ?_
      refine Tr.q (QS.fieldAddr (off := 2) (ft := 22) rfl Try.underlying81 rfl rfl Try.sizeOf22 (by decide)) rfl ?_
      refine Tr.q (QS.lV rfl Try.isAgg22) rfl ?_
      first | refine Tr.q (QS.len rfl (by assumption) Try.underlying22) rfl ?_ | refine Tr.q (QS.lenRow rfl (by repeat (first | exact List.Mem.head _ | apply List.Mem.tail)) Try.underlying22) rfl ?_ | refine Tr.q (QS.lenNil rfl Try.underlying22) rfl ?_
      refine Tr.q (QS.gtr rfl rfl) rfl ?_
      refine Tr.q (QS.assign rfl) rfl ?_
      refine Tr.nil ?_
      refine Tr.thenN ?_
      refine Tr.cond rfl (fun h4 => ?_) (fun h4 => ?_)
      · try simp only [bs] at h4
        refine Tr.seq ?_
        refine Tr.region ?_
        refine Tr.q (QS.assign rfl) rfl ?_
        refine Tr.nil ?_
        refine Tr.thenN ?_
        refine Tr.ret ?_
        refine Tr.inR ?_
        refine Tr.inR ?_
        refine Tr.thenR ?_
        refine Tr.thenR ?_
        refine Tr.inR ?_
        refine Tr.thenR ?_
        refine Tr.ret1 Try.results50 rfl (fun w' hw => ?_)
        exact ⟨by rw [check_1 (v := 6) (by assumption) (by omega) hk2 (by unfold oneP; dsimp only; rw [if_pos (by assumption)]) (by decide)], hw.below (Bg.le.refl _)⟩
      · try simp only [bs] at h4
        refine Tr.seq ?_
        refine Tr.region ?_
        refine Tr.q (QS.fieldAddr (off := 0) (ft := 9) rfl Try.underlying81 rfl rfl Try.sizeOf9 (by decide)) rfl ?_
        refine Tr.q (QS.lV rfl Try.isAgg9) rfl ?_
        refine Tr.q (QS.call rfl Try.call79 (fun w hw => name_any (l.getD k default).name w (hN _ (mem_getD (by omega))))) rfl ?_
        refine Tr.q (QS.not rfl) rfl ?_
        refine Tr.q (QS.assign rfl) rfl ?_
        refine Tr.nil ?_
        refine Tr.thenN ?_
        refine Tr.cond rfl (fun h5 => ?_) (fun h5 => ?_)
        · try simp only [bs] at h5
          refine Tr.seq ?_
          refine Tr.region ?_
          refine Tr.q (QS.assign rfl) rfl ?_
          refine Tr.nil ?_
          refine Tr.thenN ?_
          refine Tr.ret ?_
          refine Tr.inR ?_
          refine Tr.inR ?_
          refine Tr.thenR ?_
          refine Tr.thenR ?_
          refine Tr.inR ?_
          refine Tr.thenR ?_
          refine Tr.ret1 Try.results50 rfl (fun w' hw => ?_)
          exact ⟨by rw [check_1 (v := 3) (by assumption) (by omega) hk2 (by unfold oneP; dsimp only; rw [if_neg (by assumption), if_pos (by assumption)]) (by decide)], hw.below (Bg.le.refl _)⟩
        · try simp only [bs] at h5
          refine Tr.seq ?_
          refine Tr.region ?_
          refine Tr.q (QS.move rfl) rfl ?_
          refine Tr.q (QS.assign rfl) rfl ?_
          refine Tr.nil ?_
          refine Tr.thenN ?_
          refine Tr.cond rfl (fun h6 => ?_) (fun h6 => ?_)
          · try simp only [bs] at h6
            refine Tr.seq ?_
            refine Tr.region ?_
            refine Tr.q (QS.assign rfl) rfl ?_
            refine Tr.nil ?_
            refine Tr.thenN ?_
            refine Tr.ret ?_
            refine Tr.inR ?_
            refine Tr.inR ?_
            refine Tr.thenR ?_
            refine Tr.thenR ?_
            refine Tr.inR ?_
            refine Tr.thenR ?_
            refine Tr.ret1 Try.results50 rfl (fun w' hw => ?_)
            exact ⟨by rw [check_1 (v := 8) (by assumption) (by omega) hk2 (by unfold oneP; dsimp only; rw [if_neg (by assumption), if_neg (by simp_all), if_pos (by assumption)]) (by decide)], hw.below (Bg.le.refl _)⟩
          · try simp only [bs] at h6
            refine Tr.seq ?_
            refine Tr.region ?_
            refine Tr.q (QS.fieldAddr (off := 1) (ft := 23) rfl Try.underlying81 rfl rfl Try.sizeOf23 (by decide)) rfl ?_
            refine Tr.q (QS.lV rfl Try.isAgg23) rfl ?_
            refine Tr.q (QS.cvt32toU rfl Try.underlying23 Try.underlying82) rfl ?_
            refine Tr.q (QS.fieldAddr (off := 2) (ft := 22) rfl Try.underlying81 rfl rfl Try.sizeOf22 (by decide)) rfl ?_
            refine Tr.q (QS.lV rfl Try.isAgg22) rfl ?_
            first | refine Tr.q (QS.len rfl (by assumption) Try.underlying22) rfl ?_ | refine Tr.q (QS.lenRow rfl (by repeat (first | exact List.Mem.head _ | apply List.Mem.tail)) Try.underlying22) rfl ?_ | refine Tr.q (QS.lenNil rfl Try.underlying22) rfl ?_
            first | refine Tr.q (QS.cvtIn rfl Try.underlying3 Try.underlying82 (IntWalk.u64_in _ (by omega))) rfl ?_ | refine Tr.q (QS.cvt rfl Try.underlying3 Try.underlying82) rfl ?_
            first | refine Tr.q (QS.addU rfl rfl (by omega)) rfl ?_ | refine Tr.q (QS.add rfl rfl) rfl ?_
            refine Tr.q (QS.gtr rfl rfl) rfl ?_
            refine Tr.q (QS.move rfl) rfl ?_
            apply Tr.orP
            · exact (rfl : _ = (5, 45, 50))
            · exact rfl
            · intro hF7; have hF7' := hF7
              try simp only [bs] at hF7'
              refine Tr.gq rfl rfl hF7 (QS.lW rfl Try.isAgg81 Try.sizeOf81) rfl ?_
              refine Tr.gq rfl rfl hF7 (QS.call rfl Try.call69 (fun w hw => space_any (l.getD k default) w (hB.at (by omega)))) rfl ?_
              refine Tr.gq rfl rfl hF7 (QS.call rfl Try.call67 (fun w hw => stack_any w)) rfl ?_
              refine Tr.gq rfl rfl hF7 (QS.call rfl Try.call80 (fun w hw => meet_any (spaceP (l.getD k default)) stackP w)) rfl ?_
              refine Tr.q (QS.pickF rfl hF7 rfl) rfl ?_
              refine Tr.nil (Tr.thenN ?_)
              exact Tr.endX (Sub.cons rfl (Sub.dropN 5 (by kernel_rfl) rfl))
            · intro hT7
              refine Tr.gskip rfl rfl hT7 rfl ?_
              refine Tr.gskip rfl rfl hT7 rfl ?_
              refine Tr.gskip rfl rfl hT7 rfl ?_
              refine Tr.gskip rfl rfl hT7 rfl ?_
              refine Tr.q (QS.pickT rfl hT7 rfl) rfl ?_
              refine Tr.nil (Tr.thenN ?_)
              exact Tr.endX (Sub.cons rfl (Sub.dropN 5 (by kernel_rfl) rfl))
            refine Tr.q (QS.assign rfl) rfl ?_
            refine Tr.nil ?_
            refine Tr.thenN ?_
            refine Tr.cond rfl (fun h8 => ?_) (fun h8 => ?_)
            · try simp only [bs] at h8
              refine Tr.seq ?_
              refine Tr.region ?_
              refine Tr.q (QS.assign rfl) rfl ?_
              refine Tr.nil ?_
              refine Tr.thenN ?_
              refine Tr.ret ?_
              refine Tr.inR ?_
              refine Tr.inR ?_
              refine Tr.thenR ?_
              refine Tr.thenR ?_
              refine Tr.inR ?_
              refine Tr.thenR ?_
              refine Tr.ret1 Try.results50 rfl (fun w' hw => ?_)
              exact ⟨by rw [check_1 (v := 7) (by assumption) (by omega) hk2 (by unfold oneP; dsimp only; rw [if_neg (by assumption), if_neg (by simp_all), if_neg (by simp_all), if_pos (by assumption)]) (by decide)], hw.below (Bg.le.refl _)⟩
            · try simp only [bs] at h8
              refine Tr.skip ?_
              refine Tr.inN ?_
              refine Tr.inN ?_
              refine Tr.thenN ?_
              refine Tr.region ?_
              first | refine Tr.q (QS.addI rfl rfl (by omega)) rfl ?_ | refine Tr.q (QS.add rfl rfl) rfl ?_
              refine Tr.q (QS.move rfl) rfl ?_
              refine Tr.nil ?_
              refine Tr.thenN ?_
              have hz : oneP l k = 0 := by unfold oneP; dsimp only; rw [if_neg (by assumption), if_neg (by simp_all), if_neg (by simp_all), if_neg (by simp_all)]
              apply Tr.again (k + 1)
              · exact rfl
              · exact (.cons (by first | rfl | exact lookI rfl (by omega) | exact lookI rfl (by simp) | exact lookB rfl (by simp)) Front.nil)
              · exact SubX.dropN 39 (by kernel_rfl) rfl
              · exact (by repeat' (first | exact Pick.nil _ | exact Del.here _ | apply Pick.cons | apply Del.there))
              · exact ⟨by omega, by rw [firstP_next (by omega) hz, hk2]⟩
              · exact (by (try dsimp only); omega)
    · try simp only [bs] at h2
      refine Tr.exit ?_
      refine Tr.thenE ?_
      refine Tr.thenE ?_
      refine Tr.inHit ?_
      refine Tr.thenN ?_
      refine Tr.seq ?_
      refine Tr.seq ?_
      refine Tr.region ?_
      refine Tr.q (QS.move rfl) rfl ?_
      first | refine Tr.q (QS.len rfl (by assumption) Try.underlying53) rfl ?_ | refine Tr.q (QS.lenRow rfl (by repeat (first | exact List.Mem.head _ | apply List.Mem.tail)) Try.underlying53) rfl ?_ | refine Tr.q (QS.lenNil rfl Try.underlying53) rfl ?_
      refine Tr.q (QS.move rfl) rfl ?_
      refine Tr.nil ?_
      refine Tr.thenN ?_
      refine Tr.block ?_
      have hz1 : firstP (oneP l) 0 l.length = 0 := by rw [← hk2]; exact firstP_zero (by omega)
      clear hk2 hk1 hm hadr hdk
      refine Tr.loop (ι := Nat) (fun k => k ≤ l.length ∧ firstP (fun i => if overP l i = true then 10 else 0) k (l.length - k) = firstP (fun i => if overP l i = true then 10 else 0) 0 l.length) (fun _ => _) (fun k => []) (fun k => [(54, .int .i64 (k : Nat))]) (fun k => l.length - k) 0 ⟨Nat.zero_le _, rfl⟩ (.cons (by first | rfl | exact lookI rfl (by omega) | exact lookI rfl (by simp) | exact lookB rfl (by simp)) Front.nil) (by repeat' (first | exact Pick.nil _ | exact Del.here _ | apply Pick.cons | apply Del.there)) rfl (fun k hi m hm => ?_)
      replace hi : k ≤ l.length ∧ firstP (fun i => if overP l i = true then 10 else 0) k (l.length - k) = firstP (fun i => if overP l i = true then 10 else 0) 0 l.length := hi
      replace hm : m = l.length - k := hm
      change Tr _ _ [] ([(54, .int .i64 (k : Nat))] ++ _) _
      obtain ⟨hk1, hk2⟩ := hi
      refine Tr.seq ?_
      refine Tr.region ?_
      refine Tr.q (QS.lss rfl rfl) rfl ?_
      refine Tr.nil ?_
      refine Tr.thenN ?_
      refine Tr.seq ?_
      refine Tr.cond rfl (fun h9 => ?_) (fun h9 => ?_)
      · try simp only [bs] at h9
        refine Tr.skip ?_
        refine Tr.thenN ?_
        refine Tr.seq ?_
        refine Tr.block ?_
        refine Tr.seq ?_
        refine Tr.region ?_
        refine Tr.q (QS.move rfl) rfl ?_
        first | refine Tr.q (QS.idxN rfl rfl (by assumption) Try.underlying53 Try.sizeOf81 (by rfl) (by omega)) rfl ?_ | refine Tr.q (QS.idxRowN rfl rfl (by repeat (first | exact List.Mem.head _ | apply List.Mem.tail)) Try.underlying53 Try.sizeOf81 (by rfl) (by omega)) rfl ?_ | refine Tr.q (QS.idx rfl rfl (by assumption) Try.underlying53 Try.sizeOf81 (by rfl) (by omega)) rfl ?_ | refine Tr.q (QS.idxRow rfl rfl (by repeat (first | exact List.Mem.head _ | apply List.Mem.tail)) Try.underlying53 Try.sizeOf81 (by rfl) (by omega)) rfl ?_
        first | refine Tr.q (QS.elA rfl (by assumption) Try.isAgg81 Try.sizeOf81 (by rfl) (by omega)) rfl ?_ | refine Tr.q (QS.elRA rfl (by repeat (first | exact List.Mem.head _ | apply List.Mem.tail)) Try.isAgg81 Try.sizeOf81 (by rfl) (by omega)) rfl ?_
        refine Tr.alloc Try.zeroValue81 rfl rfl (fun b10 => ?_)
        refine Tr.q (QS.assign rfl) rfl ?_
        refine Tr.storeW rfl rfl Try.sizeOf81 (by repeat (first | exact Put.here _ | apply Put.there)) (by rfl) (by rfl) (by first | exact List.all_eq_true.1 rfl | exact Enc.one _ _ | exact Enc.one encSec _) rfl ?_
        refine Tr.nil ?_
        refine Tr.thenN ?_
        refine Tr.seq ?_
        refine Tr.region ?_
        refine Tr.q (QS.move rfl) rfl ?_
        refine Tr.q (QS.move rfl) rfl ?_
        first | refine Tr.q (QS.slice (lv := none) (hv := some (_, _)) rfl (by assumption) rfl rfl Try.underlying53 Try.sizeOf81 (by rfl) (by simp only [loOf, hiOf] <;> first | omega | assumption | (simp only [NatCast.natCast, Int.ofNat_eq_natCast]; omega)) (by simp only [loOf, hiOf] <;> first | omega | assumption | (simp only [NatCast.natCast, Int.ofNat_eq_natCast]; omega)) (by simp only [loOf, hiOf] <;> first | omega | assumption | (simp only [NatCast.natCast, Int.ofNat_eq_natCast]; omega))) rfl ?_ | refine Tr.q (QS.sliceRow (lv := none) (hv := some (_, _)) rfl (by repeat (first | exact List.Mem.head _ | apply List.Mem.tail)) rfl rfl Try.underlying53 Try.sizeOf81 (by rfl) (by simp only [loOf, hiOf] <;> first | omega | assumption | (simp only [NatCast.natCast, Int.ofNat_eq_natCast]; omega)) (by simp only [loOf, hiOf] <;> first | omega | assumption | (simp only [NatCast.natCast, Int.ofNat_eq_natCast]; omega)) (by simp only [loOf, hiOf] <;> first | omega | assumption | (simp only [NatCast.natCast, Int.ofNat_eq_natCast]; omega))) rfl ?_
        refine Tr.q (QS.makeFunc rfl rfl) rfl ?_
        refine Tr.q (QS.call rfl Try.call77 (fun w hw => containsFunc_sec (l.take k) _ _ _ w (Sl.resl (l := 0) (h := k) (hw.slF hV) (by omega) (by omega)) Try.call81 (fun x => meetP (spaceP x) (spaceP (l.getD k default))) (fun x hx w'' h => check2_any x (l.getD k default) _ w'' (cellE.cellsIn (hw.ent _ (.head _)) h) (hB.2 x (List.mem_of_mem_take hx)) (hB.at (by omega))))) rfl ?_
        refine Tr.nil ?_
        refine Tr.thenN ?_
        refine Tr.cond rfl (fun h11 => ?_) (fun h11 => ?_)
        · try simp only [bs] at h11
          refine Tr.seq ?_
          refine Tr.region ?_
          refine Tr.q (QS.assign rfl) rfl ?_
          refine Tr.nil ?_
          refine Tr.thenN ?_
          refine Tr.ret ?_
          refine Tr.inR ?_
          refine Tr.thenR ?_
          refine Tr.thenR ?_
          refine Tr.inR ?_
          refine Tr.thenR ?_
          refine Tr.ret1 Try.results50 rfl (fun w' hw => ?_)
          exact ⟨by rw [check_2 (k := k) (by assumption) hz1 (by omega) hk2 (by assumption)], hw.below (Bg.le.refl _)⟩
        · try simp only [bs] at h11
          refine Tr.skip ?_
          refine Tr.inN ?_
          refine Tr.thenN ?_
          refine Tr.region ?_
          first | refine Tr.q (QS.addI rfl rfl (by omega)) rfl ?_ | refine Tr.q (QS.add rfl rfl) rfl ?_
          refine Tr.q (QS.move rfl) rfl ?_
          refine Tr.nil ?_
          refine Tr.thenN ?_
          have hz : overP l k = false := by assumption
          apply Tr.again (k + 1)
          · exact rfl
          · exact (.cons (by first | rfl | exact lookI rfl (by omega) | exact lookI rfl (by simp) | exact lookB rfl (by simp)) Front.nil)
          · exact SubX.dropN 14 (by kernel_rfl) rfl
          · exact (by repeat' (first | exact Pick.nil _ | exact Del.here _ | apply Pick.cons | apply Del.there))
          · exact ⟨by omega, by rw [firstP_next (by omega) (by rw [if_neg (by rw [hz]; decide)]), hk2]⟩
          · exact (by (try dsimp only); omega)
      · try simp only [bs] at h9
        refine Tr.exit ?_
        refine Tr.thenE ?_
        refine Tr.thenE ?_
        refine Tr.inHit ?_
        refine Tr.thenN ?_
        refine Tr.seq ?_
        refine Tr.region ?_
        refine Tr.q (QS.assign rfl) rfl ?_
        refine Tr.nil ?_
        refine Tr.thenN ?_
        refine Tr.ret ?_
        refine Tr.ret1 Try.results50 rfl (fun w' hw => ?_)
        exact ⟨by rw [check_3 (by assumption) hz1 (by rw [← hk2]; exact firstP_zero (by omega))], hw.below (Bg.le.refl _)⟩

set_option maxRecDepth 100000 in
set_option maxHeartbeats 2000000 in
theorem up_any (a : Int) (w : World) (ha : 0 ≤ a ∧ a ≤ 4294967295) :
    Calls Try.prog 66 #[.int .u64 a] w (fun e w' => e = .returned (.int .u64 (upP a)) ∧ Ext w w') := by
  refine enter Try.func66 rfl Try.ntmps66 rfl ?_
  refine Tr.seq ?_
  refine Tr.region ?_
  refine Tr.q (QS.assign rfl) rfl ?_
  refine Tr.nil ?_
  refine Tr.thenN ?_
  refine Tr.seq ?_
  refine Tr.region ?_
  refine Tr.q (QS.move rfl) rfl ?_
  first | refine Tr.q (QS.addU rfl rfl (by omega)) rfl ?_ | refine Tr.q (QS.add rfl rfl) rfl ?_
  first | refine Tr.q (QS.subU rfl rfl (by omega)) rfl ?_ | refine Tr.q (QS.sub rfl rfl) rfl ?_
  refine Tr.q (QS.quoU rfl rfl (by omega)) rfl ?_
  first | refine Tr.q (QS.mulU rfl rfl (by omega)) rfl ?_ | refine Tr.q (QS.mul rfl rfl) rfl ?_
  refine Tr.q (QS.assign rfl) rfl ?_
  refine Tr.nil ?_
  refine Tr.thenN ?_
  refine Tr.ret ?_
  refine Tr.ret1 Try.results66 rfl (fun w' hw => ?_)
  exact ⟨rfl, hw.below (Bg.le.refl _)⟩

set_option maxRecDepth 100000 in
set_option maxHeartbeats 2000000 in
theorem free_any (l : List SecV) (V : Value) (n : Int) (from_ : UInt32) (w : World) (hV : Sl (hp w) encSec l V) (hB : SecB l) (hn : n ≤ 9223372036854775807) :
    Calls Try.prog 40 #[V, .int .i64 n, .int .u32 from_.toNat] w (fun e w' => e = .returned (.tuple #[.int .u32 (freeP l n from_).1.toNat, .int .i64 (freeP l n from_).2]) ∧ Ext w w') := by
  have hV' : Sl (Bg.of w).blk encSec l V := hV
  have hlen := hB.1
  have hfr := from_.toNat_lt
  have hup := upP_u32 from_
  have htl : (takenP l).length ≤ 1001 := by have h1 := normalP_len (normalP (l.map spaceP) ++ [stackP]); have h2 := normalP_len (l.map spaceP); rw [List.length_append, List.length_map] at *; unfold takenP; simp only [List.length_cons, List.length_nil] at h1; omega
  obtain ⟨tk, htk⟩ : ∃ tk, tk = takenP l := ⟨_, rfl⟩
  rw [← htk] at htl
  refine enter Try.func40 rfl Try.ntmps40 rfl ?_
  refine Tr.seq ?_
  refine Tr.region ?_
  refine Tr.q (QS.assign rfl) rfl ?_
  refine Tr.q (QS.assign rfl) rfl ?_
  refine Tr.nil ?_
  refine Tr.thenN ?_
  refine Tr.seq ?_
  refine Tr.seq ?_
  refine Tr.region ?_
  refine Tr.q (QS.move rfl) rfl ?_
  refine Tr.q (QS.lss rfl rfl) rfl ?_
  refine Tr.nil ?_
  refine Tr.thenN ?_
  refine Tr.cond rfl (fun h1 => ?_) (fun h1 => ?_)
  · try simp only [bs] at h1
    refine Tr.seq ?_
    refine Tr.region ?_
    refine Tr.q (QS.assign rfl) rfl ?_
    refine Tr.q (QS.assign rfl) rfl ?_
    refine Tr.nil ?_
    refine Tr.thenN ?_
    refine Tr.ret ?_
    refine Tr.thenR ?_
    refine Tr.ret2 Try.results40 rfl rfl (fun w' hw => ?_)
    exact ⟨by rw [freeP_1 (by assumption)]; rfl, hw.below (Bg.le.refl _)⟩
  · try simp only [bs] at h1
    refine Tr.skip ?_
    refine Tr.thenN ?_
    refine Tr.seq ?_
    refine Tr.region ?_
    refine Tr.q (QS.assign rfl) rfl ?_
    refine Tr.nil ?_
    refine Tr.thenN ?_
    refine Tr.seq ?_
    refine Tr.region ?_
    refine Tr.q (QS.move rfl) rfl ?_
    refine Tr.callRow rfl Try.call42 (fun w hw => ranges_any l V w (hw.slF hV) hB) rfl (fun V2 => ?_)
    refine Tr.q (QS.call rfl Try.call67 (fun w hw => stack_any w)) rfl ?_
    refine Tr.lit1 (E := encRng) stackP rfl rfl Try.underlying31 Try.sizeOf51 Try.zeroValue51 (by rfl) (by rfl) rfl (fun V3 => ?_)
    refine Tr.callRow rfl Try.call34 (fun w hw => union_any (normalP (l.map spaceP)) [stackP] _ _ w (hw.row (.tail _ (.head _))) (hw.row (.head _)) (by have h2 := normalP_len (l.map spaceP); rw [List.length_map] at h2; omega) (by simp)) rfl (fun V4 => ?_)
    refine Tr.q (QS.assign rfl) rfl ?_
    refine Tr.nil ?_
    refine Tr.thenN ?_
    refine Tr.seq ?_
    rw [show normalP (normalP (l.map spaceP) ++ [stackP]) = tk from htk.symm]
    refine Tr.region ?_
    refine Tr.q (QS.move rfl) rfl ?_
    refine Tr.q (QS.move rfl) rfl ?_
    refine Tr.q (QS.cvt32toU rfl Try.underlying23 Try.underlying82) rfl ?_
    refine Tr.q (QS.callV rfl rfl Try.call66 (fun w hw => up_any _ w (by omega))) rfl ?_
    refine Tr.q (QS.assign rfl) rfl ?_
    refine Tr.nil ?_
    refine Tr.thenN ?_
    refine Tr.seqJ (ι := Int) (fun at2 => at2 = freeF n tk (upP from_.toNat) ∧ (0 ≤ at2 ∧ at2 ≤ 4294967311)) (fun _ => Bg.of w) (fun at2 => []) (fun at2 => [(10, .int .u64 at2)]) ?_ (fun at2 hi => ?_)
    · skip
      refine Tr.seq ?_
      refine Tr.region ?_
      refine Tr.q (QS.move rfl) rfl ?_
      first | refine Tr.q (QS.len rfl (by assumption) Try.underlying31) rfl ?_ | refine Tr.q (QS.lenRow rfl (by repeat (first | exact List.Mem.head _ | apply List.Mem.tail)) Try.underlying31) rfl ?_ | refine Tr.q (QS.lenNil rfl Try.underlying31) rfl ?_
      refine Tr.q (QS.move rfl) rfl ?_
      refine Tr.nil ?_
      refine Tr.thenN ?_
      refine Tr.block ?_
      refine Tr.loop (ι := Nat × Int) (fun ⟨k, at_⟩ => k ≤ tk.length ∧ (0 ≤ at_ ∧ at_ ≤ 4294967311) ∧ freeF n (tk.drop k) at_ = freeF n tk (upP from_.toNat)) (fun _ => _) (fun ⟨k, at_⟩ => [rowE V4 51 encRng tk]) (fun ⟨k, at_⟩ => [(26, .int .i64 (k : Nat)), (10, .int .u64 at_)]) (fun ⟨k, at_⟩ => tk.length - k) (0, upP from_.toNat) ⟨Nat.zero_le _, hup, rfl⟩ (.cons (by first | rfl | exact lookI rfl (by omega) | exact lookI rfl (by simp) | exact lookB rfl (by simp)) (.cons (by first | rfl | exact lookI rfl (by omega) | exact lookI rfl (by simp) | exact lookB rfl (by simp)) Front.nil)) (by repeat' (first | exact Pick.nil _ | exact Del.here _ | apply Pick.cons | apply Del.there)) rfl (fun i hi m hm => ?_)
      obtain ⟨k, at_⟩ := i
      replace hi : k ≤ tk.length ∧ (0 ≤ at_ ∧ at_ ≤ 4294967311) ∧ freeF n (tk.drop k) at_ = freeF n tk (upP from_.toNat) := hi
      replace hm : m = tk.length - k := hm
      change Tr _ _ [rowE V4 51 encRng tk] ([(26, .int .i64 (k : Nat)), (10, .int .u64 at_)] ++ _) _
      obtain ⟨hk1, hk2, hk3⟩ := hi
      have hrh := (tk.getD k default).hi.toNat_lt
      have hrl := (tk.getD k default).lo.toNat_lt
      have hur := upP_u32 (tk.getD k default).hi
      refine Tr.seq ?_
      refine Tr.region ?_
      refine Tr.q (QS.lss rfl rfl) rfl ?_
      refine Tr.nil ?_
      refine Tr.thenN ?_
      refine Tr.seq ?_
      refine Tr.cond rfl (fun h5 => ?_) (fun h5 => ?_)
      · try simp only [bs] at h5
        refine Tr.skip ?_
        refine Tr.thenN ?_
        refine Tr.seq ?_
        refine Tr.block ?_
        refine Tr.seq ?_
        refine Tr.region ?_
        first | refine Tr.q (QS.idxN rfl rfl (by assumption) Try.underlying31 Try.sizeOf51 (by rfl) (by omega)) rfl ?_ | refine Tr.q (QS.idxRowN rfl rfl (by repeat (first | exact List.Mem.head _ | apply List.Mem.tail)) Try.underlying31 Try.sizeOf51 (by rfl) (by omega)) rfl ?_ | refine Tr.q (QS.idx rfl rfl (by assumption) Try.underlying31 Try.sizeOf51 (by rfl) (by omega)) rfl ?_ | refine Tr.q (QS.idxRow rfl rfl (by repeat (first | exact List.Mem.head _ | apply List.Mem.tail)) Try.underlying31 Try.sizeOf51 (by rfl) (by omega)) rfl ?_
        first | refine Tr.q (QS.elA rfl (by assumption) Try.isAgg51 Try.sizeOf51 (by rfl) (by omega)) rfl ?_ | refine Tr.q (QS.elRA rfl (by repeat (first | exact List.Mem.head _ | apply List.Mem.tail)) Try.isAgg51 Try.sizeOf51 (by rfl) (by omega)) rfl ?_
        refine Tr.alloc Try.zeroValue51 rfl rfl (fun b6 => ?_)
        refine Tr.storeW rfl rfl Try.sizeOf51 (by repeat (first | exact Put.here _ | apply Put.there)) (by rfl) (by rfl) (by first | exact List.all_eq_true.1 rfl | exact Enc.one _ _ | exact Enc.one encRng _) rfl ?_
        refine Tr.nil ?_
        refine Tr.thenN ?_
        refine Tr.seq ?_
        refine Tr.seq ?_
        refine Tr.region ?_
        refine Tr.q (QS.fieldAddr (off := 1) (ft := 23) rfl Try.underlying51 rfl rfl Try.sizeOf23 (by decide)) rfl ?_
        refine Tr.q (QS.lV rfl Try.isAgg23) rfl ?_
        refine Tr.q (QS.cvt32toU rfl Try.underlying23 Try.underlying82) rfl ?_
        refine Tr.q (QS.move rfl) rfl ?_
        refine Tr.q (QS.leq rfl rfl) rfl ?_
        refine Tr.q (QS.move rfl) rfl ?_
        apply Tr.orP
        · exact (rfl : _ = (3, 35, 38))
        · exact rfl
        · intro hF7; have hF7' := hF7
          try simp only [bs] at hF7'
          refine Tr.gq rfl rfl hF7 (QS.move rfl) rfl ?_
          refine Tr.gq rfl rfl hF7 (QS.eql rfl rfl) rfl ?_
          refine Tr.q (QS.pickF rfl hF7 rfl) rfl ?_
          refine Tr.nil (Tr.thenN ?_)
          exact Tr.endX (Sub.cons rfl (Sub.dropN 3 (by kernel_rfl) rfl))
        · intro hT7
          refine Tr.gskip rfl rfl hT7 rfl ?_
          refine Tr.gskip rfl rfl hT7 rfl ?_
          refine Tr.q (QS.pickT rfl hT7 rfl) rfl ?_
          refine Tr.nil (Tr.thenN ?_)
          exact Tr.endX (Sub.cons rfl (Sub.dropN 3 (by kernel_rfl) rfl))
        refine Tr.nil ?_
        refine Tr.thenN ?_
        refine Tr.cond rfl (fun h8 => ?_) (fun h8 => ?_)
        · try simp only [bs] at h8
          refine Tr.exit ?_
          refine Tr.thenE ?_
          refine Tr.inHit ?_
          refine Tr.thenN ?_
          refine Tr.region ?_
          first | refine Tr.q (QS.addI rfl rfl (by omega)) rfl ?_ | refine Tr.q (QS.add rfl rfl) rfl ?_
          refine Tr.q (QS.move rfl) rfl ?_
          refine Tr.nil ?_
          refine Tr.thenN ?_
          apply Tr.again (k + 1, at_)
          · exact rfl
          · exact (.cons (by first | rfl | exact lookI rfl (by omega) | exact lookI rfl (by simp) | exact lookB rfl (by simp)) (.cons (by first | rfl | exact lookI rfl (by omega) | exact lookI rfl (by simp) | exact lookB rfl (by simp)) Front.nil))
          · exact SubX.dropN 15 (by kernel_rfl) rfl
          · exact (by repeat' (first | exact Pick.nil _ | exact Del.here _ | apply Pick.cons | apply Del.there))
          · exact ⟨by omega, hk2, by rw [← hk3, drop_cons (k := k) (by omega), freeF_skip (by assumption)]⟩
          · exact (by (try dsimp only); omega)
        · try simp only [bs] at h8
          refine Tr.skip ?_
          refine Tr.thenN ?_
          refine Tr.seq ?_
          refine Tr.seq ?_
          refine Tr.region ?_
          refine Tr.q (QS.move rfl) rfl ?_
          refine Tr.q (QS.move rfl) rfl ?_
          first | refine Tr.q (QS.cvtIn rfl Try.underlying3 Try.underlying82 (IntWalk.u64_in _ (by omega))) rfl ?_ | refine Tr.q (QS.cvt rfl Try.underlying3 Try.underlying82) rfl ?_
          first | refine Tr.q (QS.addU rfl rfl (by omega)) rfl ?_ | refine Tr.q (QS.add rfl rfl) rfl ?_
          refine Tr.q (QS.fieldAddr (off := 0) (ft := 23) rfl Try.underlying51 rfl rfl Try.sizeOf23 (by decide)) rfl ?_
          refine Tr.q (QS.lV rfl Try.isAgg23) rfl ?_
          refine Tr.q (QS.cvt32toU rfl Try.underlying23 Try.underlying82) rfl ?_
          refine Tr.q (QS.leq rfl rfl) rfl ?_
          refine Tr.nil ?_
          refine Tr.thenN ?_
          refine Tr.cond rfl (fun h9 => ?_) (fun h9 => ?_)
          · try simp only [bs] at h9
            refine Tr.exit ?_
            refine Tr.thenE ?_
            refine Tr.inMiss rfl ?_
            refine Tr.thenE ?_
            refine Tr.thenE ?_
            refine Tr.inHit ?_
            refine Tr.thenN ?_
            apply Tr.joined at_
            · exact rfl
            · exact (.cons (by first | rfl | exact lookI rfl (by omega) | exact lookI rfl (by simp) | exact lookB rfl (by simp)) Front.nil)
            · exact SubX.dropN 24 (by kernel_rfl) rfl
            · exact (by repeat' (first | exact Pick.nil _ | exact Del.here _ | apply Pick.cons | apply Del.there))
            · exact ⟨by rw [← hk3, drop_cons (k := k) (by omega), freeF_stop (by omega) (by assumption)], hk2⟩
          · try simp only [bs] at h9
            refine Tr.skip ?_
            refine Tr.thenN ?_
            refine Tr.region ?_
            refine Tr.q (QS.move rfl) rfl ?_
            refine Tr.q (QS.fieldAddr (off := 1) (ft := 23) rfl Try.underlying51 rfl rfl Try.sizeOf23 (by decide)) rfl ?_
            refine Tr.q (QS.lV rfl Try.isAgg23) rfl ?_
            refine Tr.q (QS.cvt32toU rfl Try.underlying23 Try.underlying82) rfl ?_
            refine Tr.q (QS.callV rfl rfl Try.call66 (fun w hw => up_any _ w (by omega))) rfl ?_
            refine Tr.q (QS.assign rfl) rfl ?_
            refine Tr.nil ?_
            refine Tr.inN ?_
            refine Tr.thenN ?_
            refine Tr.region ?_
            first | refine Tr.q (QS.addI rfl rfl (by omega)) rfl ?_ | refine Tr.q (QS.add rfl rfl) rfl ?_
            refine Tr.q (QS.move rfl) rfl ?_
            refine Tr.nil ?_
            refine Tr.thenN ?_
            apply Tr.again (k + 1, upP (tk.getD k default).hi.toNat)
            · exact rfl
            · exact (.cons (by first | rfl | exact lookI rfl (by omega) | exact lookI rfl (by simp) | exact lookB rfl (by simp)) (.cons (by first | rfl | exact lookI rfl (by omega) | exact lookI rfl (by simp) | exact lookB rfl (by simp)) Front.nil))
            · exact SubX.dropN 29 (by kernel_rfl) rfl
            · exact (by repeat' (first | exact Pick.nil _ | exact Del.here _ | apply Pick.cons | apply Del.there))
            · exact ⟨by omega, hur, by rw [← hk3, drop_cons (k := k) (by omega), freeF_go (by omega) (by assumption)]⟩
            · exact (by (try dsimp only); omega)
      · try simp only [bs] at h5
        refine Tr.exit ?_
        refine Tr.thenE ?_
        refine Tr.thenE ?_
        refine Tr.inHit ?_
        refine Tr.thenN ?_
        apply Tr.joined at_
        · exact rfl
        · exact (.cons (by first | rfl | exact lookI rfl (by omega) | exact lookI rfl (by simp) | exact lookB rfl (by simp)) Front.nil)
        · exact SubX.dropN 6 (by kernel_rfl) rfl
        · exact (by repeat' (first | exact Pick.nil _ | exact Del.here _ | apply Pick.cons | apply Del.there))
        · exact ⟨by rw [← hk3, List.drop_of_length_le (by omega)]; rfl, hk2⟩
    · skip
      replace hi : at2 = freeF n tk (upP from_.toNat) ∧ (0 ≤ at2 ∧ at2 ≤ 4294967311) := hi
      change Tr _ _ [] ([(10, .int .u64 at2)] ++ _) _
      obtain ⟨ha1, ha2⟩ := hi
      refine Tr.seq ?_
      refine Tr.seq ?_
      refine Tr.region ?_
      refine Tr.q (QS.move rfl) rfl ?_
      first | refine Tr.q (QS.cvtIn rfl Try.underlying3 Try.underlying82 (IntWalk.u64_in _ (by omega))) rfl ?_ | refine Tr.q (QS.cvt rfl Try.underlying3 Try.underlying82) rfl ?_
      refine Tr.q (QS.gtr rfl rfl) rfl ?_
      refine Tr.q (QS.move rfl) rfl ?_
      apply Tr.orP
      · exact (rfl : _ = (6, 56, 62))
      · exact rfl
      · intro hF10; have hF10' := hF10
        try simp only [bs] at hF10'
        refine Tr.gq rfl rfl hF10 (QS.move rfl) rfl ?_
        refine Tr.gq rfl rfl hF10 (QS.move rfl) rfl ?_
        first | refine Tr.gq rfl rfl hF10 (QS.cvtIn rfl Try.underlying3 Try.underlying82 (IntWalk.u64_in _ (by omega))) rfl ?_ | refine Tr.gq rfl rfl hF10 (QS.cvt rfl Try.underlying3 Try.underlying82) rfl ?_
        first | refine Tr.gq rfl rfl hF10 (QS.addU rfl rfl (by omega)) rfl ?_ | refine Tr.gq rfl rfl hF10 (QS.add rfl rfl) rfl ?_
        refine Tr.gq rfl rfl hF10 (QS.gtr rfl rfl) rfl ?_
        refine Tr.q (QS.pickF rfl hF10 rfl) rfl ?_
        refine Tr.nil (Tr.thenN ?_)
        exact Tr.endX (Sub.cons rfl (Sub.dropN 6 (by kernel_rfl) rfl))
      · intro hT10
        refine Tr.gskip rfl rfl hT10 rfl ?_
        refine Tr.gskip rfl rfl hT10 rfl ?_
        refine Tr.gskip rfl rfl hT10 rfl ?_
        refine Tr.gskip rfl rfl hT10 rfl ?_
        refine Tr.gskip rfl rfl hT10 rfl ?_
        refine Tr.q (QS.pickT rfl hT10 rfl) rfl ?_
        refine Tr.nil (Tr.thenN ?_)
        exact Tr.endX (Sub.cons rfl (Sub.dropN 6 (by kernel_rfl) rfl))
      refine Tr.nil ?_
      refine Tr.thenN ?_
      refine Tr.cond rfl (fun h11 => ?_) (fun h11 => ?_)
      · try simp only [bs] at h11
        refine Tr.seq ?_
        refine Tr.region ?_
        refine Tr.q (QS.assign rfl) rfl ?_
        refine Tr.q (QS.assign rfl) rfl ?_
        refine Tr.nil ?_
        refine Tr.thenN ?_
        refine Tr.ret ?_
        refine Tr.thenR ?_
        refine Tr.ret2 Try.results40 rfl rfl (fun w' hw => ?_)
        exact ⟨by rw [freeP_2 (by assumption) (by rw [← htk, ← ha1]; assumption)]; rfl, hw.below (Bg.le.refl _)⟩
      · try simp only [bs] at h11
        refine Tr.skip ?_
        refine Tr.thenN ?_
        refine Tr.seq ?_
        refine Tr.region ?_
        refine Tr.q (QS.move rfl) rfl ?_
        refine Tr.q (QS.cvtTo32 rfl Try.underlying82 Try.underlying23) rfl ?_
        refine Tr.q (QS.assign rfl) rfl ?_
        refine Tr.q (QS.assign rfl) rfl ?_
        refine Tr.nil ?_
        refine Tr.thenN ?_
        refine Tr.ret ?_
        refine Tr.ret2 Try.results40 rfl rfl (fun w' hw => ?_)
        exact ⟨by rw [freeP_3 (by assumption) (by rw [← htk, ← ha1]; simp_all), ← htk, ← ha1], hw.below (Bg.le.refl _)⟩

set_option maxRecDepth 100000 in
set_option maxHeartbeats 2000000 in
theorem clone_sec (l : List SecV) (V : Value) (w : World) (hV : Sl (hp w) encSec l V) (hB : SecB l) :
    Calls Try.prog 94 #[V] w (fun e w' => ∃ V', e = .returned V' ∧ Ext w w' ∧ NewRow w w' 81 encSec l V') := by
  have hV' : Sl (Bg.of w).blk encSec l V := hV
  have hlen := hB.1
  refine enter Try.func94 rfl Try.ntmps94 rfl ?_
  refine Tr.seq ?_
  refine Tr.region ?_
  refine Tr.q (QS.assign rfl) rfl ?_
  refine Tr.nil ?_
  refine Tr.thenN ?_
  refine Tr.seq ?_
  refine Tr.seq ?_
  refine Tr.region ?_
  refine Tr.q (QS.move rfl) rfl ?_
  refine Tr.q (QS.eqlNilS rfl (by assumption) Try.underlying53) rfl ?_
  refine Tr.nil ?_
  refine Tr.thenN ?_
  refine Tr.cond rfl (fun h1 => ?_) (fun h1 => ?_)
  · try simp only [bs] at h1
    refine Tr.seq ?_
    refine Tr.region ?_
    refine Tr.q (QS.assign rfl) rfl ?_
    refine Tr.nil ?_
    refine Tr.thenN ?_
    refine Tr.ret ?_
    refine Tr.thenR ?_
    refine Tr.ret1 Try.results94 rfl (fun w' hw => ?_)
    exact ⟨_, rfl, hw.below (Bg.le.refl _), newRow_nil (hV.isNil h1)⟩
  · try simp only [bs] at h1
    refine Tr.skip ?_
    refine Tr.thenN ?_
    refine Tr.seq ?_
    refine Tr.region ?_
    refine Tr.lit0 encSec Try.underlying53 Try.sizeOf81 rfl (fun V2 => ?_)
    refine Tr.q (QS.move rfl) rfl ?_
    first | refine Tr.append1 rfl rfl (by repeat (first | exact Del.here _ | apply Del.there)) (by repeat (first | exact Del.here _ | apply Del.there)) Try.underlying53 HLF.info81 (by rfl) (by rfl) (by (try simp only [List.length_cons, List.length_nil, List.length_append, List.length_take]); omega) (by unfold maxLen; (try simp only [List.length_cons, List.length_nil, List.length_append, List.length_take]); omega) rfl (fun V3 => ?_) | refine Tr.ownNil _ _ (Tr.append1 rfl rfl (by repeat (first | exact Del.here _ | apply Del.there)) (by repeat (first | exact Del.here _ | apply Del.there)) Try.underlying53 HLF.info81 (by rfl) (by rfl) (by (try simp only [List.length_cons, List.length_nil, List.length_append, List.length_take]); omega) (by unfold maxLen; (try simp only [List.length_cons, List.length_nil, List.length_append, List.length_take]); omega) rfl (fun V3 => ?_)) | refine Tr.appendOf rfl rfl (by repeat (first | exact Del.here _ | apply Del.there)) (fun w hw => hw.slF (by assumption)) Try.underlying53 HLF.info81 (by rfl) (by rfl) (by (try simp only [List.length_cons, List.length_nil, List.length_append, List.length_take]); omega) (by unfold maxLen; (try simp only [List.length_cons, List.length_nil, List.length_append, List.length_take]); omega) rfl (fun V3 => ?_) | refine Tr.ownNil _ _ (Tr.appendOf rfl rfl (by repeat (first | exact Del.here _ | apply Del.there)) (fun w hw => hw.slF (by assumption)) Try.underlying53 HLF.info81 (by rfl) (by rfl) (by (try simp only [List.length_cons, List.length_nil, List.length_append, List.length_take]); omega) (by unfold maxLen; (try simp only [List.length_cons, List.length_nil, List.length_append, List.length_take]); omega) rfl (fun V3 => ?_)) | refine Tr.appendOf rfl rfl (by repeat (first | exact Del.here _ | apply Del.there)) (fun w hw => hw.row (by repeat (first | exact List.Mem.head _ | apply List.Mem.tail))) Try.underlying53 HLF.info81 (by rfl) (by rfl) (by (try simp only [List.length_cons, List.length_nil, List.length_append, List.length_take]); omega) (by unfold maxLen; (try simp only [List.length_cons, List.length_nil, List.length_append, List.length_take]); omega) rfl (fun V3 => ?_)
    refine Tr.q (QS.assign rfl) rfl ?_
    refine Tr.nil ?_
    refine Tr.thenN ?_
    refine Tr.ret ?_
    refine Tr.ret1 Try.results94 rfl (fun w' hw => ?_)
    exact ⟨_, rfl, hw.below (Bg.le.refl _), hw.new (.head _)⟩

set_option maxRecDepth 100000 in
set_option maxHeartbeats 2000000 in
theorem own_sec (l : List SecV) (V : Value) (w : World) (hV : Sl (hp w) encSec l V) (hB : SecB l) (hD : DataIn (hp w) l) :
    Calls Try.prog 75 #[V] w (fun e w' => ∃ i : Value × List SecV, e = .returned i.1 ∧ Ext w w' ∧ NewEnts w w' (secEnts 81 5 i.1 i.2) ∧ i.2.map SecV.pl = l.map SecV.pl) := by
  have hV' : Sl (Bg.of w).blk encSec l V := hV
  have hlen := hB.1
  refine enter Try.func75 rfl Try.ntmps75 rfl ?_
  refine Tr.seq ?_
  refine Tr.region ?_
  refine Tr.q (QS.assign rfl) rfl ?_
  refine Tr.nil ?_
  refine Tr.thenN ?_
  refine Tr.seq ?_
  refine Tr.region ?_
  refine Tr.q (QS.move rfl) rfl ?_
  refine Tr.callRow rfl Try.call94 (fun w hw => clone_sec l V w (hw.slF hV) hB) rfl (fun V1 => ?_)
  refine Tr.q (QS.assign rfl) rfl ?_
  refine Tr.nil ?_
  refine Tr.thenN ?_
  refine Tr.seq ?_
  refine Tr.seq ?_
  refine Tr.region ?_
  refine Tr.q (QS.move rfl) rfl ?_
  first | refine Tr.q (QS.len rfl (by assumption) Try.underlying53) rfl ?_ | refine Tr.q (QS.lenRow rfl (by repeat (first | exact List.Mem.head _ | apply List.Mem.tail)) Try.underlying53) rfl ?_ | refine Tr.q (QS.lenNil rfl Try.underlying53) rfl ?_
  refine Tr.q (QS.move rfl) rfl ?_
  refine Tr.nil ?_
  refine Tr.thenN ?_
  refine Tr.block ?_
  refine Tr.loop (ι := Nat × List SecV) (fun ⟨k, xs⟩ => k ≤ l.length ∧ xs.length = l.length ∧ xs.map SecV.pl = l.map SecV.pl ∧ ∀ j, k ≤ j → xs.getD j default = l.getD j default) (fun _ => _) (fun ⟨k, xs⟩ => (rowE V1 81 encSec xs :: (xs.take k).reverse.map (dRow 5))) (fun ⟨k, xs⟩ => [(9, .int .i64 (k : Nat))]) (fun ⟨k, xs⟩ => l.length - k) (0, l) ⟨Nat.zero_le _, rfl, rfl, fun _ _ => rfl⟩ (.cons (by first | rfl | exact lookI rfl (by omega) | exact lookI rfl (by simp) | exact lookB rfl (by simp)) Front.nil) (by repeat' (first | exact Pick.nil _ | exact Del.here _ | apply Pick.cons | apply Del.there)) rfl (fun i hi m hm => ?_)
  obtain ⟨k, xs⟩ := i
  replace hi : k ≤ l.length ∧ xs.length = l.length ∧ xs.map SecV.pl = l.map SecV.pl ∧ ∀ j, k ≤ j → xs.getD j default = l.getD j default := hi
  replace hm : m = l.length - k := hm
  change Tr _ _ (rowE V1 81 encSec xs :: (xs.take k).reverse.map (dRow 5)) ([(9, .int .i64 (k : Nat))] ++ _) _
  obtain ⟨hk1, hk2, hk3, hk4⟩ := hi
  have hxk := hk4 k (Nat.le_refl _)
  have hDk : k < l.length → Sl (Bg.of w).blk encU8 (xs.getD k default).data (.slice (xs.getD k default).dp (xs.getD k default).data.length (xs.getD k default).dc) := fun q => by rw [hxk]; exact hD _ (mem_getD q)
  have hdb : k < l.length → (xs.getD k default).data.length ≤ 140737488355328 := fun q => by rw [hxk]; have := hB.at q; omega
  refine Tr.seq ?_
  refine Tr.region ?_
  refine Tr.q (QS.lss rfl rfl) rfl ?_
  refine Tr.nil ?_
  refine Tr.thenN ?_
  refine Tr.seq ?_
  refine Tr.cond rfl (fun h2 => ?_) (fun h2 => ?_)
  · try simp only [bs] at h2
    refine Tr.skip ?_
    refine Tr.thenN ?_
    refine Tr.seq ?_
    refine Tr.block ?_
    refine Tr.seq ?_
    refine Tr.region ?_
    refine Tr.q (QS.move rfl) rfl ?_
    refine Tr.q (QS.assign rfl) rfl ?_
    refine Tr.nil ?_
    refine Tr.thenN ?_
    refine Tr.region ?_
    refine Tr.q (QS.move rfl) rfl ?_
    refine Tr.q (QS.move rfl) rfl ?_
    refine Tr.q (QS.move rfl) rfl ?_
    refine Tr.q (QS.move rfl) rfl ?_
    first | refine Tr.q (QS.idxN rfl rfl (by assumption) Try.underlying53 Try.sizeOf81 (by rfl) (by omega)) rfl ?_ | refine Tr.q (QS.idxRowN rfl rfl (by repeat (first | exact List.Mem.head _ | apply List.Mem.tail)) Try.underlying53 Try.sizeOf81 (by rfl) (by omega)) rfl ?_ | refine Tr.q (QS.idx rfl rfl (by assumption) Try.underlying53 Try.sizeOf81 (by rfl) (by omega)) rfl ?_ | refine Tr.q (QS.idxRow rfl rfl (by repeat (first | exact List.Mem.head _ | apply List.Mem.tail)) Try.underlying53 Try.sizeOf81 (by rfl) (by omega)) rfl ?_
    refine Tr.q (QS.fieldAddr (off := 2) (ft := 22) rfl Try.underlying81 rfl rfl Try.sizeOf22 (by decide)) rfl ?_
    first | refine Tr.q (QS.elF rfl (by assumption) Try.isAgg22 (by omega) (by rfl)) rfl ?_ | refine Tr.q (QS.elRF rfl (by repeat (first | exact List.Mem.head _ | apply List.Mem.tail)) Try.isAgg22 (by omega) (by rfl)) rfl ?_
    refine Tr.callRow rfl Try.call73 (fun w hw => clone_u8 (xs.getD k default).data _ w (hw.slF (hDk (by omega))) (hdb (by omega))) rfl (fun V3 => ?_)
    refine Tr.rowShape (.head _) (fun pa pc hpv => ?_)
    subst hpv
    first | refine Tr.q (QS.idxN rfl rfl (by assumption) Try.underlying53 Try.sizeOf81 (by rfl) (by omega)) rfl ?_ | refine Tr.q (QS.idxRowN rfl rfl (by repeat (first | exact List.Mem.head _ | apply List.Mem.tail)) Try.underlying53 Try.sizeOf81 (by rfl) (by omega)) rfl ?_ | refine Tr.q (QS.idx rfl rfl (by assumption) Try.underlying53 Try.sizeOf81 (by rfl) (by omega)) rfl ?_ | refine Tr.q (QS.idxRow rfl rfl (by repeat (first | exact List.Mem.head _ | apply List.Mem.tail)) Try.underlying53 Try.sizeOf81 (by rfl) (by omega)) rfl ?_
    refine Tr.q (QS.fieldAddr (off := 2) (ft := 22) rfl Try.underlying81 rfl rfl Try.sizeOf22 (by decide)) rfl ?_
    refine Tr.storeRow ({ xs.getD k default with dp := pa, dc := pc }) rfl rfl Try.sizeOf22 (by repeat (first | exact Put.here _ | apply Put.there)) (by omega) (by decide) (by rfl) rfl rfl rfl ?_
    refine Tr.nil ?_
    refine Tr.inN ?_
    refine Tr.thenN ?_
    refine Tr.region ?_
    first | refine Tr.q (QS.addI rfl rfl (by omega)) rfl ?_ | refine Tr.q (QS.add rfl rfl) rfl ?_
    refine Tr.q (QS.move rfl) rfl ?_
    refine Tr.nil ?_
    refine Tr.thenN ?_
    apply Tr.again (k + 1, xs.set k { xs.getD k default with dp := pa, dc := pc })
    · exact rfl
    · exact (.cons (by first | rfl | exact lookI rfl (by omega) | exact lookI rfl (by simp) | exact lookB rfl (by simp)) Front.nil)
    · exact SubX.dropN 16 (by kernel_rfl) rfl
    · exact (by show Pick _ (rowE V1 _ _ _ :: ((xs.set k { xs.getD k default with dp := pa, dc := pc }).take (k + 1)).reverse.map (dRow 5)); rw [drow_step (by omega)]; exact .cons (.there _ (.here _)) (.cons (.here _) (Pick.refl _)))
    · exact ⟨by omega, by simp [hk2], by have q := map_set_pl (k := k) (x := { xs.getD k default with dp := pa, dc := pc }) (show k < xs.length by omega) rfl; rw [q]; exact hk3, fun j hj => by rw [getD_set_ne' (by omega)]; exact hk4 j (by omega)⟩
    · exact (by (try dsimp only); omega)
  · try simp only [bs] at h2
    refine Tr.exit ?_
    refine Tr.thenE ?_
    refine Tr.thenE ?_
    refine Tr.inHit ?_
    refine Tr.thenN ?_
    refine Tr.seq ?_
    refine Tr.region ?_
    refine Tr.q (QS.move rfl) rfl ?_
    refine Tr.q (QS.assign rfl) rfl ?_
    refine Tr.nil ?_
    refine Tr.thenN ?_
    refine Tr.ret ?_
    refine Tr.ret1 Try.results75 rfl (fun w' hw => ?_)
    have e : xs.take k = xs := List.take_of_length_le (by omega)
    rw [e] at hw
    exact ⟨(V1, xs), rfl, hw.below (Bg.le.refl _), hw.ents (Bg.le.refl _) (Pick.refl _), hk3⟩

set_option maxRecDepth 100000 in
set_option maxHeartbeats 2000000 in
theorem write_any (l : List SecV) (V : Value) (a : UInt32) (b : List UInt8) (W : Value) (w : World) (hV : Sl (hp w) encSec l V) (hB : SecB l) (hD : DataIn (hp w) l) (hW : Sl (hp w) encU8 b W) (hb : b.length ≤ 1000000) :
    Calls Try.prog 46 #[V, .int .u32 a.toNat, W] w (fun e w' => ∃ V', e = .returned (.tuple #[V', .int .i64 (writeP l a b).2]) ∧ Ext w w' ∧ SecsAt (newHp w w') (writeP l a b).1 V') := by
  have hV' : Sl (Bg.of w).blk encSec l V := hV
  have hlen := hB.1
  have hW' : Sl (Bg.of w).blk encU8 b W := hW
  obtain ⟨pk, pat, pe, hpl⟩ : ∃ pk pat pe, placeP l a b.length = (pk, pat, pe) := ⟨_, _, _, rfl⟩
  have hplo := placeP_ok (l := l) (a := a) (n := b.length)
  rw [hpl] at hplo
  dsimp only at hplo
  have dp : ∀ w', Sl (hp w') encSec l V → Calls Try.prog 72 #[V, .int .u32 a.toNat, .int .i64 (b.length : Nat)] w' (fun e w'' => e = .returned (.tuple #[.int .i64 pk, .int .i64 pat, .int .i64 pe]) ∧ Ext w' w'') := fun w' h => by have q := place_any l V a b.length w' h hB (by omega); rw [hpl] at q; exact q
  refine enter Try.func46 rfl Try.ntmps46 rfl ?_
  refine Tr.seq ?_
  refine Tr.region ?_
  refine Tr.q (QS.assign rfl) rfl ?_
  refine Tr.q (QS.assign rfl) rfl ?_
  refine Tr.nil ?_
  refine Tr.thenN ?_
  refine Tr.seq ?_
  refine Tr.seq ?_
  refine Tr.region ?_
  refine Tr.q (QS.move rfl) rfl ?_
  first | refine Tr.q (QS.len rfl (by assumption) Try.underlying22) rfl ?_ | refine Tr.q (QS.lenRow rfl (by repeat (first | exact List.Mem.head _ | apply List.Mem.tail)) Try.underlying22) rfl ?_ | refine Tr.q (QS.lenNil rfl Try.underlying22) rfl ?_
  refine Tr.q (QS.eql rfl rfl) rfl ?_
  refine Tr.nil ?_
  refine Tr.thenN ?_
  refine Tr.cond rfl (fun h1 => ?_) (fun h1 => ?_)
  · try simp only [bs] at h1
    refine Tr.seq ?_
    refine Tr.region ?_
    refine Tr.q (QS.move rfl) rfl ?_
    refine Tr.callEnts (fun i : Value × List SecV => i.1) (fun i => secEnts 81 5 i.1 i.2) (ok := fun i => i.2.map SecV.pl = l.map SecV.pl) rfl Try.call75 (fun w hw => own_sec l V w (hw.slF hV) hB (hD.mono hw.bg)) rfl (fun i hi => ?_)
    refine Tr.q (QS.assign rfl) rfl ?_
    refine Tr.q (QS.assign rfl) rfl ?_
    refine Tr.nil ?_
    refine Tr.thenN ?_
    refine Tr.ret ?_
    refine Tr.thenR ?_
    refine Tr.ret2 Try.results46 rfl rfl (fun w' hw => ?_)
    obtain ⟨Vo, xs⟩ := i
    replace hi : xs.map SecV.pl = l.map SecV.pl := hi
    exact ⟨_, by rw [writeP, if_pos (by omega)], hw.below (Bg.le.refl _), by rw [writeP, if_pos (by omega), ← hi]; rw [List.append_nil] at hw; exact (hw.ents (Bg.le.refl _) (Pick.refl _)).secs⟩
  · try simp only [bs] at h1
    refine Tr.skip ?_
    refine Tr.thenN ?_
    refine Tr.seq ?_
    refine Tr.region ?_
    refine Tr.q (QS.move rfl) rfl ?_
    refine Tr.q (QS.move rfl) rfl ?_
    refine Tr.q (QS.move rfl) rfl ?_
    first | refine Tr.q (QS.len rfl (by assumption) Try.underlying22) rfl ?_ | refine Tr.q (QS.lenRow rfl (by repeat (first | exact List.Mem.head _ | apply List.Mem.tail)) Try.underlying22) rfl ?_ | refine Tr.q (QS.lenNil rfl Try.underlying22) rfl ?_
    refine Tr.q (QS.call rfl Try.call72 (fun w hw => dp w (hw.slF hV))) rfl ?_
    refine Tr.q (QS.move rfl) rfl ?_
    refine Tr.q (QS.extract rfl rfl) rfl ?_
    refine Tr.q (QS.extract rfl rfl) rfl ?_
    refine Tr.q (QS.extract rfl rfl) rfl ?_
    refine Tr.q (QS.assign rfl) rfl ?_
    refine Tr.q (QS.assign rfl) rfl ?_
    refine Tr.q (QS.assign rfl) rfl ?_
    refine Tr.nil ?_
    refine Tr.thenN ?_
    refine Tr.seq ?_
    refine Tr.seq ?_
    refine Tr.region ?_
    refine Tr.q (QS.move rfl) rfl ?_
    refine Tr.q (QS.neq rfl rfl) rfl ?_
    refine Tr.nil ?_
    refine Tr.thenN ?_
    refine Tr.cond rfl (fun h2 => ?_) (fun h2 => ?_)
    · try simp only [bs] at h2
      refine Tr.seq ?_
      refine Tr.region ?_
      refine Tr.q (QS.move rfl) rfl ?_
      refine Tr.q (QS.assign rfl) rfl ?_
      refine Tr.q (QS.assign rfl) rfl ?_
      refine Tr.nil ?_
      refine Tr.thenN ?_
      refine Tr.ret ?_
      refine Tr.thenR ?_
      refine Tr.ret2 Try.results46 rfl rfl (fun w' hw => ?_)
      exact ⟨_, by rw [writeP, if_neg (by omega), hpl, if_pos (by assumption)]; rfl, hw.below (Bg.le.refl _), by rw [writeP, if_neg (by omega), hpl, if_pos (by assumption)]; exact SecsAt.nil⟩
    · try simp only [bs] at h2
      refine Tr.skip ?_
      refine Tr.thenN ?_
      refine Tr.seq ?_
      refine Tr.seq ?_
      obtain ⟨p1, p2, p3, p4, p5⟩ := hplo (by simp_all)
      have hdl := hB.at (k := pk.toNat) (by omega)
      refine Tr.region ?_
      refine Tr.q (QS.move rfl) rfl ?_
      refine Tr.q (QS.move rfl) rfl ?_
      first | refine Tr.q (QS.idxN rfl rfl (by assumption) Try.underlying53 Try.sizeOf81 (by rfl) (by omega)) rfl ?_ | refine Tr.q (QS.idxRowN rfl rfl (by repeat (first | exact List.Mem.head _ | apply List.Mem.tail)) Try.underlying53 Try.sizeOf81 (by rfl) (by omega)) rfl ?_ | refine Tr.q (QS.idx rfl rfl (by assumption) Try.underlying53 Try.sizeOf81 (by rfl) (by omega)) rfl ?_ | refine Tr.q (QS.idxRow rfl rfl (by repeat (first | exact List.Mem.head _ | apply List.Mem.tail)) Try.underlying53 Try.sizeOf81 (by rfl) (by omega)) rfl ?_
      refine Tr.q (QS.fieldAddr (off := 3) (ft := 4) rfl Try.underlying81 rfl rfl Try.sizeOf4 (by decide)) rfl ?_
      first | refine Tr.q (QS.elF rfl (by assumption) Try.isAgg4 (by omega) (by rfl)) rfl ?_ | refine Tr.q (QS.elRF rfl (by repeat (first | exact List.Mem.head _ | apply List.Mem.tail)) Try.isAgg4 (by omega) (by rfl)) rfl ?_
      refine Tr.q (QS.not rfl) rfl ?_
      refine Tr.nil ?_
      refine Tr.thenN ?_
      refine Tr.cond rfl (fun h3 => ?_) (fun h3 => ?_)
      · try simp only [bs] at h3
        refine Tr.seq ?_
        refine Tr.region ?_
        refine Tr.q (QS.assign rfl) rfl ?_
        refine Tr.q (QS.assign rfl) rfl ?_
        refine Tr.nil ?_
        refine Tr.thenN ?_
        refine Tr.ret ?_
        refine Tr.thenR ?_
        refine Tr.ret2 Try.results46 rfl rfl (fun w' hw => ?_)
        exact ⟨_, by rw [writeP, if_neg (by omega), hpl, if_neg (by simp_all), if_pos (by assumption)], hw.below (Bg.le.refl _), by rw [writeP, if_neg (by omega), hpl, if_neg (by simp_all), if_pos (by assumption)]; exact SecsAt.nil⟩
      · try simp only [bs] at h3
        refine Tr.skip ?_
        refine Tr.thenN ?_
        refine Tr.seq ?_
        refine Tr.region ?_
        refine Tr.q (QS.move rfl) rfl ?_
        refine Tr.callEnts (fun i : Value × List SecV => i.1) (fun i => secEnts 81 5 i.1 i.2) (ok := fun i => i.2.map SecV.pl = l.map SecV.pl) rfl Try.call75 (fun w hw => own_sec l V w (hw.slF hV) hB (hD.mono hw.bg)) rfl (fun i hi => ?_)
        refine Tr.q (QS.assign rfl) rfl ?_
        refine Tr.nil ?_
        refine Tr.thenN ?_
        refine Tr.seq ?_
        obtain ⟨Vo, xs⟩ := i
        dsimp only
        replace hi : xs.map SecV.pl = l.map SecV.pl := hi
        have hxl := map_pl_len hi
        obtain ⟨g1, g2, g3, g4, g5⟩ := pl_data (map_pl_get hi pk.toNat)
        have hdl2 : (xs.getD pk.toNat default).data.length = (l.getD pk.toNat default).data.length := by rw [g3]
        refine Tr.perm (secEnts_front (k := pk.toNat) (by omega) _) ?_
        refine Tr.region ?_
        refine Tr.q (QS.move rfl) rfl ?_
        refine Tr.q (QS.move rfl) rfl ?_
        first | refine Tr.q (QS.idxN rfl rfl (by assumption) Try.underlying53 Try.sizeOf81 (by rfl) (by omega)) rfl ?_ | refine Tr.q (QS.idxRowN rfl rfl (by repeat (first | exact List.Mem.head _ | apply List.Mem.tail)) Try.underlying53 Try.sizeOf81 (by rfl) (by omega)) rfl ?_ | refine Tr.q (QS.idx rfl rfl (by assumption) Try.underlying53 Try.sizeOf81 (by rfl) (by omega)) rfl ?_ | refine Tr.q (QS.idxRow rfl rfl (by repeat (first | exact List.Mem.head _ | apply List.Mem.tail)) Try.underlying53 Try.sizeOf81 (by rfl) (by omega)) rfl ?_
        refine Tr.q (QS.fieldAddr (off := 2) (ft := 22) rfl Try.underlying81 rfl rfl Try.sizeOf22 (by decide)) rfl ?_
        first | refine Tr.q (QS.elF rfl (by assumption) Try.isAgg22 (by omega) (by rfl)) rfl ?_ | refine Tr.q (QS.elRF rfl (by repeat (first | exact List.Mem.head _ | apply List.Mem.tail)) Try.isAgg22 (by omega) (by rfl)) rfl ?_
        refine Tr.q (QS.move rfl) rfl ?_
        refine Tr.q (QS.sliceRow (lv := some (_, _)) (hv := none) rfl (xs := (xs.getD pk.toNat default).data) (T := 5) (E := encU8) (.head _) rfl rfl Try.underlying22 Try.sizeOf5 (by rfl) (by simp only [loOf, hiOf] <;> omega) (by simp only [loOf, hiOf] <;> omega) (by simp only [loOf, hiOf] <;> omega)) rfl ?_
        refine Tr.q (QS.move rfl) rfl ?_
        refine Tr.copyRow (xs := (xs.getD pk.toNat default).data) (n0 := pat.toNat) rfl rfl (Put.here _) (fun w hw => hw.slF hW) Try.underlying22 (by kernel_rfl) (by omega) (by omega) rfl ?_
        refine Tr.nil ?_
        refine Tr.thenN ?_
        refine Tr.seq ?_
        refine Tr.region ?_
        refine Tr.q (QS.move rfl) rfl ?_
        refine Tr.q (QS.assign rfl) rfl ?_
        refine Tr.q (QS.assign rfl) rfl ?_
        refine Tr.nil ?_
        refine Tr.thenN ?_
        refine Tr.ret ?_
        refine Tr.ret2 Try.results46 rfl rfl (fun w' hw => ?_)
        have hs := secs_put (k := pk.toNat) (by omega) (by simp only [List.length_append, List.length_take, List.length_drop]; omega) (hw.ents (w := w) (Bg.le.refl _) (Pick.refl _))
        rw [hi, map_pl_get hi, g3] at hs
        exact ⟨_, by rw [writeP, if_neg (by omega), hpl, if_neg (by simp_all), if_neg (by simp_all)], hw.below (Bg.le.refl _), by rw [writeP, if_neg (by omega), hpl, if_neg (by simp_all), if_neg (by simp_all)]; exact hs⟩

end Go.Proofs.Ytfmhhakhbopfdaa
