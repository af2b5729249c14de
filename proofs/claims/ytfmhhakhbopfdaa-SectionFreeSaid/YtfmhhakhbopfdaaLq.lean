/- The laws SectionReads, SectionFree. -/
import Derived.Test.YtfmhhakhbopfdaaLp
import Derived.Test.YtfmhhakhbopfdaaSd
set_option linter.unusedSimpArgs false
set_option linter.unusedVariables false
namespace Go.Proofs.Ytfmhhakhbopfdaa
open Go Go.HL Go.RowKit

set_option maxRecDepth 100000 in
set_option maxHeartbeats 2000000 in
theorem taken_any (l : List SecV) (V : Value) (a : UInt32) (n : Int) (w : World) (hV : Sl (hp w) encSec l V) (hB : SecB l) :
    Calls Try.prog 53 #[V, .int .u32 a.toNat, .int .i64 n] w (fun e w' => e = .returned (.bool (takP l a n)) ∧ Ext w w') := by
  have hV' : Sl (Bg.of w).blk encSec l V := hV
  have hlen := hB.1
  have hadr := a.toNat_lt
  refine enter Try.func53 rfl Try.ntmps53 rfl ?_
  refine Tr.seq ?_
  refine Tr.region ?_
  refine Tr.q (QS.assign rfl) rfl ?_
  refine Tr.nil ?_
  refine Tr.thenN ?_
  refine Tr.seq ?_
  refine Tr.seq ?_
  refine Tr.region ?_
  refine Tr.q (QS.move rfl) rfl ?_
  refine Tr.q (QS.lss rfl rfl) rfl ?_
  refine Tr.q (QS.move rfl) rfl ?_
  apply Tr.orP
  · exact (rfl : _ = (3, 14, 17))
  · exact rfl
  · intro hF1; have hF1' := hF1
    try simp only [bs] at hF1'
    refine Tr.gq rfl rfl hF1 (QS.move rfl) rfl ?_
    refine Tr.gq rfl rfl hF1 (QS.gtr rfl rfl) rfl ?_
    refine Tr.q (QS.pickF rfl hF1 rfl) rfl ?_
    refine Tr.nil (Tr.thenN ?_)
    exact Tr.endX (Sub.cons rfl (Sub.dropN 3 (by kernel_rfl) rfl))
  · intro hT1
    refine Tr.gskip rfl rfl hT1 rfl ?_
    refine Tr.gskip rfl rfl hT1 rfl ?_
    refine Tr.q (QS.pickT rfl hT1 rfl) rfl ?_
    refine Tr.nil (Tr.thenN ?_)
    exact Tr.endX (Sub.cons rfl (Sub.dropN 3 (by kernel_rfl) rfl))
  refine Tr.nil ?_
  refine Tr.thenN ?_
  refine Tr.cond rfl (fun h2 => ?_) (fun h2 => ?_)
  · try simp only [bs] at h2
    refine Tr.seq ?_
    refine Tr.region ?_
    refine Tr.q (QS.assign rfl) rfl ?_
    refine Tr.nil ?_
    refine Tr.thenN ?_
    refine Tr.ret ?_
    refine Tr.thenR ?_
    refine Tr.ret1 Try.results53 rfl (fun w' hw => ?_)
    exact ⟨by rw [takP, if_pos (by assumption)], hw.below (Bg.le.refl _)⟩
  · try simp only [bs] at h2
    refine Tr.skip ?_
    refine Tr.thenN ?_
    refine Tr.seq ?_
    refine Tr.region ?_
    refine Tr.q (QS.move rfl) rfl ?_
    refine Tr.q (QS.cvt32toI rfl Try.underlying23 Try.underlying3) rfl ?_
    refine Tr.q (QS.assign rfl) rfl ?_
    refine Tr.nil ?_
    refine Tr.thenN ?_
    refine Tr.seq ?_
    refine Tr.region ?_
    refine Tr.q (QS.move rfl) rfl ?_
    refine Tr.q (QS.move rfl) rfl ?_
    first | refine Tr.q (QS.addI rfl rfl (by omega)) rfl ?_ | refine Tr.q (QS.add rfl rfl) rfl ?_
    refine Tr.q (QS.assign rfl) rfl ?_
    refine Tr.nil ?_
    refine Tr.thenN ?_
    refine Tr.seq ?_
    refine Tr.seq ?_
    refine Tr.region ?_
    refine Tr.q (QS.assign rfl) rfl ?_
    refine Tr.nil ?_
    refine Tr.thenN ?_
    refine Tr.block ?_
    refine Tr.loop (ι := Nat) (fun k => k ≤ l.length ∧ (l.take k).any (takHit a.toNat n) = false) (fun _ => _) (fun k => []) (fun k => [(9, .int .i64 (k : Nat))]) (fun k => l.length - k) 0 ⟨Nat.zero_le _, rfl⟩ (.cons (by first | rfl | exact lookI rfl (by omega) | exact lookI rfl (by simp) | exact lookB rfl (by simp)) Front.nil) (by repeat' (first | exact Pick.nil _ | exact Del.here _ | apply Pick.cons | apply Del.there)) rfl (fun k hi m hm => ?_)
    replace hi : k ≤ l.length ∧ (l.take k).any (takHit a.toNat n) = false := hi
    replace hm : m = l.length - k := hm
    change Tr _ _ [] ([(9, .int .i64 (k : Nat))] ++ _) _
    obtain ⟨hk1, hk2⟩ := hi
    have hadk := (l.getD k default).addr.toNat_lt
    have hdk : k < l.length → (l.getD k default).data.length ≤ 200000 := fun q => hB.at q
    refine Tr.seq ?_
    refine Tr.seq ?_
    refine Tr.region ?_
    refine Tr.q (QS.move rfl) rfl ?_
    refine Tr.q (QS.move rfl) rfl ?_
    first | refine Tr.q (QS.len rfl (by assumption) Try.underlying53) rfl ?_ | refine Tr.q (QS.lenRow rfl (by repeat (first | exact List.Mem.head _ | apply List.Mem.tail)) Try.underlying53) rfl ?_ | refine Tr.q (QS.lenNil rfl Try.underlying53) rfl ?_
    refine Tr.q (QS.lss rfl rfl) rfl ?_
    refine Tr.nil ?_
    refine Tr.thenN ?_
    refine Tr.cond rfl (fun h3 => ?_) (fun h3 => ?_)
    · try simp only [bs] at h3
      refine Tr.skip ?_
      refine Tr.thenN ?_
      refine Tr.seq ?_
      refine Tr.block ?_
      refine Tr.seq ?_
      refine Tr.region ?_
      refine Tr.q (QS.move rfl) rfl ?_
      refine Tr.q (QS.move rfl) rfl ?_
      first | refine Tr.q (QS.idxN rfl rfl (by assumption) Try.underlying53 Try.sizeOf81 (by rfl) (by omega)) rfl ?_ | refine Tr.q (QS.idxRowN rfl rfl (by repeat (first | exact List.Mem.head _ | apply List.Mem.tail)) Try.underlying53 Try.sizeOf81 (by rfl) (by omega)) rfl ?_ | refine Tr.q (QS.idx rfl rfl (by assumption) Try.underlying53 Try.sizeOf81 (by rfl) (by omega)) rfl ?_ | refine Tr.q (QS.idxRow rfl rfl (by repeat (first | exact List.Mem.head _ | apply List.Mem.tail)) Try.underlying53 Try.sizeOf81 (by rfl) (by omega)) rfl ?_
      refine Tr.q (QS.fieldAddr (off := 1) (ft := 23) rfl Try.underlying81 rfl rfl Try.sizeOf23 (by decide)) rfl ?_
      first | refine Tr.q (QS.elF rfl (by assumption) Try.isAgg23 (by omega) (by rfl)) rfl ?_ | refine Tr.q (QS.elRF rfl (by repeat (first | exact List.Mem.head _ | apply List.Mem.tail)) Try.isAgg23 (by omega) (by rfl)) rfl ?_
      refine Tr.q (QS.cvt32toI rfl Try.underlying23 Try.underlying3) rfl ?_
      refine Tr.q (QS.assign rfl) rfl ?_
      refine Tr.nil ?_
      refine Tr.thenN ?_
      refine Tr.seq ?_
      refine Tr.region ?_
      refine Tr.q (QS.move rfl) rfl ?_
      refine Tr.q (QS.move rfl) rfl ?_
      refine Tr.q (QS.move rfl) rfl ?_
      first | refine Tr.q (QS.idxN rfl rfl (by assumption) Try.underlying53 Try.sizeOf81 (by rfl) (by omega)) rfl ?_ | refine Tr.q (QS.idxRowN rfl rfl (by repeat (first | exact List.Mem.head _ | apply List.Mem.tail)) Try.underlying53 Try.sizeOf81 (by rfl) (by omega)) rfl ?_ | refine Tr.q (QS.idx rfl rfl (by assumption) Try.underlying53 Try.sizeOf81 (by rfl) (by omega)) rfl ?_ | refine Tr.q (QS.idxRow rfl rfl (by repeat (first | exact List.Mem.head _ | apply List.Mem.tail)) Try.underlying53 Try.sizeOf81 (by rfl) (by omega)) rfl ?_
      refine Tr.q (QS.fieldAddr (off := 2) (ft := 22) rfl Try.underlying81 rfl rfl Try.sizeOf22 (by decide)) rfl ?_
      first | refine Tr.q (QS.elF rfl (by assumption) Try.isAgg22 (by omega) (by rfl)) rfl ?_ | refine Tr.q (QS.elRF rfl (by repeat (first | exact List.Mem.head _ | apply List.Mem.tail)) Try.isAgg22 (by omega) (by rfl)) rfl ?_
      first | refine Tr.q (QS.len rfl (by assumption) Try.underlying22) rfl ?_ | refine Tr.q (QS.lenRow rfl (by repeat (first | exact List.Mem.head _ | apply List.Mem.tail)) Try.underlying22) rfl ?_ | refine Tr.q (QS.lenNil rfl Try.underlying22) rfl ?_
      first | refine Tr.q (QS.addI rfl rfl (by omega)) rfl ?_ | refine Tr.q (QS.add rfl rfl) rfl ?_
      refine Tr.q (QS.assign rfl) rfl ?_
      refine Tr.nil ?_
      refine Tr.thenN ?_
      refine Tr.seq ?_
      refine Tr.region ?_
      refine Tr.q (QS.move rfl) rfl ?_
      refine Tr.q (QS.move rfl) rfl ?_
      refine Tr.q (QS.lss rfl rfl) rfl ?_
      refine Tr.q (QS.move rfl) rfl ?_
      apply Tr.andP
      · exact (rfl : _ = (4, 46, 50))
      · exact rfl
      · intro hT4; have hT4' := hT4
        try simp only [bs] at hT4'
        refine Tr.gq rfl rfl hT4 (QS.move rfl) rfl ?_
        refine Tr.gq rfl rfl hT4 (QS.move rfl) rfl ?_
        refine Tr.gq rfl rfl hT4 (QS.lss rfl rfl) rfl ?_
        refine Tr.q (QS.pickT rfl hT4 rfl) rfl ?_
        refine Tr.nil (Tr.thenN ?_)
        exact Tr.endX (Sub.cons rfl (Sub.dropN 4 (by kernel_rfl) rfl))
      · intro hF4
        refine Tr.gskip rfl rfl hF4 rfl ?_
        refine Tr.gskip rfl rfl hF4 rfl ?_
        refine Tr.gskip rfl rfl hF4 rfl ?_
        refine Tr.q (QS.pickF rfl hF4 rfl) rfl ?_
        refine Tr.nil (Tr.thenN ?_)
        exact Tr.endX (Sub.cons rfl (Sub.dropN 4 (by kernel_rfl) rfl))
      refine Tr.q (QS.move rfl) rfl ?_
      apply Tr.andP
      · exact (rfl : _ = (4, 51, 55))
      · exact rfl
      · intro hT5; have hT5' := hT5
        try simp only [bs] at hT5'
        refine Tr.gq rfl rfl hT5 (QS.move rfl) rfl ?_
        refine Tr.gq rfl rfl hT5 (QS.move rfl) rfl ?_
        refine Tr.gq rfl rfl hT5 (QS.lss rfl rfl) rfl ?_
        refine Tr.q (QS.pickT rfl hT5 rfl) rfl ?_
        refine Tr.nil (Tr.thenN ?_)
        exact Tr.endX (Sub.cons rfl (Sub.dropN 4 (by kernel_rfl) rfl))
      · intro hF5
        refine Tr.gskip rfl rfl hF5 rfl ?_
        refine Tr.gskip rfl rfl hF5 rfl ?_
        refine Tr.gskip rfl rfl hF5 rfl ?_
        refine Tr.q (QS.pickF rfl hF5 rfl) rfl ?_
        refine Tr.nil (Tr.thenN ?_)
        exact Tr.endX (Sub.cons rfl (Sub.dropN 4 (by kernel_rfl) rfl))
      refine Tr.nil ?_
      refine Tr.thenN ?_
      refine Tr.cond rfl (fun h6 => ?_) (fun h6 => ?_)
      · try simp only [bs] at h6
        refine Tr.seq ?_
        refine Tr.region ?_
        refine Tr.q (QS.assign rfl) rfl ?_
        refine Tr.nil ?_
        refine Tr.thenN ?_
        refine Tr.ret ?_
        refine Tr.inR ?_
        refine Tr.thenR ?_
        refine Tr.thenR ?_
        refine Tr.inR ?_
        refine Tr.thenR ?_
        refine Tr.ret1 Try.results53 rfl (fun w' hw => ?_)
        have hh : l.any (takHit a.toNat n) = true := List.any_eq_true.2 ⟨_, mem_getD (k := k) (by omega), by simp only [takHit, bs]; assumption⟩
        exact ⟨by rw [takP, if_neg (by omega), hh]; rfl, hw.below (Bg.le.refl _)⟩
      · try simp only [bs] at h6
        refine Tr.skip ?_
        refine Tr.inN ?_
        refine Tr.thenN ?_
        refine Tr.region ?_
        refine Tr.q (QS.move rfl) rfl ?_
        first | refine Tr.q (QS.addI rfl rfl (by omega)) rfl ?_ | refine Tr.q (QS.add rfl rfl) rfl ?_
        refine Tr.q (QS.assign rfl) rfl ?_
        refine Tr.nil ?_
        refine Tr.thenN ?_
        have hh : takHit a.toNat n (l.getD k default) = false := by simp only [takHit, bs]; assumption
        apply Tr.again (k + 1)
        · exact rfl
        · exact (.cons (by first | rfl | exact lookI rfl (by omega) | exact lookI rfl (by simp) | exact lookB rfl (by simp)) Front.nil)
        · exact SubX.dropN 31 (by kernel_rfl) rfl
        · exact (by repeat' (first | exact Pick.nil _ | exact Del.here _ | apply Pick.cons | apply Del.there))
        · exact ⟨by omega, by rw [any_take_succ (by omega), hk2, hh]; rfl⟩
        · exact (by (try dsimp only); omega)
    · try simp only [bs] at h3
      refine Tr.exit ?_
      refine Tr.thenE ?_
      refine Tr.thenE ?_
      refine Tr.inHit ?_
      refine Tr.thenN ?_
      refine Tr.seq ?_
      refine Tr.region ?_
      refine Tr.q (QS.move rfl) rfl ?_
      refine Tr.q (QS.lss rfl rfl) rfl ?_
      refine Tr.q (QS.move rfl) rfl ?_
      apply Tr.andP
      · exact (rfl : _ = (3, 58, 61))
      · exact rfl
      · intro hT7; have hT7' := hT7
        try simp only [bs] at hT7'
        refine Tr.gq rfl rfl hT7 (QS.move rfl) rfl ?_
        refine Tr.gq rfl rfl hT7 (QS.gtr rfl rfl) rfl ?_
        refine Tr.q (QS.pickT rfl hT7 rfl) rfl ?_
        refine Tr.nil (Tr.thenN ?_)
        exact Tr.endX (Sub.cons rfl (Sub.dropN 3 (by kernel_rfl) rfl))
      · intro hF7
        refine Tr.gskip rfl rfl hF7 rfl ?_
        refine Tr.gskip rfl rfl hF7 rfl ?_
        refine Tr.q (QS.pickF rfl hF7 rfl) rfl ?_
        refine Tr.nil (Tr.thenN ?_)
        exact Tr.endX (Sub.cons rfl (Sub.dropN 3 (by kernel_rfl) rfl))
      refine Tr.q (QS.assign rfl) rfl ?_
      refine Tr.nil ?_
      refine Tr.thenN ?_
      refine Tr.ret ?_
      refine Tr.ret1 Try.results53 rfl (fun w' hw => ?_)
      have hh : l.any (takHit a.toNat n) = false := by rw [← hk2, any_take_all (by omega)]
      exact ⟨by rw [takP, if_neg (by omega), hh, Bool.false_or], hw.below (Bg.le.refl _)⟩

set_option maxRecDepth 100000 in
set_option maxHeartbeats 2000000 in
theorem reads_true (l : List SecV) (V : Value) (a : UInt32) (b : List UInt8) (W : Value) (x : UInt32) (w : World) (hV : Sl (hp w) encSec l V) (hD : DataIn (hp w) l) (hz : ∀ s ∈ l, s.data.length ≤ 140737488351232) (hW : Sl (hp w) encU8 b W) :
    Calls Try.prog 12 #[V, .int .u32 a.toNat, W, .int .u32 x.toNat] w (fun e w' => e = .returned (.bool true) ∧ Ext w w') := by
  have hV' : Sl (Bg.of w).blk encSec l V := hV
  have hlar := @large_sec l
  have hW' : Sl (Bg.of w).blk encU8 b W := hW
  refine enter Try.func12 rfl Try.ntmps12 rfl ?_
  refine Tr.seq ?_
  refine Tr.region ?_
  refine Tr.q (QS.assign rfl) rfl ?_
  refine Tr.nil ?_
  refine Tr.thenN ?_
  refine Tr.seq ?_
  refine Tr.seq ?_
  refine Tr.region ?_
  refine Tr.q (QS.move rfl) rfl ?_
  refine Tr.q (QS.call rfl Try.call38 (fun w hw => large_any l V w (hw.slF hV) hz)) rfl ?_
  refine Tr.q (QS.move rfl) rfl ?_
  apply Tr.orP
  · exact (rfl : _ = (4, 20, 24))
  · exact rfl
  · intro hF1; have hF1' := hF1
    try simp only [bs] at hF1'
    refine Tr.gq rfl rfl hF1 (QS.move rfl) rfl ?_
    first | refine Tr.gq rfl rfl hF1 (QS.len rfl (by assumption) Try.underlying22) rfl ?_ | refine Tr.gq rfl rfl hF1 (QS.lenRow rfl (by repeat (first | exact List.Mem.head _ | apply List.Mem.tail)) Try.underlying22) rfl ?_ | refine Tr.gq rfl rfl hF1 (QS.lenNil rfl Try.underlying22) rfl ?_
    refine Tr.gq rfl rfl hF1 (QS.gtr rfl rfl) rfl ?_
    refine Tr.q (QS.pickF rfl hF1 rfl) rfl ?_
    refine Tr.nil (Tr.thenN ?_)
    exact Tr.endX (Sub.cons rfl (Sub.dropN 4 (by kernel_rfl) rfl))
  · intro hT1
    refine Tr.gskip rfl rfl hT1 rfl ?_
    refine Tr.gskip rfl rfl hT1 rfl ?_
    refine Tr.gskip rfl rfl hT1 rfl ?_
    refine Tr.q (QS.pickT rfl hT1 rfl) rfl ?_
    refine Tr.nil (Tr.thenN ?_)
    exact Tr.endX (Sub.cons rfl (Sub.dropN 4 (by kernel_rfl) rfl))
  refine Tr.nil ?_
  refine Tr.thenN ?_
  refine Tr.cond rfl (fun h2 => ?_) (fun h2 => ?_)
  · try simp only [bs] at h2
    refine Tr.seq ?_
    refine Tr.region ?_
    refine Tr.q (QS.call rfl Try.call39 (fun w hw => example05_any w)) rfl ?_
    refine Tr.q (QS.assign rfl) rfl ?_
    refine Tr.nil ?_
    refine Tr.thenN ?_
    refine Tr.ret ?_
    refine Tr.thenR ?_
    refine Tr.ret1 Try.results12 rfl (fun w' hw => ?_)
    exact ⟨rfl, hw.below (Bg.le.refl _)⟩
  · try simp only [bs] at h2
    refine Tr.skip ?_
    refine Tr.thenN ?_
    refine Tr.seq ?_
    obtain ⟨hB, hl40⟩ := hlar (by simp_all)
    have hbl : b.length ≤ 10000 := by simp_all <;> omega
    refine Tr.region ?_
    refine Tr.q (QS.move rfl) rfl ?_
    refine Tr.q (QS.move rfl) rfl ?_
    refine Tr.q (QS.move rfl) rfl ?_
    refine Tr.callBg (fun V : Value => .tuple #[V, .int .i64 (writeP l a b).2]) (R := fun h V => SecsAt h (writeP l a b).1 V) (fun h h' i hh r => r.mono hh) rfl Try.call46 (fun w hw => write_any l V a b W w (hw.slF hV) hB (hD.mono hw.bg) (hw.slF hW) (by omega)) rfl (fun V71 F71 hF71 hR71 => ?_)
    refine Tr.q (QS.move rfl) rfl ?_
    refine Tr.q (QS.extract rfl rfl) rfl ?_
    refine Tr.q (QS.extract rfl rfl) rfl ?_
    refine Tr.q (QS.assign rfl) rfl ?_
    refine Tr.q (QS.assign rfl) rfl ?_
    refine Tr.nil ?_
    refine Tr.thenN ?_
    refine Tr.seq ?_
    refine Tr.seq ?_
    have hV1 := hV'.mono hF71.blk
    have hD1 : DataIn F71.blk l := hD.mono hF71.blk
    have hW1 := hW'.mono hF71.blk
    obtain ⟨m, m1, m2, m3⟩ := hR71
    refine Tr.region ?_
    refine Tr.q (QS.move rfl) rfl ?_
    refine Tr.q (QS.neq rfl rfl) rfl ?_
    refine Tr.nil ?_
    refine Tr.thenN ?_
    refine Tr.cond rfl (fun h3 => ?_) (fun h3 => ?_)
    · try simp only [bs] at h3
      refine Tr.seq ?_
      refine Tr.region ?_
      refine Tr.q (QS.move rfl) rfl ?_
      refine Tr.q (QS.eql rfl rfl) rfl ?_
      refine Tr.q (QS.move rfl) rfl ?_
      apply Tr.orP
      · exact (rfl : _ = (3, 37, 40))
      · exact rfl
      · intro hF4; have hF4' := hF4
        try simp only [bs] at hF4'
        refine Tr.gq rfl rfl hF4 (QS.move rfl) rfl ?_
        refine Tr.gq rfl rfl hF4 (QS.eql rfl rfl) rfl ?_
        refine Tr.q (QS.pickF rfl hF4 rfl) rfl ?_
        refine Tr.nil (Tr.thenN ?_)
        exact Tr.endX (Sub.cons rfl (Sub.dropN 3 (by kernel_rfl) rfl))
      · intro hT4
        refine Tr.gskip rfl rfl hT4 rfl ?_
        refine Tr.gskip rfl rfl hT4 rfl ?_
        refine Tr.q (QS.pickT rfl hT4 rfl) rfl ?_
        refine Tr.nil (Tr.thenN ?_)
        exact Tr.endX (Sub.cons rfl (Sub.dropN 3 (by kernel_rfl) rfl))
      refine Tr.q (QS.move rfl) rfl ?_
      apply Tr.andP
      · exact (rfl : _ = (4, 41, 45))
      · exact rfl
      · intro hT5; have hT5' := hT5
        try simp only [bs] at hT5'
        refine Tr.gq rfl rfl hT5 (QS.move rfl) rfl ?_
        first | refine Tr.gq rfl rfl hT5 (QS.len rfl (by assumption) Try.underlying53) rfl ?_ | refine Tr.gq rfl rfl hT5 (QS.lenRow rfl (by repeat (first | exact List.Mem.head _ | apply List.Mem.tail)) Try.underlying53) rfl ?_ | refine Tr.gq rfl rfl hT5 (QS.lenNil rfl Try.underlying53) rfl ?_
        refine Tr.gq rfl rfl hT5 (QS.eql rfl rfl) rfl ?_
        refine Tr.q (QS.pickT rfl hT5 rfl) rfl ?_
        refine Tr.nil (Tr.thenN ?_)
        exact Tr.endX (Sub.cons rfl (Sub.dropN 4 (by kernel_rfl) rfl))
      · intro hF5
        refine Tr.gskip rfl rfl hF5 rfl ?_
        refine Tr.gskip rfl rfl hF5 rfl ?_
        refine Tr.gskip rfl rfl hF5 rfl ?_
        refine Tr.q (QS.pickF rfl hF5 rfl) rfl ?_
        refine Tr.nil (Tr.thenN ?_)
        exact Tr.endX (Sub.cons rfl (Sub.dropN 4 (by kernel_rfl) rfl))
      refine Tr.q (QS.move rfl) rfl ?_
      apply Tr.andP
      · exact (rfl : _ = (2, 46, 48))
      · exact rfl
      · intro hT6; have hT6' := hT6
        try simp only [bs] at hT6'
        refine Tr.gq rfl rfl hT6 (QS.call rfl Try.call39 (fun w hw => example05_any w)) rfl ?_
        refine Tr.q (QS.pickT rfl hT6 rfl) rfl ?_
        refine Tr.nil (Tr.thenN ?_)
        exact Tr.endX (Sub.cons rfl (Sub.dropN 2 (by kernel_rfl) rfl))
      · intro hF6
        refine Tr.gskip rfl rfl hF6 rfl ?_
        refine Tr.q (QS.pickF rfl hF6 rfl) rfl ?_
        refine Tr.nil (Tr.thenN ?_)
        exact Tr.endX (Sub.cons rfl (Sub.dropN 2 (by kernel_rfl) rfl))
      refine Tr.q (QS.assign rfl) rfl ?_
      refine Tr.nil ?_
      refine Tr.thenN ?_
      refine Tr.ret ?_
      refine Tr.thenR ?_
      refine Tr.ret1 Try.results12 rfl (fun w' hw => ?_)
      obtain ⟨e1, e2⟩ := write_err (l := l) (a := a) (b := b) (by assumption)
      have hm0 : m = [] := by rw [e2] at m3; exact List.map_eq_nil_iff.1 m3
      subst hm0
      exact ⟨by rcases e1 with e1 | e1 <;> rw [e1] <;> rfl, hw.below hF71⟩
    · try simp only [bs] at h3
      refine Tr.skip ?_
      refine Tr.thenN ?_
      refine Tr.seq ?_
      have hok : (writeP l a b).2 = 0 := by simp_all
      obtain ⟨r1, r2, r3, r4, r5, r6⟩ := read_back hok m3 x
      have hBm := secB_sh (write_sh hok m3) hB
      refine Tr.region ?_
      refine Tr.q (QS.move rfl) rfl ?_
      refine Tr.q (QS.move rfl) rfl ?_
      refine Tr.q (QS.move rfl) rfl ?_
      first | refine Tr.q (QS.len rfl (by assumption) Try.underlying22) rfl ?_ | refine Tr.q (QS.lenRow rfl (by repeat (first | exact List.Mem.head _ | apply List.Mem.tail)) Try.underlying22) rfl ?_ | refine Tr.q (QS.lenNil rfl Try.underlying22) rfl ?_
      refine Tr.callRowF (fun V => .tuple #[V, .int .i64 (readP m a b.length).2]) rfl Try.call44 (fun w hw => read_any m V71 a b.length w (hw.slF m1) hBm (m2.mono hw.bg) (by omega)) rfl (fun V7 => ?_)
      refine Tr.q (QS.move rfl) rfl ?_
      refine Tr.q (QS.extract rfl rfl) rfl ?_
      refine Tr.q (QS.extract rfl rfl) rfl ?_
      refine Tr.q (QS.assign rfl) rfl ?_
      refine Tr.q (QS.assign rfl) rfl ?_
      refine Tr.nil ?_
      refine Tr.thenN ?_
      refine Tr.seq ?_
      refine Tr.seq ?_
      refine Tr.region ?_
      refine Tr.q (QS.move rfl) rfl ?_
      refine Tr.q (QS.neq rfl rfl) rfl ?_
      refine Tr.q (QS.move rfl) rfl ?_
      apply Tr.orP
      · exact (rfl : _ = (5, 59, 64))
      · exact rfl
      · intro hF8; have hF8' := hF8
        try simp only [bs] at hF8'
        refine Tr.gq rfl rfl hF8 (QS.move rfl) rfl ?_
        refine Tr.gq rfl rfl hF8 (QS.move rfl) rfl ?_
        refine Tr.gq rfl rfl hF8 (QS.call rfl Try.call48 (fun w hw => sameBytes_any b (readP m a b.length).1 _ _ w (hw.slF hW1) (hw.row (.head _)))) rfl ?_
        refine Tr.gq rfl rfl hF8 (QS.not rfl) rfl ?_
        refine Tr.q (QS.pickF rfl hF8 rfl) rfl ?_
        refine Tr.nil (Tr.thenN ?_)
        exact Tr.endX (Sub.cons rfl (Sub.dropN 5 (by kernel_rfl) rfl))
      · intro hT8
        refine Tr.gskip rfl rfl hT8 rfl ?_
        refine Tr.gskip rfl rfl hT8 rfl ?_
        refine Tr.gskip rfl rfl hT8 rfl ?_
        refine Tr.gskip rfl rfl hT8 rfl ?_
        refine Tr.q (QS.pickT rfl hT8 rfl) rfl ?_
        refine Tr.nil (Tr.thenN ?_)
        exact Tr.endX (Sub.cons rfl (Sub.dropN 5 (by kernel_rfl) rfl))
      refine Tr.q (QS.move rfl) rfl ?_
      apply Tr.orP
      · exact (rfl : _ = (6, 65, 71))
      · exact rfl
      · intro hF9; have hF9' := hF9
        try simp only [bs] at hF9'
        refine Tr.gq rfl rfl hF9 (QS.move rfl) rfl ?_
        first | refine Tr.gq rfl rfl hF9 (QS.len rfl (by assumption) Try.underlying53) rfl ?_ | refine Tr.gq rfl rfl hF9 (QS.lenRow rfl (by repeat (first | exact List.Mem.head _ | apply List.Mem.tail)) Try.underlying53) rfl ?_ | refine Tr.gq rfl rfl hF9 (QS.lenNil rfl Try.underlying53) rfl ?_
        refine Tr.gq rfl rfl hF9 (QS.move rfl) rfl ?_
        first | refine Tr.gq rfl rfl hF9 (QS.len rfl (by assumption) Try.underlying53) rfl ?_ | refine Tr.gq rfl rfl hF9 (QS.lenRow rfl (by repeat (first | exact List.Mem.head _ | apply List.Mem.tail)) Try.underlying53) rfl ?_ | refine Tr.gq rfl rfl hF9 (QS.lenNil rfl Try.underlying53) rfl ?_
        refine Tr.gq rfl rfl hF9 (QS.neq rfl rfl) rfl ?_
        refine Tr.q (QS.pickF rfl hF9 rfl) rfl ?_
        refine Tr.nil (Tr.thenN ?_)
        exact Tr.endX (Sub.cons rfl (Sub.dropN 6 (by kernel_rfl) rfl))
      · intro hT9
        refine Tr.gskip rfl rfl hT9 rfl ?_
        refine Tr.gskip rfl rfl hT9 rfl ?_
        refine Tr.gskip rfl rfl hT9 rfl ?_
        refine Tr.gskip rfl rfl hT9 rfl ?_
        refine Tr.gskip rfl rfl hT9 rfl ?_
        refine Tr.q (QS.pickT rfl hT9 rfl) rfl ?_
        refine Tr.nil (Tr.thenN ?_)
        exact Tr.endX (Sub.cons rfl (Sub.dropN 6 (by kernel_rfl) rfl))
      refine Tr.nil ?_
      refine Tr.thenN ?_
      refine Tr.cond rfl (fun h10 => ?_) (fun h10 => ?_)
      · try simp only [bs] at h10
        refine Tr.seq ?_
        refine Tr.region ?_
        refine Tr.q (QS.assign rfl) rfl ?_
        refine Tr.nil ?_
        refine Tr.thenN ?_
        refine Tr.ret ?_
        refine Tr.thenR ?_
        refine Tr.ret1 Try.results12 rfl (fun w' hw => ?_)
        exfalso
        rw [r2, r1] at h10
        simp at h10
      · try simp only [bs] at h10
        refine Tr.skip ?_
        refine Tr.thenN ?_
        refine Tr.seq ?_
        refine Tr.seq ?_
        refine Tr.region ?_
        refine Tr.q (QS.move rfl) rfl ?_
        refine Tr.q (QS.move rfl) rfl ?_
        refine Tr.q (QS.call rfl Try.call43 (fun w hw => find_any l V x w (hw.slF hV1) hB)) rfl ?_
        refine Tr.q (QS.move rfl) rfl ?_
        refine Tr.q (QS.move rfl) rfl ?_
        refine Tr.q (QS.call rfl Try.call43 (fun w hw => find_any m V71 x w (hw.slF m1) hBm)) rfl ?_
        refine Tr.q (QS.neq rfl rfl) rfl ?_
        refine Tr.nil ?_
        refine Tr.thenN ?_
        refine Tr.cond rfl (fun h11 => ?_) (fun h11 => ?_)
        · try simp only [bs] at h11
          refine Tr.seq ?_
          refine Tr.region ?_
          refine Tr.q (QS.assign rfl) rfl ?_
          refine Tr.nil ?_
          refine Tr.thenN ?_
          refine Tr.ret ?_
          refine Tr.thenR ?_
          refine Tr.ret1 Try.results12 rfl (fun w' hw => ?_)
          exact absurd r3 h11
        · try simp only [bs] at h11
          refine Tr.skip ?_
          refine Tr.thenN ?_
          refine Tr.seq ?_
          refine Tr.region ?_
          refine Tr.q (QS.move rfl) rfl ?_
          refine Tr.q (QS.move rfl) rfl ?_
          refine Tr.callRowF (fun V => .tuple #[V, .int .i64 (readP l x 1).2]) rfl Try.call44 (fun w hw => read_any l V x 1 w (hw.slF hV1) hB (hD1.mono hw.bg) (by omega)) rfl (fun V12 => ?_)
          refine Tr.q (QS.move rfl) rfl ?_
          refine Tr.q (QS.extract rfl rfl) rfl ?_
          refine Tr.q (QS.extract rfl rfl) rfl ?_
          refine Tr.q (QS.assign rfl) rfl ?_
          refine Tr.q (QS.assign rfl) rfl ?_
          refine Tr.nil ?_
          refine Tr.thenN ?_
          refine Tr.seq ?_
          refine Tr.region ?_
          refine Tr.q (QS.move rfl) rfl ?_
          refine Tr.q (QS.move rfl) rfl ?_
          refine Tr.callRowF (fun V => .tuple #[V, .int .i64 (readP m x 1).2]) rfl Try.call44 (fun w hw => read_any m V71 x 1 w (hw.slF m1) hBm (m2.mono hw.bg) (by omega)) rfl (fun V13 => ?_)
          refine Tr.q (QS.move rfl) rfl ?_
          refine Tr.q (QS.extract rfl rfl) rfl ?_
          refine Tr.q (QS.extract rfl rfl) rfl ?_
          refine Tr.q (QS.assign rfl) rfl ?_
          refine Tr.q (QS.assign rfl) rfl ?_
          refine Tr.nil ?_
          refine Tr.thenN ?_
          refine Tr.seq ?_
          refine Tr.seq ?_
          refine Tr.region ?_
          refine Tr.q (QS.move rfl) rfl ?_
          refine Tr.q (QS.move rfl) rfl ?_
          refine Tr.q (QS.neq rfl rfl) rfl ?_
          refine Tr.q (QS.move rfl) rfl ?_
          apply Tr.orP
          · exact (rfl : _ = (6, 94, 100))
          · exact rfl
          · intro hF14; have hF14' := hF14
            try simp only [bs] at hF14'
            refine Tr.gq rfl rfl hF14 (QS.move rfl) rfl ?_
            first | refine Tr.gq rfl rfl hF14 (QS.len rfl (by assumption) Try.underlying22) rfl ?_ | refine Tr.gq rfl rfl hF14 (QS.lenRow rfl (by repeat (first | exact List.Mem.head _ | apply List.Mem.tail)) Try.underlying22) rfl ?_ | refine Tr.gq rfl rfl hF14 (QS.lenNil rfl Try.underlying22) rfl ?_
            refine Tr.gq rfl rfl hF14 (QS.move rfl) rfl ?_
            first | refine Tr.gq rfl rfl hF14 (QS.len rfl (by assumption) Try.underlying22) rfl ?_ | refine Tr.gq rfl rfl hF14 (QS.lenRow rfl (by repeat (first | exact List.Mem.head _ | apply List.Mem.tail)) Try.underlying22) rfl ?_ | refine Tr.gq rfl rfl hF14 (QS.lenNil rfl Try.underlying22) rfl ?_
            refine Tr.gq rfl rfl hF14 (QS.neq rfl rfl) rfl ?_
            refine Tr.q (QS.pickF rfl hF14 rfl) rfl ?_
            refine Tr.nil (Tr.thenN ?_)
            exact Tr.endX (Sub.cons rfl (Sub.dropN 6 (by kernel_rfl) rfl))
          · intro hT14
            refine Tr.gskip rfl rfl hT14 rfl ?_
            refine Tr.gskip rfl rfl hT14 rfl ?_
            refine Tr.gskip rfl rfl hT14 rfl ?_
            refine Tr.gskip rfl rfl hT14 rfl ?_
            refine Tr.gskip rfl rfl hT14 rfl ?_
            refine Tr.q (QS.pickT rfl hT14 rfl) rfl ?_
            refine Tr.nil (Tr.thenN ?_)
            exact Tr.endX (Sub.cons rfl (Sub.dropN 6 (by kernel_rfl) rfl))
          refine Tr.nil ?_
          refine Tr.thenN ?_
          refine Tr.cond rfl (fun h15 => ?_) (fun h15 => ?_)
          · try simp only [bs] at h15
            refine Tr.seq ?_
            refine Tr.region ?_
            refine Tr.q (QS.assign rfl) rfl ?_
            refine Tr.nil ?_
            refine Tr.thenN ?_
            refine Tr.ret ?_
            refine Tr.thenR ?_
            refine Tr.ret1 Try.results12 rfl (fun w' hw => ?_)
            exfalso
            rcases h15 with q | q
            · exact absurd r4 q
            · exact absurd (by rw [r5]) q
          · try simp only [bs] at h15
            refine Tr.skip ?_
            refine Tr.thenN ?_
            refine Tr.seq ?_
            refine Tr.region ?_
            refine Tr.q (QS.move rfl) rfl ?_
            refine Tr.q (QS.move rfl) rfl ?_
            refine Tr.q (QS.geq32 rfl rfl) rfl ?_
            refine Tr.q (QS.move rfl) rfl ?_
            apply Tr.andP
            · exact (rfl : _ = (8, 104, 112))
            · exact rfl
            · intro hT16; have hT16' := hT16
              try simp only [bs] at hT16'
              refine Tr.gq rfl rfl hT16 (QS.move rfl) rfl ?_
              refine Tr.gq rfl rfl hT16 (QS.move rfl) rfl ?_
              refine Tr.gq rfl rfl hT16 (QS.sub32 rfl rfl) rfl ?_
              refine Tr.gq rfl rfl hT16 (QS.cvt32toI rfl Try.underlying23 Try.underlying3) rfl ?_
              refine Tr.gq rfl rfl hT16 (QS.move rfl) rfl ?_
              first | refine Tr.gq rfl rfl hT16 (QS.len rfl (by assumption) Try.underlying22) rfl ?_ | refine Tr.gq rfl rfl hT16 (QS.lenRow rfl (by repeat (first | exact List.Mem.head _ | apply List.Mem.tail)) Try.underlying22) rfl ?_ | refine Tr.gq rfl rfl hT16 (QS.lenNil rfl Try.underlying22) rfl ?_
              refine Tr.gq rfl rfl hT16 (QS.lss rfl rfl) rfl ?_
              refine Tr.q (QS.pickT rfl hT16 rfl) rfl ?_
              refine Tr.nil (Tr.thenN ?_)
              exact Tr.endX (Sub.cons rfl (Sub.dropN 8 (by kernel_rfl) rfl))
            · intro hF16
              refine Tr.gskip rfl rfl hF16 rfl ?_
              refine Tr.gskip rfl rfl hF16 rfl ?_
              refine Tr.gskip rfl rfl hF16 rfl ?_
              refine Tr.gskip rfl rfl hF16 rfl ?_
              refine Tr.gskip rfl rfl hF16 rfl ?_
              refine Tr.gskip rfl rfl hF16 rfl ?_
              refine Tr.gskip rfl rfl hF16 rfl ?_
              refine Tr.q (QS.pickF rfl hF16 rfl) rfl ?_
              refine Tr.nil (Tr.thenN ?_)
              exact Tr.endX (Sub.cons rfl (Sub.dropN 8 (by kernel_rfl) rfl))
            refine Tr.q (QS.move rfl) rfl ?_
            apply Tr.andP
            · exact (rfl : _ = (8, 113, 121))
            · exact rfl
            · intro hT17; have hT17' := hT17
              try simp only [bs] at hT17'
              refine Tr.gq rfl rfl hT17 (QS.move rfl) rfl ?_
              refine Tr.gq rfl rfl hT17 (QS.move rfl) rfl ?_
              refine Tr.gq rfl rfl hT17 (QS.call rfl Try.call43 (fun w hw => find_any l V x w (hw.slF hV1) hB)) rfl ?_
              refine Tr.gq rfl rfl hT17 (QS.move rfl) rfl ?_
              refine Tr.gq rfl rfl hT17 (QS.move rfl) rfl ?_
              refine Tr.gq rfl rfl hT17 (QS.call rfl Try.call43 (fun w hw => find_any l V a w (hw.slF hV1) hB)) rfl ?_
              refine Tr.gq rfl rfl hT17 (QS.eql rfl rfl) rfl ?_
              refine Tr.q (QS.pickT rfl hT17 rfl) rfl ?_
              refine Tr.nil (Tr.thenN ?_)
              exact Tr.endX (Sub.cons rfl (Sub.dropN 8 (by kernel_rfl) rfl))
            · intro hF17
              refine Tr.gskip rfl rfl hF17 rfl ?_
              refine Tr.gskip rfl rfl hF17 rfl ?_
              refine Tr.gskip rfl rfl hF17 rfl ?_
              refine Tr.gskip rfl rfl hF17 rfl ?_
              refine Tr.gskip rfl rfl hF17 rfl ?_
              refine Tr.gskip rfl rfl hF17 rfl ?_
              refine Tr.gskip rfl rfl hF17 rfl ?_
              refine Tr.q (QS.pickF rfl hF17 rfl) rfl ?_
              refine Tr.nil (Tr.thenN ?_)
              exact Tr.endX (Sub.cons rfl (Sub.dropN 8 (by kernel_rfl) rfl))
            refine Tr.q (QS.assign rfl) rfl ?_
            refine Tr.nil ?_
            refine Tr.thenN ?_
            refine Tr.seq ?_
            refine Tr.region ?_
            refine Tr.q (QS.move rfl) rfl ?_
            refine Tr.q (QS.move rfl) rfl ?_
            apply Tr.orP
            · exact (rfl : _ = (4, 123, 127))
            · exact rfl
            · intro hF18; have hF18' := hF18
              try simp only [bs] at hF18'
              refine Tr.gq rfl rfl hF18 (QS.move rfl) rfl ?_
              refine Tr.gq rfl rfl hF18 (QS.move rfl) rfl ?_
              refine Tr.gq rfl rfl hF18 (QS.call rfl Try.call48 (fun w hw => sameBytes_any (readP l x 1).1 (readP m x 1).1 _ _ w (hw.row (.tail _ (.head _))) (hw.row (.head _)))) rfl ?_
              refine Tr.q (QS.pickF rfl hF18 rfl) rfl ?_
              refine Tr.nil (Tr.thenN ?_)
              exact Tr.endX (Sub.cons rfl (Sub.dropN 4 (by kernel_rfl) rfl))
            · intro hT18
              refine Tr.gskip rfl rfl hT18 rfl ?_
              refine Tr.gskip rfl rfl hT18 rfl ?_
              refine Tr.gskip rfl rfl hT18 rfl ?_
              refine Tr.q (QS.pickT rfl hT18 rfl) rfl ?_
              refine Tr.nil (Tr.thenN ?_)
              exact Tr.endX (Sub.cons rfl (Sub.dropN 4 (by kernel_rfl) rfl))
            refine Tr.q (QS.move rfl) rfl ?_
            apply Tr.andP
            · exact (rfl : _ = (2, 128, 130))
            · exact rfl
            · intro hT19; have hT19' := hT19
              try simp only [bs] at hT19'
              refine Tr.gq rfl rfl hT19 (QS.call rfl Try.call39 (fun w hw => example05_any w)) rfl ?_
              refine Tr.q (QS.pickT rfl hT19 rfl) rfl ?_
              refine Tr.nil (Tr.thenN ?_)
              exact Tr.endX (Sub.cons rfl (Sub.dropN 2 (by kernel_rfl) rfl))
            · intro hF19
              refine Tr.gskip rfl rfl hF19 rfl ?_
              refine Tr.q (QS.pickF rfl hF19 rfl) rfl ?_
              refine Tr.nil (Tr.thenN ?_)
              exact Tr.endX (Sub.cons rfl (Sub.dropN 2 (by kernel_rfl) rfl))
            refine Tr.q (QS.assign rfl) rfl ?_
            refine Tr.nil ?_
            refine Tr.thenN ?_
            refine Tr.ret ?_
            refine Tr.ret1 Try.results12 rfl (fun w' hw => ?_)
            have hfin : (insideB l a x b || decide ((readP l x 1).1 = (readP m x 1).1)) = true := by
              rcases r6 with q | q
              · rw [q]; rfl
              · rw [decide_eq_true q, Bool.or_true]
            exact ⟨by change Ending.returned (Value.bool ((insideB l a x b || decide ((readP l x 1).1 = (readP m x 1).1)) && true)) = _; rw [hfin]; rfl, hw.below hF71⟩

set_option maxRecDepth 100000 in
set_option maxHeartbeats 2000000 in
theorem free_true (l : List SecV) (V : Value) (n : Int) (from_ : UInt32) (w : World) (hV : Sl (hp w) encSec l V) (hD : DataIn (hp w) l) (hz : ∀ s ∈ l, s.data.length ≤ 140737488351232) (hN : ∀ s ∈ l, s.name.size ≤ 140737488351232) (hn : -9223372036854775808 ≤ n ∧ n ≤ 9223372036854775807) :
    Calls Try.prog 14 #[V, .int .i64 n, .int .u32 from_.toNat] w (fun e w' => e = .returned (.bool true) ∧ Ext w w') := by
  have hV' : Sl (Bg.of w).blk encSec l V := hV
  have hlar := @large_sec l
  refine enter Try.func14 rfl Try.ntmps14 rfl ?_
  refine Tr.seq ?_
  refine Tr.region ?_
  refine Tr.q (QS.assign rfl) rfl ?_
  refine Tr.nil ?_
  refine Tr.thenN ?_
  refine Tr.seq ?_
  refine Tr.seq ?_
  refine Tr.region ?_
  refine Tr.q (QS.move rfl) rfl ?_
  refine Tr.q (QS.call rfl Try.call38 (fun w hw => large_any l V w (hw.slF hV) hz)) rfl ?_
  refine Tr.q (QS.move rfl) rfl ?_
  apply Tr.orP
  · exact (rfl : _ = (4, 11, 15))
  · exact rfl
  · intro hF1; have hF1' := hF1
    try simp only [bs] at hF1'
    refine Tr.gq rfl rfl hF1 (QS.move rfl) rfl ?_
    refine Tr.gq rfl rfl hF1 (QS.call rfl Try.call50 (fun w hw => check_sec l V w (hw.slF hV) (hlar (by assumption)).1 (fun s hs => by have := hN s hs; omega))) rfl ?_
    refine Tr.gq rfl rfl hF1 (QS.neq rfl rfl) rfl ?_
    refine Tr.q (QS.pickF rfl hF1 rfl) rfl ?_
    refine Tr.nil (Tr.thenN ?_)
    exact Tr.endX (Sub.cons rfl (Sub.dropN 4 (by kernel_rfl) rfl))
  · intro hT1
    refine Tr.gskip rfl rfl hT1 rfl ?_
    refine Tr.gskip rfl rfl hT1 rfl ?_
    refine Tr.gskip rfl rfl hT1 rfl ?_
    refine Tr.q (QS.pickT rfl hT1 rfl) rfl ?_
    refine Tr.nil (Tr.thenN ?_)
    exact Tr.endX (Sub.cons rfl (Sub.dropN 4 (by kernel_rfl) rfl))
  refine Tr.q (QS.move rfl) rfl ?_
  apply Tr.orP
  · exact (rfl : _ = (3, 16, 19))
  · exact rfl
  · intro hF2; have hF2' := hF2
    try simp only [bs] at hF2'
    refine Tr.gq rfl rfl hF2 (QS.move rfl) rfl ?_
    refine Tr.gq rfl rfl hF2 (QS.lss rfl rfl) rfl ?_
    refine Tr.q (QS.pickF rfl hF2 rfl) rfl ?_
    refine Tr.nil (Tr.thenN ?_)
    exact Tr.endX (Sub.cons rfl (Sub.dropN 3 (by kernel_rfl) rfl))
  · intro hT2
    refine Tr.gskip rfl rfl hT2 rfl ?_
    refine Tr.gskip rfl rfl hT2 rfl ?_
    refine Tr.q (QS.pickT rfl hT2 rfl) rfl ?_
    refine Tr.nil (Tr.thenN ?_)
    exact Tr.endX (Sub.cons rfl (Sub.dropN 3 (by kernel_rfl) rfl))
  refine Tr.q (QS.move rfl) rfl ?_
  apply Tr.orP
  · exact (rfl : _ = (3, 20, 23))
  · exact rfl
  · intro hF3; have hF3' := hF3
    try simp only [bs] at hF3'
    refine Tr.gq rfl rfl hF3 (QS.move rfl) rfl ?_
    refine Tr.gq rfl rfl hF3 (QS.gtr rfl rfl) rfl ?_
    refine Tr.q (QS.pickF rfl hF3 rfl) rfl ?_
    refine Tr.nil (Tr.thenN ?_)
    exact Tr.endX (Sub.cons rfl (Sub.dropN 3 (by kernel_rfl) rfl))
  · intro hT3
    refine Tr.gskip rfl rfl hT3 rfl ?_
    refine Tr.gskip rfl rfl hT3 rfl ?_
    refine Tr.q (QS.pickT rfl hT3 rfl) rfl ?_
    refine Tr.nil (Tr.thenN ?_)
    exact Tr.endX (Sub.cons rfl (Sub.dropN 3 (by kernel_rfl) rfl))
  refine Tr.nil ?_
  refine Tr.thenN ?_
  refine Tr.cond rfl (fun h4 => ?_) (fun h4 => ?_)
  · try simp only [bs] at h4
    refine Tr.seq ?_
    refine Tr.region ?_
    refine Tr.q (QS.call rfl Try.call39 (fun w hw => example05_any w)) rfl ?_
    refine Tr.q (QS.assign rfl) rfl ?_
    refine Tr.nil ?_
    refine Tr.thenN ?_
    refine Tr.ret ?_
    refine Tr.thenR ?_
    refine Tr.ret1 Try.results14 rfl (fun w' hw => ?_)
    exact ⟨rfl, hw.below (Bg.le.refl _)⟩
  · try simp only [bs] at h4
    refine Tr.skip ?_
    refine Tr.thenN ?_
    refine Tr.seq ?_
    have hla : largeP l = false := by simp_all
    have hck : checkS l = 0 := by simp_all
    have hnn : 1 ≤ n ∧ n ≤ 10000 := by omega
    obtain ⟨hB, hl40⟩ := hlar hla
    refine Tr.region ?_
    refine Tr.q (QS.move rfl) rfl ?_
    refine Tr.q (QS.move rfl) rfl ?_
    refine Tr.q (QS.move rfl) rfl ?_
    refine Tr.q (QS.call rfl Try.call40 (fun w hw => free_any l V n from_ w (hw.slF hV) hB hn.2)) rfl ?_
    refine Tr.q (QS.move rfl) rfl ?_
    refine Tr.q (QS.extract rfl rfl) rfl ?_
    refine Tr.q (QS.extract rfl rfl) rfl ?_
    refine Tr.q (QS.assign rfl) rfl ?_
    refine Tr.q (QS.assign rfl) rfl ?_
    refine Tr.nil ?_
    refine Tr.thenN ?_
    refine Tr.seq ?_
    refine Tr.seq ?_
    refine Tr.region ?_
    refine Tr.q (QS.move rfl) rfl ?_
    refine Tr.q (QS.neq rfl rfl) rfl ?_
    refine Tr.nil ?_
    refine Tr.thenN ?_
    refine Tr.cond rfl (fun h5 => ?_) (fun h5 => ?_)
    · try simp only [bs] at h5
      refine Tr.seq ?_
      refine Tr.region ?_
      refine Tr.q (QS.move rfl) rfl ?_
      refine Tr.q (QS.eql rfl rfl) rfl ?_
      refine Tr.q (QS.move rfl) rfl ?_
      apply Tr.andP
      · exact (rfl : _ = (3, 36, 39))
      · exact rfl
      · intro hT6; have hT6' := hT6
        try simp only [bs] at hT6'
        refine Tr.gq rfl rfl hT6 (QS.move rfl) rfl ?_
        refine Tr.gq rfl rfl hT6 (QS.gtr32 (n := 100000) rfl rfl) rfl ?_
        refine Tr.q (QS.pickT rfl hT6 rfl) rfl ?_
        refine Tr.nil (Tr.thenN ?_)
        exact Tr.endX (Sub.cons rfl (Sub.dropN 3 (by kernel_rfl) rfl))
      · intro hF6
        refine Tr.gskip rfl rfl hF6 rfl ?_
        refine Tr.gskip rfl rfl hF6 rfl ?_
        refine Tr.q (QS.pickF rfl hF6 rfl) rfl ?_
        refine Tr.nil (Tr.thenN ?_)
        exact Tr.endX (Sub.cons rfl (Sub.dropN 3 (by kernel_rfl) rfl))
      refine Tr.q (QS.move rfl) rfl ?_
      apply Tr.andP
      · exact (rfl : _ = (2, 40, 42))
      · exact rfl
      · intro hT7; have hT7' := hT7
        try simp only [bs] at hT7'
        refine Tr.gq rfl rfl hT7 (QS.call rfl Try.call39 (fun w hw => example05_any w)) rfl ?_
        refine Tr.q (QS.pickT rfl hT7 rfl) rfl ?_
        refine Tr.nil (Tr.thenN ?_)
        exact Tr.endX (Sub.cons rfl (Sub.dropN 2 (by kernel_rfl) rfl))
      · intro hF7
        refine Tr.gskip rfl rfl hF7 rfl ?_
        refine Tr.q (QS.pickF rfl hF7 rfl) rfl ?_
        refine Tr.nil (Tr.thenN ?_)
        exact Tr.endX (Sub.cons rfl (Sub.dropN 2 (by kernel_rfl) rfl))
      refine Tr.q (QS.assign rfl) rfl ?_
      refine Tr.nil ?_
      refine Tr.thenN ?_
      refine Tr.ret ?_
      refine Tr.thenR ?_
      refine Tr.ret1 Try.results14 rfl (fun w' hw => ?_)
      obtain ⟨e1, e2⟩ := free_far hck hnn (f := from_) (by assumption)
      exact ⟨by rw [e1, decide_eq_true e2]; rfl, hw.below (Bg.le.refl _)⟩
    · try simp only [bs] at h5
      refine Tr.skip ?_
      refine Tr.thenN ?_
      refine Tr.seq ?_
      refine Tr.seq ?_
      obtain ⟨f1, f2, f3, f4⟩ := free_law hck hnn (f := from_) (by simp_all)
      refine Tr.region ?_
      refine Tr.q (QS.move rfl) rfl ?_
      refine Tr.q (QS.move rfl) rfl ?_
      refine Tr.q (QS.lss32 rfl rfl) rfl ?_
      refine Tr.q (QS.move rfl) rfl ?_
      apply Tr.orP
      · exact (rfl : _ = (4, 46, 50))
      · exact rfl
      · intro hF8; have hF8' := hF8
        try simp only [bs] at hF8'
        refine Tr.gq rfl rfl hF8 (QS.move rfl) rfl ?_
        refine Tr.gq rfl rfl hF8 (QS.rem32 (n := 16) rfl rfl (by first | decide | assumption)) rfl ?_
        refine Tr.gq rfl rfl hF8 (QS.neq32 (n := 0) rfl rfl) rfl ?_
        refine Tr.q (QS.pickF rfl hF8 rfl) rfl ?_
        refine Tr.nil (Tr.thenN ?_)
        exact Tr.endX (Sub.cons rfl (Sub.dropN 4 (by kernel_rfl) rfl))
      · intro hT8
        refine Tr.gskip rfl rfl hT8 rfl ?_
        refine Tr.gskip rfl rfl hT8 rfl ?_
        refine Tr.gskip rfl rfl hT8 rfl ?_
        refine Tr.q (QS.pickT rfl hT8 rfl) rfl ?_
        refine Tr.nil (Tr.thenN ?_)
        exact Tr.endX (Sub.cons rfl (Sub.dropN 4 (by kernel_rfl) rfl))
      refine Tr.q (QS.move rfl) rfl ?_
      apply Tr.orP
      · exact (rfl : _ = (5, 51, 56))
      · exact rfl
      · intro hF9; have hF9' := hF9
        try simp only [bs] at hF9'
        refine Tr.gq rfl rfl hF9 (QS.move rfl) rfl ?_
        refine Tr.gq rfl rfl hF9 (QS.move rfl) rfl ?_
        refine Tr.gq rfl rfl hF9 (QS.move rfl) rfl ?_
        refine Tr.gq rfl rfl hF9 (QS.call rfl Try.call53 (fun w hw => taken_any l V (freeP l n from_).1 n w (hw.slF hV) hB)) rfl ?_
        refine Tr.q (QS.pickF rfl hF9 rfl) rfl ?_
        refine Tr.nil (Tr.thenN ?_)
        exact Tr.endX (Sub.cons rfl (Sub.dropN 5 (by kernel_rfl) rfl))
      · intro hT9
        refine Tr.gskip rfl rfl hT9 rfl ?_
        refine Tr.gskip rfl rfl hT9 rfl ?_
        refine Tr.gskip rfl rfl hT9 rfl ?_
        refine Tr.gskip rfl rfl hT9 rfl ?_
        refine Tr.q (QS.pickT rfl hT9 rfl) rfl ?_
        refine Tr.nil (Tr.thenN ?_)
        exact Tr.endX (Sub.cons rfl (Sub.dropN 5 (by kernel_rfl) rfl))
      refine Tr.nil ?_
      refine Tr.thenN ?_
      refine Tr.cond rfl (fun h10 => ?_) (fun h10 => ?_)
      · try simp only [bs] at h10
        refine Tr.seq ?_
        refine Tr.region ?_
        refine Tr.q (QS.assign rfl) rfl ?_
        refine Tr.nil ?_
        refine Tr.thenN ?_
        refine Tr.ret ?_
        refine Tr.thenR ?_
        refine Tr.ret1 Try.results14 rfl (fun w' hw => ?_)
        exfalso
        have f1' := UInt32.le_iff_toNat_le.1 f1
        simp_all [UInt32.lt_iff_toNat_lt]
        omega
      · try simp only [bs] at h10
        refine Tr.skip ?_
        refine Tr.thenN ?_
        refine Tr.seq ?_
        refine Tr.region ?_
        refine Tr.q (QS.move rfl) rfl ?_
        refine Tr.q (QS.move rfl) rfl ?_
        refine Tr.q (QS.sub32 rfl rfl) rfl ?_
        refine Tr.q (QS.lss32 (n := 16) rfl rfl) rfl ?_
        refine Tr.q (QS.move rfl) rfl ?_
        apply Tr.orP
        · exact (rfl : _ = (6, 61, 67))
        · exact rfl
        · intro hF11; have hF11' := hF11
          try simp only [bs] at hF11'
          refine Tr.gq rfl rfl hF11 (QS.move rfl) rfl ?_
          refine Tr.gq rfl rfl hF11 (QS.move rfl) rfl ?_
          refine Tr.gq rfl rfl hF11 (QS.sub32 (n := 16) rfl rfl) rfl ?_
          refine Tr.gq rfl rfl hF11 (QS.move rfl) rfl ?_
          refine Tr.gq rfl rfl hF11 (QS.call rfl Try.call53 (fun w hw => taken_any l V ((freeP l n from_).1 - 16) n w (hw.slF hV) hB)) rfl ?_
          refine Tr.q (QS.pickF rfl hF11 rfl) rfl ?_
          refine Tr.nil (Tr.thenN ?_)
          exact Tr.endX (Sub.cons rfl (Sub.dropN 6 (by kernel_rfl) rfl))
        · intro hT11
          refine Tr.gskip rfl rfl hT11 rfl ?_
          refine Tr.gskip rfl rfl hT11 rfl ?_
          refine Tr.gskip rfl rfl hT11 rfl ?_
          refine Tr.gskip rfl rfl hT11 rfl ?_
          refine Tr.gskip rfl rfl hT11 rfl ?_
          refine Tr.q (QS.pickT rfl hT11 rfl) rfl ?_
          refine Tr.nil (Tr.thenN ?_)
          exact Tr.endX (Sub.cons rfl (Sub.dropN 6 (by kernel_rfl) rfl))
        refine Tr.q (QS.move rfl) rfl ?_
        apply Tr.andP
        · exact (rfl : _ = (2, 68, 70))
        · exact rfl
        · intro hT12; have hT12' := hT12
          try simp only [bs] at hT12'
          refine Tr.gq rfl rfl hT12 (QS.call rfl Try.call39 (fun w hw => example05_any w)) rfl ?_
          refine Tr.q (QS.pickT rfl hT12 rfl) rfl ?_
          refine Tr.nil (Tr.thenN ?_)
          exact Tr.endX (Sub.cons rfl (Sub.dropN 2 (by kernel_rfl) rfl))
        · intro hF12
          refine Tr.gskip rfl rfl hF12 rfl ?_
          refine Tr.q (QS.pickF rfl hF12 rfl) rfl ?_
          refine Tr.nil (Tr.thenN ?_)
          exact Tr.endX (Sub.cons rfl (Sub.dropN 2 (by kernel_rfl) rfl))
        refine Tr.q (QS.assign rfl) rfl ?_
        refine Tr.nil ?_
        refine Tr.thenN ?_
        refine Tr.ret ?_
        refine Tr.ret1 Try.results14 rfl (fun w' hw => ?_)
        have hfin : (decide ((freeP l n from_).1 - from_ < 16) || takP l ((freeP l n from_).1 - 16) n) = true := by
          rcases f4 with q | q
          · rw [decide_eq_true q]; rfl
          · rw [q, Bool.or_true]
        exact ⟨by rw [hfin]; rfl, hw.below (Bg.le.refl _)⟩

end Go.Proofs.Ytfmhhakhbopfdaa
