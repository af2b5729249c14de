/- Own rules and walks, part 4. -/
import Derived.Test.YtmhbfelnjkhepaaGreatB3
set_option linter.unusedSimpArgs false
set_option linter.unusedVariables false
set_option linter.unusedSectionVars false
namespace Go.Proofs.YtmhbfelnjkhepaaGreat
open Go Go.HL Go.RowKit
set_option maxRecDepth 100000 in
set_option maxHeartbeats 2000000 in
theorem small13_any (ins : List Ins) (ents unk bad : List UInt32) (Vi Ve Vu Vb : Value) (w : World) (hV : Sl (hp w) encIns ins Vi) (hE : Sl (hp w) encU32 ents Ve) (hU : Sl (hp w) encU32 unk Vu) (hB : Sl (hp w) encU32 bad Vb) :
    Calls Tryz.prog 10 #[.agg #[Vi, Ve, Vu, Vb]] w (fun e w' => e = .returned (.bool (smallP ins ents unk bad)) ∧ Ext w w') := by
  have hV' : Sl (Bg.of w).blk encIns ins Vi := hV
  have hE' : Sl (Bg.of w).blk encU32 ents Ve := hE
  have hU' : Sl (Bg.of w).blk encU32 unk Vu := hU
  have hB' : Sl (Bg.of w).blk encU32 bad Vb := hB
  have g1 := hV.len_le
  have g2 := hE.len_le
  have g3 := hU.len_le
  have g4 := hB.len_le
  refine enter Tryz.func10 rfl Tryz.ntmps10 rfl ?_
  refine Tr.seq ?_
  refine Tr.region ?_
  refine Tr.box rfl rfl rfl (fun b1 => ?_)
  refine Tr.q (QS.assign rfl) rfl ?_
  refine Tr.nil ?_
  refine Tr.thenN ?_
  refine Tr.seq ?_
  refine Tr.region ?_
  refine Tr.q (QS.fieldAddr (off := 0) (ft := 22) rfl Tryz.underlying25 rfl rfl Tryz.sizeOf22 (by decide)) rfl ?_
  refine Tr.q (QS.lV rfl Tryz.isAgg22) rfl ?_
  refine Tr.q (QS.len rfl (by assumption) Tryz.underlying22) rfl ?_
  refine Tr.q (QS.leq rfl rfl) rfl ?_
  refine Tr.q (QS.move rfl) rfl ?_
  apply Tr.andP
  · exact (rfl : _ = (5, 7, 12))
  · exact rfl
  · intro hT2; have hT2' := hT2
    try simp only [bs] at hT2'
    refine Tr.gq rfl rfl hT2 (QS.fieldAddr (off := 1) (ft := 23) rfl Tryz.underlying25 rfl rfl Tryz.sizeOf23 (by decide)) rfl ?_
    refine Tr.gq rfl rfl hT2 (QS.lV rfl Tryz.isAgg23) rfl ?_
    refine Tr.gq rfl rfl hT2 (QS.len rfl (by assumption) Tryz.underlying23) rfl ?_
    refine Tr.gq rfl rfl hT2 (QS.leq rfl rfl) rfl ?_
    refine Tr.q (QS.pickT rfl hT2 rfl) rfl ?_
    refine Tr.nil (Tr.thenN ?_)
    exact Tr.endX (Sub.cons rfl (Sub.dropN 5 (by kernel_rfl) rfl))
  · intro hF2
    refine Tr.gskip rfl rfl hF2 rfl ?_
    refine Tr.gskip rfl rfl hF2 rfl ?_
    refine Tr.gskip rfl rfl hF2 rfl ?_
    refine Tr.gskip rfl rfl hF2 rfl ?_
    refine Tr.q (QS.pickF rfl hF2 rfl) rfl ?_
    refine Tr.nil (Tr.thenN ?_)
    exact Tr.endX (Sub.cons rfl (Sub.dropN 5 (by kernel_rfl) rfl))
  refine Tr.q (QS.move rfl) rfl ?_
  apply Tr.andP
  · exact (rfl : _ = (5, 13, 18))
  · exact rfl
  · intro hT3; have hT3' := hT3
    try simp only [bs] at hT3'
    refine Tr.gq rfl rfl hT3 (QS.fieldAddr (off := 2) (ft := 23) rfl Tryz.underlying25 rfl rfl Tryz.sizeOf23 (by decide)) rfl ?_
    refine Tr.gq rfl rfl hT3 (QS.lV rfl Tryz.isAgg23) rfl ?_
    refine Tr.gq rfl rfl hT3 (QS.len rfl (by assumption) Tryz.underlying23) rfl ?_
    refine Tr.gq rfl rfl hT3 (QS.leq rfl rfl) rfl ?_
    refine Tr.q (QS.pickT rfl hT3 rfl) rfl ?_
    refine Tr.nil (Tr.thenN ?_)
    exact Tr.endX (Sub.cons rfl (Sub.dropN 5 (by kernel_rfl) rfl))
  · intro hF3
    refine Tr.gskip rfl rfl hF3 rfl ?_
    refine Tr.gskip rfl rfl hF3 rfl ?_
    refine Tr.gskip rfl rfl hF3 rfl ?_
    refine Tr.gskip rfl rfl hF3 rfl ?_
    refine Tr.q (QS.pickF rfl hF3 rfl) rfl ?_
    refine Tr.nil (Tr.thenN ?_)
    exact Tr.endX (Sub.cons rfl (Sub.dropN 5 (by kernel_rfl) rfl))
  refine Tr.q (QS.move rfl) rfl ?_
  apply Tr.andP
  · exact (rfl : _ = (5, 19, 24))
  · exact rfl
  · intro hT4; have hT4' := hT4
    try simp only [bs] at hT4'
    refine Tr.gq rfl rfl hT4 (QS.fieldAddr (off := 3) (ft := 23) rfl Tryz.underlying25 rfl rfl Tryz.sizeOf23 (by decide)) rfl ?_
    refine Tr.gq rfl rfl hT4 (QS.lV rfl Tryz.isAgg23) rfl ?_
    refine Tr.gq rfl rfl hT4 (QS.len rfl (by assumption) Tryz.underlying23) rfl ?_
    refine Tr.gq rfl rfl hT4 (QS.leq rfl rfl) rfl ?_
    refine Tr.q (QS.pickT rfl hT4 rfl) rfl ?_
    refine Tr.nil (Tr.thenN ?_)
    exact Tr.endX (Sub.cons rfl (Sub.dropN 5 (by kernel_rfl) rfl))
  · intro hF4
    refine Tr.gskip rfl rfl hF4 rfl ?_
    refine Tr.gskip rfl rfl hF4 rfl ?_
    refine Tr.gskip rfl rfl hF4 rfl ?_
    refine Tr.gskip rfl rfl hF4 rfl ?_
    refine Tr.q (QS.pickF rfl hF4 rfl) rfl ?_
    refine Tr.nil (Tr.thenN ?_)
    exact Tr.endX (Sub.cons rfl (Sub.dropN 5 (by kernel_rfl) rfl))
  refine Tr.q (QS.assign rfl) rfl ?_
  refine Tr.nil ?_
  refine Tr.thenN ?_
  refine Tr.ret ?_
  refine Tr.ret1 Tryz.results10 rfl (fun w' hw => ?_)
  exact ⟨by rfl, hw.below (Bg.le.refl _)⟩
set_option maxRecDepth 100000 in
set_option maxHeartbeats 2000000 in
theorem program13_any (Vi Ve Vu Vb : Value) (w : World) (hsh : (∃ p n c, Vi = .slice p n c) ∧ (∃ p n c, Ve = .slice p n c) ∧ (∃ p n c, Vu = .slice p n c) ∧ ∃ p n c, Vb = .slice p n c) :
    Calls Tryz.prog 13 #[.agg #[Vi, Ve, Vu, Vb]] w (fun e w' => e = .returned (.agg #[Vi, Ve, Vu, Vb]) ∧ Ext w w') := by
  obtain ⟨⟨p1, n1, c1, rfl⟩, ⟨p2, n2, c2, rfl⟩, ⟨p3, n3, c3, rfl⟩, ⟨p4, n4, c4, rfl⟩⟩ := hsh
  refine enter Tryz.func13 rfl Tryz.ntmps13 rfl ?_
  refine Tr.seq ?_
  refine Tr.region ?_
  refine Tr.box rfl rfl rfl (fun b1 => ?_)
  refine Tr.alloc Tryz.zeroValue28 rfl rfl (fun b2 => ?_)
  refine Tr.nil ?_
  refine Tr.thenN ?_
  refine Tr.seq ?_
  refine Tr.region ?_
  refine Tr.q (QS.fieldAddr (off := 0) (ft := 22) rfl Tryz.underlying25 rfl rfl Tryz.sizeOf22 (by decide)) rfl ?_
  refine Tr.q (QS.lV rfl Tryz.isAgg22) rfl ?_
  refine Tr.q (QS.fieldAddr (off := 1) (ft := 23) rfl Tryz.underlying25 rfl rfl Tryz.sizeOf23 (by decide)) rfl ?_
  refine Tr.q (QS.lV rfl Tryz.isAgg23) rfl ?_
  refine Tr.q (QS.fieldAddr (off := 2) (ft := 23) rfl Tryz.underlying25 rfl rfl Tryz.sizeOf23 (by decide)) rfl ?_
  refine Tr.q (QS.lV rfl Tryz.isAgg23) rfl ?_
  refine Tr.q (QS.fieldAddr (off := 3) (ft := 23) rfl Tryz.underlying25 rfl rfl Tryz.sizeOf23 (by decide)) rfl ?_
  refine Tr.q (QS.lV rfl Tryz.isAgg23) rfl ?_
  refine Tr.q (QS.build (vs := [(0, _), (1, _), (2, _), (3, _)]) rfl rfl rfl) rfl ?_
  refine Tr.storeW rfl rfl Tryz.sizeOf28 (by repeat (first | exact Put.here _ | apply Put.there)) (by rfl) (by rfl) (by first | exact List.all_eq_true.1 rfl | exact Enc.one _ _ | (intro u hu; simp [Value.cells] at hu; simp_all [Value.oneCell'])) rfl ?_
  refine Tr.nil ?_
  refine Tr.thenN ?_
  refine Tr.ret ?_
  refine Tr.retC1 Tryz.results13 rfl (by repeat (first | exact List.Mem.head _ | apply List.Mem.tail)) Tryz.isAgg28 Tryz.sizeOf28 (by rfl) (fun w' hw => ?_)
  exact ⟨rfl, hw.below (Bg.le.refl _)⟩
set_option maxRecDepth 100000 in
set_option maxHeartbeats 2000000 in
theorem has13_any (l : List Ins) (V : Value) (i : Ins) (w : World) (hV : Sl (hp w) encIns l V) :
    Calls Tryz.prog 16 #[V, .agg (encIns.enc i).toArray] w (fun e w' => e = .returned (.bool (l.any fun x => decide (x = i))) ∧ Ext w w') := by
  have hV' : Sl (Bg.of w).blk encIns l V := hV
  have hlen := hV.len_le
  refine enter Tryz.func16 rfl Tryz.ntmps16 rfl ?_
  refine Tr.seq ?_
  refine Tr.region ?_
  refine Tr.box rfl rfl rfl (fun b1 => ?_)
  refine Tr.q (QS.assign rfl) rfl ?_
  refine Tr.nil ?_
  refine Tr.thenN ?_
  refine Tr.seq ?_
  refine Tr.seq ?_
  refine Tr.region ?_
  refine Tr.q (QS.assign rfl) rfl ?_
  refine Tr.nil ?_
  refine Tr.thenN ?_
  refine Tr.block ?_
  refine Tr.loop (ι := Nat) (fun k => k ≤ l.length ∧ (l.take k).any (fun x => decide (x = i)) = false) (fun _ => _) (fun k => [cellE b1 (encIns.enc i) 35]) (fun k => [(5, .int .i64 (k : Nat))]) (fun k => l.length - k) 0 ⟨Nat.zero_le _, rfl⟩ (.cons (by first | rfl | exact lookI rfl (by omega) | exact lookI rfl (by simp) | exact lookB rfl (by simp)) Front.nil) (by repeat' (first | exact Pick.nil _ | exact Del.here _ | apply Pick.cons | apply Del.there)) rfl (fun k hi m hm => ?_)
  replace hi : k ≤ l.length ∧ (l.take k).any (fun x => decide (x = i)) = false := hi
  replace hm : m = l.length - k := hm
  change Tr _ _ [cellE b1 (encIns.enc i) 35] ([(5, .int .i64 (k : Nat))] ++ _) _
  obtain ⟨hk1, hk2⟩ := hi
  refine Tr.seq ?_
  refine Tr.seq ?_
  refine Tr.region ?_
  refine Tr.q (QS.move rfl) rfl ?_
  refine Tr.q (QS.move rfl) rfl ?_
  refine Tr.q (QS.len rfl (by assumption) Tryz.underlying22) rfl ?_
  refine Tr.q (QS.lss rfl rfl) rfl ?_
  refine Tr.nil ?_
  refine Tr.thenN ?_
  refine Tr.cond rfl (fun h2 => ?_) (fun h2 => ?_)
  · try simp only [bs] at h2
    refine Tr.skip ?_
    refine Tr.thenN ?_
    refine Tr.seq ?_
    refine Tr.block ?_
    refine Tr.seq ?_
    refine Tr.regionQ HLF.mixed (by kernel_rfl) ?_
    refine TrQ.q (QS.move rfl) rfl ?_
    refine TrQ.q (QS.move rfl) rfl ?_
    refine TrQ.q (QS.idxN rfl rfl (by assumption) Tryz.underlying22 Tryz.sizeOf35 (by rfl) (by omega)) rfl ?_
    refine TrQ.q (QS.elA rfl (by assumption) Tryz.isAgg35 Tryz.sizeOf35 (by rfl) (by omega)) rfl ?_
    refine TrQ.q (QS.lW rfl Tryz.isAgg35 Tryz.sizeOf35) rfl ?_
    refine TrQ.q (QS.eqlE rfl rfl insEqEnc Tryz.underlying35 (HLF.words35 _ Tryz.underlying35) rfl HLF.held35 HLF.eqg35) rfl ?_
    refine TrQ.nil ?_
    refine Tr.thenN ?_
    refine Tr.cond rfl (fun h3 => ?_) (fun h3 => ?_)
    · try simp only [bs] at h3
      refine Tr.seq ?_
      refine Tr.region ?_
      refine Tr.q (QS.assign rfl) rfl ?_
      refine Tr.nil ?_
      refine Tr.thenN ?_
      refine Tr.ret ?_
      refine Tr.inR ?_
      refine Tr.thenR ?_
      refine Tr.thenR ?_
      refine Tr.inR ?_
      refine Tr.thenR ?_
      refine Tr.ret1 Tryz.results16 rfl (fun w' hw => ?_)
      exact ⟨by rw [show (l.any fun x => decide (x = i)) = true from List.any_eq_true.2 ⟨_, mem_getD (k := k) (by omega), decide_eq_true (by assumption)⟩], hw.below (Bg.le.refl _)⟩
    · try simp only [bs] at h3
      refine Tr.skip ?_
      refine Tr.inN ?_
      refine Tr.thenN ?_
      refine Tr.region ?_
      refine Tr.q (QS.move rfl) rfl ?_
      refine Tr.q (QS.addI rfl rfl (by omega)) rfl ?_
      refine Tr.q (QS.assign rfl) rfl ?_
      refine Tr.nil ?_
      refine Tr.thenN ?_
      apply Tr.again (k + 1)
      · exact rfl
      · exact (.cons (by first | rfl | exact lookI rfl (by omega) | exact lookI rfl (by simp) | exact lookB rfl (by simp)) Front.nil)
      · exact SubX.dropN 14 (by kernel_rfl) rfl
      · exact (by repeat' (first | exact Pick.nil _ | exact Del.here _ | apply Pick.cons | apply Del.there))
      · exact ⟨by omega, by rw [any_take_succ (by omega), hk2, Bool.false_or]; exact decide_eq_false (by assumption)⟩
      · exact (by (try dsimp only); omega)
  · try simp only [bs] at h2
    refine Tr.exit ?_
    refine Tr.thenE ?_
    refine Tr.thenE ?_
    refine Tr.inHit ?_
    refine Tr.thenN ?_
    refine Tr.seq ?_
    refine Tr.region ?_
    refine Tr.q (QS.assign rfl) rfl ?_
    refine Tr.nil ?_
    refine Tr.thenN ?_
    refine Tr.ret ?_
    refine Tr.ret1 Tryz.results16 rfl (fun w' hw => ?_)
    obtain rfl : k = l.length := by omega
    rw [List.take_length] at hk2
    exact ⟨by rw [hk2], hw.below (Bg.le.refl _)⟩
set_option maxRecDepth 100000 in
set_option maxHeartbeats 2000000 in
theorem begins13_any (l : List Ins) (V : Value) (a : UInt32) (w : World) (hV : Sl (hp w) encIns l V) :
    Calls Tryz.prog 18 #[V, .int .u32 a.toNat] w (fun e w' => e = .returned (.bool (inK l a)) ∧ Ext w w') := by
  have hV' : Sl (Bg.of w).blk encIns l V := hV
  have hlen := hV.len_le
  refine enter Tryz.func18 rfl Tryz.ntmps18 rfl ?_
  refine Tr.seq ?_
  refine Tr.region ?_
  refine Tr.q (QS.assign rfl) rfl ?_
  refine Tr.nil ?_
  refine Tr.thenN ?_
  refine Tr.seq ?_
  refine Tr.seq ?_
  refine Tr.region ?_
  refine Tr.q (QS.assign rfl) rfl ?_
  refine Tr.nil ?_
  refine Tr.thenN ?_
  refine Tr.block ?_
  refine Tr.loop (ι := Nat) (fun k => k ≤ l.length ∧ inK (l.take k) a = false) (fun _ => _) (fun k => []) (fun k => [(5, .int .i64 (k : Nat))]) (fun k => l.length - k) 0 ⟨Nat.zero_le _, rfl⟩ (.cons (by first | rfl | exact lookI rfl (by omega) | exact lookI rfl (by simp) | exact lookB rfl (by simp)) Front.nil) (by repeat' (first | exact Pick.nil _ | exact Del.here _ | apply Pick.cons | apply Del.there)) rfl (fun k hi m hm => ?_)
  replace hi : k ≤ l.length ∧ inK (l.take k) a = false := hi
  replace hm : m = l.length - k := hm
  change Tr _ _ [] ([(5, .int .i64 (k : Nat))] ++ _) _
  obtain ⟨hk1, hk2⟩ := hi
  refine Tr.seq ?_
  refine Tr.seq ?_
  refine Tr.region ?_
  refine Tr.q (QS.move rfl) rfl ?_
  refine Tr.q (QS.move rfl) rfl ?_
  refine Tr.q (QS.len rfl (by assumption) Tryz.underlying22) rfl ?_
  refine Tr.q (QS.lss rfl rfl) rfl ?_
  refine Tr.nil ?_
  refine Tr.thenN ?_
  refine Tr.cond rfl (fun h1 => ?_) (fun h1 => ?_)
  · try simp only [bs] at h1
    refine Tr.skip ?_
    refine Tr.thenN ?_
    refine Tr.seq ?_
    refine Tr.block ?_
    refine Tr.seq ?_
    refine Tr.region ?_
    refine Tr.q (QS.move rfl) rfl ?_
    refine Tr.q (QS.move rfl) rfl ?_
    refine Tr.q (QS.idxN rfl rfl (by assumption) Tryz.underlying22 Tryz.sizeOf35 (by rfl) (by omega)) rfl ?_
    refine Tr.q (QS.fieldAddr (off := 0) (ft := 33) rfl Tryz.underlying35 rfl rfl Tryz.sizeOf33 (by decide)) rfl ?_
    refine Tr.q (QS.elF rfl (by assumption) Tryz.isAgg33 (by omega) (by rfl)) rfl ?_
    refine Tr.q (QS.move rfl) rfl ?_
    refine Tr.q (QS.eql32 rfl rfl) rfl ?_
    refine Tr.nil ?_
    refine Tr.thenN ?_
    refine Tr.cond rfl (fun h2 => ?_) (fun h2 => ?_)
    · try simp only [bs] at h2
      refine Tr.seq ?_
      refine Tr.region ?_
      refine Tr.q (QS.assign rfl) rfl ?_
      refine Tr.nil ?_
      refine Tr.thenN ?_
      refine Tr.ret ?_
      refine Tr.inR ?_
      refine Tr.thenR ?_
      refine Tr.thenR ?_
      refine Tr.inR ?_
      refine Tr.thenR ?_
      refine Tr.ret1 Tryz.results18 rfl (fun w' hw => ?_)
      exact ⟨by rw [show inK l a = true from List.any_eq_true.2 ⟨_, mem_getD (k := k) (by omega), decide_eq_true (by assumption)⟩], hw.below (Bg.le.refl _)⟩
    · try simp only [bs] at h2
      refine Tr.skip ?_
      refine Tr.inN ?_
      refine Tr.thenN ?_
      refine Tr.region ?_
      refine Tr.q (QS.move rfl) rfl ?_
      refine Tr.q (QS.addI rfl rfl (by omega)) rfl ?_
      refine Tr.q (QS.assign rfl) rfl ?_
      refine Tr.nil ?_
      refine Tr.thenN ?_
      unfold inK at hk2
      apply Tr.again (k + 1)
      · exact rfl
      · exact (.cons (by first | rfl | exact lookI rfl (by omega) | exact lookI rfl (by simp) | exact lookB rfl (by simp)) Front.nil)
      · exact SubX.dropN 15 (by kernel_rfl) rfl
      · exact (by repeat' (first | exact Pick.nil _ | exact Del.here _ | apply Pick.cons | apply Del.there))
      · exact ⟨by omega, by rw [inK, any_take_succ (by omega), hk2, Bool.false_or]; exact decide_eq_false (by assumption)⟩
      · exact (by (try dsimp only); omega)
  · try simp only [bs] at h1
    refine Tr.exit ?_
    refine Tr.thenE ?_
    refine Tr.thenE ?_
    refine Tr.inHit ?_
    refine Tr.thenN ?_
    refine Tr.seq ?_
    refine Tr.region ?_
    refine Tr.q (QS.assign rfl) rfl ?_
    refine Tr.nil ?_
    refine Tr.thenN ?_
    refine Tr.ret ?_
    refine Tr.ret1 Tryz.results18 rfl (fun w' hw => ?_)
    obtain rfl : k = l.length := by omega
    rw [List.take_length] at hk2
    exact ⟨by rw [hk2], hw.below (Bg.le.refl _)⟩
end Go.Proofs.YtmhbfelnjkhepaaGreat
namespace Go.Proofs.YtmhbfelnjkhepaaGreat
open Go Go.HL Go.RowKit
set_option maxRecDepth 100000 in
set_option maxHeartbeats 8000000 in
theorem resolved13_true (ins : List Ins) (ents unk bad : List UInt32) (Vi Ve Vu Vb : Value) (w : World) (hV : Sl (hp w) encIns ins Vi) (hE : Sl (hp w) encU32 ents Ve) (hU : Sl (hp w) encU32 unk Vu) (hB : Sl (hp w) encU32 bad Vb) (hI : ∀ x ∈ ins, InsOK x) :
    Calls Tryz.prog 3 #[.agg #[Vi, Ve, Vu, Vb]] w (fun e w' => e = .returned (.bool true) ∧ Ext w w') := by
  have hV' : Sl (Bg.of w).blk encIns ins Vi := hV
  have hE' : Sl (Bg.of w).blk encU32 ents Ve := hE
  have hU' : Sl (Bg.of w).blk encU32 unk Vu := hU
  have hB' : Sl (Bg.of w).blk encU32 bad Vb := hB
  have hsh : (∃ p n c, Vi = .slice p n c) ∧ (∃ p n c, Ve = .slice p n c) ∧ (∃ p n c, Vu = .slice p n c) ∧ ∃ p n c, Vb = .slice p n c := by
    obtain ⟨si, ci, h1, _⟩ := hV.shape
    obtain ⟨se, ce, h2, _⟩ := hE.shape
    obtain ⟨su, cu, h3, _⟩ := hU.shape
    obtain ⟨sb, cb, h4, _⟩ := hB.shape
    exact ⟨⟨_, _, _, h1⟩, ⟨_, _, _, h2⟩, ⟨_, _, _, h3⟩, ⟨_, _, _, h4⟩⟩
  have hIx : ∀ x, x < ins.length → InsOK (ins.getD x default) := fun x hx => hI _ (mem_getD hx)
  have hil := hV.len_le
  refine enter Tryz.func3 rfl Tryz.ntmps3 rfl ?_
  refine Tr.seq ?_
  refine Tr.region ?_
  refine Tr.box rfl rfl rfl (fun b1 => ?_)
  refine Tr.q (QS.assign rfl) rfl ?_
  refine Tr.nil ?_
  refine Tr.thenN ?_
  refine Tr.seq ?_
  refine Tr.seq ?_
  refine Tr.region ?_
  refine Tr.q (QS.lW rfl Tryz.isAgg25 Tryz.sizeOf25) rfl ?_
  refine Tr.q (QS.call rfl Tryz.call10 (fun w hw => small13_any ins ents unk bad Vi Ve Vu Vb w (hw.slF hV') (hw.slF hE') (hw.slF hU') (hw.slF hB'))) rfl ?_
  refine Tr.q (QS.not rfl) rfl ?_
  refine Tr.nil ?_
  refine Tr.thenN ?_
  refine Tr.cond rfl (fun h2 => ?_) (fun h2 => ?_)
  · try simp only [bs] at h2
    refine Tr.seq ?_
    refine Tr.region ?_
    refine Tr.q (QS.call rfl Tryz.call11 (fun w hw => example13_any w)) rfl ?_
    refine Tr.q (QS.assign rfl) rfl ?_
    refine Tr.nil ?_
    refine Tr.thenN ?_
    refine Tr.ret ?_
    refine Tr.thenR ?_
    refine Tr.ret1 Tryz.results3 rfl (fun w' hw => ?_)
    exact ⟨rfl, hw.below (Bg.le.refl _)⟩
  · try simp only [bs] at h2
    refine Tr.skip ?_
    refine Tr.thenN ?_
    refine Tr.seq ?_
    obtain ⟨sm1, sm2, sm3, sm4⟩ := small_iff.1 (by simp_all : smallP ins ents unk bad = true)
    refine Tr.region ?_
    refine Tr.q (QS.lW rfl Tryz.isAgg25 Tryz.sizeOf25) rfl ?_
    refine Tr.q (QS.call rfl Tryz.call13 (fun w hw => program13_any Vi Ve Vu Vb w hsh)) rfl ?_
    refine Tr.callEnts (fun i : Value × Value × Value × Value × Value => .tuple #[.agg #[i.1, i.2.1, i.2.2.1, i.2.2.2.1], i.2.2.2.2]) (fun i => [rowE i.1 35 encIns (resP ins ents unk bad).kept, rowE i.2.1 33 encU32 (resP ins ents unk bad).ents, rowE i.2.2.1 33 encU32 (resP ins ents unk bad).unk, rowE i.2.2.2.1 33 encU32 (resP ins ents unk bad).bad, rowE i.2.2.2.2 33 encU32 (resP ins ents unk bad).rem]) (ok := fun _ => True) rfl Tryz.call12 (fun w hw => (resolve_any ins ents unk bad Vi Ve Vu Vb w (hw.slF hV') (hw.slF hE') (hw.slF hU') (hw.slF hB') hI (by omega) (by omega) (by omega) (by omega)).mono fun e w' ⟨i, q1, q2, q3⟩ => ⟨i, q1, q2, q3, trivial⟩) rfl (fun i1 _ => ?_)
    obtain ⟨Vk, Vf, Vg, Vh, Vr⟩ := i1
    refine Tr.rowShape (V := Vk) (by repeat (first | exact List.Mem.head _ | apply List.Mem.tail)) (fun pVk cVk hpv => ?_)
    subst hpv
    refine Tr.rowShape (V := Vf) (by repeat (first | exact List.Mem.head _ | apply List.Mem.tail)) (fun pVf cVf hpv => ?_)
    subst hpv
    refine Tr.rowShape (V := Vg) (by repeat (first | exact List.Mem.head _ | apply List.Mem.tail)) (fun pVg cVg hpv => ?_)
    subst hpv
    refine Tr.rowShape (V := Vh) (by repeat (first | exact List.Mem.head _ | apply List.Mem.tail)) (fun pVh cVh hpv => ?_)
    subst hpv
    refine Tr.rowShape (V := Vr) (by repeat (first | exact List.Mem.head _ | apply List.Mem.tail)) (fun pVr cVr hpv => ?_)
    subst hpv
    obtain ⟨kp, hkp⟩ : ∃ r, r = (resP ins ents unk bad).kept := ⟨_, rfl⟩
    obtain ⟨ep, hep⟩ : ∃ r, r = (resP ins ents unk bad).ents := ⟨_, rfl⟩
    obtain ⟨up, hup⟩ : ∃ r, r = (resP ins ents unk bad).unk := ⟨_, rfl⟩
    obtain ⟨bp, hbp⟩ : ∃ r, r = (resP ins ents unk bad).bad := ⟨_, rfl⟩
    obtain ⟨rp, hrp⟩ : ∃ r, r = (resP ins ents unk bad).rem := ⟨_, rfl⟩
    simp only [← hkp, ← hep, ← hup, ← hbp, ← hrp]
    obtain ⟨rl1, rl2, rl3, rl4, rl5⟩ := resolved_law ins ents unk bad
    rw [← hkp] at rl1 rl2 rl3 rl4 rl5
    rw [← hrp] at rl3 rl4 rl5
    have hkl : kp.length ≤ 200 := by
      have := countP_len ins
      have q := res_len ins ents unk bad
      rw [← hkp] at q; omega
    have hkI : ∀ x ∈ kp, InsOK x := fun x hx => hI x (countP_sub (res_in (by rw [hkp] at hx; exact hx)))
    have hkx : ∀ x, x < kp.length → InsOK (kp.getD x default) := fun x hx => hkI _ (mem_getD hx)
    have hrl : rp.length ≤ 200 := by
      have := countP_len ins
      have q := rem_len (countP ins) (resP ins ents unk bad).kept
      rw [show remP (countP ins) (resP ins ents unk bad).kept = rp from hrp.symm] at q; omega
    refine Tr.q (QS.move rfl) rfl ?_
    refine Tr.q (QS.extract rfl rfl) rfl ?_
    refine Tr.q (QS.extract rfl rfl) rfl ?_
    refine Tr.alloc Tryz.zeroValue28 rfl rfl (fun b3 => ?_)
    refine Tr.storeW rfl rfl Tryz.sizeOf28 (by repeat (first | exact Put.here _ | apply Put.there)) (by rfl) (by rfl) (by first | exact List.all_eq_true.1 rfl | exact Enc.one _ _ | (intro u hu; simp [Value.cells] at hu; simp_all [Value.oneCell'])) rfl ?_
    refine Tr.q (QS.assign rfl) rfl ?_
    refine Tr.nil ?_
    refine Tr.thenN ?_
    refine Tr.seq ?_
    refine Tr.seq ?_
    refine Tr.region ?_
    refine Tr.q (QS.fieldAddr (off := 0) (ft := 22) rfl Tryz.underlying28 rfl rfl Tryz.sizeOf22 (by decide)) rfl ?_
    refine Tr.q (QS.lV rfl Tryz.isAgg22) rfl ?_
    refine Tr.q (QS.call rfl Tryz.call14 (fun w hw => (by have q := clean_any kp _ w (hw.row (l := kp) (by repeat (first | exact List.Mem.head _ | apply List.Mem.tail))) hkI hkl; rw [rl1] at q; exact q : Calls Tryz.prog 14 #[_] w (fun e w' => e = .returned (.bool true) ∧ Ext w w')))) rfl ?_
    refine Tr.q (QS.not rfl) rfl ?_
    refine Tr.nil ?_
    refine Tr.thenN ?_
    refine Tr.cond rfl (fun h4 => ?_) (fun h4 => ?_)
    · try simp only [bs] at h4
      refine Tr.seq ?_
      refine Tr.region ?_
      refine Tr.q (QS.assign rfl) rfl ?_
      refine Tr.nil ?_
      refine Tr.thenN ?_
      refine Tr.ret ?_
      refine Tr.thenR ?_
      refine Tr.ret1 Tryz.results3 rfl (fun w' hw => ?_)
      exfalso; simp_all
    · try simp only [bs] at h4
      refine Tr.skip ?_
      refine Tr.thenN ?_
      refine Tr.seq ?_
      refine Tr.seq ?_
      refine Tr.region ?_
      refine Tr.q (QS.assign rfl) rfl ?_
      refine Tr.nil ?_
      refine Tr.thenN ?_
      refine Tr.block ?_
      refine Tr.loop (ι := Nat) (fun i => i ≤ kp.length) (fun _ => _) (fun i => [cellE b3 [.slice pVk kp.length cVk, .slice pVf ep.length cVf, .slice pVg up.length cVg, .slice pVh bp.length cVh] 28, rowE (.slice pVk kp.length cVk) 35 encIns kp, rowE (.slice pVf ep.length cVf) 33 encU32 ep, rowE (.slice pVr rp.length cVr) 33 encU32 rp, cellE b1 [Vi, Ve, Vu, Vb] 25]) (fun i => [(5, .int .i64 (i : Nat))]) (fun i => kp.length - i) 0 (Nat.zero_le _) (.cons (by first | rfl | exact lookI rfl (by omega) | exact lookI rfl (by simp) | exact lookB rfl (by simp)) Front.nil) (by repeat' (first | exact Pick.nil _ | exact Del.here _ | apply Pick.cons | apply Del.there)) rfl (fun i hi m hm => ?_)
      replace hi : i ≤ kp.length := hi
      replace hm : m = kp.length - i := hm
      change Tr _ _ [cellE b3 [.slice pVk kp.length cVk, .slice pVf ep.length cVf, .slice pVg up.length cVg, .slice pVh bp.length cVh] 28, rowE (.slice pVk kp.length cVk) 35 encIns kp, rowE (.slice pVf ep.length cVf) 33 encU32 ep, rowE (.slice pVr rp.length cVr) 33 encU32 rp, cellE b1 [Vi, Ve, Vu, Vb] 25] ([(5, .int .i64 (i : Nat))] ++ _) _
      have hj : ((i : Int) - 1).toNat = i - 1 := by omega
      have g2 := fun (p : 0 < i) (q : i < kp.length) => rl2 i p q
      have g3 := fun (q : i < kp.length) => rl3 i q
      refine Tr.seq ?_
      refine Tr.seq ?_
      refine Tr.region ?_
      refine Tr.q (QS.move rfl) rfl ?_
      refine Tr.q (QS.fieldAddr (off := 0) (ft := 22) rfl Tryz.underlying28 rfl rfl Tryz.sizeOf22 (by decide)) rfl ?_
      refine Tr.q (QS.lV rfl Tryz.isAgg22) rfl ?_
      refine Tr.q (QS.lenRow rfl (by repeat (first | exact List.Mem.head _ | apply List.Mem.tail)) Tryz.underlying22) rfl ?_
      refine Tr.q (QS.lss rfl rfl) rfl ?_
      refine Tr.nil ?_
      refine Tr.thenN ?_
      refine Tr.cond rfl (fun h5 => ?_) (fun h5 => ?_)
      · try simp only [bs] at h5
        refine Tr.skip ?_
        refine Tr.thenN ?_
        refine Tr.seq ?_
        refine Tr.block ?_
        refine Tr.seq ?_
        refine Tr.regionQ HLF.mixed (by kernel_rfl) ?_
        refine TrQ.q (QS.move rfl) rfl ?_
        refine TrQ.q (QS.gtr rfl rfl) rfl ?_
        refine TrQ.q (QS.move rfl) rfl ?_
        apply TrQ.andP
        · exact (rfl : _ = (15, 35, 50))
        · exact rfl
        · intro hT6; have hT6' := hT6
          try simp only [bs] at hT6'
          refine TrQ.gq rfl rfl hT6 (QS.fieldAddr (off := 0) (ft := 22) rfl Tryz.underlying28 rfl rfl Tryz.sizeOf22 (by decide)) rfl ?_
          refine TrQ.gq rfl rfl hT6 (QS.lV rfl Tryz.isAgg22) rfl ?_
          refine TrQ.gq rfl rfl hT6 (QS.move rfl) rfl ?_
          refine TrQ.gq rfl rfl hT6 (QS.idxRowN rfl rfl (by repeat (first | exact List.Mem.head _ | apply List.Mem.tail)) Tryz.underlying22 Tryz.sizeOf35 (by rfl) (by omega)) rfl ?_
          refine TrQ.gq rfl rfl hT6 (QS.fieldAddr (off := 0) (ft := 33) rfl Tryz.underlying35 rfl rfl Tryz.sizeOf33 (by decide)) rfl ?_
          refine TrQ.gq rfl rfl hT6 (QS.elRF rfl (by repeat (first | exact List.Mem.head _ | apply List.Mem.tail)) Tryz.isAgg33 (by omega) (by rfl)) rfl ?_
          refine TrQ.gq rfl rfl hT6 (QS.fieldAddr (off := 0) (ft := 22) rfl Tryz.underlying28 rfl rfl Tryz.sizeOf22 (by decide)) rfl ?_
          refine TrQ.gq rfl rfl hT6 (QS.lV rfl Tryz.isAgg22) rfl ?_
          refine TrQ.gq rfl rfl hT6 (QS.move rfl) rfl ?_
          refine TrQ.gq rfl rfl hT6 (QS.subI rfl rfl (by omega)) rfl ?_
          refine TrQ.gq rfl rfl hT6 (QS.idxRow rfl rfl (by repeat (first | exact List.Mem.head _ | apply List.Mem.tail)) Tryz.underlying22 Tryz.sizeOf35 (by rfl) (by omega)) rfl ?_
          refine TrQ.gq rfl rfl hT6 (QS.fieldAddr (off := 0) (ft := 33) rfl Tryz.underlying35 rfl rfl Tryz.sizeOf33 (by decide)) rfl ?_
          refine TrQ.gq rfl rfl hT6 (QS.elRF rfl (by repeat (first | exact List.Mem.head _ | apply List.Mem.tail)) Tryz.isAgg33 (by omega) (by rfl)) rfl ?_
          refine TrQ.gq rfl rfl hT6 (QS.leq32 rfl rfl) rfl ?_
          refine TrQ.q (QS.pickT rfl hT6 rfl) rfl ?_
          exact TrQ.end (Sub.cons rfl (Sub.dropN 15 (by kernel_rfl) rfl))
        · intro hF6
          refine TrQ.gskip rfl rfl hF6 rfl ?_
          refine TrQ.gskip rfl rfl hF6 rfl ?_
          refine TrQ.gskip rfl rfl hF6 rfl ?_
          refine TrQ.gskip rfl rfl hF6 rfl ?_
          refine TrQ.gskip rfl rfl hF6 rfl ?_
          refine TrQ.gskip rfl rfl hF6 rfl ?_
          refine TrQ.gskip rfl rfl hF6 rfl ?_
          refine TrQ.gskip rfl rfl hF6 rfl ?_
          refine TrQ.gskip rfl rfl hF6 rfl ?_
          refine TrQ.gskip rfl rfl hF6 rfl ?_
          refine TrQ.gskip rfl rfl hF6 rfl ?_
          refine TrQ.gskip rfl rfl hF6 rfl ?_
          refine TrQ.gskip rfl rfl hF6 rfl ?_
          refine TrQ.gskip rfl rfl hF6 rfl ?_
          refine TrQ.q (QS.pickF rfl hF6 rfl) rfl ?_
          exact TrQ.end (Sub.cons rfl (Sub.dropN 15 (by kernel_rfl) rfl))
        refine TrQ.q (QS.move rfl) rfl ?_
        apply TrQ.orP
        · exact (rfl : _ = (8, 51, 59))
        · exact rfl
        · intro hF7; have hF7' := hF7
          try simp only [bs] at hF7'
          refine TrQ.gq rfl rfl hF7 (QS.fieldAddr (off := 0) (ft := 22) rfl Tryz.underlying28 rfl rfl Tryz.sizeOf22 (by decide)) rfl ?_
          refine TrQ.gq rfl rfl hF7 (QS.lV rfl Tryz.isAgg22) rfl ?_
          refine TrQ.gq rfl rfl hF7 (QS.move rfl) rfl ?_
          refine TrQ.gq rfl rfl hF7 (QS.idxRowN rfl rfl (by repeat (first | exact List.Mem.head _ | apply List.Mem.tail)) Tryz.underlying22 Tryz.sizeOf35 (by rfl) (by omega)) rfl ?_
          refine TrQ.gq rfl rfl hF7 (QS.elRA rfl (by repeat (first | exact List.Mem.head _ | apply List.Mem.tail)) Tryz.isAgg35 Tryz.sizeOf35 (by rfl) (by omega)) rfl ?_
          refine TrQ.gq rfl rfl hF7 (QS.call rfl Tryz.call15 (fun w hw => valid_isa (kp.getD i default) w (hkx _ (by omega)))) rfl ?_
          refine TrQ.gq rfl rfl hF7 (QS.not rfl) rfl ?_
          refine TrQ.q (QS.pickF rfl hF7 rfl) rfl ?_
          exact TrQ.end (Sub.cons rfl (Sub.dropN 8 (by kernel_rfl) rfl))
        · intro hT7
          refine TrQ.gskip rfl rfl hT7 rfl ?_
          refine TrQ.gskip rfl rfl hT7 rfl ?_
          refine TrQ.gskip rfl rfl hT7 rfl ?_
          refine TrQ.gskip rfl rfl hT7 rfl ?_
          refine TrQ.gskip rfl rfl hT7 rfl ?_
          refine TrQ.gskip rfl rfl hT7 rfl ?_
          refine TrQ.gskip rfl rfl hT7 rfl ?_
          refine TrQ.q (QS.pickT rfl hT7 rfl) rfl ?_
          exact TrQ.end (Sub.cons rfl (Sub.dropN 8 (by kernel_rfl) rfl))
        refine TrQ.q (QS.move rfl) rfl ?_
        apply TrQ.orP
        · exact (rfl : _ = (10, 60, 70))
        · exact rfl
        · intro hF8; have hF8' := hF8
          try simp only [bs] at hF8'
          refine TrQ.gq rfl rfl hF8 (QS.fieldAddr (off := 0) (ft := 22) rfl Tryz.underlying25 rfl rfl Tryz.sizeOf22 (by decide)) rfl ?_
          refine TrQ.gq rfl rfl hF8 (QS.lV rfl Tryz.isAgg22) rfl ?_
          refine TrQ.gq rfl rfl hF8 (QS.fieldAddr (off := 0) (ft := 22) rfl Tryz.underlying28 rfl rfl Tryz.sizeOf22 (by decide)) rfl ?_
          refine TrQ.gq rfl rfl hF8 (QS.lV rfl Tryz.isAgg22) rfl ?_
          refine TrQ.gq rfl rfl hF8 (QS.move rfl) rfl ?_
          refine TrQ.gq rfl rfl hF8 (QS.idxRowN rfl rfl (by repeat (first | exact List.Mem.head _ | apply List.Mem.tail)) Tryz.underlying22 Tryz.sizeOf35 (by rfl) (by omega)) rfl ?_
          refine TrQ.gq rfl rfl hF8 (QS.elRA rfl (by repeat (first | exact List.Mem.head _ | apply List.Mem.tail)) Tryz.isAgg35 Tryz.sizeOf35 (by rfl) (by omega)) rfl ?_
          refine TrQ.gq rfl rfl hF8 (QS.call rfl Tryz.call16 (fun w hw => has13_any ins Vi (kp.getD i default) w (hw.slF hV'))) rfl ?_
          refine TrQ.gq rfl rfl hF8 (QS.not rfl) rfl ?_
          refine TrQ.q (QS.pickF rfl hF8 rfl) rfl ?_
          exact TrQ.end (Sub.cons rfl (Sub.dropN 10 (by kernel_rfl) rfl))
        · intro hT8
          refine TrQ.gskip rfl rfl hT8 rfl ?_
          refine TrQ.gskip rfl rfl hT8 rfl ?_
          refine TrQ.gskip rfl rfl hT8 rfl ?_
          refine TrQ.gskip rfl rfl hT8 rfl ?_
          refine TrQ.gskip rfl rfl hT8 rfl ?_
          refine TrQ.gskip rfl rfl hT8 rfl ?_
          refine TrQ.gskip rfl rfl hT8 rfl ?_
          refine TrQ.gskip rfl rfl hT8 rfl ?_
          refine TrQ.gskip rfl rfl hT8 rfl ?_
          refine TrQ.q (QS.pickT rfl hT8 rfl) rfl ?_
          exact TrQ.end (Sub.cons rfl (Sub.dropN 10 (by kernel_rfl) rfl))
        refine TrQ.q (QS.move rfl) rfl ?_
        apply TrQ.orP
        · exact (rfl : _ = (9, 71, 80))
        · exact rfl
        · intro hF9; have hF9' := hF9
          try simp only [bs] at hF9'
          refine TrQ.gq rfl rfl hF9 (QS.move rfl) rfl ?_
          refine TrQ.gq rfl rfl hF9 (QS.fieldAddr (off := 0) (ft := 22) rfl Tryz.underlying28 rfl rfl Tryz.sizeOf22 (by decide)) rfl ?_
          refine TrQ.gq rfl rfl hF9 (QS.lV rfl Tryz.isAgg22) rfl ?_
          refine TrQ.gq rfl rfl hF9 (QS.move rfl) rfl ?_
          refine TrQ.gq rfl rfl hF9 (QS.idxRowN rfl rfl (by repeat (first | exact List.Mem.head _ | apply List.Mem.tail)) Tryz.underlying22 Tryz.sizeOf35 (by rfl) (by omega)) rfl ?_
          refine TrQ.gq rfl rfl hF9 (QS.fieldAddr (off := 0) (ft := 33) rfl Tryz.underlying35 rfl rfl Tryz.sizeOf33 (by decide)) rfl ?_
          refine TrQ.gq rfl rfl hF9 (QS.elRF rfl (by repeat (first | exact List.Mem.head _ | apply List.Mem.tail)) Tryz.isAgg33 (by omega) (by rfl)) rfl ?_
          refine TrQ.gq rfl rfl hF9 (QS.call rfl Tryz.call17 (fun w hw => has12_any rp _ (kp.getD i default).addr w (hw.row (l := rp) (by repeat (first | exact List.Mem.head _ | apply List.Mem.tail))))) rfl ?_
          refine TrQ.q (QS.pickF rfl hF9 rfl) rfl ?_
          exact TrQ.end (Sub.cons rfl (Sub.dropN 9 (by kernel_rfl) rfl))
        · intro hT9
          refine TrQ.gskip rfl rfl hT9 rfl ?_
          refine TrQ.gskip rfl rfl hT9 rfl ?_
          refine TrQ.gskip rfl rfl hT9 rfl ?_
          refine TrQ.gskip rfl rfl hT9 rfl ?_
          refine TrQ.gskip rfl rfl hT9 rfl ?_
          refine TrQ.gskip rfl rfl hT9 rfl ?_
          refine TrQ.gskip rfl rfl hT9 rfl ?_
          refine TrQ.gskip rfl rfl hT9 rfl ?_
          refine TrQ.q (QS.pickT rfl hT9 rfl) rfl ?_
          exact TrQ.end (Sub.cons rfl (Sub.dropN 9 (by kernel_rfl) rfl))
        refine TrQ.nil ?_
        refine Tr.thenN ?_
        refine Tr.cond rfl (fun h10 => ?_) (fun h10 => ?_)
        · try simp only [bs] at h10
          refine Tr.seq ?_
          refine Tr.region ?_
          refine Tr.q (QS.assign rfl) rfl ?_
          refine Tr.nil ?_
          refine Tr.thenN ?_
          refine Tr.ret ?_
          refine Tr.inR ?_
          refine Tr.thenR ?_
          refine Tr.thenR ?_
          refine Tr.inR ?_
          refine Tr.thenR ?_
          refine Tr.ret1 Tryz.results3 rfl (fun w' hw => ?_)
          exfalso
          obtain ⟨q1, q2, q3⟩ := g3 (by omega)
          rcases h10 with ((⟨p1, p2⟩ | p) | p) | p
          · rw [hj] at p2; have := g2 (by omega) (by omega); rw [UInt32.lt_iff_toNat_lt] at this; rw [UInt32.le_iff_toNat_le] at p2; omega
          · exact p q1
          · rw [q2] at p; cases p
          · rw [q3] at p; cases p
        · try simp only [bs] at h10
          refine Tr.skip ?_
          refine Tr.inN ?_
          refine Tr.thenN ?_
          refine Tr.region ?_
          refine Tr.q (QS.move rfl) rfl ?_
          refine Tr.q (QS.addI rfl rfl (by omega)) rfl ?_
          refine Tr.q (QS.assign rfl) rfl ?_
          refine Tr.nil ?_
          refine Tr.thenN ?_
          apply Tr.again (i + 1)
          · exact rfl
          · exact (.cons (by first | rfl | exact lookI rfl (by omega) | exact lookI rfl (by simp) | exact lookB rfl (by simp)) Front.nil)
          · exact SubX.dropN 19 (by kernel_rfl) rfl
          · exact (by repeat' (first | exact Pick.nil _ | exact Del.here _ | apply Pick.cons | apply Del.there))
          · exact (by show i + 1 ≤ _; omega)
          · exact (by (try dsimp only); omega)
      · try simp only [bs] at h5
        refine Tr.exit ?_
        refine Tr.thenE ?_
        refine Tr.thenE ?_
        refine Tr.inHit ?_
        refine Tr.thenN ?_
        refine Tr.seq ?_
        refine Tr.seq ?_
        refine Tr.region ?_
        refine Tr.q (QS.assign rfl) rfl ?_
        refine Tr.nil ?_
        refine Tr.thenN ?_
        refine Tr.block ?_
        refine Tr.loop (ι := Nat) (fun i => i ≤ ins.length) (fun _ => _) (fun i => [cellE b3 [.slice pVk kp.length cVk, .slice pVf ep.length cVf, .slice pVg up.length cVg, .slice pVh bp.length cVh] 28, rowE (.slice pVk kp.length cVk) 35 encIns kp, rowE (.slice pVf ep.length cVf) 33 encU32 ep, rowE (.slice pVr rp.length cVr) 33 encU32 rp, cellE b1 [Vi, Ve, Vu, Vb] 25]) (fun i => [(6, .int .i64 (i : Nat))]) (fun i => ins.length - i) 0 (Nat.zero_le _) (.cons (by first | rfl | exact lookI rfl (by omega) | exact lookI rfl (by simp) | exact lookB rfl (by simp)) Front.nil) (by repeat' (first | exact Pick.nil _ | exact Del.here _ | apply Pick.cons | apply Del.there)) rfl (fun i hi m hm => ?_)
        replace hi : i ≤ ins.length := hi
        replace hm : m = ins.length - i := hm
        change Tr _ _ [cellE b3 [.slice pVk kp.length cVk, .slice pVf ep.length cVf, .slice pVg up.length cVg, .slice pVh bp.length cVh] 28, rowE (.slice pVk kp.length cVk) 35 encIns kp, rowE (.slice pVf ep.length cVf) 33 encU32 ep, rowE (.slice pVr rp.length cVr) 33 encU32 rp, cellE b1 [Vi, Ve, Vu, Vb] 25] ([(6, .int .i64 (i : Nat))] ++ _) _
        have g4 := fun (q : i < ins.length) => rl4 i q
        refine Tr.seq ?_
        refine Tr.seq ?_
        refine Tr.region ?_
        refine Tr.q (QS.move rfl) rfl ?_
        refine Tr.q (QS.fieldAddr (off := 0) (ft := 22) rfl Tryz.underlying25 rfl rfl Tryz.sizeOf22 (by decide)) rfl ?_
        refine Tr.q (QS.lV rfl Tryz.isAgg22) rfl ?_
        refine Tr.q (QS.len rfl (by assumption) Tryz.underlying22) rfl ?_
        refine Tr.q (QS.lss rfl rfl) rfl ?_
        refine Tr.nil ?_
        refine Tr.thenN ?_
        refine Tr.cond rfl (fun h11 => ?_) (fun h11 => ?_)
        · try simp only [bs] at h11
          refine Tr.skip ?_
          refine Tr.thenN ?_
          refine Tr.seq ?_
          refine Tr.block ?_
          refine Tr.seq ?_
          refine Tr.region ?_
          refine Tr.q (QS.fieldAddr (off := 0) (ft := 22) rfl Tryz.underlying25 rfl rfl Tryz.sizeOf22 (by decide)) rfl ?_
          refine Tr.q (QS.lV rfl Tryz.isAgg22) rfl ?_
          refine Tr.q (QS.move rfl) rfl ?_
          refine Tr.q (QS.idxN rfl rfl (by assumption) Tryz.underlying22 Tryz.sizeOf35 (by rfl) (by omega)) rfl ?_
          refine Tr.q (QS.elA rfl (by assumption) Tryz.isAgg35 Tryz.sizeOf35 (by rfl) (by omega)) rfl ?_
          refine Tr.alloc Tryz.zeroValue35 rfl rfl (fun b12 => ?_)
          refine Tr.storeW rfl rfl Tryz.sizeOf35 (by repeat (first | exact Put.here _ | apply Put.there)) (by rfl) (by rfl) (by first | exact List.all_eq_true.1 rfl | exact Enc.one _ _ | exact Enc.one encIns _) rfl ?_
          refine Tr.nil ?_
          refine Tr.thenN ?_
          refine Tr.seq ?_
          refine Tr.region ?_
          refine Tr.q (QS.lW rfl Tryz.isAgg35 Tryz.sizeOf35) rfl ?_
          refine Tr.q (QS.call rfl Tryz.call15 (fun w hw => valid_isa (ins.getD i default) w (hIx _ (by omega)))) rfl ?_
          refine Tr.q (QS.move rfl) rfl ?_
          apply Tr.andP
          · exact (rfl : _ = (7, 95, 102))
          · exact rfl
          · intro hT13; have hT13' := hT13
            try simp only [bs] at hT13'
            refine Tr.gq rfl rfl hT13 (QS.fieldAddr (off := 0) (ft := 22) rfl Tryz.underlying28 rfl rfl Tryz.sizeOf22 (by decide)) rfl ?_
            refine Tr.gq rfl rfl hT13 (QS.lV rfl Tryz.isAgg22) rfl ?_
            refine Tr.gq rfl rfl hT13 (QS.fieldAddr (off := 0) (ft := 33) rfl Tryz.underlying35 rfl rfl Tryz.sizeOf33 (by decide)) rfl ?_
            refine Tr.gq rfl rfl hT13 (QS.lV rfl Tryz.isAgg33) rfl ?_
            refine Tr.gq rfl rfl hT13 (QS.call rfl Tryz.call18 (fun w hw => begins13_any kp _ (ins.getD i default).addr w (hw.row (l := kp) (by repeat (first | exact List.Mem.head _ | apply List.Mem.tail))))) rfl ?_
            refine Tr.gq rfl rfl hT13 (QS.not rfl) rfl ?_
            refine Tr.q (QS.pickT rfl hT13 rfl) rfl ?_
            refine Tr.nil (Tr.thenN ?_)
            exact Tr.endX (Sub.cons rfl (Sub.dropN 7 (by kernel_rfl) rfl))
          · intro hF13
            refine Tr.gskip rfl rfl hF13 rfl ?_
            refine Tr.gskip rfl rfl hF13 rfl ?_
            refine Tr.gskip rfl rfl hF13 rfl ?_
            refine Tr.gskip rfl rfl hF13 rfl ?_
            refine Tr.gskip rfl rfl hF13 rfl ?_
            refine Tr.gskip rfl rfl hF13 rfl ?_
            refine Tr.q (QS.pickF rfl hF13 rfl) rfl ?_
            refine Tr.nil (Tr.thenN ?_)
            exact Tr.endX (Sub.cons rfl (Sub.dropN 7 (by kernel_rfl) rfl))
          refine Tr.q (QS.move rfl) rfl ?_
          apply Tr.andP
          · exact (rfl : _ = (6, 103, 109))
          · exact rfl
          · intro hT14; have hT14' := hT14
            try simp only [bs] at hT14'
            refine Tr.gq rfl rfl hT14 (QS.move rfl) rfl ?_
            refine Tr.gq rfl rfl hT14 (QS.fieldAddr (off := 0) (ft := 33) rfl Tryz.underlying35 rfl rfl Tryz.sizeOf33 (by decide)) rfl ?_
            refine Tr.gq rfl rfl hT14 (QS.lV rfl Tryz.isAgg33) rfl ?_
            refine Tr.gq rfl rfl hT14 (QS.call rfl Tryz.call17 (fun w hw => has12_any rp _ (ins.getD i default).addr w (hw.row (l := rp) (by repeat (first | exact List.Mem.head _ | apply List.Mem.tail))))) rfl ?_
            refine Tr.gq rfl rfl hT14 (QS.not rfl) rfl ?_
            refine Tr.q (QS.pickT rfl hT14 rfl) rfl ?_
            refine Tr.nil (Tr.thenN ?_)
            exact Tr.endX (Sub.cons rfl (Sub.dropN 6 (by kernel_rfl) rfl))
          · intro hF14
            refine Tr.gskip rfl rfl hF14 rfl ?_
            refine Tr.gskip rfl rfl hF14 rfl ?_
            refine Tr.gskip rfl rfl hF14 rfl ?_
            refine Tr.gskip rfl rfl hF14 rfl ?_
            refine Tr.gskip rfl rfl hF14 rfl ?_
            refine Tr.q (QS.pickF rfl hF14 rfl) rfl ?_
            refine Tr.nil (Tr.thenN ?_)
            exact Tr.endX (Sub.cons rfl (Sub.dropN 6 (by kernel_rfl) rfl))
          refine Tr.nil ?_
          refine Tr.thenN ?_
          refine Tr.cond rfl (fun h15 => ?_) (fun h15 => ?_)
          · try simp only [bs] at h15
            refine Tr.seq ?_
            refine Tr.region ?_
            refine Tr.q (QS.assign rfl) rfl ?_
            refine Tr.nil ?_
            refine Tr.thenN ?_
            refine Tr.ret ?_
            refine Tr.inR ?_
            refine Tr.thenR ?_
            refine Tr.thenR ?_
            refine Tr.inR ?_
            refine Tr.thenR ?_
            refine Tr.ret1 Tryz.results3 rfl (fun w' hw => ?_)
            exfalso
            obtain ⟨⟨p1, p2⟩, p3⟩ := h15
            rw [g4 (by omega) p1 p2] at p3; cases p3
          · try simp only [bs] at h15
            refine Tr.skip ?_
            refine Tr.inN ?_
            refine Tr.thenN ?_
            refine Tr.region ?_
            refine Tr.q (QS.move rfl) rfl ?_
            refine Tr.q (QS.addI rfl rfl (by omega)) rfl ?_
            refine Tr.q (QS.assign rfl) rfl ?_
            refine Tr.nil ?_
            refine Tr.thenN ?_
            apply Tr.again (i + 1)
            · exact rfl
            · exact (.cons (by first | rfl | exact lookI rfl (by omega) | exact lookI rfl (by simp) | exact lookB rfl (by simp)) Front.nil)
            · exact SubX.dropN 21 (by kernel_rfl) rfl
            · exact (by repeat' (first | exact Pick.nil _ | exact Del.here _ | apply Pick.cons | apply Del.there))
            · exact (by show i + 1 ≤ _; omega)
            · exact (by (try dsimp only); omega)
        · try simp only [bs] at h11
          refine Tr.exit ?_
          refine Tr.thenE ?_
          refine Tr.thenE ?_
          refine Tr.inHit ?_
          refine Tr.thenN ?_
          refine Tr.seq ?_
          refine Tr.seq ?_
          refine Tr.region ?_
          refine Tr.q (QS.assign rfl) rfl ?_
          refine Tr.nil ?_
          refine Tr.thenN ?_
          refine Tr.block ?_
          refine Tr.loop (ι := Nat) (fun i => i ≤ rp.length) (fun _ => _) (fun i => [cellE b3 [.slice pVk kp.length cVk, .slice pVf ep.length cVf, .slice pVg up.length cVg, .slice pVh bp.length cVh] 28, rowE (.slice pVk kp.length cVk) 35 encIns kp, rowE (.slice pVf ep.length cVf) 33 encU32 ep, rowE (.slice pVr rp.length cVr) 33 encU32 rp, cellE b1 [Vi, Ve, Vu, Vb] 25]) (fun i => [(8, .int .i64 (i : Nat))]) (fun i => rp.length - i) 0 (Nat.zero_le _) (.cons (by first | rfl | exact lookI rfl (by omega) | exact lookI rfl (by simp) | exact lookB rfl (by simp)) Front.nil) (by repeat' (first | exact Pick.nil _ | exact Del.here _ | apply Pick.cons | apply Del.there)) rfl (fun i hi m hm => ?_)
          replace hi : i ≤ rp.length := hi
          replace hm : m = rp.length - i := hm
          change Tr _ _ [cellE b3 [.slice pVk kp.length cVk, .slice pVf ep.length cVf, .slice pVg up.length cVg, .slice pVh bp.length cVh] 28, rowE (.slice pVk kp.length cVk) 35 encIns kp, rowE (.slice pVf ep.length cVf) 33 encU32 ep, rowE (.slice pVr rp.length cVr) 33 encU32 rp, cellE b1 [Vi, Ve, Vu, Vb] 25] ([(8, .int .i64 (i : Nat))] ++ _) _
          have g5 := fun (q : i < rp.length) => rl5 i q
          refine Tr.seq ?_
          refine Tr.seq ?_
          refine Tr.region ?_
          refine Tr.q (QS.move rfl) rfl ?_
          refine Tr.q (QS.move rfl) rfl ?_
          refine Tr.q (QS.lenRow rfl (by repeat (first | exact List.Mem.head _ | apply List.Mem.tail)) Tryz.underlying23) rfl ?_
          refine Tr.q (QS.lss rfl rfl) rfl ?_
          refine Tr.nil ?_
          refine Tr.thenN ?_
          refine Tr.cond rfl (fun h16 => ?_) (fun h16 => ?_)
          · try simp only [bs] at h16
            refine Tr.skip ?_
            refine Tr.thenN ?_
            refine Tr.seq ?_
            refine Tr.block ?_
            refine Tr.seq ?_
            refine Tr.region ?_
            refine Tr.q (QS.assign rfl) rfl ?_
            refine Tr.nil ?_
            refine Tr.thenN ?_
            refine Tr.seq ?_
            refine Tr.seq ?_
            refine Tr.region ?_
            refine Tr.q (QS.assign rfl) rfl ?_
            refine Tr.nil ?_
            refine Tr.thenN ?_
            refine Tr.block ?_
            refine Tr.loop (ι := Nat × Bool) (fun ⟨c, fc⟩ => c ≤ ins.length ∧ fc = (ins.take c).any (fun c => kp.any fun d => (decide (c.addr = (rp.getD i default)) && decide (errP c = 0)) && clashP c d)) (fun _ => _) (fun ⟨c, fc⟩ => [cellE b3 [.slice pVk kp.length cVk, .slice pVf ep.length cVf, .slice pVg up.length cVg, .slice pVh bp.length cVh] 28, rowE (.slice pVk kp.length cVk) 35 encIns kp, rowE (.slice pVf ep.length cVf) 33 encU32 ep, rowE (.slice pVr rp.length cVr) 33 encU32 rp, cellE b1 [Vi, Ve, Vu, Vb] 25]) (fun ⟨c, fc⟩ => [(10, .int .i64 (c : Nat)), (9, .bool fc)]) (fun ⟨c, fc⟩ => ins.length - c) (0, false) ⟨Nat.zero_le _, rfl⟩ (.cons (by first | rfl | exact lookI rfl (by omega) | exact lookI rfl (by simp) | exact lookB rfl (by simp)) (.cons (by first | rfl | exact lookI rfl (by omega) | exact lookI rfl (by simp) | exact lookB rfl (by simp)) Front.nil)) (by repeat' (first | exact Pick.nil _ | exact Del.here _ | apply Pick.cons | apply Del.there)) rfl (fun i hi m hm => ?_)
            obtain ⟨c, fc⟩ := i
            replace hi : c ≤ ins.length ∧ fc = (ins.take c).any (fun c => kp.any fun d => (decide (c.addr = (rp.getD i default)) && decide (errP c = 0)) && clashP c d) := hi
            replace hm : m = ins.length - c := hm
            change Tr _ _ [cellE b3 [.slice pVk kp.length cVk, .slice pVf ep.length cVf, .slice pVg up.length cVg, .slice pVh bp.length cVh] 28, rowE (.slice pVk kp.length cVk) 35 encIns kp, rowE (.slice pVf ep.length cVf) 33 encU32 ep, rowE (.slice pVr rp.length cVr) 33 encU32 rp, cellE b1 [Vi, Ve, Vu, Vb] 25] ([(10, .int .i64 (c : Nat)), (9, .bool fc)] ++ _) _
            obtain ⟨hc1, hc2⟩ := hi
            refine Tr.seq ?_
            refine Tr.seq ?_
            refine Tr.region ?_
            refine Tr.q (QS.move rfl) rfl ?_
            refine Tr.q (QS.fieldAddr (off := 0) (ft := 22) rfl Tryz.underlying25 rfl rfl Tryz.sizeOf22 (by decide)) rfl ?_
            refine Tr.q (QS.lV rfl Tryz.isAgg22) rfl ?_
            refine Tr.q (QS.len rfl (by assumption) Tryz.underlying22) rfl ?_
            refine Tr.q (QS.lss rfl rfl) rfl ?_
            refine Tr.nil ?_
            refine Tr.thenN ?_
            refine Tr.cond rfl (fun h17 => ?_) (fun h17 => ?_)
            · try simp only [bs] at h17
              refine Tr.skip ?_
              refine Tr.thenN ?_
              refine Tr.seq ?_
              refine Tr.block ?_
              refine Tr.seq ?_
              refine Tr.region ?_
              refine Tr.q (QS.assign rfl) rfl ?_
              refine Tr.nil ?_
              refine Tr.thenN ?_
              refine Tr.block ?_
              refine Tr.loop (ι := Nat × Bool) (fun ⟨d, fd⟩ => d ≤ kp.length ∧ fd = (fc || (kp.take d).any (fun d => (decide ((ins.getD c default).addr = (rp.getD i default)) && decide (errP (ins.getD c default) = 0)) && clashP (ins.getD c default) d))) (fun _ => _) (fun ⟨d, fd⟩ => [cellE b3 [.slice pVk kp.length cVk, .slice pVf ep.length cVf, .slice pVg up.length cVg, .slice pVh bp.length cVh] 28, rowE (.slice pVk kp.length cVk) 35 encIns kp, rowE (.slice pVf ep.length cVf) 33 encU32 ep, rowE (.slice pVr rp.length cVr) 33 encU32 rp, cellE b1 [Vi, Ve, Vu, Vb] 25]) (fun ⟨d, fd⟩ => [(11, .int .i64 (d : Nat)), (9, .bool fd)]) (fun ⟨d, fd⟩ => kp.length - d) (0, fc) ⟨Nat.zero_le _, by simp⟩ (.cons (by first | rfl | exact lookI rfl (by omega) | exact lookI rfl (by simp) | exact lookB rfl (by simp)) (.cons (by first | rfl | exact lookI rfl (by omega) | exact lookI rfl (by simp) | exact lookB rfl (by simp)) Front.nil)) (by repeat' (first | exact Pick.nil _ | exact Del.here _ | apply Pick.cons | apply Del.there)) rfl (fun i hi m hm => ?_)
              obtain ⟨d, fd⟩ := i
              replace hi : d ≤ kp.length ∧ fd = (fc || (kp.take d).any (fun d => (decide ((ins.getD c default).addr = (rp.getD i default)) && decide (errP (ins.getD c default) = 0)) && clashP (ins.getD c default) d)) := hi
              replace hm : m = kp.length - d := hm
              change Tr _ _ [cellE b3 [.slice pVk kp.length cVk, .slice pVf ep.length cVf, .slice pVg up.length cVg, .slice pVh bp.length cVh] 28, rowE (.slice pVk kp.length cVk) 35 encIns kp, rowE (.slice pVf ep.length cVf) 33 encU32 ep, rowE (.slice pVr rp.length cVr) 33 encU32 rp, cellE b1 [Vi, Ve, Vu, Vb] 25] ([(11, .int .i64 (d : Nat)), (9, .bool fd)] ++ _) _
              obtain ⟨hd1, hd2⟩ := hi
              refine Tr.seq ?_
              refine Tr.seq ?_
              refine Tr.region ?_
              refine Tr.q (QS.move rfl) rfl ?_
              refine Tr.q (QS.fieldAddr (off := 0) (ft := 22) rfl Tryz.underlying28 rfl rfl Tryz.sizeOf22 (by decide)) rfl ?_
              refine Tr.q (QS.lV rfl Tryz.isAgg22) rfl ?_
              refine Tr.q (QS.lenRow rfl (by repeat (first | exact List.Mem.head _ | apply List.Mem.tail)) Tryz.underlying22) rfl ?_
              refine Tr.q (QS.lss rfl rfl) rfl ?_
              refine Tr.nil ?_
              refine Tr.thenN ?_
              refine Tr.cond rfl (fun h18 => ?_) (fun h18 => ?_)
              · try simp only [bs] at h18
                refine Tr.skip ?_
                refine Tr.thenN ?_
                refine Tr.seq ?_
                refine Tr.block ?_
                refine Tr.regionQ HLF.mixed (by kernel_rfl) ?_
                refine TrQ.q (QS.move rfl) rfl ?_
                refine TrQ.q (QS.move rfl) rfl ?_
                apply TrQ.orP
                · exact (rfl : _ = (33, 131, 164))
                · exact rfl
                · intro hF19; have hF19' := hF19
                  try simp only [bs] at hF19'
                  refine TrQ.gq rfl rfl hF19 (QS.fieldAddr (off := 0) (ft := 22) rfl Tryz.underlying25 rfl rfl Tryz.sizeOf22 (by decide)) rfl ?_
                  refine TrQ.gq rfl rfl hF19 (QS.lV rfl Tryz.isAgg22) rfl ?_
                  refine TrQ.gq rfl rfl hF19 (QS.move rfl) rfl ?_
                  refine TrQ.gq rfl rfl hF19 (QS.idxN rfl rfl (by assumption) Tryz.underlying22 Tryz.sizeOf35 (by rfl) (by omega)) rfl ?_
                  refine TrQ.gq rfl rfl hF19 (QS.fieldAddr (off := 0) (ft := 33) rfl Tryz.underlying35 rfl rfl Tryz.sizeOf33 (by decide)) rfl ?_
                  refine TrQ.gq rfl rfl hF19 (QS.elF rfl (by assumption) Tryz.isAgg33 (by omega) (by rfl)) rfl ?_
                  refine TrQ.gq rfl rfl hF19 (QS.move rfl) rfl ?_
                  refine TrQ.gq rfl rfl hF19 (QS.move rfl) rfl ?_
                  refine TrQ.gq rfl rfl hF19 (QS.idxRowN rfl rfl (by repeat (first | exact List.Mem.head _ | apply List.Mem.tail)) Tryz.underlying23 Tryz.sizeOf33 (by rfl) (by omega)) rfl ?_
                  refine TrQ.gq rfl rfl hF19 (QS.elR1 rfl (by repeat (first | exact List.Mem.head _ | apply List.Mem.tail)) Tryz.isAgg33 (by omega) (by rfl)) rfl ?_
                  refine TrQ.gq rfl rfl hF19 (QS.eql32 rfl rfl) rfl ?_
                  refine TrQ.gq rfl rfl hF19 (QS.move rfl) rfl ?_
                  apply TrQ.andP
                  · exact (rfl : _ = (7, 143, 150))
                  · exact rfl
                  · intro hT20; have hT20' := hT20
                    try simp only [bs] at hT20'
                    refine TrQ.gq rfl rfl hT20 (QS.fieldAddr (off := 0) (ft := 22) rfl Tryz.underlying25 rfl rfl Tryz.sizeOf22 (by decide)) rfl ?_
                    refine TrQ.gq rfl rfl hT20 (QS.lV rfl Tryz.isAgg22) rfl ?_
                    refine TrQ.gq rfl rfl hT20 (QS.move rfl) rfl ?_
                    refine TrQ.gq rfl rfl hT20 (QS.idxN rfl rfl (by assumption) Tryz.underlying22 Tryz.sizeOf35 (by rfl) (by omega)) rfl ?_
                    refine TrQ.gq rfl rfl hT20 (QS.elA rfl (by assumption) Tryz.isAgg35 Tryz.sizeOf35 (by rfl) (by omega)) rfl ?_
                    refine TrQ.gq rfl rfl hT20 (QS.call rfl Tryz.call15 (fun w hw => valid_isa (ins.getD c default) w (hIx _ (by omega)))) rfl ?_
                    refine TrQ.gq rfl rfl hF19 (QS.pickT rfl hT20 rfl) rfl ?_
                    exact TrQ.end (Sub.cons rfl (Sub.dropN 7 (by kernel_rfl) rfl))
                  · intro hF20
                    refine TrQ.gskip rfl rfl hF20 rfl ?_
                    refine TrQ.gskip rfl rfl hF20 rfl ?_
                    refine TrQ.gskip rfl rfl hF20 rfl ?_
                    refine TrQ.gskip rfl rfl hF20 rfl ?_
                    refine TrQ.gskip rfl rfl hF20 rfl ?_
                    refine TrQ.gskip rfl rfl hF20 rfl ?_
                    refine TrQ.gq rfl rfl hF19 (QS.pickF rfl hF20 rfl) rfl ?_
                    exact TrQ.end (Sub.cons rfl (Sub.dropN 7 (by kernel_rfl) rfl))
                  refine TrQ.gq rfl rfl hF19 (QS.move rfl) rfl ?_
                  apply TrQ.andP
                  · exact (rfl : _ = (12, 151, 163))
                  · exact rfl
                  · intro hT21; have hT21' := hT21
                    try simp only [bs] at hT21'
                    refine TrQ.gq rfl rfl hT21 (QS.fieldAddr (off := 0) (ft := 22) rfl Tryz.underlying25 rfl rfl Tryz.sizeOf22 (by decide)) rfl ?_
                    refine TrQ.gq rfl rfl hT21 (QS.lV rfl Tryz.isAgg22) rfl ?_
                    refine TrQ.gq rfl rfl hT21 (QS.move rfl) rfl ?_
                    refine TrQ.gq rfl rfl hT21 (QS.idxN rfl rfl (by assumption) Tryz.underlying22 Tryz.sizeOf35 (by rfl) (by omega)) rfl ?_
                    refine TrQ.gq rfl rfl hT21 (QS.elA rfl (by assumption) Tryz.isAgg35 Tryz.sizeOf35 (by rfl) (by omega)) rfl ?_
                    refine TrQ.gq rfl rfl hT21 (QS.fieldAddr (off := 0) (ft := 22) rfl Tryz.underlying28 rfl rfl Tryz.sizeOf22 (by decide)) rfl ?_
                    refine TrQ.gq rfl rfl hT21 (QS.lV rfl Tryz.isAgg22) rfl ?_
                    refine TrQ.gq rfl rfl hT21 (QS.move rfl) rfl ?_
                    refine TrQ.gq rfl rfl hT21 (QS.idxRowN rfl rfl (by repeat (first | exact List.Mem.head _ | apply List.Mem.tail)) Tryz.underlying22 Tryz.sizeOf35 (by rfl) (by omega)) rfl ?_
                    refine TrQ.gq rfl rfl hT21 (QS.elRA rfl (by repeat (first | exact List.Mem.head _ | apply List.Mem.tail)) Tryz.isAgg35 Tryz.sizeOf35 (by rfl) (by omega)) rfl ?_
                    refine TrQ.gq rfl rfl hT21 (QS.call rfl Tryz.call19 (fun w hw => clash_any (ins.getD c default) (kp.getD d default) w (hIx _ (by omega)) (hkx _ (by omega)))) rfl ?_
                    refine TrQ.gq rfl rfl hF19 (QS.pickT rfl hT21 rfl) rfl ?_
                    exact TrQ.end (Sub.cons rfl (Sub.dropN 12 (by kernel_rfl) rfl))
                  · intro hF21
                    refine TrQ.gskip rfl rfl hF21 rfl ?_
                    refine TrQ.gskip rfl rfl hF21 rfl ?_
                    refine TrQ.gskip rfl rfl hF21 rfl ?_
                    refine TrQ.gskip rfl rfl hF21 rfl ?_
                    refine TrQ.gskip rfl rfl hF21 rfl ?_
                    refine TrQ.gskip rfl rfl hF21 rfl ?_
                    refine TrQ.gskip rfl rfl hF21 rfl ?_
                    refine TrQ.gskip rfl rfl hF21 rfl ?_
                    refine TrQ.gskip rfl rfl hF21 rfl ?_
                    refine TrQ.gskip rfl rfl hF21 rfl ?_
                    refine TrQ.gskip rfl rfl hF21 rfl ?_
                    refine TrQ.gq rfl rfl hF19 (QS.pickF rfl hF21 rfl) rfl ?_
                    exact TrQ.end (Sub.cons rfl (Sub.dropN 12 (by kernel_rfl) rfl))
                  refine TrQ.q (QS.pickF rfl hF19 rfl) rfl ?_
                  exact TrQ.end (Sub.cons rfl (Sub.dropN 16 (by kernel_rfl) rfl))
                · intro hT19
                  refine TrQ.gskip rfl rfl hT19 rfl ?_
                  refine TrQ.gskip rfl rfl hT19 rfl ?_
                  refine TrQ.gskip rfl rfl hT19 rfl ?_
                  refine TrQ.gskip rfl rfl hT19 rfl ?_
                  refine TrQ.gskip rfl rfl hT19 rfl ?_
                  refine TrQ.gskip rfl rfl hT19 rfl ?_
                  refine TrQ.gskip rfl rfl hT19 rfl ?_
                  refine TrQ.gskip rfl rfl hT19 rfl ?_
                  refine TrQ.gskip rfl rfl hT19 rfl ?_
                  refine TrQ.gskip rfl rfl hT19 rfl ?_
                  refine TrQ.gskip rfl rfl hT19 rfl ?_
                  refine TrQ.gskip rfl rfl hT19 rfl ?_
                  refine TrQ.gskipU rfl rfl rfl ?_
                  refine TrQ.gskipU rfl rfl rfl ?_
                  refine TrQ.gskipU rfl rfl rfl ?_
                  refine TrQ.gskipU rfl rfl rfl ?_
                  refine TrQ.gskipU rfl rfl rfl ?_
                  refine TrQ.gskipU rfl rfl rfl ?_
                  refine TrQ.gskip rfl rfl hT19 rfl ?_
                  refine TrQ.gskip rfl rfl hT19 rfl ?_
                  refine TrQ.gskipU rfl rfl rfl ?_
                  refine TrQ.gskipU rfl rfl rfl ?_
                  refine TrQ.gskipU rfl rfl rfl ?_
                  refine TrQ.gskipU rfl rfl rfl ?_
                  refine TrQ.gskipU rfl rfl rfl ?_
                  refine TrQ.gskipU rfl rfl rfl ?_
                  refine TrQ.gskipU rfl rfl rfl ?_
                  refine TrQ.gskipU rfl rfl rfl ?_
                  refine TrQ.gskipU rfl rfl rfl ?_
                  refine TrQ.gskipU rfl rfl rfl ?_
                  refine TrQ.gskipU rfl rfl rfl ?_
                  refine TrQ.gskip rfl rfl hT19 rfl ?_
                  refine TrQ.q (QS.pickT rfl hT19 rfl) rfl ?_
                  exact TrQ.end (Sub.cons rfl (Sub.dropN 33 (by kernel_rfl) rfl))
                refine TrQ.q (QS.assign rfl) rfl ?_
                refine TrQ.nil ?_
                refine Tr.inN ?_
                refine Tr.thenN ?_
                refine Tr.region ?_
                refine Tr.q (QS.move rfl) rfl ?_
                refine Tr.q (QS.addI rfl rfl (by omega)) rfl ?_
                refine Tr.q (QS.assign rfl) rfl ?_
                refine Tr.nil ?_
                refine Tr.thenN ?_
                have hst := any_take_succ (p := (fun d => (decide ((ins.getD c default).addr = (rp.getD i default)) && decide (errP (ins.getD c default) = 0)) && clashP (ins.getD c default) d)) (l := kp) (k := d) (by omega)
                apply Tr.again (d + 1, _)
                · exact rfl
                · exact (.cons (by first | rfl | exact lookI rfl (by omega) | exact lookI rfl (by simp) | exact lookB rfl (by simp)) (.cons (by first | rfl | exact lookI rfl (by omega) | exact lookI rfl (by simp) | exact lookB rfl (by simp)) Front.nil))
                · exact SubX.dropN 14 (by kernel_rfl) rfl
                · exact (by repeat' (first | exact Pick.nil _ | exact Del.here _ | apply Pick.cons | apply Del.there))
                · exact ⟨by omega, by rw [hst, ← Bool.or_assoc, ← hd2]⟩
                · exact (by (try dsimp only); omega)
              · try simp only [bs] at h18
                refine Tr.exit ?_
                refine Tr.thenE ?_
                refine Tr.thenE ?_
                refine Tr.inHit ?_
                refine Tr.inN ?_
                refine Tr.thenN ?_
                refine Tr.region ?_
                refine Tr.q (QS.move rfl) rfl ?_
                refine Tr.q (QS.addI rfl rfl (by omega)) rfl ?_
                refine Tr.q (QS.assign rfl) rfl ?_
                refine Tr.nil ?_
                refine Tr.thenN ?_
                obtain rfl : d = kp.length := by omega
                rw [List.take_length] at hd2
                apply Tr.again (c + 1, _)
                · exact rfl
                · exact (.cons (by first | rfl | exact lookI rfl (by omega) | exact lookI rfl (by simp) | exact lookB rfl (by simp)) (.cons (by first | rfl | exact lookI rfl (by omega) | exact lookI rfl (by simp) | exact lookB rfl (by simp)) Front.nil))
                · exact SubX.dropN 18 (by kernel_rfl) rfl
                · exact (by repeat' (first | exact Pick.nil _ | exact Del.here _ | apply Pick.cons | apply Del.there))
                · exact ⟨by omega, by rw [any_take_succ (by omega), ← hc2, ← hd2]⟩
                · exact (by (try dsimp only); omega)
            · try simp only [bs] at h17
              refine Tr.exit ?_
              refine Tr.thenE ?_
              refine Tr.thenE ?_
              refine Tr.inHit ?_
              refine Tr.thenN ?_
              refine Tr.seq ?_
              refine Tr.region ?_
              refine Tr.q (QS.move rfl) rfl ?_
              refine Tr.q (QS.not rfl) rfl ?_
              refine Tr.nil ?_
              refine Tr.thenN ?_
              refine Tr.cond rfl (fun h22 => ?_) (fun h22 => ?_)
              · try simp only [bs] at h22
                refine Tr.seq ?_
                refine Tr.region ?_
                refine Tr.q (QS.assign rfl) rfl ?_
                refine Tr.nil ?_
                refine Tr.thenN ?_
                refine Tr.ret ?_
                refine Tr.inR ?_
                refine Tr.thenR ?_
                refine Tr.thenR ?_
                refine Tr.inR ?_
                refine Tr.thenR ?_
                refine Tr.ret1 Tryz.results3 rfl (fun w' hw => ?_)
                exfalso
                obtain rfl : c = ins.length := by omega
                rw [List.take_length, g5 (by omega), h22] at hc2; cases hc2
              · try simp only [bs] at h22
                refine Tr.skip ?_
                refine Tr.inN ?_
                refine Tr.thenN ?_
                refine Tr.region ?_
                refine Tr.q (QS.move rfl) rfl ?_
                refine Tr.q (QS.addI rfl rfl (by omega)) rfl ?_
                refine Tr.q (QS.assign rfl) rfl ?_
                refine Tr.nil ?_
                refine Tr.thenN ?_
                apply Tr.again (i + 1)
                · exact rfl
                · exact (.cons (by first | rfl | exact lookI rfl (by omega) | exact lookI rfl (by simp) | exact lookB rfl (by simp)) Front.nil)
                · exact SubX.dropN 19 (by kernel_rfl) rfl
                · exact (by repeat' (first | exact Pick.nil _ | exact Del.here _ | apply Pick.cons | apply Del.there))
                · exact (by show i + 1 ≤ _; omega)
                · exact (by (try dsimp only); omega)
          · try simp only [bs] at h16
            refine Tr.exit ?_
            refine Tr.thenE ?_
            refine Tr.thenE ?_
            refine Tr.inHit ?_
            refine Tr.thenN ?_
            refine Tr.seq ?_
            refine Tr.region ?_
            refine Tr.q (QS.call rfl Tryz.call11 (fun w hw => example13_any w)) rfl ?_
            refine Tr.q (QS.assign rfl) rfl ?_
            refine Tr.nil ?_
            refine Tr.thenN ?_
            refine Tr.ret ?_
            refine Tr.ret1 Tryz.results3 rfl (fun w' hw => ?_)
            exact ⟨rfl, hw.below (Bg.le.refl _)⟩
end Go.Proofs.YtmhbfelnjkhepaaGreat
namespace Go.HL
open Go Go.Deep Go.ChangeShapes Go.WideShapes
section
variable {H : Type} {enc : TypeId × Value → H} {P : Program} {w : World} {base : Nat} {spare : Nat → Bool} {held : Bool}
theorem sl_of_trod {α : Type} [Inhabited α] {E : Enc α} {R : α → Prop} {t e : TypeId} {fuel : Nat} {V : Value} {x : DataW H × List MemPlace} (ht : P.underlying t = some (.slice e)) (hc : P.cellsOf e = E.k) (hk : 0 < E.k)
    (hf : ∀ n cs y, cs.length = E.k → DataW.trod enc P w base spare held n e cs = some y → ∃ a : α, cs = E.enc a ∧ R a)
    (h : DataW.trod enc P w base spare held fuel t [V] = some x) : ∃ l : List α, Sl (hp w) E l V ∧ ∀ a ∈ l, R a := by
  rcases open_slice ht h with ⟨h0, _⟩ | ⟨a, len, cap, m, n, D, Pl, hv, hb, hl, hm, hmm, _, hx⟩
  · simp only [List.cons.injEq, and_true] at h0
    subst h0
    exact ⟨[], Sl.nil _ _, by simp⟩
  · simp only [List.cons.injEq, and_true] at hv
    subst hv
    have hlm : len ≤ m := by rw [hmm]; split <;> omega
    have each : ∀ i, i < len → ∃ q : α, w.cells? base (a.add (i * E.k)) E.k = some (E.enc q) ∧ R q := fun i hi => by
      obtain ⟨cs', h1, h2⟩ := hx i (by omega)
      rw [hc] at h1
      obtain ⟨q, rfl, hq⟩ := hf n cs' _ (World.cells?_some h1).2.1 h2
      exact ⟨q, h1, hq⟩
    obtain ⟨f, hfn⟩ := choose_lt each
    have hsp : 0 < len → a = ⟨a.block, a.off, none⟩ := fun hl0 => by
      have h1 := (World.cells?_some (hfn 0 hl0).1).2.2 0 hk
      have hlen : 0 < (E.enc (f 0)).length := by rw [E.len]; exact hk
      rw [List.getElem?_eq_getElem hlen] at h1
      have hsp := World.cell?_spot h1
      obtain ⟨b, o, sp⟩ := a
      have : sp = none := by simpa [Addr.add] using hsp
      subst this
      rfl
    refine ⟨(List.range len).map f, ⟨⟨some a, cap, by simp, by simpa using hl, hm, fun hne => ?_⟩, fun i q hq => ?_⟩, fun q hq => ?_⟩
    · have hl0 : 0 < len := by
        rcases Nat.eq_zero_or_pos len with h | h
        · subst h; simp at hne
        · exact h
      rw [hsp hl0]; rfl
    · have hi : i < len := by
        have := (List.getElem?_eq_some_iff.1 hq).1
        simpa using this
      have hq' : f i = q := by simpa [hi] using hq
      subst hq'
      have ha := hsp (by omega)
      obtain ⟨b, o, sp⟩ := a
      obtain rfl : sp = none := by simpa using ha
      have hc' := (World.cells?_some (hfn i hi).1).2.2
      have hlen : (E.enc (f i)).length = E.k := E.len _
      have eA : ∀ j, (((⟨b, o, none⟩ : Addr).add (i * E.k)).add j) = ⟨b, o + i * E.k + j, none⟩ := fun j => by
        rw [Go.Deep.add_add]; simp only [Addr.add]
        by_cases h0 : i * E.k + j = 0
        · rw [if_pos h0]
          have : i * E.k = 0 := by omega
          have : j = 0 := by omega
          simp_all
        · rw [if_neg h0, Nat.add_assoc]
      have h1 := hc' 0 hk
      rw [List.getElem?_eq_getElem (by omega), eA] at h1
      have hb1 : ∃ cs T fz, w.heap[b]? = some (.cells cs T fz) := by
        unfold World.cell? at h1
        split at h1
        · rename_i cs T fz hh; exact ⟨cs, T, fz, hh⟩
        · simp at h1
      obtain ⟨cs, T, fz, hh⟩ := hb1
      refine ⟨cs, T, fz, hh, fun j v hj => ?_⟩
      have hjk : j < E.k := by have := (List.getElem?_eq_some_iff.1 hj).1; omega
      have h2 := hc' j hjk
      rw [hj, eA] at h2
      unfold World.cell? at h2
      simp only [hh] at h2
      simp only [ofs]
      simpa using h2
    · obtain ⟨i, hi, rfl⟩ := List.mem_map.1 hq
      exact (hfn i (List.mem_range.1 hi)).2
theorem u32_of_wf {n : Int} (h : (Lit.int .u32 n).wf = true) : ∃ x : UInt32, n = (x.toNat : Int) := by
  have := bounds_u32 h
  refine ⟨UInt32.ofNat n.toNat, ?_⟩
  rw [UInt32.toNat_ofNat']; omega
end
end Go.HL
namespace Go.HL
open Go Go.Deep Go.ChangeShapes Go.WideShapes
section
variable {H : Type} {enc : TypeId × Value → H} {P : Program} {w : World} {base : Nat} {spare : Nat → Bool} {held : Bool}
theorem flat_ins {e t0 t1 : TypeId} {f0 f1 f2 f3 f4 f5 f6 f7 f8 : Field} (he : P.underlying e = some (.struct #[f0, f1, f2, f3, f4, f5, f6, f7, f8]))
    (ho : [f0.offset, f1.offset, f2.offset, f3.offset, f4.offset, f5.offset, f6.offset, f7.offset, f8.offset] = [0, 1, 2, 3, 4, 5, 6, 7, 8])
    (ht : [f0.type, f1.type, f2.type, f3.type, f4.type, f5.type, f6.type, f7.type, f8.type] = [t0, t0, t1, t1, t1, t1, t1, t1, t1])
    (c0 : P.cellsOf t0 = 1) (c1 : P.cellsOf t1 = 1) (u0 : P.underlying t0 = some (.int .u32)) (u1 : P.underlying t1 = some (.int .i64))
    {n : Nat} {cs : List Value} {y : DataW H × List MemPlace} (hl : cs.length = 9) (h : DataW.trod enc P w base spare held n e cs = some y) : ∃ i, cs = encIns.enc i ∧ InsOK i := by
  simp only [List.cons.injEq, and_true] at ho ht
  obtain ⟨o0, o1, o2, o3, o4, o5, o6, o7, o8⟩ := ho
  obtain ⟨t0', t1', t2', t3', t4', t5', t6', t7', t8'⟩ := ht
  obtain ⟨xs, k, hk, hxy, _, hxl, hf⟩ := DataW.trod_struct he h
  match xs, hxl, cs, hl with
  | [y0, y1, y2, y3, y4, y5, y6, y7, y8], _, [v0, v1, v2, v3, v4, v5, v6, v7, v8], _ =>
    have g0 := hf 0 f0 rfl
    have g1 := hf 1 f1 rfl
    have g2 := hf 2 f2 rfl
    have g3 := hf 3 f3 rfl
    have g4 := hf 4 f4 rfl
    have g5 := hf 5 f5 rfl
    have g6 := hf 6 f6 rfl
    have g7 := hf 7 f7 rfl
    have g8 := hf 8 f8 rfl
    simp [o0, o1, o2, o3, o4, o5, o6, o7, o8, t0', t1', t2', t3', t4', t5', t6', t7', t8', c0, c1] at g0 g1 g2 g3 g4 g5 g6 g7 g8
    obtain ⟨z0, e0, _, w0⟩ := DataW.trod_int u0 g0
    obtain ⟨z1, e1, _, w1⟩ := DataW.trod_int u0 g1
    obtain ⟨z2, e2, _, w2⟩ := DataW.trod_int u1 g2
    obtain ⟨z3, e3, _, w3⟩ := DataW.trod_int u1 g3
    obtain ⟨z4, e4, _, w4⟩ := DataW.trod_int u1 g4
    obtain ⟨z5, e5, _, w5⟩ := DataW.trod_int u1 g5
    obtain ⟨z6, e6, _, w6⟩ := DataW.trod_int u1 g6
    obtain ⟨z7, e7, _, w7⟩ := DataW.trod_int u1 g7
    obtain ⟨z8, e8, _, w8⟩ := DataW.trod_int u1 g8
    obtain ⟨x0, rfl⟩ := u32_of_wf w0
    obtain ⟨x1, rfl⟩ := u32_of_wf w1
    simp only [List.cons.injEq, and_true] at e0 e1 e2 e3 e4 e5 e6 e7 e8
    subst e0; subst e1; subst e2; subst e3; subst e4; subst e5; subst e6; subst e7; subst e8
    have b2 := bounds_i64 w2
    have b3 := bounds_i64 w3
    have b4 := bounds_i64 w4
    have b5 := bounds_i64 w5
    have b6 := bounds_i64 w6
    have b7 := bounds_i64 w7
    have b8 := bounds_i64 w8
    exact ⟨⟨x0, x1, z2, z3, z4, z5, z6, z7, z8⟩, rfl, ⟨b2, b3, b4, b5, b6, b7, b8⟩⟩
theorem agg_of {cs : Array Value} {l : List Value} (h : (Value.agg cs).cells.toList = l) : cs = l.toArray := by
  subst h; simp [Value.cells]
end
end Go.HL
namespace Go.HL
open Go Go.Deep Go.ChangeShapes Go.WideShapes
section
variable {H : Type} {enc : TypeId × Value → H} {P : Program} {w : World} {base : Nat} {spare : Nat → Bool} {held : Bool}
theorem flat_u32 {e : TypeId} (he : P.underlying e = some (.int .u32)) {n : Nat} {cs : List Value} {y : DataW H × List MemPlace} (h : DataW.trod enc P w base spare held n e cs = some y) : ∃ a, cs = encU32.enc a ∧ True := by
  obtain ⟨z, rfl, _, hw⟩ := DataW.trod_int he h
  obtain ⟨x, rfl⟩ := u32_of_wf hw
  exact ⟨x, rfl, trivial⟩
theorem flat_code {e ti tu ei eu : TypeId} {f0 f1 f2 f3 : Field} (he : P.underlying e = some (.struct #[f0, f1, f2, f3]))
    (ho : [f0.offset, f1.offset, f2.offset, f3.offset] = [0, 1, 2, 3]) (ht : [f0.type, f1.type, f2.type, f3.type] = [ti, tu, tu, tu])
    (c0 : P.cellsOf ti = 1) (c1 : P.cellsOf tu = 1) (ui : P.underlying ti = some (.slice ei)) (uu : P.underlying tu = some (.slice eu)) (ue : P.underlying eu = some (.int .u32))
    (ci : P.cellsOf ei = 9) (cu : P.cellsOf eu = 1)
    (hfi : ∀ n cs y, cs.length = 9 → DataW.trod enc P w base spare held n ei cs = some y → ∃ i, cs = encIns.enc i ∧ InsOK i)
    {n : Nat} {cs : List Value} {y : DataW H × List MemPlace} (hl : cs.length = 4) (h : DataW.trod enc P w base spare held n e cs = some y) :
    ∃ (li : List Ins) (le lu lb : List UInt32) (Vi Ve Vu Vb : Value), cs = [Vi, Ve, Vu, Vb] ∧ Sl (hp w) encIns li Vi ∧ Sl (hp w) encU32 le Ve ∧ Sl (hp w) encU32 lu Vu ∧ Sl (hp w) encU32 lb Vb ∧ ∀ x ∈ li, InsOK x := by
  simp only [List.cons.injEq, and_true] at ho ht
  obtain ⟨o0, o1, o2, o3⟩ := ho
  obtain ⟨t0', t1', t2', t3'⟩ := ht
  obtain ⟨xs, k, hk, hxy, _, hxl, hf⟩ := DataW.trod_struct he h
  match xs, hxl, cs, hl with
  | [y0, y1, y2, y3], _, [v0, v1, v2, v3], _ =>
    have g0 := hf 0 f0 rfl
    have g1 := hf 1 f1 rfl
    have g2 := hf 2 f2 rfl
    have g3 := hf 3 f3 rfl
    simp [o0, o1, o2, o3, t0', t1', t2', t3', c0, c1] at g0 g1 g2 g3
    obtain ⟨li, s0, I0⟩ := sl_of_trod (E := encIns) (R := InsOK) ui ci (by decide) hfi g0
    obtain ⟨le, s1, _⟩ := sl_of_trod (E := encU32) (R := fun _ => True) uu cu (by decide) (fun n cs y _ hh => flat_u32 ue hh) g1
    obtain ⟨lu, s2, _⟩ := sl_of_trod (E := encU32) (R := fun _ => True) uu cu (by decide) (fun n cs y _ hh => flat_u32 ue hh) g2
    obtain ⟨lb, s3, _⟩ := sl_of_trod (E := encU32) (R := fun _ => True) uu cu (by decide) (fun n cs y _ hh => flat_u32 ue hh) g3
    exact ⟨li, le, lu, lb, v0, v1, v2, v3, rfl, s0, s1, s2, s3, I0⟩
end
end Go.HL
