/- Own rules and walks, part 5. -/
import Derived.Test.YtpeaodkfbjenpaaB4
set_option linter.unusedSimpArgs false
set_option linter.unusedVariables false
set_option linter.unusedSectionVars false
namespace Go.Proofs.Ytpeaodkfbjenpaa
open Go Go.HL Go.RowKit
theorem noCpu2 {h : Hp} {b k : Nat} (hk : k < 2) (hc : Cell h b 13 (.pointer none)) : NoCpu h (([none, some ⟨b, 0, none⟩] : List (Option Addr)).getD k default) := by
  have : k = 0 ∨ k = 1 := by omega
  rcases this with rfl | rfl
  · exact .inl rfl
  · exact .inr ⟨b, rfl, hc⟩
set_option maxRecDepth 100000 in
set_option maxHeartbeats 16000000 in
theorem new_true (p : UInt32) (m1 : UInt8) (w : World) :
    Calls Try.prog 3 #[.int .u32 p.toNat, .int .u8 m1.toNat] w (fun e w' => e = .returned (.bool true) ∧ Below w.heap.size w w') := by
  have hm1 := m1.toNat_lt
  refine enter0 Try.func3 rfl Try.ntmps3 rfl ?_
  refine Tr.seq ?_
  refine Tr.region ?_
  refine Tr.q (QS.assign rfl) rfl ?_
  refine Tr.nil ?_
  refine Tr.thenN ?_
  refine Tr.seq ?_
  refine Tr.region ?_
  refine Tr.callEnts (fun j : Nat × Nat × Value × List RegV => .tuple #[.pointer (some ⟨j.1, 0, none⟩), .int .i64 0]) (fun j => (cellE j.1 [j.2.2.1, .map (some j.2.1)] 33 :: mapE j.2.1 u8V [] :: rowE j.2.2.1 86 encReg j.2.2.2 :: regEnts 5 j.2.2.2)) (ok := fun j => MemOK [] j.2.2.2) rfl Try.call9 (fun w hw => mnew_ok [] _ w (Sl.nil _ _) nil_secB (fun s hs => by cases hs) (fun s hs => by cases hs) nil_chk) rfl (fun i hO => ?_)
  obtain ⟨bM0, bm0, VR0, rs⟩ := i
  refine Tr.frozenL (split_mid [] [] (cellE bM0 [VR0, .map (some bm0)] 33 :: mapE bm0 u8V [] :: rowE VR0 86 encReg rs :: regEnts 5 rs)) (fun F0 hF0 hk => ?_)
  have hM0 : MemAt F0.blk bM0 bm0 VR0 rs := memAt_of hk (.head _) (.tail _ (.tail _ (.head _))) (fun e he => .tail _ (.tail _ (.tail _ he)))
  have hW0 : MapIn F0.blk bm0 u8V [] := hk _ (.tail _ (.head _))
  change Tr _ _ [] _ _
  have hdr0 : F0.dr = 0 := hF0.dr
  refine Tr.q (QS.move rfl) rfl ?_
  refine Tr.q (QS.extract rfl rfl) rfl ?_
  refine Tr.q (QS.extract rfl rfl) rfl ?_
  refine Tr.q (QS.assign rfl) rfl ?_
  refine Tr.q (QS.assign rfl) rfl ?_
  refine Tr.nil ?_
  refine Tr.thenN ?_
  refine Tr.seq ?_
  refine Tr.seq ?_
  refine Tr.region ?_
  refine Tr.q (QS.move rfl) rfl ?_
  refine Tr.q (QS.neq rfl rfl) rfl ?_
  refine Tr.q (QS.move rfl) rfl ?_
  apply Tr.orP
  · exact (rfl : _ = (3, 31, 34))
  · exact rfl
  · intro hF1; have hF1' := hF1
    try simp only [bs] at hF1'
    refine Tr.gq rfl rfl hF1 (QS.move rfl) rfl ?_
    refine Tr.gq rfl rfl hF1 (QS.eqlPN rfl rfl Try.underlying23 rfl) rfl ?_
    refine Tr.q (QS.pickF rfl hF1 rfl) rfl ?_
    refine Tr.nil (Tr.thenN ?_)
    exact Tr.endX (Sub.cons rfl (Sub.dropN 3 (by kernel_rfl) rfl))
  · intro hT1
    refine Tr.gskip rfl rfl hT1 rfl ?_
    refine Tr.gskip rfl rfl hT1 rfl ?_
    refine Tr.q (QS.pickT rfl hT1 rfl) rfl ?_
    refine Tr.nil (Tr.thenN ?_)
    exact Tr.endX (Sub.cons rfl (Sub.dropN 3 (by kernel_rfl) rfl))
  refine Tr.nil ?_
  refine Tr.thenN ?_
  refine Tr.cond rfl (fun h2 => ?_) (fun h2 => ?_)
  · try simp only [bs] at h2
    first | contradiction | (exfalso; omega) | simp_all
  · try simp only [bs] at h2
    refine Tr.skip ?_
    refine Tr.thenN ?_
    refine Tr.seq ?_
    refine Tr.region ?_
    refine Tr.q (QS.move rfl) rfl ?_
    refine Tr.q (QS.call rfl Try.call10 (fun w hw => newc_no none p _ w (.inl rfl))) rfl ?_
    refine Tr.q (QS.move rfl) rfl ?_
    refine Tr.q (QS.extract rfl rfl) rfl ?_
    refine Tr.q (QS.extract rfl rfl) rfl ?_
    refine Tr.q (QS.assign rfl) rfl ?_
    refine Tr.q (QS.assign rfl) rfl ?_
    refine Tr.nil ?_
    refine Tr.thenN ?_
    refine Tr.seq ?_
    refine Tr.region ?_
    refine Tr.q (QS.build (vs := []) rfl rfl (HLF.built33)) rfl ?_
    refine Tr.box rfl rfl rfl (fun b3 => ?_)
    refine Tr.q (QS.move rfl) rfl ?_
    refine Tr.q (QS.call rfl Try.call10 (fun w hw => newc_no (some ⟨b3, 0, none⟩) p _ w (.inr ⟨_, rfl, (cellE.cellsIn (hw.ent _ (by repeat (first | exact List.Mem.head _ | apply List.Mem.tail))) (Ext.refl _)).cell (j := 1) rfl⟩))) rfl ?_
    refine Tr.q (QS.move rfl) rfl ?_
    refine Tr.q (QS.extract rfl rfl) rfl ?_
    refine Tr.q (QS.extract rfl rfl) rfl ?_
    refine Tr.q (QS.assign rfl) rfl ?_
    refine Tr.q (QS.assign rfl) rfl ?_
    refine Tr.nil ?_
    refine Tr.thenN ?_
    refine Tr.seq ?_
    refine Tr.region ?_
    refine Tr.q (QS.move rfl) rfl ?_
    refine Tr.q (QS.move rfl) rfl ?_
    refine Tr.q (QS.move rfl) rfl ?_
    refine Tr.q (QS.cvt8toI rfl Try.underlying5 Try.underlying3) rfl ?_
    first | refine Tr.q (QS.addI rfl rfl (by omega)) rfl ?_ | refine Tr.q (QS.add rfl rfl) rfl ?_
    refine Tr.make (E := encU32) 0 (n := 4097 + m1.toNat) rfl rfl Try.underlying34 HLF.info22 rfl rfl rfl (by omega) rfl (fun b4 => ?_)
    refine Tr.q (QS.call0 hdr0 rfl Try.call10 (fun w hw => newc_long bM0 bm0 VR0 _ rs [] [] p (List.replicate (4097 + m1.toNat) 0) w (hM0.mono hw.bg) (hW0.mono hw.bg) hO rfl (hw.row (by repeat (first | exact List.Mem.head _ | apply List.Mem.tail))) (by rw [List.length_replicate]; omega))) rfl ?_
    refine Tr.q (QS.move rfl) rfl ?_
    refine Tr.q (QS.extract rfl rfl) rfl ?_
    refine Tr.q (QS.extract rfl rfl) rfl ?_
    refine Tr.q (QS.assign rfl) rfl ?_
    refine Tr.q (QS.assign rfl) rfl ?_
    refine Tr.nil ?_
    refine Tr.thenN ?_
    refine Tr.seq ?_
    refine Tr.region ?_
    refine Tr.q (QS.move rfl) rfl ?_
    refine Tr.q (QS.move rfl) rfl ?_
    refine Tr.make (E := encU32) 0 (n := 4096) rfl rfl Try.underlying34 HLF.info22 rfl rfl rfl (by decide) rfl (fun b4 => ?_)
    refine Tr.callMix0 (fun j : Nat × Nat × Nat × Value × Value × WL => .tuple #[.pointer (some ⟨j.1, 0, none⟩), .int .i64 0]) (fun j => []) (fun j => [cellE j.1 (cpuC (newS p) j.2.1 j.2.2.2.2.1 (.slice none 0 0) .nilFunc) 47, mapE j.2.2.1 u8V j.2.2.2.2.2, rowE (.slice none 0 0) 22 encU32 [], cellE j.2.1 [j.2.2.2.1, .map (some j.2.2.1)] 33, rowE j.2.2.2.1 86 encReg rs, rowE j.2.2.2.2.1 22 encU32 (List.replicate 4096 0)]) (ok := fun j => mread j.2.2.2.2.2 = (newS p).w ∧ j.2.2.2.2.2.length ≤ ([] : WL).length + 4) hdr0 rfl Try.call10 (fun w hw => newc_any bM0 bm0 VR0 _ rs [] [] p (List.replicate 4096 0) w (hM0.mono hw.bg) (hW0.mono hw.bg) hO rfl (hw.row (by repeat (first | exact List.Mem.head _ | apply List.Mem.tail))) (by rw [List.length_replicate]; omega)) rfl (fun j F1 hj hF1 hk => ?_)
    obtain ⟨bc, bM, bm, VR, vi, wl⟩ := j
    obtain ⟨hwl, hnl⟩ := hj
    replace hwl : mread wl = (newS p).w := hwl
    have hF01 := hF0.trans hF1
    have hdr1 : F1.dr = 0 := hF01.dr
    replace hM0 := hM0.mono hF1.blk
    replace hW0 := hW0.mono hF1.blk
    have hc : CellsIn F1.blk bc (cpuC (newS p) bM vi (.slice none 0 0) .nilFunc) := cellE.cellsInL hk (.head _)
    have hW : MapIn F1.blk bm u8V wl := hk _ (.tail _ (.head _))
    have hM : MemAt F1.blk bM bm VR rs := ⟨cellE.cellsInL hk (.tail _ (.tail _ (.tail _ (.head _)))), RowOK.sl (hk _ (.tail _ (.tail _ (.tail _ (.tail _ (.head _)))))), hM0.data⟩
    refine Tr.q (QS.move rfl) rfl ?_
    refine Tr.q (QS.extract rfl rfl) rfl ?_
    refine Tr.q (QS.extract rfl rfl) rfl ?_
    refine Tr.q (QS.assign rfl) rfl ?_
    refine Tr.q (QS.assign rfl) rfl ?_
    refine Tr.nil ?_
    refine Tr.thenN ?_
    refine Tr.seq ?_
    refine Tr.seq ?_
    refine Tr.region ?_
    refine Tr.q (QS.move rfl) rfl ?_
    refine Tr.q (QS.neq rfl rfl) rfl ?_
    refine Tr.q (QS.move rfl) rfl ?_
    apply Tr.orP
    · exact (rfl : _ = (3, 66, 69))
    · exact rfl
    · intro hF5; have hF5' := hF5
      try simp only [bs] at hF5'
      refine Tr.gq rfl rfl hF5 (QS.move rfl) rfl ?_
      refine Tr.gq rfl rfl hF5 (QS.neq rfl rfl) rfl ?_
      refine Tr.q (QS.pickF rfl hF5 rfl) rfl ?_
      refine Tr.nil (Tr.thenN ?_)
      exact Tr.endX (Sub.cons rfl (Sub.dropN 3 (by kernel_rfl) rfl))
    · intro hT5
      refine Tr.gskip rfl rfl hT5 rfl ?_
      refine Tr.gskip rfl rfl hT5 rfl ?_
      refine Tr.q (QS.pickT rfl hT5 rfl) rfl ?_
      refine Tr.nil (Tr.thenN ?_)
      exact Tr.endX (Sub.cons rfl (Sub.dropN 3 (by kernel_rfl) rfl))
    refine Tr.q (QS.move rfl) rfl ?_
    apply Tr.orP
    · exact (rfl : _ = (3, 70, 73))
    · exact rfl
    · intro hF6; have hF6' := hF6
      try simp only [bs] at hF6'
      refine Tr.gq rfl rfl hF6 (QS.move rfl) rfl ?_
      refine Tr.gq rfl rfl hF6 (QS.neq rfl rfl) rfl ?_
      refine Tr.q (QS.pickF rfl hF6 rfl) rfl ?_
      refine Tr.nil (Tr.thenN ?_)
      exact Tr.endX (Sub.cons rfl (Sub.dropN 3 (by kernel_rfl) rfl))
    · intro hT6
      refine Tr.gskip rfl rfl hT6 rfl ?_
      refine Tr.gskip rfl rfl hT6 rfl ?_
      refine Tr.q (QS.pickT rfl hT6 rfl) rfl ?_
      refine Tr.nil (Tr.thenN ?_)
      exact Tr.endX (Sub.cons rfl (Sub.dropN 3 (by kernel_rfl) rfl))
    refine Tr.q (QS.move rfl) rfl ?_
    apply Tr.orP
    · exact (rfl : _ = (3, 74, 77))
    · exact rfl
    · intro hF7; have hF7' := hF7
      try simp only [bs] at hF7'
      refine Tr.gq rfl rfl hF7 (QS.move rfl) rfl ?_
      refine Tr.gq rfl rfl hF7 (QS.neq rfl rfl) rfl ?_
      refine Tr.q (QS.pickF rfl hF7 rfl) rfl ?_
      refine Tr.nil (Tr.thenN ?_)
      exact Tr.endX (Sub.cons rfl (Sub.dropN 3 (by kernel_rfl) rfl))
    · intro hT7
      refine Tr.gskip rfl rfl hT7 rfl ?_
      refine Tr.gskip rfl rfl hT7 rfl ?_
      refine Tr.q (QS.pickT rfl hT7 rfl) rfl ?_
      refine Tr.nil (Tr.thenN ?_)
      exact Tr.endX (Sub.cons rfl (Sub.dropN 3 (by kernel_rfl) rfl))
    refine Tr.q (QS.move rfl) rfl ?_
    apply Tr.orP
    · exact (rfl : _ = (3, 78, 81))
    · exact rfl
    · intro hF8; have hF8' := hF8
      try simp only [bs] at hF8'
      refine Tr.gq rfl rfl hF8 (QS.move rfl) rfl ?_
      refine Tr.gq rfl rfl hF8 (QS.eqlPN rfl rfl Try.underlying27 rfl) rfl ?_
      refine Tr.q (QS.pickF rfl hF8 rfl) rfl ?_
      refine Tr.nil (Tr.thenN ?_)
      exact Tr.endX (Sub.cons rfl (Sub.dropN 3 (by kernel_rfl) rfl))
    · intro hT8
      refine Tr.gskip rfl rfl hT8 rfl ?_
      refine Tr.gskip rfl rfl hT8 rfl ?_
      refine Tr.q (QS.pickT rfl hT8 rfl) rfl ?_
      refine Tr.nil (Tr.thenN ?_)
      exact Tr.endX (Sub.cons rfl (Sub.dropN 3 (by kernel_rfl) rfl))
    refine Tr.nil ?_
    refine Tr.thenN ?_
    refine Tr.cond rfl (fun h9 => ?_) (fun h9 => ?_)
    · try simp only [bs] at h9
      first | contradiction | (exfalso; omega) | simp_all
    · try simp only [bs] at h9
      refine Tr.skip ?_
      refine Tr.thenN ?_
      refine Tr.seq ?_
      refine Tr.region ?_
      refine Tr.q (QS.move rfl) rfl ?_
      refine Tr.callEnts (fun i : Nat × Nat × Value => .pointer (some ⟨i.1, 0, none⟩)) (fun i => [cellE i.1 [i.2.2, .map (some i.2.1)] 33, mapE i.2.1 u8V wl, rowE i.2.2 86 encReg rs]) (ok := fun _ => True) rfl Try.call11 (fun w hw => memory_cpu (newS p) bc bM vi (.slice none 0 0) .nilFunc bm VR rs wl w (hc.mono hw.bg) (hM.mono hw.bg) (hW.mono hw.bg) (Nat.le_trans hO.bounds.1 (by omega))) rfl (fun i3 _ => ?_)
      refine Tr.q (QS.assign rfl) rfl ?_
      refine Tr.nil ?_
      refine Tr.thenN ?_
      refine Tr.seq ?_
      refine Tr.seq ?_
      refine Tr.region ?_
      refine Tr.q (QS.move rfl) rfl ?_
      refine Tr.q (QS.eqlPN rfl rfl Try.underlying23 rfl) rfl ?_
      refine Tr.nil ?_
      refine Tr.thenN ?_
      refine Tr.cond rfl (fun h10 => ?_) (fun h10 => ?_)
      · try simp only [bs] at h10
        first | contradiction | (exfalso; omega) | simp_all
      · try simp only [bs] at h10
        refine Tr.skip ?_
        refine Tr.thenN ?_
        refine Tr.seq ?_
        refine Tr.region ?_
        refine Tr.q (QS.move rfl) rfl ?_
        refine Tr.q (QS.call rfl Try.call12 (fun w hw => mload_any i3.1 i3.2.1 i3.2.2 rs [] 983036 4 wl w ⟨cellE.cellsIn (hw.ent _ (by repeat (first | exact List.Mem.head _ | apply List.Mem.tail))) (Ext.refl _), hw.row (by repeat (first | exact List.Mem.head _ | apply List.Mem.tail)), (hM.mono hw.bg).data⟩ hO (mapE.in_ (hw.ent _ (by repeat (first | exact List.Mem.head _ | apply List.Mem.tail)))))) rfl ?_
        refine Tr.q (QS.move rfl) rfl ?_
        refine Tr.q (QS.extract rfl rfl) rfl ?_
        refine Tr.q (QS.extract rfl rfl) rfl ?_
        refine Tr.q (QS.assign rfl) rfl ?_
        refine Tr.q (QS.assign rfl) rfl ?_
        refine Tr.nil ?_
        refine Tr.thenN ?_
        refine Tr.seq ?_
        refine Tr.region ?_
        refine Tr.q (QS.move rfl) rfl ?_
        refine Tr.q (QS.call rfl Try.call12 (fun w hw => mload_any bM0 bm0 VR0 rs [] 983036 4 [] w (hM0.mono hw.bg) hO (hW0.mono hw.bg))) rfl ?_
        refine Tr.q (QS.move rfl) rfl ?_
        refine Tr.q (QS.extract rfl rfl) rfl ?_
        refine Tr.q (QS.extract rfl rfl) rfl ?_
        refine Tr.q (QS.assign rfl) rfl ?_
        refine Tr.q (QS.assign rfl) rfl ?_
        refine Tr.nil ?_
        refine Tr.thenN ?_
        refine Tr.seq ?_
        refine Tr.seq ?_
        refine Tr.region ?_
        refine Tr.q (QS.move rfl) rfl ?_
        refine Tr.q (QS.neq32 (n := 4294967295) rfl rfl) rfl ?_
        refine Tr.q (QS.move rfl) rfl ?_
        apply Tr.orP
        · exact (rfl : _ = (3, 98, 101))
        · exact rfl
        · intro hF11; have hF11' := hF11
          try simp only [bs] at hF11'
          refine Tr.gq rfl rfl hF11 (QS.move rfl) rfl ?_
          refine Tr.gq rfl rfl hF11 (QS.neq rfl rfl) rfl ?_
          refine Tr.q (QS.pickF rfl hF11 rfl) rfl ?_
          refine Tr.nil (Tr.thenN ?_)
          exact Tr.endX (Sub.cons rfl (Sub.dropN 3 (by kernel_rfl) rfl))
        · intro hT11
          refine Tr.gskip rfl rfl hT11 rfl ?_
          refine Tr.gskip rfl rfl hT11 rfl ?_
          refine Tr.q (QS.pickT rfl hT11 rfl) rfl ?_
          refine Tr.nil (Tr.thenN ?_)
          exact Tr.endX (Sub.cons rfl (Sub.dropN 3 (by kernel_rfl) rfl))
        refine Tr.q (QS.move rfl) rfl ?_
        apply Tr.orP
        · exact (rfl : _ = (3, 102, 105))
        · exact rfl
        · intro hF12; have hF12' := hF12
          try simp only [bs] at hF12'
          refine Tr.gq rfl rfl hF12 (QS.move rfl) rfl ?_
          refine Tr.gq rfl rfl hF12 (QS.neq32 (n := 0) rfl rfl) rfl ?_
          refine Tr.q (QS.pickF rfl hF12 rfl) rfl ?_
          refine Tr.nil (Tr.thenN ?_)
          exact Tr.endX (Sub.cons rfl (Sub.dropN 3 (by kernel_rfl) rfl))
        · intro hT12
          refine Tr.gskip rfl rfl hT12 rfl ?_
          refine Tr.gskip rfl rfl hT12 rfl ?_
          refine Tr.q (QS.pickT rfl hT12 rfl) rfl ?_
          refine Tr.nil (Tr.thenN ?_)
          exact Tr.endX (Sub.cons rfl (Sub.dropN 3 (by kernel_rfl) rfl))
        refine Tr.q (QS.move rfl) rfl ?_
        apply Tr.orP
        · exact (rfl : _ = (3, 106, 109))
        · exact rfl
        · intro hF13; have hF13' := hF13
          try simp only [bs] at hF13'
          refine Tr.gq rfl rfl hF13 (QS.move rfl) rfl ?_
          refine Tr.gq rfl rfl hF13 (QS.neq rfl rfl) rfl ?_
          refine Tr.q (QS.pickF rfl hF13 rfl) rfl ?_
          refine Tr.nil (Tr.thenN ?_)
          exact Tr.endX (Sub.cons rfl (Sub.dropN 3 (by kernel_rfl) rfl))
        · intro hT13
          refine Tr.gskip rfl rfl hT13 rfl ?_
          refine Tr.gskip rfl rfl hT13 rfl ?_
          refine Tr.q (QS.pickT rfl hT13 rfl) rfl ?_
          refine Tr.nil (Tr.thenN ?_)
          exact Tr.endX (Sub.cons rfl (Sub.dropN 3 (by kernel_rfl) rfl))
        refine Tr.q (QS.move rfl) rfl ?_
        apply Tr.orP
        · exact (rfl : _ = (6, 110, 116))
        · exact rfl
        · intro hF14; have hF14' := hF14
          try simp only [bs] at hF14'
          refine Tr.gq rfl rfl hF14 (QS.move rfl) rfl ?_
          refine Tr.gq rfl rfl hF14 (QS.call rfl Try.call13 (fun w hw => state_cpu (newS p) bc bM vi (.slice none 0 0) .nilFunc w (hc.mono hw.bg))) rfl ?_
          refine Tr.gq rfl rfl hF14 (QS.move rfl) rfl ?_
          refine Tr.gq rfl rfl hF14 (QS.call rfl Try.call14 (fun w hw => start_ref p w)) rfl ?_
          refine Tr.gq rfl rfl hF14 (QS.neqM (p := startM p) (q := startM p) rfl rfl machTy42 eqg42) rfl ?_
          refine Tr.q (QS.pickF rfl hF14 rfl) rfl ?_
          refine Tr.nil (Tr.thenN ?_)
          exact Tr.endX (Sub.cons rfl (Sub.dropN 6 (by kernel_rfl) rfl))
        · intro hT14
          refine Tr.gskip rfl rfl hT14 rfl ?_
          refine Tr.gskip rfl rfl hT14 rfl ?_
          refine Tr.gskip rfl rfl hT14 rfl ?_
          refine Tr.gskip rfl rfl hT14 rfl ?_
          refine Tr.gskip rfl rfl hT14 rfl ?_
          refine Tr.q (QS.pickT rfl hT14 rfl) rfl ?_
          refine Tr.nil (Tr.thenN ?_)
          exact Tr.endX (Sub.cons rfl (Sub.dropN 6 (by kernel_rfl) rfl))
        refine Tr.q (QS.move rfl) rfl ?_
        apply Tr.orP
        · exact (rfl : _ = (6, 117, 123))
        · exact rfl
        · intro hF15; have hF15' := hF15
          try simp only [bs] at hF15'
          refine Tr.gq rfl rfl hF15 (QS.move rfl) rfl ?_
          refine Tr.gq rfl rfl hF15 (QS.call rfl Try.call15 (fun w hw => start_cpu p w)) rfl ?_
          refine Tr.gq rfl rfl hF15 (QS.move rfl) rfl ?_
          refine Tr.gq rfl rfl hF15 (QS.call rfl Try.call14 (fun w hw => start_ref p w)) rfl ?_
          refine Tr.gq rfl rfl hF15 (QS.neqM (p := startM p) (q := startM p) rfl rfl machTy42 eqg42) rfl ?_
          refine Tr.q (QS.pickF rfl hF15 rfl) rfl ?_
          refine Tr.nil (Tr.thenN ?_)
          exact Tr.endX (Sub.cons rfl (Sub.dropN 6 (by kernel_rfl) rfl))
        · intro hT15
          refine Tr.gskip rfl rfl hT15 rfl ?_
          refine Tr.gskip rfl rfl hT15 rfl ?_
          refine Tr.gskip rfl rfl hT15 rfl ?_
          refine Tr.gskip rfl rfl hT15 rfl ?_
          refine Tr.gskip rfl rfl hT15 rfl ?_
          refine Tr.q (QS.pickT rfl hT15 rfl) rfl ?_
          refine Tr.nil (Tr.thenN ?_)
          exact Tr.endX (Sub.cons rfl (Sub.dropN 6 (by kernel_rfl) rfl))
        refine Tr.nil ?_
        refine Tr.thenN ?_
        refine Tr.cond rfl (fun h16 => ?_) (fun h16 => ?_)
        · try simp only [bs] at h16
          exact absurd h16 (by simp [hwl, new_top, new_zero])
        · try simp only [bs] at h16
          refine Tr.skip ?_
          refine Tr.thenN ?_
          refine Tr.seq ?_
          refine Tr.region ?_
          refine Tr.q (QS.build (vs := []) rfl rfl (HLF.built47)) rfl ?_
          refine Tr.box rfl rfl rfl (fun b17 => ?_)
          refine Tr.litN (E := encPtr) [none, some ⟨b17, 0, none⟩] (vs := [(0, _), (1, _)]) rfl rfl Try.underlying48 Try.sizeOf27 Try.zeroValue27 (by rfl) (by rfl) rfl (by first | kernel_rfl | rfl) rfl (fun V18 => ?_)
          refine Tr.q (QS.assign rfl) rfl ?_
          refine Tr.nil ?_
          refine Tr.thenN ?_
          refine Tr.seq ?_
          refine Tr.seq ?_
          refine Tr.region ?_
          refine Tr.q (QS.assign rfl) rfl ?_
          refine Tr.nil ?_
          refine Tr.thenN ?_
          refine Tr.block ?_
          refine Tr.loop (ι := Nat) (fun k => k ≤ 2) (fun _ => _) (fun k => [rowE V18 27 encPtr ([none, some ⟨b17, 0, none⟩] : List (Option Addr)), cellE b17 _ 47]) (fun k => [(21, .int .i64 (k : Nat))]) (fun k => 2 - k) 0 (Nat.zero_le _) (.cons (by first | rfl | exact lookI rfl (by omega) | exact lookI rfl (by simp) | exact lookB rfl (by simp)) Front.nil) (by repeat' (first | exact Pick.nil _ | exact Del.here _ | apply Pick.cons | apply Del.there)) rfl (fun k hi m hm => ?_)
          replace hi : k ≤ 2 := hi
          replace hm : m = 2 - k := hm
          change Tr _ _ [rowE V18 27 encPtr ([none, some ⟨b17, 0, none⟩] : List (Option Addr)), cellE b17 _ 47] ([(21, .int .i64 (k : Nat))] ++ _) _
          have hk2 : k ≤ 2 := hi
          have hpl : ([none, some ⟨b17, 0, none⟩] : List (Option Addr)).length = 2 := rfl
          refine Tr.seq ?_
          refine Tr.seq ?_
          refine Tr.region ?_
          refine Tr.q (QS.move rfl) rfl ?_
          refine Tr.q (QS.move rfl) rfl ?_
          first | refine Tr.q (QS.len rfl (by assumption) Try.underlying48) rfl ?_ | refine Tr.q (QS.lenRow rfl (by repeat (first | exact List.Mem.head _ | apply List.Mem.tail)) Try.underlying48) rfl ?_ | refine Tr.q (QS.lenNil rfl Try.underlying48) rfl ?_
          refine Tr.q (QS.lss rfl rfl) rfl ?_
          refine Tr.nil ?_
          refine Tr.thenN ?_
          refine Tr.cond rfl (fun h19 => ?_) (fun h19 => ?_)
          · try simp only [bs] at h19
            refine Tr.skip ?_
            refine Tr.thenN ?_
            refine Tr.seq ?_
            refine Tr.block ?_
            refine Tr.seq ?_
            refine Tr.region ?_
            refine Tr.q (QS.move rfl) rfl ?_
            refine Tr.q (QS.move rfl) rfl ?_
            first | refine Tr.q (QS.idxN rfl rfl (by assumption) Try.underlying48 Try.sizeOf27 (by rfl) (by omega)) rfl ?_ | refine Tr.q (QS.idxRowN rfl rfl (by repeat (first | exact List.Mem.head _ | apply List.Mem.tail)) Try.underlying48 Try.sizeOf27 (by rfl) (by omega)) rfl ?_ | refine Tr.q (QS.idx rfl rfl (by assumption) Try.underlying48 Try.sizeOf27 (by rfl) (by omega)) rfl ?_ | refine Tr.q (QS.idxRow rfl rfl (by repeat (first | exact List.Mem.head _ | apply List.Mem.tail)) Try.underlying48 Try.sizeOf27 (by rfl) (by omega)) rfl ?_
            first | refine Tr.q (QS.el1 rfl (by assumption) Try.isAgg27 (by omega) (by rfl)) rfl ?_ | refine Tr.q (QS.elR1 rfl (by repeat (first | exact List.Mem.head _ | apply List.Mem.tail)) Try.isAgg27 (by omega) (by rfl)) rfl ?_
            refine Tr.q (QS.call rfl Try.call16 (fun w hw => trace_no (([none, some ⟨b17, 0, none⟩] : List (Option Addr)).getD k default) 5 w (noCpu2 (by omega) ((cellE.cellsIn (hw.ent _ (by repeat (first | exact List.Mem.head _ | apply List.Mem.tail))) (Ext.refl _)).cell (j := 13) rfl)))) rfl ?_
            refine Tr.q (QS.move rfl) rfl ?_
            refine Tr.q (QS.extract rfl rfl) rfl ?_
            refine Tr.q (QS.extract rfl rfl) rfl ?_
            refine Tr.alloc Try.zeroValue50 rfl rfl (fun b20 => ?_)
            refine Tr.q (QS.assign rfl) rfl ?_
            first | refine Tr.storeW rfl rfl Try.sizeOf50 (by repeat (first | exact Put.here _ | apply Put.there)) (by rfl) (by rfl) (by first | exact List.all_eq_true.1 rfl | exact Enc.one _ _ | (intro u hu; simp [Value.cells] at hu; simp_all [Value.oneCell'])) rfl ?_ | refine Tr.storeV (cs' := [_, _, _]) rfl rfl Try.sizeOf50 (by repeat (first | exact Put.here _ | apply Put.there)) rfl (by rfl) (by first | exact Nat.le_of_ble_eq_true rfl | simp) (by first | exact List.all_eq_true.1 rfl | (intro u hu; simp [Value.cells] at hu; simp_all [Value.oneCell'])) rfl ?_
            refine Tr.nil ?_
            refine Tr.thenN ?_
            refine Tr.seq ?_
            refine Tr.region ?_
            refine Tr.q (QS.move rfl) rfl ?_
            refine Tr.q (QS.move rfl) rfl ?_
            first | refine Tr.q (QS.idxN rfl rfl (by assumption) Try.underlying48 Try.sizeOf27 (by rfl) (by omega)) rfl ?_ | refine Tr.q (QS.idxRowN rfl rfl (by repeat (first | exact List.Mem.head _ | apply List.Mem.tail)) Try.underlying48 Try.sizeOf27 (by rfl) (by omega)) rfl ?_ | refine Tr.q (QS.idx rfl rfl (by assumption) Try.underlying48 Try.sizeOf27 (by rfl) (by omega)) rfl ?_ | refine Tr.q (QS.idxRow rfl rfl (by repeat (first | exact List.Mem.head _ | apply List.Mem.tail)) Try.underlying48 Try.sizeOf27 (by rfl) (by omega)) rfl ?_
            first | refine Tr.q (QS.el1 rfl (by assumption) Try.isAgg27 (by omega) (by rfl)) rfl ?_ | refine Tr.q (QS.elR1 rfl (by repeat (first | exact List.Mem.head _ | apply List.Mem.tail)) Try.isAgg27 (by omega) (by rfl)) rfl ?_
            refine Tr.q (QS.call rfl Try.call17 (fun w hw => run_no (([none, some ⟨b17, 0, none⟩] : List (Option Addr)).getD k default) 5 w (noCpu2 (by omega) ((cellE.cellsIn (hw.ent _ (by repeat (first | exact List.Mem.head _ | apply List.Mem.tail))) (Ext.refl _)).cell (j := 13) rfl)))) rfl ?_
            refine Tr.alloc Try.zeroValue50 rfl rfl (fun b21 => ?_)
            first | refine Tr.storeW rfl rfl Try.sizeOf50 (by repeat (first | exact Put.here _ | apply Put.there)) (by rfl) (by rfl) (by first | exact List.all_eq_true.1 rfl | exact Enc.one _ _ | (intro u hu; simp [Value.cells] at hu; simp_all [Value.oneCell'])) rfl ?_ | refine Tr.storeV (cs' := [_, _, _]) rfl rfl Try.sizeOf50 (by repeat (first | exact Put.here _ | apply Put.there)) rfl (by rfl) (by first | exact Nat.le_of_ble_eq_true rfl | simp) (by first | exact List.all_eq_true.1 rfl | (intro u hu; simp [Value.cells] at hu; simp_all [Value.oneCell'])) rfl ?_
            refine Tr.nil ?_
            refine Tr.thenN ?_
            refine Tr.seq ?_
            refine Tr.region ?_
            refine Tr.q (QS.move rfl) rfl ?_
            refine Tr.q (QS.move rfl) rfl ?_
            first | refine Tr.q (QS.idxN rfl rfl (by assumption) Try.underlying48 Try.sizeOf27 (by rfl) (by omega)) rfl ?_ | refine Tr.q (QS.idxRowN rfl rfl (by repeat (first | exact List.Mem.head _ | apply List.Mem.tail)) Try.underlying48 Try.sizeOf27 (by rfl) (by omega)) rfl ?_ | refine Tr.q (QS.idx rfl rfl (by assumption) Try.underlying48 Try.sizeOf27 (by rfl) (by omega)) rfl ?_ | refine Tr.q (QS.idxRow rfl rfl (by repeat (first | exact List.Mem.head _ | apply List.Mem.tail)) Try.underlying48 Try.sizeOf27 (by rfl) (by omega)) rfl ?_
            first | refine Tr.q (QS.el1 rfl (by assumption) Try.isAgg27 (by omega) (by rfl)) rfl ?_ | refine Tr.q (QS.elR1 rfl (by repeat (first | exact List.Mem.head _ | apply List.Mem.tail)) Try.isAgg27 (by omega) (by rfl)) rfl ?_
            refine Tr.q (QS.call rfl Try.call18 (fun w hw => step_no (([none, some ⟨b17, 0, none⟩] : List (Option Addr)).getD k default) w (noCpu2 (by omega) ((cellE.cellsIn (hw.ent _ (by repeat (first | exact List.Mem.head _ | apply List.Mem.tail))) (Ext.refl _)).cell (j := 13) rfl)))) rfl ?_
            refine Tr.q (QS.neq rfl rfl) rfl ?_
            refine Tr.q (QS.move rfl) rfl ?_
            apply Tr.orP
            · exact (rfl : _ = (4, 152, 156))
            · exact rfl
            · intro hF22; have hF22' := hF22
              try simp only [bs] at hF22'
              refine Tr.gq rfl rfl hF22 (QS.fieldAddr (off := 0) (ft := 24) rfl Try.underlying50 rfl rfl Try.sizeOf24 (by decide)) rfl ?_
              refine Tr.gq rfl rfl hF22 (QS.lV rfl Try.isAgg24) rfl ?_
              refine Tr.gq rfl rfl hF22 (QS.neq rfl rfl) rfl ?_
              refine Tr.q (QS.pickF rfl hF22 rfl) rfl ?_
              refine Tr.nil (Tr.thenN ?_)
              exact Tr.endX (Sub.cons rfl (Sub.dropN 4 (by kernel_rfl) rfl))
            · intro hT22
              refine Tr.gskip rfl rfl hT22 rfl ?_
              refine Tr.gskip rfl rfl hT22 rfl ?_
              refine Tr.gskip rfl rfl hT22 rfl ?_
              refine Tr.q (QS.pickT rfl hT22 rfl) rfl ?_
              refine Tr.nil (Tr.thenN ?_)
              exact Tr.endX (Sub.cons rfl (Sub.dropN 4 (by kernel_rfl) rfl))
            refine Tr.q (QS.move rfl) rfl ?_
            apply Tr.orP
            · exact (rfl : _ = (4, 157, 161))
            · exact rfl
            · intro hF23; have hF23' := hF23
              try simp only [bs] at hF23'
              refine Tr.gq rfl rfl hF23 (QS.fieldAddr (off := 0) (ft := 24) rfl Try.underlying50 rfl rfl Try.sizeOf24 (by decide)) rfl ?_
              refine Tr.gq rfl rfl hF23 (QS.lV rfl Try.isAgg24) rfl ?_
              refine Tr.gq rfl rfl hF23 (QS.neq rfl rfl) rfl ?_
              refine Tr.q (QS.pickF rfl hF23 rfl) rfl ?_
              refine Tr.nil (Tr.thenN ?_)
              exact Tr.endX (Sub.cons rfl (Sub.dropN 4 (by kernel_rfl) rfl))
            · intro hT23
              refine Tr.gskip rfl rfl hT23 rfl ?_
              refine Tr.gskip rfl rfl hT23 rfl ?_
              refine Tr.gskip rfl rfl hT23 rfl ?_
              refine Tr.q (QS.pickT rfl hT23 rfl) rfl ?_
              refine Tr.nil (Tr.thenN ?_)
              exact Tr.endX (Sub.cons rfl (Sub.dropN 4 (by kernel_rfl) rfl))
            refine Tr.q (QS.move rfl) rfl ?_
            apply Tr.orP
            · exact (rfl : _ = (14, 162, 176))
            · exact rfl
            · intro hF24; have hF24' := hF24
              try simp only [bs] at hF24'
              refine Tr.gq rfl rfl hF24 (QS.move rfl) rfl ?_
              first | refine Tr.gq rfl rfl hF24 (QS.len rfl (by assumption) Try.underlying34) rfl ?_ | refine Tr.gq rfl rfl hF24 (QS.lenRow rfl (by repeat (first | exact List.Mem.head _ | apply List.Mem.tail)) Try.underlying34) rfl ?_ | refine Tr.gq rfl rfl hF24 (QS.lenNil rfl Try.underlying34) rfl ?_
              refine Tr.gq rfl rfl hF24 (QS.fieldAddr (off := 1) (ft := 34) rfl Try.underlying50 rfl rfl Try.sizeOf34 (by decide)) rfl ?_
              refine Tr.gq rfl rfl hF24 (QS.lV rfl Try.isAgg34) rfl ?_
              first | refine Tr.gq rfl rfl hF24 (QS.len rfl (by assumption) Try.underlying34) rfl ?_ | refine Tr.gq rfl rfl hF24 (QS.lenRow rfl (by repeat (first | exact List.Mem.head _ | apply List.Mem.tail)) Try.underlying34) rfl ?_ | refine Tr.gq rfl rfl hF24 (QS.lenNil rfl Try.underlying34) rfl ?_
              first | refine Tr.gq rfl rfl hF24 (QS.addI rfl rfl (by omega)) rfl ?_ | refine Tr.gq rfl rfl hF24 (QS.add rfl rfl) rfl ?_
              refine Tr.gq rfl rfl hF24 (QS.fieldAddr (off := 2) (ft := 3) rfl Try.underlying50 rfl rfl Try.sizeOf3 (by decide)) rfl ?_
              refine Tr.gq rfl rfl hF24 (QS.lV rfl Try.isAgg3) rfl ?_
              first | refine Tr.gq rfl rfl hF24 (QS.addI rfl rfl (by omega)) rfl ?_ | refine Tr.gq rfl rfl hF24 (QS.add rfl rfl) rfl ?_
              refine Tr.gq rfl rfl hF24 (QS.fieldAddr (off := 2) (ft := 3) rfl Try.underlying50 rfl rfl Try.sizeOf3 (by decide)) rfl ?_
              refine Tr.gq rfl rfl hF24 (QS.lV rfl Try.isAgg3) rfl ?_
              first | refine Tr.gq rfl rfl hF24 (QS.addI rfl rfl (by omega)) rfl ?_ | refine Tr.gq rfl rfl hF24 (QS.add rfl rfl) rfl ?_
              refine Tr.gq rfl rfl hF24 (QS.neq rfl rfl) rfl ?_
              refine Tr.q (QS.pickF rfl hF24 rfl) rfl ?_
              refine Tr.nil (Tr.thenN ?_)
              exact Tr.endX (Sub.cons rfl (Sub.dropN 14 (by kernel_rfl) rfl))
            · intro hT24
              refine Tr.gskip rfl rfl hT24 rfl ?_
              refine Tr.gskip rfl rfl hT24 rfl ?_
              refine Tr.gskip rfl rfl hT24 rfl ?_
              refine Tr.gskip rfl rfl hT24 rfl ?_
              refine Tr.gskip rfl rfl hT24 rfl ?_
              refine Tr.gskip rfl rfl hT24 rfl ?_
              refine Tr.gskip rfl rfl hT24 rfl ?_
              refine Tr.gskip rfl rfl hT24 rfl ?_
              refine Tr.gskip rfl rfl hT24 rfl ?_
              refine Tr.gskip rfl rfl hT24 rfl ?_
              refine Tr.gskip rfl rfl hT24 rfl ?_
              refine Tr.gskip rfl rfl hT24 rfl ?_
              refine Tr.gskip rfl rfl hT24 rfl ?_
              refine Tr.q (QS.pickT rfl hT24 rfl) rfl ?_
              refine Tr.nil (Tr.thenN ?_)
              exact Tr.endX (Sub.cons rfl (Sub.dropN 14 (by kernel_rfl) rfl))
            refine Tr.q (QS.move rfl) rfl ?_
            apply Tr.orP
            · exact (rfl : _ = (8, 177, 185))
            · exact rfl
            · intro hF25; have hF25' := hF25
              try simp only [bs] at hF25'
              refine Tr.gq rfl rfl hF25 (QS.move rfl) rfl ?_
              refine Tr.gq rfl rfl hF25 (QS.move rfl) rfl ?_
              first | refine Tr.gq rfl rfl hF25 (QS.idxN rfl rfl (by assumption) Try.underlying48 Try.sizeOf27 (by rfl) (by omega)) rfl ?_ | refine Tr.gq rfl rfl hF25 (QS.idxRowN rfl rfl (by repeat (first | exact List.Mem.head _ | apply List.Mem.tail)) Try.underlying48 Try.sizeOf27 (by rfl) (by omega)) rfl ?_ | refine Tr.gq rfl rfl hF25 (QS.idx rfl rfl (by assumption) Try.underlying48 Try.sizeOf27 (by rfl) (by omega)) rfl ?_ | refine Tr.gq rfl rfl hF25 (QS.idxRow rfl rfl (by repeat (first | exact List.Mem.head _ | apply List.Mem.tail)) Try.underlying48 Try.sizeOf27 (by rfl) (by omega)) rfl ?_
              first | refine Tr.gq rfl rfl hF25 (QS.el1 rfl (by assumption) Try.isAgg27 (by omega) (by rfl)) rfl ?_ | refine Tr.gq rfl rfl hF25 (QS.elR1 rfl (by repeat (first | exact List.Mem.head _ | apply List.Mem.tail)) Try.isAgg27 (by omega) (by rfl)) rfl ?_
              refine Tr.gq rfl rfl hF25 (QS.call rfl Try.call13 (fun w hw => state_no (([none, some ⟨b17, 0, none⟩] : List (Option Addr)).getD k default) w (noCpu2 (by omega) ((cellE.cellsIn (hw.ent _ (by repeat (first | exact List.Mem.head _ | apply List.Mem.tail))) (Ext.refl _)).cell (j := 13) rfl)))) rfl ?_
              refine Tr.gq rfl rfl hF25 (QS.build (vs := []) rfl rfl (HLF.built42)) rfl ?_
              refine Tr.gq rfl rfl hF25 (QS.neqM (p := ⟨0, 0, 0, 0, 0, 0, 0, 0, 0, ⟨false, false, false, false⟩⟩) (q := ⟨0, 0, 0, 0, 0, 0, 0, 0, 0, ⟨false, false, false, false⟩⟩) rfl rfl machTy42 eqg42) rfl ?_
              refine Tr.q (QS.pickF rfl hF25 rfl) rfl ?_
              refine Tr.nil (Tr.thenN ?_)
              exact Tr.endX (Sub.cons rfl (Sub.dropN 8 (by kernel_rfl) rfl))
            · intro hT25
              refine Tr.gskip rfl rfl hT25 rfl ?_
              refine Tr.gskip rfl rfl hT25 rfl ?_
              refine Tr.gskip rfl rfl hT25 rfl ?_
              refine Tr.gskip rfl rfl hT25 rfl ?_
              refine Tr.gskip rfl rfl hT25 rfl ?_
              refine Tr.gskip rfl rfl hT25 rfl ?_
              refine Tr.gskip rfl rfl hT25 rfl ?_
              refine Tr.q (QS.pickT rfl hT25 rfl) rfl ?_
              refine Tr.nil (Tr.thenN ?_)
              exact Tr.endX (Sub.cons rfl (Sub.dropN 8 (by kernel_rfl) rfl))
            refine Tr.q (QS.move rfl) rfl ?_
            apply Tr.orP
            · exact (rfl : _ = (7, 186, 193))
            · exact rfl
            · intro hF26; have hF26' := hF26
              try simp only [bs] at hF26'
              refine Tr.gq rfl rfl hF26 (QS.move rfl) rfl ?_
              refine Tr.gq rfl rfl hF26 (QS.move rfl) rfl ?_
              first | refine Tr.gq rfl rfl hF26 (QS.idxN rfl rfl (by assumption) Try.underlying48 Try.sizeOf27 (by rfl) (by omega)) rfl ?_ | refine Tr.gq rfl rfl hF26 (QS.idxRowN rfl rfl (by repeat (first | exact List.Mem.head _ | apply List.Mem.tail)) Try.underlying48 Try.sizeOf27 (by rfl) (by omega)) rfl ?_ | refine Tr.gq rfl rfl hF26 (QS.idx rfl rfl (by assumption) Try.underlying48 Try.sizeOf27 (by rfl) (by omega)) rfl ?_ | refine Tr.gq rfl rfl hF26 (QS.idxRow rfl rfl (by repeat (first | exact List.Mem.head _ | apply List.Mem.tail)) Try.underlying48 Try.sizeOf27 (by rfl) (by omega)) rfl ?_
              first | refine Tr.gq rfl rfl hF26 (QS.el1 rfl (by assumption) Try.isAgg27 (by omega) (by rfl)) rfl ?_ | refine Tr.gq rfl rfl hF26 (QS.elR1 rfl (by repeat (first | exact List.Mem.head _ | apply List.Mem.tail)) Try.isAgg27 (by omega) (by rfl)) rfl ?_
              refine Tr.gq rfl rfl hF26 (QS.call rfl Try.call11 (fun w hw => memory_no (([none, some ⟨b17, 0, none⟩] : List (Option Addr)).getD k default) w (noCpu2 (by omega) ((cellE.cellsIn (hw.ent _ (by repeat (first | exact List.Mem.head _ | apply List.Mem.tail))) (Ext.refl _)).cell (j := 13) rfl)))) rfl ?_
              refine Tr.gq rfl rfl hF26 (QS.neqPN rfl rfl Try.underlying23 rfl) rfl ?_
              refine Tr.q (QS.pickF rfl hF26 rfl) rfl ?_
              refine Tr.nil (Tr.thenN ?_)
              exact Tr.endX (Sub.cons rfl (Sub.dropN 7 (by kernel_rfl) rfl))
            · intro hT26
              refine Tr.gskip rfl rfl hT26 rfl ?_
              refine Tr.gskip rfl rfl hT26 rfl ?_
              refine Tr.gskip rfl rfl hT26 rfl ?_
              refine Tr.gskip rfl rfl hT26 rfl ?_
              refine Tr.gskip rfl rfl hT26 rfl ?_
              refine Tr.gskip rfl rfl hT26 rfl ?_
              refine Tr.q (QS.pickT rfl hT26 rfl) rfl ?_
              refine Tr.nil (Tr.thenN ?_)
              exact Tr.endX (Sub.cons rfl (Sub.dropN 7 (by kernel_rfl) rfl))
            refine Tr.q (QS.move rfl) rfl ?_
            apply Tr.orP
            · exact (rfl : _ = (8, 194, 202))
            · exact rfl
            · intro hF27; have hF27' := hF27
              try simp only [bs] at hF27'
              refine Tr.gq rfl rfl hF27 (QS.move rfl) rfl ?_
              refine Tr.gq rfl rfl hF27 (QS.move rfl) rfl ?_
              first | refine Tr.gq rfl rfl hF27 (QS.idxN rfl rfl (by assumption) Try.underlying48 Try.sizeOf27 (by rfl) (by omega)) rfl ?_ | refine Tr.gq rfl rfl hF27 (QS.idxRowN rfl rfl (by repeat (first | exact List.Mem.head _ | apply List.Mem.tail)) Try.underlying48 Try.sizeOf27 (by rfl) (by omega)) rfl ?_ | refine Tr.gq rfl rfl hF27 (QS.idx rfl rfl (by assumption) Try.underlying48 Try.sizeOf27 (by rfl) (by omega)) rfl ?_ | refine Tr.gq rfl rfl hF27 (QS.idxRow rfl rfl (by repeat (first | exact List.Mem.head _ | apply List.Mem.tail)) Try.underlying48 Try.sizeOf27 (by rfl) (by omega)) rfl ?_
              first | refine Tr.gq rfl rfl hF27 (QS.el1 rfl (by assumption) Try.isAgg27 (by omega) (by rfl)) rfl ?_ | refine Tr.gq rfl rfl hF27 (QS.elR1 rfl (by repeat (first | exact List.Mem.head _ | apply List.Mem.tail)) Try.isAgg27 (by omega) (by rfl)) rfl ?_
              refine Tr.gq rfl rfl hF27 (QS.call rfl Try.call19 (fun w hw => output_no (([none, some ⟨b17, 0, none⟩] : List (Option Addr)).getD k default) w (noCpu2 (by omega) ((cellE.cellsIn (hw.ent _ (by repeat (first | exact List.Mem.head _ | apply List.Mem.tail))) (Ext.refl _)).cell (j := 13) rfl)))) rfl ?_
              first | refine Tr.gq rfl rfl hF27 (QS.len rfl (by assumption) Try.underlying34) rfl ?_ | refine Tr.gq rfl rfl hF27 (QS.lenRow rfl (by repeat (first | exact List.Mem.head _ | apply List.Mem.tail)) Try.underlying34) rfl ?_ | refine Tr.gq rfl rfl hF27 (QS.lenNil rfl Try.underlying34) rfl ?_
              refine Tr.gq rfl rfl hF27 (QS.neq rfl rfl) rfl ?_
              refine Tr.q (QS.pickF rfl hF27 rfl) rfl ?_
              refine Tr.nil (Tr.thenN ?_)
              exact Tr.endX (Sub.cons rfl (Sub.dropN 8 (by kernel_rfl) rfl))
            · intro hT27
              refine Tr.gskip rfl rfl hT27 rfl ?_
              refine Tr.gskip rfl rfl hT27 rfl ?_
              refine Tr.gskip rfl rfl hT27 rfl ?_
              refine Tr.gskip rfl rfl hT27 rfl ?_
              refine Tr.gskip rfl rfl hT27 rfl ?_
              refine Tr.gskip rfl rfl hT27 rfl ?_
              refine Tr.gskip rfl rfl hT27 rfl ?_
              refine Tr.q (QS.pickT rfl hT27 rfl) rfl ?_
              refine Tr.nil (Tr.thenN ?_)
              exact Tr.endX (Sub.cons rfl (Sub.dropN 8 (by kernel_rfl) rfl))
            refine Tr.q (QS.move rfl) rfl ?_
            apply Tr.orP
            · exact (rfl : _ = (6, 203, 209))
            · exact rfl
            · intro hF28; have hF28' := hF28
              try simp only [bs] at hF28'
              refine Tr.gq rfl rfl hF28 (QS.move rfl) rfl ?_
              refine Tr.gq rfl rfl hF28 (QS.move rfl) rfl ?_
              first | refine Tr.gq rfl rfl hF28 (QS.idxN rfl rfl (by assumption) Try.underlying48 Try.sizeOf27 (by rfl) (by omega)) rfl ?_ | refine Tr.gq rfl rfl hF28 (QS.idxRowN rfl rfl (by repeat (first | exact List.Mem.head _ | apply List.Mem.tail)) Try.underlying48 Try.sizeOf27 (by rfl) (by omega)) rfl ?_ | refine Tr.gq rfl rfl hF28 (QS.idx rfl rfl (by assumption) Try.underlying48 Try.sizeOf27 (by rfl) (by omega)) rfl ?_ | refine Tr.gq rfl rfl hF28 (QS.idxRow rfl rfl (by repeat (first | exact List.Mem.head _ | apply List.Mem.tail)) Try.underlying48 Try.sizeOf27 (by rfl) (by omega)) rfl ?_
              first | refine Tr.gq rfl rfl hF28 (QS.el1 rfl (by assumption) Try.isAgg27 (by omega) (by rfl)) rfl ?_ | refine Tr.gq rfl rfl hF28 (QS.elR1 rfl (by repeat (first | exact List.Mem.head _ | apply List.Mem.tail)) Try.isAgg27 (by omega) (by rfl)) rfl ?_
              refine Tr.gq rfl rfl hF28 (QS.call rfl Try.call20 (fun w hw => halted_no (([none, some ⟨b17, 0, none⟩] : List (Option Addr)).getD k default) w (noCpu2 (by omega) ((cellE.cellsIn (hw.ent _ (by repeat (first | exact List.Mem.head _ | apply List.Mem.tail))) (Ext.refl _)).cell (j := 13) rfl)))) rfl ?_
              refine Tr.q (QS.pickF rfl hF28 rfl) rfl ?_
              refine Tr.nil (Tr.thenN ?_)
              exact Tr.endX (Sub.cons rfl (Sub.dropN 6 (by kernel_rfl) rfl))
            · intro hT28
              refine Tr.gskip rfl rfl hT28 rfl ?_
              refine Tr.gskip rfl rfl hT28 rfl ?_
              refine Tr.gskip rfl rfl hT28 rfl ?_
              refine Tr.gskip rfl rfl hT28 rfl ?_
              refine Tr.gskip rfl rfl hT28 rfl ?_
              refine Tr.q (QS.pickT rfl hT28 rfl) rfl ?_
              refine Tr.nil (Tr.thenN ?_)
              exact Tr.endX (Sub.cons rfl (Sub.dropN 6 (by kernel_rfl) rfl))
            refine Tr.nil ?_
            refine Tr.thenN ?_
            refine Tr.cond rfl (fun h29 => ?_) (fun h29 => ?_)
            · try simp only [bs] at h29
              first | contradiction | (exfalso; omega) | simp_all
            · try simp only [bs] at h29
              refine Tr.skip ?_
              refine Tr.inN ?_
              refine Tr.thenN ?_
              refine Tr.region ?_
              refine Tr.q (QS.move rfl) rfl ?_
              first | refine Tr.q (QS.addI rfl rfl (by omega)) rfl ?_ | refine Tr.q (QS.add rfl rfl) rfl ?_
              refine Tr.q (QS.assign rfl) rfl ?_
              refine Tr.nil ?_
              refine Tr.thenN ?_
              apply Tr.again (k + 1)
              · exact rfl
              · exact (.cons (by first | rfl | exact lookI rfl (by omega) | exact lookI rfl (by simp) | exact lookB rfl (by simp)) Front.nil)
              · exact SubX.dropN 44 (by kernel_rfl) rfl
              · exact (by repeat' (first | exact Pick.nil _ | exact Del.here _ | apply Pick.cons | apply Del.there))
              · exact (by show k + 1 ≤ 2; omega)
              · exact (by (try dsimp only); omega)
          · try simp only [bs] at h19
            refine Tr.exit ?_
            refine Tr.thenE ?_
            refine Tr.thenE ?_
            refine Tr.inHit ?_
            refine Tr.thenN ?_
            refine Tr.seq ?_
            refine Tr.region ?_
            refine Tr.q (QS.call0 hdr1 rfl Try.call21 (fun w hw => example10_any w)) rfl ?_
            refine Tr.q (QS.assign rfl) rfl ?_
            refine Tr.nil ?_
            refine Tr.thenN ?_
            refine Tr.ret ?_
            refine Tr.ret1 Try.results3 rfl (fun w' hw => ?_)
            exact ⟨by simp, hw.below0 hF01⟩
end Go.Proofs.Ytpeaodkfbjenpaa
namespace Go.HL
open Go Go.Deep Go.ChangeShapes Go.WideShapes
section
variable {H : Type} {enc : TypeId × Value → H} {P : Program} {w : World} {base : Nat} {spare : Nat → Bool} {held : Bool}
theorem u8_of_wf {n : Int} (h : (Lit.int .u8 n).wf = true) : ∃ x : UInt8, n = (x.toNat : Int) := by
  have := bounds_u8 h
  refine ⟨UInt8.ofNat n.toNat, ?_⟩
  rw [UInt8.toNat_ofNat']; omega
theorem u32_of_wf {n : Int} (h : (Lit.int .u32 n).wf = true) : ∃ x : UInt32, n = (x.toNat : Int) := by
  have := bounds_u32 h
  refine ⟨UInt32.ofNat n.toNat, ?_⟩
  rw [UInt32.toNat_ofNat']; omega
end
end Go.HL
