/- Own rules and walks, part 5. -/
import Derived.Test.YtpeaodkfbjenpaaB4
set_option linter.unusedSimpArgs false
set_option linter.unusedVariables false
set_option linter.unusedSectionVars false
namespace Go.Proofs.Ytpeaodkfbjenpaa
open Go Go.HL Go.RowKit
set_option maxRecDepth 100000 in
set_option maxHeartbeats 16000000 in
theorem stack_true (m0 : UInt32) (m1 m2 : UInt8) (w : World) :
    Calls Try.prog 5 #[.int .u32 m0.toNat, .int .u8 m1.toNat, .int .u8 m2.toNat] w (fun e w' => e = .returned (.bool true) ∧ Below w.heap.size w w') := by
  have hm1 := m1.toNat_lt
  have hm2 := m2.toNat_lt
  have hka : (m1 % 7).toNat < 7 := by rw [UInt8.toNat_mod]; exact Nat.mod_lt _ (by decide)
  have hkb : (m2 % 7).toNat < 7 := by rw [UInt8.toNat_mod]; exact Nat.mod_lt _ (by decide)
  have hIs : ∀ x ∈ (stI (m1 % 7).toNat (m2 % 7).toNat m0), InsOK x := by
    intro x hx
    simp only [stI, List.mem_cons, List.not_mem_nil, or_false] at hx
    rcases hx with hx | hx | hx | hx | hx | hx | hx <;> subst hx <;> refine ⟨?_, ?_, ?_, ?_, ?_, ?_, ?_⟩ <;> (unfold I64; dsimp only; omega)
  refine enter0 Try.func5 rfl Try.ntmps5 rfl ?_
  refine Tr.seq ?_
  refine Tr.region ?_
  refine Tr.q (QS.assign rfl) rfl ?_
  refine Tr.nil ?_
  refine Tr.thenN ?_
  refine Tr.seq ?_
  refine Tr.region ?_
  refine Tr.q (QS.move rfl) rfl ?_
  refine Tr.q (QS.rem8 (n := 7) rfl rfl (by first | decide | assumption)) rfl ?_
  refine Tr.q (QS.cvt8toI rfl Try.underlying5 Try.underlying3) rfl ?_
  refine Tr.q (QS.move rfl) rfl ?_
  refine Tr.q (QS.rem8 (n := 7) rfl rfl (by first | decide | assumption)) rfl ?_
  refine Tr.q (QS.cvt8toI rfl Try.underlying5 Try.underlying3) rfl ?_
  refine Tr.q (QS.assign rfl) rfl ?_
  refine Tr.q (QS.assign rfl) rfl ?_
  refine Tr.nil ?_
  refine Tr.thenN ?_
  refine Tr.seq ?_
  refine Tr.region ?_
  refine Tr.q (QS.move rfl) rfl ?_
  refine Tr.q (QS.move rfl) rfl ?_
  refine Tr.q (QS.build (vs := [(2, _), (6, _), (3, _), (1, _)]) (cs := (encIns.enc (⟨0, m0, 5, 2, 0, 0, ((m1 % 7).toNat : Int), 0, 0⟩ : Ins)).toArray) rfl rfl rfl) rfl ?_
  refine Tr.q (QS.move rfl) rfl ?_
  refine Tr.q (QS.build (vs := [(2, _), (6, _)]) (cs := (encIns.enc (⟨0, 0, 3, 0, 0, 0, ((m1 % 7).toNat : Int), 0, 0⟩ : Ins)).toArray) rfl rfl rfl) rfl ?_
  refine Tr.q (QS.move rfl) rfl ?_
  refine Tr.q (QS.build (vs := [(2, _), (6, _)]) (cs := (encIns.enc (⟨0, 0, 4, 0, 0, 0, ((m2 % 7).toNat : Int), 0, 0⟩ : Ins)).toArray) rfl rfl rfl) rfl ?_
  refine Tr.q (QS.move rfl) rfl ?_
  refine Tr.q (QS.build (vs := [(2, _), (6, _)]) (cs := (encIns.enc (⟨0, 0, 27, 0, 0, 0, ((m2 % 7).toNat : Int), 0, 0⟩ : Ins)).toArray) rfl rfl rfl) rfl ?_
  refine Tr.q (QS.build (vs := [(2, _), (1, _)]) (cs := (encIns.enc (⟨0, 4112, 23, 0, 0, 0, 0, 0, 0⟩ : Ins)).toArray) rfl rfl (by kernel_rfl)) rfl ?_
  refine Tr.q (QS.build (vs := [(2, _)]) (cs := (encIns.enc (⟨0, 0, 1, 0, 0, 0, 0, 0, 0⟩ : Ins)).toArray) rfl rfl (by kernel_rfl)) rfl ?_
  refine Tr.q (QS.build (vs := [(2, _)]) (cs := (encIns.enc (⟨0, 0, 2, 0, 0, 0, 0, 0, 0⟩ : Ins)).toArray) rfl rfl (by kernel_rfl)) rfl ?_
  refine Tr.litN (E := encIns) (stI (m1 % 7).toNat (m2 % 7).toNat m0) (vs := [(0, _), (1, _), (2, _), (3, _), (4, _), (5, _), (6, _)]) rfl rfl Try.underlying68 Try.sizeOf67 Try.zeroValue67 (by rfl) (by rfl) rfl (by first | kernel_rfl | rfl) rfl (fun V1 => ?_)
  refine Tr.callEnts (fun j : Option Addr × Nat × Value => j.2.2) (fun j => [rowE j.2.2 80 encSec [codeS (codeP (stI (m1 % 7).toNat (m2 % 7).toNat m0)) j.1 j.2.1], rowE (.slice j.1 (codeP (stI (m1 % 7).toNat (m2 % 7).toNat m0)).length j.2.1) 5 encU8 (codeP (stI (m1 % 7).toNat (m2 % 7).toNat m0))]) (ok := fun _ => True) rfl Try.call27 (fun w hw => code_any (stI (m1 % 7).toNat (m2 % 7).toNat m0) _ w (hw.row (.head _)) hIs (show (7 : Nat) ≤ 100 by omega)) rfl (fun j _ => ?_)
  obtain ⟨pa1, ca1, VS⟩ := j
  change Tr _ _ ([rowE VS 80 encSec [codeS (codeP (stI (m1 % 7).toNat (m2 % 7).toNat m0)) pa1 ca1], rowE (.slice pa1 (codeP (stI (m1 % 7).toNat (m2 % 7).toNat m0)).length ca1) 5 encU8 (codeP (stI (m1 % 7).toNat (m2 % 7).toNat m0))] ++ _) _ _
  rw [st_code hka hkb]
  refine Tr.frozen (V := VS) (.here _) (fun F1 hF1 hS1 => ?_)
  refine Tr.frozen (V := .slice pa1 ((stBB (m1 % 7).toNat (m2 % 7).toNat m0) : List UInt8).length ca1) (.here _) (fun F2 hF2 hD1 => ?_)
  replace hS1 := hS1.mono hF2.blk
  refine Tr.callMix0 (fun j : Nat × Nat × Nat × Value × Value × WL × List RegV => .pointer (some ⟨j.1, 0, none⟩)) (fun j => [cellE j.1 (cpuC (newS 4096) j.2.1 j.2.2.2.2.1 (.slice none 0 0) .nilFunc) 47, mapE j.2.2.1 u8V j.2.2.2.2.2.1, rowE (.slice none 0 0) 22 encU32 []]) (fun j => (cellE j.2.1 [j.2.2.2.1, .map (some j.2.2.1)] 33 :: rowE j.2.2.2.1 86 encReg j.2.2.2.2.2.2 :: rowE j.2.2.2.2.1 22 encU32 [] :: regEnts 5 j.2.2.2.2.2.2)) (ok := fun j => (mread j.2.2.2.2.2.1 = (newS 4096).w ∧ j.2.2.2.2.2.1.length ≤ 4) ∧ MemOK [codeS (stBB (m1 % 7).toNat (m2 % 7).toNat m0) pa1 ca1] j.2.2.2.2.2.2) ((hF1.trans hF2).dr) rfl Try.call26 (fun w hw => boot_ok [codeS (stBB (m1 % 7).toNat (m2 % 7).toNat m0) pa1 ca1] _ 4096 [] _ w (hw.slF hS1) ⟨by simp, by simp [codeS]; exact (show (17 : Nat) ≤ 200000 by omega)⟩ (by simp [codeS]; decide) (fun s hs => by simp only [List.mem_singleton] at hs; subst hs; exact hw.slF hD1) (Sl.nil _ _) (Nat.zero_le _) (st_chk _ _ _ _ _ _ _)) rfl (fun j F3 hj hF3 hk => ?_)
  obtain ⟨bc1, bM1, bm1, VR1, vi1, wl1, rs1⟩ := j
  have hC1 : CpuAt F3.blk bM1 bm1 VR1 vi1 rs1 [] := cpuAt_of hk
  obtain ⟨⟨hw1, hn1⟩, hO1⟩ := hj
  replace hO1 : MemOK [codeS (stBB (m1 % 7).toNat (m2 % 7).toNat m0) pa1 ca1] rs1 := hO1
  change Tr _ _ ([cellE bc1 (cpuC (newS 4096) bM1 vi1 (.slice none 0 0) .nilFunc) 47, mapE bm1 u8V wl1, rowE (.slice none 0 0) 22 encU32 (newS 4096).out] ++ _) _ _
  have hF13 := hF1.trans (hF2.trans hF3)
  have hdr3 : F3.dr = 0 := hF13.dr
  refine Tr.q (QS.assign rfl) rfl ?_
  refine Tr.nil ?_
  refine Tr.thenN ?_
  refine Tr.seq ?_
  refine Tr.seq ?_
  refine Tr.region ?_
  refine Tr.q (QS.move rfl) rfl ?_
  refine Tr.q (QS.eqlPN rfl rfl Try.underlying27 rfl) rfl ?_
  refine Tr.nil ?_
  refine Tr.thenN ?_
  refine Tr.cond rfl (fun h2 => ?_) (fun h2 => ?_)
  · try simp only [bs] at h2
    first | contradiction | (exfalso; omega) | simp_all
  · try simp only [bs] at h2
    refine Tr.skip ?_
    refine Tr.thenN ?_
    refine Tr.seq ?_
    refine Tr.region ?_
    refine Tr.q (QS.move rfl) rfl ?_
    refine Tr.callO (fun j : WL × Value × Value × Value × Value => .tuple #[j.2.2.2.1, .agg #[.int .i64 (errR (runS [codeS (stBB (m1 % 7).toNat (m2 % 7).toNat m0) pa1 ca1] [] (min (20 : Int) 65536).toNat (newS 4096))), j.2.2.2.2, .int .i64 ((traceS [codeS (stBB (m1 % 7).toNat (m2 % 7).toNat m0) pa1 ca1] [] (min (20 : Int) 65536).toNat (newS 4096)).length : Nat)]]) [cellE bc1 (cpuC (newS 4096) bM1 vi1 (.slice none 0 0) .nilFunc) 47, mapE bm1 u8V wl1, rowE (.slice none 0 0) 22 encU32 (newS 4096).out] (fun j => [cellE bc1 (cpuC (runS [codeS (stBB (m1 % 7).toNat (m2 % 7).toNat m0) pa1 ca1] [] (min (20 : Int) 65536).toNat (newS 4096)) bM1 vi1 j.2.1 j.2.2.1) 47, mapE bm1 u8V j.1, rowE j.2.1 22 encU32 (runS [codeS (stBB (m1 % 7).toNat (m2 % 7).toNat m0) pa1 ca1] [] (min (20 : Int) 65536).toNat (newS 4096)).out, rowE j.2.2.2.1 22 encU32 (traceS [codeS (stBB (m1 % 7).toNat (m2 % 7).toNat m0) pa1 ca1] [] (min (20 : Int) 65536).toNat (newS 4096)), rowE j.2.2.2.2 22 encU32 (runS [codeS (stBB (m1 % 7).toNat (m2 % 7).toNat m0) pa1 ca1] [] (min (20 : Int) 65536).toNat (newS 4096)).out]) (ok := fun j => mread j.1 = (runS [codeS (stBB (m1 % 7).toNat (m2 % 7).toNat m0) pa1 ca1] [] (min (20 : Int) 65536).toNat (newS 4096)).w ∧ j.1.length ≤ wl1.length + 4 * (traceS [codeS (stBB (m1 % 7).toNat (m2 % 7).toNat m0) pa1 ca1] [] (min (20 : Int) 65536).toNat (newS 4096)).length ∧ ∃ a n c, j.2.1 = .slice a n c) (dd := fun _ => 0) rfl Try.call16 (by repeat' (first | exact Split.nil _ | exact Del.here _ | apply Split.cons | apply Del.there)) (fun w hw => Nat.le_of_eq (hdr3)) (fun w hw => trace_cpu (newS 4096) bc1 bM1 bm1 VR1 vi1 (.slice none 0 0) .nilFunc rs1 [codeS (stBB (m1 % 7).toNat (m2 % 7).toNat m0) pa1 ca1] wl1 [] (20 : Int) w (hw.own (by repeat' (first | exact Split.nil _ | exact Del.here _ | apply Split.cons | apply Del.there))) (hC1.mono (hw.lessB (Lo := [cellE bc1 (cpuC (newS 4096) bM1 vi1 (.slice none 0 0) .nilFunc) 47, mapE bm1 u8V wl1, rowE (.slice none 0 0) 22 encU32 (newS 4096).out]) (by repeat' (first | exact Split.nil _ | exact Del.here _ | apply Split.cons | apply Del.there)))) hO1 hw1 ⟨_, _, _, rfl⟩ (by show (0 : Nat) ≤ 4096; omega)) rfl (fun j hj => ?_)
    obtain ⟨wl3, vo3, ef3, vt3, vq3⟩ := j
    obtain ⟨hw3, hn3, hv3⟩ := hj
    change Tr _ _ (cellE bc1 (cpuC (runS [codeS (stBB (m1 % 7).toNat (m2 % 7).toNat m0) pa1 ca1] [] (min (20 : Int) 65536).toNat (newS 4096)) bM1 vi1 vo3 ef3) 47 :: mapE bm1 u8V wl3 :: rowE vo3 22 encU32 (runS [codeS (stBB (m1 % 7).toNat (m2 % 7).toNat m0) pa1 ca1] [] (min (20 : Int) 65536).toNat (newS 4096)).out :: rowE vt3 22 encU32 (traceS [codeS (stBB (m1 % 7).toNat (m2 % 7).toNat m0) pa1 ca1] [] (min (20 : Int) 65536).toNat (newS 4096)) :: rowE vq3 22 encU32 (runS [codeS (stBB (m1 % 7).toNat (m2 % 7).toNat m0) pa1 ca1] [] (min (20 : Int) 65536).toNat (newS 4096)).out :: _) _ _
    obtain ⟨tr3, hr3⟩ : ∃ n, n = (traceS [codeS (stBB (m1 % 7).toNat (m2 % 7).toNat m0) pa1 ca1] [] (min (20 : Int) 65536).toNat (newS 4096)) := ⟨_, rfl⟩
    rw [← hr3] at hn3 ⊢
    obtain ⟨t3, ht3⟩ : ∃ t, t = (runS [codeS (stBB (m1 % 7).toNat (m2 % 7).toNat m0) pa1 ca1] [] (min (20 : Int) 65536).toNat (newS 4096)) := ⟨_, rfl⟩
    rw [← ht3] at hw3 ⊢
    refine Tr.rowShape (V := vq3) (by repeat (first | exact List.Mem.head _ | apply List.Mem.tail)) (fun pq3 cq3 hpv => ?_)
    subst hpv
    obtain ⟨hx1, hx2, hx3, hx4⟩ := st_facts hka hkb ht3 hr3
    subst hx3
    rw [hx1]
    have hxl : t3.out.length = 1 := by rw [hx2]; rfl
    refine Tr.q (QS.move rfl) rfl ?_
    refine Tr.q (QS.extract rfl rfl) rfl ?_
    refine Tr.q (QS.extract rfl rfl) rfl ?_
    refine Tr.alloc Try.zeroValue50 rfl rfl (fun b3 => ?_)
    refine Tr.q (QS.assign rfl) rfl ?_
    refine Tr.storeW rfl rfl Try.sizeOf50 (by repeat (first | exact Put.here _ | apply Put.there)) (by rfl) (by rfl) (by first | exact List.all_eq_true.1 rfl | exact Enc.one _ _ | (intro u hu; simp [Value.cells] at hu; simp_all [Value.oneCell'])) rfl ?_
    refine Tr.nil ?_
    refine Tr.thenN ?_
    refine Tr.seq ?_
    refine Tr.region ?_
    refine Tr.q (QS.fieldAddr (off := 0) (ft := 24) rfl Try.underlying50 rfl rfl Try.sizeOf24 (by decide)) rfl ?_
    refine Tr.q (QS.lV rfl Try.isAgg24) rfl ?_
    refine Tr.q (QS.eql rfl rfl) rfl ?_
    refine Tr.q (QS.move rfl) rfl ?_
    apply Tr.andP
    · exact (rfl : _ = (5, 43, 48))
    · exact rfl
    · intro hT4; have hT4' := hT4
      try simp only [bs] at hT4'
      refine Tr.gq rfl rfl hT4 (QS.fieldAddr (off := 1) (ft := 34) rfl Try.underlying50 rfl rfl Try.sizeOf34 (by decide)) rfl ?_
      refine Tr.gq rfl rfl hT4 (QS.lV rfl Try.isAgg34) rfl ?_
      refine Tr.gq rfl rfl hT4 (QS.lenRow rfl (by repeat (first | exact List.Mem.head _ | apply List.Mem.tail)) Try.underlying34) rfl ?_
      refine Tr.gq rfl rfl hT4 (QS.eql rfl rfl) rfl ?_
      refine Tr.q (QS.pickT rfl hT4 rfl) rfl ?_
      refine Tr.nil (Tr.thenN ?_)
      exact Tr.endX (Sub.cons rfl (Sub.dropN 5 (by kernel_rfl) rfl))
    · intro hF4
      refine Tr.gskip rfl rfl hF4 rfl ?_
      refine Tr.gskip rfl rfl hF4 rfl ?_
      refine Tr.gskip rfl rfl hF4 rfl ?_
      refine Tr.gskip rfl rfl hF4 rfl ?_
      refine Tr.q (QS.pickF rfl hF4 rfl) rfl ?_
      refine Tr.nil (Tr.thenN ?_)
      exact Tr.endX (Sub.cons rfl (Sub.dropN 5 (by kernel_rfl) rfl))
    refine Tr.q (QS.move rfl) rfl ?_
    apply Tr.andP
    · exact (rfl : _ = (7, 49, 56))
    · exact rfl
    · intro hT5; have hT5' := hT5
      try simp only [bs] at hT5'
      refine Tr.gq rfl rfl hT5 (QS.fieldAddr (off := 1) (ft := 34) rfl Try.underlying50 rfl rfl Try.sizeOf34 (by decide)) rfl ?_
      refine Tr.gq rfl rfl hT5 (QS.lV rfl Try.isAgg34) rfl ?_
      refine Tr.gq rfl rfl hT5 (QS.idxRow rfl rfl (by repeat (first | exact List.Mem.head _ | apply List.Mem.tail)) Try.underlying34 Try.sizeOf22 (by rfl) (by omega)) rfl ?_
      refine Tr.gq rfl rfl hT5 (QS.elR1 rfl (by repeat (first | exact List.Mem.head _ | apply List.Mem.tail)) Try.isAgg22 (by omega) (by rfl)) rfl ?_
      refine Tr.gq rfl rfl hT5 (QS.move rfl) rfl ?_
      refine Tr.gq rfl rfl hT5 (QS.eql32 rfl rfl) rfl ?_
      refine Tr.q (QS.pickT rfl hT5 rfl) rfl ?_
      refine Tr.nil (Tr.thenN ?_)
      exact Tr.endX (Sub.cons rfl (Sub.dropN 7 (by kernel_rfl) rfl))
    · intro hF5
      refine Tr.gskip rfl rfl hF5 rfl ?_
      refine Tr.gskip rfl rfl hF5 rfl ?_
      refine Tr.gskip rfl rfl hF5 rfl ?_
      refine Tr.gskip rfl rfl hF5 rfl ?_
      refine Tr.gskip rfl rfl hF5 rfl ?_
      refine Tr.gskip rfl rfl hF5 rfl ?_
      refine Tr.q (QS.pickF rfl hF5 rfl) rfl ?_
      refine Tr.nil (Tr.thenN ?_)
      exact Tr.endX (Sub.cons rfl (Sub.dropN 7 (by kernel_rfl) rfl))
    refine Tr.q (QS.move rfl) rfl ?_
    apply Tr.andP
    · exact (rfl : _ = (4, 57, 61))
    · exact rfl
    · intro hT6; have hT6' := hT6
      try simp only [bs] at hT6'
      refine Tr.gq rfl rfl hT6 (QS.move rfl) rfl ?_
      refine Tr.gdo rfl rfl hT6 ?_
      refine Tr.litN (E := encU32) [4096, 4102, 4103, 4104, 4106, 4112, 4111] (vs := [(0, _), (1, _), (2, _), (3, _), (4, _), (5, _), (6, _)]) rfl rfl Try.underlying34 Try.sizeOf22 Try.zeroValue22 (by rfl) (by rfl) rfl (by first | kernel_rfl | rfl) rfl (fun V7 => ?_)
      refine Tr.gq rfl rfl hT6 (QS.call rfl Try.call28 (fun w hw => words_any [4096, 4102, 4103, 4104, 4106, 4112, 4111] [4096, 4102, 4103, 4104, 4106, 4112, 4111] _ _ w (hw.row (by repeat (first | exact List.Mem.head _ | apply List.Mem.tail))) (hw.row (by repeat (first | exact List.Mem.head _ | apply List.Mem.tail))))) rfl ?_
      refine Tr.q (QS.pickT rfl hT6 rfl) rfl ?_
      refine Tr.nil (Tr.thenN ?_)
      exact Tr.endX (Sub.cons rfl (Sub.dropN 4 (by kernel_rfl) rfl))
    · intro hF6
      refine Tr.gskip rfl rfl hF6 rfl ?_
      refine Tr.gskip rfl rfl hF6 rfl ?_
      refine Tr.gskip rfl rfl hF6 rfl ?_
      refine Tr.q (QS.pickF rfl hF6 rfl) rfl ?_
      refine Tr.nil (Tr.thenN ?_)
      exact Tr.endX (Sub.cons rfl (Sub.dropN 4 (by kernel_rfl) rfl))
    refine Tr.q (QS.move rfl) rfl ?_
    apply Tr.andP
    · exact (rfl : _ = (6, 62, 68))
    · exact rfl
    · intro hT8; have hT8' := hT8
      try simp only [bs] at hT8'
      refine Tr.gq rfl rfl hT8 (QS.move rfl) rfl ?_
      refine Tr.gq rfl rfl hT8 (QS.call rfl Try.call13 (fun w hw => state_cpu t3 bc1 bM1 vi1 vo3 ef3 w (cellE.cellsIn (hw.ent _ (by repeat (first | exact List.Mem.head _ | apply List.Mem.tail))) (Ext.refl _)))) rfl ?_
      refine Tr.gq rfl rfl hT8 (QS.fieldAgg (cs := encMach.enc t3.m) (off := 0) (ft := 38) (k := 8) rfl Try.underlying42 rfl rfl Try.isAgg38 Try.sizeOf38 rfl) rfl ?_
      refine Tr.gq rfl rfl hT8 (QS.indexW (i := 7) rfl rfl Try.underlying38 Try.sizeOf22 Try.isAgg22 (by omega) rfl) rfl ?_
      refine Tr.gq rfl rfl hT8 (QS.eql32 (n := 983036) rfl rfl) rfl ?_
      refine Tr.q (QS.pickT rfl hT8 rfl) rfl ?_
      refine Tr.nil (Tr.thenN ?_)
      exact Tr.endX (Sub.cons rfl (Sub.dropN 6 (by kernel_rfl) rfl))
    · intro hF8
      refine Tr.gskip rfl rfl hF8 rfl ?_
      refine Tr.gskip rfl rfl hF8 rfl ?_
      refine Tr.gskip rfl rfl hF8 rfl ?_
      refine Tr.gskip rfl rfl hF8 rfl ?_
      refine Tr.gskip rfl rfl hF8 rfl ?_
      refine Tr.q (QS.pickF rfl hF8 rfl) rfl ?_
      refine Tr.nil (Tr.thenN ?_)
      exact Tr.endX (Sub.cons rfl (Sub.dropN 6 (by kernel_rfl) rfl))
    refine Tr.q (QS.move rfl) rfl ?_
    apply Tr.andP
    · exact (rfl : _ = (2, 69, 71))
    · exact rfl
    · intro hT9; have hT9' := hT9
      try simp only [bs] at hT9'
      refine Tr.gq rfl rfl hT9 (QS.call0 hdr3 rfl Try.call21 (fun w hw => example10_any w)) rfl ?_
      refine Tr.q (QS.pickT rfl hT9 rfl) rfl ?_
      refine Tr.nil (Tr.thenN ?_)
      exact Tr.endX (Sub.cons rfl (Sub.dropN 2 (by kernel_rfl) rfl))
    · intro hF9
      refine Tr.gskip rfl rfl hF9 rfl ?_
      refine Tr.q (QS.pickF rfl hF9 rfl) rfl ?_
      refine Tr.nil (Tr.thenN ?_)
      exact Tr.endX (Sub.cons rfl (Sub.dropN 2 (by kernel_rfl) rfl))
    refine Tr.q (QS.assign rfl) rfl ?_
    refine Tr.nil ?_
    refine Tr.thenN ?_
    refine Tr.ret ?_
    refine Tr.ret1 Try.results5 rfl (fun w' hw => ?_)
    exact ⟨by simp [hx2, hx4], hw.below0 hF13⟩
end Go.Proofs.Ytpeaodkfbjenpaa
namespace Go.HL
open Go Go.Deep Go.ChangeShapes Go.WideShapes
section
variable {H : Type} {enc : TypeId × Value → H} {P : Program} {w : World} {base : Nat} {spare : Nat → Bool} {held : Bool}
theorem u8_of_wf {n : Int} (h : (Lit.int .u8 n).wf = true) : ∃ x : UInt8, n = (x.toNat : Int) := by
  have := bounds_u8 h
  refine ⟨UInt8.ofNat n.toNat, ?_⟩
  rw [UInt8.toNat_ofNat']; omega
theorem u32_of_wf {n : Int} (h : (Lit.int .u32 n).wf = true) : ∃ x : UInt32, n = (x.toNat : Int) := by
  have := bounds_u32 h
  refine ⟨UInt32.ofNat n.toNat, ?_⟩
  rw [UInt32.toNat_ofNat']; omega
end
end Go.HL
